/- Whether a mark can be a key: what Go's own check of a map's key comes to. -/
import Derived.Test.YtihjmipmjogpoaaB5
namespace Go.Proofs.Ytihjmipmjogpoaa
open Go.RowKit

/-- No row in it. -/
def V.keys : V → Bool
  | .mk k _ _ l _ => if k = 3 then decide (l.length = 2) && (l.map V.keys).all id else true
termination_by v => v

theorem V.keys_mk (k n : Int) (s : ByteArray) (l : List V) (r : Int) : (V.mk k n s l r).keys = if k = 3 then decide (l.length = 2) && l.all V.keys else true := by
  rw [V.keys, List.all_map]; rfl

/-- What a check of a key comes to: it passes, or panics of Go's own. -/
def KeyRes (res : Result Unit) (b : Bool) (w : World) : Prop :=
  (b = true ∧ res = .ok () w) ∨ (b = false ∧ ∃ ty pv, (ty = 10 ∨ ty = 19) ∧ res = .halt (.panic (.iface ty pv)) w)

theorem runtimePanic_errorU (m : String) (w : World) : (runtimePanic (α := Unit) (.error m)).run Try.prog w = .halt (.panic (.iface 10 (strVal m))) w := by
  have h : Try.prog.rt.errorString = 10 := by kernel_rfl
  simp [runtimePanic, run_program, goPanic, h]

theorem runtimePanic_unhash (t : TypeId) (w : World) : (runtimePanic (α := Unit) (.unhashable t)).run Try.prog w = .halt (.panic (.iface 19 (.agg #[typeHandle Try.prog t]))) w := by
  have h : Try.prog.rt.unhashableTypeError = 19 := by kernel_rfl
  simp [runtimePanic, run_program, goPanic, h]

theorem key_ok {d : Nat} {a : TypeId} {x : Value} {e : Bool} {w : World} (h : (Try.prog.info? a).map (·.comparable) = some true) :
    (Instr.checkKey e (d + 1) 45 (.iface a x)).run Try.prog w = (Instr.checkKey e d a x).run Try.prog w := by
  obtain ⟨ms, h45⟩ := ms45
  obtain ⟨i, hi, hc⟩ := ty_comparable a true h
  simp [Instr.checkKey, run_underlying h45, typeInfo, hi, hc]

theorem key_row {d : Nat} {x : Value} {e : Bool} {w : World} : ∃ ty pv, (ty = 10 ∨ ty = 19) ∧ (Instr.checkKey e (d + 1) 45 (.iface 183 x)).run Try.prog w = .halt (.panic (.iface ty pv)) w := by
  obtain ⟨ms, h45⟩ := ms45
  obtain ⟨i, hi, hc⟩ := ty_comparable 183 false cmp183
  cases e
  · refine ⟨10, strVal ("hash of unhashable type " ++ "brand.row"), .inl rfl, ?_⟩
    simp [Instr.checkKey, run_underlying h45, typeInfo, hi, hc, typeStr_row, runtimePanic_errorU]
  · refine ⟨19, .agg #[typeHandle Try.prog 183], .inr rfl, ?_⟩
    simp [Instr.checkKey, run_underlying h45, typeInfo, hi, hc, runtimePanic_unhash]

theorem key_pair {d : Nat} {x y : Value} {e : Bool} {w : World} {b1 b2 : Bool} (hx : ∃ t v, x = .iface t v) (hy : ∃ t v, y = .iface t v)
    (h1 : KeyRes ((Instr.checkKey e d 45 x).run Try.prog w) b1 w) (h2 : KeyRes ((Instr.checkKey e d 45 y).run Try.prog w) b2 w) :
    KeyRes ((Instr.checkKey e (d + 1) 180 (.agg #[x, y])).run Try.prog w) (b1 && b2) w := by
  obtain ⟨t1, v1, rfl⟩ := hx
  obtain ⟨t2, v2, rfl⟩ := hy
  have e : (Instr.checkKey e (d + 1) 180 (.agg #[.iface t1 v1, .iface t2 v2])).run Try.prog w =
      ((Instr.checkKey e d 45 (.iface t1 v1)).run Try.prog w).andThen fun _ w' => (Instr.checkKey e d 45 (.iface t2 v2)).run Try.prog w' := by
    simp [Instr.checkKey, run_underlying Try.underlying180, go_sem]
  rw [e]
  rcases h1 with ⟨rfl, h1⟩ | ⟨rfl, ty, pv, ht, h1⟩
  · rw [h1]
    simp only [Result.andThen_ok, Bool.true_and]
    exact h2
  · rw [h1]
    exact .inr ⟨by simp, ty, pv, ht, rfl⟩

theorem key_int {d : Nat} {n : Int} {e : Bool} {w : World} : (Instr.checkKey e (d + 1) 176 (.int .i64 n)).run Try.prog w = .ok () w := by
  simp [Instr.checkKey, run_underlying Try.underlying176]
theorem key_text {d : Nat} {s : ByteArray} {e : Bool} {w : World} : (Instr.checkKey e (d + 1) 177 (.string s)).run Try.prog w = .ok () w := by
  simp [Instr.checkKey, run_underlying Try.underlying177]
theorem key_ref {d : Nat} {n : Int} {e : Bool} {w : World} : (Instr.checkKey e (d + 1) 178 (.int .i64 n)).run Try.prog w = .ok () w := by
  simp [Instr.checkKey, run_underlying Try.underlying178]
theorem key_none {d : Nat} {e : Bool} {w : World} : (Instr.checkKey e (d + 1) 185 (.agg #[])).run Try.prog w = .ok () w := by
  simp [Instr.checkKey, run_underlying Try.underlying185]

theorem run_key (u : V) : ∀ (d : Nat) (m : Value) (e : Bool) (w : World), 2 * u.dep + 2 ≤ d → IsMk u m → KeyRes ((Instr.checkKey e d 45 m).run Try.prog w) u.keys w := by
  induction u using V.ind with
  | h k n s l r ih =>
    intro d m e w hd h1
    rw [IsMk_mk] at h1
    rw [V.keys_mk]
    obtain ⟨d, rfl⟩ : ∃ e, d = e + 2 := ⟨d - 2, by omega⟩
    by_cases h3 : k = 3
    · subst h3
      rw [if_pos rfl]
      have e1 : listMk (l.map IsMk) m := by simpa [mkOf] using h1
      by_cases hl : l.length = 2
      · obtain ⟨a, b, rfl⟩ := at2 hl
        obtain ⟨x, y, rfl, hx, hy⟩ := e1
        rw [key_ok cmp180]
        have hda : a.dep ≤ top [a.dep, b.dep] := le_top (by simp)
        have hdb : b.dep ≤ top [a.dep, b.dep] := le_top (by simp)
        rw [V.dep_mk, if_pos rfl] at hd
        simp only [List.map_cons, List.map_nil] at hd
        have g := key_pair hx.iface hy.iface (ih a (by simp) d x e w (by omega) hx) (ih b (by simp) d y e w (by omega) hy)
        simpa using g
      · rw [listMk_row (by simpa using hl)] at e1
        obtain ⟨A1, n1, c1, rfl⟩ := e1
        obtain ⟨ty, pv, ht, hr⟩ := key_row (d := d + 1) (x := .agg #[.slice A1 n1 c1]) (e := e) (w := w)
        exact .inr ⟨by simp [hl], ty, pv, ht, hr⟩
    · rw [if_neg h3]
      refine .inl ⟨rfl, ?_⟩
      unfold mkOf at h1
      by_cases k1 : k = 1
      · rw [if_pos k1] at h1; subst h1; rw [key_ok cmp176]; exact key_int
      rw [if_neg k1] at h1
      by_cases k2 : k = 2
      · rw [if_pos k2] at h1; subst h1; rw [key_ok cmp177]; exact key_text
      rw [if_neg k2] at h1
      by_cases k4 : k = 4
      · rw [if_pos k4] at h1; subst h1; rw [key_ok cmp178]; exact key_ref
      rw [if_neg k4, if_neg h3] at h1
      subst h1; rw [key_ok cmp185]; exact key_none

end Go.Proofs.Ytihjmipmjogpoaa

/- Compare's closure, met, Compare: == of two marks, its panic met. -/
import Derived.Test.YtihjmipmjogpoaaM
import Derived.Recover
namespace Go.Proofs.Ytihjmipmjogpoaa
open Go.RowKit

theorem eql_marks {u v : V} {m1 m2 : Value} (h1 : IsMk u m1) (h2 : IsMk v m2) (hd : u.dep ≤ 16) (w : World) :
    (u.cmp v = 0 ∧ (binOp .eql 45 m1 m2).run Try.prog w = .ok (.bool false) w) ∨ (u.cmp v = 1 ∧ (binOp .eql 45 m1 m2).run Try.prog w = .ok (.bool true) w) ∨
    (u.cmp v = 2 ∧ ∃ s, (binOp .eql 45 m1 m2).run Try.prog w = .halt (.panic (.iface 10 (.string s))) w) := by
  obtain ⟨t1, v1, rfl⟩ := h1.iface
  obtain ⟨t2, v2, rfl⟩ := h2.iface
  have h := run_eq u v 10000 _ _ w (by omega) h1 h2
  have e : (binOp .eql 45 (.iface t1 v1) (.iface t2 v2)).run Try.prog w = ((Op.equalIn 10000 45 (.iface t1 v1) (.iface t2 v2)).run Try.prog w).andThen fun b w' => .ok (.bool b) w' := by
    simp only [binOp]
    simp [Op.equal, Op.maxDepth]
  rw [e]
  rcases h with ⟨h0, h⟩ | ⟨h0, h⟩ | ⟨h0, s, h⟩
  · exact .inl ⟨h0, by rw [h]; rfl⟩
  · exact .inr (.inl ⟨h0, by rw [h]; rfl⟩)
  · exact .inr (.inr ⟨h0, s, by rw [h]; rfl⟩)

set_option maxRecDepth 10000 in
theorem cmp1_ret (a b c : Nat) (t1 t2 : TypeId) (v1 v2 : Value) (r : Bool) (w : World) (ha : w.cell? ⟨a, 0, none⟩ = some (.iface t1 v1)) (hb : w.cell? ⟨b, 0, none⟩ = some (.iface t2 v2))
    (hc : w.cell? ⟨c, 0, none⟩ = some (.int .u8 0)) (hf : w.frozen? ⟨c, 0, none⟩ = false) (he : (binOp .eql 45 (.iface t1 v1) (.iface t2 v2)).run Try.prog w = .ok (.bool r) w) :
    Calls Try.prog 84 #[.pointer (some ⟨a, 0, none⟩), .pointer (some ⟨b, 0, none⟩), .pointer (some ⟨c, 0, none⟩)] w fun e w' => e = .returned (.tuple #[]) ∧ w' = if r = true then w.setCell ⟨c, 0, none⟩ (.int .u8 1) else w := by
  cases r
  · go_enter Try.func84, Try.ntmps84
    go_wp2
    go_end0
    exact ⟨rfl, rfl⟩
  · go_enter Try.func84, Try.ntmps84
    go_wp2
    go_end0
    exact ⟨rfl, rfl⟩

set_option maxRecDepth 10000 in
theorem cmp1_panic (a b c : Nat) (t1 t2 : TypeId) (v1 v2 : Value) (s : ByteArray) (w : World) (ha : w.cell? ⟨a, 0, none⟩ = some (.iface t1 v1)) (hb : w.cell? ⟨b, 0, none⟩ = some (.iface t2 v2))
    (he : (binOp .eql 45 (.iface t1 v1) (.iface t2 v2)).run Try.prog w = .halt (.panic (.iface 10 (.string s))) w) :
    Calls Try.prog 84 #[.pointer (some ⟨a, 0, none⟩), .pointer (some ⟨b, 0, none⟩), .pointer (some ⟨c, 0, none⟩)] w fun e w' => e = .panicked [{ v := .iface 10 (.string s), recovered := false }] ∧ w' = w := by
  go_enter Try.func84, Try.ntmps84
  go_wp2
  exact ⟨rfl, rfl, rfl⟩

theorem assert10 (x : Value) (w : World) : (Instr.typeAssert (.iface 10 x) 20 173 true).run Try.prog w = .ok (.tuple #[.iface 10 x, .bool true]) w := by
  kernel_rfl

theorem assert19 (x : Value) (w : World) : (Instr.typeAssert (.iface 19 x) 20 173 true).run Try.prog w = .ok (.tuple #[.iface 19 x, .bool true]) w := by
  kernel_rfl

/-- A panic of Go's own. -/
def RunErr (ty : TypeId) : Prop := ∀ x w, (Instr.typeAssert (.iface ty x) 20 173 true).run Try.prog w = .ok (.tuple #[.iface ty x, .bool true]) w

theorem catch_panicking (p : Nat) (x : Bool) (ty : TypeId) (pv : Value) (hre : RunErr ty) (older : List PanicEntry) (w : World) (hc : w.cell? ⟨p, 0, none⟩ = some (.bool x)) (hz : w.frozen? ⟨p, 0, none⟩ = false) :
    CallsD Try.prog 133 #[.pointer (some ⟨p, 0, none⟩)] (.panicking ({ v := .iface ty pv, recovered := false } :: older)) w fun e u' w' =>
      e = .returned (.tuple #[]) ∧ u' = .panicking ({ v := .iface ty pv, recovered := true } :: older) ∧ w' = w.setCell ⟨p, 0, none⟩ (.bool true) := by
  refine callsD_of_wpS Try.func133 rfl fun c₀ cs hu => ?_
  apply wpS_seq
  apply wpS_region
  simp [wpOpsS, go_sem, recoverD, hu, Try.ntmps133, Exit.thenS]
  have ha := hre pv
  simp only [Array.replicate_succ, Array.replicate_zero, List.push_toArray, List.append_toArray, List.nil_append, List.cons_append, List.setIfInBounds_toArray, List.set_cons_zero, List.set_cons_succ]
  refine wpS_of_wp ?_
  go_wp2
  simp [bodyPostS, results, Try.results133]

theorem catch_idle (p : Nat) (w : World) :
    CallsD Try.prog 133 #[.pointer (some ⟨p, 0, none⟩)] .returning w fun e u' w' => e = .returned (.tuple #[]) ∧ u' = .returning ∧ w' = w := by
  refine callsD_of_wpS Try.func133 rfl fun c₀ cs hu => ?_
  apply wpS_seq
  apply wpS_region
  simp [wpOpsS, go_sem, recoverD, hu, Try.ntmps133, Exit.thenS]
  simp only [Array.replicate_succ, Array.replicate_zero, List.push_toArray, List.append_toArray, List.nil_append, List.cons_append, List.setIfInBounds_toArray, List.set_cons_zero, List.set_cons_succ]
  refine wpS_of_wp ?_
  go_wp2
  cases c₀
  simp_all [bodyPostS, results, Try.results133]

theorem met_ret (lb : Array Value) (w W1 : World) (h : Calls Try.prog 84 lb (w.alloc (.cells #[.bool false] 4)) fun e w' => e = .returned (.tuple #[]) ∧ w' = W1) (hB : Blk W1 w.heap.size 4 #[.bool false]) :
    Calls Try.prog 83 #[.func (.func 84) #[] lb] w fun e w' => e = .returned (.bool false) ∧ w' = W1.setCell ⟨w.heap.size, 0, none⟩ (.bool false) := by
  have hmf : ∀ (fn : Fn) (first cap : Array Value) (w : World), (Instr.makeFunc fn first cap).run Try.prog w = .ok (.func fn first cap) w := fun _ _ _ _ => rfl
  have H := hide h
  have c0 := hB.cell 0
  have f0 := hB.frozen 0
  simp only [List.getElem?_toArray, List.getElem?_cons_zero] at c0
  clear h
  go_enter_defers Try.func83, Try.ntmps83
  go_wp2_with fail
  refine H.out.mono ?_
  rintro e w' ⟨rfl, rfl⟩
  go_wp2
  refine leaves_cons (f := 133) (args := #[.pointer (some ⟨w.heap.size, 0, none⟩)]) (by simp) (by simp [go_sem]) ?_
  refine (catch_idle w.heap.size _).mono ?_
  rintro e u' w'' ⟨rfl, rfl, rfl⟩
  have c1 := (hB.set_ 0 (.bool false)).cell 0
  simp at c1
  simp [Leaves, settle, results, Try.results83, go_sem, c1]

theorem met_panic (lb : Array Value) (w W1 : World) (ty : TypeId) (pv : Value) (hre : RunErr ty) (h : Calls Try.prog 84 lb (w.alloc (.cells #[.bool false] 4)) fun e w' => e = .panicked [{ v := .iface ty pv, recovered := false }] ∧ w' = W1)
    (hB : Blk W1 w.heap.size 4 #[.bool false]) :
    Calls Try.prog 83 #[.func (.func 84) #[] lb] w fun e w' => e = .returned (.bool true) ∧ w' = W1.setCell ⟨w.heap.size, 0, none⟩ (.bool true) := by
  have hmf : ∀ (fn : Fn) (first cap : Array Value) (w : World), (Instr.makeFunc fn first cap).run Try.prog w = .ok (.func fn first cap) w := fun _ _ _ _ => rfl
  have H := hide h
  have c0 := hB.cell 0
  have f0 := hB.frozen 0
  simp only [List.getElem?_toArray, List.getElem?_cons_zero] at c0
  clear h
  go_enter_defers Try.func83, Try.ntmps83
  go_wp2_with fail
  refine H.out.mono ?_
  rintro e w' ⟨rfl, rfl⟩
  go_wp2
  refine leaves_cons (f := 133) (args := #[.pointer (some ⟨w.heap.size, 0, none⟩)]) (by simp) (by simp [go_sem]) ?_
  refine (catch_panicking w.heap.size false ty pv hre [] _ c0 f0).mono ?_
  rintro e u' w'' ⟨rfl, rfl, rfl⟩
  have c1 := (hB.set_ 0 (.bool true)).cell 0
  simp at c1
  simp [Leaves, settle, results, Try.results83, go_sem, c1]

theorem key_ret (lb : Array Value) (w : World) (h : Calls Try.prog 135 lb (w.alloc (.cells #[.bool false] 4)) fun e w' => e = .returned (.tuple #[]) ∧ Fr No (w.alloc (.cells #[.bool false] 4)) w') :
    Calls Try.prog 83 #[.func (.func 135) #[] lb] w fun e w' => e = .returned (.bool false) ∧ Fr No w w' := by
  have hmf : ∀ (fn : Fn) (first cap : Array Value) (w : World), (Instr.makeFunc fn first cap).run Try.prog w = .ok (.func fn first cap) w := fun _ _ _ _ => rfl
  have H := hide h
  clear h
  go_enter_defers Try.func83, Try.ntmps83
  go_wp2_with fail
  refine H.out.mono ?_
  rintro e W1 ⟨rfl, fr⟩
  have hB := (Blk.new w 4 #[.bool false]).fr fr (fun h => h)
  have c0 := hB.cell 0
  have f0 := hB.frozen 0
  simp only [List.getElem?_toArray, List.getElem?_cons_zero] at c0
  have HF := hide (((Fr.refl No w).alloc (.cells #[.bool false] 4)).trans fr)
  clear fr
  go_wp2
  refine leaves_cons (f := 133) (args := #[.pointer (some ⟨w.heap.size, 0, none⟩)]) (by simp) (by simp [go_sem]) ?_
  refine (catch_idle w.heap.size _).mono ?_
  rintro e u' w'' ⟨rfl, rfl, rfl⟩
  have c1 := (hB.set_ 0 (.bool false)).cell 0
  simp at c1
  have hF := HF.out.setNew (p := ⟨w.heap.size, 0, none⟩) (by simp) (.bool false)
  simp [Leaves, settle, results, Try.results83, go_sem, c1]
  exact hF

theorem key_panic (lb : Array Value) (w : World) (h : Calls Try.prog 135 lb (w.alloc (.cells #[.bool false] 4)) fun e w' => ∃ ty pv, RunErr ty ∧ e = .panicked [{ v := .iface ty pv, recovered := false }] ∧ Fr No (w.alloc (.cells #[.bool false] 4)) w') :
    Calls Try.prog 83 #[.func (.func 135) #[] lb] w fun e w' => e = .returned (.bool true) ∧ Fr No w w' := by
  have hmf : ∀ (fn : Fn) (first cap : Array Value) (w : World), (Instr.makeFunc fn first cap).run Try.prog w = .ok (.func fn first cap) w := fun _ _ _ _ => rfl
  have H := hide h
  clear h
  go_enter_defers Try.func83, Try.ntmps83
  go_wp2_with fail
  refine H.out.mono ?_
  rintro e W1 ⟨ty, pv, hre, rfl, fr⟩
  have hB := (Blk.new w 4 #[.bool false]).fr fr (fun h => h)
  have c0 := hB.cell 0
  have f0 := hB.frozen 0
  simp only [List.getElem?_toArray, List.getElem?_cons_zero] at c0
  have HF := hide (((Fr.refl No w).alloc (.cells #[.bool false] 4)).trans fr)
  have HR := hide hre
  clear fr hre
  go_wp2
  refine leaves_cons (f := 133) (args := #[.pointer (some ⟨w.heap.size, 0, none⟩)]) (by simp) (by simp [go_sem]) ?_
  refine (catch_panicking w.heap.size false ty pv HR.out [] _ c0 f0).mono ?_
  rintro e u' w'' ⟨rfl, rfl, rfl⟩
  have c1 := (hB.set_ 0 (.bool true)).cell 0
  simp at c1
  have hF := HF.out.setNew (p := ⟨w.heap.size, 0, none⟩) (by simp) (.bool true)
  simp [Leaves, settle, results, Try.results83, go_sem, c1]
  exact hF

end Go.Proofs.Ytihjmipmjogpoaa

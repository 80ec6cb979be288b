/- Texts joined: Nw, Nv, Wn12, Wn13, Wo30, Wo31, Wq. -/
import Derived.Test.YtlejelbefmkakaaGreatJn15
import Derived.WalkMore
import Derived.RangeFuncNested
import Derived.RangeFuncLeaves
import Derived.RangeFuncOwn
import Derived.CallsIn
import Derived.LoopN
import Derived.Deep.Cut
/- Worlds that are not there: what layer 9 answers of them. -/
namespace Go.Proofs.YtlejelbefmkakaaGreat
open Go.RowKit

/-- No world: none, or one that no call made. -/
def NoW (w : World) (p : Option Addr) : Prop := p = none ∨ ∃ b, p = some ⟨b, 0, none⟩ ∧ Blk w b 38 #[.slice none 0 0, .slice none 0 0, .map none, .map none, .int .i64 0, .slice none 0 0]

theorem NoW.no {w w' : World} {p : Option Addr} (h : NoW w p) (f : Fr No w w') : NoW w' p :=
  h.imp id fun ⟨b, e, hb⟩ => ⟨b, e, hb.fr f fun h => h⟩

set_option maxRecDepth 100000 in
theorem none_no {w : World} {p : Option Addr} (h : NoW w p) : Calls Tryz.prog 127 #[.pointer p] w fun e w' => e = .returned (.bool true) ∧ w' = w := by
  rcases h with rfl | ⟨b, rfl, hb⟩
  · go_enter Tryz.func127, Tryz.ntmps127
    go_wp2
    go_ret
    exact ⟨rfl, rfl⟩
  · have c2 : w.cell? ⟨b, 2, none⟩ = some (.map none) := hb.cell 2
    have hq := hb.lt
    have hn : ∀ w : World, (binOp .eql 34 (.map none) (.map none)).run Tryz.prog w = .ok (.bool true) w := fun w => by rfl
    clear hb
    go_enter Tryz.func127, Tryz.ntmps127
    go_wp2
    go_ret
    exact ⟨rfl, rfl⟩

theorem Sides_no {w : World} {p : Option Addr} (h : NoW w p) : Calls Tryz.prog 84 #[.pointer p] w fun e w' => e = .returned (.int .i64 0) ∧ w' = w := by
  have hN := none_no h
  clear h
  go_enter Tryz.func84, Tryz.ntmps84
  go_wp2_with fail
  refine hN.mono ?_
  rintro e w' ⟨rfl, rfl⟩
  go_wp2
  go_ret
  exact ⟨rfl, rfl⟩

theorem there_no {w : World} {p : Option Addr} (h : NoW w p) : Calls Tryz.prog 83 #[.pointer p] w fun e w' => e = .returned (.bool false) ∧ w' = w := by
  have hS := Sides_no h
  rcases h with rfl | ⟨b, rfl, -⟩
  · clear hS
    go_enter Tryz.func83, Tryz.ntmps83
    go_wp2
    go_ret
    exact ⟨rfl, rfl⟩
  · go_enter Tryz.func83, Tryz.ntmps83
    go_wp2_with fail
    refine hS.mono ?_
    rintro e w' ⟨rfl, rfl⟩
    go_wp2
    go_ret
    exact ⟨rfl, rfl⟩

theorem Pair_no {w : World} {p : Option Addr} (h : NoW w p) (home : Int) : Calls Tryz.prog 18 #[.pointer p, .int .i64 home] w fun e w' => e = .returned (.tuple #[.int .i64 0, .int .i64 0, .int .i64 1]) ∧ w' = w := by
  have hT := there_no h
  clear h
  go_enter Tryz.func18, Tryz.ntmps18
  go_wp2_with fail
  refine hT.mono ?_
  rintro e w' ⟨rfl, rfl⟩
  go_wp2
  refine bodyPost_ret (v := .tuple #[.int .i64 0, .int .i64 0, .int .i64 1]) (by simp [results, Tryz.results18, go_sem, *]) rfl ⟨rfl, rfl⟩

theorem spair_no {w : World} {p : Option Addr} (h : NoW w p) (r : Int) : Calls Tryz.prog 91 #[.pointer p, .int .i64 r] w fun e w' => e = .returned (.tuple #[.int .i64 0, .int .i64 1]) ∧ w' = w := by
  have hT := there_no h
  clear h
  go_enter Tryz.func91, Tryz.ntmps91
  go_wp2_with fail
  refine hT.mono ?_
  rintro e w' ⟨rfl, rfl⟩
  go_wp2
  go_ret2
  exact ⟨rfl, rfl⟩

theorem Mark_no {w : World} {p : Option Addr} (h : NoW w p) (r : Int) : Calls Tryz.prog 22 #[.pointer p, .int .i64 r] w fun e w' => e = .returned (.tuple #[.nilIface, .int .i64 1]) ∧ w' = w := by
  have hT := spair_no h r
  clear h
  go_enter Tryz.func22, Tryz.ntmps22
  go_wp2_with fail
  refine hT.mono ?_
  rintro e w' ⟨rfl, rfl⟩
  go_wp2
  go_ret2
  exact ⟨rfl, rfl⟩

theorem Same_no {w : World} {p : Option Addr} (h : NoW w p) (r q : Int) : Calls Tryz.prog 23 #[.pointer p, .int .i64 r, .int .i64 q] w fun e w' => e = .returned (.tuple #[.bool false, .int .i64 1]) ∧ Fr No w w' := by
  have HT := hide (there_no h)
  have HM := hide fun (w' : World) (f : Fr No w w') => Mark_no (h.no f) r
  clear h
  go_enter Tryz.func23, Tryz.ntmps23
  go_wp2_with fail
  refine HT.out.mono ?_
  rintro e w' ⟨rfl, rfl⟩
  go_wp2_with fail
  refine (HM.out w' (Fr.refl No w')).mono ?_
  rintro e w2 ⟨rfl, rfl⟩
  go_wp2
  go_ret2
  exact ⟨rfl, Fr.refl No _⟩

theorem Boxes_no {w : World} {p : Option Addr} (h : NoW w p) (r : Int) : Calls Tryz.prog 24 #[.pointer p, .int .i64 r] w fun e w' => e = .returned (.tuple #[.slice none 0 0, .int .i64 1]) ∧ w' = w := by
  have hT := Mark_no h r
  clear h
  go_enter Tryz.func24, Tryz.ntmps24
  go_wp2_with fail
  refine hT.mono ?_
  rintro e w' ⟨rfl, rfl⟩
  go_wp2
  go_ret2
  exact ⟨rfl, rfl⟩

set_option maxRecDepth 100000 in
set_option maxHeartbeats 1000000 in
theorem Seal_no {w : World} {p : Option Addr} (h : NoW w p) (r : Int) (k n : Int) (s : ByteArray) (A : Option Addr) (len cap : Nat) (r0 : Int) : Calls Tryz.prog 19 #[.pointer p, .int .i64 r, .agg #[.int .u8 k, .int .i64 n, .string s, .slice A len cap, .int .i64 r0]] w fun e w' => e = .returned (.tuple #[.int .i64 0, .int .i64 1]) ∧ Fr No w w' := by
  have HT := hide fun (w' : World) (f : Fr No w w') => there_no (h.no f)
  clear h
  go_enter Tryz.func19, Tryz.ntmps19
  go_wp2_with fail
  refine (HT.out _ ?fr).mono ?_
  case fr => repeat (first | with_reducible exact Fr.refl No w | with_reducible refine Fr.alloc ?_ _ | with_reducible refine Fr.setNew ?_ (by first | (simp; done) | (simp; omega)) _)
  rintro e w' ⟨rfl, rfl⟩
  go_wp2
  refine bodyPost_ret (v := .tuple #[.int .i64 0, .int .i64 1]) (by simp [results, Tryz.results19, go_sem, *]) rfl ⟨rfl, ?_⟩
  repeat (first | with_reducible exact Fr.refl No w | with_reducible refine Fr.alloc ?_ _ | with_reducible refine Fr.setNew ?_ (by first | (simp; done) | (simp; omega)) _)

set_option maxRecDepth 100000 in
set_option maxHeartbeats 1000000 in
theorem Open_no {w : World} {p : Option Addr} (h : NoW w p) (r : Int) (k n : Int) (s : ByteArray) (A : Option Addr) (len cap : Nat) (r0 : Int) : Calls Tryz.prog 20 #[.pointer p, .int .i64 r, .agg #[.int .u8 k, .int .i64 n, .string s, .slice A len cap, .int .i64 r0]] w fun e w' => e = .returned (.tuple #[.agg #[.int .u8 0, .int .i64 0, .string ⟨#[]⟩, .slice none 0 0, .int .i64 0], .int .i64 1]) ∧ Fr No w w' := by
  have HT := hide fun (w' : World) (f : Fr No w w') => there_no (h.no f)
  clear h
  go_enter Tryz.func20, Tryz.ntmps20
  go_wp2_with fail
  refine (HT.out _ ?fr).mono ?_
  case fr => repeat (first | with_reducible exact Fr.refl No w | with_reducible refine Fr.alloc ?_ _ | with_reducible refine Fr.setNew ?_ (by first | (simp; done) | (simp; omega)) _)
  rintro e w' ⟨rfl, rfl⟩
  go_wp2
  refine bodyPost_ret (v := .tuple #[.agg #[.int .u8 0, .int .i64 0, .string ⟨#[]⟩, .slice none 0 0, .int .i64 0], .int .i64 1]) (by simp [results, Tryz.results20, go_sem, *]) rfl ⟨rfl, ?_⟩
  repeat (first | with_reducible exact Fr.refl No w | with_reducible refine Fr.alloc ?_ _ | with_reducible refine Fr.setNew ?_ (by first | (simp; done) | (simp; omega)) _)

set_option maxRecDepth 100000 in
set_option maxHeartbeats 1000000 in
theorem Do_no {w : World} {p : Option Addr} (h : NoW w p) (r : Int) (ab : Int) (k n : Int) (s : ByteArray) (A : Option Addr) (len cap : Nat) (r0 : Int) : Calls Tryz.prog 21 #[.pointer p, .int .i64 r, .int .u8 ab, .agg #[.int .u8 k, .int .i64 n, .string s, .slice A len cap, .int .i64 r0]] w fun e w' => e = .returned (.tuple #[.agg #[.int .u8 0, .int .i64 0, .string ⟨#[]⟩, .slice none 0 0, .int .i64 0], .int .i64 1]) ∧ Fr No w w' := by
  have HT := hide fun (w' : World) (f : Fr No w w') => there_no (h.no f)
  clear h
  go_enter Tryz.func21, Tryz.ntmps21
  go_wp2_with fail
  refine (HT.out _ ?fr).mono ?_
  case fr => repeat (first | with_reducible exact Fr.refl No w | with_reducible refine Fr.alloc ?_ _ | with_reducible refine Fr.setNew ?_ (by first | (simp; done) | (simp; omega)) _)
  rintro e w' ⟨rfl, rfl⟩
  go_wp2
  refine bodyPost_ret (v := .tuple #[.agg #[.int .u8 0, .int .i64 0, .string ⟨#[]⟩, .slice none 0 0, .int .i64 0], .int .i64 1]) (by simp [results, Tryz.results21, go_sem, *]) rfl ⟨rfl, ?_⟩
  repeat (first | with_reducible exact Fr.refl No w | with_reducible refine Fr.alloc ?_ _ | with_reducible refine Fr.setNew ?_ (by first | (simp; done) | (simp; omega)) _)

set_option maxRecDepth 100000 in
set_option maxHeartbeats 1000000 in
theorem Unlocked_no {w : World} {p : Option Addr} (h : NoW w p) (k n : Int) (s : ByteArray) (A : Option Addr) (len cap : Nat) (r0 : Int) : Calls Tryz.prog 25 #[.pointer p, .agg #[.int .u8 k, .int .i64 n, .string s, .slice A len cap, .int .i64 r0]] w fun e w' => e = .returned (.tuple #[.slice none 0 0, .int .i64 1]) ∧ Fr No w w' := by
  have HT := hide fun (w' : World) (f : Fr No w w') => there_no (h.no f)
  have hb := (Blk.new w 31 #[.pointer p]).alloc (.cells #[.int .u8 k, .int .i64 n, .string s, .slice A len cap, .int .i64 r0] 28)
  have HF := hide (((Fr.refl No w).alloc (.cells #[.pointer p] 31)).alloc (.cells #[.int .u8 k, .int .i64 n, .string s, .slice A len cap, .int .i64 r0] 28))
  have c0 := hb.cell 0
  simp only [List.getElem?_toArray, List.getElem?_cons_zero] at c0
  have hq := hb.lt
  clear hb
  clear h
  go_enter Tryz.func25, Tryz.ntmps25
  go_wp2_with fail
  go_step3
  go_wp2_with fail
  generalize World.alloc (World.alloc w _) _ = W0 at *
  refine (HT.out W0 HF.out).mono ?_
  rintro e w' ⟨rfl, rfl⟩
  go_wp2
  rw [Exit.noGoto_ret]
  refine bodyPost_ret (v := .tuple #[.slice none 0 0, .int .i64 1]) (by simp [results, Tryz.results25, go_sem, *]) rfl ⟨rfl, ?_⟩
  repeat (first | with_reducible exact HF.out | with_reducible refine Fr.alloc ?_ _ | with_reducible refine Fr.setNew ?_ (by first | (simp; done) | (simp; omega)) _)

end Go.Proofs.YtlejelbefmkakaaGreat

/- Worlds that are not there: no pairs are gone over. -/
namespace Go.Proofs.YtlejelbefmkakaaGreat
open Go.RowKit

theorem wp_rangeFunc_none {P : Program} {g : Operand} {ps : Array Tmp} {assign body : Code} {Q : Exit → Act → World → Prop} {a : Act} {w : World} {gf : Nat} {lb : Array Value} (hg : a.eval g = .func (.func gf) #[] lb)
    (eg : ∀ args w, (callFunc gf args).run P w = .ok (.enter gf args) w)
    (hcall : ∀ (l : Nat) (W1 : World), Below w.heap.size w W1 → Calls P gf (#[.func (.yield l) #[] #[]] ++ lb) W1 fun e W2 => (∃ v, e = .returned v) ∧ Fr No W1 W2)
    (hQ : ∀ (D : Nat) (W : World), Below w.heap.size w W → W.heap[D]? = some (.deferred (some [])) → w.heap.size ≤ D → Q .normal { a with defers := { target := .collected D, args := #[] } :: a.defers } W) :
    (Code.rangeFunc g ps assign body).wp P Q a w := by
  refine (wpIn_wide (n := 3)).1 ?_
  refine wpIn_rangeFunc ?_
  intro fn hfn
  obtain ⟨rec, hrec⟩ : ∃ rec : LoopState → Option Code → Loop, rec = fun st pe => { state := st, pending := pe, fn, tmps := a.tmps, params := ps, assign, body, defers := w.heap.size } := ⟨_, rfl⟩
  obtain ⟨W1, hW1⟩ : ∃ W1, (w.alloc (.deferred (some []))).alloc (.loop (rec .ready none)) = W1 := ⟨_, rfl⟩
  have hL1 : W1.heap[w.heap.size + 1]? = some (.loop (rec .ready none)) := by
    rw [← hW1]; have := World.alloc_heap_new (w.alloc (.deferred (some []))) (.loop (rec .ready none)); rwa [World.size_alloc] at this
  have hK1 : W1.heap[w.heap.size]? = some (.deferred (some [])) := by
    rw [← hW1]; exact (Below.heap_alloc _ _ _ (by simp)).trans (World.alloc_heap_new w _)
  have hb1 : Below w.heap.size w W1 := by
    rw [← hW1]; exact (((Below.refl _ w).alloc (Nat.le_refl _) _).alloc (by simp) _)
  refine ⟨w.heap.size + 1, [{ target := .collected w.heap.size, args := #[] }], W1, { target := .fn (.func gf) lb, args := #[.func (.yield (w.heap.size + 1)) #[] #[]] }, W1, gf,
    #[.func (.yield (w.heap.size + 1)) #[] #[]] ++ lb, W1, ?_, ?_, ?_, ?_, (fun h => by cases h), ?_⟩
  · rw [← hW1, hrec]; exact run_enterLoop_outer _ _ _ _ _
  · simp only [resolve, hg]
    simp [go_sem]
  · intro f' _; trivial
  · simp [invoke, go_sem, eg]
  · refine (callsIn_wide.2 (hcall _ W1 hb1)).mono ?_
    rintro e W2 ⟨⟨v, rfl⟩, f2⟩
    have hl1 := lt_of_heap hL1
    have hk1 := lt_of_heap hK1
    have hL2 := (f2.block _ hl1 (fun h => h)).trans hL1
    have hK2 := (f2.block _ hk1 (fun h => h)).trans hK1
    have hb2 : Below w.heap.size w W2 := by
      have := (Fr.ofBelow hb1).trans f2
      exact this.noBelow
    refine ⟨none, _, by have := run_endLoop (P := P) hL2 (by rw [hrec]; simp); rw [hrec] at this; exact this, ?_⟩
    refine hQ _ _ ?_ ?_ (Nat.le_refl _)
    · exact hb2.grown (grownBy_putObj' _ _ _) (Nat.le_trans (Nat.le_refl _) hb2.size) (fun k e => by cases e; omega)
    · exact (World.putObj_heap_other (by omega)).trans hK2

theorem enters_fn {P : Program} {f : FuncId} {fn : Func} {c : Code} (hf : P.funcs[f]? = some fn) (hname : (fn.name == "runtime.NumGoroutine") = false) (hb : fn.body = some c) : ∀ args w, (callFunc f args).run P w = .ok (.enter f args) w := by
  intro args w
  have h1 : fn.name ≠ "runtime.NumGoroutine" := by simpa using hname
  simp [callFunc, hf, h1, hb, mark]

theorem Fr.putObj {S : Nat → Prop} {a w : World} (h : Fr S a w) {l : Nat} (hl : l < a.heap.size → S l) (o : Obj) : Fr S a (w.putObj l o) :=
  h.grown (grownBy_putObj' w l o) fun k e hk => by cases e; exact hl hk

theorem def_kept {w W : World} {D : Nat} {o : Obj} (h : w.heap[D]? = some o) (f : Fr No w W) : W.heap[D]? = some o := (f.block D (lt_of_heap h) (fun h => h)).trans h

theorem Pairs_fn (p : Option Addr) (w : World) : Calls Tryz.prog 98 #[.pointer p] w fun e w' => ∃ b, e = .returned (.func (.func 168) #[] #[.pointer (some ⟨b, 0, none⟩)]) ∧ Blk w' b 31 #[.pointer p] ∧ Fr No w w' := by
  go_enter Tryz.func98, Tryz.ntmps98
  go_wp2
  go_ret
  exact ⟨_, rfl, Blk.new w _ _, (Fr.refl No w).alloc _⟩

theorem Pairs1_no {w : World} {p : Option Addr} (h : NoW w p) {b : Nat} (hb : Blk w b 31 #[.pointer p]) (l : Nat) : Calls Tryz.prog 168 #[.func (.yield l) #[] #[], .pointer (some ⟨b, 0, none⟩)] w fun e w' => (∃ v, e = .returned v) ∧ Fr No w w' := by
  have HT := hide fun (w' : World) (f : Fr No w w') => there_no (h.no f)
  have hq := hb.lt
  have c0 : w.cell? ⟨b, 0, none⟩ = some (.pointer p) := hb.cell 0
  have HF := hide ((Fr.refl No w).alloc (.cells #[.func (.yield l) #[] #[]] 240))
  clear h hb
  go_enter Tryz.func168, Tryz.ntmps168
  go_wp2_with fail
  refine (HT.out _ HF.out).mono ?_
  rintro e w' ⟨rfl, rfl⟩
  go_wp2
  refine bodyPost_ret (results_none rfl _ _ _) rfl ?_
  exact ⟨⟨_, rfl⟩, HF.out⟩

end Go.Proofs.YtlejelbefmkakaaGreat

/- Worlds that are not there: what layer 12 answers of them. -/
namespace Go.Proofs.YtlejelbefmkakaaGreat
open Go.RowKit

theorem gath_no {w : World} {p : Option Addr} (h : NoW w p) : Calls Tryz.prog 99 #[.pointer p] w fun e w' => e = .returned (.bool false) ∧ w' = w := by
  have hS := Sides_no h
  rcases h with rfl | ⟨b, rfl, -⟩
  · clear hS
    go_enter Tryz.func99, Tryz.ntmps99
    go_wp2
    go_ret
    exact ⟨rfl, rfl⟩
  · go_enter Tryz.func99, Tryz.ntmps99
    go_wp2_with fail
    refine hS.mono ?_
    rintro e w' ⟨rfl, rfl⟩
    go_wp2
    go_ret
    exact ⟨rfl, rfl⟩

theorem GNew_no {w : World} {p : Option Addr} (h : NoW w p) (home a : Int) : Calls Tryz.prog 29 #[.pointer p, .int .i64 home, .int .i64 a] w fun e w' => e = .returned (.tuple #[.int .i64 0, .int .i64 0, .int .i64 1]) ∧ w' = w := by
  have hT := gath_no h
  clear h
  go_enter Tryz.func29, Tryz.ntmps29
  go_wp2_with fail
  refine hT.mono ?_
  rintro e w' ⟨rfl, rfl⟩
  go_wp2
  refine bodyPost_ret (v := .tuple #[.int .i64 0, .int .i64 0, .int .i64 1]) (by simp [results, Tryz.results29, go_sem, *]) rfl ⟨rfl, rfl⟩

theorem GIsCut_no {w : World} {p : Option Addr} (h : NoW w p) (a : Int) : Calls Tryz.prog 30 #[.pointer p, .int .i64 a] w fun e w' => e = .returned (.tuple #[.bool false, .int .i64 1]) ∧ w' = w := by
  have hT := gath_no h
  clear h
  go_enter Tryz.func30, Tryz.ntmps30
  go_wp2_with fail
  refine hT.mono ?_
  rintro e w' ⟨rfl, rfl⟩
  go_wp2
  go_ret2
  exact ⟨rfl, rfl⟩

theorem GOf_no {w : World} {p : Option Addr} (h : NoW w p) (a : Int) : Calls Tryz.prog 32 #[.pointer p, .int .i64 a] w fun e w' => e = .returned (.tuple #[.int .i64 0, .int .i64 1]) ∧ w' = w := by
  have hT := gath_no h
  clear h
  go_enter Tryz.func32, Tryz.ntmps32
  go_wp2_with fail
  refine hT.mono ?_
  rintro e w' ⟨rfl, rfl⟩
  go_wp2
  go_ret2
  exact ⟨rfl, rfl⟩

theorem GCut_no {w : World} {p : Option Addr} (h : NoW w p) (a : Int) : Calls Tryz.prog 37 #[.pointer p, .int .i64 a] w fun e w' => e = .returned (.int .i64 1) ∧ w' = w := by
  have hT := gath_no h
  clear h
  go_enter Tryz.func37, Tryz.ntmps37
  go_wp2_with fail
  refine hT.mono ?_
  rintro e w' ⟨rfl, rfl⟩
  go_wp2
  go_ret
  exact ⟨rfl, rfl⟩

theorem GGates_no {w : World} {p : Option Addr} (h : NoW w p) (a : Int) : Calls Tryz.prog 33 #[.pointer p, .int .i64 a] w fun e w' => e = .returned (.tuple #[.slice none 0 0, .int .i64 1]) ∧ w' = w := by
  have hT := gath_no h
  clear h
  go_enter Tryz.func33, Tryz.ntmps33
  go_wp2_with fail
  refine hT.mono ?_
  rintro e w' ⟨rfl, rfl⟩
  go_wp2
  go_ret2
  exact ⟨rfl, rfl⟩

set_option maxRecDepth 100000 in
set_option maxHeartbeats 1000000 in
theorem GDo_no {w : World} {p : Option Addr} (h : NoW w p) (r : Int) (ab : Int) (k n : Int) (s : ByteArray) (A : Option Addr) (len cap : Nat) (r0 : Int) : Calls Tryz.prog 31 #[.pointer p, .int .i64 r, .int .u8 ab, .agg #[.int .u8 k, .int .i64 n, .string s, .slice A len cap, .int .i64 r0]] w fun e w' => e = .returned (.tuple #[.agg #[.int .u8 0, .int .i64 0, .string ⟨#[]⟩, .slice none 0 0, .int .i64 0], .int .i64 1]) ∧ Fr No w w' := by
  have HT := hide fun (w' : World) (f : Fr No w w') => gath_no (h.no f)
  clear h
  go_enter Tryz.func31, Tryz.ntmps31
  go_wp2_with fail
  refine (HT.out _ ?fr).mono ?_
  case fr => repeat (first | with_reducible exact Fr.refl No w | with_reducible refine Fr.alloc ?_ _ | with_reducible refine Fr.setNew ?_ (by first | (simp; done) | (simp; omega)) _)
  rintro e w' ⟨rfl, rfl⟩
  go_wp2
  refine bodyPost_ret (v := .tuple #[.agg #[.int .u8 0, .int .i64 0, .string ⟨#[]⟩, .slice none 0 0, .int .i64 0], .int .i64 1]) (by simp [results, Tryz.results31, go_sem, *]) rfl ⟨rfl, ?_⟩
  repeat (first | with_reducible exact Fr.refl No w | with_reducible refine Fr.alloc ?_ _ | with_reducible refine Fr.setNew ?_ (by first | (simp; done) | (simp; omega)) _)

theorem GFirst_no {w : World} {p : Option Addr} (h : NoW w p) (a : Int) : Calls Tryz.prog 34 #[.pointer p, .int .i64 a] w fun e w' => e = .returned (.tuple #[.int .i64 0, .bool false]) ∧ Fr No w w' := by
  have HT := hide fun (w' : World) (f : Fr No w w') => gath_no (h.no f)
  clear h
  go_enter Tryz.func34, Tryz.ntmps34
  go_wp2_with fail
  refine (HT.out _ ?fr).mono ?_
  case fr => repeat (first | with_reducible exact Fr.refl No w | with_reducible refine Fr.alloc ?_ _ | with_reducible refine Fr.setNew ?_ (by first | (simp; done) | (simp; omega)) _)
  rintro e w' ⟨rfl, rfl⟩
  go_wp2
  refine bodyPost_ret (v := .tuple #[.int .i64 0, .bool false]) (by simp [results, Tryz.results34, go_sem, *]) rfl ⟨rfl, ?_⟩
  repeat (first | with_reducible exact Fr.refl No w | with_reducible refine Fr.alloc ?_ _ | with_reducible refine Fr.setNew ?_ (by first | (simp; done) | (simp; omega)) _)

theorem GBehind_no {w : World} {p : Option Addr} (h : NoW w p) (a : Int) : Calls Tryz.prog 35 #[.pointer p, .int .i64 a] w fun e w' => e = .returned (.tuple #[.slice none 0 0, .int .i64 1]) ∧ Fr No w w' := by
  have HT := hide fun (w' : World) (f : Fr No w w') => gath_no (h.no f)
  clear h
  go_enter Tryz.func35, Tryz.ntmps35
  go_wp2_with fail
  refine (HT.out _ ?fr).mono ?_
  case fr => repeat (first | with_reducible exact Fr.refl No w | with_reducible refine Fr.alloc ?_ _ | with_reducible refine Fr.setNew ?_ (by first | (simp; done) | (simp; omega)) _)
  rintro e w' ⟨rfl, rfl⟩
  go_wp2
  refine bodyPost_ret (v := .tuple #[.slice none 0 0, .int .i64 1]) (by simp [results, Tryz.results35, go_sem, *]) rfl ⟨rfl, ?_⟩
  repeat (first | with_reducible exact Fr.refl No w | with_reducible refine Fr.alloc ?_ _ | with_reducible refine Fr.setNew ?_ (by first | (simp; done) | (simp; omega)) _)

theorem GStop_no {w : World} {p : Option Addr} (h : NoW w p) (a b : Value) : Calls Tryz.prog 36 #[.pointer p, a, b] w fun e w' => e = .returned (.tuple #[.slice none 0 0, .int .i64 1]) ∧ Fr No w w' := by
  have HT := hide (gath_no h)
  clear h
  go_enter Tryz.func36, Tryz.ntmps36
  go_wp2_with fail
  try go_step3
  try go_wp2_with fail
  refine HT.out.mono ?_
  rintro e w' ⟨rfl, rfl⟩
  go_wp2
  try rw [Exit.noGoto_ret]
  refine bodyPost_ret (v := .tuple #[.slice none 0 0, .int .i64 1]) (by simp [results, Tryz.results36, go_sem, *]) rfl ⟨rfl, Fr.refl _ _⟩

theorem Shut_fn (p : Option Addr) (w : World) : Calls Tryz.prog 56 #[.pointer p] w fun e w' => ∃ b, e = .returned (.func (.func 132) #[] #[.pointer (some ⟨b, 0, none⟩)]) ∧ Blk w' b 31 #[.pointer p] ∧ Fr No w w' := by
  go_enter Tryz.func56, Tryz.ntmps56
  go_wp2
  go_ret
  exact ⟨_, rfl, Blk.new w _ _, (Fr.refl No w).alloc _⟩

theorem Shut1_no {w : World} {p : Option Addr} (h : NoW w p) {b : Nat} (hb : Blk w b 31 #[.pointer p]) (l : Nat) : Calls Tryz.prog 132 #[.func (.yield l) #[] #[], .pointer (some ⟨b, 0, none⟩)] w fun e w' => (∃ v, e = .returned v) ∧ Fr No w w' := by
  have HT := hide (gath_no h)
  have hq := hb.lt
  have c0 : w.cell? ⟨b, 0, none⟩ = some (.pointer p) := hb.cell 0
  clear h hb
  go_enter Tryz.func132, Tryz.ntmps132
  go_wp2_with fail
  refine HT.out.mono ?_
  rintro e w' ⟨rfl, rfl⟩
  go_wp2
  refine bodyPost_ret (results_none rfl _ _ _) rfl ?_
  exact ⟨⟨_, rfl⟩, Fr.refl _ _⟩

end Go.Proofs.YtlejelbefmkakaaGreat

/- posternlaw12.walk of a world that is not there. -/
namespace Go.Proofs.YtlejelbefmkakaaGreat
open Go.RowKit

/-- What stands ahead of a turn: the boxes of pairs. -/
structure PW (w : World) (p : Option Addr) (gf : Nat) (wr : World) : Prop where
  fr : Fr No w wr
  no : NoW wr p
  b4 : Blk wr w.heap.size 121 #[.slice none 0 0]
  b5 : Blk wr (w.heap.size + 1) 3 #[.int .i64 1]
  b6 : Blk wr (w.heap.size + 1 + 1) 4 #[.bool false]
  bf : Blk wr gf 31 #[.pointer p]

theorem PW.non {w w1 w2 : World} {p : Option Addr} {bf : Nat} (h : PW w p bf w1) (f : Fr No w1 w2) : PW w p bf w2 :=
  ⟨h.fr.trans f, h.no.no f, h.b4.fr f fun h => h, h.b5.fr f fun h => h, h.b6.fr f fun h => h, h.bf.fr f fun h => h⟩

theorem PW.set {w w0 w1 : World} {p : Option Addr} {gf g : Nat} {u : Value} (h0 : PW w p gf w0) (hg : w0.heap.size ≤ g) (h : PW w p gf w1) : PW w p gf (w1.setCell ⟨g, 0, none⟩ u) := by
  have hw := h0.fr.size
  have l4 := h0.b4.lt
  have l5 := h0.b5.lt
  have l6 := h0.b6.lt
  have lf := h0.bf.lt
  refine ⟨h.fr.setNew (by show w.heap.size ≤ g; omega) _, ?_, h.b4.far (by show w.heap.size ≠ g; omega) _, h.b5.far (by show w.heap.size + 1 ≠ g; omega) _, h.b6.far (by show w.heap.size + 1 + 1 ≠ g; omega) _, h.bf.far (by show gf ≠ g; omega) _⟩
  rcases h0.no with rfl | ⟨b, rfl, hb⟩
  · exact .inl rfl
  · have := hb.lt
    rcases h.no with q | ⟨b', q, hb'⟩
    · cases q
    · simp only [Option.some.injEq, Addr.mk.injEq, and_true] at q
      subst q
      exact .inr ⟨b, rfl, hb'.far (by show b ≠ g; omega) _⟩

set_option maxRecDepth 100000 in
set_option maxHeartbeats 8000000 in
theorem walk_no {w : World} {p : Option Addr} (h : NoW w p) : Calls Tryz.prog 38 #[.pointer p, .slice none 0 0, .int .i64 1] w fun e w' => e = .returned (.bool true) ∧ Fr No w w' := by
  have hf0 := (((Fr.refl No w).alloc (.cells #[.slice none 0 0] 121)).alloc (.cells #[.int .i64 1] 3)).alloc (.cells #[.bool false] 4)
  have h4 := ((Blk.new w 121 #[.slice none 0 0]).alloc (.cells #[.int .i64 1] 3)).alloc (.cells #[.bool false] 4)
  have h5 := (Blk.new' (w.alloc (.cells #[.slice none 0 0] 121)) 3 #[.int .i64 1] (g := w.heap.size + 1) (by simp)).alloc (.cells #[.bool false] 4)
  have h6 := Blk.new' ((w.alloc (.cells #[.slice none 0 0] 121)).alloc (.cells #[.int .i64 1] 3)) 4 #[.bool false] (g := w.heap.size + 1 + 1) (by simp)
  have HP := hide (fun W => Shut_fn p W)
  have HNO := hide (h.no hf0)
  have H0 := hide (And.intro hf0 (And.intro h4 (And.intro h5 h6)))
  clear h hf0 h4 h5 h6
  have hfe : ∀ (w : World) (b : Nat), (binOp .eql 109 (.func (.func 132) #[] #[.pointer (some ⟨b, 0, none⟩)]) .nilFunc).run Tryz.prog w = .ok (.bool false) w := fun w b => by rfl
  refine (callsIn_wide (n := 5)).1 ?_
  refine callsIn_of_wp_marks Tryz.func38 rfl trivial ?_
  simp only [Tryz.ntmps38, List.size_toArray, List.length_cons, List.length_nil, Nat.reduceAdd, Nat.reduceSub, Array.replicate_succ, Array.replicate_zero, List.push_toArray, List.append_toArray, List.nil_append, List.cons_append]
  refine wpIn_wide.2 ?_
  go_wp2_with fail
  generalize World.alloc (World.alloc (World.alloc w _) _) _ = W0 at *
  refine (HP.out W0).mono ?_
  rintro e w1 ⟨bf, rfl, hbf, f1⟩
  obtain ⟨hf0, h4, h5, h6⟩ := H0.out
  have HPN : Hid (PW w p bf w1) := hide ⟨hf0.trans f1, HNO.out.no f1, h4.fr f1 fun h => h, h5.fr f1 fun h => h, h6.fr f1 fun h => h, hbf⟩
  clear hf0 h4 h5 h6 f1 hbf HNO H0 HP
  go_wp2_with fail
  have HN2 := hide (HPN.out.non ((Fr.refl No w1).alloc (.cells #[.int .i64 0] 3)))
  have HB8 := hide (Blk.new w1 3 #[.int .i64 0])
  clear HPN
  generalize hg8 : w1.heap.size = g8 at *
  generalize World.alloc w1 _ = w2 at *
  refine wp_loop_rounds 3 ?_
  rw [rounds_succ]
  have c8 : w2.cell? ⟨g8, 0, none⟩ = some (.int .i64 0) := HB8.out.cell 0
  have q8 := HB8.out.lt
  go_wp2_with fail
  have HN3 := hide (HN2.out.non ((Fr.refl No w2).alloc (.cells #[.int .i64 0] 3)))
  have HB83 := hide (HB8.out.alloc (.cells #[.int .i64 0] 3))
  have HB93 := hide (Blk.new w2 3 #[.int .i64 0])
  clear c8 q8 HN2 HB8
  generalize hg9 : w2.heap.size = g9 at *
  generalize World.alloc w2 _ = w3 at *
  refine wp_rangeFunc_none rfl (enters_fn Tryz.func132 (by kernel_rfl) rfl) ?_ ?_
  · intro l W1 hb
    have fb := Fr.ofBelow hb
    exact Shut1_no (HN3.out.no.no fb) (HN3.out.bf.fr fb fun h => h) l
  intro D0 w4 hb hd hge
  have frD := Fr.ofBelow hb
  have HN4 := hide (HN3.out.non frD)
  have HB84 := hide (HB83.out.fr frD fun h => h)
  have HB94 := hide (HB93.out.fr frD fun h => h)
  have HD0 := hide hd
  have HGE0 := hide (Nat.le_trans HN3.out.fr.size hge)
  clear hb hd hge frD HN3 HB83 HB93
  have c9 : w4.cell? ⟨g9, 0, none⟩ = some (.int .i64 0) := HB94.out.cell 0
  have q9 := HB94.out.lt
  have c8 : w4.cell? ⟨g8, 0, none⟩ = some (.int .i64 0) := HB84.out.cell 0
  have q8 := HB84.out.lt
  have c4 : w4.cell? ⟨w.heap.size, 0, none⟩ = some (.slice none 0 0) := HN4.out.b4.cell 0
  have q4 := HN4.out.b4.lt
  go_upto_region 18 with (fail)
  clear c9 q9 c8 q8 c4 q4
  have HN5 := hide (HN4.out.non ((Fr.refl No w4).alloc (.cells #[.int .i64 0] 3)))
  have HB5 := hide (Blk.new w4 3 #[.int .i64 0])
  have HD05 := hide (def_kept HD0.out ((Fr.refl No w4).alloc (.cells #[.int .i64 0] 3)))
  have HG5 := hide HN4.out.fr.size
  generalize hg5 : w4.heap.size = g5 at *
  have c5 : (w4.alloc (.cells #[.int .i64 0] 3)).cell? ⟨g5, 0, none⟩ = some (.int .i64 0) := HB5.out.cell 0
  have f5 := HB5.out.frozen 0
  have q5 := HB5.out.lt
  go_upto_region 6 with (fail)
  generalize World.alloc w4 _ = w5 at *
  go_wp2_with fail
  have HN6 := hide (HN4.out.set (g := g5) (u := .int .i64 1) (by omega) HN5.out)
  have HB6 := hide (HB5.out.set_ 0 (.int .i64 1))
  have HD6 := hide ((Below.heap_setCell w5 ⟨g5, 0, none⟩ (.int .i64 1) D0 (by have := lt_of_heap HD0.out; show D0 ≠ g5; omega)).trans HD05.out)
  clear c5 f5 q5 HN4 HN5 HB5 HD05 HD0 HB84 HB94
  generalize World.setCell w5 _ _ = w6 at *
  rw [rounds_succ]
  have c5 : w6.cell? ⟨g5, 0, none⟩ = some (.int .i64 1) := HB6.out.cell 0
  have q5 := HB6.out.lt
  go_wp2_with fail
  have HN7 := hide (HN6.out.non ((Fr.refl No w6).alloc (.cells #[.int .i64 0] 3)))
  have HB57 := hide (HB6.out.alloc (.cells #[.int .i64 0] 3))
  have HB97 := hide (Blk.new w6 3 #[.int .i64 0])
  have HD7 := hide (def_kept HD6.out ((Fr.refl No w6).alloc (.cells #[.int .i64 0] 3)))
  clear c5 q5 HN6 HB6 HD6
  generalize hg9 : w6.heap.size = g9' at *
  generalize World.alloc w6 _ = w7 at *
  refine wp_rangeFunc_none rfl (enters_fn Tryz.func132 (by kernel_rfl) rfl) ?_ ?_
  · intro l W1 hb
    have fb := Fr.ofBelow hb
    exact Shut1_no (HN7.out.no.no fb) (HN7.out.bf.fr fb fun h => h) l
  intro D1 w8 hb hd hge
  have frD := Fr.ofBelow hb
  have HN8 := hide (HN7.out.non frD)
  have HB58 := hide (HB57.out.fr frD fun h => h)
  have HB98 := hide (HB97.out.fr frD fun h => h)
  have HD08 := hide (def_kept HD7.out frD)
  have HD1 := hide hd
  have HGE1 := hide (Nat.le_trans HN7.out.fr.size hge)
  have HNE := hide (show D0 ≠ D1 by have := lt_of_heap HD7.out; omega)
  clear hb hd hge frD HN7 HB57 HB97 HD7
  have c9 : w8.cell? ⟨g9', 0, none⟩ = some (.int .i64 0) := HB98.out.cell 0
  have q9 := HB98.out.lt
  have c8 : w8.cell? ⟨g5, 0, none⟩ = some (.int .i64 1) := HB58.out.cell 0
  have q8 := HB58.out.lt
  have c4 : w8.cell? ⟨w.heap.size, 0, none⟩ = some (.slice none 0 0) := HN8.out.b4.cell 0
  have q4 := HN8.out.b4.lt
  go_upto_region 18 with (fail)
  clear c9 q9 c8 q8 c4 q4
  have HN9 := hide (HN8.out.non ((Fr.refl No w8).alloc (.cells #[.int .i64 1] 3)))
  have HB9 := hide (Blk.new w8 3 #[.int .i64 1])
  have HD09 := hide (def_kept HD08.out ((Fr.refl No w8).alloc (.cells #[.int .i64 1] 3)))
  have HD19 := hide (def_kept HD1.out ((Fr.refl No w8).alloc (.cells #[.int .i64 1] 3)))
  have HG9 := hide HN8.out.fr.size
  have hd0 := lt_of_heap HD08.out
  have hd1 := lt_of_heap HD1.out
  generalize hga : w8.heap.size = ga at *
  have ca : (w8.alloc (.cells #[.int .i64 1] 3)).cell? ⟨ga, 0, none⟩ = some (.int .i64 1) := HB9.out.cell 0
  have fa := HB9.out.frozen 0
  have qa := HB9.out.lt
  go_upto_region 6 with (fail)
  generalize World.alloc w8 _ = w9 at *
  go_wp2_with fail
  have HNa := hide (HN8.out.set (g := ga) (u := .int .i64 2) (by omega) HN9.out)
  have HBa := hide (HB9.out.set_ 0 (.int .i64 2))
  have HD0a := hide ((Below.heap_setCell w9 ⟨ga, 0, none⟩ (.int .i64 2) D0 (by show D0 ≠ ga; omega)).trans HD09.out)
  have HD1a := hide ((Below.heap_setCell w9 ⟨ga, 0, none⟩ (.int .i64 2) D1 (by show D1 ≠ ga; omega)).trans HD19.out)
  clear ca fa qa HN8 HN9 HB9 HD09 HD19 HD08 HD1 HB58 HB98 hd0 hd1
  generalize World.setCell w9 _ _ = wY at *
  rw [rounds_succ]
  have ca : wY.cell? ⟨ga, 0, none⟩ = some (.int .i64 2) := HBa.out.cell 0
  have qa := HBa.out.lt
  have hbr := HNa.out.b6
  have r0 : wY.cell? ⟨w.heap.size + 1 + 1, 0, none⟩ = some (.bool false) := hbr.cell 0
  have r1 := hbr.frozen 0
  have rq := hbr.lt
  have hRne : ∀ (D : Nat) (o : Obj), wY.heap[D]? = some o → o.isCells = false → D ≠ w.heap.size + 1 + 1 := by
    rintro D o h1 h2 rfl
    unfold Blk at hbr
    rw [hbr] at h1
    injection h1 with h1
    subst h1
    cases h2
  have HR0 := hide (hRne _ _ HD0a.out rfl)
  have HR1 := hide (hRne _ _ HD1a.out rfl)
  have HBR := hide hbr
  clear hbr hRne
  go_wp2_with fail
  have frF := HNa.out.fr
  have hbF := HBR.out.set_ 0 (.bool true)
  have e1 : (wY.setCell ⟨w.heap.size + 1 + 1, 0, none⟩ (.bool true)).heap[D1]? = some (.deferred (some [])) := (Below.heap_setCell _ _ _ _ HR1.out).trans HD1a.out
  have e0 : (wY.setCell ⟨w.heap.size + 1 + 1, 0, none⟩ (.bool true)).heap[D0]? = some (.deferred (some [])) := (Below.heap_setCell _ _ _ _ HR0.out).trans HD0a.out
  have frG : Fr No w (wY.setCell ⟨w.heap.size + 1 + 1, 0, none⟩ (.bool true)) := frF.setNew (by simp; omega) _
  generalize World.setCell wY _ _ = wZ at *
  have e0' : (wZ.putObj D1 (.deferred none)).heap[D0]? = some (.deferred (some [])) := (World.putObj_heap_other HNE.out).trans e0
  have hbG : Blk ((wZ.putObj D1 (.deferred none)).putObj D0 (.deferred none)) (w.heap.size + 1 + 1) 4 #[.bool true] := by
    unfold Blk at hbF ⊢
    rw [World.putObj_heap_other (Ne.symm HR0.out), World.putObj_heap_other (Ne.symm HR1.out)]
    simpa using hbF
  refine ⟨by simp, .inl ⟨_, _, rfl, run_takeDeferred e1, ⟨by simp, .inl ⟨_, _, rfl, run_takeDeferred e0', ?_⟩⟩⟩⟩
  have r2 := hbG.cell 0
  simp only [List.getElem?_toArray, List.getElem?_cons_zero] at r2
  refine ⟨.bool true, by simp [results, Tryz.results38, go_sem, r2], rfl, ?_⟩
  have n1 := HGE1.out
  have n0 := HGE0.out
  exact (frG.putObj (fun h => by omega) _).putObj (fun h => by omega) _

end Go.Proofs.YtlejelbefmkakaaGreat

/- SealSealed: values whose references are brought into 1 to last, plain; what look finds, plain. -/
namespace Go.Proofs.YtlejelbefmkakaaGreat
open Go.RowKit

theorem fr_grown {w w' : World} {row : Option Nat} (h : w.grownBy w' row) : Fr (fun i => some i = row) w w' := (Fr.refl _ w).grown h fun _ hk _ => hk.symm

/-- A value whose references are brought into 1 to last. -/
def V.win (last : Int) : V → V
  | .mk k n s l r => .mk k n s (l.map (V.win last)) (if k = 4 ∧ last < r then r % last + 1 else r)
termination_by v => v

theorem V.win_mk (last k n : Int) (s : ByteArray) (l : List V) (r : Int) : (V.mk k n s l r).win last = .mk k n s (l.map (V.win last)) (if k = 4 ∧ last < r then r % last + 1 else r) := by
  rw [V.win]

theorem walkL_mem {fs : List (List Int → List (List Int × V))} {pl : List Int} {x : List Int × V} : ∀ {i : Nat}, x ∈ walkL fs i pl → ∃ f ∈ fs, ∃ q, x ∈ f q := by
  induction fs with
  | nil => intro i h; simp [walkL] at h
  | cons f fs ih =>
    intro i h
    rw [walkL, List.mem_append] at h
    rcases h with h | h
    · exact ⟨f, by simp, _, h⟩
    · obtain ⟨g, hg, q, hq⟩ := ih h
      exact ⟨g, by simp [hg], q, hq⟩

theorem refsOf_mem {r : Int} : ∀ {L : List (List Int × V)}, r ∈ refsOf L → ∃ p n s l, (p, V.mk 4 n s l r) ∈ L
  | [], h => by simp [refsOf] at h
  | (p, .mk k n s l r') :: L, h => by
    rw [refsOf] at h
    split at h
    · rename_i hk
      rcases List.mem_cons.1 h with rfl | h
      · subst hk; exact ⟨p, n, s, l, by simp⟩
      · obtain ⟨p2, n2, s2, l2, h2⟩ := refsOf_mem h
        exact ⟨p2, n2, s2, l2, by simp [h2]⟩
    · obtain ⟨p2, n2, s2, l2, h2⟩ := refsOf_mem h
      exact ⟨p2, n2, s2, l2, by simp [h2]⟩

theorem refsOf_len : ∀ (L : List (List Int × V)), (refsOf L).length ≤ L.length
  | [] => by simp [refsOf]
  | (p, .mk k n s l r) :: L => by
    have := refsOf_len L
    rw [refsOf]
    split <;> simp <;> omega

theorem refs_length (v : V) : v.refs.length ≤ 512 := by
  unfold V.refs
  split
  · rename_i h
    have h1 := refsOf_len (v.walk [])
    rw [walk_length] at h1
    simp [V.may, V.fits] at h
    omega
  · simp

theorem win_top {last : Int} (h1 : 1 ≤ last) (v : V) : ∀ (p : List Int), ∀ x ∈ (v.win last).walk p, ∀ n s l r, x.2 = V.mk 4 n s l r → r ≤ last := by
  induction v using V.ind with
  | h k n s l r ih =>
    intro p x hx n' s' l' r' e
    rw [V.win_mk, V.walk_mk] at hx
    rcases List.mem_cons.1 hx with rfl | hx
    · simp only [V.mk.injEq] at e
      obtain ⟨rfl, -, -, -, rfl⟩ := e
      have hm : r % last < last := Int.emod_lt_of_pos r (by omega)
      split <;> omega
    · obtain ⟨f, hf, q, hq⟩ := walkL_mem hx
      obtain ⟨y, hy, rfl⟩ := List.mem_map.1 hf
      obtain ⟨z, hz, rfl⟩ := List.mem_map.1 hy
      exact ih z hz q x hq n' s' l' r' e

theorem ok_low (v : V) : v.ok = true → ∀ (p : List Int), ∀ x ∈ v.walk p, ∀ n s l r, x.2 = V.mk 4 n s l r → 1 ≤ r := by
  induction v using V.ind with
  | h k n s l r ih =>
    intro ho p x hx n' s' l' r' e
    rw [V.ok_mk] at ho
    simp only [Bool.and_eq_true, List.all_eq_true] at ho
    obtain ⟨h1, h2⟩ := ho
    rw [V.walk_mk] at hx
    rcases List.mem_cons.1 hx with rfl | hx
    · simp only [V.mk.injEq] at e
      obtain ⟨rfl, rfl, rfl, rfl, rfl⟩ := e
      simp [fok] at h1
      omega
    · obtain ⟨f, hf, q, hq⟩ := walkL_mem hx
      obtain ⟨y, hy, rfl⟩ := List.mem_map.1 hf
      exact ih y hy (h2 y hy) q x hq n' s' l' r' e

theorem win_refs {last : Int} (h1 : 1 ≤ last) (v : V) : ∀ r ∈ (v.win last).refs, 1 ≤ r ∧ r ≤ last := by
  intro r hr
  unfold V.refs at hr
  split at hr
  · rename_i h
    obtain ⟨p, n, s, l, hm⟩ := refsOf_mem hr
    exact ⟨ok_low _ (may_ok h) _ _ hm _ _ _ _ rfl, win_top h1 v _ _ hm _ _ _ _ rfl⟩
  · simp at hr

/-- What look finds: -1, or how much is left. -/
def LookP (v : V) (left deep x : Int) : Prop := -1 ≤ x ∧ x ≤ 1000 ∧ (0 ≤ x → v.ok = true ∧ (v.dep : Int) ≤ deep ∧ x = left - (v.size : Int))

theorem look_may {v : V} {x : Int} (h : LookP v 512 16 x) (h0 : 0 ≤ x) : v.may = true := by
  obtain ⟨a, b, c⟩ := h.2.2 h0
  simp [V.may, V.fits, a]
  omega

/-- Where look's loop stands. -/
def LookI (l : List V) (left deep x : Int) (j : Nat) : Prop := 0 ≤ x ∧ (∀ y ∈ l.take j, y.ok = true ∧ (y.dep : Int) ≤ deep - 1) ∧ x = left - 1 - (sizeTo l j : Int)

theorem looki_step {l : List V} {left deep x y : Int} {j : Nat} (h : LookI l left deep x j) (hj : j < l.length) (hy : LookP l[j] x (deep - 1) y) (h0 : 0 ≤ y) : LookI l left deep y (j + 1) := by
  obtain ⟨a, b, c⟩ := hy.2.2 h0
  obtain ⟨h1, h2, h3⟩ := h
  refine ⟨h0, fun z hz => ?_, ?_⟩
  · rw [List.take_succ_eq_append_getElem hj, List.mem_append] at hz
    rcases hz with hz | hz
    · exact h2 z hz
    · simp at hz; subst hz; exact ⟨a, b⟩
  · rw [sizeTo_succ l j hj]
    omega

theorem looki_end {k n : Int} {s : ByteArray} {l : List V} {r left deep x : Int} (h : LookI l left deep x l.length) (hf : fok k n s l.length r = true) (hd : k = 3 → 1 ≤ deep) (hd0 : 0 ≤ deep) (hl : left ≤ 512) : LookP (.mk k n s l r) left deep x := by
  obtain ⟨h1, h2, h3⟩ := h
  rw [List.take_of_length_le (Nat.le_refl _)] at h2
  rw [sizeTo_all] at h3
  refine ⟨by omega, by omega, fun _ => ⟨?_, ?_, ?_⟩⟩
  · rw [V.ok_mk, hf, Bool.true_and, List.all_eq_true]
    exact fun y hy => (h2 y hy).1
  · rw [V.dep_mk]
    split
    · rename_i hk
      have := hd hk
      have : top (l.map V.dep) ≤ (deep - 1).toNat := top_le fun d hd => by
        obtain ⟨y, hy, rfl⟩ := List.mem_map.1 hd
        have := (h2 y hy).2
        omega
      omega
    · omega
  · rw [V.size_mk]; omega

end Go.Proofs.YtlejelbefmkakaaGreat

/- posternref09.Alike: whether two values are one. -/
namespace Go.Proofs.YtlejelbefmkakaaGreat
open Go.RowKit

theorem bytes_extA {a b : ByteArray} (h : a.toList = b.toList) : a = b := by
  obtain ⟨⟨x⟩⟩ := a
  obtain ⟨⟨y⟩⟩ := b
  rw [ByteArray.toList_eq, ByteArray.toList_eq] at h
  simp at h
  rw [h]

/-- Whether two values are one, and no block below turns. -/
def SameP (u v : V) (w : World) (e : Ending) (w' : World) : Prop := ∃ q : Bool, e = .returned (.bool q) ∧ (q = true ↔ u = v) ∧ Fr No w w'

set_option maxRecDepth 100000 in
set_option maxHeartbeats 2000000 in
theorem alike_any (t : T) : ∀ (t' : T) (w : World) (lo hi lo' hi' : Nat), t.In w lo hi → hi ≤ w.heap.size → t'.In w lo' hi' → hi' ≤ w.heap.size → Calls Tryz.prog 97 #[t.val, t'.val] w (SameP t.v t'.v w) := by
  induction t using T.ind with
  | h k n s A cap l r ih =>
    intro t' w lo hi lo' hi' ht hh ht' hh'
    cases t' with
    | mk k' n' s' A' cap' l' r' =>
      rw [T.val_mk, T.val_mk]
      have fr2 := ((Fr.refl No w).alloc (.cells #[.int .u8 k, .int .i64 n, .string s, .slice A l.length cap, .int .i64 r] 28)).alloc (.cells #[.int .u8 k', .int .i64 n', .string s', .slice A' l'.length cap', .int .i64 r'] 28)
      by_cases hk : k = k'
      case neg =>
        have hk' : (k != k') = true := by simpa using hk
        go_enter Tryz.func97, Tryz.ntmps97
        go_wp2
        go_ret
        exact ⟨false, rfl, by rw [T.v_mk, T.v_mk]; simp [hk], fr2⟩
      by_cases hn : n = n'
      case neg =>
        have hn' : (n != n') = true := by simpa using hn
        subst hk
        go_enter Tryz.func97, Tryz.ntmps97
        go_wp2
        go_ret
        exact ⟨false, rfl, by rw [T.v_mk, T.v_mk]; simp [hn], fr2⟩
      by_cases hs : s = s'
      case neg =>
        have hs' : (s.toList == s'.toList) = false := by simpa using fun h => hs (bytes_extA h)
        have hs2 : ¬ s.toList = s'.toList := fun h => hs (bytes_extA h)
        subst hk
        subst hn
        go_enter Tryz.func97, Tryz.ntmps97
        go_wp2
        go_ret
        exact ⟨false, rfl, by rw [T.v_mk, T.v_mk]; simp [hs], fr2⟩
      by_cases hr : r = r'
      case neg =>
        have hr' : (r != r') = true := by simpa using hr
        have HF2 := hide fr2
        subst hk
        subst hn
        subst hs
        go_enter Tryz.func97, Tryz.ntmps97
        go_wp2
        go_ret
        exact ⟨false, rfl, by rw [T.v_mk, T.v_mk]; simp [hr], HF2.out⟩
      by_cases hl : l.length = l'.length
      case neg =>
        have hl' : ((l.length : Int) != (l'.length : Int)) = true := by simp; omega
        subst hk
        subst hn
        subst hs
        subst hr
        go_enter Tryz.func97, Tryz.ntmps97
        go_wp2
        go_ret
        refine ⟨false, rfl, ?_, fr2⟩
        rw [T.v_mk, T.v_mk]
        simp
        intro h
        exact hl (by simpa using congrArg List.length h)
      subst hk
      subst hn
      subst hs
      subst hr
      have hlen := (T.in_mk.1 ht).1.len1
      have hl' : ((l.length : Int) != (l'.length : Int)) = false := by simp; omega
      have HL := hide hl
      clear hl
      go_enter Tryz.func97, Tryz.ntmps97
      go_wp2_with fail
      go_loopw [5] (fun i wr => ∃ j : Nat, j ≤ l.length ∧ i = .int .i64 j ∧ Fr No ((w.alloc (.cells #[.int .u8 k, .int .i64 n, .string s, .slice A l.length cap, .int .i64 r] 28)).alloc (.cells #[.int .u8 k, .int .i64 n, .string s, .slice A' l'.length cap', .int .i64 r] 28)) wr ∧ ∀ i (h : i < j) (h1 : i < l.length) (h2 : i < l'.length), l[i].v = l'[i].v) (fun i _ => l.length - (intOf i).toNat)
      case atStart =>
        exact ⟨0, Nat.zero_le _, rfl, Fr.refl _ _, fun i h => absurd h (by omega)⟩
      case round =>
        obtain ⟨j, hj, rfl, fr, hsame⟩ := hrel
        have hK := ((Blk.new' w 28 #[.int .u8 k, .int .i64 n, .string s, .slice A l.length cap, .int .i64 r] rfl).alloc (.cells #[.int .u8 k, .int .i64 n, .string s, .slice A' l'.length cap', .int .i64 r] 28)).fr fr (fun h => h)
        have hV := (Blk.new' (w.alloc (.cells #[.int .u8 k, .int .i64 n, .string s, .slice A l.length cap, .int .i64 r] 28)) 28 #[.int .u8 k, .int .i64 n, .string s, .slice A' l'.length cap', .int .i64 r] (g := w.heap.size + 1) (by simp)).fr fr (fun h => h)
        have frw := fr2.trans fr
        have hszr := fr.size
        simp at hszr
        by_cases hlt : j < l.length
        · have hlt' : j < l'.length := by have := HL.out; omega
          obtain ⟨b, o, k1, n1, s1, A1, cap1, l1, r1, rfl, hb0, hb1, hx, hin, e0, e1, e2, e3, e4⟩ := T.elem (ht.no frw hh) hlt
          obtain ⟨b', o', k2, n2, s2, A2, cap2, l2, r2, rfl, hb0', hb1', hx', hin', f0, f1, f2, f3, f4⟩ := T.elem (ht'.no frw hh') hlt'
          have IH := ih l[j] (List.getElem_mem hlt) l'[j]
          rw [hx, hx', T.val_mk, T.val_mk] at IH
          obtain ⟨c0, c1, c2, c3, c4, cf⟩ := hK.cells5
          obtain ⟨d0, d1, d2, d3, d4, df⟩ := hV.cells5
          have g0 : b < wr.heap.size := by omega
          have g1 : b' < wr.heap.size := by omega
          have g2 : w.heap.size < wr.heap.size := by omega
          have g3 : w.heap.size + 1 < wr.heap.size := by omega
          have hh0 : hi ≤ wr.heap.size := by omega
          have hh1 : hi' ≤ wr.heap.size := by omega
          have HX := hide hx
          have HX' := hide hx'
          have HF := hide fr
          have HW := hide frw
          have HT := hide ht
          have HT' := hide ht'
          have HS := hide hsame
          clear hx hx' ih hK hV fr frw ht ht' fr2 hsame
          go_wp2_with fail
          go_region_held3 (fun w' => (∀ c i, c < wr.heap.size → w'.cell? ⟨c, i, none⟩ = wr.cell? ⟨c, i, none⟩) ∧ Fr No wr w')
            (first | exact ⟨fun _ _ _ => rfl, Fr.drew (Fr.refl No wr)⟩ | (have hq : Fr No wr _ := (‹_ ∧ Fr No wr _›).2.trans ‹Fr No _ _›; exact ⟨hq.cells, hq⟩))
            (first
              | (go_at_call 97; have hs0 := (‹_ ∧ Fr No wr _›).2; ((with_reducible refine (IH _ lo hi lo' hi' ?_ ?_ ?_ ?_).mono ?_); (exact hin.no hs0 hh0); (exact Nat.le_trans hh0 hs0.size); (exact hin'.no hs0 hh1); (exact Nat.le_trans hh1 hs0.size); rintro e w2 ⟨q, rfl, hq, fr1⟩)))
          cases q with
          | false =>
            go_wp2
            go_ret
            refine ⟨false, rfl, ?_, HW.out.trans (‹_ ∧ Fr No wr _›).2⟩
            rw [T.v_mk, T.v_mk]
            simp
            intro h
            have h1 := congrArg (fun q => q[j]?) h
            simp [hlt, hlt'] at h1
            rw [HX.out, HX'.out] at h1
            exact absurd (hq.2 h1) (by simp)
          | true =>
            go_wp2
            go_roundw
            case rel =>
              refine ⟨j + 1, hlt, by go_num, HF.out.trans (‹_ ∧ Fr No wr _›).2, fun i hi h1 h2 => ?_⟩
              rcases Nat.lt_or_ge i j with h | h
              · exact HS.out i h h1 h2
              · obtain rfl : i = j := by omega
                rw [HX.out, HX'.out]
                exact hq.1 rfl
            case measure => simp [intOf]; omega
        · obtain rfl : l.length = j := by omega
          obtain ⟨c0, c1, c2, c3, c4, cf⟩ := hK.cells5
          obtain ⟨d0, d1, d2, d3, d4, df⟩ := hV.cells5
          have HS := hide hsame
          clear hsame ih
          go_wp2
          go_ret
          refine ⟨true, rfl, ?_, frw⟩
          rw [T.v_mk, T.v_mk]
          simp
          refine List.ext_getElem (by simpa using HL.out) fun i h1 h2 => ?_
          simp at h1 h2
          simpa using HS.out i h1 h1 h2

end Go.Proofs.YtlejelbefmkakaaGreat

/- posternref09: room, Great, Nothing. -/
namespace Go.Proofs.YtlejelbefmkakaaGreat
open Go.RowKit


set_option maxRecDepth 100000 in
set_option maxHeartbeats 4000000 in
theorem room_any (t : T) : ∀ (left : Int) (w : World) (lo hi : Nat), t.In w lo hi → hi ≤ w.heap.size → -3000000000000 ≤ left → left ≤ 20000 →
    Calls Tryz.prog 81 #[t.val, .int .i64 left] w fun e w' => ∃ x : Int, e = .returned (.int .i64 x) ∧ -3000000000000 ≤ x ∧ x ≤ 20000 ∧ Fr No w w' := by
  induction t using T.ind with
  | h k n s A cap l r ih =>
    intro left w lo hi ht hh hl0 hl1
    rw [T.val_mk]
    have fit := (T.in_mk.1 ht).1
    have hlen := fit.len1
    have hs1 := fit.s1
    have fr1 := (Fr.refl No w).alloc (.cells #[.int .u8 k, .int .i64 n, .string s, .slice A l.length cap, .int .i64 r] 28)
    have hK := Blk.new' w 28 #[.int .u8 k, .int .i64 n, .string s, .slice A l.length cap, .int .i64 r] rfl
    by_cases hleft : left < 0
    · clear ih
      go_enter Tryz.func81, Tryz.ntmps81
      go_wp2
      go_ret
      exact ⟨-1, rfl, by omega, by omega, fr1⟩
    · have hleft2 : decide (left < 0) = false := by simpa using hleft
      have hw : IntKind.i64.wrap (left - 1) = left - 1 := IntWalk.i64_in _ (by omega)
      have hw2 : IntKind.i64.wrap (left - 1 - (s.size : Int) / 64) = left - 1 - (s.size : Int) / 64 := IntWalk.i64_in _ (by omega)
      have hw3 : IntKind.i64.wrap ((s.size : Int) / 64) = (s.size : Int) / 64 := IntWalk.i64_in _ (by omega)
      have hb : -3000000000000 ≤ left - 1 - (s.size : Int) / 64 := by omega
      have hb1 : left - 1 - (s.size : Int) / 64 ≤ 20000 := by omega
      have HIH := hide ih
      have HT := hide ht
      clear ih ht fit
      go_enter Tryz.func81, Tryz.ntmps81
      go_wp2_with fail
      generalize left - 1 - (s.size : Int) / 64 = z at *
      go_loopw [1, 5] (fun v i wr => ∃ (j : Nat) (x : Int), j ≤ l.length ∧ i = .int .i64 (j : Int) ∧ v = .int .i64 x ∧ -3000000000000 ≤ x ∧ x ≤ 20000 ∧ Fr No (w.alloc (.cells #[.int .u8 k, .int .i64 n, .string s, .slice A l.length cap, .int .i64 r] 28)) wr) (fun _ i _ => l.length - (intOf i).toNat)
      case atStart => exact ⟨0, z, Nat.zero_le _, rfl, rfl, hb, hb1, Fr.refl _ _⟩
      case round =>
        obtain ⟨j, x, hj, rfl, rfl, hx0, hx1, fr⟩ := hrel
        obtain ⟨d0, d1, d2, d3, d4, df⟩ := (hK.fr fr fun h => h).cells5
        have q0 := (hK.fr fr fun h => h).lt
        have frw := fr1.trans fr
        by_cases hlt : j < l.length
        · by_cases hxn : 0 ≤ x
          · obtain ⟨b, o, k1, n1, s1, A1, cap1, l1, r1, rfl, hb0, hb1', hxx, hin, e0, e1, e2, e3, e4⟩ := T.elem (HT.out.no frw hh) hlt
            have hc := HIH.out l[j] (List.getElem_mem hlt) x wr lo hi (by rw [hxx]; exact hin) (by have := frw.size; omega) (by omega) (by omega)
            rw [hxx, T.val_mk] at hc
            have g0 : b < wr.heap.size := by have := frw.size; omega
            have HC := hide hc
            have HF := hide fr
            clear hc fr frw hxx hin HIH fr1
            go_wp2_with fail
            refine HC.out.mono ?_
            rintro e w2 ⟨y, rfl, hy0, hy1, fr2⟩
            have HF2 := hide (HF.out.trans fr2)
            clear fr2
            go_wp2
            go_roundw
            case rel => exact ⟨j + 1, y, hlt, by go_num, rfl, hy0, hy1, HF2.out⟩
            case measure => simp [intOf]; omega
          · have HW := hide frw
            have hxn2 : decide (x ≥ 0) = false := by simpa using hxn
            clear frw fr fr1 HIH
            go_wp2
            go_ret
            exact ⟨x, rfl, hx0, hx1, HW.out⟩
        · obtain rfl : l.length = j := by omega
          have HW := hide frw
          clear frw fr fr1 HIH
          go_wp2
          go_ret
          exact ⟨x, rfl, hx0, hx1, HW.out⟩

set_option maxRecDepth 100000 in
theorem Great_any (t : T) (w : World) (lo hi : Nat) (ht : t.In w lo hi) (hh : hi ≤ w.heap.size) : Calls Tryz.prog 16 #[t.val] w fun e w' => (∃ q : Bool, e = .returned (.bool q)) ∧ Fr No w w' := by
  obtain ⟨k, n, s, A, cap, l, r⟩ := t
  have f0 := (Fr.refl No w).alloc (.cells #[.int .u8 k, .int .i64 n, .string s, .slice A l.length cap, .int .i64 r] 28)
  have hR := room_any (T.mk k n s A cap l r) 20000 _ lo hi (ht.no f0 hh) (Nat.le_trans hh f0.size) (by omega) (by omega)
  rw [T.val_mk] at *
  have HR := hide hR
  have HF := hide f0
  clear hR f0 ht
  go_enter Tryz.func16, Tryz.ntmps16
  go_wp2_with fail
  refine HR.out.mono ?_
  rintro e w2 ⟨x, rfl, h0, h1, f2⟩
  go_wp2
  go_ret
  exact ⟨⟨_, rfl⟩, HF.out.trans f2⟩

set_option maxRecDepth 100000 in
theorem Nothing_zero (w : World) : Calls Tryz.prog 26 #[.agg #[.int .u8 0, .int .i64 0, .string ⟨#[]⟩, .slice none 0 0, .int .i64 0]] w fun e w' => e = .returned (.bool true) ∧ Fr No w w' := by
  have f0 := (Fr.refl No w).alloc (.cells #[.int .u8 0, .int .i64 0, .string ⟨#[]⟩, .slice none 0 0, .int .i64 0] 28)
  have hin := fun w' : World => (T.ow_nil (w := w') (lo := 0) (hi := 0) (k := 0) (n := 0) (s := ⟨#[]⟩) (A := none) (cap := 0) (r := 0) ⟨by decide, by decide, by decide, by decide, by decide, by decide, by decide, by decide, by decide⟩).inn
  have hA := fun w' : World => alike_any (T.mk 0 0 ⟨#[]⟩ none 0 [] 0) (T.mk 0 0 ⟨#[]⟩ none 0 [] 0) w' 0 0 0 0 (hin w') (Nat.zero_le _) (hin w') (Nat.zero_le _)
  rw [T.val_mk] at hA
  have HA := hide hA
  have HF := hide f0
  clear hA f0 hin
  go_enter Tryz.func26, Tryz.ntmps26
  go_wp2_with fail
  refine (HA.out _).mono ?_
  rintro e w2 ⟨q, rfl, hq, f2⟩
  obtain rfl : q = true := hq.2 rfl
  go_wp2
  go_ret
  exact ⟨rfl, HF.out.trans f2⟩

end Go.Proofs.YtlejelbefmkakaaGreat

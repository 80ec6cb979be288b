/- A table that is not there, and one that no call made. -/
import Derived.Test.YtihjmipmjogpoaaG1
namespace Go.Proofs.Ytihjmipmjogpoaa
open Go.RowKit

/-- A pointer to no table, or to one that no call made. -/
def NoTab (w : World) (p : Option Addr) : Prop := p = none ∨ ∃ g, p = some ⟨g, 0, none⟩ ∧ Blk w g 66 #[.map none, .map none, .int .i64 0]

theorem NoTab.fr {w w' : World} {p : Option Addr} (h : NoTab w p) (f : Fr No w w') : NoTab w' p := by
  rcases h with h | ⟨g, h, b⟩
  · exact .inl h
  · exact .inr ⟨g, h, b.fr f fun h => h⟩

theorem map_eql_nil (w : World) : (binOp .eql 63 (.map none) (.map none)).run Try.prog w = .ok (.bool true) w := by
  have h := run_eql_map_nil (P := Try.prog) w 63 _ _ none Try.underlying63
  simpa using h

theorem none_no (p : Option Addr) (w : World) (h : NoTab w p) : Calls Try.prog 90 #[.pointer p] w fun e w' => e = .returned (.bool true) ∧ w' = w := by
  rcases h with rfl | ⟨g, rfl, b⟩
  · go_enter Try.func90, Try.ntmps90
    go_wp2
    go_ret
    exact ⟨rfl, rfl⟩
  · have c0 := b.cell 0
    simp only [List.getElem?_toArray, List.getElem?_cons_zero] at c0
    have hq := map_eql_nil
    clear b
    go_enter Try.func90, Try.ntmps90
    go_wp2
    go_ret
    exact ⟨rfl, rfl⟩

theorem find_no (p : Option Addr) (a : Value) (h0 : ∃ k n s A l c r, a = .agg #[.int .u8 k, .int .i64 n, .string s, .slice A l c, .int .i64 r]) (w : World) (h : NoTab w p) : Calls Try.prog 91 #[.pointer p, a] w fun e w' => e = .returned (.tuple #[.nilIface, .int .i64 1]) ∧ Fr No w w' := by
  obtain ⟨k, n, s, A, l, c, r, rfl⟩ := h0
  have fr := (Fr.refl No w).alloc (.cells #[.int .u8 k, .int .i64 n, .string s, .slice A l c, .int .i64 r] 27)
  have hN := none_no p _ (h.fr fr)
  go_enter Try.func91, Try.ntmps91
  go_wp2_with fail
  refine hN.mono ?_
  rintro e w' ⟨rfl, rfl⟩
  go_wp2
  go_ret2
  exact ⟨rfl, fr⟩

theorem Len_no (p : Option Addr) (w : World) (h : NoTab w p) : Calls Try.prog 28 #[.pointer p] w fun e w' => e = .returned (.int .i64 0) ∧ w' = w := by
  have hN := none_no p w h
  go_enter Try.func28, Try.ntmps28
  go_wp2_with fail
  refine hN.mono ?_
  rintro e w' ⟨rfl, rfl⟩
  go_wp2
  go_ret
  exact ⟨rfl, rfl⟩

theorem Copy_no (p : Option Addr) (w : World) (h : NoTab w p) : Calls Try.prog 31 #[.pointer p] w fun e w' => e = .returned (.pointer none) ∧ w' = w := by
  have hN := none_no p w h
  go_enter Try.func31, Try.ntmps31
  go_wp2_with fail
  refine hN.mono ?_
  rintro e w' ⟨rfl, rfl⟩
  go_wp2
  go_ret
  exact ⟨rfl, rfl⟩

theorem All_val (p : Option Addr) (w : World) : Calls Try.prog 36 #[.pointer p] w fun e w' => e = .returned (.func (.func 100) #[] #[.pointer (some ⟨w.heap.size, 0, none⟩)]) ∧ Blk w' w.heap.size 39 #[.pointer p] ∧ Fr No w w' := by
  go_enter Try.func36, Try.ntmps36
  go_wp2
  go_ret
  exact ⟨rfl, Blk.new _ _ _, (Fr.refl No w).alloc _⟩

theorem Put_no (p : Option Addr) (a b : Value) (h0 : ∃ k n s A l c r, a = .agg #[.int .u8 k, .int .i64 n, .string s, .slice A l c, .int .i64 r]) (h1 : ∃ k n s A l c r, b = .agg #[.int .u8 k, .int .i64 n, .string s, .slice A l c, .int .i64 r]) (w : World) (h : NoTab w p) :
    Calls Try.prog 26 #[.pointer p, a, b] w fun e w' => e = .returned (tripZ 1) ∧ Fr No w w' := by
  obtain ⟨k, n, s, A, l, c, r, rfl⟩ := h0
  obtain ⟨k', n', s', A', l', c', r', rfl⟩ := h1
  have hW : Fr No w (((w.alloc (.cells #[.int .u8 k, .int .i64 n, .string s, .slice A l c, .int .i64 r] 27)).alloc (.cells #[.int .u8 k', .int .i64 n', .string s', .slice A' l' c', .int .i64 r'] 27)).alloc
      (.cells #[.int .u8 0, .int .i64 0, .string ⟨#[]⟩, .slice none 0 0, .int .i64 0] 27)) := (((Fr.refl No w).alloc _).alloc _).alloc _
  have hN := none_no p _ (h.fr hW)
  go_enter Try.func26, Try.ntmps26
  go_wp2_with fail
  refine hN.mono ?_
  rintro e w' ⟨rfl, rfl⟩
  clear hN
  go_wp2
  refine bodyPost_ret (v := tripZ 1) (by simp [results, Try.results26, go_sem, tripZ, *]) rfl ?_
  refine ⟨rfl, ?_⟩
  repeat (first | with_reducible exact hW | with_reducible refine Fr.setNew ?_ (by first | (simp; done) | (simp; omega)) _)

theorem Get_no (p : Option Addr) (a : Value) (h0 : ∃ k n s A l c r, a = .agg #[.int .u8 k, .int .i64 n, .string s, .slice A l c, .int .i64 r]) (w : World) (h : NoTab w p) :
    Calls Try.prog 30 #[.pointer p, a] w fun e w' => e = .returned (tripZ 1) ∧ Fr No w w' := by
  have h1 := h0
  obtain ⟨k, n, s, A, l, c, r, rfl⟩ := h0
  have hW : Fr No w ((w.alloc (.cells #[.int .u8 k, .int .i64 n, .string s, .slice A l c, .int .i64 r] 27)).alloc (.cells #[.int .u8 0, .int .i64 0, .string ⟨#[]⟩, .slice none 0 0, .int .i64 0] 27)) := ((Fr.refl No w).alloc _).alloc _
  have hZ : Blk ((w.alloc (.cells #[.int .u8 k, .int .i64 n, .string s, .slice A l c, .int .i64 r] 27)).alloc (.cells #[.int .u8 0, .int .i64 0, .string ⟨#[]⟩, .slice none 0 0, .int .i64 0] 27)) (w.heap.size + 1) 27 #[.int .u8 0, .int .i64 0, .string ⟨#[]⟩, .slice none 0 0, .int .i64 0] := Blk.new' (w.alloc _) 27 _ (by simp)
  have hF := find_no p _ h1 _ (h.fr hW)
  clear h1 h
  go_enter Try.func30, Try.ntmps30
  go_wp2_with fail
  generalize World.alloc _ (.cells #[.int .u8 0, .int .i64 0, .string ⟨#[]⟩, .slice none 0 0, .int .i64 0] 27) = W0 at *
  refine hF.mono ?_
  rintro e w4 ⟨rfl, fr4⟩
  have hZ4 := hZ.fr fr4 (fun h => h)
  obtain ⟨d0, d1, d2, d3, d4, df⟩ := hZ4.cells5
  have hF2 := hide (hW.trans fr4)
  have q0 := hZ4.lt
  clear hZ hZ4 hF hW fr4
  go_wp2
  refine bodyPost_ret (v := tripZ 1) (by simp [results, Try.results30, go_sem, tripZ, *]) rfl ?_
  refine ⟨rfl, ?_⟩
  have hF2' := hF2.out
  repeat (first | with_reducible exact hF2' | with_reducible refine Fr.setNew ?_ (by first | (simp; done) | (simp; omega)) _)

theorem Drop_no (p : Option Addr) (a : Value) (h0 : ∃ k n s A l c r, a = .agg #[.int .u8 k, .int .i64 n, .string s, .slice A l c, .int .i64 r]) (w : World) (h : NoTab w p) :
    Calls Try.prog 35 #[.pointer p, a] w fun e w' => e = .returned (.tuple #[.bool false, .int .i64 1]) ∧ Fr No w w' := by
  have h1 := h0
  obtain ⟨k, n, s, A, l, c, r, rfl⟩ := h0
  have hW := (Fr.refl No w).alloc (.cells #[.int .u8 k, .int .i64 n, .string s, .slice A l c, .int .i64 r] 27)
  have hF := find_no p _ h1 _ (h.fr hW)
  clear h1 h
  go_enter Try.func35, Try.ntmps35
  go_wp2_with fail
  refine hF.mono ?_
  rintro e w4 ⟨rfl, fr4⟩
  go_wp2
  go_ret2
  exact ⟨rfl, hW.trans fr4⟩

/-- The walk of what is not there: no round. -/
theorem All1_no (y : Value) (hy : ∃ l, y = .func (.yield l) #[] #[]) (p : Option Addr) (g : Nat) (w : World) (h : NoTab w p) (hb : Blk w g 39 #[.pointer p]) :
    Calls Try.prog 100 #[y, .pointer (some ⟨g, 0, none⟩)] w fun e w' => (∃ v, e = .returned v) ∧ w' = w := by
  obtain ⟨l, rfl⟩ := hy
  have hC := Copy_no p w h
  have c0 := hb.cell 0
  simp only [List.getElem?_toArray, List.getElem?_cons_zero] at c0
  clear hb h
  go_enter Try.func100, Try.ntmps100
  go_wp2_with fail
  refine hC.mono ?_
  rintro e w' ⟨rfl, rfl⟩
  go_wp2
  refine bodyPost_ret (results_none rfl _ _ _) rfl ?_
  exact ⟨⟨_, rfl⟩, rfl⟩

end Go.Proofs.Ytihjmipmjogpoaa

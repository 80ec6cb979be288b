/- Texts joined: Gs, Gb, U1, V, X1, X2, B1. -/
import Derived.Test.YtnddfiohofnbaaaJn1
import Derived.Deep.AppendLies
import Derived.Test.YtnddfiohofnbaaaProg
import Derived.WalkLawsBesides
import Derived.BigQuiet
import Derived.Deep.QuietTactic
import Derived.Deep.LoopGhost
/- The shapes of this program's types: values, expressions, statements, names, things, worlds. -/
namespace Go.Proofs.Ytnddfiohofnbaaa
open Go.Joins Go.ChangeShapes Go.WideShapes Go.RowKit Go.Deep

theorem FitsF.inv_int {k : IntKind} {fs : List Fd} {c : List Value} {s : List (Option Addr × List G)} (h : FitsF (.int k :: fs) c s) : ∃ n c', c = .int k n :: c' ∧ (Lit.int k n).wf = true ∧ FitsF fs c' s := by
  cases c with
  | nil => exact h.elim
  | cons v c => obtain ⟨⟨n, rfl, hw⟩, h2⟩ := h; exact ⟨n, c, rfl, hw, h2⟩
theorem FitsF.inv_bool {fs : List Fd} {c : List Value} {s : List (Option Addr × List G)} (h : FitsF (.bool :: fs) c s) : ∃ b c', c = .bool b :: c' ∧ FitsF fs c' s := by
  cases c with
  | nil => exact h.elim
  | cons v c => obtain ⟨⟨n, rfl⟩, h2⟩ := h; exact ⟨n, c, rfl, h2⟩
theorem FitsF.inv_str {fs : List Fd} {c : List Value} {s : List (Option Addr × List G)} (h : FitsF (.str :: fs) c s) : ∃ (b : ByteArray) (c' : List Value), c = .string b :: c' ∧ b.size ≤ 140737488351232 ∧ FitsF fs c' s := by
  cases c with
  | nil => exact h.elim
  | cons v c => obtain ⟨⟨n, rfl, hw⟩, h2⟩ := h; exact ⟨n, c, rfl, hw, h2⟩
theorem FitsF.inv_sl {e : TypeId} {z : Nat} {fs : List Fd} {c : List Value} {s : List (Option Addr × List G)} (h : FitsF (.sl e z :: fs) c s) :
    ∃ A l cap c' s', c = .slice A l.length cap :: c' ∧ s = (A, l) :: s' ∧ l.length ≤ cap ∧ l.length * z ≤ 140737488351232 ∧ FitsF fs c' s' := by
  cases c with
  | nil => exact h.elim
  | cons v c =>
    cases s with
    | nil => exact h.elim
    | cons x s =>
      obtain ⟨A, l⟩ := x
      obtain ⟨⟨cap, rfl, h1, h3⟩, h2⟩ := h
      exact ⟨A, l, cap, c, s, rfl, rfl, h1, h3, h2⟩
theorem FitsF.inv_nil {c : List Value} {s : List (Option Addr × List G)} (h : FitsF [] c s) : c = [] ∧ s = [] := h

/-- The shapes of this program's types. -/
def flat (t : TypeId) : List Fd :=
  if t = 37 then [.int .u8, .int .i64, .str, .sl 37 64, .int .i64] else
  if t = 167 then [.int .u8, .int .i64, .str, .sl 167 56] else
  if t = 170 then [.int .u8, .str, .str, .int .u8, .int .u8, .int .u8, .int .i64, .str, .sl 167 56, .int .u8, .int .i64, .str, .sl 167 56, .sl 170 256, .sl 170 256, .sl 170 256, .sl 9 16] else
  if t = 139 then [.str, .int .u8, .int .i64, .str, .sl 37 64, .int .i64] else
  if t = 83 then [.int .u8, .int .i64, .int .u8, .int .i64, .str, .sl 37 64, .int .i64, .sl 37 64, .int .i64, .int .i64, .int .i64, .int .i64, .int .u8, .bool, .sl 170 256, .sl 139 80] else
  if t = 129 then [.int .i64, .int .u8, .int .i64, .int .u8, .int .i64, .str, .sl 37 64, .int .i64, .sl 37 64, .int .i64, .int .i64, .int .i64, .int .i64, .int .u8, .bool, .sl 170 256, .sl 139 80] else
  if t = 57 then [.sl 27 8, .sl 3 8, .sl 129 200, .int .i64, .sl 3 8] else
  if t = 27 then [.int .i64] else
  if t = 3 then [.int .i64] else
  if t = 9 then [.str] else
  if t = 52 then [.int .u8] else
  []

theorem flat_val : flat 37 = [.int .u8, .int .i64, .str, .sl 37 64, .int .i64] := by simp [flat]
theorem flat_val_of : flatOf Try.prog 6 37 = some (flat 37) := by kernel_rfl
theorem flat_expr : flat 167 = [.int .u8, .int .i64, .str, .sl 167 56] := by simp [flat]
theorem flat_expr_of : flatOf Try.prog 6 167 = some (flat 167) := by kernel_rfl
theorem flat_stmt : flat 170 = [.int .u8, .str, .str, .int .u8, .int .u8, .int .u8, .int .i64, .str, .sl 167 56, .int .u8, .int .i64, .str, .sl 167 56, .sl 170 256, .sl 170 256, .sl 170 256, .sl 9 16] := by simp [flat]
theorem flat_stmt_of : flatOf Try.prog 6 170 = some (flat 170) := by kernel_rfl
theorem flat_name : flat 139 = [.str, .int .u8, .int .i64, .str, .sl 37 64, .int .i64] := by simp [flat]
theorem flat_name_of : flatOf Try.prog 6 139 = some (flat 139) := by kernel_rfl
theorem flat_what : flat 83 = [.int .u8, .int .i64, .int .u8, .int .i64, .str, .sl 37 64, .int .i64, .sl 37 64, .int .i64, .int .i64, .int .i64, .int .i64, .int .u8, .bool, .sl 170 256, .sl 139 80] := by simp [flat]
theorem flat_what_of : flatOf Try.prog 6 83 = some (flat 83) := by kernel_rfl
theorem flat_entry : flat 129 = [.int .i64, .int .u8, .int .i64, .int .u8, .int .i64, .str, .sl 37 64, .int .i64, .sl 37 64, .int .i64, .int .i64, .int .i64, .int .i64, .int .u8, .bool, .sl 170 256, .sl 139 80] := by simp [flat]
theorem flat_entry_of : flatOf Try.prog 6 129 = some (flat 129) := by kernel_rfl
theorem flat_world : flat 57 = [.sl 27 8, .sl 3 8, .sl 129 200, .int .i64, .sl 3 8] := by simp [flat]
theorem flat_world_of : flatOf Try.prog 6 57 = some (flat 57) := by kernel_rfl
theorem flat_side : flat 27 = [.int .i64] := by simp [flat]
theorem flat_side_of : flatOf Try.prog 6 27 = some (flat 27) := by kernel_rfl
theorem flat_int : flat 3 = [.int .i64] := by simp [flat]
theorem flat_int_of : flatOf Try.prog 6 3 = some (flat 3) := by kernel_rfl
theorem flat_str : flat 9 = [.str] := by simp [flat]
theorem flat_str_of : flatOf Try.prog 6 9 = some (flat 9) := by kernel_rfl
theorem flat_able : flat 52 = [.int .u8] := by simp [flat]
theorem flat_able_of : flatOf Try.prog 6 52 = some (flat 52) := by kernel_rfl

/-- The types that are met in lists. -/
def Met (t : TypeId) : Prop := t = 37 ∨ t = 167 ∨ t = 170 ∨ t = 139 ∨ t = 129 ∨ t = 27 ∨ t = 3 ∨ t = 9 ∨ t = 52

theorem met_flat (t : TypeId) (h : Met t) : flatOf Try.prog 6 t = some (flat t) := by
  rcases h with rfl | rfl | rfl | rfl | rfl | rfl | rfl | rfl | rfl
  · exact flat_val_of
  · exact flat_expr_of
  · exact flat_stmt_of
  · exact flat_name_of
  · exact flat_entry_of
  · exact flat_side_of
  · exact flat_int_of
  · exact flat_str_of
  · exact flat_able_of

theorem met_closed (t : TypeId) (h : Met t) : ∀ e ∈ sls (flat t), Met e := by
  rcases h with rfl | rfl | rfl | rfl | rfl | rfl | rfl | rfl | rfl
  · rw [flat_val]; simp [sls, Met]
  · rw [flat_expr]; simp [sls, Met]
  · rw [flat_stmt]; simp [sls, Met]
  · rw [flat_name]; simp [sls, Met]
  · rw [flat_entry]; simp [sls, Met]
  · rw [flat_side]; simp [sls]
  · rw [flat_int]; simp [sls]
  · rw [flat_str]; simp [sls]
  · rw [flat_able]; simp [sls]

theorem met_cells (t : TypeId) (h : Met t) : Try.prog.cellsOf t = (flat t).length ∧ 0 < (flat t).length := by
  rcases h with rfl | rfl | rfl | rfl | rfl | rfl | rfl | rfl | rfl
  · rw [flat_val]; exact ⟨by kernel_rfl, by decide⟩
  · rw [flat_expr]; exact ⟨by kernel_rfl, by decide⟩
  · rw [flat_stmt]; exact ⟨by kernel_rfl, by decide⟩
  · rw [flat_name]; exact ⟨by kernel_rfl, by decide⟩
  · rw [flat_entry]; exact ⟨by kernel_rfl, by decide⟩
  · rw [flat_side]; exact ⟨by kernel_rfl, by decide⟩
  · rw [flat_int]; exact ⟨by kernel_rfl, by decide⟩
  · rw [flat_str]; exact ⟨by kernel_rfl, by decide⟩
  · rw [flat_able]; exact ⟨by kernel_rfl, by decide⟩

/-- A tree of this program. -/
abbrev Ty (t : TypeId) (g : G) : Prop := HasTy flat t g

theorem Ty.kids {t : TypeId} {c : List Value} {subs : List (Option Addr × List G)} (h : Ty t (.mk c subs)) (i : Nat) (e : TypeId) {A : Option Addr} {l : List G} (he : (sls (flat t))[i]? = some e) (hs : subs[i]? = some (A, l)) : ∀ x ∈ l, Ty e x := by
  cases h with
  | mk _ _ _ h hk => exact fun x hx => hk i e A l x he hs hx

theorem Ty.fits {t : TypeId} {c : List Value} {subs : List (Option Addr × List G)} (h : Ty t (.mk c subs)) : FitsF (flat t) c subs := by
  cases h with
  | mk _ _ _ h hk => exact h

theorem ty_num {t : TypeId} {k : IntKind} (hf : flat t = [.int k]) {g : G} (h : Ty t g) : ∃ n, g = .mk [.int k n] [] ∧ (Lit.int k n).wf = true := by
  obtain ⟨c, s⟩ := g
  have h0 := h.fits
  rw [hf] at h0
  obtain ⟨n, c, rfl, hw, h0⟩ := h0.inv_int
  obtain ⟨rfl, rfl⟩ := h0.inv_nil
  exact ⟨n, rfl, hw⟩

theorem ty_str {g : G} (h : Ty 9 g) : ∃ s : ByteArray, g = .mk [.string s] [] ∧ s.size ≤ 140737488351232 := by
  obtain ⟨c, s⟩ := g
  have h0 := h.fits
  rw [flat_str] at h0
  obtain ⟨n, c, rfl, hw, h0⟩ := h0.inv_str
  obtain ⟨rfl, rfl⟩ := h0.inv_nil
  exact ⟨n, rfl, hw⟩

/-- The bounds of an expression's own fields. -/
structure FitE (k n : Int) (s : ByteArray) (len cap : Nat) : Prop where
  k0 : 0 ≤ k
  k1 : k < 256
  n0 : -9223372036854775808 ≤ n
  n1 : n ≤ 9223372036854775807
  s1 : s.size ≤ 140737488351232
  len1 : len * 56 ≤ 140737488351232
  cap1 : len ≤ cap

theorem ty_expr {g : G} (h : Ty 167 g) : ∃ k n s A cap l, g = .mk [.int .u8 k, .int .i64 n, .string s, .slice A l.length cap] [(A, l)] ∧ FitE k n s l.length cap ∧ ∀ x ∈ l, Ty 167 x := by
  obtain ⟨c, s⟩ := g
  have h0 := h.fits
  rw [flat_expr] at h0
  obtain ⟨k, c, rfl, w1, h0⟩ := h0.inv_int
  obtain ⟨n, c, rfl, w2, h0⟩ := h0.inv_int
  obtain ⟨b, c, rfl, w3, h0⟩ := h0.inv_str
  obtain ⟨A, l, cap, c, s, rfl, rfl, w4, w5, h0⟩ := h0.inv_sl
  obtain ⟨rfl, rfl⟩ := h0.inv_nil
  exact ⟨k, n, b, A, cap, l, rfl, ⟨(wf_u8 w1).1, (wf_u8 w1).2, (wf_i64 w2).1, (wf_i64 w2).2, w3, w5, w4⟩, h.kids 0 _ (by rw [flat_expr]; rfl) rfl⟩

/-- The bounds of a statement's own fields. -/
structure FitS (op : Int) (nm sc : ByteArray) (ab wh : Int) (th el co wi : Nat) (c1 c2 c3 c4 : Nat) : Prop where
  op0 : 0 ≤ op ∧ op < 256
  nm1 : nm.size ≤ 140737488351232
  sc1 : sc.size ≤ 140737488351232
  ab0 : 0 ≤ ab ∧ ab < 256
  wh0 : 0 ≤ wh ∧ wh < 256
  th1 : th * 256 ≤ 140737488351232 ∧ th ≤ c1
  el1 : el * 256 ≤ 140737488351232 ∧ el ≤ c2
  co1 : co * 256 ≤ 140737488351232 ∧ co ≤ c3
  wi1 : wi * 16 ≤ 140737488351232 ∧ wi ≤ c4

/-- A statement's cells. -/
def stC (op : Int) (nm sc : ByteArray) (ab wh : Int) (k1 n1 : Int) (s1 : ByteArray) (A1 : Option Addr) (l1 z1 : Nat) (k2 n2 : Int) (s2 : ByteArray) (A2 : Option Addr) (l2 z2 : Nat) (A3 : Option Addr) (l3 z3 : Nat) (A4 : Option Addr) (l4 z4 : Nat) (A5 : Option Addr) (l5 z5 : Nat) (A6 : Option Addr) (l6 z6 : Nat) : List Value :=
  [.int .u8 op, .string nm, .string sc, .int .u8 ab, .int .u8 wh, .int .u8 k1, .int .i64 n1, .string s1, .slice A1 l1 z1, .int .u8 k2, .int .i64 n2, .string s2, .slice A2 l2 z2, .slice A3 l3 z3, .slice A4 l4 z4, .slice A5 l5 z5, .slice A6 l6 z6]

theorem ty_stmt {g : G} (h : Ty 170 g) : ∃ op nm sc ab wh k1 n1 s1 A1 l1 z1 k2 n2 s2 A2 l2 z2 A3 l3 z3 A4 l4 z4 A5 l5 z5 A6 l6 z6,
    g = .mk (stC op nm sc ab wh k1 n1 s1 A1 (List.length l1) z1 k2 n2 s2 A2 (List.length l2) z2 A3 (List.length l3) z3 A4 (List.length l4) z4 A5 (List.length l5) z5 A6 (List.length l6) z6) [(A1, l1), (A2, l2), (A3, l3), (A4, l4), (A5, l5), (A6, l6)] ∧
    FitS op nm sc ab wh (List.length l3) (List.length l4) (List.length l5) (List.length l6) z3 z4 z5 z6 ∧ FitE k1 n1 s1 (List.length l1) z1 ∧ FitE k2 n2 s2 (List.length l2) z2 ∧
    (∀ x ∈ l1, Ty 167 x) ∧ (∀ x ∈ l2, Ty 167 x) ∧ (∀ x ∈ l3, Ty 170 x) ∧ (∀ x ∈ l4, Ty 170 x) ∧ (∀ x ∈ l5, Ty 170 x) ∧ ∀ x ∈ l6, Ty 9 x := by
  obtain ⟨c, s⟩ := g
  have h0 := h.fits
  rw [flat_stmt] at h0
  obtain ⟨op, c, rfl, w1, h0⟩ := h0.inv_int
  obtain ⟨nm, c, rfl, w2, h0⟩ := h0.inv_str
  obtain ⟨sc, c, rfl, w3, h0⟩ := h0.inv_str
  obtain ⟨ab, c, rfl, w4, h0⟩ := h0.inv_int
  obtain ⟨wh, c, rfl, w5, h0⟩ := h0.inv_int
  obtain ⟨k1, c, rfl, w6, h0⟩ := h0.inv_int
  obtain ⟨n1, c, rfl, w7, h0⟩ := h0.inv_int
  obtain ⟨s1, c, rfl, w8, h0⟩ := h0.inv_str
  obtain ⟨A1, l1, z1, c, s, rfl, rfl, w9, w10, h0⟩ := h0.inv_sl
  obtain ⟨k2, c, rfl, w11, h0⟩ := h0.inv_int
  obtain ⟨n2, c, rfl, w12, h0⟩ := h0.inv_int
  obtain ⟨s2, c, rfl, w13, h0⟩ := h0.inv_str
  obtain ⟨A2, l2, z2, c, s, rfl, rfl, w14, w15, h0⟩ := h0.inv_sl
  obtain ⟨A3, l3, z3, c, s, rfl, rfl, w16, w17, h0⟩ := h0.inv_sl
  obtain ⟨A4, l4, z4, c, s, rfl, rfl, w18, w19, h0⟩ := h0.inv_sl
  obtain ⟨A5, l5, z5, c, s, rfl, rfl, w20, w21, h0⟩ := h0.inv_sl
  obtain ⟨A6, l6, z6, c, s, rfl, rfl, w22, w23, h0⟩ := h0.inv_sl
  obtain ⟨rfl, rfl⟩ := h0.inv_nil
  have hs : sls (flat 170) = [167, 167, 170, 170, 170, 9] := by rw [flat_stmt]; rfl
  exact ⟨op, nm, sc, ab, wh, k1, n1, s1, A1, l1, z1, k2, n2, s2, A2, l2, z2, A3, l3, z3, A4, l4, z4, A5, l5, z5, A6, l6, z6, rfl,
    ⟨wf_u8 w1, w2, w3, wf_u8 w4, wf_u8 w5, ⟨w17, w16⟩, ⟨w19, w18⟩, ⟨w21, w20⟩, ⟨w23, w22⟩⟩, ⟨(wf_u8 w6).1, (wf_u8 w6).2, (wf_i64 w7).1, (wf_i64 w7).2, w8, w10, w9⟩, ⟨(wf_u8 w11).1, (wf_u8 w11).2, (wf_i64 w12).1, (wf_i64 w12).2, w13, w15, w14⟩,
    h.kids 0 _ (by rw [hs]; rfl) rfl, h.kids 1 _ (by rw [hs]; rfl) rfl, h.kids 2 _ (by rw [hs]; rfl) rfl, h.kids 3 _ (by rw [hs]; rfl) rfl, h.kids 4 _ (by rw [hs]; rfl) rfl, h.kids 5 _ (by rw [hs]; rfl) rfl⟩

/-- A value's tree. -/
theorem ty_val (g : G) : Ty 37 g → ∃ t : T, g.c = t.cells ∧ ∀ (w : World) (lo hi : Nat), g.In w lo hi → t.In w lo hi := by
  induction g using G.ind with
  | h c s ih =>
    intro h
    have h0 := h.fits
    rw [flat_val] at h0
    obtain ⟨k, c, rfl, w1, h0⟩ := h0.inv_int
    obtain ⟨n, c, rfl, w2, h0⟩ := h0.inv_int
    obtain ⟨b, c, rfl, w3, h0⟩ := h0.inv_str
    obtain ⟨A, l, cap, c, s, rfl, rfl, w4, w5, h0⟩ := h0.inv_sl
    obtain ⟨r, c, rfl, w6, h0⟩ := h0.inv_int
    obtain ⟨rfl, rfl⟩ := h0.inv_nil
    have hk := h.kids 0 _ (by rw [flat_val]; rfl) rfl
    have hone : ∀ i, i < l.length → ∃ t : T, ∃ x, l[i]? = some x ∧ x.c = t.cells ∧ ∀ (w : World) (lo hi : Nat), x.In w lo hi → t.In w lo hi := fun i hi => by
      have hm := List.getElem_mem hi
      obtain ⟨t, h1, h2⟩ := ih A l (by simp) l[i] hm (hk _ hm)
      exact ⟨t, l[i], List.getElem?_eq_getElem hi, h1, h2⟩
    obtain ⟨ts, hts, hq⟩ := choose_list l.length hone
    refine ⟨.mk k n b A cap ts r, by simp [G.c, T.cells, hts], fun w lo hi hin => ?_⟩
    rw [G.in_mk] at hin
    obtain ⟨h1, h2⟩ := hin A l (by simp)
    refine T.in_mk.2 ⟨⟨(wf_u8 w1).1, (wf_u8 w1).2, (wf_i64 w2).1, (wf_i64 w2).2, w3, by rw [hts]; exact w5, by rw [hts]; exact w4, (wf_i64 w6).1, (wf_i64 w6).2⟩, fun hne => ?_, fun x hx => ?_⟩
    · obtain ⟨b, o, rfl, hb0, hb1, hc⟩ := h1 (by rintro rfl; simp at hts; exact hne hts)
      refine ⟨b, o, rfl, hb0, hb1, fun i x hx j u hu => ?_⟩
      obtain ⟨y, hy, hc1, -⟩ := hq i x hx
      have := hc i y hy j u (by rw [hc1]; exact hu)
      rwa [hc1, T.cells_length] at this
    · obtain ⟨i, hi', rfl⟩ := List.mem_iff_getElem.1 hx
      obtain ⟨y, hy, -, hc2⟩ := hq i _ (List.getElem?_eq_getElem hi')
      exact hc2 w lo hi (h2 y (List.mem_of_getElem? hy))

/-- Some values' trees. -/
theorem ty_vals {l : List G} (h : ∀ x ∈ l, Ty 37 x) : ∃ ts : List T, ts.length = l.length ∧ ∀ (A : Option Addr) (c : List Value) (subs : List (Option Addr × List G)) (w : World) (lo hi : Nat), (A, l) ∈ subs → (G.mk c subs).In w lo hi → (ts ≠ [] → ∃ b o, A = some ⟨b, o, none⟩ ∧ lo ≤ b ∧ b < hi ∧ ∀ i x, ts[i]? = some x → Five w b (o + i * 5) x) ∧ ∀ x ∈ ts, x.In w lo hi := by
  have hone : ∀ i, i < l.length → ∃ t : T, ∃ x, l[i]? = some x ∧ x.c = t.cells ∧ ∀ (w : World) (lo hi : Nat), x.In w lo hi → t.In w lo hi := fun i hi => by
    have hm := List.getElem_mem hi
    obtain ⟨t, h1, h2⟩ := ty_val l[i] (h _ hm)
    exact ⟨t, l[i], List.getElem?_eq_getElem hi, h1, h2⟩
  obtain ⟨ts, hts, hq⟩ := choose_list l.length hone
  refine ⟨ts, hts, fun A c subs w lo hi hA hin => ?_⟩
  rw [G.in_mk] at hin
  obtain ⟨h1, h2⟩ := hin A l hA
  refine ⟨fun hne => ?_, fun x hx => ?_⟩
  · obtain ⟨b, o, rfl, hb0, hb1, hc⟩ := h1 (by rintro rfl; simp at hts; exact hne hts)
    refine ⟨b, o, rfl, hb0, hb1, fun i x hx j u hu => ?_⟩
    obtain ⟨y, hy, hc1, -⟩ := hq i x hx
    have := hc i y hy j u (by rw [hc1]; exact hu)
    rwa [hc1, T.cells_length] at this
  · obtain ⟨i, hi', rfl⟩ := List.mem_iff_getElem.1 hx
    obtain ⟨y, hy, -, hc2⟩ := hq i _ (List.getElem?_eq_getElem hi')
    exact hc2 w lo hi (h2 y (List.mem_of_getElem? hy))

end Go.Proofs.Ytnddfiohofnbaaa

/- Trees of any type: their blocks; trees without addresses; rows of trees. -/
namespace Go.Proofs.Ytnddfiohofnbaaa
open Go.Joins Go.ChangeShapes Go.WideShapes Go.RowKit Go.Deep

/-- A block of a tree. -/
inductive G.Has (b : Nat) : G → Prop
  | here {c : List Value} {subs : List (Option Addr × List G)} {a : Addr} {l : List G} (h : (some a, l) ∈ subs) (hl : l ≠ []) (ha : a.block = b) : G.Has b (.mk c subs)
  | sub {c : List Value} {subs : List (Option Addr × List G)} {A : Option Addr} {l : List G} {x : G} (h : (A, l) ∈ subs) (hx : x ∈ l) (hh : G.Has b x) : G.Has b (.mk c subs)

theorem G.In.has {w : World} {lo hi b : Nat} {g : G} (h : g.Has b) : g.In w lo hi → lo ≤ b ∧ b < hi := by
  induction h with
  | here h hl ha =>
    intro hin
    rw [G.in_mk] at hin
    obtain ⟨b, o, e, h0, h1, -⟩ := (hin _ _ h).1 hl
    injection e with e
    subst e ha
    exact ⟨h0, h1⟩
  | sub h hx hh ih =>
    intro hin
    rw [G.in_mk] at hin
    exact ih ((hin _ _ h).2 _ hx)

theorem G.In.keepH {w w' : World} {lo hi : Nat} (g : G) : g.In w lo hi → (∀ b, g.Has b → ∀ o, w'.cell? ⟨b, o, none⟩ = w.cell? ⟨b, o, none⟩) → g.In w' lo hi := by
  induction g using G.ind with
  | h c subs ih =>
    intro h hk
    rw [G.in_mk] at h ⊢
    intro A l hs
    obtain ⟨h1, h2⟩ := h A l hs
    refine ⟨fun hl => ?_, fun x hx => ih A l hs x hx (h2 x hx) fun b hb o => hk b (.sub hs hx hb) o⟩
    obtain ⟨b, o, rfl, hb0, hb1, hc⟩ := h1 hl
    exact ⟨b, o, rfl, hb0, hb1, fun i x hx j u hu => (hk b (.here hs hl rfl) _).trans (hc i x hx j u hu)⟩

theorem G.In.frH {S : Nat → Prop} {w w' : World} {lo hi : Nat} {g : G} (h : g.In w lo hi) (hf : Fr S w w') (hh : hi ≤ w.heap.size) (hs : ∀ b, g.Has b → ¬ S b) : g.In w' lo hi :=
  G.In.keepH g h fun b hb _ => hf.cell (by have := (G.In.has hb h).2; omega) (hs b hb)

/-- The blocks of a tree have the types of lists. -/
def G.Td (w : World) (g : G) : Prop := ∀ b, g.Has b → ∃ e cs, (e = 37 ∨ e = 167 ∨ e = 170 ∨ e = 139 ∨ e = 9) ∧ Blk w b e cs

theorem G.Td.fr {S : Nat → Prop} {w w' : World} {g : G} (h : g.Td w) (hf : Fr S w w') (hs : ∀ b, g.Has b → ¬ S b) : g.Td w' := fun b hb => by
  obtain ⟨e, cs, he, hb'⟩ := h b hb
  exact ⟨e, cs, he, hb'.fr hf (hs b hb)⟩

/-- A row of trees. -/
def G.row (A : Option Addr) (l : List G) : G := .mk [] [(A, l)]

theorem G.row_in {w : World} {lo hi : Nat} {A : Option Addr} {l : List G} : (G.row A l).In w lo hi ↔ (l ≠ [] → ∃ b o, A = some ⟨b, o, none⟩ ∧ lo ≤ b ∧ b < hi ∧ ∀ i x, l[i]? = some x → ∀ j u, x.c[j]? = some u → w.cell? ⟨b, o + i * x.c.length + j, none⟩ = some u) ∧ ∀ x ∈ l, x.In w lo hi := by
  unfold G.row
  rw [G.in_mk]
  constructor
  · intro h; exact h A l (by simp)
  · intro h A' l' hs
    simp at hs
    obtain ⟨rfl, rfl⟩ := hs
    exact h

theorem G.in_rows {w : World} {lo hi : Nat} {c : List Value} {subs : List (Option Addr × List G)} : (G.mk c subs).In w lo hi ↔ ∀ A l, (A, l) ∈ subs → (G.row A l).In w lo hi := by
  rw [G.in_mk]
  constructor
  · intro h A l hs; exact G.row_in.2 (h A l hs)
  · intro h A l hs; exact G.row_in.1 (h A l hs)

theorem G.row_has {b : Nat} {A : Option Addr} {l : List G} (h : (G.row A l).Has b) : (∃ a, A = some a ∧ l ≠ [] ∧ a.block = b) ∨ ∃ x ∈ l, x.Has b := by
  unfold G.row at h
  cases h with
  | here h hl ha =>
    simp at h
    obtain ⟨rfl, rfl⟩ := h
    exact .inl ⟨_, rfl, hl, ha⟩
  | sub h hx hh =>
    simp at h
    obtain ⟨rfl, rfl⟩ := h
    exact .inr ⟨_, hx, hh⟩

theorem G.mk_has {b : Nat} {c : List Value} {subs : List (Option Addr × List G)} : (G.mk c subs).Has b ↔ ∃ A l, (A, l) ∈ subs ∧ (G.row A l).Has b := by
  constructor
  · intro h
    cases h with
    | here h hl ha => exact ⟨_, _, h, .here (List.mem_singleton.2 rfl) hl ha⟩
    | sub h hx hh => exact ⟨_, _, h, .sub (List.mem_singleton.2 rfl) hx hh⟩
  · rintro ⟨A, l, h, hr⟩
    rcases G.row_has hr with ⟨a, rfl, hl, ha⟩ | ⟨x, hx, hh⟩
    · exact .here h hl ha
    · exact .sub h hx hh

/-- The cells of a row of trees. -/
def gCells (l : List G) : List Value := l.flatMap G.c

theorem gCells_length {l : List G} {n : Nat} (h : ∀ x ∈ l, x.c.length = n) : (gCells l).length = l.length * n := by
  induction l with
  | nil => simp [gCells]
  | cons x l ih =>
    have := ih fun y hy => h y (by simp [hy])
    simp only [gCells, List.flatMap_cons, List.length_append] at this ⊢
    rw [this, h x (by simp)]
    simp only [List.length_cons]
    rw [Nat.add_mul]
    omega

theorem gCells_get {n : Nat} : ∀ {l : List G}, (∀ x ∈ l, x.c.length = n) → ∀ {i j : Nat} {x : G} {u : Value}, l[i]? = some x → x.c[j]? = some u → (gCells l)[i * n + j]? = some u
  | [], _, i, j, x, u, h, _ => by simp at h
  | y :: l, hl, 0, j, x, u, h, hu => by
    simp at h; subst h
    simp only [gCells, List.flatMap_cons, Nat.zero_mul, Nat.zero_add]
    rw [List.getElem?_append_left (List.getElem?_eq_some_iff.1 hu).1]
    exact hu
  | y :: l, hl, i + 1, j, x, u, h, hu => by
    simp only [List.getElem?_cons_succ] at h
    have := gCells_get (fun z hz => hl z (by simp [hz])) h hu
    have hy := hl y (by simp)
    simp only [gCells, List.flatMap_cons] at this ⊢
    rw [List.getElem?_append_right (by rw [hy, Nat.add_mul]; omega), hy, show (i + 1) * n + j - n = i * n + j by rw [Nat.add_mul]; omega]
    exact this

theorem gCells_snoc (l : List G) (x : G) : gCells (l ++ [x]) = gCells l ++ x.c := by simp [gCells]

/-- One of a row. -/
theorem G.row_at {w : World} {lo hi : Nat} {A : Option Addr} {l : List G} (h : (G.row A l).In w lo hi) {i : Nat} (hi' : i < l.length) :
    ∃ b o, A = some ⟨b, o, none⟩ ∧ lo ≤ b ∧ b < hi ∧ l[i].In w lo hi ∧ ∀ j u, l[i].c[j]? = some u → w.cell? ⟨b, o + i * l[i].c.length + j, none⟩ = some u := by
  obtain ⟨h1, h2⟩ := G.row_in.1 h
  obtain ⟨b, o, rfl, h0, h3, hc⟩ := h1 (by rintro rfl; simp at hi')
  exact ⟨b, o, rfl, h0, h3, h2 _ (List.getElem_mem hi'), hc i _ (List.getElem?_eq_getElem hi')⟩

/-! ### Trees without addresses -/

def erV : Value → Value
  | .slice _ n _ => .slice none n 0
  | v => v

/-- A tree without addresses. -/
def G.er : G → G
  | .mk c subs => .mk (c.map erV) (subs.attach.map fun s => (none, s.1.2.attach.map fun x => G.er x.1))
termination_by g => g
decreasing_by
  have h1 := List.sizeOf_lt_of_mem s.2
  have h2 := List.sizeOf_lt_of_mem x.2
  obtain ⟨⟨A, l⟩, hs⟩ := s
  simp at h1 h2 ⊢
  omega

theorem G.er_mk (c : List Value) (subs : List (Option Addr × List G)) : (G.mk c subs).er = .mk (c.map erV) (subs.map fun s => (none, s.2.map G.er)) := by
  rw [G.er]
  congr 1
  have h : ∀ s : { s // s ∈ subs }, ((none : Option Addr), s.1.2.attach.map fun x => G.er x.1) = (none, s.1.2.map G.er) := fun s => by
    rw [List.attach_map_val (f := G.er)]
  rw [List.map_congr_left fun s _ => h s]
  exact List.attach_map_val (f := fun s : Option Addr × List G => ((none : Option Addr), s.2.map G.er))

end Go.Proofs.Ytnddfiohofnbaaa

/- Rows of values in memory: what came in, what was appended. -/
namespace Go.Proofs.Ytnddfiohofnbaaa
open Go.Joins Go.ChangeShapes Go.WideShapes Go.RowKit Go.Deep

/-- Some values that lie one behind the other. -/
def T.row (A : Option Addr) (cap : Nat) (l : List T) : T := .mk 3 0 ⟨#[]⟩ A cap l 0

/-- The cells of some values. -/
def rowCells (l : List T) : List Value := l.flatMap T.cells

theorem rowCells_length (l : List T) : (rowCells l).length = l.length * 5 := by
  induction l with
  | nil => rfl
  | cons x l ih => simp only [rowCells, List.flatMap_cons, List.length_append] at ih ⊢; rw [T.cells_length, ih]; simp only [List.length_cons]; omega

theorem rowCells_get : ∀ (l : List T) (i c : Nat) (x : T) (u : Value), l[i]? = some x → x.cells[c]? = some u → (rowCells l)[i * 5 + c]? = some u
  | [], i, c, x, u, h, _ => by simp at h
  | y :: l, 0, c, x, u, h, hu => by
    simp at h; subst h
    simp only [rowCells, List.flatMap_cons, Nat.zero_mul, Nat.zero_add]
    rw [List.getElem?_append_left]
    · exact hu
    · exact (List.getElem?_eq_some_iff.1 hu).1
  | y :: l, i + 1, c, x, u, h, hu => by
    simp only [List.getElem?_cons_succ] at h
    have := rowCells_get l i c x u h hu
    simp only [rowCells, List.flatMap_cons] at this ⊢
    rw [List.getElem?_append_right (by rw [T.cells_length]; omega), T.cells_length, show (i + 1) * 5 + c - 5 = i * 5 + c by omega]
    exact this

theorem rowCells_snoc (l : List T) (x : T) : rowCells (l ++ [x]) = rowCells l ++ x.cells := by simp [rowCells]

theorem cells_one (x : T) : ∀ u ∈ x.cells, u.oneCell' = true := by
  cases x; simp [T.cells, Value.oneCell']

theorem owns_form {w : World} {base : Nat} {e : TypeId} {size : Nat} {v : Value} {n : Nat} {xs : List Value} (h : w.ownsRow base e size v n xs) : ∃ A cap, v = .slice A n cap := by
  rcases h.2 with ⟨rfl, rfl⟩ | ⟨g, cap, cur, rfl, _⟩
  · exact ⟨_, _, rfl⟩
  · exact ⟨_, _, rfl⟩

/-- A row that the call itself owns, as a row of values. -/
theorem owns_row {w : World} {base : Nat} {A : Option Addr} {cap : Nat} {l : List T} {lo hi : Nat} (h : w.ownsRow base 37 5 (.slice A l.length cap) l.length (rowCells l)) (hl : ∀ x ∈ l, x.In w lo hi) (hlen : l.length * 64 ≤ 140737488351232) (hlo : lo ≤ base) (hhi : hi ≤ w.heap.size) :
    (T.row A cap l).In w lo w.heap.size := by
  rcases h.2 with ⟨hs, h0⟩ | ⟨g, cap', cur, hs, hb, hg, hc, hm, hsz, hx⟩
  · obtain rfl : l = [] := List.eq_nil_of_length_eq_zero h0
    simp at hs
    obtain ⟨rfl, rfl⟩ := hs
    exact T.in_mk.2 ⟨⟨by decide, by decide, by decide, by decide, by decide, by decide, Nat.le_refl _, by decide, by decide⟩, fun h => absurd rfl h, by simp⟩
  · simp at hs
    obtain ⟨rfl, rfl⟩ := hs
    refine T.in_mk.2 ⟨⟨by decide, by decide, by decide, by decide, by decide, hlen, hc, by decide, by decide⟩, fun _ => ⟨g, 0, rfl, by omega, ?_, fun i x hi' c u hu => ?_⟩, fun x hx => T.In.more (Nat.le_refl _) hhi _ (hl x hx)⟩
    · rcases Nat.lt_or_ge g w.heap.size with hlt | hge
      · exact hlt
      · rw [Array.getElem?_eq_none hge] at hg; cases hg
    · have hcell : w.cell? ⟨g, 0 + i * 5 + c, none⟩ = cur[0 + i * 5 + c]? := cell_of_row w g _ cur 37 (0, 0) hg
      rw [hcell, Nat.zero_add]
      have h1 := rowCells_get l i c x u hi' hu
      rw [← hx, List.getElem?_take] at h1
      split at h1
      · simpa using h1
      · cases h1

theorem owns_lt {w : World} {base : Nat} {e : TypeId} {size : Nat} {v : Value} {n : Nat} {xs : List Value} (h : w.ownsRow base e size v n xs) : ∀ g, v.ownBlock = some g → base ≤ g ∧ g < w.heap.size := by
  intro g hg
  rcases h.2 with ⟨rfl, h0⟩ | ⟨g', cap', cur, rfl, hb, hh, _⟩
  · cases hg
  · simp [Value.ownBlock] at hg
    subst hg
    refine ⟨hb, ?_⟩
    rcases Nat.lt_or_ge g' w.heap.size with hlt | hge
    · exact hlt
    · rw [Array.getElem?_eq_none hge] at hh; cases hh

theorem owns_fr {S : Nat → Prop} {a w : World} {base : Nat} {e : TypeId} {size : Nat} {v : Value} {n : Nat} {xs : List Value} (h : a.ownsRow base e size v n xs) (hf : Fr S a w) (hn : ∀ g, v.ownBlock = some g → ¬ S g) : w.ownsRow base e size v n xs := by
  have hl := owns_lt h
  refine ⟨h.1, ?_⟩
  rcases h.2 with h0 | ⟨g, cap, cur, rfl, hb, hg, hr⟩
  · exact .inl h0
  · exact .inr ⟨g, cap, cur, rfl, hb, (hf.block g (hl g rfl).2 (hn g rfl)).trans hg, hr⟩

/-- The cells of one of a row's values. -/
theorem T.cells_at {w : World} {lo hi b o : Nat} {k n : Int} {s : ByteArray} {cap : Nat} {l : List T} {r : Int} (h : (T.mk k n s (some ⟨b, o, none⟩) cap l r).In w lo hi) {j : Nat} (hj : j < l.length) {k1 n1 : Int} {s1 : ByteArray} {A1 : Option Addr} {cap1 : Nat} {l1 : List T} {r1 : Int}
    (hx : l[j] = T.mk k1 n1 s1 A1 cap1 l1 r1) :
    w.cell? ⟨b, o + j * 5, none⟩ = some (.int .u8 k1) ∧ w.cell? ⟨b, o + j * 5 + 1, none⟩ = some (.int .i64 n1) ∧ w.cell? ⟨b, o + j * 5 + 2, none⟩ = some (.string s1) ∧
      w.cell? ⟨b, o + j * 5 + 3, none⟩ = some (.slice A1 l1.length cap1) ∧ w.cell? ⟨b, o + j * 5 + 4, none⟩ = some (.int .i64 r1) := by
  obtain ⟨b', o', k2, n2, s2, A2, cap2, l2, r2, hbb, _, _, hx', _, e0, e1, e2, e3, e4⟩ := T.elem h hj
  simp only [Option.some.injEq, Addr.mk.injEq, and_true] at hbb
  obtain ⟨rfl, rfl⟩ := hbb
  rw [hx] at hx'
  injection hx' with q1 q2 q3 q4 q5 q6 q7
  subst q1 q2 q3 q4 q5 q6 q7
  exact ⟨e0, e1, e2, e3, e4⟩

theorem value_row : (Try.prog.info? 37).map (fun i => (i.zero, i.size, i.bytes)) = some (some (.agg #[.int .u8 0, .int .i64 0, .string ⟨#[]⟩, .slice none 0 0, .int .i64 0]), 5, 64) := by kernel_rfl

section
variable {H : Type} {enc : TypeId × Value → H}

set_option maxRecDepth 100000 in
/-- An argument of the type []Value. -/
theorem open_vals {W : World} {b0 : Nat} {v : Value} {d : DataW H} {p : List MemPlace} (hv : Value.okWide Try.prog W .any b0 35 v) (h : DataW.Trod enc Try.prog W 0 (fun _ => true) true 35 v d p) (hw : ∀ m ∈ d.weights Try.prog 35, m ≤ reachBytes) :
    ∃ A cap l, v = .slice A l.length cap ∧ (T.row A cap l).In W 0 W.heap.size := by
  obtain ⟨A, len, cap, rfl⟩ := okWide_slice Try.underlying35 hv
  obtain ⟨fuel, hf⟩ := h
  have hcs : Value.cells (.slice A len cap) = #[.slice A len cap] := rfl
  rw [hcs] at hf
  rcases DataW.trod_slice Try.underlying35 hf with ⟨e3, -⟩ | ⟨a, len', cap', elems, rest, n', rfl, e3, e5, -, hcap, hmax, hel, hat, hsp, -⟩
  · simp at e3
    obtain ⟨rfl, rfl, rfl⟩ := e3
    exact ⟨none, 0, [], rfl, T.in_mk.2 ⟨⟨by decide, by decide, by decide, by decide, by decide, by decide, Nat.le_refl _, by decide, by decide⟩, fun h => absurd rfl h, by simp⟩⟩
  · simp at e3
    obtain ⟨rfl, rfl, rfl⟩ := e3
    simp only [Prod.mk.injEq] at e5
    obtain ⟨rfl, -⟩ := e5
    have hlen1 : len * 64 ≤ 140737488351232 := by
      have := hw ((elems.length + rest.length) * 64) (by rw [weights24]; simp)
      rw [reach_eq, hel] at this
      omega
    rw [cells27] at hat
    have hone : ∀ i, i < len → ∃ t : T, (∀ j u, t.cells[j]? = some u → W.cell? ((a.add (i * 5)).add j) = some u) ∧ t.In W 0 W.heap.size := by
      intro i hi
      have h1 := hat i hi
      have h2 : elems[i]? = some (elems[i]'(by omega)) := List.getElem?_eq_getElem (by omega)
      rw [h2] at h1
      obtain ⟨cs', hc, ht'⟩ := Option.bind_eq_some_iff.1 h1
      obtain ⟨t, rfl, hin⟩ := open_tree W n' cs' _ ht' (fun m hm => hw m (by
        rw [weights24]
        refine List.mem_cons_of_mem _ (List.mem_append_left _ ?_)
        exact mem_weightsAll (List.mem_map_of_mem (List.getElem_mem _)) hm))
      obtain ⟨-, hcl, hcell⟩ := World.cells?_some hc
      refine ⟨t, fun j u hu => ?_, hin⟩
      have hj : j < 5 := by
        rcases Nat.lt_or_ge j 5 with h | h
        · exact h
        · rw [List.getElem?_eq_none (by rw [T.cells_length]; exact h)] at hu; cases hu
      rw [hcell j hj, hu]
    obtain ⟨l, hl, hq⟩ := choose_list len hone
    subst hl
    obtain ⟨b, o, sp⟩ := a
    refine ⟨some ⟨b, o, sp⟩, cap, l, rfl, T.in_mk.2 ⟨⟨by decide, by decide, by decide, by decide, by decide, hlen1, hcap, by decide, by decide⟩, fun hne => ?_, fun x hx => ?_⟩⟩
    · have hlp : 0 < l.length := List.length_pos_iff.2 hne
      obtain ⟨hc0, -⟩ := hq 0 _ (List.getElem?_eq_getElem hlp)
      have hcc := hc0 0 _ (List.getElem?_eq_getElem (by rw [T.cells_length]; omega))
      have hspot : sp = none := by simpa [Addr.add] using World.cell?_spot hcc
      subst hspot
      have hlt := cell_lt hcc
      refine ⟨b, o, rfl, Nat.zero_le _, by simpa [Addr.add] using hlt, fun i x hx j u hu => ?_⟩
      have := (hq i x hx).1 j u hu
      rw [add_at, add_at] at this
      exact this
    · obtain ⟨i, hi, rfl⟩ := List.mem_iff_getElem.1 hx
      exact (hq i _ (List.getElem?_eq_getElem hi)).2
end

end Go.Proofs.Ytnddfiohofnbaaa

/- Plain functions on values: how many parts, how deep, whether a value may be. No program in sight. -/
namespace Go.Proofs.Ytnddfiohofnbaaa
open Go.RowKit

/-- How many parts. -/
def V.size : V → Nat
  | .mk _ _ _ l _ => 1 + (l.map V.size).sum
termination_by v => v

theorem V.size_mk (k n : Int) (s : ByteArray) (l : List V) (r : Int) : (V.mk k n s l r).size = 1 + (l.map V.size).sum := by rw [V.size]

/-- The greatest of some numbers. -/
def top : List Nat → Nat
  | [] => 0
  | x :: l => max x (top l)

/-- How deep it is nested. -/
def V.dep : V → Nat
  | .mk k _ _ l _ => if k = 3 then 1 + top (l.map V.dep) else 0
termination_by v => v

theorem V.dep_mk (k n : Int) (s : ByteArray) (l : List V) (r : Int) : (V.mk k n s l r).dep = if k = 3 then 1 + top (l.map V.dep) else 0 := by rw [V.dep]

/-- Are the fields that a kind does not name zero, and the named one in its bounds? -/
def fok (k n : Int) (s : ByteArray) (len : Nat) (r : Int) : Bool :=
  if k = 0 then decide (n = 0) && decide (s.toList = []) && decide (r = 0) && decide (len = 0)
  else if k = 1 then decide (s.toList = []) && decide (r = 0) && decide (len = 0)
  else if k = 2 then decide (s.size ≤ 256) && decide (n = 0) && decide (r = 0) && decide (len = 0)
  else if k = 3 then decide (n = 0) && decide (s.toList = []) && decide (r = 0)
  else if k = 4 then decide (1 ≤ r) && decide (n = 0) && decide (s.toList = []) && decide (len = 0)
  else false

def V.ok : V → Bool
  | .mk k n s l r => fok k n s l.length r && (l.map V.ok).all id
termination_by v => v

theorem V.ok_mk (k n : Int) (s : ByteArray) (l : List V) (r : Int) : (V.mk k n s l r).ok = (fok k n s l.length r && l.all V.ok) := by
  rw [V.ok, List.all_map]; rfl

/-- May a value be, with so many parts and lists within lists at most? -/
def V.fits (v : V) (p q : Nat) : Bool := v.ok && decide (v.size ≤ p) && decide (v.dep ≤ q)

def V.may (v : V) : Bool := v.fits 512 16

theorem V.size_pos (v : V) : 1 ≤ v.size := by cases v; rw [V.size_mk]; omega

theorem sum_take_le (l : List Nat) (i : Nat) : (l.take i).sum ≤ l.sum := by
  induction l generalizing i with
  | nil => simp
  | cons x l ih => cases i <;> simp; exact ih _

theorem sum_take_succ (l : List Nat) (i : Nat) (h : i < l.length) : (l.take (i + 1)).sum = (l.take i).sum + l[i] := by
  rw [List.take_succ_eq_append_getElem h, List.sum_append_nat]; simp

theorem le_top {l : List Nat} {x : Nat} (h : x ∈ l) : x ≤ top l := by
  induction l with
  | nil => cases h
  | cons y l ih =>
    rcases List.mem_cons.1 h with rfl | h
    · simp [top]; omega
    · have := ih h; simp [top]; omega

theorem top_le {l : List Nat} {n : Nat} (h : ∀ x ∈ l, x ≤ n) : top l ≤ n := by
  induction l with
  | nil => simp [top]
  | cons y l ih =>
    have h1 := h y (by simp)
    have h2 := ih fun x hx => h x (by simp [hx])
    simp [top]; omega

theorem len_beq (n : Nat) : ((n : Int) == 0) = decide (n = 0) := by
  rw [Bool.eq_iff_iff]; simp

theorem fok_len {k n : Int} {s : ByteArray} {len : Nat} {r : Int} (hk : k ≠ 3) (h : fok k n s len r = true) : len = 0 := by
  unfold fok at h
  by_cases h0 : k = 0
  · simp [h0] at h; omega
  · by_cases h1 : k = 1
    · simp [h1] at h; omega
    · by_cases h2 : k = 2
      · simp [h2] at h; omega
      · by_cases h4 : k = 4
        · simp [h4] at h; omega
        · simp [h0, h1, h2, hk, h4] at h

theorem fits_leaf {k n : Int} {s : ByteArray} {l : List V} {r : Int} {p q : Nat} (hk : k ≠ 3) (hp : 1 ≤ p) :
    (V.mk k n s l r).fits p q = fok k n s l.length r ∧ (fok k n s l.length r = true → (V.mk k n s l r).size = 1) := by
  by_cases h : fok k n s l.length r = true
  · have hl : l = [] := List.eq_nil_of_length_eq_zero (fok_len hk h)
    subst hl
    refine ⟨?_, fun _ => by simp [V.size_mk]⟩
    simp [V.fits, V.ok_mk, V.size_mk, V.dep_mk, hk, hp]
  · simp at h
    refine ⟨by simp [V.fits, V.ok_mk, h], fun h' => by rw [h] at h'; cases h'⟩

theorem fits_zero (v : V) (q : Nat) : v.fits 0 q = false := by
  have := v.size_pos
  simp [V.fits]; omega

/-- How much the first j parts of a list take; whether they may be. -/
def fitsTo (l : List V) (q j : Nat) : Prop := ∀ x ∈ l.take j, x.ok = true ∧ x.dep ≤ q
def sizeTo (l : List V) (j : Nat) : Nat := ((l.map V.size).take j).sum

theorem sizeTo_zero (l : List V) : sizeTo l 0 = 0 := by simp [sizeTo]
theorem sizeTo_succ (l : List V) (j : Nat) (h : j < l.length) : sizeTo l (j + 1) = sizeTo l j + l[j].size := by
  unfold sizeTo; rw [sum_take_succ _ _ (by simpa using h)]; simp
theorem sizeTo_all (l : List V) : sizeTo l l.length = (l.map V.size).sum := by
  unfold sizeTo; rw [List.take_of_length_le (by simp)]
theorem sizeTo_le (l : List V) (j : Nat) : sizeTo l j ≤ (l.map V.size).sum := sum_take_le _ _
theorem sizeTo_mono (l : List V) {i j : Nat} (h : i ≤ j) : sizeTo l i ≤ sizeTo l j := by
  unfold sizeTo
  have := sum_take_le ((l.map V.size).take j) i
  rwa [List.take_take, Nat.min_eq_left h] at this
theorem fitsTo_zero (l : List V) (q : Nat) : fitsTo l q 0 := fun x hx => by simp at hx
theorem fitsTo_succ {l : List V} {q j : Nat} (h : fitsTo l q j) (hj : j < l.length) (ho : l[j].ok = true) (hd : l[j].dep ≤ q) : fitsTo l q (j + 1) := fun x hx => by
  rw [List.take_succ_eq_append_getElem hj, List.mem_append] at hx
  rcases hx with hx | hx
  · exact h x hx
  · simp at hx; subst hx; exact ⟨ho, hd⟩

/-- A list whose first j parts are within bounds, and the next one isn't. -/
theorem fits_stop {n : Int} {s : ByteArray} {l : List V} {r : Int} {p q j : Nat} (hj : j < l.length) (hq : 1 ≤ q) (h : l[j].fits (p - 1 - sizeTo l j) (q - 1) = false) :
    (V.mk 3 n s l r).fits p q = false := by
  cases hf : (V.mk 3 n s l r).fits p q with
  | false => rfl
  | true =>
    exfalso
    simp [V.fits, V.ok_mk, V.size_mk, V.dep_mk] at hf
    obtain ⟨⟨⟨_, h1⟩, h2⟩, h3⟩ := hf
    have ho := h1 l[j] (List.getElem_mem hj)
    have hd : l[j].dep ≤ top (l.map V.dep) := le_top (List.mem_map_of_mem (List.getElem_mem hj))
    have h4 := sizeTo_succ l j hj
    have h5 := sizeTo_le l (j + 1)
    simp [V.fits, ho] at h
    have := h (by omega)
    omega

theorem fits_short {n : Int} {s : ByteArray} {l : List V} {r : Int} {p q : Nat} (h : p < 1 + l.length ∨ q = 0) : (V.mk 3 n s l r).fits p q = false := by
  have h1 : l.length ≤ (l.map V.size).sum := by
    clear h
    induction l with
    | nil => simp
    | cons x l ih => have := x.size_pos; simp; omega
  rcases h with h | h
  · simp [V.fits, V.size_mk]; omega
  · simp [V.fits, V.dep_mk]; omega

theorem fits_done {n : Int} {s : ByteArray} {l : List V} {r : Int} {p q : Nat} (hs : sizeTo l l.length ≤ p - 1) (hp : 1 ≤ p) (hq : 1 ≤ q) (h : fitsTo l (q - 1) l.length) :
    (V.mk 3 n s l r).fits p q = fok 3 n s l.length r ∧ (V.mk 3 n s l r).size = 1 + sizeTo l l.length := by
  rw [sizeTo_all] at *
  have hall : ∀ x ∈ l, x.ok = true ∧ x.dep ≤ q - 1 := by
    intro x hx; exact h x (by rw [List.take_of_length_le (Nat.le_refl _)]; exact hx)
  have ht : top (l.map V.dep) ≤ q - 1 := top_le fun d hd => by
    obtain ⟨x, hx, rfl⟩ := List.mem_map.1 hd
    exact (hall x hx).2
  refine ⟨?_, V.size_mk _ _ _ _ _⟩
  have ha : l.all V.ok = true := List.all_eq_true.2 fun x hx => (hall x hx).1
  simp only [V.fits, V.ok_mk, V.size_mk, V.dep_mk, ha, if_pos, Bool.and_true]
  rw [decide_eq_true (by omega), decide_eq_true (by omega)]
  simp

end Go.Proofs.Ytnddfiohofnbaaa


namespace Go.Proofs.Ytnddfiohofnbaaa
open Go.RowKit

def Took (L p q : Nat) (v : V) (w : World) (e : Ending) (w' : World) : Prop :=
  e = .returned (.bool (v.fits p q)) ∧ Fr (· = L) w w' ∧
    (v.fits p q = true → w'.cell? ⟨L, 0, none⟩ = some (.int .i64 ((p - v.size : Nat) : Int)) ∧ w'.cell? ⟨L, 1, none⟩ = some (.int .i64 (q : Int)) ∧
      w'.frozen? ⟨L, 0, none⟩ = false ∧ w'.frozen? ⟨L, 1, none⟩ = false)

theorem took_no {v : V} {w W : World} {L p q : Nat} (h : v.fits p q = false) (hF : Fr (· = L) w W) : Took L p q v w (.returned (.bool false)) W :=
  ⟨by rw [h], hF, fun h' => by rw [h] at h'; cases h'⟩

theorem took_close {k n : Int} {s : ByteArray} {A : Option Addr} {cap : Nat} {l : List T} {r : Int} {w W : World} {L p q : Nat} {b : Bool} (hk : k ≠ 3) (hp : 1 ≤ p)
    (hb : b = fok k n s l.length r) (hF : Fr (· = L) w W) (h0 : W.cell? ⟨L, 0, none⟩ = some (.int .i64 ((p : Int) - 1))) (h1 : W.cell? ⟨L, 1, none⟩ = some (.int .i64 (q : Int)))
    (f0 : W.frozen? ⟨L, 0, none⟩ = false) (f1 : W.frozen? ⟨L, 1, none⟩ = false) : Took L p q (T.mk k n s A cap l r).v w (.returned (.bool b)) W := by
  rw [T.v_mk]
  obtain ⟨e1, e2⟩ := fits_leaf (n := n) (s := s) (l := l.map T.v) (r := r) (q := q) hk hp
  rw [List.length_map] at e1 e2
  refine ⟨by rw [e1, hb], hF, fun h => ?_⟩
  rw [e1] at h
  rw [e2 h, h0]
  exact ⟨by congr 2; omega, h1, f0, f1⟩

set_option maxHeartbeats 4000000 in
theorem take_leaf (k n : Int) (s : ByteArray) (A : Option Addr) (cap : Nat) (l : List T) (r : Int) (w : World) (L p q : Nat)
   (hL : L < w.heap.size) (_ : L ≤ w.heap.size)
   (hp : w.cell? ⟨L, 0, none⟩ = some (.int .i64 (p : Int))) (hq : w.cell? ⟨L, 1, none⟩ = some (.int .i64 (q : Int)))
   (hf0 : w.frozen? ⟨L, 0, none⟩ = false) (hf1 : w.frozen? ⟨L, 1, none⟩ = false) (hp0 : 0 < p) (hp1 : p ≤ 512) (hk : k ≠ 3) :
    Calls Try.prog 106 #[.pointer (some ⟨L, 0, none⟩), .agg #[.int .u8 k, .int .i64 n, .string s, .slice A l.length cap, .int .i64 r]] w (Took L p q (T.mk k n s A cap l r).v w) := by
  have hp00 : ((p : Int) == 0) = false := by simp; omega
  have k3 : (k == 3) = false := by simp; exact hk
  by_cases h0 : k = 0
  · subst h0
    go_enter Try.func106, Try.ntmps106
    go_wp2
    all_goals
      go_ret
      refine took_close (by first | decide | assumption) hp0 (by first | (simp [fok, *]; done) | (simp [fok, *]; omega) | (simp [fok, len_beq, *]; done) | (simp [fok, len_beq, *]; omega) | (simp [fok, len_beq, *]; intros; omega)) (by repeat (first | exact Fr.refl _ w | refine Fr.alloc ?_ _ | refine Fr.set ?_ (by simp) _)) ?_ ?_ ?_ ?_ <;> simp [go_sem, *]
  · have k0 : (k == 0) = false := by simp; exact h0
    by_cases h1 : k = 1
    · subst h1
      go_enter Try.func106, Try.ntmps106
      go_wp2
      all_goals
        go_ret
        refine took_close (by first | decide | assumption) hp0 (by first | (simp [fok, *]; done) | (simp [fok, *]; omega) | (simp [fok, len_beq, *]; done) | (simp [fok, len_beq, *]; omega) | (simp [fok, len_beq, *]; intros; omega)) (by repeat (first | exact Fr.refl _ w | refine Fr.alloc ?_ _ | refine Fr.set ?_ (by simp) _)) ?_ ?_ ?_ ?_ <;> simp [go_sem, *]
    · have k1 : (k == 1) = false := by simp; exact h1
      by_cases h2 : k = 2
      · subst h2
        by_cases hs : s.size ≤ 256
        · have hs' : ¬ (256 : Int) < (s.size : Int) := by omega
          go_enter Try.func106, Try.ntmps106
          go_wp2
          all_goals
            go_ret
            refine took_close (by first | decide | assumption) hp0 (by first | (simp [fok, *]; done) | (simp [fok, *]; omega) | (simp [fok, len_beq, *]; done) | (simp [fok, len_beq, *]; omega) | (simp [fok, len_beq, *]; intros; omega)) (by repeat (first | exact Fr.refl _ w | refine Fr.alloc ?_ _ | refine Fr.set ?_ (by simp) _)) ?_ ?_ ?_ ?_ <;> simp [go_sem, *]
        · have hs' : (256 : Int) < (s.size : Int) := by omega
          go_enter Try.func106, Try.ntmps106
          go_wp2
          all_goals
            go_ret
            refine took_close (by first | decide | assumption) hp0 (by first | (simp [fok, *]; done) | (simp [fok, *]; omega) | (simp [fok, len_beq, *]; done) | (simp [fok, len_beq, *]; omega) | (simp [fok, len_beq, *]; intros; omega)) (by repeat (first | exact Fr.refl _ w | refine Fr.alloc ?_ _ | refine Fr.set ?_ (by simp) _)) ?_ ?_ ?_ ?_ <;> simp [go_sem, *]
      · have k2 : (k == 2) = false := by simp; exact h2
        by_cases h4 : k = 4
        · subst h4
          by_cases hr : 1 ≤ r
          · have hr' : ¬ r < 1 := by omega
            go_enter Try.func106, Try.ntmps106
            go_wp2
            all_goals
              go_ret
              refine took_close (by first | decide | assumption) hp0 (by first | (simp [fok, *]; done) | (simp [fok, *]; omega) | (simp [fok, len_beq, *]; done) | (simp [fok, len_beq, *]; omega) | (simp [fok, len_beq, *]; intros; omega)) (by repeat (first | exact Fr.refl _ w | refine Fr.alloc ?_ _ | refine Fr.set ?_ (by simp) _)) ?_ ?_ ?_ ?_ <;> simp [go_sem, *]
          · have hr' : r < 1 := by omega
            go_enter Try.func106, Try.ntmps106
            go_wp2
            all_goals
              go_ret
              refine took_close (by first | decide | assumption) hp0 (by first | (simp [fok, *]; done) | (simp [fok, *]; omega) | (simp [fok, len_beq, *]; done) | (simp [fok, len_beq, *]; omega) | (simp [fok, len_beq, *]; intros; omega)) (by repeat (first | exact Fr.refl _ w | refine Fr.alloc ?_ _ | refine Fr.set ?_ (by simp) _)) ?_ ?_ ?_ ?_ <;> simp [go_sem, *]
        · have k4 : (k == 4) = false := by simp; exact h4
          go_enter Try.func106, Try.ntmps106
          go_wp2
          all_goals
            go_ret
            refine took_close (by first | decide | assumption) hp0 (by first | (simp [fok, *]; done) | (simp [fok, *]; omega) | (simp [fok, len_beq, *]; done) | (simp [fok, len_beq, *]; omega) | (simp [fok, len_beq, *]; intros; omega)) (by repeat (first | exact Fr.refl _ w | refine Fr.alloc ?_ _ | refine Fr.set ?_ (by simp) _)) ?_ ?_ ?_ ?_ <;> simp [go_sem, *]

end Go.Proofs.Ytnddfiohofnbaaa


namespace Go.Proofs.Ytnddfiohofnbaaa
open Go.RowKit

/-- Where the loop of 'take' stands behind some rounds. -/
structure TakeInv (w : World) (L a c : Nat) (X : Array Value) (wr : World) : Prop where
  fr : Fr (· = L) w wr
  c0 : wr.cell? ⟨L, 0, none⟩ = some (.int .i64 (a : Int))
  c1 : wr.cell? ⟨L, 1, none⟩ = some (.int .i64 (c : Int))
  f0 : wr.frozen? ⟨L, 0, none⟩ = false
  f1 : wr.frozen? ⟨L, 1, none⟩ = false
  b0 : Blk wr w.heap.size 37 X
  b1 : Blk wr (w.heap.size + 1) 37 X

theorem took_done {n : Int} {s : ByteArray} {A : Option Addr} {cap : Nat} {l : List T} {r : Int} {w W : World} {L p q : Nat} {b : Bool} (hs : sizeTo (l.map T.v) l.length ≤ p - 1) (hp : 1 ≤ p) (hq : 1 ≤ q)
    (hall : fitsTo (l.map T.v) (q - 1) l.length) (hb : b = fok 3 n s l.length r) (hF : Fr (· = L) w W)
    (h0 : W.cell? ⟨L, 0, none⟩ = some (.int .i64 ((p - 1 - sizeTo (l.map T.v) l.length : Nat) : Int))) (h1 : W.cell? ⟨L, 1, none⟩ = some (.int .i64 (((q - 1 : Nat) : Int) + 1)))
    (f0 : W.frozen? ⟨L, 0, none⟩ = false) (f1 : W.frozen? ⟨L, 1, none⟩ = false) : Took L p q (T.mk 3 n s A cap l r).v w (.returned (.bool b)) W := by
  rw [T.v_mk]
  have hl : (l.map T.v).length = l.length := List.length_map ..
  obtain ⟨e1, e2⟩ := fits_done (n := n) (s := s) (l := l.map T.v) (r := r) (by rw [hl]; exact hs) hp hq (by rw [hl]; exact hall)
  rw [hl] at e1 e2
  refine ⟨by rw [e1, hb], hF, fun h => ?_⟩
  rw [e2, h0, h1]
  exact ⟨by congr 3; omega, by congr 2; omega, f0, f1⟩

set_option maxHeartbeats 4000000 in
theorem take_any (t : T) : ∀ (w : World) (L p q lo hi : Nat), t.In w lo hi → hi ≤ L → L < w.heap.size →
    w.cell? ⟨L, 0, none⟩ = some (.int .i64 (p : Int)) → w.cell? ⟨L, 1, none⟩ = some (.int .i64 (q : Int)) →
    w.frozen? ⟨L, 0, none⟩ = false → w.frozen? ⟨L, 1, none⟩ = false → p ≤ 512 → q ≤ 16 →
    Calls Try.prog 106 #[.pointer (some ⟨L, 0, none⟩), t.val] w (Took L p q t.v w) := by
  induction t using T.ind with
  | h k n s A cap l r ih =>
    intro w L p q lo hi ht hh hL hp hq hf0 hf1 hp1 hq1
    have hL' : L ≤ w.heap.size := Nat.le_of_lt hL
    rw [T.val]
    by_cases hp0 : p = 0
    · subst hp0
      have e0 := fits_zero (T.mk k n s A cap l r).v q
      have hp : w.cell? ⟨L, 0, none⟩ = some (.int .i64 0) := by simpa using hp
      go_enter Try.func106, Try.ntmps106
      go_wp2
      go_ret
      exact took_no e0 ((Fr.refl _ w).alloc _)
    by_cases hk : k = 3
    · subst hk
      have hp00 : ((p : Int) == 0) = false := by simp; omega
      have hp2 : (1 : Int) ≤ p := by omega
      have fit : Fit 3 n s l.length cap r := (T.in_mk.1 ht).1
      by_cases hq0 : q = 0
      · subst hq0
        have e0 : (T.mk 3 n s A cap l r).v.fits p 0 = false := by rw [T.v_mk]; exact fits_short (.inr rfl)
        go_enter Try.func106, Try.ntmps106
        go_wp2_with fail
        go_quiet (fail)
        go_wp2
        go_ret
        exact took_no e0 (((((Fr.refl _ w).set (by simp) _).alloc _).alloc _).drewN _)
      · have hq00 : ((q : Int) == 0) = false := by simp; omega
        have hq2 : (1 : Int) ≤ q := by omega
        by_cases hlen : (p : Int) - 1 < (l.length : Int)
        · have e0 : (T.mk 3 n s A cap l r).v.fits p q = false := by rw [T.v_mk]; exact fits_short (.inl (by simp; omega))
          go_enter Try.func106, Try.ntmps106
          go_wp2_with fail
          go_quiet (fail)
          go_wp2
          go_ret
          exact took_no e0 (((((Fr.refl _ w).set (by simp) _).alloc _).alloc _).drewN _)
        · have hlen' : (l.length : Int) ≤ (p : Int) - 1 := by omega
          have hd : decide ((p : Int) - 1 < (l.length : Int)) = false := by simp; omega
          go_enter Try.func106, Try.ntmps106
          go_wp2_with fail
          go_quiet (fail)
          go_wp2
          go_loopw [68] (fun i wr => ∃ j : Nat, j ≤ l.length ∧ i = .int .i64 j ∧ fitsTo (l.map T.v) (q - 1) j ∧ sizeTo (l.map T.v) j ≤ p - 1 ∧
              TakeInv w L (p - 1 - sizeTo (l.map T.v) j) (q - 1) #[.int .u8 3, .int .i64 n, .string s, .slice A l.length cap, .int .i64 r] wr)
            (fun i _ => l.length - (intOf i).toNat)
          case atStart =>
            refine ⟨0, Nat.zero_le _, rfl, fitsTo_zero _ _, by rw [sizeTo_zero]; omega, ?_⟩
            rw [sizeTo_zero]
            refine ⟨((((((Fr.refl _ w).set (by simp) _).alloc _).alloc _).drewN _).set (by simp) _), ?_, ?_, ?_, ?_, ?_, ?_⟩
            · have e : ((p - 1 - 0 : Nat) : Int) = (p : Int) - 1 := by omega
              rw [e]
              go_simp
            · have e : ((q - 1 : Nat) : Int) = (q : Int) - 1 := by omega
              rw [e]
              refine World.cell?_setCell_same _ _ _ (u := .int .i64 (q : Int)) ?_
              go_simp
            · go_simp
            · go_simp
            · exact ((((Blk.new' (w.setCell ⟨L, 0, none⟩ (.int .i64 ((p : Int) - 1))) 37 _ (by simp)).alloc _).drewN _).far (p := ⟨L, 1, none⟩) (by simp; omega) _)
            · exact ((((Blk.new' ((w.setCell ⟨L, 0, none⟩ (.int .i64 ((p : Int) - 1))).alloc _) 37 _ (by simp)).drewN _).far (p := ⟨L, 1, none⟩) (by simp; omega) _))
          case round =>
            obtain ⟨j, hj, rfl, hall, hsz, inv⟩ := hrel
            have HA := hide hall
            clear hall
            have c0 := inv.c0
            have c1 := inv.c1
            have wf0 := inv.f0
            have wf1 := inv.f1
            have hsz0 := inv.fr.size
            have hLr : L < wr.heap.size := by omega
            have hLr' := Nat.le_of_lt hLr
            have hb0 := inv.b0.lt
            have hb1 := inv.b1.lt
            by_cases hlt : j < l.length
            · obtain ⟨b, o, k1, n1, s1, A1, cap1, l1, r1, rfl, hb0, hb1, hx, hin, e0, e1, e2, e3, e4⟩ := T.elem (ht.fr inv.fr (by omega) (fun i _ h1 => by omega)) hlt
              have IH := ih l[j] (List.getElem_mem hlt)
              rw [hx] at IH
              have HX := hide hx
              clear hx ih
              have hle := Nat.le_of_lt hlt
              go_wp2_with fail
              refine (IH _ L (p - 1 - sizeTo (l.map T.v) j) (q - 1) lo hi ?_ hh ?_ ?_ ?_ ?_ ?_ ?_ ?_).mono ?_
              · exact hin.no ((Fr.refl No wr).alloc _) (by omega)
              · simp; omega
              · go_simp
              · go_simp
              · go_simp
              · go_simp
              · omega
              · omega
              rintro e w2 ⟨rfl, fr2, took⟩
              have HT := hide took
              clear took
              cases hf : (T.mk k1 n1 s1 A1 cap1 l1 r1).v.fits (p - 1 - sizeTo (l.map T.v) j) (q - 1)
              · go_wp2
                go_ret
                refine took_no ?_ (((inv.fr.alloc _).trans fr2))
                rw [T.v_mk]
                refine fits_stop (j := j) (by simpa using hlt) (by omega) ?_
                rw [List.getElem_map, HX.out]; exact hf
              · go_wp2
                go_roundw
                case rel =>
                  obtain ⟨k0, k1', k2, k3⟩ := HT.out hf
                  have hs := sizeTo_succ (l.map T.v) j (by simpa using hlt)
                  rw [List.getElem_map, HX.out] at hs
                  simp only [V.fits, Bool.and_eq_true, decide_eq_true_eq] at hf
                  obtain ⟨⟨ho, hz⟩, hdp⟩ := hf
                  refine ⟨j + 1, hlt, by go_num, fitsTo_succ HA.out (by simpa using hlt) (by rw [List.getElem_map, HX.out]; exact ho) (by rw [List.getElem_map, HX.out]; exact hdp), by omega, ?_⟩
                  refine ⟨(inv.fr.alloc _).trans fr2, ?_, k1', k2, k3, (inv.b0.alloc _).fr fr2 (by omega), (inv.b1.alloc _).fr fr2 (by omega)⟩
                  rw [k0, hs, Nat.sub_sub _ (sizeTo _ _) (V.size _)]
                case measure => simp [intOf]; omega
            · have d1 : wr.cell? ⟨w.heap.size + 1, 1, none⟩ = some (.int .i64 n) := inv.b1.cell 1
              have d2 : wr.cell? ⟨w.heap.size + 1, 2, none⟩ = some (.string s) := inv.b1.cell 2
              have d3 : wr.cell? ⟨w.heap.size + 1, 3, none⟩ = some (.slice A l.length cap) := inv.b1.cell 3
              have d4 : wr.cell? ⟨w.heap.size + 1, 4, none⟩ = some (.int .i64 r) := inv.b1.cell 4
              have df := inv.b1.frozen 3
              have hne : ¬ L = w.heap.size + 1 := by omega
              have hne' : ¬ w.heap.size + 1 = L := by omega
              obtain rfl : l.length = j := by omega
              have HT := hide ht
              have HI := hide inv
              clear ht inv ih
              go_wp2
              all_goals
                go_ret
                refine took_done hsz (by omega) (by omega) HA.out (by first | (simp [fok, *]; done) | (simp [fok, *]; omega)) ((HI.out.fr.set (by simp) _).setNew (by simp) _) ?_ ?_ ?_ ?_ <;> simp [go_sem, *]
    · exact take_leaf k n s A cap l r w L p q hL hL' hp hq hf0 hf1 (by omega) hp1 hk

end Go.Proofs.Ytnddfiohofnbaaa

/- measure, May, Parts: whether a value may be, and how many parts it has. -/
namespace Go.Proofs.Ytnddfiohofnbaaa
open Go.RowKit

/-- How many parts; 0: it may not be. -/
def V.meas (v : V) : Nat := if v.may = true then v.size else 0

theorem T.val_mk (k n : Int) (s : ByteArray) (A : Option Addr) (cap : Nat) (l : List T) (r : Int) :
    (T.mk k n s A cap l r).val = .agg #[.int .u8 k, .int .i64 n, .string s, .slice A l.length cap, .int .i64 r] := rfl

set_option maxHeartbeats 1000000 in
theorem measure_any (t : T) (w : World) (lo hi : Nat) (ht : t.In w lo hi) (hh : hi ≤ w.heap.size) :
    Calls Try.prog 72 #[t.val] w fun e w' => e = .returned (.int .i64 (t.v.meas : Int)) ∧ Fr No w w' := by
  cases t with
  | mk k n s A cap l r =>
    have IH := take_any (.mk k n s A cap l r)
    rw [T.val_mk] at *
    have HT := hide ht
    clear ht
    go_enter Try.func72, Try.ntmps72
    go_wp2_with fail
    refine (IH _ (w.heap.size + 1) 512 16 lo hi ?_ ?_ ?_ ?_ ?_ ?_ ?_ ?_ ?_).mono ?_
    · exact HT.out.no (((Fr.refl No w).alloc _).alloc _) hh
    · omega
    · simp
    · go_simp
    · go_simp
    · go_simp
    · go_simp
    · omega
    · omega
    rintro e w2 ⟨rfl, fr2, took⟩
    have hF : Fr No w w2 := (((Fr.refl No w).alloc _).alloc _).trans' fr2 fun i hi h => by omega
    have HK := hide took
    clear took IH
    cases hf : (T.mk k n s A cap l r).v.fits 512 16
    · have hm : (T.mk k n s A cap l r).v.meas = 0 := by simp [V.meas, V.may, hf]
      have HM := hide hm
      have HF := hide hF
      clear hF hm hf
      go_wp2
      go_ret
      exact ⟨by rw [HM.out]; rfl, HF.out⟩
    · have hm : (T.mk k n s A cap l r).v.meas = (T.mk k n s A cap l r).v.size := by simp [V.meas, V.may, hf]
      have HM := hide hm
      obtain ⟨c0, c1, f0, f1⟩ := HK.out hf
      have hle : (T.mk k n s A cap l r).v.size ≤ 512 := by
        simp [V.fits] at hf; omega
      clear hm hf
      generalize (T.mk k n s A cap l r).v.size = z at *
      have e : ((512 - z : Nat) : Int) = 512 - (z : Int) := by omega
      rw [e] at c0
      clear e
      go_wp2
      go_ret
      exact ⟨by rw [HM.out]; go_num, hF⟩

set_option maxHeartbeats 1000000 in
theorem may_any (t : T) (w : World) (lo hi : Nat) (ht : t.In w lo hi) (hh : hi ≤ w.heap.size) :
    Calls Try.prog 41 #[t.val] w fun e w' => e = .returned (.bool t.v.may) ∧ Fr No w w' := by
  have IH := fun w' h h' => measure_any t w' lo hi h h'
  cases hm : t.v.may
  · have HM : t.v.meas = 0 := by simp [V.meas, hm]
    rw [HM] at IH
    cases t with
    | mk k n s A cap l r =>
      rw [T.val_mk] at *
      go_enter Try.func41, Try.ntmps41
      go_wp2_with fail
      refine (IH _ (ht.no ((Fr.refl No w).alloc _) hh) (by simp; omega)).mono ?_
      rintro e w2 ⟨rfl, fr2⟩
      go_wp2
      go_ret
      exact ⟨rfl, ((Fr.refl No w).alloc _).trans fr2⟩
  · have HM : 0 < t.v.meas := by simp [V.meas, hm]; exact t.v.size_pos
    cases t with
    | mk k n s A cap l r =>
      rw [T.val_mk] at *
      generalize (T.mk k n s A cap l r).v.meas = z at *
      go_enter Try.func41, Try.ntmps41
      go_wp2_with fail
      refine (IH _ (ht.no ((Fr.refl No w).alloc _) hh) (by simp; omega)).mono ?_
      rintro e w2 ⟨rfl, fr2⟩
      go_wp2
      go_ret
      exact ⟨by simp, ((Fr.refl No w).alloc _).trans fr2⟩

end Go.Proofs.Ytnddfiohofnbaaa

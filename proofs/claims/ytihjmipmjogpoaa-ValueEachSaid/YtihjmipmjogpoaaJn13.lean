/- Texts joined: J1, J2, J3, P19, J12, H8. -/
import Derived.Test.YtihjmipmjogpoaaJn12
import Derived.Deep.CutRange
/- Chapter 2: a part put in the place of another one: in memory of one's own, and as plain data. -/
namespace Go.Proofs.Ytihjmipmjogpoaa
open Go.RowKit

/-- The parts of a tree. -/
def T.kids : T → List T
  | .mk _ _ _ _ _ l _ => l
def T.base : T → Option Addr
  | .mk _ _ _ A _ _ _ => A

/-- One step down: the spot and the part that stands there. -/
def stp (q : (Nat × Nat) × T) (i : Nat) : (Nat × Nat) × T :=
  match q.2.base, q.2.kids[i]? with
  | some a, some x => ((a.block, i * 5), x)
  | _, _ => q

/-- Where a place leads, from a spot. -/
def loc (p : List Nat) (bo : Nat × Nat) (t : T) : (Nat × Nat) × T := p.foldl stp (bo, t)

theorem loc_nil (bo : Nat × Nat) (t : T) : loc [] bo t = (bo, t) := rfl
theorem loc_cons (i : Nat) (p : List Nat) (bo : Nat × Nat) (k n : Int) (s : ByteArray) (a : Addr) (cap : Nat) (l : List T) (r : Int) (y : T) (h : l[i]? = some y) :
    loc (i :: p) bo (.mk k n s (some a) cap l r) = loc p (a.block, i * 5) y := by
  simp only [loc, List.foldl_cons, stp, T.base, T.kids, h]
theorem loc_snoc (i : Nat) (p : List Nat) (bo : Nat × Nat) (t : T) : loc (p ++ [i]) bo t = stp (loc p bo t) i := by
  simp only [loc, List.foldl_append, List.foldl_cons, List.foldl_nil]

/-- A tree with another part at a place. -/
def T.put : List Nat → T → T → T
  | [], x, _ => x
  | i :: p, x, .mk k n s A cap l r => .mk k n s A cap (match l[i]? with | some y => l.set i (T.put p x y) | none => l) r

theorem T.put_cons {i : Nat} {p : List Nat} {x : T} {k n : Int} {s : ByteArray} {A : Option Addr} {cap : Nat} {l : List T} {r : Int} {y : T} (h : l[i]? = some y) :
    T.put (i :: p) x (.mk k n s A cap l r) = .mk k n s A cap (l.set i (T.put p x y)) r := by
  simp only [T.put, h]

/-- A value with another part at a place. -/
def V.put : List Int → V → V → V
  | [], x, _ => x
  | i :: p, x, .mk k n s l r => .mk k n s (match l[i.toNat]? with | some y => l.set i.toNat (V.put p x y) | none => l) r

theorem V.put_cons {i : Int} {p : List Int} {x : V} {k n : Int} {s : ByteArray} {l : List V} {r : Int} {y : V} (h : l[i.toNat]? = some y) :
    V.put (i :: p) x (.mk k n s l r) = .mk k n s (l.set i.toNat (V.put p x y)) r := by
  simp only [V.put, h]

theorem T.put_v (p : List Nat) (x : T) : ∀ t : T, (T.put p x t).v = V.put (p.map fun i : Nat => (i : Int)) x.v t.v := by
  induction p with
  | nil => intro t; rfl
  | cons i p ih =>
    intro t
    cases t with
    | mk k n s A cap l r =>
      rw [T.v_mk, List.map_cons]
      cases h : l[i]? with
      | none => simp only [T.put, V.put, h, T.v_mk, Int.toNat_natCast, List.getElem?_map, Option.map_none]
      | some y =>
        rw [T.put_cons h, V.put_cons (y := y.v) (by rw [Int.toNat_natCast, List.getElem?_map, h]; rfl), T.v_mk, List.map_set, ih, Int.toNat_natCast]

/-- A row in which one part has turned. -/
theorem perm_set {l : List T} {i : Nat} {y x : T} (h : l[i]? = some y) : ∀ b, b ∈ ((l.set i x).map T.blocks).flatten → b ∈ x.blocks ∨ ∃ j z, j ≠ i ∧ l[j]? = some z ∧ b ∈ z.blocks := by
  intro b hb
  obtain ⟨L, hL, hb⟩ := List.mem_flatten.1 hb
  obtain ⟨z, hz, rfl⟩ := List.mem_map.1 hL
  obtain ⟨j, hj, rfl⟩ := List.mem_iff_getElem.1 hz
  rw [List.getElem_set] at hb
  split at hb
  · exact .inl hb
  · rename_i hne
    rw [List.length_set] at hj
    exact .inr ⟨j, l[j], fun h => hne h.symm, List.getElem?_eq_getElem hj, hb⟩

theorem nodup_set {l : List T} {i : Nat} {y x : T} (h : l[i]? = some y) (hn : (l.map T.blocks).flatten.Nodup) (hx : x.blocks.Nodup) (hd : ∀ b ∈ x.blocks, ∀ j z, j ≠ i → l[j]? = some z → b ∉ z.blocks) : ((l.set i x).map T.blocks).flatten.Nodup := by
  induction l generalizing i with
  | nil => simp at h
  | cons a l ih =>
    rw [List.map_cons, List.flatten_cons, List.nodup_append] at hn
    obtain ⟨n1, n2, n3⟩ := hn
    cases i with
    | zero =>
      rw [List.set_cons_zero, List.map_cons, List.flatten_cons, List.nodup_append]
      refine ⟨hx, n2, fun b hb c hc e => ?_⟩
      subst e
      obtain ⟨L, hL, hc⟩ := List.mem_flatten.1 hc
      obtain ⟨z, hz, rfl⟩ := List.mem_map.1 hL
      obtain ⟨j, hj, rfl⟩ := List.mem_iff_getElem.1 hz
      exact hd b hb (j + 1) l[j] (by omega) (by simp [hj]) hc
    | succ i =>
      simp only [List.getElem?_cons_succ] at h
      rw [List.set_cons_succ, List.map_cons, List.flatten_cons, List.nodup_append]
      refine ⟨n1, ih h n2 (fun b hb j z hj hz => hd b hb (j + 1) z (by omega) (by simpa using hz)), fun b hb c hc e => ?_⟩
      subst e
      rcases perm_set h b hc with h1 | ⟨j, z, hj, hz, h1⟩
      · exact hd b h1 0 a (by omega) rfl hb
      · exact n3 b hb b (List.mem_flatten.2 ⟨_, List.mem_map_of_mem (List.mem_of_getElem? hz), h1⟩) rfl

/-- Five cells written over. -/
def five (w : World) (g o : Nat) (k n : Int) (s : ByteArray) (A : Option Addr) (len cap : Nat) (r : Int) : World :=
  ((((w.setCell ⟨g, o, none⟩ (.int .u8 k)).setCell ⟨g, o + 1, none⟩ (.int .i64 n)).setCell ⟨g, o + 2, none⟩ (.string s)).setCell ⟨g, o + 3, none⟩ (.slice A len cap)).setCell ⟨g, o + 4, none⟩ (.int .i64 r)

theorem five_fr (w : World) (g o : Nat) (k n : Int) (s : ByteArray) (A : Option Addr) (len cap : Nat) (r : Int) : Fr (fun i => i = g) w (five w g o k n s A len cap r) :=
  (Fr.refl (fun i => i = g) w).five (g := g) (fun _ => rfl) o _ _ _ _ _

/-- A part of one's own, stored where a place leads: the tree that is then there. -/
theorem put_store {w : World} {lo hi lo2 hi2 : Nat} {kx nx : Int} {sx : ByteArray} {Ax : Option Addr} {cx : Nat} {lx : List T} {rx : Int} (p : List Nat) :
    ∀ (t : T) (b o : Nat), t.Sp w lo hi → t.blocks.Nodup → b ∉ t.blocks → (∃ y, vAt (p.map fun i : Nat => (i : Int)) t.v = some y) →
      (T.mk kx nx sx Ax cx lx rx).Sp (five w (loc p (b, o) t).1.1 (loc p (b, o) t).1.2 kx nx sx Ax lx.length cx rx) lo2 hi2 → (T.mk kx nx sx Ax cx lx rx).blocks.Nodup → (∀ i ∈ (T.mk kx nx sx Ax cx lx rx).blocks, i ∉ t.blocks) → lo ≤ lo2 → hi ≤ hi2 →
      (T.put p (T.mk kx nx sx Ax cx lx rx) t).Sp (five w (loc p (b, o) t).1.1 (loc p (b, o) t).1.2 kx nx sx Ax lx.length cx rx) lo hi2 ∧ (T.put p (T.mk kx nx sx Ax cx lx rx) t).blocks.Nodup ∧
        (∀ i ∈ (T.put p (T.mk kx nx sx Ax cx lx rx) t).blocks, i ∈ t.blocks ∨ i ∈ (T.mk kx nx sx Ax cx lx rx).blocks) ∧ (p = [] → (loc p (b, o) t).1 = (b, o)) ∧
        (p ≠ [] → (loc p (b, o) t).1.1 ∈ t.blocks ∧ (T.put p (T.mk kx nx sx Ax cx lx rx) t).cells = t.cells) := by
  induction p with
  | nil =>
    intro t b o hsp hnd hb _ hx hxn hxd h0 h1
    exact ⟨T.Sp.more h0 (Nat.le_refl _) _ hx, hxn, fun i hi => .inr hi, fun _ => rfl, fun h => absurd rfl h⟩
  | cons i p ih =>
    intro t b o hsp hnd hb hat hx hxn hxd h0 h1
    cases t with
    | mk k n s A cap l r =>
      rw [T.v_mk, List.map_cons, vAt_cons, if_neg (by omega), Int.toNat_natCast] at hat
      simp only [V.list, List.getElem?_map] at hat
      obtain ⟨fit, h2, h3, h4⟩ := T.sp_mk.1 hsp
      cases hy : l[i]? with
      | none => rw [hy] at hat; obtain ⟨y, hat⟩ := hat; cases hat
      | some y =>
        rw [hy] at hat
        simp only [Option.map_some, Option.bind_some] at hat
        have hmem := List.mem_of_getElem? hy
        have hne : l ≠ [] := by rintro rfl; cases hmem
        obtain ⟨hown, g, rfl, hg⟩ := h3 hne
        have hgl := owns_lt hown g rfl
        rw [loc_cons i p (b, o) k n s ⟨g, 0, none⟩ cap l r y hy] at hx ⊢
        have hgy := sp_child_ne hnd hmem
        have hgb : g ∈ (T.mk k n s (some ⟨g, 0, none⟩) cap l r).blocks := T.mem_blocks hne
        have hyd : ∀ q ∈ (T.mk kx nx sx Ax cx lx rx).blocks, q ∉ y.blocks := fun q hq h => hxd q hq (T.sub_blocks hmem h)
        obtain ⟨e1, e2, e3, e4, e5⟩ := ih y g (i * 5) (h4 y hmem) (sp_child_nodup hnd hmem) hgy hat hx hxn hyd h0 h1
        have hi := (List.getElem?_eq_some_iff.1 hy).1
        have hyi : l[i] = y := (List.getElem?_eq_some_iff.1 hy).2
        rw [T.put_cons hy]
        generalize hL : loc p (g, i * 5) y = L at *
        have F := five_fr w L.1.1 L.1.2 kx nx sx Ax lx.length cx rx
        have hLb : L.1.1 = g ∨ L.1.1 ∈ y.blocks := by
          by_cases hp : p = []
          · rw [e4 hp]; exact .inl rfl
          · exact .inr (e5 hp).1
        have hrow : (five w L.1.1 L.1.2 kx nx sx Ax lx.length cx rx).ownsRow lo 27 5 (.slice (some ⟨g, 0, none⟩) l.length cap) l.length (rowCells (l.set i (T.put p (T.mk kx nx sx Ax cx lx rx) y))) := by
          by_cases hp : p = []
          · subst hp
            rw [e4 rfl]
            exact owns_set5 hown rfl hi kx nx sx Ax cx lx rx
          · rw [row_set_same hy (e5 hp).2]
            refine owns_fr hown F fun g' hg' h => ?_
            simp [Value.ownBlock] at hg'
            subst hg'
            have h' : g = L.1.1 := h
            exact hgy (h' ▸ (e5 hp).1)
        have hsib : ∀ j (hj : j < l.length), j ≠ i → l[j].Sp (five w L.1.1 L.1.2 kx nx sx Ax lx.length cx rx) lo hi2 := fun j hj hji => by
          refine T.Sp.more (Nat.le_refl _) h1 _ (T.Sp.fr F _ (fun q hq h => ?_) (h4 _ (List.getElem_mem hj)))
          have h' : q = L.1.1 := h
          rcases hLb with hb' | hb'
          · rw [h', hb'] at hq
            exact sp_child_ne hnd (List.getElem_mem hj) hq
          · rw [← h', ← hyi] at hb'
            rcases Nat.lt_or_gt_of_ne hji with hlt | hgt
            · exact sp_child_far hnd hj hi hlt hb' hq
            · exact sp_child_far hnd hi hj hgt hq hb'
        have hfl : (l.map T.blocks).flatten.Nodup := by
          rw [T.blocks_mk, List.nodup_append] at hnd
          exact hnd.2.1
        have hpd : ∀ q ∈ (T.put p (T.mk kx nx sx Ax cx lx rx) y).blocks, ∀ j z, j ≠ i → l[j]? = some z → q ∉ z.blocks := fun q hq j z hji hz hqz => by
          obtain ⟨hj, rfl⟩ := List.getElem?_eq_some_iff.1 hz
          rcases e3 q hq with h | h
          · rw [← hyi] at h
            rcases Nat.lt_or_gt_of_ne hji with hlt | hgt
            · exact sp_child_far hnd hj hi hlt h hqz
            · exact sp_child_far hnd hi hj hgt hqz h
          · exact hxd q h (T.sub_blocks (List.getElem_mem hj) hqz)
        have hne2 : l.set i (T.put p (T.mk kx nx sx Ax cx lx rx) y) ≠ [] := by simpa using hne
        have hblk : (T.mk k n s (some ⟨g, 0, none⟩) cap (l.set i (T.put p (T.mk kx nx sx Ax cx lx rx) y)) r).blocks = g :: ((l.set i (T.put p (T.mk kx nx sx Ax cx lx rx) y)).map T.blocks).flatten := by
          rw [T.blocks_mk]
          cases hq : l.set i (T.put p (T.mk kx nx sx Ax cx lx rx) y) with
          | nil => exact absurd hq hne2
          | cons => rfl
        have hin : ∀ q ∈ (T.mk k n s (some ⟨g, 0, none⟩) cap (l.set i (T.put p (T.mk kx nx sx Ax cx lx rx) y)) r).blocks, q ∈ (T.mk k n s (some ⟨g, 0, none⟩) cap l r).blocks ∨ q ∈ (T.mk kx nx sx Ax cx lx rx).blocks := fun q hq => by
          rw [hblk] at hq
          rcases List.mem_cons.1 hq with rfl | hq
          · exact .inl hgb
          · rcases perm_set hy q hq with h | ⟨j, z, _, hz, h⟩
            · rcases e3 q h with h | h
              · exact .inl (T.sub_blocks hmem h)
              · exact .inr h
            · exact .inl (T.sub_blocks (List.mem_of_getElem? hz) h)
        refine ⟨?_, ?_, hin, fun h => (by cases h), fun _ => ⟨?_, ?_⟩⟩
        · refine T.sp_mk.2 ⟨by simpa using fit, fun h => absurd h hne2, fun _ => ⟨by simpa using hrow, g, rfl, by omega⟩, fun z hz => ?_⟩
          obtain ⟨j, hj, rfl⟩ := List.mem_iff_getElem.1 hz
          rw [List.getElem_set]
          split
          · exact e1
          · rename_i hne3
            exact hsib j (by simpa using hj) (fun h => hne3 h.symm)
        · rw [hblk, List.nodup_cons]
          refine ⟨fun h => ?_, nodup_set hy hfl e2 hpd⟩
          rcases perm_set hy g h with h | ⟨j, z, _, hz, h⟩
          · rcases e3 g h with h | h
            · exact hgy h
            · exact hxd g h hgb
          · exact sp_child_ne hnd (List.mem_of_getElem? hz) h
        · rcases hLb with h | h
          · rw [h]; exact hgb
          · exact T.sub_blocks hmem h
        · simp [T.cells]

end Go.Proofs.Ytihjmipmjogpoaa

/- Chapter 2: where a place leads: what lies there. -/
namespace Go.Proofs.Ytihjmipmjogpoaa
open Go.RowKit

theorem vAt_append (p q : List Int) : ∀ v : V, vAt (p ++ q) v = (vAt p v).bind (vAt q) := by
  induction p with
  | nil => intro v; rfl
  | cons i p ih =>
    intro v
    rw [List.cons_append, vAt_cons, vAt_cons]
    split
    · rfl
    · rw [Option.bind_assoc]
      exact congrArg _ (funext fun x => ih x)

/-- A place that leads somewhere is of natural numbers. -/
theorem vAt_nat (p : List Int) : ∀ v y, vAt p v = some y → ∃ pn : List Nat, p = pn.map fun i : Nat => (i : Int) := by
  induction p with
  | nil => intro v y _; exact ⟨[], rfl⟩
  | cons i p ih =>
    intro v y h
    rw [vAt_cons] at h
    split at h
    · cases h
    · rename_i hi
      obtain ⟨x, _, h2⟩ := Option.bind_eq_some_iff.1 h
      obtain ⟨pn, rfl⟩ := ih x y h2
      exact ⟨i.toNat :: pn, by rw [List.map_cons, Int.toNat_of_nonneg (by omega)]⟩

/-- What lies where a place leads, in memory of one's own. -/
theorem loc_five {w : World} {lo hi : Nat} (p : List Nat) : ∀ (t : T) (b o : Nat) (y : V), t.Sp w lo hi → Five w b o t → (∀ i, w.frozen? ⟨b, i, none⟩ = false) → vAt (p.map fun i : Nat => (i : Int)) t.v = some y →
    (loc p (b, o) t).2.Sp w lo hi ∧ Five w (loc p (b, o) t).1.1 (loc p (b, o) t).1.2 (loc p (b, o) t).2 ∧ (loc p (b, o) t).2.v = y ∧ (∀ i, w.frozen? ⟨(loc p (b, o) t).1.1, i, none⟩ = false) ∧ ((loc p (b, o) t).1.1 = b ∨ (loc p (b, o) t).1.1 < w.heap.size) := by
  induction p with
  | nil =>
    intro t b o y hsp h5 hf hat
    exact ⟨hsp, h5, (Option.some.inj hat), hf, .inl rfl⟩
  | cons i p ih =>
    intro t b o y hsp h5 hf hat
    cases t with
    | mk k n s A cap l r =>
      rw [T.v_mk, List.map_cons, vAt_cons, if_neg (by omega), Int.toNat_natCast] at hat
      simp only [V.list, List.getElem?_map] at hat
      obtain ⟨fit, h2, h3, h4⟩ := T.sp_mk.1 hsp
      cases hy : l[i]? with
      | none => rw [hy] at hat; cases hat
      | some z =>
        rw [hy] at hat
        simp only [Option.map_some, Option.bind_some] at hat
        have hmem := List.mem_of_getElem? hy
        have hne : l ≠ [] := by rintro rfl; cases hmem
        obtain ⟨hown, g, rfl, hg⟩ := h3 hne
        rw [loc_cons i p (b, o) k n s ⟨g, 0, none⟩ cap l r z hy]
        have hgl := (owns_lt hown g rfl).2
        have h := ih z g (i * 5) y (h4 z hmem) (fun c u hu => by
          have := World.ownsRow.cells hown (g := g) rfl _ _ (rowCells_get l i c z u hy hu)
          rwa [add_at, Nat.zero_add] at this) (fun q => hown.frozenAt q) hat
        refine ⟨h.1, h.2.1, h.2.2.1, h.2.2.2.1, .inr ?_⟩
        rcases h.2.2.2.2 with h | h
        · show (loc p (g, i * 5) z).1.1 < w.heap.size
          rw [h]; exact hgl
        · exact h

/-- One step further. -/
theorem loc_step {w : World} {lo hi : Nat} {p : List Nat} {t : T} {b o : Nat} {y : V} (hsp : t.Sp w lo hi) (h5 : Five w b o t) (hf : ∀ i, w.frozen? ⟨b, i, none⟩ = false) (hb : b < w.heap.size) (hat : vAt (p.map fun i : Nat => (i : Int)) t.v = some y) {j : Nat} (hj : j < p.length) :
    ∃ b1 o1 k n s g cap l r, loc (p.take j) (b, o) t = ((b1, o1), T.mk k n s (some ⟨g, 0, none⟩) cap l r) ∧ p[j] < l.length ∧ l.length * 64 ≤ 140737488351232 ∧ w.cell? ⟨b1, o1 + 3, none⟩ = some (.slice (some ⟨g, 0, none⟩) l.length cap) ∧ b1 < w.heap.size ∧
      (loc (p.take (j + 1)) (b, o) t).1 = (g, p[j] * 5) := by
  have hp : p = p.take j ++ (p[j] :: p.drop (j + 1)) := by rw [← List.drop_eq_getElem_cons hj, List.take_append_drop]
  rw [hp, List.map_append, vAt_append] at hat
  obtain ⟨u, hu, hat⟩ := Option.bind_eq_some_iff.1 hat
  obtain ⟨h1, h2, h3, -, h4⟩ := loc_five (p.take j) t b o u hsp h5 hf hu
  rw [List.map_cons, vAt_cons, if_neg (by omega), Int.toNat_natCast] at hat
  obtain ⟨z, hz, -⟩ := Option.bind_eq_some_iff.1 hat
  rw [← h3] at hz
  have hsn : loc (p.take (j + 1)) (b, o) t = stp (loc (p.take j) (b, o) t) p[j] := by rw [List.take_succ_eq_append_getElem hj, loc_snoc]
  generalize loc (p.take j) (b, o) t = L at *
  obtain ⟨⟨b1, o1⟩, k, n, s, A, cap, l, r⟩ := L
  rw [T.v_mk] at hz
  simp only [V.list, List.getElem?_map, Option.map_eq_some_iff] at hz
  obtain ⟨q, hq, -⟩ := hz
  have hlt := (List.getElem?_eq_some_iff.1 hq).1
  have hne : l ≠ [] := by rintro rfl; simp at hlt
  obtain ⟨fit, -, h6, -⟩ := T.sp_mk.1 h1
  obtain ⟨-, g, rfl, -⟩ := h6 hne
  refine ⟨b1, o1, k, n, s, g, cap, l, r, rfl, hlt, fit.len1, h2 3 _ rfl, ?_, ?_⟩
  · rcases h4 with h | h
    · have h' : b1 = b := h
      rw [h']; exact hb
    · exact h
  · rw [hsn]
    simp only [stp, T.base, T.kids, hq]

/-- The box behind a store. -/
theorem put_box {w : World} {g : Nat} {t : T} (hB : Blk w g 27 t.cells.toArray) (p : List Nat) {kx nx : Int} {sx : ByteArray} {Ax : Option Addr} {cx : Nat} {lx : List T} {rx : Int} (h0 : p = [] → (loc p (g, 0) t).1 = (g, 0))
    (h1 : p ≠ [] → (loc p (g, 0) t).1.1 ∈ t.blocks ∧ (T.put p (T.mk kx nx sx Ax cx lx rx) t).cells = t.cells) (hg : g ∉ t.blocks) :
    Blk (five w (loc p (g, 0) t).1.1 (loc p (g, 0) t).1.2 kx nx sx Ax lx.length cx rx) g 27 (T.put p (T.mk kx nx sx Ax cx lx rx) t).cells.toArray := by
  by_cases hp : p = []
  · rw [h0 hp]
    subst hp
    obtain ⟨k, n, s, A, cap, l, r⟩ := t
    exact (sets5v w g 27 _ _ _ _ _ (.int .u8 kx) (.int .i64 nx) (.string sx) (.slice Ax lx.length cx) (.int .i64 rx) hB).1
  · obtain ⟨h2, h3⟩ := h1 hp
    rw [h3]
    exact hB.fr (five_fr w _ _ kx nx sx Ax lx.length cx rx) (fun h => hg (by have h' : g = _ := h; rw [h']; exact h2))

end Go.Proofs.Ytihjmipmjogpoaa

/- Chapter 2: value.With. -/
namespace Go.Proofs.Ytihjmipmjogpoaa
open Go.RowKit

/-- What With answers. -/
def withOf (v x : V) (p : List Int) : V × Int :=
  if v.may = true ∧ x.may = true then (if (vAt p v).isSome = true then (if (V.put p x v).may = true then (V.put p x v, 0) else (V.zero, 4)) else (V.zero, 22)) else (V.zero, 2)

/-- Where With stands: its arguments, the answer's box. -/
structure WI (w : World) (t x : T) (lo hi lo2 hi2 : Nat) (A : Option Addr) (cap : Nat) (p : List Int) (lo' hi' : Nat) (wi : World) : Prop where
  bv : Blk wi w.heap.size 27 t.cells.toArray
  bx : Blk wi (w.heap.size + 1) 27 x.cells.toArray
  bz : Blk wi (w.heap.size + 2) 27 #[.int .u8 0, .int .i64 0, .string ⟨#[]⟩, .slice none 0 0, .int .i64 0]
  iv : t.In wi lo hi
  ix : x.In wi lo2 hi2
  ip : Ints wi lo' hi' A cap p
  f : Fr No w wi
  h1 : hi ≤ w.heap.size
  h2 : hi2 ≤ w.heap.size
  h3 : hi' ≤ w.heap.size

theorem WI.no {w wi wj : World} {t x : T} {lo hi lo2 hi2 : Nat} {A : Option Addr} {cap : Nat} {p : List Int} {lo' hi' : Nat} (h : WI w t x lo hi lo2 hi2 A cap p lo' hi' wi) (f : Fr No wi wj) : WI w t x lo hi lo2 hi2 A cap p lo' hi' wj := by
  have hs := h.f.size
  have a1 := h.h1
  have a2 := h.h2
  have a3 := h.h3
  exact ⟨h.bv.fr f fun h => h, h.bx.fr f fun h => h, h.bz.fr f fun h => h, h.iv.no f (by omega), h.ix.no f (by omega), h.ip.no f (by omega), h.f.trans f, a1, a2, a3⟩

theorem WI.begin {w : World} {k n : Int} {s : ByteArray} {B : Option Addr} {cb : Nat} {l : List T} {r : Int} {k' n' : Int} {s' : ByteArray} {B' : Option Addr} {cb' : Nat} {l' : List T} {r' : Int} {lo hi lo2 hi2 : Nat} {A : Option Addr} {cap : Nat} {p : List Int} {lo' hi' : Nat}
    (h1 : (T.mk k n s B cb l r).In w lo hi) (a1 : hi ≤ w.heap.size) (h2 : (T.mk k' n' s' B' cb' l' r').In w lo2 hi2) (a2 : hi2 ≤ w.heap.size) (h3 : Ints w lo' hi' A cap p) (a3 : hi' ≤ w.heap.size) :
    WI w (T.mk k n s B cb l r) (T.mk k' n' s' B' cb' l' r') lo hi lo2 hi2 A cap p lo' hi' (((w.alloc (.cells #[.int .u8 k, .int .i64 n, .string s, .slice B l.length cb, .int .i64 r] 27)).alloc (.cells #[.int .u8 k', .int .i64 n', .string s', .slice B' l'.length cb', .int .i64 r'] 27)).alloc (.cells #[.int .u8 0, .int .i64 0, .string ⟨#[]⟩, .slice none 0 0, .int .i64 0] 27)) := by
  have f := (((Fr.refl No w).alloc (.cells #[.int .u8 k, .int .i64 n, .string s, .slice B l.length cb, .int .i64 r] 27)).alloc (.cells #[.int .u8 k', .int .i64 n', .string s', .slice B' l'.length cb', .int .i64 r'] 27)).alloc (.cells #[.int .u8 0, .int .i64 0, .string ⟨#[]⟩, .slice none 0 0, .int .i64 0] 27)
  exact ⟨((Blk.new' w 27 _ rfl).alloc _).alloc _, (Blk.new' (w.alloc _) 27 _ (by simp)).alloc _, Blk.new' ((w.alloc _).alloc _) 27 _ (by simp), h1.no f a1, h2.no f a2, h3.no f a3, f, a1, a2, a3⟩

set_option maxRecDepth 100000 in
set_option maxHeartbeats 8000000 in
theorem With_any (t x : T) (w : World) (lo hi : Nat) (ht : t.In w lo hi) (hh : hi ≤ w.heap.size) (lo2 hi2 : Nat) (hx : x.In w lo2 hi2) (hh2 : hi2 ≤ w.heap.size) (A : Option Addr) (cap : Nat) (p : List Int) (lo' hi' : Nat) (hp : Ints w lo' hi' A cap p) (hh' : hi' ≤ w.heap.size) :
    Calls Try.prog 70 #[t.val, x.val, .slice A p.length cap] w (OwnE2 (withOf t.v x.v p).1 (withOf t.v x.v p).2 w) := by
  have hM1 := fun w' h h' => may_any t w' lo hi h h'
  have hM2 := fun w' h h' => may_any x w' lo2 hi2 h h'
  have hF := fun w' h h' h1 h2 => find2_any t w' lo hi h h' A cap p lo' hi' h1 h2
  have hO1 := fun w' h h' => own2_any t w' lo hi h h'
  have hO2 := fun w' h h' => own2_any x w' lo2 hi2 h h'
  have hplen := hp.len
  cases t with
  | mk k n s B cb l r =>
  cases x with
  | mk kx nx sx Bx cx lx rx =>
    have W1 := WI.begin ht hh hx hh2 hp hh'
    rw [T.val_mk] at hM1 hM2 hF hO1 hO2
    rw [T.val_mk, T.val_mk]
    generalize hv : (T.mk k n s B cb l r).v = v at *
    generalize hu : (T.mk kx nx sx Bx cx lx rx).v = u at *
    have hbad : ∀ (W W' : World) (m : Int), Fr No w W → withOf v u p = (V.zero, m) → Fr (fun i => i = w.heap.size + 2) W W' → OwnE2 (withOf v u p).1 (withOf v u p).2 w (.returned (.tuple #[.agg #[.int .u8 0, .int .i64 0, .string ⟨#[]⟩, .slice none 0 0, .int .i64 0], .int .i64 m])) W' := fun W W' m f e f' => by
      rw [e]
      exact ⟨T.zero, rfl, T.zero_v, T.zero_sh _ _ _, f.trans' f' fun i hi h => by have h' : i = w.heap.size + 2 := h; omega⟩
    have HBAD := hide hbad
    have hs1 := W1.f.size
    clear hbad ht hx hp
    have HM1 := hide hM1
    have HM2 := hide hM2
    have HF := hide hF
    have HO1 := hide hO1
    have HO2 := hide hO2
    have HV := hide hv
    have HU := hide hu
    have HW1 := hide W1
    clear hM1 hM2 hF hO1 hO2 hv hu W1
    go_enter Try.func70, Try.ntmps70
    go_wp2_with fail
    generalize World.alloc (World.alloc (World.alloc w _) _) _ = w1 at *
    refine (HM1.out w1 HW1.out.iv (by omega)).mono ?_
    rintro e w2 ⟨rfl, f2⟩
    have W2 := HW1.out.no f2
    have hs2 := W2.f.size
    have HW2 := hide W2
    obtain ⟨x0, x1, x2, x3, x4, -⟩ := Blk.cells5 W2.bx
    have q1 := W2.bx.lt
    obtain ⟨d0, d1, d2, d3, d4, df⟩ := W2.bz.cells5
    have q2 := W2.bz.lt
    clear HW1 f2 W2 HM1
    cases hm : v.may with
    | false =>
      have HE := hide (show withOf v u p = (V.zero, 2) by simp [withOf, hm])
      clear hm
      go_wp2
      refine bodyPost_ret (v := .tuple #[.agg #[.int .u8 0, .int .i64 0, .string ⟨#[]⟩, .slice none 0 0, .int .i64 0], .int .i64 2]) (by simp [results, Try.results70, go_sem, *]) rfl ?_
      refine HBAD.out _ _ 2 HW2.out.f HE.out ?_
      repeat (first | with_reducible exact Fr.refl _ _ | with_reducible refine Fr.set ?_ (by simp) _)
    | true =>
    have HMV := hide hm
    clear hm
    go_wp2_with fail
    refine (HM2.out w2 HW2.out.ix (by omega)).mono ?_
    rintro e w3 ⟨rfl, f3⟩
    have W3 := HW2.out.no f3
    have hs3 := W3.f.size
    have HW3 := hide W3
    clear x0 x1 x2 x3 x4 q1 d0 d1 d2 d3 d4 df q2
    obtain ⟨c0, c1, c2, c3, c4, -⟩ := Blk.cells5 W3.bv
    have q0 := W3.bv.lt
    obtain ⟨d0, d1, d2, d3, d4, df⟩ := W3.bz.cells5
    have q2 := W3.bz.lt
    clear HW2 f3 W3 HM2
    cases hm : u.may with
    | false =>
      have HE := hide (show withOf v u p = (V.zero, 2) by simp [withOf, hm])
      clear hm
      go_wp2
      refine bodyPost_ret (v := .tuple #[.agg #[.int .u8 0, .int .i64 0, .string ⟨#[]⟩, .slice none 0 0, .int .i64 0], .int .i64 2]) (by simp [results, Try.results70, go_sem, *]) rfl ?_
      refine HBAD.out _ _ 2 HW3.out.f HE.out ?_
      repeat (first | with_reducible exact Fr.refl _ _ | with_reducible refine Fr.set ?_ (by simp) _)
    | true =>
    have HMU := hide hm
    clear hm d0 d1 d2 d3 d4 df q2
    go_wp2_with fail
    refine (HF.out w3 HW3.out.iv (by omega) HW3.out.ip (by omega)).mono ?_
    rintro e w4 ⟨f4, hP⟩
    have W4 := HW3.out.no f4
    have hs4 := W4.f.size
    have HW4 := hide W4
    clear HW3 f4 HF c0 c1 c2 c3 c4 q0
    rcases hP with ⟨⟨kf, nf, sf, Af, cf, lf, rf⟩, rfl, hat, -⟩ | ⟨rfl, hat⟩
    case inr =>
      have HE := hide (show withOf v u p = (V.zero, 22) by simp only [withOf]; rw [if_pos ⟨HMV.out, HMU.out⟩, hat]; rfl)
      clear hat
      have W5 := W4.no ((Fr.refl No w4).alloc (.cells #[.int .u8 0, .int .i64 0, .string ⟨#[]⟩, .slice none 0 0, .int .i64 0] 27))
      obtain ⟨d0, d1, d2, d3, d4, df⟩ := W5.bz.cells5
      have q2 := W5.bz.lt
      have HW5 := hide W5
      clear W4 W5
      go_wp2
      refine bodyPost_ret (v := .tuple #[.agg #[.int .u8 0, .int .i64 0, .string ⟨#[]⟩, .slice none 0 0, .int .i64 0], .int .i64 22]) (by simp [results, Try.results70, go_sem, *]) rfl ?_
      refine HBAD.out _ _ 22 HW5.out.f HE.out ?_
      repeat (first | with_reducible exact Fr.refl _ _ | with_reducible refine Fr.set ?_ (by simp) _)
    case inl =>
    rw [T.val_mk]
    have W5 := W4.no ((Fr.refl No w4).alloc (.cells #[.int .u8 kf, .int .i64 nf, .string sf, .slice Af lf.length cf, .int .i64 rf] 27))
    have hs5 := W5.f.size
    have HW5 := hide W5
    obtain ⟨c0, c1, c2, c3, c4, -⟩ := Blk.cells5 W5.bv
    have q0 := W5.bv.lt
    have HAT := hide hat
    clear W4 HW4 W5 hat
    go_wp2_with fail
    generalize World.alloc w4 _ = w5 at *
    refine (HO1.out w5 HW5.out.iv (by omega)).mono ?_
    rintro e w6 ⟨t1, rfl, ev1, sh1, f6⟩
    have HT1 := hide (⟨_, rfl⟩ : ∃ tt : T, tt = t1)
    have sh1' := sh1
    obtain ⟨k1, n1, s1, B1, cb1, l1, r1⟩ := t1
    rw [T.val_mk]
    have W6 := HW5.out.no f6
    have f7 := (Fr.refl No w6).alloc (.cells #[.int .u8 k1, .int .i64 n1, .string s1, .slice B1 l1.length cb1, .int .i64 r1] 27)
    have W7 := W6.no f7
    have b7 : Blk (w6.alloc (.cells #[.int .u8 k1, .int .i64 n1, .string s1, .slice B1 l1.length cb1, .int .i64 r1] 27)) w6.heap.size 27 (T.mk k1 n1 s1 B1 cb1 l1 r1).cells.toArray := Blk.new w6 27 _
    have sh7 := sh1.no f7
    have hb7 : w6.heap.size ∉ (T.mk k1 n1 s1 B1 cb1 l1 r1).blocks := fun h => by have := T.In.blocks _ sh1.inn _ h; omega
    obtain ⟨pn, hpn⟩ := vAt_nat p v _ HAT.out
    have hat1 : vAt (pn.map fun i : Nat => (i : Int)) (T.mk k1 n1 s1 B1 cb1 l1 r1).v = some (T.mk kf nf sf Af cf lf rf).v := by rw [← hpn, ev1]; exact HAT.out
    have hpl : pn.length = p.length := by rw [hpn, List.length_map]
    have hs6 := f6.size
    have hs7 := f7.size
    have HF6 := hide f6
    have HB7 := hide b7
    have HSH := hide sh7
    have HBN := hide hb7
    have HPN := hide hpn
    have HA1 := hide hat1
    have HPL := hide hpl
    have HW7 := hide W7
    have HEV := hide ev1
    have hsl : w6.heap.size < (w6.alloc (.cells #[.int .u8 k1, .int .i64 n1, .string s1, .slice B1 l1.length cb1, .int .i64 r1] 27)).heap.size := by simp
    clear sh1 sh1' HT1 W6 f7 W7 b7 sh7 hb7 hpn hat1 hpl f6 ev1 c0 c1 c2 c3 c4 q0 HO1
    go_wp2_with fail
    generalize World.alloc w6 _ = w7 at *
    go_loopw [11, 13, 36] (fun at_ _ i wr => ∃ (j b o : Nat), j ≤ p.length ∧ i = .int .i64 j ∧ at_ = .pointer (some ⟨b, o, none⟩) ∧ (loc (pn.take j) (w6.heap.size, 0) (T.mk k1 n1 s1 B1 cb1 l1 r1)).1 = (b, o) ∧ Fr No w7 wr) (fun _ _ i _ => p.length - (intOf i).toNat)
    case atStart => exact ⟨0, w6.heap.size, 0, Nat.zero_le _, rfl, rfl, rfl, Fr.refl _ _⟩
    case round =>
      obtain ⟨j, b, o, hj, rfl, rfl, hloc, fr⟩ := hrel
      have hfive : Five wr w6.heap.size 0 (T.mk k1 n1 s1 B1 cb1 l1 r1) := fun c u hu => by
        rw [Nat.zero_add, (HB7.out.fr fr fun h => h).cell, List.getElem?_toArray]; exact hu
      have hfz := (HB7.out.fr fr fun h => h).frozen
      have hlt7 := (HB7.out.fr fr fun h => h).lt
      have hspr := (HSH.out.no fr).sp
      by_cases hjl : j < p.length
      · obtain ⟨ba, oa, rfl, hb0, hb1, hc⟩ := (HW7.out.ip.no fr (by omega)).elem hjl
        have hjn : j < pn.length := by rw [HPL.out]; exact hjl
        obtain ⟨b1, o1, ks, ns, ss, g, cs, ls, rs, hl1, hkl, hl64, hcell, hbl, hstep⟩ := loc_step hspr hfive hfz hlt7 HA1.out hjn
        rw [hl1] at hloc
        simp only [Prod.mk.injEq] at hloc
        obtain ⟨rfl, rfl⟩ := hloc
        have hpj : p[j] = (pn[j] : Int) := by
          have hpn := HPN.out
          subst hpn
          simp
        rw [hpj] at hc
        have g0 : ba < wr.heap.size := by have := fr.size; omega
        generalize pn[j] = i at *
        have HST := hide hstep
        have HFR := hide fr
        have hge : ¬ ls.length ≤ i := by omega
        clear hfive hfz hlt7 hspr hl1 hstep hpj fr
        go_wp2_with fail
        go_roundw
        case rel => exact ⟨j + 1, _, _, hjl, by go_num, rfl, HST.out, HFR.out⟩
        case measure => simp [intOf]; omega
      · obtain rfl : j = p.length := by omega
        rw [List.take_of_length_le (by rw [HPL.out]; exact Nat.le_refl _)] at hloc
        have Wr := HW7.out.no fr
        obtain ⟨x0, x1, x2, x3, x4, -⟩ := Blk.cells5 Wr.bx
        have q1 := Wr.bx.lt
        have HWR := hide Wr
        have HFR := hide fr
        have HLOC := hide hloc
        have hsr := fr.size
        clear hfive hfz hlt7 hspr Wr fr hloc
        go_wp2_with fail
        refine (HO2.out wr HWR.out.ix (by omega)).mono ?_
        rintro e w8 ⟨⟨k2, n2, s2, B2, cb2, l2, r2⟩, rfl, ev2, sh2, f8⟩
        rw [T.val_mk]
        have hs8 := f8.size
        have F8 := HFR.out.trans f8
        have b8 := HB7.out.fr F8 fun h => h
        have sp8 := (HSH.out.no F8).sp
        have hfive : Five w8 w6.heap.size 0 (T.mk k1 n1 s1 B1 cb1 l1 r1) := fun c u hu => by
          rw [Nat.zero_add, b8.cell, List.getElem?_toArray]; exact hu
        obtain ⟨hs1', h51, -, hfz1, hbl1⟩ := loc_five pn _ _ _ _ sp8 hfive b8.frozen HA1.out
        have hd2 : ∀ i ∈ (T.mk k2 n2 s2 B2 cb2 l2 r2).blocks, wr.heap.size ≤ i ∧ i < w8.heap.size := fun i hi => T.In.blocks _ sh2.inn i hi
        have hd1 : ∀ i ∈ (T.mk k1 n1 s1 B1 cb1 l1 r1).blocks, w5.heap.size ≤ i ∧ i < w6.heap.size := fun i hi => T.In.blocks _ HSH.out.inn i hi
        have hbq : (loc pn (w6.heap.size, 0) (T.mk k1 n1 s1 B1 cb1 l1 r1)).1.1 = w6.heap.size ∨ (loc pn (w6.heap.size, 0) (T.mk k1 n1 s1 B1 cb1 l1 r1)).1.1 ∈ (T.mk k1 n1 s1 B1 cb1 l1 r1).blocks := by
          have hpz := put_store (kx := 0) (nx := 0) (sx := ⟨#[]⟩) (Ax := none) (cx := 0) (lx := []) (rx := 0) (lo2 := w5.heap.size) (hi2 := w8.heap.size) pn _ w6.heap.size 0 sp8 HSH.out.nodup HBN.out ⟨_, HA1.out⟩ (T.sh_leaf ⟨by decide, by decide, by decide, by decide, by decide, by decide, by decide, by decide, by decide⟩).sp (by rw [T.blocks_mk]; simp) (by rw [T.blocks_mk]; simp) (Nat.le_refl _) (by have := f8.size; omega)
          by_cases hp0 : pn = []
          · left; rw [hpz.2.2.2.1 hp0]
          · exact .inr (hpz.2.2.2.2 hp0).1
        have hblw : (loc pn (w6.heap.size, 0) (T.mk k1 n1 s1 B1 cb1 l1 r1)).1.1 ≤ w6.heap.size := by
          rcases hbq with h | h
          · omega
          · have := hd1 _ h; omega
        have hx2 : (T.mk k2 n2 s2 B2 cb2 l2 r2).Sp (five w8 (loc pn (w6.heap.size, 0) (T.mk k1 n1 s1 B1 cb1 l1 r1)).1.1 (loc pn (w6.heap.size, 0) (T.mk k1 n1 s1 B1 cb1 l1 r1)).1.2 k2 n2 s2 B2 l2.length cb2 r2) wr.heap.size w8.heap.size :=
          T.Sp.fr (five_fr w8 _ _ k2 n2 s2 B2 l2.length cb2 r2) _ (fun i hi h => by have h' : i = _ := h; have := hd2 i hi; omega) sh2.sp
        have hput := put_store pn _ w6.heap.size 0 sp8 HSH.out.nodup HBN.out ⟨_, HA1.out⟩ hx2 sh2.nodup (fun i hi h => by have := hd2 i hi; have := hd1 i h; omega) (by omega) (by omega)
        have hbox := put_box (kx := k2) (nx := n2) (sx := s2) (Ax := B2) (cx := cb2) (lx := l2) (rx := r2) b8 pn hput.2.2.2.1 hput.2.2.2.2 HBN.out
        have hpv := T.put_v pn (T.mk k2 n2 s2 B2 cb2 l2 r2) (T.mk k1 n1 s1 B1 cb1 l1 r1)
        rw [← HPN.out, ev2, HEV.out] at hpv
        have F9 := five_fr w8 (loc pn (w6.heap.size, 0) (T.mk k1 n1 s1 B1 cb1 l1 r1)).1.1 (loc pn (w6.heap.size, 0) (T.mk k1 n1 s1 B1 cb1 l1 r1)).1.2 k2 n2 s2 B2 l2.length cb2 r2
        rw [HLOC.out] at hput hbox F9 h51 hfz1 hblw hx2 hbl1
        have hb8 : b < w8.heap.size := by have := f8.size; have : b ≤ w6.heap.size := hblw; omega
        generalize hsub : (loc pn (w6.heap.size, 0) (T.mk k1 n1 s1 B1 cb1 l1 r1)).2 = sub at *
        obtain ⟨k3, n3, s3, B3, cb3, l3, r3⟩ := sub
        have e0 : w8.cell? ⟨b, o, none⟩ = some (.int .u8 k3) := h51 0 _ rfl
        have e1 : w8.cell? ⟨b, o + 1, none⟩ = some (.int .i64 n3) := h51 1 _ rfl
        have e2 : w8.cell? ⟨b, o + 2, none⟩ = some (.string s3) := h51 2 _ rfl
        have e3 : w8.cell? ⟨b, o + 3, none⟩ = some (.slice B3 l3.length cb3) := h51 3 _ rfl
        have e4 : w8.cell? ⟨b, o + 4, none⟩ = some (.int .i64 r3) := h51 4 _ rfl
        have ef : ∀ i, w8.frozen? ⟨b, i, none⟩ = false := hfz1
        obtain ⟨sp9, nd9, in9, -, -⟩ := hput
        have f08 : Fr No w w8 := HW7.out.f.trans F8
        have hw58 : w5.heap.size ≤ w8.heap.size := by omega
        have fw9 : Fr No w (five w8 b o k2 n2 s2 B2 l2.length cb2 r2) := f08.trans' F9 fun i hi h => by
          have h' : i = b := h
          rcases hbq with h2 | h2
          · rw [HLOC.out] at h2
            have h2' : b = w6.heap.size := h2
            omega
          · rw [HLOC.out] at h2
            have := hd1 b h2
            omega
        have bz9 : Blk (five w8 b o k2 n2 s2 B2 l2.length cb2 r2) (w.heap.size + 2) 27 #[.int .u8 0, .int .i64 0, .string ⟨#[]⟩, .slice none 0 0, .int .i64 0] := ((HWR.out.bz.fr f8 fun h => h)).fr F9 fun h => by
          have h' : w.heap.size + 2 = b := h
          have hz := HW5.out.bz.lt
          rcases hbq with h2 | h2
          · rw [HLOC.out] at h2
            have h2' : b = w6.heap.size := h2
            omega
          · rw [HLOC.out] at h2
            have := hd1 b h2
            omega
        have hlow5 : w.heap.size + 2 < w5.heap.size := HW5.out.bz.lt
        have HPV := hide hpv
        have HSP9 := hide sp9
        have HND9 := hide nd9
        have HBOX := hide hbox
        have HFW9 := hide fw9
        have HBZ9 := hide bz9
        have HS9 := hide (show (five w8 b o k2 n2 s2 B2 l2.length cb2 r2).heap.size = w8.heap.size by simp [five])
        clear hpv sp9 nd9 hbox fw9 bz9 in9 f08 F9 hd1 hd2 hbq hblw hx2 h51 hfz1 hbl1 hs1' b8 sp8 hfive F8 sh2 ev2 f8 hsub HLOC HWR HFR x0 x1 x2 x3 x4 q1
        go_upto_region 14 with (fail)
        have hW9 : (((((w8.setCell ⟨b, o, none⟩ (.int .u8 k2)).setCell ⟨b, o + 1, none⟩ (.int .i64 n2)).setCell ⟨b, o + 2, none⟩ (.string s2)).setCell ⟨b, o + 3, none⟩ (.slice B2 l2.length cb2)).setCell ⟨b, o + 4, none⟩ (.int .i64 r2)) = five w8 b o k2 n2 s2 B2 l2.length cb2 r2 := rfl
        rw [hW9]
        have hsp9 := HSP9.out
        have hbx9 := HBOX.out
        change T.Sp (five w8 b o k2 n2 s2 B2 l2.length cb2 r2) _ _ _ at hsp9
        change Blk (five w8 b o k2 n2 s2 B2 l2.length cb2 r2) _ _ _ at hbx9
        have hbz9 := HBZ9.out
        have hfw9 := HFW9.out
        have hs9 := HS9.out
        have hnd9 := HND9.out
        have hpv9 := HPV.out
        clear hW9 HSP9 HBOX HBZ9 HFW9 HS9 HND9 HPV e0 e1 e2 e3 e4 ef
        generalize five w8 b o k2 n2 s2 B2 l2.length cb2 r2 = w9 at *
        generalize T.put pn (T.mk k2 n2 s2 B2 cb2 l2 r2) (T.mk k1 n1 s1 B1 cb1 l1 r1) = tput at *
        obtain ⟨k3, n3, s3, B3, cb3, l3, r3⟩ := tput
        obtain ⟨y0, y1, y2, y3, y4, -⟩ := Blk.cells5 hbx9
        have qy := hbx9.lt
        have hM3 := may_any (T.mk k3 n3 s3 B3 cb3 l3 r3) w9 _ _ (T.Sp.inn _ hsp9) (by omega)
        rw [T.val_mk, hpv9] at hM3
        have HM3 := hide hM3
        have HBX := hide hbx9
        have HBZ := hide hbz9
        have HSH9 := hide (show T.Sh w9 w5.heap.size w8.heap.size (T.mk k3 n3 s3 B3 cb3 l3 r3) from ⟨hsp9, hnd9⟩)
        have HFW := hide hfw9
        have HPV := hide hpv9
        have HS9 := hide hs9
        clear hM3 hbx9 hbz9 hsp9 hnd9 hfw9 hpv9 hs9
        go_wp2_with fail
        refine HM3.out.mono ?_
        rintro e wa ⟨rfl, fa⟩
        have BXa := HBX.out.fr fa fun h => h
        have BZa := HBZ.out.fr fa fun h => h
        obtain ⟨y0, y1, y2, y3, y4, -⟩ := Blk.cells5 BXa
        obtain ⟨d0, d1, d2, d3, d4, df⟩ := BZa.cells5
        have qy := BXa.lt
        have q2 := BZa.lt
        have HFA := hide (HFW.out.trans fa)
        have HSA := hide (HSH9.out.no fa)
        have hsa := fa.size
        have hsa9 := HS9.out
        clear BXa BZa fa HBX HBZ HSH9 HFW HM3
        have hsome : (vAt p v).isSome = true := by rw [HAT.out]; rfl
        cases hm : (V.put p u v).may with
        | false =>
          have HE := hide (show withOf v u p = (V.zero, 4) by simp only [withOf]; rw [if_pos ⟨HMV.out, HMU.out⟩, if_pos hsome, hm]; rfl)
          clear hm hsome
          go_wp2
          refine bodyPost_ret (v := .tuple #[.agg #[.int .u8 0, .int .i64 0, .string ⟨#[]⟩, .slice none 0 0, .int .i64 0], .int .i64 4]) (by simp [results, Try.results70, go_sem, *]) rfl ?_
          refine HBAD.out _ _ 4 HFA.out HE.out ?_
          repeat (first | with_reducible exact Fr.refl _ _ | with_reducible refine Fr.set ?_ (by simp) _)
        | true =>
          have HE := hide (show withOf v u p = (V.put p u v, 0) by simp only [withOf]; rw [if_pos ⟨HMV.out, HMU.out⟩, if_pos hsome, hm]; rfl)
          clear hm hsome
          go_wp2
          refine bodyPost_ret (v := .tuple #[.agg #[.int .u8 k3, .int .i64 n3, .string s3, .slice B3 l3.length cb3, .int .i64 r3], .int .i64 0]) (by simp [results, Try.results70, go_sem, *]) rfl ?_
          rw [HE.out]
          have hF2 := HFA.out
          refine ⟨T.mk k3 n3 s3 B3 cb3 l3 r3, rfl, HPV.out, ?_, ?_⟩
          · refine (T.Sh.fr' (S := (· = w.heap.size + 2)) HSA.out ?_ (fun i h0 h1 h2 => by have h' : i = w.heap.size + 2 := h2; omega)).more (by omega) (by simp; omega)
            repeat (first | with_reducible exact Fr.refl _ wa | with_reducible refine Fr.set ?_ (by simp) _)
          · repeat (first | with_reducible exact hF2 | with_reducible refine Fr.setNew ?_ (by simp; try omega) _)

end Go.Proofs.Ytihjmipmjogpoaa

/- Chapter 2: what Rename answers may be. -/
namespace Go.Proofs.Ytihjmipmjogpoaa
open Go.RowKit

theorem vzero_may : V.zero.may = true := by simp [V.zero, V.may, V.fits, V.ok_mk, V.size_mk, V.dep_mk, fok, toL0]

theorem renV_may (v : V) (fs ts : List Int) : (renV v fs ts).1.may = true := by
  rcases renV_err v fs ts with h | h | h
  · obtain ⟨h1, _, _, h4, h5, h6⟩ := renV_ok h
    rw [h6]
    exact ren_may h1 (nm_pos h4 h5)
  all_goals
    unfold renV at h ⊢
    split at h
    · split at h
      · cases h
      · rename_i h1 h2
        rw [if_pos h1, if_neg h2]
        exact vzero_may
    · rename_i h1
      rw [if_neg h1]
      exact vzero_may

end Go.Proofs.Ytihjmipmjogpoaa

/- Chapter 2: a region that calls and lays the answer in a box; what At and With answer may be. -/
namespace Go.Proofs.Ytihjmipmjogpoaa
open Go.RowKit

/-- What a region leaves that lays an answer into a fresh box. -/
structure Rc (wa wx : World) (x : V) (g : Nat) (tt : T) : Prop where
  b : Blk wx g 27 tt.cells.toArray
  v : tt.v = x
  sh : tt.Sh wx wa.heap.size wx.heap.size
  g0 : wa.heap.size ≤ g
  gn : g ∉ tt.blocks
  f : Fr No wa wx

def RcP (wa : World) (x : V) (e : Int) (p q : Value) (wx : World) : Prop :=
  ∃ g tt, p = .pointer (some ⟨g, 0, none⟩) ∧ q = .int .i64 e ∧ Rc wa wx x g tt

theorem rc_new {w8 w9 : World} {k n : Int} {s : ByteArray} {A : Option Addr} {c : Nat} {l : List T} {r : Int} {x : V} {er : Int} (f9 : Fr No w8.drew w9) (hv : (T.mk k n s A c l r).v = x) (sh : (T.mk k n s A c l r).Sh w9 w8.drew.heap.size w9.heap.size) :
    RcP w8 x er (.pointer (some ⟨w9.heap.size, 0, none⟩)) (.int .i64 er) (w9.alloc (.cells #[.int .u8 k, .int .i64 n, .string s, .slice A l.length c, .int .i64 r] 27)) := by
  have f9' : Fr No w8 w9 := (Fr.refl No w8).drew.trans f9
  refine ⟨_, T.mk k n s A c l r, rfl, rfl, Blk.new w9 27 _, hv, (sh.no ((Fr.refl No w9).alloc _)).more (Nat.le_refl _) (by simp), f9'.size, fun h => ?_, f9'.alloc _⟩
  have := T.In.blocks _ sh.inn _ h
  omega

theorem rc_old {w8 w9 : World} {k n : Int} {s : ByteArray} {A : Option Addr} {c : Nat} {l : List T} {r : Int} {x : V} {er : Int} (f9 : Fr No (w8.alloc (.cells #[.int .u8 0, .int .i64 0, .string ⟨#[]⟩, .slice none 0 0, .int .i64 0] 27)).drew w9) (hv : (T.mk k n s A c l r).v = x) (sh : (T.mk k n s A c l r).Sh w9 (w8.alloc (.cells #[.int .u8 0, .int .i64 0, .string ⟨#[]⟩, .slice none 0 0, .int .i64 0] 27)).drew.heap.size w9.heap.size) :
    RcP w8 x er (.pointer (some ⟨w8.heap.size, 0, none⟩)) (.int .i64 er) (((((w9.setCell ⟨w8.heap.size, 0, none⟩ (.int .u8 k)).setCell ⟨w8.heap.size, 1, none⟩ (.int .i64 n)).setCell ⟨w8.heap.size, 2, none⟩ (.string s)).setCell ⟨w8.heap.size, 3, none⟩ (.slice A l.length c)).setCell ⟨w8.heap.size, 4, none⟩ (.int .i64 r)) := by
  have bz9 : Blk w9 w8.heap.size 27 #[.int .u8 0, .int .i64 0, .string ⟨#[]⟩, .slice none 0 0, .int .i64 0] := Blk.fr (a := (w8.alloc (.cells #[.int .u8 0, .int .i64 0, .string ⟨#[]⟩, .slice none 0 0, .int .i64 0] 27)).drew) (Blk.new w8 27 #[.int .u8 0, .int .i64 0, .string ⟨#[]⟩, .slice none 0 0, .int .i64 0]) f9 fun h => h
  have f9' : Fr No w8 w9 := ((Fr.refl No w8).alloc (.cells #[.int .u8 0, .int .i64 0, .string ⟨#[]⟩, .slice none 0 0, .int .i64 0] 27)).drew.trans f9
  have hb := ((((bz9.set_ 0 (.int .u8 k)).set_ 1 (.int .i64 n)).set_ 2 (.string s)).set_ 3 (.slice A l.length c)).set_ 4 (.int .i64 r)
  have hn : w8.heap.size ∉ (T.mk k n s A c l r).blocks := fun h => by
    have := T.In.blocks _ sh.inn _ h
    simp at this
    omega
  have hst : Fr (fun i => i = w8.heap.size) w9 (((((w9.setCell ⟨w8.heap.size, 0, none⟩ (.int .u8 k)).setCell ⟨w8.heap.size, 1, none⟩ (.int .i64 n)).setCell ⟨w8.heap.size, 2, none⟩ (.string s)).setCell ⟨w8.heap.size, 3, none⟩ (.slice A l.length c)).setCell ⟨w8.heap.size, 4, none⟩ (.int .i64 r)) :=
    (Fr.refl (fun i => i = w8.heap.size) w9).five (g := w8.heap.size) (fun _ => rfl) 0 _ _ _ _ _
  exact ⟨_, T.mk k n s A c l r, rfl, rfl, hb, hv, (sh.fr hst (fun b hb h => hn (h ▸ hb))).more (by simp) hst.size, Nat.le_refl _, hn, f9'.trans' hst fun i hi h => by omega⟩

/-- What a region leaves that lays an answer into an old box. -/
structure Rd (wa wx : World) (x : V) (g : Nat) (tt : T) : Prop where
  b : Blk wx g 27 tt.cells.toArray
  v : tt.v = x
  sh : tt.Sh wx wa.heap.size wx.heap.size
  f : Fr (fun i => i = g) wa wx

theorem rd_old {wa w9 : World} {g : Nat} {c0 c1 c2 c3 c4 : Value} {k n : Int} {s : ByteArray} {A : Option Addr} {c : Nat} {l : List T} {r : Int} {x : V} (hb : Blk wa g 27 #[c0, c1, c2, c3, c4]) (f9 : Fr No wa.drew w9) (hv : (T.mk k n s A c l r).v = x) (sh : (T.mk k n s A c l r).Sh w9 wa.drew.heap.size w9.heap.size) :
    Rd wa (five w9 g 0 k n s A l.length c r) x g (T.mk k n s A c l r) := by
  have f9' : Fr No wa w9 := (Fr.refl No wa).drew.trans f9
  have hst := five_fr w9 g 0 k n s A l.length c r
  have hg := hb.lt
  refine ⟨(sets5v w9 g 27 c0 c1 c2 c3 c4 _ _ _ _ _ (hb.fr f9' fun h => h)).1, hv, ((sh.fr hst fun b hb h => ?_)).more (Nat.le_refl _) hst.size, (f9'.no (S := fun i => i = g)).trans hst⟩
  have h' : b = g := h
  have := T.In.blocks _ sh.inn _ hb
  simp at this
  omega

theorem at_may (p : List Int) : ∀ v y, vAt p v = some y → v.may = true → y.may = true := by
  induction p with
  | nil => intro v y h hm; simp [vAt] at h; subst h; exact hm
  | cons i p ih =>
    intro v y h hm
    rw [vAt_cons] at h
    split at h
    · cases h
    · obtain ⟨x, hx, h2⟩ := Option.bind_eq_some_iff.1 h
      refine ih x y h2 ?_
      obtain ⟨k, n, s, l, r⟩ := v
      have hmem : x ∈ l := List.mem_of_getElem? hx
      simp only [V.may, V.fits, Bool.and_eq_true, decide_eq_true_eq, V.ok_mk, V.size_mk, V.dep_mk] at hm ⊢
      obtain ⟨⟨⟨h0, h1⟩, h3⟩, h4⟩ := hm
      have hok := List.all_eq_true.1 h1 x hmem
      have hsz : x.size ≤ (l.map V.size).sum := by
        clear h0 h1 h3 h4 hx h
        induction l with
        | nil => cases hmem
        | cons z l ih2 =>
          simp only [List.map_cons, List.sum_cons]
          rcases List.mem_cons.1 hmem with rfl | hm
          · omega
          · have := ih2 hm; omega
      have hk : k = 3 := by
        apply Classical.byContradiction
        intro hk
        have := fok_len hk h0
        rw [List.eq_nil_of_length_eq_zero this] at hmem
        cases hmem
      subst hk
      have hd : x.dep ≤ top (l.map V.dep) := le_top (List.mem_map_of_mem hmem)
      simp at h4
      exact ⟨⟨hok, by omega⟩, by omega⟩

theorem atOf_may (v : V) (p : List Int) : (atOf v p).1.may = true := by
  unfold atOf
  split
  · rename_i h
    cases hy : vAt p v with
    | none => exact vzero_may
    | some y => exact at_may p v y hy h
  · exact vzero_may

theorem withOf_may (v x : V) (p : List Int) : (withOf v x p).1.may = true := by
  unfold withOf
  split
  · split
    · split
      · assumption
      · exact vzero_may
    · exact vzero_may
  · exact vzero_may

end Go.Proofs.Ytihjmipmjogpoaa

/- Chapter 2, plain: what the walk of a value says of its parts, its depth, its places. -/
namespace Go.Proofs.Ytihjmipmjogpoaa

theorem walkL_mem : ∀ (l : List V) (i : Nat) (p q : List Int) (u : V), (q, u) ∈ walkL (l.map V.walk) i p → ∃ (j : Nat) (x : V), l[j]? = some x ∧ (q, u) ∈ x.walk (p ++ [((i + j : Nat) : Int)])
  | [], _, _, _, _, h => by simp [walkL] at h
  | y :: l, i, p, q, u, h => by
    simp only [List.map_cons, walkL] at h
    rcases List.mem_append.1 h with h | h
    · exact ⟨0, y, rfl, by simpa using h⟩
    · obtain ⟨j, x, hx, hm⟩ := walkL_mem l (i + 1) p q u h
      refine ⟨j + 1, x, by simpa using hx, ?_⟩
      rw [show i + (j + 1) = i + 1 + j by omega]
      exact hm

theorem walk_at (v : V) : ∀ (p q : List Int) (u : V), (q, u) ∈ v.walk p → ∃ s, q = p ++ s ∧ vAt s v = some u := by
  induction v using V.ind with
  | h k n s l r ih =>
    intro p q u hm
    rw [V.walk_mk] at hm
    rcases List.mem_cons.1 hm with h | h
    · obtain ⟨rfl, rfl⟩ := Prod.mk.inj h
      exact ⟨[], by simp, rfl⟩
    · obtain ⟨j, x, hx, hm2⟩ := walkL_mem l 0 p q u h
      obtain ⟨s', rfl, hs⟩ := ih x (List.mem_of_getElem? hx) _ _ _ hm2
      refine ⟨((0 + j : Nat) : Int) :: s', by simp, ?_⟩
      rw [vAt_cons, if_neg (by omega)]
      have e : (((0 + j : Nat) : Int)).toNat = j := by simp
      rw [e]
      show (l[j]?).bind (vAt s') = some u
      rw [hx]
      exact hs

theorem put_same (p : List Int) : ∀ (v u : V), vAt p v = some u → V.put p u v = v := by
  induction p with
  | nil => intro v u h; simp [vAt] at h; subst h; rfl
  | cons i p ih =>
    intro v u h
    obtain ⟨k, n, s, l, r⟩ := v
    rw [vAt_cons] at h
    split at h
    · cases h
    · cases hx : l[i.toNat]? with
      | none =>
        have h' : ((l[i.toNat]?).bind (vAt p)) = some u := h
        rw [hx] at h'
        cases h'
      | some y =>
        have h' : ((l[i.toNat]?).bind (vAt p)) = some u := h
        rw [hx] at h'
        rw [V.put_cons hx, ih y u h']
        congr 1
        obtain ⟨hi, rfl⟩ := List.getElem?_eq_some_iff.1 hx
        exact List.set_getElem_self hi

theorem at_part {v u : V} {q : List Int} (hm : v.may = true) (h : (q, u) ∈ v.walk []) : atOf v q = (u, 0) ∧ withOf v u q = (v, 0) ∧ u.may = true := by
  obtain ⟨s, hs, ha⟩ := walk_at v [] q u h
  rw [List.nil_append] at hs
  subst hs
  have e1 : atOf v q = (u, 0) := by unfold atOf; rw [if_pos hm, ha]
  have hu : u.may = true := by have := atOf_may v q; rw [e1] at this; exact this
  refine ⟨e1, ?_, hu⟩
  unfold withOf
  rw [if_pos ⟨hm, hu⟩, ha, put_same q v u ha, if_pos (by rfl), if_pos hm]

/-- How deep a part says that its value is. -/
def ddOf : List Int × V → Nat
  | (p, .mk k _ _ l _) => p.length + if k = 3 ∧ l = [] then 1 else 0

def deepOf (L : List (List Int × V)) : Nat := L.foldl (fun d x => max d (ddOf x)) 0

theorem deepOf_snoc (L : List (List Int × V)) (x : List Int × V) : deepOf (L ++ [x]) = max (deepOf L) (ddOf x) := by
  simp [deepOf]

theorem deep_walkL : ∀ (l : List V) (i : Nat) (p : List Int) (D : Nat), (∀ v ∈ l, ∀ (p : List Int) (D : Nat), (v.walk p).foldl (fun d x => max d (ddOf x)) D = max D (p.length + v.dep)) →
    (walkL (l.map V.walk) i p).foldl (fun d x => max d (ddOf x)) D = max D (if l = [] then 0 else p.length + 1 + top (l.map V.dep))
  | [], _, _, D, _ => by simp [walkL]
  | x :: l, i, p, D, h => by
    simp only [List.map_cons, walkL, List.foldl_append]
    rw [h x (by simp), deep_walkL l (i + 1) p _ (fun v hv => h v (by simp [hv]))]
    simp only [List.length_append, List.length_singleton]
    by_cases hl : l = []
    · subst hl; simp [top]
    · simp only [hl, if_false, top]
      simp only [reduceCtorEq, if_false]
      omega

theorem deep_walk (v : V) : v.ok = true → ∀ (p : List Int) (D : Nat), (v.walk p).foldl (fun d x => max d (ddOf x)) D = max D (p.length + v.dep) := by
  induction v using V.ind with
  | h k n s l r ih =>
    intro hok p D
    rw [V.ok_mk] at hok
    simp only [Bool.and_eq_true, List.all_eq_true] at hok
    obtain ⟨hf, ha⟩ := hok
    rw [V.walk_mk, List.foldl_cons, deep_walkL l 0 p _ (fun x hx => ih x hx (ha x hx)), V.dep_mk]
    have hl0 : k ≠ 3 → l = [] := fun h => List.eq_nil_of_length_eq_zero (fok_len h hf)
    simp only [ddOf]
    by_cases hk : k = 3
    · by_cases hl : l = []
      · subst hl; simp [hk, top]
      · simp only [hk, hl, if_true, if_false, and_false]
        omega
    · have := hl0 hk
      subst this
      simp [hk]

theorem deepOf_walk {v : V} (h : v.ok = true) : deepOf (v.walk []) = v.dep := by
  unfold deepOf
  rw [deep_walk v h]
  simp

end Go.Proofs.Ytihjmipmjogpoaa

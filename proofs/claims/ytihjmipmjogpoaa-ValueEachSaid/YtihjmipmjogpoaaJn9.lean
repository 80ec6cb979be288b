/- Texts joined: P12, P13, P6, P14, P3. -/
import Derived.Test.YtihjmipmjogpoaaJn8
import Derived.Maps.OwnSet
import Derived.Laws.OwnMore
import Derived.Outline
import Derived.Deep.RegionHeld3
import Derived.Deep.QuietTactic
import Derived.BigQuiet
import Derived.IntWalk
/- Chapter 2: value.rename: the references of a value of one's own, renamed in their places. -/
namespace Go.Proofs.Ytihjmipmjogpoaa
open Go.RowKit Go.Maps Go.ChangeMaps

/-- Under which name a reference goes: the first that names it. -/
def nmOf : List Int → List Int → Int → Option Int
  | f :: fs, t :: ts, r => if f = r then some t else nmOf fs ts r
  | _, _, _ => none

/-- A map of names, in a block of its own. -/
def Names (w : World) (b : Nat) (f : Int → Option Int) : Prop :=
  ∃ (n : Nat) (D : DataW Unit), w.ownsMap Try.prog 25 (plainElem Try.prog 25) b n D ∧ ∀ r : Int, -9223372036854775808 ≤ r → r ≤ 9223372036854775807 → Maps.has D (.int .i64 r) = (f r).isSome ∧ D.atKey (.int .i64 r) (.lit (.int .i64 0)) = .lit (.int .i64 ((f r).getD 0))

theorem ownsMap_fr {S : Nat → Prop} {w w' : World} {k : TypeId} {R : Value → Option (DataW Unit × List MemPlace)} {b n : Nat} {D : DataW Unit} (h : w.ownsMap Try.prog k R b n D) (f : Fr S w w') (hs : ¬ S b) : w'.ownsMap Try.prog k R b n D := by
  have hl := h.lt
  obtain ⟨es, clock, hb, h2⟩ := h
  exact ⟨es, clock, (f.block b hl hs).trans hb, h2⟩

theorem Names.fr {S : Nat → Prop} {w w' : World} {b : Nat} {f : Int → Option Int} (h : Names w b f) (fr : Fr S w w') (hs : ¬ S b) : Names w' b f := by
  obtain ⟨n, D, h1, h2⟩ := h
  exact ⟨n, D, ownsMap_fr h1 fr hs, h2⟩

theorem Names.lt {w : World} {b : Nat} {f : Int → Option Int} (h : Names w b f) : b < w.heap.size := by
  obtain ⟨n, D, h1, _⟩ := h
  exact h1.lt

/-- A value's references by other names. -/
def V.ren (f : Int → Option Int) : V → V
  | .mk k n s l r => if k = 4 then .mk k n s l ((f r).getD 0) else .mk k n s (l.map (V.ren f)) r
termination_by v => v
theorem V.ren_mk (f : Int → Option Int) (k n : Int) (s : ByteArray) (l : List V) (r : Int) : (V.mk k n s l r).ren f = if k = 4 then .mk k n s l ((f r).getD 0) else .mk k n s (l.map (V.ren f)) r := by rw [V.ren]

/-- Are all of them named? -/
def V.named (f : Int → Option Int) : V → Bool
  | .mk k _ _ l r => if k = 4 then (f r).isSome else (l.map (V.named f)).all id
termination_by v => v
theorem V.named_mk (f : Int → Option Int) (k n : Int) (s : ByteArray) (l : List V) (r : Int) : (V.mk k n s l r).named f = if k = 4 then (f r).isSome else l.all (V.named f) := by
  rw [V.named, List.all_map]; rfl

def T.ren (f : Int → Option Int) : T → T
  | .mk k n s A cap l r => if k = 4 then .mk k n s A cap l ((f r).getD 0) else .mk k n s A cap (l.map (T.ren f)) r
termination_by t => t
theorem T.ren_mk (f : Int → Option Int) (k n : Int) (s : ByteArray) (A : Option Addr) (cap : Nat) (l : List T) (r : Int) : (T.mk k n s A cap l r).ren f = if k = 4 then .mk k n s A cap l ((f r).getD 0) else .mk k n s A cap (l.map (T.ren f)) r := by rw [T.ren]

theorem T.ren_v (f : Int → Option Int) (t : T) : (t.ren f).v = t.v.ren f := by
  induction t using T.ind with
  | h k n s A cap l r ih =>
    rw [T.ren_mk, T.v_mk, V.ren_mk]
    split
    · rw [T.v_mk]
    · have e : l.map (T.v ∘ T.ren f) = l.map (V.ren f ∘ T.v) := List.map_congr_left fun x hx => ih x hx
      rw [T.v_mk, List.map_map, List.map_map, e]

theorem T.ren_blocks (f : Int → Option Int) (t : T) : (t.ren f).blocks = t.blocks := by
  induction t using T.ind with
  | h k n s A cap l r ih =>
    rw [T.ren_mk]
    split
    · rw [T.blocks_mk, T.blocks_mk]
    · have e : l.map (T.blocks ∘ T.ren f) = l.map T.blocks := List.map_congr_left fun x hx => ih x hx
      rw [T.blocks_mk, T.blocks_mk, List.map_map, e]
      cases l <;> rfl

/-- The cells of a renamed value: the reference alone has turned. -/
theorem T.ren_cells (f : Int → Option Int) (k n : Int) (s : ByteArray) (A : Option Addr) (cap : Nat) (l : List T) (r : Int) : ((T.mk k n s A cap l r).ren f).cells = [.int .u8 k, .int .i64 n, .string s, .slice A l.length cap, .int .i64 (if k = 4 then (f r).getD 0 else r)] := by
  rw [T.ren_mk]
  split <;> simp [T.cells]

/-- One reference in a row. -/
theorem row_set_ref {L : List T} {i : Nat} {k n : Int} {s : ByteArray} {A : Option Addr} {cap : Nat} {l : List T} {r : Int} (h : L[i]? = some (T.mk k n s A cap l r)) (x : T) (r' : Int) (hx : x.cells = [.int .u8 k, .int .i64 n, .string s, .slice A l.length cap, .int .i64 r']) :
    (rowCells L).set (i * 5 + 4) (.int .i64 r') = rowCells (L.set i x) := by
  induction L generalizing i with
  | nil => simp at h
  | cons y L ih =>
    cases i with
    | zero =>
      simp at h
      subst h
      simp only [rowCells, List.flatMap_cons, List.set_cons_zero, Nat.zero_mul, Nat.zero_add, hx]
      simp [T.cells]
    | succ i =>
      simp at h
      have := ih h
      simp only [rowCells, List.flatMap_cons, List.set_cons_succ] at this ⊢
      rw [List.set_append_right _ _ (by rw [T.cells_length]; omega), T.cells_length, show (i + 1) * 5 + 4 - 5 = i * 5 + 4 by omega, this]

theorem row_set_same {L : List T} {i : Nat} {y x : T} (h : L[i]? = some y) (hx : x.cells = y.cells) : rowCells (L.set i x) = rowCells L := by
  induction L generalizing i with
  | nil => simp at h
  | cons z L ih =>
    cases i with
    | zero => simp at h; subst h; simp [rowCells, hx]
    | succ i =>
      simp at h
      have := ih h
      simp only [rowCells, List.flatMap_cons, List.set_cons_succ] at this ⊢
      rw [this]

def renRow (f : Int → Option Int) (l : List T) (j : Nat) : List T := (l.take j).map (T.ren f) ++ l.drop j
theorem renRow_zero (f : Int → Option Int) (l : List T) : renRow f l 0 = l := by simp [renRow]
theorem renRow_all (f : Int → Option Int) (l : List T) : renRow f l l.length = l.map (T.ren f) := by simp [renRow]
theorem renRow_at {f : Int → Option Int} {l : List T} {j : Nat} (h : j < l.length) : (renRow f l j)[j]? = some l[j] := by
  rw [renRow, List.getElem?_append_right (by simp; omega)]
  simp [Nat.min_eq_left (Nat.le_of_lt h), h]
theorem renRow_set {f : Int → Option Int} {l : List T} {j : Nat} (h : j < l.length) : (renRow f l j).set j (l[j].ren f) = renRow f l (j + 1) := by
  have hl : ((l.take j).map (T.ren f)).length = j := by simp; omega
  rw [renRow, renRow, List.set_append_right _ _ (by omega), hl, Nat.sub_self, List.drop_eq_getElem_cons h, List.set_cons_zero, List.take_succ_eq_append_getElem h, List.map_append, List.append_assoc]
  rfl
theorem renRow_length {f : Int → Option Int} {l : List T} {j : Nat} (h : j ≤ l.length) : (renRow f l j).length = l.length := by simp [renRow]; omega

/-- What rename leaves. -/
structure RenP (f : Int → Option Int) (x : T) (b o lo hi : Nat) (w : World) (e : Ending) (w' : World) : Prop where
  e : e = .returned (.bool (x.v.named f))
  fr : Fr (fun i => i = b ∨ i ∈ x.blocks) w w'
  one : ∀ k n s A cap l r, x = T.mk k n s A cap l r → x.v.named f = true → (k = 4 → w' = w.setCell ⟨b, o + 4, none⟩ (.int .i64 ((f r).getD 0))) ∧ (k ≠ 4 → Fr (fun i => i ∈ x.blocks) w w')
  sp : x.v.named f = true → (x.ren f).Sp w' lo hi

end Go.Proofs.Ytihjmipmjogpoaa

/- Chapter 2: value.rename: its walk. -/
namespace Go.Proofs.Ytihjmipmjogpoaa
open Go.RowKit Go.Maps Go.ChangeMaps

theorem wf64 {r : Int} (h0 : -9223372036854775808 ≤ r) (h1 : r ≤ 9223372036854775807) : (Lit.int .i64 r).wf = true := by
  simp only [Lit.wf, Bool.and_eq_true, decide_eq_true_eq]
  exact ⟨h0, h1⟩
theorem zero25 (w : World) : (zeroValue 25).run Try.prog w = .ok (.int .i64 0) w := by kernel_rfl
theorem keyed25 : Keyed Try.prog 25 := int_keyed Try.underlying25

/-- Where rename's loop stands. -/
structure RnInv (f : Int → Option Int) (w : World) (lo hi : Nat) (k n : Int) (s : ByteArray) (A : Option Addr) (cap : Nat) (l : List T) (r : Int) (j : Nat) (wr : World) : Prop where
  fr : Fr (fun i => i ∈ (T.mk k n s A cap l r).blocks) w wr
  own : wr.ownsRow lo 27 5 (.slice A l.length cap) l.length (rowCells (renRow f l j))
  sp : ∀ i (h : i < l.length), (j ≤ i → l[i].Sp wr lo hi) ∧ (i < j → (l[i].ren f).Sp wr lo hi)

theorem rn_push {f : Int → Option Int} {w wr w2 : World} {lo hi : Nat} {k n : Int} {s : ByteArray} {g cap : Nat} {l : List T} {r : Int} {j : Nat} {e : Ending} (inv : RnInv f w lo hi k n s (some ⟨g, 0, none⟩) cap l r j wr) (hnd : (T.mk k n s (some ⟨g, 0, none⟩) cap l r).blocks.Nodup) (hj : j < l.length)
    (hlo : ∀ x ∈ l, x.In w lo hi) (hq : RenP f l[j] g (j * 5) lo hi wr e w2) (hn : l[j].v.named f = true) : RnInv f w lo hi k n s (some ⟨g, 0, none⟩) cap l r (j + 1) w2 := by
  have hmem := List.getElem_mem hj
  have hg := sp_child_ne hnd hmem
  have hgm : g ∈ (T.mk k n s (some ⟨g, 0, none⟩) cap l r).blocks := T.mem_blocks (by rintro rfl; simp at hj)
  refine ⟨inv.fr.trans' hq.fr fun i _ h => ?_, ?_, fun i hi => ⟨fun hij => ?_, fun hij => ?_⟩⟩
  · rcases h with h | h
    · rw [h]; exact hgm
    · exact T.sub_blocks hmem h
  · have hat := renRow_at (f := f) hj
    rw [← renRow_set hj]
    cases hx : l[j] with
    | mk k1 n1 s1 A1 c1 l1 r1 =>
      rw [hx] at hat hn hq hg
      obtain ⟨h4, h5⟩ := hq.one k1 n1 s1 A1 c1 l1 r1 rfl hn
      by_cases hk : k1 = 4
      · rw [h4 hk]
        have := (inv.own.stored (j * 5 + 4) (.int .i64 ((f r1).getD 0))).1
        rw [row_set_ref hat ((T.mk k1 n1 s1 A1 c1 l1 r1).ren f) _ (by rw [T.ren_cells, if_pos hk])] at this
        exact this
      · rw [row_set_same hat (by rw [T.ren_cells, if_neg hk]; rfl)]
        exact owns_fr inv.own (h5 hk) fun g' hg' h => by simp [Value.ownBlock] at hg'; subst hg'; exact hg h
  · refine T.Sp.fr hq.fr _ (fun b hb h => ?_) ((inv.sp i hi).1 (by omega))
    rcases h with h | h
    · subst h; exact sp_child_ne hnd (List.getElem_mem hi) hb
    · exact sp_child_far hnd hj hi (by omega) hb h
  · by_cases hij' : i = j
    · subst hij'; exact hq.sp hn
    · refine T.Sp.fr hq.fr _ (fun b hb h => ?_) ((inv.sp i hi).2 (by omega))
      rw [T.ren_blocks] at hb
      rcases h with h | h
      · subst h; exact sp_child_ne hnd (List.getElem_mem hi) hb
      · exact sp_child_far hnd hi hj (by omega) h hb

set_option maxRecDepth 100000 in
set_option maxHeartbeats 8000000 in
theorem rename_any (f : Int → Option Int) (m : Nat) (x : T) : ∀ (b o lo hi : Nat) (w : World), (∀ j u, x.cells[j]? = some u → w.cell? ⟨b, o + j, none⟩ = some u) → (∀ i, w.frozen? ⟨b, i, none⟩ = false) → b < w.heap.size → x.Sp w lo hi → x.blocks.Nodup → b ∉ x.blocks → hi ≤ w.heap.size → Names w m f → m ≠ b → m ∉ x.blocks →
    Calls Try.prog 129 #[.pointer (some ⟨b, o, none⟩), .map (some m)] w (RenP f x b o lo hi w) := by
  induction x using T.ind with
  | h k n s A cap l r ih =>
    intro b o lo hi w hc hfz hb hsp hnd hbx hh hnm hmb hmx
    have fit := (T.sp_mk.1 hsp).1
    have hlen := fit.len1
    have c0 : w.cell? ⟨b, o, none⟩ = some (.int .u8 k) := hc 0 _ rfl
    have c3 : w.cell? ⟨b, o + 3, none⟩ = some (.slice A l.length cap) := hc 3 _ rfl
    have c4 : w.cell? ⟨b, o + 4, none⟩ = some (.int .i64 r) := hc 4 _ rfl
    have f4 := hfz (o + 4)
    by_cases hk : k = 4
    · subst hk
      have hr0 := fit.r0
      have hr1 := fit.r1
      have hnamed : (T.mk 4 n s A cap l r).v.named f = (f r).isSome := by rw [T.v_mk, V.named_mk, if_pos rfl]
      have hsp' : ((T.mk 4 n s A cap l r).ren f) = T.mk 4 n s A cap l ((f r).getD 0) := by rw [T.ren_mk, if_pos rfl]
      obtain ⟨nn, D, hown, hlook⟩ := hnm
      obtain ⟨hl1, hl2⟩ := hlook r hr0 hr1
      have hkey : keyOf Try.prog 25 (.int .i64 r) = some (.int .i64 r) := keyOf_int_mk Try.underlying25 (wf64 hr0 hr1)
      have hP : ∀ c : Int, D.atKey (.int .i64 r) (.lit (.int .i64 0)) = .lit (.int .i64 c) → (Lit.int .i64 c).wf = true → c = (f r).getD 0 ∧ RenP f (T.mk 4 n s A cap l r) b o lo hi w (.returned (.bool (Maps.has D (.int .i64 r)))) (w.setCell ⟨b, o + 4, none⟩ (.int .i64 c)) := by
        intro c h1 h2
        rw [hl2] at h1
        simp only [DataW.lit.injEq, Lit.int.injEq, true_and] at h1
        subst h1
        have hF := (Fr.refl (fun i => i = b ∨ i ∈ (T.mk 4 n s A cap l r).blocks) w).set (p := ⟨b, o + 4, none⟩) (fun _ => .inl rfl) (.int .i64 ((f r).getD 0))
        refine ⟨rfl, ?_, hF, fun k' n' s' A' cap' l' r' hx _ => ?_, fun _ => ?_⟩
        · rw [hnamed, hl1]
        · injection hx with e1 e2 e3 e4 e5 e6 e7
          subst e1 e7
          exact ⟨fun _ => rfl, fun h => absurd rfl h⟩
        · rw [hsp']
          have h3 := T.Sp.fr ((Fr.refl (fun i => i = b) w).set (p := ⟨b, o + 4, none⟩) (fun _ => rfl) (.int .i64 ((f r).getD 0))) _ (fun i hi h => by have h' : i = b := h; subst h'; exact hbx hi) hsp
          rw [T.sp_mk] at h3 ⊢
          simp only [Lit.wf, Bool.and_eq_true, decide_eq_true_eq] at h2
          exact ⟨⟨fit.k0, fit.k1, fit.n0, fit.n1, fit.s1, fit.len1, fit.cap1, h2.1, h2.2⟩, h3.2⟩
      have HP := hide hP
      clear hP hlook hl1 hl2 hnamed hsp' ih hc hfz
      go_enter Try.func129, Try.ntmps129
      go_wp2_with (at_lookup; refine wpList_lookup_own_ok_int _ rfl _ _ 167 rfl 25 25 .i64 keyed25 Try.underlying167 Try.underlying25 (zero25 _) m nn D rfl hown _ _ rfl hkey ?_; intro c hat hwf; have HQ := hide (HP.out c hat hwf); clear hat hwf)
      go_ret
      exact HQ.out.2
    · have hk4 : (k == 4) = false := by simpa using hk
      have hnamed : (T.mk k n s A cap l r).v.named f = (l.map T.v).all (V.named f) := by rw [T.v_mk, V.named_mk, if_neg hk]
      have hren : ((T.mk k n s A cap l r).ren f) = T.mk k n s A cap (l.map (T.ren f)) r := by rw [T.ren_mk, if_neg hk]
      have hin := T.Sp.inn _ hsp
      have hlo : ∀ x ∈ l, x.In w lo hi := (T.in_mk.1 hin).2.2
      have hspm := T.sp_mk.1 hsp
      have hAg : l ≠ [] → ∃ g, A = some ⟨g, 0, none⟩ ∧ g < hi := fun hl => (hspm.2.2.1 hl).2
      have hbl : ∀ i ∈ (T.mk k n s A cap l r).blocks, i < w.heap.size := fun i hi => by have := T.In.blocks _ hin i hi; omega
      have hinv0 : RnInv f w lo hi k n s A cap l r 0 w := by
        refine ⟨Fr.refl _ w, ?_, fun i h => ⟨fun _ => hspm.2.2.2 _ (List.getElem_mem h), fun h => by omega⟩⟩
        rw [renRow_zero]
        by_cases hl : l = []
        · obtain ⟨h1, h2⟩ := hspm.2.1 hl
          subst hl h1 h2
          exact World.ownsRow_nil _ _ _ _
        · exact (hspm.2.2.1 hl).1
      have HNM := hide hnm
      have HFZ := hide hfz
      have HBX := hide hbx
      have HMX := hide hmx
      have HREN := hide hren
      have HND := hide hnd
      have HNA := hide hnamed
      have HSM := hide hspm
      clear hc hfz hren hnamed hsp hspm hnm
      go_enter Try.func129, Try.ntmps129
      go_wp2_with fail
      go_loopw [7, 32] (fun _ i wr => ∃ j : Nat, j ≤ l.length ∧ i = .int .i64 j ∧ RnInv f w lo hi k n s A cap l r j wr ∧ ∀ v ∈ (l.map T.v).take j, v.named f = true) (fun _ i _ => l.length - (intOf i).toNat)
      case atStart => exact ⟨0, Nat.zero_le _, rfl, hinv0, by simp⟩
      case round =>
        obtain ⟨j, hj, rfl, inv, hall⟩ := hrel
        have hsz := inv.fr.size
        have c0' := (inv.fr.cell (b := b) (o := o) (s := none) hb HBX.out).trans c0
        have c3' := (inv.fr.cell (b := b) (o := o + 3) (s := none) hb HBX.out).trans c3
        have hbr : b < wr.heap.size := by omega
        have HALL := hide hall
        clear hall
        by_cases hlt : j < l.length
        · obtain ⟨g, rfl, hg⟩ := hAg (by rintro rfl; simp at hlt)
          have hmem := List.getElem_mem hlt
          have hj' : j < (l.map T.v).length := by simpa using hlt
          have htk : (l.map T.v).take (j + 1) = (l.map T.v).take j ++ [l[j].v] := by rw [List.take_succ_eq_append_getElem hj', List.getElem_map]
          have hgb : g ∈ (T.mk k n s (some ⟨g, 0, none⟩) cap l r).blocks := T.mem_blocks (by rintro rfl; simp at hlt)
          have hcl : ∀ c u, l[j].cells[c]? = some u → wr.cell? ⟨g, j * 5 + c, none⟩ = some u := fun c u hu => by
            have := World.ownsRow.cells inv.own (g := g) rfl _ _ (rowCells_get _ j c _ u (renRow_at hlt) hu)
            rwa [add_at, Nat.zero_add] at this
          have hcase := ih l[j] hmem g (j * 5) lo hi wr hcl (fun i => inv.own.frozenAt i) (owns_lt inv.own g rfl).2 ((inv.sp j hlt).1 (Nat.le_refl _)) (sp_child_nodup HND.out hmem) (sp_child_ne HND.out hmem) (by omega)
            (HNM.out.fr inv.fr HMX.out) (fun h => by subst h; exact HMX.out hgb) (fun h => HMX.out (T.sub_blocks hmem h))
          have HC := hide hcase
          have hpush := fun e w2 hq hn => rn_push (e := e) (w2 := w2) inv HND.out hlt hlo hq hn
          have hno : l[j].v.named f = false → ∀ e w2, RenP f l[j] g (j * 5) lo hi wr e w2 → RenP f (T.mk k n s (some ⟨g, 0, none⟩) cap l r) b o lo hi w (.returned (.bool false)) w2 := fun hn e w2 hq => by
            have hnn : (T.mk k n s (some ⟨g, 0, none⟩) cap l r).v.named f = false := by
              rw [HNA.out, Bool.eq_false_iff]
              intro h
              have := List.all_eq_true.1 h _ (List.mem_map_of_mem hmem)
              rw [hn] at this
              cases this
            have hF : Fr (fun i => i = b ∨ i ∈ (T.mk k n s (some ⟨g, 0, none⟩) cap l r).blocks) w w2 := (inv.fr.mono fun i _ h => Or.inr h).trans' hq.fr fun i _ h => by
              rcases h with h | h
              · rw [h]; exact Or.inr hgb
              · exact Or.inr (T.sub_blocks hmem h)
            exact ⟨by rw [hnn], hF, fun _ _ _ _ _ _ _ _ h => absurd (hnn.symm.trans h) (by decide), fun h => absurd (hnn.symm.trans h) (by decide)⟩
          have HPU := hide hpush
          have HNO := hide hno
          have HTK := hide htk
          generalize hxx : l[j] = x at *
          clear hpush hno htk hcase hcl ih inv hinv0 hmem hxx
          go_wp2_with fail
          refine HC.out.mono ?_
          rintro e w2 hq
          have he := hq.e
          subst he
          have HQ := hide hq
          clear hq
          cases hn : x.v.named f with
          | false =>
            have HP := hide (HNO.out hn _ _ HQ.out)
            clear hn
            go_wp2
            go_ret
            exact HP.out
          | true =>
            have HP := hide (HPU.out _ _ HQ.out hn)
            have HN := hide hn
            clear hn
            go_wp2
            go_roundw
            case rel =>
              refine ⟨j + 1, hlt, by go_num, HP.out, fun v hv => ?_⟩
              rw [HTK.out] at hv
              rcases List.mem_append.1 hv with hv | hv
              · exact HALL.out v hv
              · simp at hv; subst hv; exact HN.out
            case measure => simp [intOf]; omega
        · obtain rfl : l.length = j := by omega
          have hnn : (T.mk k n s A cap l r).v.named f = true := by
            rw [HNA.out]
            exact List.all_eq_true.2 fun v hv => HALL.out v (by rw [List.take_of_length_le (by simp)]; exact hv)
          have hP : RenP f (T.mk k n s A cap l r) b o lo hi w (.returned (.bool true)) wr := by
            refine ⟨by rw [hnn], inv.fr.mono fun i _ h => .inr h, fun k' n' s' A' cap' l' r' hx _ => ?_, fun _ => ?_⟩
            · injection hx with e1
              subst e1
              exact ⟨fun h => absurd h hk, fun _ => inv.fr⟩
            · rw [HREN.out, T.sp_mk]
              have hown := inv.own
              rw [renRow_all] at hown
              refine ⟨by simpa using HSM.out.1, fun h => HSM.out.2.1 (by simpa using h), fun h => ⟨by simpa using hown, (HSM.out.2.2.1 (by simpa using h)).2⟩, fun y hy => ?_⟩
              obtain ⟨z, hz, rfl⟩ := List.mem_map.1 hy
              obtain ⟨i, hi', rfl⟩ := List.mem_iff_getElem.1 hz
              exact (inv.sp i hi').2 hi'
          have HP := hide hP
          clear hP inv ih hinv0 hAg hlo hin hbl
          go_wp2
          go_ret
          exact HP.out

end Go.Proofs.Ytihjmipmjogpoaa

/- Chapter 2: Own, At: their answers lie in rows of their own. -/
namespace Go.Proofs.Ytihjmipmjogpoaa
open Go.RowKit

theorem T.zero_sh (w : World) (lo hi : Nat) : T.zero.Sh w lo hi := T.sh_leaf ⟨by decide, by decide, by decide, by decide, by decide, by decide, by decide, by decide, by decide⟩

def OwnE2 (v : V) (n : Int) (w : World) (e : Ending) (w' : World) : Prop :=
  ∃ t' : T, e = .returned (.tuple #[t'.val, .int .i64 n]) ∧ t'.v = v ∧ t'.Sh w' w.heap.size w'.heap.size ∧ Fr No w w'

set_option maxHeartbeats 1000000 in
theorem Own2_any (t : T) (w : World) (lo hi : Nat) (ht : t.In w lo hi) (hh : hi ≤ w.heap.size) :
    Calls Try.prog 61 #[t.val] w (OwnE2 (if t.v.may = true then t.v else V.zero) (if t.v.may = true then 0 else 2) w) := by
  have hM := fun w' h h' => may_any t w' lo hi h h'
  have hO := fun w' h h' => own2_any t w' lo hi h h'
  cases t with
  | mk k n s A cap l r =>
    rw [T.val_mk] at *
    cases hm : (T.mk k n s A cap l r).v.may
    · rw [hm] at hM
      go_enter Try.func61, Try.ntmps61
      go_wp2_with fail
      refine (hM _ (ht.no (((Fr.refl No w).alloc _).alloc _) hh) (by simp; omega)).mono ?_
      rintro e w2 ⟨rfl, fr2⟩
      have hsz := fr2.size
      simp only [World.size_alloc] at hsz
      have hs0 : w.heap.size + 1 < w2.heap.size := by omega
      have b1 := (Blk.new' (w.alloc (.cells #[.int .u8 k, .int .i64 n, .string s, .slice A l.length cap, .int .i64 r] 27)) 27 #[.int .u8 0, .int .i64 0, .string ⟨#[]⟩, .slice none 0 0, .int .i64 0] (g := w.heap.size + 1) (by simp)).fr fr2 (fun h => h)
      obtain ⟨d0, d1, d2, d3, d4, df⟩ := b1.cells5
      have hF2 : Fr No w w2 := (((Fr.refl No w).alloc _).alloc _).trans fr2
      have HF := hide hF2
      clear b1 hO hF2
      go_wp2
      refine bodyPost_ret (v := .tuple #[.agg #[.int .u8 0, .int .i64 0, .string ⟨#[]⟩, .slice none 0 0, .int .i64 0], .int .i64 2]) (by simp [results, Try.results61, go_sem, *]) rfl ?_
      have hF2 := HF.out
      exact ⟨T.zero, rfl, T.zero_v, T.zero_sh _ _ _, (by repeat (first | with_reducible exact hF2 | with_reducible refine Fr.setNew ?_ (by simp) _ | with_reducible refine Fr.alloc ?_ _))⟩
    · rw [hm] at hM
      go_enter Try.func61, Try.ntmps61
      go_wp2_with fail
      refine (hM _ (ht.no (((Fr.refl No w).alloc _).alloc _) hh) (by simp; omega)).mono ?_
      rintro e w2 ⟨rfl, fr2⟩
      have hsz := fr2.size
      simp only [World.size_alloc] at hsz
      have hs0 : w.heap.size + 1 < w2.heap.size := by omega
      have b0 := ((Blk.new' w 27 #[.int .u8 k, .int .i64 n, .string s, .slice A l.length cap, .int .i64 r] (g := w.heap.size) rfl).alloc (.cells #[.int .u8 0, .int .i64 0, .string ⟨#[]⟩, .slice none 0 0, .int .i64 0] 27)).fr fr2 (fun h => h)
      have b1 := (Blk.new' (w.alloc (.cells #[.int .u8 k, .int .i64 n, .string s, .slice A l.length cap, .int .i64 r] 27)) 27 #[.int .u8 0, .int .i64 0, .string ⟨#[]⟩, .slice none 0 0, .int .i64 0] (g := w.heap.size + 1) (by simp)).fr fr2 (fun h => h)
      obtain ⟨c0, c1, c2, c3, c4, cf⟩ := b0.cells5
      obtain ⟨d0, d1, d2, d3, d4, df⟩ := b1.cells5
      have hF2 : Fr No w w2 := (((Fr.refl No w).alloc _).alloc _).trans fr2
      have HT := hide (ht.no hF2 hh)
      clear ht
      have HF := hide hF2
      have HB := hide b1
      clear b1 b0 hF2
      go_wp2_with fail
      refine (hO _ HT.out (by omega)).mono ?_
      rintro e w3 ⟨t', rfl, hv, ow, fr3⟩
      have b1 := HB.out.fr fr3 (fun h => h)
      obtain ⟨d0, d1, d2, d3, d4, df⟩ := b1.cells5
      have hF2 := HF.out.trans fr3
      have HF2 := hide hF2
      have HV := hide hv
      have HO := hide ow
      have hsz3 := fr3.size
      clear hv ow hF2 b1
      cases t' with
      | mk k2 n2 s2 A2 cap2 l2 r2 =>
        rw [T.val_mk]
        go_wp2
        refine bodyPost_ret (v := .tuple #[.agg #[.int .u8 k2, .int .i64 n2, .string s2, .slice A2 l2.length cap2, .int .i64 r2], .int .i64 0]) (by simp [results, Try.results61, go_sem, *]) rfl ?_
        have hF2 := HF2.out
        refine ⟨T.mk k2 n2 s2 A2 cap2 l2 r2, rfl, HV.out, ?_, (by repeat (first | with_reducible exact hF2 | with_reducible refine Fr.setNew ?_ (by simp) _ | with_reducible refine Fr.alloc ?_ _))⟩
        refine (HO.out.fr' (S := (· = w.heap.size + 1)) ?_ (fun i h0 h1 h2 => by have h' : i = w.heap.size + 1 := h2; omega)).more (by omega) (by simp)
        repeat (first | with_reducible exact Fr.refl _ w3 | with_reducible refine Fr.set ?_ (by simp) _)

set_option maxRecDepth 100000 in
set_option maxHeartbeats 4000000 in
theorem At2_any (t : T) (w : World) (lo hi : Nat) (ht : t.In w lo hi) (hh : hi ≤ w.heap.size) (A : Option Addr) (cap : Nat) (p : List Int) (lo' hi' : Nat) (hp : Ints w lo' hi' A cap p) (hh' : hi' ≤ w.heap.size) :
    Calls Try.prog 68 #[t.val, .slice A p.length cap] w (OwnE2 (atOf t.v p).1 (atOf t.v p).2 w) := by
  have hM := fun w' h h' => may_any t w' lo hi h h'
  have hF := fun w' h h' h1 h2 => find2_any t w' lo hi h h' A cap p lo' hi' h1 h2
  have hO := own2_any
  cases t with
  | mk k n s A1 cap1 l r =>
    rw [T.val_mk] at *
    generalize hu : (T.mk k n s A1 cap1 l r).v = u at *
    have fr1 : Fr No w ((w.alloc (.cells #[.int .u8 k, .int .i64 n, .string s, .slice A1 l.length cap1, .int .i64 r] 27)).alloc (.cells #[.int .u8 0, .int .i64 0, .string ⟨#[]⟩, .slice none 0 0, .int .i64 0] 27)) := ((Fr.refl No w).alloc _).alloc _
    have hK : Blk ((w.alloc (.cells #[.int .u8 k, .int .i64 n, .string s, .slice A1 l.length cap1, .int .i64 r] 27)).alloc (.cells #[.int .u8 0, .int .i64 0, .string ⟨#[]⟩, .slice none 0 0, .int .i64 0] 27)) w.heap.size 27 #[.int .u8 k, .int .i64 n, .string s, .slice A1 l.length cap1, .int .i64 r] := (Blk.new' w 27 _ rfl).alloc _
    have hZ : Blk ((w.alloc (.cells #[.int .u8 k, .int .i64 n, .string s, .slice A1 l.length cap1, .int .i64 r] 27)).alloc (.cells #[.int .u8 0, .int .i64 0, .string ⟨#[]⟩, .slice none 0 0, .int .i64 0] 27)) (w.heap.size + 1) 27 #[.int .u8 0, .int .i64 0, .string ⟨#[]⟩, .slice none 0 0, .int .i64 0] := Blk.new' (w.alloc _) 27 _ (by simp)
    have ht1 := ht.no fr1 hh
    have hp1 := hp.no fr1 hh'
    have hs0 : w.heap.size + 2 ≤ ((w.alloc (.cells #[.int .u8 k, .int .i64 n, .string s, .slice A1 l.length cap1, .int .i64 r] 27)).alloc (.cells #[.int .u8 0, .int .i64 0, .string ⟨#[]⟩, .slice none 0 0, .int .i64 0] 27)).heap.size := by simp
    have HU := hide hu
    clear hu ht hp
    cases hm : u.may with
    | false =>
      have e1 : atOf u p = (V.zero, 2) := by simp [atOf, hm]
      rw [e1]
      rw [hm] at hM
      clear hm e1 hF
      go_enter Try.func68, Try.ntmps68
      go_wp2_with fail
      generalize World.alloc _ (.cells #[.int .u8 0, .int .i64 0, .string ⟨#[]⟩, .slice none 0 0, .int .i64 0] 27) = W0 at *
      refine (hM _ ht1 (by omega)).mono ?_
      rintro e w2 ⟨rfl, fr2⟩
      have hZ2 := hZ.fr fr2 fun h => h
      obtain ⟨d0, d1, d2, d3, d4, df⟩ := hZ2.cells5
      have q0 := hZ2.lt
      have HF := hide (fr1.trans fr2)
      clear fr1 fr2 hK hZ hZ2 hM
      go_wp2
      refine bodyPost_ret (v := .tuple #[.agg #[.int .u8 0, .int .i64 0, .string ⟨#[]⟩, .slice none 0 0, .int .i64 0], .int .i64 2]) (by simp [results, Try.results68, go_sem, *]) rfl ?_
      have hF2 := HF.out
      refine ⟨T.zero, rfl, T.zero_v, T.zero_sh _ _ _, ?_⟩
      repeat (first | with_reducible exact hF2 | with_reducible refine Fr.setNew ?_ (by first | (simp; done) | (simp; omega)) _)
    | true =>
      have e1 : atOf u p = (match vAt p u with | some x => (x, 0) | none => (V.zero, 22)) := by unfold atOf; rw [if_pos hm]; rfl
      have E1 := hide e1
      rw [hm] at hM
      clear hm e1
      go_enter Try.func68, Try.ntmps68
      go_wp2_with fail
      generalize World.alloc _ (.cells #[.int .u8 0, .int .i64 0, .string ⟨#[]⟩, .slice none 0 0, .int .i64 0] 27) = W0 at *
      refine (hM _ ht1 (by omega)).mono ?_
      rintro e w2 ⟨rfl, fr2⟩
      have hZ2 := hZ.fr fr2 fun h => h
      obtain ⟨c0, c1, c2, c3, c4, cf⟩ := (hK.fr fr2 fun h => h).cells5
      have ht2 := ht1.no fr2 (by omega)
      have hp2 := hp1.no fr2 (by omega)
      have hs2 := fr2.size
      have HF := hide (fr1.trans fr2)
      clear fr1 fr2 hK hZ hM
      go_wp2_with fail
      refine (hF _ ht2 (by omega) hp2 (by omega)).mono ?_
      rintro e w3 ⟨fr3, hP⟩
      have hZ3 := hZ2.fr fr3 fun h => h
      have hs3 := fr3.size
      have HF3 := hide (HF.out.trans fr3)
      clear c0 c1 c2 c3 c4 cf hF hZ2 fr3
      rcases hP with ⟨⟨k2, n2, s2, A2, cap2, l2, r2⟩, rfl, hv, hin⟩ | ⟨rfl, hv⟩
      · have e2 : atOf u p = ((T.mk k2 n2 s2 A2 cap2 l2 r2).v, 0) := by rw [E1.out, hv]
        have E2 := hide e2
        rw [T.val_mk]
        have frB := (Fr.refl No w3).alloc (.cells #[.int .u8 k2, .int .i64 n2, .string s2, .slice A2 l2.length cap2, .int .i64 r2] 27)
        have hinB := hin.no frB (by omega)
        have hO1 := hO (T.mk k2 n2 s2 A2 cap2 l2 r2) (w3.alloc (.cells #[.int .u8 k2, .int .i64 n2, .string s2, .slice A2 l2.length cap2, .int .i64 r2] 27)) lo hi hinB (Nat.le_trans (by omega) frB.size)
        rw [T.val_mk] at hO1
        have HO := hide hO1
        have HZB := hide (hZ3.alloc (.cells #[.int .u8 k2, .int .i64 n2, .string s2, .slice A2 l2.length cap2, .int .i64 r2] 27))
        have HFB := hide (HF3.out.alloc (.cells #[.int .u8 k2, .int .i64 n2, .string s2, .slice A2 l2.length cap2, .int .i64 r2] 27))
        have hsB : w.heap.size + 2 ≤ (w3.alloc (.cells #[.int .u8 k2, .int .i64 n2, .string s2, .slice A2 l2.length cap2, .int .i64 r2] 27)).heap.size := by simp; omega
        have HSB := hide hsB
        clear e2 hv hin frB hinB hO1 hZ3 hO hsB
        go_wp2_with fail
        refine HO.out.mono ?_
        rintro e w4 ⟨⟨k3, n3, s3, A3, cap3, l3, r3⟩, rfl, hv3, how, fr4⟩
        rw [T.val_mk]
        have hZ4 := HZB.out.fr fr4 fun h => h
        obtain ⟨d0, d1, d2, d3, d4, df⟩ := hZ4.cells5
        have q0 := hZ4.lt
        have HF4 := hide (HFB.out.trans fr4)
        have HV3 := hide hv3
        have HOW := hide how
        have hs5 := HSB.out
        have hs6 := fr4.size
        clear hZ4 fr4 hv3 how
        go_wp2
        refine bodyPost_ret (v := .tuple #[.agg #[.int .u8 k3, .int .i64 n3, .string s3, .slice A3 l3.length cap3, .int .i64 r3], .int .i64 0]) (by simp [results, Try.results68, go_sem, *]) rfl ?_
        have hF2 := HF4.out
        have hO2 := HOW.out
        refine ⟨T.mk k3 n3 s3 A3 cap3 l3 r3, by rw [E2.out]; rfl, by rw [E2.out]; exact HV3.out, ?_, ?_⟩
        · refine ((hO2.fr' (S := (· = w.heap.size + 1)) ?_ (fun i h0 h1 h2 => by have h' : i = w.heap.size + 1 := h2; omega)).more (by omega) (by simp))
          repeat (first | with_reducible exact Fr.refl _ w4 | with_reducible refine Fr.set ?_ (by simp) _)
        · repeat (first | with_reducible exact hF2 | with_reducible refine Fr.setNew ?_ (by first | (simp; done) | (simp; omega)) _)
      · have e2 : atOf u p = (V.zero, 22) := by rw [E1.out, hv]
        have E2 := hide e2
        clear e2 hv hO
        have HZ3 := hide (hZ3.alloc (.cells #[.int .u8 0, .int .i64 0, .string ⟨#[]⟩, .slice none 0 0, .int .i64 0] 27))
        obtain ⟨d0, d1, d2, d3, d4, df⟩ := hZ3.cells5
        have q0 := hZ3.lt
        clear hZ3
        go_wp2
        refine bodyPost_ret (v := .tuple #[.agg #[.int .u8 0, .int .i64 0, .string ⟨#[]⟩, .slice none 0 0, .int .i64 0], .int .i64 22]) (by simp [results, Try.results68, go_sem, *]) rfl ?_
        have hF2 := HF3.out
        refine ⟨T.zero, by rw [E2.out]; rfl, by rw [E2.out]; exact T.zero_v, T.zero_sh _ _ _, ?_⟩
        repeat (first | with_reducible exact hF2 | with_reducible refine Fr.setNew ?_ (by first | (simp; done) | (simp; omega)) _ | with_reducible refine Fr.alloc ?_ _)

end Go.Proofs.Ytihjmipmjogpoaa

/- Chapter 2: value.Rename. -/
namespace Go.Proofs.Ytihjmipmjogpoaa
open Go.RowKit Go.Maps Go.ChangeMaps

theorem low_any (r : Int) (w : World) : Calls Try.prog 128 #[.int .i64 r] w fun e w' => e = .returned (.bool (decide (r < 1))) ∧ w' = w := by
  go_enter Try.func128, Try.ntmps128
  go_wp2
  go_ret
  exact ⟨rfl, rfl⟩

set_option maxRecDepth 100000 in
set_option maxHeartbeats 2000000 in
theorem indexLow_any (A : Option Addr) (cap : Nat) (L : List Int) (w : World) (lo hi : Nat) (h : Ints w lo hi A cap L) (hh : hi ≤ w.heap.size) :
    Calls Try.prog 138 #[.slice A L.length cap, .func (.func 128) #[] #[]] w fun e w' => (∃ z : Int, e = .returned (.int .i64 z) ∧ ((0 ≤ z ∧ L.all (fun r => decide (1 ≤ r)) = false) ∨ (z = -1 ∧ L.all (fun r => decide (1 ≤ r)) = true))) ∧ Fr No w w' := by
  have hB := low_any
  have hlen := h.len
  go_enter Try.func138, Try.ntmps138
  go_wp2_with fail
  go_loopw [8] (fun i wr => ∃ j : Nat, j ≤ L.length ∧ i = .int .i64 j ∧ Fr No w wr ∧ ∀ r ∈ L.take j, 1 ≤ r) (fun i _ => L.length - (intOf i).toNat)
  case atStart => exact ⟨0, Nat.zero_le _, rfl, Fr.refl _ _, by simp⟩
  case round =>
    obtain ⟨j, hj, rfl, fr, hall⟩ := hrel
    have HA := hide hall
    have hsz := fr.size
    clear hall
    by_cases hlt : j < L.length
    · obtain ⟨b, o, rfl, hb0, hb1, hcj⟩ := (h.no fr hh).elem hlt
      have g0 : b < wr.heap.size := by omega
      have hmem := List.getElem_mem hlt
      have htk : L.take (j + 1) = L.take j ++ [L[j]] := List.take_succ_eq_append_getElem hlt
      generalize L[j] = x at *
      have HM := hide hmem
      have HT := hide htk
      have HF := hide fr
      clear hmem htk fr h
      by_cases hx : x < 1
      · have hd : decide (x < (1 : Int)) = true := by simpa using hx
        have hB1 := hB x wr
        rw [hd] at hB1
        have hno : L.all (fun r => decide (1 ≤ r)) = false := by
          rw [Bool.eq_false_iff]
          intro h
          have := List.all_eq_true.1 h x HM.out
          simp at this
          omega
        have HN := hide hno
        clear hd hB hno
        go_wp2_with fail
        refine hB1.mono ?_
        rintro e w' ⟨rfl, rfl⟩
        go_wp2
        go_ret
        exact ⟨⟨_, rfl, .inl ⟨by omega, HN.out⟩⟩, HF.out⟩
      · have hd : decide (x < (1 : Int)) = false := by simpa using hx
        have hB1 := hB x wr
        rw [hd] at hB1
        clear hd hB
        go_wp2_with fail
        refine hB1.mono ?_
        rintro e w' ⟨rfl, rfl⟩
        go_wp2
        go_roundw
        case rel =>
          refine ⟨j + 1, hlt, by go_num, HF.out, fun r hr => ?_⟩
          rw [HT.out] at hr
          rcases List.mem_append.1 hr with hr | hr
          · exact HA.out r hr
          · simp at hr; subst hr; omega
        case measure => simp [intOf]; omega
    · obtain rfl : j = L.length := by omega
      have HF := hide fr
      have hyes : L.all (fun r => decide (1 ≤ r)) = true := List.all_eq_true.2 fun r hr => by simpa using HA.out r (by rw [List.take_of_length_le (Nat.le_refl _)]; exact hr)
      have HY := hide hyes
      clear fr h hyes
      go_wp2
      go_ret
      exact ⟨⟨-1, rfl, .inr ⟨rfl, HY.out⟩⟩, HF.out⟩

theorem containsLow_any (A : Option Addr) (cap : Nat) (L : List Int) (w : World) (lo hi : Nat) (h : Ints w lo hi A cap L) (hh : hi ≤ w.heap.size) :
    Calls Try.prog 111 #[.slice A L.length cap, .func (.func 128) #[] #[]] w fun e w' => e = .returned (.bool (!L.all fun r => decide (1 ≤ r))) ∧ Fr No w w' := by
  have hI := indexLow_any A cap L w lo hi h hh
  generalize (L.all fun r => decide (1 ≤ r)) = q at *
  clear h
  go_enter Try.func111, Try.ntmps111
  go_wp2_with fail
  refine hI.mono ?_
  rintro e w2 ⟨⟨z, rfl, hz⟩, fr2⟩
  rcases hz with ⟨h0, rfl⟩ | ⟨rfl, rfl⟩
  · have h1 : decide ((0 : Int) ≤ z) = true := by simpa using h0
    go_wp2
    go_ret
    exact ⟨rfl, fr2⟩
  · go_wp2
    go_ret
    exact ⟨rfl, fr2⟩

theorem nm_snoc : ∀ (fs ts : List Int), fs.length = ts.length → ∀ (f t r : Int), nmOf (fs ++ [f]) (ts ++ [t]) r = (nmOf fs ts r).or (if f = r then some t else none)
  | [], [], _, f, t, r => by simp [nmOf]
  | [], _ :: _, h, _, _, _ => by simp at h
  | _ :: _, [], h, _, _, _ => by simp at h
  | f0 :: fs, t0 :: ts, h, f, t, r => by
    simp only [List.cons_append, nmOf]
    split
    · rfl
    · exact nm_snoc fs ts (by simpa using h) f t r

/-- The map of the first so many names. -/
def NamesTo (w : World) (b n : Nat) (f : Int → Option Int) : Prop :=
  ∃ D : DataW Unit, w.ownsMap Try.prog 25 (plainElem Try.prog 25) b n D ∧ ∀ r : Int, -9223372036854775808 ≤ r → r ≤ 9223372036854775807 → Maps.has D (.int .i64 r) = (f r).isSome ∧ D.atKey (.int .i64 r) (.lit (.int .i64 0)) = .lit (.int .i64 ((f r).getD 0))

theorem NamesTo.names {w : World} {b n : Nat} {f : Int → Option Int} (h : NamesTo w b n f) : Names w b f := by
  obtain ⟨D, h1, h2⟩ := h
  exact ⟨n, D, h1, h2⟩

theorem lit_ne {a b : Int} (h : a ≠ b) : Lit.int .i64 a ≠ Lit.int .i64 b := fun e => by injection e with _ e; exact h e

theorem keylit (a : Int) (h0 : -9223372036854775808 ≤ a) (h1 : a ≤ 9223372036854775807) : WideAt.IsKeyLit (Lit.int .i64 a) := keyed25.key (v := .int .i64 a) (keyOf_int_mk Try.underlying25 (wf64 h0 h1))

theorem make167 (n : Int) (w : World) : (Instr.makeMap 167 (some (.int .i64 n))).run Try.prog w = .ok (.map (some w.heap.size)) (w.alloc (.map #[] 0)) := by kernel_rfl

/-- What Rename answers. -/
def renV (v : V) (fs ts : List Int) : V × Int :=
  if (v.may && (decide (fs.length = ts.length) && ((fs.all fun r => decide (1 ≤ r)) && (ts.all fun r => decide (1 ≤ r))))) = true then
    (if v.named (nmOf fs ts) = true then (v.ren (nmOf fs ts), 0) else (V.zero, 21)) else (V.zero, 2)

set_option maxRecDepth 100000 in
set_option maxHeartbeats 8000000 in
theorem Rename_any (t : T) (w : World) (lo hi : Nat) (ht : t.In w lo hi) (hh : hi ≤ w.heap.size) (Af At : Option Addr) (cf ct : Nat) (fs ts : List Int) (lf hf lt ht' : Nat) (pf : Ints w lf hf Af cf fs) (hhf : hf ≤ w.heap.size) (pt : Ints w lt ht' At ct ts) (hht : ht' ≤ w.heap.size) :
    Calls Try.prog 72 #[t.val, .slice Af fs.length cf, .slice At ts.length ct] w (OwnE2 (renV t.v fs ts).1 (renV t.v fs ts).2 w) := by
  have hM := fun w' h h' => may_any t w' lo hi h h'
  have hO := fun w' h h' => own2_any t w' lo hi h h'
  have hlf := pf.len
  have hlt := pt.len
  cases t with
  | mk k n s A cap l r =>
    rw [T.val_mk] at *
    generalize hu : (T.mk k n s A cap l r).v = u at *
    have fr0 := ((Fr.refl No w).alloc (.cells #[.int .u8 k, .int .i64 n, .string s, .slice A l.length cap, .int .i64 r] 27)).alloc (.cells #[.int .u8 0, .int .i64 0, .string ⟨#[]⟩, .slice none 0 0, .int .i64 0] 27)
    have bv0 := (Blk.new w 27 #[.int .u8 k, .int .i64 n, .string s, .slice A l.length cap, .int .i64 r]).alloc (.cells #[.int .u8 0, .int .i64 0, .string ⟨#[]⟩, .slice none 0 0, .int .i64 0] 27)
    have bz0 := Blk.new' (w.alloc (.cells #[.int .u8 k, .int .i64 n, .string s, .slice A l.length cap, .int .i64 r] 27)) 27 #[.int .u8 0, .int .i64 0, .string ⟨#[]⟩, .slice none 0 0, .int .i64 0] (g := w.heap.size + 1) (by simp)
    have ht0 := ht.no fr0 hh
    have pf0 := pf.no fr0 hhf
    have pt0 := pt.no fr0 hht
    have hs0 : w.heap.size + 2 ≤ ((w.alloc (.cells #[.int .u8 k, .int .i64 n, .string s, .slice A l.length cap, .int .i64 r] 27)).alloc (.cells #[.int .u8 0, .int .i64 0, .string ⟨#[]⟩, .slice none 0 0, .int .i64 0] 27)).heap.size := by simp
    have HU := hide hu
    clear hu ht pf pt
    cases hm : u.may with
    | false =>
      have e1 : renV u fs ts = (V.zero, 2) := by simp [renV, hm]
      rw [e1]
      rw [hm] at hM
      clear hm e1 hO
      go_enter Try.func72, Try.ntmps72
      go_wp2_with fail
      generalize World.alloc (World.alloc w _) _ = w0 at *
      refine (hM w0 ht0 (by omega)).mono ?_
      rintro e w2 ⟨rfl, f2⟩
      have bz2 := bz0.fr f2 fun h => h
      obtain ⟨d0, d1, d2, d3, d4, df⟩ := bz2.cells5
      have q0 := bz2.lt
      have HF := hide (fr0.trans f2)
      clear hM ht0 bz0 bv0 fr0 f2 bz2 pf0 pt0
      go_wp2
      refine bodyPost_ret (v := .tuple #[.agg #[.int .u8 0, .int .i64 0, .string ⟨#[]⟩, .slice none 0 0, .int .i64 0], .int .i64 2]) (by simp [results, Try.results72, go_sem, *]) rfl ?_
      have hF2 := HF.out
      refine ⟨T.zero, rfl, T.zero_v, T.zero_sh _ _ _, ?_⟩
      repeat (first | with_reducible exact hF2 | with_reducible refine Fr.setNew ?_ (by first | (simp; done) | (simp; omega)) _)
    | true =>
      rw [hm] at hM
      by_cases hln : fs.length = ts.length
      case neg =>
        have e1 : renV u fs ts = (V.zero, 2) := by simp [renV, hln]
        have hl1 : ((fs.length : Int) != (ts.length : Int)) = true := by simp; omega
        rw [e1]
        clear hm e1 hO hln
        go_enter Try.func72, Try.ntmps72
        go_wp2_with fail
        generalize World.alloc (World.alloc w _) _ = w0 at *
        refine (hM w0 ht0 (by omega)).mono ?_
        rintro e w2 ⟨rfl, f2⟩
        have bz2 := bz0.fr f2 fun h => h
        obtain ⟨d0, d1, d2, d3, d4, df⟩ := bz2.cells5
        have q0 := bz2.lt
        have HF := hide (fr0.trans f2)
        clear hM ht0 bz0 bv0 fr0 f2 bz2 pf0 pt0
        go_wp2
        refine bodyPost_ret (v := .tuple #[.agg #[.int .u8 0, .int .i64 0, .string ⟨#[]⟩, .slice none 0 0, .int .i64 0], .int .i64 2]) (by simp [results, Try.results72, go_sem, *]) rfl ?_
        have hF2 := HF.out
        refine ⟨T.zero, rfl, T.zero_v, T.zero_sh _ _ _, ?_⟩
        repeat (first | with_reducible exact hF2 | with_reducible refine Fr.setNew ?_ (by first | (simp; done) | (simp; omega)) _)
      have hl1 : ((fs.length : Int) != (ts.length : Int)) = false := by simp; omega
      have HLN := hide hln
      clear hln
      cases hfa : (fs.all fun r => decide (1 ≤ r)) with
      | false =>
        have e1 : renV u fs ts = (V.zero, 2) := by simp [renV, hfa]
        have hcf := fun w' h h' => containsLow_any Af cf fs w' lf hf h h'
        rw [hfa] at hcf
        rw [e1]
        clear hm e1 hO hfa
        go_enter Try.func72, Try.ntmps72
        go_wp2_with fail
        generalize World.alloc (World.alloc w _) _ = w0 at *
        refine (hM w0 ht0 (by omega)).mono ?_
        rintro e w2 ⟨rfl, f2⟩
        have bz2 := bz0.fr f2 fun h => h
        have pf2 := pf0.no f2 (by omega)
        have HF := hide (fr0.trans f2)
        have hs2 := f2.size
        clear hM ht0 bz0 bv0 fr0 f2 pf0 pt0
        go_wp2_with fail
        refine (hcf w2 pf2 (by omega)).mono ?_
        rintro e w3 ⟨rfl, f3⟩
        have bz3 := bz2.fr f3 fun h => h
        obtain ⟨d0, d1, d2, d3, d4, df⟩ := bz3.cells5
        have q0 := bz3.lt
        have HF3 := hide (HF.out.trans f3)
        clear hcf bz2 f3 bz3 pf2
        go_wp2
        refine bodyPost_ret (v := .tuple #[.agg #[.int .u8 0, .int .i64 0, .string ⟨#[]⟩, .slice none 0 0, .int .i64 0], .int .i64 2]) (by simp [results, Try.results72, go_sem, *]) rfl ?_
        have hF2 := HF3.out
        refine ⟨T.zero, rfl, T.zero_v, T.zero_sh _ _ _, ?_⟩
        repeat (first | with_reducible exact hF2 | with_reducible refine Fr.setNew ?_ (by first | (simp; done) | (simp; omega)) _)
      | true =>
      have hcf := fun w' h h' => containsLow_any Af cf fs w' lf hf h h'
      have hct := fun w' h h' => containsLow_any At ct ts w' lt ht' h h'
      rw [hfa] at hcf
      cases hta : (ts.all fun r => decide (1 ≤ r)) with
      | false =>
        have e1 : renV u fs ts = (V.zero, 2) := by simp [renV, hta]
        rw [hta] at hct
        rw [e1]
        clear hm e1 hO hfa hta
        go_enter Try.func72, Try.ntmps72
        go_wp2_with fail
        generalize World.alloc (World.alloc w _) _ = w0 at *
        refine (hM w0 ht0 (by omega)).mono ?_
        rintro e w2 ⟨rfl, f2⟩
        have bz2 := bz0.fr f2 fun h => h
        have pf2 := pf0.no f2 (by omega)
        have pt2 := pt0.no f2 (by omega)
        have HF := hide (fr0.trans f2)
        have hs2 := f2.size
        clear hM ht0 bz0 bv0 fr0 f2 pf0 pt0
        go_wp2_with fail
        refine (hcf w2 pf2 (by omega)).mono ?_
        rintro e w3 ⟨rfl, f3⟩
        have bz3 := bz2.fr f3 fun h => h
        have pt3 := pt2.no f3 (by omega)
        have HF3 := hide (HF.out.trans f3)
        have hs3 := f3.size
        clear hcf bz2 f3 pf2 pt2
        go_wp2_with fail
        refine (hct w3 pt3 (by omega)).mono ?_
        rintro e w4 ⟨rfl, f4⟩
        have bz4 := bz3.fr f4 fun h => h
        obtain ⟨d0, d1, d2, d3, d4, df⟩ := bz4.cells5
        have q0 := bz4.lt
        have HF4 := hide (HF3.out.trans f4)
        clear hct bz3 f4 bz4 pt3
        go_wp2
        refine bodyPost_ret (v := .tuple #[.agg #[.int .u8 0, .int .i64 0, .string ⟨#[]⟩, .slice none 0 0, .int .i64 0], .int .i64 2]) (by simp [results, Try.results72, go_sem, *]) rfl ?_
        have hF2 := HF4.out
        refine ⟨T.zero, rfl, T.zero_v, T.zero_sh _ _ _, ?_⟩
        repeat (first | with_reducible exact hF2 | with_reducible refine Fr.setNew ?_ (by first | (simp; done) | (simp; omega)) _)
      | true =>
      rw [hta] at hct
      have e1 : renV u fs ts = if u.named (nmOf fs ts) = true then (u.ren (nmOf fs ts), 0) else (V.zero, 21) := by
        unfold renV
        rw [hm, hfa, hta, decide_eq_true HLN.out]
        rfl
      have E1 := hide e1
      clear e1
      generalize renV u fs ts = rv at *
      clear hm hfa hta
      have hmm := make167
      go_enter Try.func72, Try.ntmps72
      go_wp2_with fail
      generalize World.alloc (World.alloc w _) _ = w0 at *
      refine (hM w0 ht0 (by omega)).mono ?_
      rintro e w2 ⟨rfl, f2⟩
      have bz2 := bz0.fr f2 fun h => h
      have bv2 := bv0.fr f2 fun h => h
      have ht2 := ht0.no f2 (by omega)
      have pf2 := pf0.no f2 (by omega)
      have pt2 := pt0.no f2 (by omega)
      have HF := hide (fr0.trans f2)
      have hs2 := f2.size
      clear hM ht0 bz0 bv0 fr0 f2 pf0 pt0
      go_wp2_with fail
      refine (hcf w2 pf2 (by omega)).mono ?_
      rintro e w3 ⟨rfl, f3⟩
      have bz3 := bz2.fr f3 fun h => h
      have bv3 := bv2.fr f3 fun h => h
      have ht3 := ht2.no f3 (by omega)
      have pf3 := pf2.no f3 (by omega)
      have pt3 := pt2.no f3 (by omega)
      have HF3 := hide (HF.out.trans f3)
      have hs3 := f3.size
      clear hcf bz2 bv2 ht2 f3 pf2 pt2 HF
      go_wp2_with fail
      refine (hct w3 pt3 (by omega)).mono ?_
      rintro e w4 ⟨rfl, f4⟩
      have bz4 := bz3.fr f4 fun h => h
      have bv4 := bv3.fr f4 fun h => h
      have ht4 := ht3.no f4 (by omega)
      have pf4 := pf3.no f4 (by omega)
      have pt4 := pt3.no f4 (by omega)
      have HF4 := hide (HF3.out.trans f4)
      have hs4 := f4.size
      clear hct bz3 bv3 ht3 f4 pf3 pt3 HF3
      go_wp2_with fail
      have hst : NamesTo (w4.alloc (.map #[] 0)) w4.heap.size 0 (nmOf [] []) := ⟨.map [], World.ownsMap_made _ _ _ _, fun r _ _ => ⟨rfl, rfl⟩⟩
      have HST := hide hst
      clear hst
      go_loopw [10, 11, 12, 13, 41] (fun _ _ _ _ i wr => ∃ j : Nat, j ≤ fs.length ∧ i = .int .i64 j ∧ Fr No w4 wr ∧ NamesTo wr w4.heap.size j (nmOf (fs.take j) (ts.take j))) (fun _ _ _ _ i _ => fs.length - (intOf i).toNat)
      case atStart => exact ⟨0, Nat.zero_le _, rfl, (Fr.refl No w4).alloc _, by simpa using HST.out⟩
      case round =>
        obtain ⟨j, hj, rfl, fr, nms⟩ := hrel
        have hsz := fr.size
        by_cases hlt : j < fs.length
        · have hlt' : j < ts.length := by have := HLN.out; omega
          obtain ⟨b, o, rfl, hb0, hb1, hcf⟩ := (pf4.no fr (by omega)).elem hlt
          obtain ⟨b', o', rfl, hb0', hb1', hct⟩ := (pt4.no fr (by omega)).elem hlt'
          have g0 : b < wr.heap.size := by omega
          have g1 : b' < wr.heap.size := by omega
          have hrf := pf4.rng _ (List.getElem_mem hlt)
          have hrt := pt4.rng _ (List.getElem_mem hlt')
          have htkf : fs.take (j + 1) = fs.take j ++ [fs[j]] := List.take_succ_eq_append_getElem hlt
          have htkt : ts.take (j + 1) = ts.take j ++ [ts[j]] := List.take_succ_eq_append_getElem hlt'
          have hsn := nm_snoc (fs.take j) (ts.take j) (by simp; omega) fs[j] ts[j]
          generalize fs[j] = x at *
          generalize ts[j] = y at *
          obtain ⟨D, hown, hlook⟩ := nms
          obtain ⟨hl1, hl2⟩ := hlook x hrf.1 hrf.2
          have hkey : keyOf Try.prog 25 (.int .i64 x) = some (.int .i64 x) := keyOf_int_mk Try.underlying25 (wf64 hrf.1 hrf.2)
          have hsn' : ∀ r, nmOf (fs.take (j + 1)) (ts.take (j + 1)) r = (nmOf (fs.take j) (ts.take j) r).or (if x = r then some y else none) := fun r => by rw [htkf, htkt]; exact hsn r
          cases hm : Maps.has D (Lit.int .i64 x) with
          | true =>
            have hnx : NamesTo wr w4.heap.size (j + 1) (nmOf (fs.take (j + 1)) (ts.take (j + 1))) := by
              refine ⟨D, hown.mono (by omega), fun r h0 h1 => ?_⟩
              obtain ⟨q1, q2⟩ := hlook r h0 h1
              have e : nmOf (fs.take (j + 1)) (ts.take (j + 1)) r = nmOf (fs.take j) (ts.take j) r := by
                rw [hsn' r]
                by_cases hxr : x = r
                · subst hxr
                  rw [hm] at hl1
                  cases hq : nmOf (fs.take j) (ts.take j) x with
                  | none => rw [hq] at hl1; cases hl1
                  | some z => rfl
                · rw [if_neg hxr]; cases nmOf (fs.take j) (ts.take j) r <;> rfl
              rw [e]
              exact ⟨q1, q2⟩
            have HN := hide hnx
            have HF := hide fr
            clear hnx fr htkf htkt hsn hsn' hlook hl1 hl2 HST
            go_wp2_with (at_lookup; refine wpList_lookup_own_ok_int _ rfl _ _ 167 rfl 25 25 .i64 keyed25 Try.underlying167 Try.underlying25 (zero25 _) w4.heap.size j D rfl hown _ _ rfl hkey ?_; intro c _ _)
            go_roundw
            case rel => exact ⟨j + 1, hlt, by go_num, HF.out, HN.out⟩
            case measure => simp [intOf]; omega
          | false =>
            have hnx : ∀ w', w'.ownsMap Try.prog 25 (plainElem Try.prog 25) w4.heap.size (j + 1) (D.put (.int .i64 x) (.lit (.int .i64 y))) → NamesTo w' w4.heap.size (j + 1) (nmOf (fs.take (j + 1)) (ts.take (j + 1))) := fun w' ho => by
              refine ⟨_, ho, fun r h0 h1 => ?_⟩
              obtain ⟨q1, q2⟩ := hlook r h0 h1
              by_cases hxr : x = r
              · subst hxr
                rw [hm] at hl1
                have hno : nmOf (fs.take j) (ts.take j) x = none := by
                  cases hq : nmOf (fs.take j) (ts.take j) x with
                  | none => rfl
                  | some z => rw [hq] at hl1; cases hl1
                rw [hsn' x, hno, if_pos rfl]
                exact ⟨has_put_same (World.ownsMap.isMap hown) (keylit _ h0 h1) _, by rw [atKey_put_same (World.ownsMap.isMap hown) (keylit _ h0 h1)]; rfl⟩
              · have e : nmOf (fs.take (j + 1)) (ts.take (j + 1)) r = nmOf (fs.take j) (ts.take j) r := by
                  rw [hsn' r, if_neg hxr]; cases nmOf (fs.take j) (ts.take j) r <;> rfl
                rw [e, has_put_other (lit_ne fun h => hxr h.symm), atKey_put_other (lit_ne fun h => hxr h.symm)]
                exact ⟨q1, q2⟩
            have HN := hide hnx
            have HF := hide fr
            have hpl : plainElem (H := Unit) Try.prog 25 (.int .i64 y) = some (.lit (.int .i64 y), []) := plainElem_int Try.underlying25 (wf64 hrt.1 hrt.2)
            clear hnx fr htkf htkt hsn hsn' hlook hl1 hl2 HST
            go_wp2_with (first
              | (at_lookup; refine wpList_lookup_own_ok_int _ rfl _ _ 167 rfl 25 25 .i64 keyed25 Try.underlying167 Try.underlying25 (zero25 _) w4.heap.size j D rfl hown _ _ rfl hkey ?_; intro c _ _)
              | (at_mapUpdate; refine wpList_mapUpdate_own _ rfl _ _ _ 167 rfl 25 25 keyed25 Try.underlying167 _ w4.heap.size j D rfl hown (by unfold maxLen; omega) _ _ _ rfl rfl hkey _ [] hpl ?_; intro w1 hown1 hgrow1; have HO1 := hide hown1; have HG1 := hide hgrow1; clear hown1 hgrow1))
            go_roundw
            case rel => exact ⟨j + 1, hlt, by go_num, HF.out.trans' (fr_grown HG1.out) (fun i hi h => by injection h with h; omega), HN.out _ HO1.out⟩
            case measure => simp [intOf]; omega
        · obtain rfl : fs.length = j := by omega
          rw [List.take_of_length_le (Nat.le_refl _), List.take_of_length_le (by have := HLN.out; omega)] at nms
          have bz5 := bz4.fr fr fun h => h
          have bv5 := bv4.fr fr fun h => h
          have ht5 := ht4.no fr (by omega)
          have HF5 := hide (HF4.out.trans fr)
          have HN5 := hide nms.names
          have hml := nms.names.lt
          obtain ⟨c0, c1, c2, c3, c4, -⟩ := bv5.cells5
          have q0 := bv5.lt
          have HB5 := hide bz5
          clear nms bz4 bv4 ht4 fr pf4 pt4 HST HF4 bz5 bv5
          generalize w4.heap.size = mb at *
          go_wp2_with fail
          refine (hO wr ht5 (by omega)).mono ?_
          rintro e w6 ⟨⟨k6, n6, s6, A6, c6, l6, r6⟩, rfl, hv6, hsh6, f6⟩
          rw [T.val_mk]
          have hs6 := f6.size
          have f7 := f6.alloc (.cells #[.int .u8 k6, .int .i64 n6, .string s6, .slice A6 l6.length c6, .int .i64 r6] 27)
          have f67 := (Fr.refl No w6).alloc (.cells #[.int .u8 k6, .int .i64 n6, .string s6, .slice A6 l6.length c6, .int .i64 r6] 27)
          have bo7 := Blk.new w6 27 #[.int .u8 k6, .int .i64 n6, .string s6, .slice A6 l6.length c6, .int .i64 r6]
          have hsh7 := hsh6.no f67
          have HN7 := hide (HN5.out.fr f7 fun h => h)
          have HB7 := hide (HB5.out.fr f7 fun h => h)
          have HF7 := hide (HF5.out.trans f7)
          have hbl : ∀ i ∈ (T.mk k6 n6 s6 A6 c6 l6 r6).blocks, wr.heap.size ≤ i ∧ i < w6.heap.size := fun i hi => T.In.blocks _ hsh6.inn i hi
          have hren := rename_any (nmOf fs ts) mb (T.mk k6 n6 s6 A6 c6 l6 r6) w6.heap.size 0 wr.heap.size w6.heap.size _ (fun j u hu => by rw [Nat.zero_add, bo7.cell]; simpa [T.cells_mk] using hu) (fun i => bo7.frozen i) bo7.lt hsh7.sp hsh7.nodup (fun h => by have := hbl _ h; omega) (by simp) HN7.out (by omega) (fun h => by have := hbl _ h; omega)
          have HR := hide hren
          have HBL := hide hbl
          have HV6 := hide hv6
          have HBO := hide bo7
          have HND := hide hsh7.nodup
          clear hren hbl hv6 hsh6 hsh7 f6 f7 f67 bo7 HN5 HB5 HF5 ht5 hO c0 c1 c2 c3 c4 q0
          go_wp2_with fail
          generalize World.alloc w6 _ = w7 at *
          refine HR.out.mono ?_
          rintro e w8 hq
          have he := hq.e
          subst he
          rw [HV6.out]
          have hs8 := hq.fr.size
          have hgt : ∀ i, (i = w6.heap.size ∨ i ∈ (T.mk k6 n6 s6 A6 c6 l6 r6).blocks) → w.heap.size + 2 ≤ i := fun i h => by
            rcases h with h | h
            · omega
            · have := HBL.out i h; omega
          have hF8 : Fr No w w8 := HF7.out.trans' hq.fr fun i hi h => by have := hgt i h; omega
          have bz8 := HB7.out.fr hq.fr (fun h => by have := hgt _ h; omega)
          have HF8 := hide hF8
          have HB8 := hide bz8
          have hz8 := bz8.lt
          cases hn : u.named (nmOf fs ts) with
          | false =>
            obtain ⟨d0, d1, d2, d3, d4, df⟩ := bz8.cells5
            have e2 : rv = (V.zero, 21) := by rw [E1.out, hn]; rfl
            have E2 := hide e2
            clear e2 hn hq bz8 hF8 hgt
            go_wp2
            refine bodyPost_ret (v := .tuple #[.agg #[.int .u8 0, .int .i64 0, .string ⟨#[]⟩, .slice none 0 0, .int .i64 0], .int .i64 21]) (by simp [results, Try.results72, go_sem, *]) rfl ?_
            have hF2 := HF8.out
            rw [E2.out]
            refine ⟨T.zero, rfl, T.zero_v, T.zero_sh _ _ _, ?_⟩
            repeat (first | with_reducible exact hF2 | with_reducible refine Fr.setNew ?_ (by first | (simp; done) | (simp; omega)) _)
          | true =>
            have e2 : rv = (u.ren (nmOf fs ts), 0) := by rw [E1.out, hn]; rfl
            have hsp8 := hq.sp (by rw [HV6.out]; exact hn)
            obtain ⟨h4, h5⟩ := hq.one k6 n6 s6 A6 c6 l6 r6 rfl (by rw [HV6.out]; exact hn)
            obtain ⟨L', r'', hx, hL'⟩ : ∃ L' r'', (T.mk k6 n6 s6 A6 c6 l6 r6).ren (nmOf fs ts) = T.mk k6 n6 s6 A6 c6 L' r'' ∧ L'.length = l6.length := by
              rw [T.ren_mk]
              split
              · exact ⟨_, _, rfl, rfl⟩
              · exact ⟨_, _, rfl, by simp⟩
            have hcc := T.ren_cells (nmOf fs ts) k6 n6 s6 A6 c6 l6 r6
            rw [hx, T.cells_mk] at hcc
            simp only [List.cons.injEq, true_and, and_true] at hcc
            have hr'' := hcc.2
            clear hcc
            simp only [Value.int.injEq, true_and] at hr''
            have bo8 : Blk w8 w6.heap.size 27 #[.int .u8 k6, .int .i64 n6, .string s6, .slice A6 l6.length c6, .int .i64 r''] := by
              rw [hr'']
              by_cases hk : k6 = 4
              · rw [h4 hk, if_pos hk]
                have := HBO.out.set_ (0 + 4) (.int .i64 ((nmOf fs ts r6).getD 0))
                simpa using this
              · rw [if_neg hk]
                exact HBO.out.fr (h5 hk) fun h => by have := HBL.out _ h; omega
            have hv8 : (T.mk k6 n6 s6 A6 c6 L' r'').v = u.ren (nmOf fs ts) := by rw [← hx, T.ren_v, HV6.out]
            have hb8 : (T.mk k6 n6 s6 A6 c6 L' r'').blocks = (T.mk k6 n6 s6 A6 c6 l6 r6).blocks := by rw [← hx, T.ren_blocks]
            rw [hx] at hsp8
            obtain ⟨d0, d1, d2, d3, d4, df⟩ := bz8.cells5
            obtain ⟨c0, c1, c2, c3, c4, -⟩ := bo8.cells5
            have q0 := bo8.lt
            have E2 := hide e2
            have HSP := hide hsp8
            have HV8 := hide hv8
            have HB := hide hb8
            have HL := hide hL'
            clear e2 hn hq bz8 hF8 hgt hsp8 h4 h5 hx hr'' bo8 hv8 hb8 hL'
            go_wp2
            refine bodyPost_ret (v := .tuple #[.agg #[.int .u8 k6, .int .i64 n6, .string s6, .slice A6 l6.length c6, .int .i64 r''], .int .i64 0]) (by simp [results, Try.results72, go_sem, *]) rfl ?_
            have hF2 := HF8.out
            rw [E2.out]
            refine ⟨T.mk k6 n6 s6 A6 c6 L' r'', by rw [T.val_mk, HL.out], HV8.out, ?_, ?_⟩
            · have hsh : (T.mk k6 n6 s6 A6 c6 L' r'').Sh w8 wr.heap.size w6.heap.size := ⟨HSP.out, by rw [HB.out]; exact HND.out⟩
              refine (T.Sh.fr' (S := (· = w.heap.size + 1)) hsh ?_ (fun i h0 h1 h2 => by have h' : i = w.heap.size + 1 := h2; omega)).more (by omega) (by simp; omega)
              repeat (first | with_reducible exact Fr.refl _ w8 | with_reducible refine Fr.set ?_ (by simp) _)
            · repeat (first | with_reducible exact hF2 | with_reducible refine Fr.setNew ?_ (by first | (simp; done) | (simp; omega)) _)

end Go.Proofs.Ytihjmipmjogpoaa

/- Chapter 2: the law's own kept: is it as it was, the marks too? -/
namespace Go.Proofs.Ytihjmipmjogpoaa
open Go.RowKit

set_option maxRecDepth 100000 in
set_option maxHeartbeats 8000000 in
theorem kept_any (t : T) : ∀ (t' : T) (w : World) (lo hi lo' hi' : Nat), t.In w lo hi → hi ≤ w.heap.size → t.Mk w → t'.In w lo' hi' → hi' ≤ w.heap.size → t.v = t'.v →
    Calls Try.prog 45 #[t.val, t'.val] w fun e w' => e = .returned (.bool true) ∧ Fr No w w' := by
  induction t using T.ind with
  | h k n s A cap l r ih =>
    intro t' w lo hi lo' hi' ht hh hm ht' hh' he
    cases t' with
    | mk k' n' s' A' cap' l' r' =>
      rw [T.v_mk, T.v_mk] at he
      injection he with e1 e2 e3 e4 e5
      subst e1 e2 e3 e5
      have hl : l.length = l'.length := by simpa using congrArg List.length e4
      rw [T.val_mk, T.val_mk]
      have fr2 := ((Fr.refl No w).alloc (.cells #[.int .u8 k, .int .i64 n, .string s, .slice A l.length cap, .int .i64 r] 27)).alloc (.cells #[.int .u8 k, .int .i64 n, .string s, .slice A' l'.length cap', .int .i64 r] 27)
      have hlen := (T.in_mk.1 ht').1.len1
      rw [hl]
      rw [hl] at fr2
      have hK0 := (Blk.new' w 27 #[.int .u8 k, .int .i64 n, .string s, .slice A l'.length cap, .int .i64 r] rfl).alloc (.cells #[.int .u8 k, .int .i64 n, .string s, .slice A' l'.length cap', .int .i64 r] 27)
      have hV0 := Blk.new' (w.alloc (.cells #[.int .u8 k, .int .i64 n, .string s, .slice A l'.length cap, .int .i64 r] 27)) 27 #[.int .u8 k, .int .i64 n, .string s, .slice A' l'.length cap', .int .i64 r] (g := w.heap.size + 1) (by simp)
      have HL := hide hl
      have HE := hide e4
      clear hl e4
      by_cases h0 : l'.length = 0
      · obtain rfl : l' = [] := List.eq_nil_of_length_eq_zero h0
        clear ih ht ht' hm h0
        go_enter Try.func45, Try.ntmps45
        go_wp2
        go_ret
        exact ⟨rfl, fr2⟩
      have hl0 : ((l'.length : Int) == 0) = false := by simp; intro h; exact h0 (by rw [h]; rfl)
      have hl1 : (0 : Int) < (l'.length : Int) := by omega
      go_enter Try.func45, Try.ntmps45
      go_wp2_with fail
      go_loopw [5] (fun i wr => ∃ j : Nat, j ≤ l'.length ∧ i = .int .i64 j ∧ Fr No ((w.alloc (.cells #[.int .u8 k, .int .i64 n, .string s, .slice A l'.length cap, .int .i64 r] 27)).alloc (.cells #[.int .u8 k, .int .i64 n, .string s, .slice A' l'.length cap', .int .i64 r] 27)) wr) (fun i _ => l'.length - (intOf i).toNat)
      case atStart => exact ⟨0, Nat.zero_le _, rfl, Fr.refl _ _⟩
      case round =>
        obtain ⟨j, hj, rfl, fr⟩ := hrel
        have hK := hK0.fr fr (fun h => h)
        have hV := hV0.fr fr (fun h => h)
        have frw := fr2.trans fr
        have hszr := fr.size
        simp at hszr
        obtain ⟨c0, c1, c2, c3, c4, cf⟩ := hK.cells5
        obtain ⟨d0, d1, d2, d3, d4, df⟩ := hV.cells5
        have g2 : w.heap.size < wr.heap.size := by omega
        have g3 : w.heap.size + 1 < wr.heap.size := by omega
        have hh0 : hi ≤ wr.heap.size := by omega
        have hh1 : hi' ≤ wr.heap.size := by omega
        have htr := ht.no frw hh
        have hmr := T.Mk.no frw hh ht hm
        by_cases hlt' : j < l'.length
        · have hlt : j < l.length := by have := HL.out; omega
          obtain ⟨b, o, k1, n1, s1, A1, cap1, l1, r1, rfl, hb0, hb1, hx, hin, e0, e1, e2, e3, e4⟩ := T.elem htr hlt
          obtain ⟨b', o', k2, n2, s2, A2, cap2, l2, r2, rfl, hb0', hb1', hx', hin', f0, f1, f2, f3, f4⟩ := T.elem (ht'.no frw hh') hlt'
          have hm1 : (T.mk k1 n1 s1 A1 cap1 l1 r1).Mk wr := by rw [← hx]; exact (T.mk_mk.1 hmr).2 _ (List.getElem_mem hlt)
          have hve : (T.mk k1 n1 s1 A1 cap1 l1 r1).v = (T.mk k2 n2 s2 A2 cap2 l2 r2).v := by
            have := congrArg (fun q => q[j]?) HE.out
            simp [hlt, hlt'] at this
            rw [hx, hx'] at this
            exact this
          have IH := fun w1 (f : Fr No wr w1) => ih l[j] (List.getElem_mem hlt) (T.mk k2 n2 s2 A2 cap2 l2 r2) w1 lo hi lo' hi' (by rw [hx]; exact hin.no f hh0) (Nat.le_trans hh0 f.size) (by rw [hx]; exact T.Mk.no f hh0 hin hm1) (hin'.no f hh1) (Nat.le_trans hh1 f.size) (by rw [hx]; exact hve)
          rw [hx, T.val_mk, T.val_mk] at IH
          have HIH := hide IH
          have g0 : b < wr.heap.size := by omega
          have g1 : b' < wr.heap.size := by omega
          have HF := hide fr
          have HW := hide frw
          clear hx hx' ih hK hV fr frw ht ht' fr2 hm htr hmr hm1 hve IH hin hin' hK0 hV0
          go_wp2_with fail
          go_region_held3 (fun w' => (∀ c i, c < wr.heap.size → w'.cell? ⟨c, i, none⟩ = wr.cell? ⟨c, i, none⟩) ∧ Fr No wr w')
            (first | exact ⟨fun _ _ _ => rfl, Fr.drew (Fr.refl No wr)⟩ | (have hq : Fr No wr _ := (‹_ ∧ Fr No wr _›).2.trans ‹Fr No _ _›; exact ⟨hq.cells, hq⟩))
            (first
              | (go_at_call 45; have hs0 := (‹_ ∧ Fr No wr _›).2; ((with_reducible refine (HIH.out _ ?_).mono ?_); (exact hs0); rintro e w2 ⟨rfl, fr1⟩)))
          have HF2 := hide (‹_ ∧ Fr No wr _›).2
          go_wp2
          go_roundw
          case rel => exact ⟨j + 1, hlt', by go_num, HF.out.trans HF2.out⟩
          case measure => simp [intOf]; omega
        · obtain rfl : l'.length = j := by omega
          have hne : l ≠ [] := by rintro rfl; have := HL.out; simp at this; omega
          obtain ⟨b, o, rfl, hc, hcell⟩ := (T.mk_mk.1 hmr).1 hne
          obtain ⟨b', o', hA, hb0, hb1, -⟩ := (T.in_mk.1 htr).2.1 hne
          simp only [Option.some.injEq, Addr.mk.injEq, and_true] at hA
          obtain ⟨rfl, rfl⟩ := hA
          rw [HL.out] at hcell hc
          have hc2 : (l'.length : Int) + 1 ≤ (cap : Int) := by omega
          have g0 : b < wr.heap.size := by omega
          have HW := hide frw
          clear ih hmr htr ht ht' hm fr fr2 frw hK hV hc hne hK0 hV0
          have hw1 : IntKind.i64.wrap ((l'.length : Int) + 1) = (l'.length : Int) + 1 := IntWalk.i64_in _ (by omega)
          have hw2 : (0 : Int) ≤ (l'.length : Int) + 1 := by omega
          have hw3 : ((l'.length : Int) + 1).toNat = l'.length + 1 := by omega
          have hw4 : (l'.length : Int) < (l'.length : Int) + 1 := by omega
          go_wp2_with fail
          go_quiet (fail)
          go_wp2
          go_ret
          exact ⟨rfl, HW.out.drewN _⟩

end Go.Proofs.Ytihjmipmjogpoaa

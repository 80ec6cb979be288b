/- Texts joined: Gq6b, Gq8, Gq9. -/
import Derived.Test.YtnddfiohofnbaaaJn15
/- Worlds of whatever things: fits, in one; whether a world is sound, plain. -/
namespace Go.Proofs.Ytnddfiohofnbaaa
open Go.RowKit

/-- Is there a thing, and is its By, its Of, this one? -/
def Gm.byIs (m : Gm) (o r : Int) : Bool := match m.get o with
  | some y => y.2.byr == r
  | none => false
def Gm.ofIs (m : Gm) (o r : Int) : Bool := match m.get o with
  | some y => y.2.ofr == r
  | none => false

/-- What fits answers (a: what its target can). -/
def Gm.fitB (m : Gm) (r : Int) (x : Tg) (a : Nat) : Bool :=
  if x.kind = 6 then m.hkB x.ofr 5 x.home && !m.othB r 6 x.ofr else
  if x.kind = 7 then m.hkB x.ofr 5 x.home else
  if x.kind = 9 then m.hkB x.ofr 8 x.home else
  if x.kind = 11 then m.hkB x.ofr 10 x.home && !m.othB r 11 x.ofr else
  if x.kind = 13 then x.ofr == 0 || (m.kind x.ofr == 15 && m.byIs x.ofr r) else
  if x.kind = 14 then (m.get x.ofr).isSome && m.kind x.ofr != 14 && x.set != (a : Int) && bits .andNot .u8 x.set (a : Int) == 0 && (match m.fget x.ofr x.set with | some f => f == r | none => true) else
  if x.kind = 15 then m.hkB x.byr 13 x.home && (m.get x.ofr).isSome && m.ofIs x.byr r else
  if x.kind = 16 then m.hkB x.byr 3 x.home && (m.get x.ofr).isSome else true

/-- The same, but for whether a facet is found. -/
def Gm.fitS (m : Gm) (r : Int) (x : Tg) (a : Nat) : Bool :=
  if x.kind = 14 then (m.get x.ofr).isSome && m.kind x.ofr != 14 && x.set != (a : Int) && bits .andNot .u8 x.set (a : Int) == 0 else m.fitB r x a

theorem fits_g {m : Gm} {lo : Nat} {W : World} (h : m.Ok lo W) (r : Int) (x : Tg) (a : Nat) (ha : x.kind = 14 → m.Abl x.ofr a) :
    Calls Try.prog 69 #[.pointer (some ⟨m.wb, 0, none⟩), .int .i64 r, x.val] W fun e w' => e = .returned (.bool (m.fitB r x a)) ∧ Fr No W w' := by
  obtain ⟨kind, home, ⟨k, n, s, A, cap, l, r0⟩, VA, vc, vs, n1, lost, ofr, byr, set, full, CA, cc, code, NA, nc, names⟩ := x
  have hval : (Tg.val ⟨kind, home, T.mk k n s A cap l r0, VA, vc, vs, n1, lost, ofr, byr, set, full, CA, cc, code, NA, nc, names⟩) = .agg (c16 kind home k n s A l.length cap r0 VA vs.length vc n1 lost ofr byr set full CA code.length cc NA names.length nc) := rfl
  rw [hval]
  unfold Gm.fitB
  simp only at ha ⊢
  by_cases h6 : kind = 6
  · subst h6; rw [if_pos rfl]; exact gfits6 h _ _ _ _ _ _ _ _ _ _ _ _ _ _ _ _ _ _ _ _ _ _ _ _
  rw [if_neg h6]
  by_cases h7 : kind = 7
  · subst h7; rw [if_pos rfl]; exact gfits7 h _ _ _ _ _ _ _ _ _ _ _ _ _ _ _ _ _ _ _ _ _ _ _ _
  rw [if_neg h7]
  by_cases h9 : kind = 9
  · subst h9; rw [if_pos rfl]; exact gfits9 h _ _ _ _ _ _ _ _ _ _ _ _ _ _ _ _ _ _ _ _ _ _ _ _
  rw [if_neg h9]
  by_cases h11 : kind = 11
  · subst h11; rw [if_pos rfl]; exact gfits11 h _ _ _ _ _ _ _ _ _ _ _ _ _ _ _ _ _ _ _ _ _ _ _ _
  rw [if_neg h11]
  by_cases h13 : kind = 13
  · subst h13; rw [if_pos rfl]; exact gfits13 h _ _ _ _ _ _ _ _ _ _ _ _ _ _ _ _ _ _ _ _ _ _ _ _
  rw [if_neg h13]
  by_cases h14 : kind = 14
  · subst h14; rw [if_pos rfl]; exact gfits14 h _ _ _ _ _ _ _ _ _ _ _ _ _ _ _ _ _ _ _ _ _ _ _ _ (ha rfl)
  rw [if_neg h14]
  by_cases h15 : kind = 15
  · subst h15; rw [if_pos rfl]; exact gfits15 h _ _ _ _ _ _ _ _ _ _ _ _ _ _ _ _ _ _ _ _ _ _ _ _
  rw [if_neg h15]
  by_cases h16 : kind = 16
  · subst h16; rw [if_pos rfl]; exact gfits16 h _ _ _ _ _ _ _ _ _ _ _ _ _ _ _ _ _ _ _ _ _ _ _ _
  rw [if_neg h16]
  exact gfits0 m.wb _ _ _ _ _ _ _ _ _ _ _ _ _ _ _ _ _ _ _ _ _ _ _ _ _ ⟨h6, h7, h9, h11, h13, h14, h15, h16⟩

/-- What a thing can; 0, if there is none. -/
noncomputable def Gm.abl (m : Gm) (r : Int) : Nat := Classical.epsilon (m.Abl r)

theorem Gm.abl_eq {m : Gm} {r : Int} {a : Nat} (h : m.Abl r a) : m.abl r = a := (Classical.epsilon_spec (⟨a, h⟩ : ∃ a, m.Abl r a)).uniq h

/-- Is a world sound? -/
structure Gm.Snd (m : Gm) : Prop where
  bad : ∀ x ∈ m.th, m.badB x.2.2 = false
  hgt : ∀ x ∈ m.th, ∃ n, m.Hgt x.1 n
  one : ∀ x ∈ m.th, ∀ y ∈ m.th, x.2.2.kind = 14 → y.2.2.kind = 14 → x.2.2.ofr = y.2.2.ofr → x.2.2.set = y.2.2.set → x.1 = y.1
  fit : ∀ x ∈ m.th, m.fitS x.1 x.2.2 (m.abl x.2.2.ofr) = true

/-- The world with other facets that are found. -/
def Gm.wf (m : Gm) (F : List (Int × Int × Int)) : Gm := { m with fac := F }

section
variable {m : Gm} {F : List (Int × Int × Int)} {r : Int} {a n : Nat}
theorem Gm.wf_get : (m.wf F).get r = m.get r := rfl
theorem Gm.wf_ext : m.Ext (m.wf F) := ⟨rfl, rfl, fun _ _ h => h⟩
theorem Gm.Abl.wf (h : m.Abl r a) : (m.wf F).Abl r a := h.ext Gm.wf_ext
theorem Gm.wf_kind : (m.wf F).kind r = m.kind r := rfl
end

/-- What holds of the facets that are found, where some have come up. -/
structure FacI (m : Gm) (sn : Nat → Prop) (F : List (Int × Int × Int)) : Prop where
  mem : ∀ o s r, (o, s, r) ∈ F ↔ ∃ (i : Nat) (x : Int × Nat × Tg), m.th[i]? = some x ∧ sn i ∧ x.1 = r ∧ x.2.2.kind = 14 ∧ x.2.2.ofr = o ∧ x.2.2.set = s
  nod : (F.map fun f => f.2.2).Nodup

theorem FacI.start {m : Gm} {sn : Nat → Prop} (h : ∀ i, ¬ sn i) : FacI m sn [] := ⟨fun o s r => ⟨nofun, fun ⟨i, x, _, hs, _⟩ => absurd hs (h i)⟩, by simp⟩

theorem FacI.skip {m : Gm} {sn sn' : Nat → Prop} {F : List (Int × Int × Int)} (h : FacI m sn F) {i : Nat} {x : Int × Nat × Tg} (hx : m.th[i]? = some x) (hk : x.2.2.kind ≠ 14) (hs : ∀ j, sn' j ↔ j = i ∨ sn j) : FacI m sn' F := by
  refine ⟨fun o s r => (h.mem o s r).trans ⟨fun ⟨j, y, hy, hsn, q⟩ => ⟨j, y, hy, (hs j).2 (.inr hsn), q⟩, fun ⟨j, y, hy, hsn, q⟩ => ⟨j, y, hy, ?_, q⟩⟩, h.nod⟩
  rcases (hs j).1 hsn with rfl | hsn
  · rw [hx] at hy
    injection hy with hy
    subst hy
    exact absurd q.2.1 hk
  · exact hsn

theorem FacI.fresh {m : Gm} {sn : Nat → Prop} {F : List (Int × Int × Int)} (h : FacI m sn F) (hk : (m.th.map Prod.fst).Nodup) {i : Nat} {x : Int × Nat × Tg} (hx : m.th[i]? = some x) (hn : ¬ sn i) : x.1 ∉ F.map fun f => f.2.2 := by
  intro hm
  obtain ⟨⟨o, s, r⟩, hf, hr⟩ := List.mem_map.1 hm
  obtain ⟨j, y, hy, hsn, hy1, -⟩ := (h.mem o s r).1 hf
  have hji : j = i := by
    obtain ⟨hj, rfl⟩ := List.getElem?_eq_some_iff.1 hy
    obtain ⟨hi, rfl⟩ := List.getElem?_eq_some_iff.1 hx
    refine (List.getElem_inj (h₀ := by simpa using hj) (h₁ := by simpa using hi) hk).1 ?_
    simp only [List.getElem_map]
    rw [hy1]
    exact hr
  exact hn (hji ▸ hsn)

theorem FacI.add {m : Gm} {sn sn' : Nat → Prop} {F : List (Int × Int × Int)} (h : FacI m sn F) (hk : (m.th.map Prod.fst).Nodup) {i : Nat} {x : Int × Nat × Tg} (hx : m.th[i]? = some x) (h14 : x.2.2.kind = 14) (hn : ¬ sn i) (hs : ∀ j, sn' j ↔ j = i ∨ sn j) : FacI m sn' (F ++ [(x.2.2.ofr, x.2.2.set, x.1)]) := by
  have hfr := h.fresh hk hx hn
  refine ⟨fun o s r => ?_, ?_⟩
  · rw [List.mem_append, h.mem]
    constructor
    · rintro (⟨j, y, hy, hsn, q⟩ | hm)
      · exact ⟨j, y, hy, (hs j).2 (.inr hsn), q⟩
      · simp only [List.mem_singleton, Prod.mk.injEq] at hm
        exact ⟨i, x, hx, (hs i).2 (.inl rfl), hm.2.2.symm, h14, hm.1.symm, hm.2.1.symm⟩
    · rintro ⟨j, y, hy, hsn, q1, q2, q3, q4⟩
      rcases (hs j).1 hsn with rfl | hsn
      · rw [hx] at hy
        injection hy with hy
        subst hy
        right
        simp [q1, q3, q4]
      · exact .inl ⟨j, y, hy, hsn, q1, q2, q3, q4⟩
  · rw [List.map_append]
    refine List.nodup_append.2 ⟨h.nod, by simp, fun a ha b hb => ?_⟩
    simp only [List.map_cons, List.map_nil, List.mem_singleton] at hb
    subst hb
    rintro rfl
    exact hfr ha

theorem FacI.len {m : Gm} {sn : Nat → Prop} {F : List (Int × Int × Int)} (h : FacI m sn F) (hk : (m.th.map Prod.fst).Nodup) {i : Nat} {x : Int × Nat × Tg} (hx : m.th[i]? = some x) (hn : ¬ sn i) : F.length < m.th.length := by
  have := nodup_le (l := x.1 :: F.map fun f => f.2.2) (k := m.th.map Prod.fst) (List.nodup_cons.2 ⟨h.fresh hk hx hn, h.nod⟩) fun y hy => by
    rcases List.mem_cons.1 hy with rfl | hy
    · exact List.mem_map.2 ⟨x, List.mem_of_getElem? hx, rfl⟩
    · obtain ⟨⟨o, s, r⟩, hf, rfl⟩ := List.mem_map.1 hy
      obtain ⟨j, z, hz, -, hz1, -⟩ := (h.mem o s r).1 hf
      exact List.mem_map.2 ⟨z, List.mem_of_getElem? hz, hz1⟩
  simp at this
  omega

/-- Where all have come up, fits asks what it asks but for the finding. -/
theorem Gm.fit_wf {m : Gm} {F : List (Int × Int × Int)} (hF : FacI m (fun i => ∃ x, m.th[i]? = some x) F) (_hkey : (m.th.map Prod.fst).Nodup) (hone : ∀ x ∈ m.th, ∀ y ∈ m.th, x.2.2.kind = 14 → y.2.2.kind = 14 → x.2.2.ofr = y.2.2.ofr → x.2.2.set = y.2.2.set → x.1 = y.1) {x : Int × Nat × Tg} (hx : x ∈ m.th) (a : Nat) : (m.wf F).fitB x.1 x.2.2 a = m.fitS x.1 x.2.2 a := by
  unfold Gm.fitS
  by_cases h14 : x.2.2.kind = 14
  · rw [if_pos h14]
    unfold Gm.fitB
    rw [if_neg (by omega), if_neg (by omega), if_neg (by omega), if_neg (by omega), if_neg (by omega), if_pos h14]
    have hfg : (m.wf F).fget x.2.2.ofr x.2.2.set = some x.1 := by
      obtain ⟨i, hi⟩ := List.mem_iff_getElem?.1 hx
      have hm := (hF.mem x.2.2.ofr x.2.2.set x.1).2 ⟨i, x, hi, ⟨x, hi⟩, rfl, h14, rfl, rfl⟩
      cases hq : (m.wf F).fget x.2.2.ofr x.2.2.set with
      | none => exact absurd ⟨rfl, rfl⟩ (Gm.fget_none hq _ hm)
      | some q =>
        obtain ⟨j, hj, -⟩ := Gm.fget_some hq
        obtain ⟨i', y, hy, -, e1, e2, e3, e4⟩ := (hF.mem x.2.2.ofr x.2.2.set q).1 (List.mem_of_getElem? hj)
        have := hone x hx y (List.mem_of_getElem? hy) h14 e2 e3.symm e4.symm
        rw [← e1, this]
    rw [hfg]
    simp [Gm.wf_get, Gm.wf_kind]
  · rw [if_neg h14]
    unfold Gm.fitB
    simp only [if_neg h14]
    rfl

end Go.Proofs.Ytnddfiohofnbaaa

/- How many bits a set has; worlds of whatever things: spare. -/
namespace Go.Proofs.Ytnddfiohofnbaaa
open Go.RowKit

/-- How many abilities a set has. -/
def pcN (a : Nat) : Nat := a % 2 + (a / 2) % 2 + (a / 4) % 2 + (a / 8) % 2 + (a / 16) % 2 + (a / 32) % 2

theorem pcN_le (a : Nat) : pcN a ≤ 6 := by unfold pcN; omega

set_option maxRecDepth 100000 in
theorem ones_w (a : Nat) (ha : a < 64) (W : World) : Calls Try.prog 113 #[.int .u64 (a : Int)] W fun e w' => e = .returned (.int .i64 (pcN a : Int)) ∧ w' = W := by
  go_enter Try.func113, Try.ntmps113
  go_wp2
  go_ret
  refine ⟨congrArg (fun n => Ending.returned (.int .i64 n)) ?_, rfl⟩
  revert a
  decide +kernel

/-- How many facets a thing may still have; one less for a facet. -/
noncomputable def Gm.spN (m : Gm) (x : Int × Nat × Tg) : Int := if x.2.2.kind = 14 then -1 else 2 ^ pcN (m.abl x.1) - 1

noncomputable def Gm.spare (m : Gm) : Int := (m.th.map m.spN).sum

theorem sum_perm {l k : List Int} (h : l.Perm k) : l.sum = k.sum := by
  induction h with
  | nil => rfl
  | cons x _ ih => simp [ih]
  | swap x y l => simp only [List.sum_cons]; omega
  | trans _ _ ih1 ih2 => exact ih1.trans ih2

theorem sum_bound (f : Nat → Int) (hf : ∀ i, -64 ≤ f i ∧ f i ≤ 64) : ∀ S : List Nat, -64 * (S.length : Int) ≤ (S.map f).sum ∧ (S.map f).sum ≤ 64 * (S.length : Int)
  | [] => by simp
  | i :: S => by
    have := sum_bound f hf S
    have h := hf i
    simp only [List.map_cons, List.sum_cons, List.length_cons]
    omega

theorem nodup_leN : ∀ {l : List Nat} {n : Nat}, l.Nodup → (∀ x ∈ l, x < n) → l.length ≤ n := fun {l n} hn hs => by
  have := nodup_le (l := l.map fun (i : Nat) => (i : Int)) (k := (List.range n).map fun (i : Nat) => (i : Int)) (by
    rw [List.nodup_iff_pairwise_ne] at hn ⊢
    rw [List.pairwise_map]
    exact hn.imp fun h => by omega) fun x hx => by
      obtain ⟨i, hi, rfl⟩ := List.mem_map.1 hx
      exact List.mem_map.2 ⟨i, List.mem_range.2 (hs i hi), rfl⟩
  simpa using this

/-- What the thing at a place adds. -/
noncomputable def Gm.spI (m : Gm) (i : Nat) : Int := match m.th[i]? with
  | some x => m.spN x
  | none => 0

theorem Gm.spN_bound (m : Gm) (x : Int × Nat × Tg) : -64 ≤ m.spN x ∧ m.spN x ≤ 64 := by
  unfold Gm.spN
  split
  · omega
  · have h := pcN_le (m.abl x.1)
    generalize pcN (m.abl x.1) = p at *
    have : p = 0 ∨ p = 1 ∨ p = 2 ∨ p = 3 ∨ p = 4 ∨ p = 5 ∨ p = 6 := by omega
    rcases this with rfl | rfl | rfl | rfl | rfl | rfl | rfl <;> decide

theorem Gm.spI_bound (m : Gm) (i : Nat) : -64 ≤ m.spI i ∧ m.spI i ≤ 64 := by
  unfold Gm.spI
  split
  · exact m.spN_bound _
  · omega

theorem Gm.spare_eq {m : Gm} {S : List Nat} (hn : S.Nodup) (hs : ∀ i, i ∈ S ↔ i < m.th.length) : (S.map m.spI).sum = m.spare := by
  have hp : S.Perm (List.range m.th.length) := (List.perm_ext_iff_of_nodup hn List.nodup_range).2 fun i => by rw [hs, List.mem_range]
  rw [sum_perm (hp.map m.spI)]
  unfold Gm.spare
  congr 1
  apply List.ext_getElem
  · simp
  · intro i h1 h2
    simp at h1
    simp [Gm.spI, h1]

/-- Where the range stands. -/
structure SpI (m : Gm) (W : World) (cl rI : Nat) (es : Array MapEntry) (v : List Nat) (S : List Nat) (wr : World) : Prop where
  ri : RI m.M cl rI es v wr
  fr : Fr No W wr
  r0 : W.heap.size ≤ rI
  nod : S.Nodup
  lt : ∀ i ∈ S, i < m.th.length
  sn : ∀ i, i < m.th.length → (i ∈ S ↔ Seen es v i)

set_option maxRecDepth 100000 in
set_option maxHeartbeats 8000000 in
theorem spare_g {m : Gm} {lo : Nat} {W : World} (h : m.Ok lo W) (hab : ∀ x ∈ m.th, ∃ a, m.Abl x.1 a) :
    Calls Try.prog 84 #[.pointer (some ⟨m.wb, 0, none⟩)] W fun e w' => e = .returned (.int .i64 m.spare) ∧ Fr No W w' := by
  obtain ⟨es, cl, hm, hes, hst⟩ := h.things
  have c0 := gmap_cell h
  have q0 := h.blk.lt
  have hrg := run_range_map (P := Try.prog) W 73 28 100 m.M es cl Try.underlying73 hm
  have hM := lt_of_heap hm
  have HINV : Hid (SpI m W cl W.heap.size es [] [] (W.alloc (.mapIter (some m.M) cl #[] cl))) := hide ⟨⟨World.alloc_heap_new _ _, (Below.heap_alloc _ _ _ hM).trans hm⟩, (Fr.refl No W).alloc _, Nat.le_refl _, by simp, by simp, fun i _ => ⟨nofun, fun h => absurd h seen_nil⟩⟩
  have HES := hide hes
  have HST := hide hst
  have HOK := hide h
  have HAB := hide hab
  have hlen := h.len
  have HLEN := hide hlen
  clear hes hst h hab hlen
  generalize hrI : W.heap.size = rI at *
  have HRI := hide hrI
  clear hrI
  go_enter Try.func84, Try.ntmps84
  go_wp2_with fail
  go_loopw [3] (fun nv wr => ∃ v S, nv = .int .i64 (S.map m.spI).sum ∧ SpI m W cl rI es v S wr) (fun _ wr => (leftOf es (wr.iterSeen rI)).size)
  case atStart => exact ⟨[], [], by simp, HINV.out⟩
  case round =>
    obtain ⟨v, S, rfl, inv⟩ := hrel
    rcases ri_step inv.ri HES.out HST.out 0 with ⟨hall, hnx⟩ | ⟨i, b, x, W3, hx, hns, hseen, hnx, hent, F3, ri3, hsh⟩
    · have hfin : (S.map m.spI).sum = m.spare := Gm.spare_eq inv.nod fun i => ⟨inv.lt i, fun hi => (inv.sn i hi).2 (hall i _ (List.getElem?_eq_getElem hi))⟩
      have HFIN := hide hfin
      have HF := hide inv.fr
      clear inv hall hrg HINV hfin
      go_wp2
      go_ret
      exact ⟨by rw [HFIN.out]; rfl, HF.out⟩
    · have hxm : x ∈ m.th := List.mem_of_getElem? hx
      have hil : i < m.th.length := (List.getElem?_eq_some_iff.1 hx).1
      have F3' : Fr No W W3 := inv.fr.trans' F3 fun q hq h => by have h' : q = rI := h; have := inv.r0; have := HRI.out; omega
      have hok3 := HOK.out.no F3'
      obtain ⟨d0, -, -, -, -, -⟩ := gbox_at (hok3.box x hxm)
      have dq := (hok3.box x hxm).lt
      have hiS : i ∉ S := fun h => hns ((inv.sn i hil).1 h)
      have hb1 := sum_bound m.spI m.spI_bound S
      have hb2 := sum_bound m.spI m.spI_bound (S ++ [i])
      have hbl := nodup_leN (l := S ++ [i]) (n := m.th.length) (List.nodup_append.2 ⟨inv.nod, by simp, fun a ha b hb => by
        simp only [List.mem_singleton] at hb
        subst hb
        rintro rfl
        exact hiS ha⟩) (fun a ha => by
        rcases List.mem_append.1 ha with ha | ha
        · exact inv.lt a ha
        · simp only [List.mem_singleton] at ha
          subst ha
          exact hil)
      have hnx' : SpI m W cl rI es (v ++ [b]) (S ++ [i]) W3 := ⟨ri3, F3', inv.r0, List.nodup_append.2 ⟨inv.nod, by simp, fun a ha b hb => by
        simp only [List.mem_singleton] at hb
        subst hb
        rintro rfl
        exact hiS ha⟩, fun a ha => by
        rcases List.mem_append.1 ha with ha | ha
        · exact inv.lt a ha
        · simp only [List.mem_singleton] at ha
          subst ha
          exact hil, fun j hj => by
        rw [List.mem_append, hseen, inv.sn j hj, List.mem_singleton]
        exact Or.comm⟩
      have hspi : m.spI i = m.spN x := by unfold Gm.spI; rw [hx]
      have hsum : ((S ++ [i]).map m.spI).sum = (S.map m.spI).sum + m.spN x := by
        rw [List.map_append, List.sum_append]
        simp [hspi]
      have hlen := HLEN.out
      have hwr : IntKind.i64.wrap ((S.map m.spI).sum + m.spN x) = (S.map m.spI).sum + m.spN x := IntWalk.i64_in _ (by
        rw [hsum] at hb2
        simp only [List.length_append, List.length_cons, List.length_nil] at hb2 hbl
        omega)
      obtain ⟨a, ha⟩ := HAB.out x hxm
      have hspn : m.spN x = if x.2.2.kind = 14 then -1 else 2 ^ pcN a - 1 := by unfold Gm.spN; rw [Gm.abl_eq ha]
      have hA := Able_w hok3 ha
      have HA := hide hA
      have hal := ha.lt
      have HNX := hide hnx'
      have HSUM := hide hsum
      have HSH := hide hsh
      have HRI3 := hide ri3
      generalize (S.map m.spI).sum = acc at *
      clear inv hx hns hseen F3 F3' ri3 hsh hxm hrg HINV hok3 hiS hb1 hb2 hbl hspi hsum hlen hnx' hil ha hA
      try simp only at hnx hent
      by_cases h14 : x.2.2.kind = 14
      · rw [h14] at d0
        rw [if_pos h14] at hspn
        rw [hspn] at hwr HSUM
        have hwr' : IntKind.i64.wrap (acc - 1) = acc - 1 := by
          rw [show acc - 1 = acc + -1 by omega]
          exact hwr
        clear h14 hspn hwr
        go_wp2_with fail
        go_roundw
        case rel => exact ⟨v ++ [b], S ++ [i], by rw [HSUM.out]; congr 1, HNX.out⟩
        case measure => exact HSH.out
      · rw [if_neg h14] at hspn
        rw [hspn] at hwr HSUM
        have h14' : (x.2.2.kind == 14) = false := by simpa using h14
        have HO := hide fun W' => ones_w a hal W'
        have hpc := pcN_le a
        generalize pcN a = p at *
        generalize x.2.2.kind = kd at *
        clear h14 hspn
        go_wp2_with fail
        refine HA.out.mono ?_
        rintro e w4 ⟨rfl, f4⟩
        have hnx4 : SpI m W cl rI es (v ++ [b]) (S ++ [i]) w4 := ⟨HRI3.out.fr f4 (fun h => h) (fun h => h), HNX.out.fr.trans f4, HNX.out.r0, HNX.out.nod, HNX.out.lt, HNX.out.sn⟩
        have hsn4 : w4.iterSeen rI = W3.iterSeen rI := by rw [iterSeen_of hnx4.ri.it, iterSeen_of HRI3.out.it]
        have HNX4 := hide hnx4
        have HSN4 := hide hsn4
        clear hnx4 hsn4 f4
        go_wp2_with fail
        refine (HO.out w4).mono ?_
        rintro e w' ⟨rfl, rfl⟩
        have : p = 0 ∨ p = 1 ∨ p = 2 ∨ p = 3 ∨ p = 4 ∨ p = 5 ∨ p = 6 := by omega
        clear hpc
        rcases this with rfl | rfl | rfl | rfl | rfl | rfl | rfl
        all_goals
          simp only [Int.reducePow, Int.reduceSub, Int.add_zero] at hwr HSUM
          go_wp2
          go_roundw
          case rel => exact ⟨v ++ [b], S ++ [i], by rw [HSUM.out], HNX4.out⟩
          case measure =>
            rw [HSN4.out]
            exact HSH.out

end Go.Proofs.Ytnddfiohofnbaaa

/- Worlds of whatever things, as plain data: what is alike of two worlds with the same content. No program in sight. -/
namespace Go.Proofs.Ytnddfiohofnbaaa
open Go.RowKit

/-- A thing as plain data. -/
structure TgV where
  kind : Int
  home : Int
  v : V
  vs : List V
  n : Int
  lost : Int
  ofr : Int
  byr : Int
  set : Int
  full : Bool
  code : List G
  names : List (ByteArray × V)

def Tg.pl (x : Tg) : TgV := ⟨x.kind, x.home, x.v.v, x.vs.map T.v, x.n, x.lost, x.ofr, x.byr, x.set, x.full, x.code.map G.er, x.names.map fun z => (z.1, z.2.v)⟩

def plE (x : Int × Nat × Tg) : Int × TgV := (x.1, x.2.2.pl)

def Gm.pl (m : Gm) : List (Int × TgV) := m.th.map plE

/-- The things of which a world is to be made. -/
def Gm.ofT (ths : List (Int × Tg)) : Gm := ⟨0, 0, 0, none, 0, [], none, 0, [], none, 0, [], 0, ths.map fun x => (x.1, 0, x.2), []⟩

theorem Tg.pl_held {x y : Tg} (h : x.pl = y.pl) : x.held = y.held := by
  have h1 := congrArg TgV.v h
  have h2 := congrArg TgV.vs h
  have h3 := congrArg TgV.names h
  simp only [Tg.pl] at h1 h2 h3
  have h4 := congrArg (List.map fun z : ByteArray × V => z.2) h3
  simp only [List.map_map] at h4
  unfold Tg.held
  rw [h1, h2]
  congr 1

section
variable {m1 m2 : Gm} {r : Int}

theorem Gm.get_pl (m : Gm) (r : Int) : (m.get r).map (fun x => x.2.pl) = (m.pl.find? fun x => x.1 == r).map Prod.snd := by
  unfold Gm.get Gm.pl
  rw [List.find?_map]
  simp only [Option.map_map]
  rfl

theorem Gm.sim (h : m1.pl = m2.pl) (r : Int) : (m1.get r = none ∧ m2.get r = none) ∨ ∃ x y, m1.get r = some x ∧ m2.get r = some y ∧ x.2.pl = y.2.pl := by
  have h1 := m1.get_pl r
  have h2 := m2.get_pl r
  rw [h] at h1
  rw [← h2] at h1
  cases ha : m1.get r with
  | none =>
    rw [ha] at h1
    cases hb : m2.get r with
    | none => exact .inl ⟨rfl, rfl⟩
    | some y => rw [hb] at h1; cases h1
  | some x =>
    rw [ha] at h1
    cases hb : m2.get r with
    | none => rw [hb] at h1; cases h1
    | some y =>
      rw [hb] at h1
      simp only [Option.map_some, Option.some.injEq] at h1
      exact .inr ⟨x, y, rfl, rfl, h1⟩

theorem Gm.sim_mem (h : m1.pl = m2.pl) {x : Int × Nat × Tg} (hx : x ∈ m1.th) : ∃ y ∈ m2.th, y.1 = x.1 ∧ y.2.2.pl = x.2.2.pl := by
  have : plE x ∈ m1.pl := List.mem_map.2 ⟨x, hx, rfl⟩
  rw [h] at this
  obtain ⟨y, hy, e⟩ := List.mem_map.1 this
  unfold plE at e
  injection e with e1 e2
  exact ⟨y, hy, e1, e2⟩

theorem Gm.sim_is (h : m1.pl = m2.pl) (r : Int) : (m1.get r).isSome = (m2.get r).isSome := by
  rcases Gm.sim h r with ⟨a, b⟩ | ⟨x, y, a, b, -⟩ <;> rw [a, b] <;> rfl

theorem Gm.sim_kind (h : m1.pl = m2.pl) (r : Int) : m1.kind r = m2.kind r := by
  unfold Gm.kind
  rcases Gm.sim h r with ⟨a, b⟩ | ⟨x, y, a, b, e⟩ <;> rw [a, b]
  exact congrArg TgV.kind e

theorem Gm.Hgt.sim {n : Nat} (hh : m1.Hgt r n) (h : m1.pl = m2.pl) : m2.Hgt r n := by
  induction hh with
  | base hg hk =>
    rcases Gm.sim h _ with ⟨a, b⟩ | ⟨x, y, a, b, e⟩
    · rw [hg] at a; cases a
    · rw [hg] at a; cases a
      have := congrArg TgV.kind e
      simp only [Tg.pl] at this
      exact .base b (by rw [← this]; exact hk)
  | wrap hg hk _ ih =>
    rcases Gm.sim h _ with ⟨a, b⟩ | ⟨x, y, a, b, e⟩
    · rw [hg] at a; cases a
    · rw [hg] at a; cases a
      have e1 := congrArg TgV.kind e
      have e2 := congrArg TgV.ofr e
      simp only [Tg.pl] at e1 e2
      exact .wrap b (by rw [← e1]; exact hk) (by rw [← e2]; exact ih)

theorem Gm.Abl.sim {n : Nat} (hh : m1.Abl r n) (h : m1.pl = m2.pl) : m2.Abl r n := by
  induction hh with
  | base hg hk =>
    rcases Gm.sim h _ with ⟨a, b⟩ | ⟨x, y, a, b, e⟩
    · rw [hg] at a; cases a
    · rw [hg] at a; cases a
      have := congrArg TgV.kind e
      simp only [Tg.pl] at this
      rw [this]
      exact .base b (by rw [← this]; exact hk)
  | facet hg hk hs _ ih =>
    rcases Gm.sim h _ with ⟨a, b⟩ | ⟨x, y, a, b, e⟩
    · rw [hg] at a; cases a
    · rw [hg] at a; cases a
      have e1 := congrArg TgV.kind e
      have e2 := congrArg TgV.ofr e
      have e3 := congrArg TgV.set e
      simp only [Tg.pl] at e1 e2 e3
      exact .facet b (by rw [← e1]; exact hk) (by rw [← e3]; exact hs) (by rw [← e2]; exact ih)
  | pass hg hk _ ih =>
    rcases Gm.sim h _ with ⟨a, b⟩ | ⟨x, y, a, b, e⟩
    · rw [hg] at a; cases a
    · rw [hg] at a; cases a
      have e1 := congrArg TgV.kind e
      have e2 := congrArg TgV.ofr e
      simp only [Tg.pl] at e1 e2
      exact .pass b (by rw [← e1]; exact hk) (by rw [← e2]; exact ih)

theorem Gm.sim_abl (h : m1.pl = m2.pl) (r : Int) : m1.abl r = m2.abl r := by
  unfold Gm.abl
  congr 1
  funext a
  exact propext ⟨fun hh => hh.sim h, fun hh => hh.sim h.symm⟩

theorem Gm.sim_hk (h : m1.pl = m2.pl) (r k o : Int) : m1.hkB r k o = m2.hkB r k o := by
  unfold Gm.hkB
  rcases Gm.sim h r with ⟨a, b⟩ | ⟨x, y, a, b, e⟩ <;> rw [a, b]
  have e1 := congrArg TgV.kind e
  have e2 := congrArg TgV.home e
  simp only [Tg.pl] at e1 e2
  simp only [e1, e2]

theorem Gm.sim_oth (h : m1.pl = m2.pl) (r k o : Int) : m1.othB r k o = m2.othB r k o := by
  have : ∀ m : Gm, m.othB r k o = m.pl.any fun x => x.1 != r && (x.2.kind == k && x.2.ofr == o) := fun m => by
    unfold Gm.othB Gm.pl
    rw [List.any_map]
    rfl
  rw [this, this, h]

theorem Gm.sim_are (h : m1.pl = m2.pl) (L : List Int) : m1.are L = m2.are L := by
  unfold Gm.are
  congr 1
  funext r
  exact Gm.sim_is h r

theorem Gm.sim_bad (h : m1.pl = m2.pl) {x y : Tg} (e : x.pl = y.pl) : m1.badB x = m2.badB y := by
  have e1 := congrArg TgV.kind e
  have e2 := congrArg TgV.ofr e
  have e3 := congrArg TgV.byr e
  simp only [Tg.pl] at e1 e2 e3
  unfold Gm.badB
  rw [Tg.pl_held e, e1, e2, e3, Gm.sim_are h, Gm.sim_is h, Gm.sim_is h]

theorem Gm.sim_fit (h : m1.pl = m2.pl) {x y : Tg} (e : x.pl = y.pl) (r : Int) (a : Nat) : m1.fitS r x a = m2.fitS r y a := by
  have e1 := congrArg TgV.kind e
  have e2 := congrArg TgV.ofr e
  have e3 := congrArg TgV.byr e
  have e4 := congrArg TgV.home e
  have e5 := congrArg TgV.set e
  simp only [Tg.pl] at e1 e2 e3 e4 e5
  have h1 : m1.byIs y.ofr r = m2.byIs y.ofr r := by
    unfold Gm.byIs
    rcases Gm.sim h y.ofr with ⟨a, b⟩ | ⟨z, z', a, b, e⟩ <;> rw [a, b]
    have := congrArg TgV.byr e
    simp only [Tg.pl] at this
    simp only [this]
  have h2 : m1.ofIs y.byr r = m2.ofIs y.byr r := by
    unfold Gm.ofIs
    rcases Gm.sim h y.byr with ⟨a, b⟩ | ⟨z, z', a, b, e⟩ <;> rw [a, b]
    have := congrArg TgV.ofr e
    simp only [Tg.pl] at this
    simp only [this]
  unfold Gm.fitS Gm.fitB
  rw [e1, e2, e3, e4, e5, Gm.sim_is h, Gm.sim_kind h, Gm.sim_hk h, Gm.sim_hk h, Gm.sim_hk h, Gm.sim_hk h, Gm.sim_hk h, Gm.sim_oth h, Gm.sim_oth h, h1, h2]
  by_cases h14 : y.kind = 14
  · simp only [if_pos h14]
  · simp only [if_neg h14]

theorem Gm.Snd.sim (hs : m1.Snd) (h : m1.pl = m2.pl) : m2.Snd := by
  refine ⟨fun y hy => ?_, fun y hy => ?_, fun y hy z hz k1 k2 ho hst => ?_, fun y hy => ?_⟩
  · obtain ⟨x, hx, -, e⟩ := Gm.sim_mem h.symm hy
    rw [← Gm.sim_bad h e]
    exact hs.bad x hx
  · obtain ⟨x, hx, e1, e⟩ := Gm.sim_mem h.symm hy
    obtain ⟨n, hn⟩ := hs.hgt x hx
    rw [e1] at hn
    exact ⟨n, hn.sim h⟩
  · obtain ⟨x, hx, e1, e⟩ := Gm.sim_mem h.symm hy
    obtain ⟨w, hw, f1, f⟩ := Gm.sim_mem h.symm hz
    have a1 := congrArg TgV.kind e
    have a2 := congrArg TgV.ofr e
    have a3 := congrArg TgV.set e
    have b1 := congrArg TgV.kind f
    have b2 := congrArg TgV.ofr f
    have b3 := congrArg TgV.set f
    simp only [Tg.pl] at a1 a2 a3 b1 b2 b3
    have := hs.one x hx w hw (a1.trans k1) (b1.trans k2) (by rw [a2, b2, ho]) (by rw [a3, b3, hst])
    rw [← e1, ← f1, this]
  · obtain ⟨x, hx, e1, e⟩ := Gm.sim_mem h.symm hy
    have a2 := congrArg TgV.ofr e
    simp only [Tg.pl] at a2
    have := hs.fit x hx
    rw [Gm.sim_fit h e, Gm.sim_abl h, a2, e1] at this
    exact this

theorem Gm.sim_spare (h : m1.pl = m2.pl) : m1.spare = m2.spare := by
  have : ∀ m : Gm, m.spare = (m.pl.map fun x => if x.2.kind = 14 then (-1 : Int) else 2 ^ pcN (m.abl x.1) - 1).sum := fun m => by
    unfold Gm.spare Gm.pl
    rw [List.map_map]
    rfl
  rw [this, this, h]
  congr 1
  refine List.map_congr_left fun x _ => ?_
  rw [Gm.sim_abl h]
end

end Go.Proofs.Ytnddfiohofnbaaa

/- Texts joined: Fmz, Hf7, H0. -/
import Derived.Test.YtlejelbefmkakaaGreatJn26
import Derived.Test.YtlejelbefmkakaaGreatJn38
import Derived.Test.YtlejelbefmkakaaGreatJn39
import Derived.Test.YtlejelbefmkakaaGreatJn40
import Derived.Test.YtlejelbefmkakaaGreatRows
import Derived.ProofKit
import Derived.OpenShut
import Derived.ChangeOld
namespace Go.Proofs.YtlejelbefmkakaaGreat
open Go.RowKit
theorem sameEqP : SameEqP := fun hx hh hy hh' hpl => Same_eq hx hh hy hh' hpl
theorem facetMany_all (PA : Option Addr) (pc : Nat) (ps : List Int) (CA : Option Addr) (cc : Nat) (cuts : List Int) (TA : Option Addr) (tc : Nat) (ths : List (Int × Tg)) (last : Int) (MA : Option Addr) (mc : Nat) (made : List Int) (r : Int) (W : World)
 (hp : Ints W 0 W.heap.size PA pc ps) (hc : Ints W 0 W.heap.size CA cc cuts) (ht : EnRow W 0 W.heap.size TA tc ths) (hm : Ints W 0 W.heap.size MA mc made) (hla : -9223372036854775808 ≤ last ∧ last ≤ 9223372036854775807) :
 Calls Tryz.prog 15 #[.agg #[.slice PA ps.length pc, .slice CA cuts.length cc, .slice TA ths.length tc, .int .i64 last, .slice MA made.length mc], .int .i64 r] W fun e w' => e = .returned (.bool true) ∧ Fr No W w' :=
 facetMany_any (hide sortRefs) (hide sortFn) (hide sameEqP) PA pc ps CA cc cuts TA tc ths last MA mc made r W hp hc ht hm hla
end Go.Proofs.YtlejelbefmkakaaGreat

namespace Go.Proofs.YtlejelbefmkakaaGreat
open Go.Joins Go.ChangeShapes Go.WideShapes Go.RowKit Go.Deep
theorem open_nums {t : TypeId} (hf : flat t = [.int .i64]) {l : List G} (h : ∀ x ∈ l, Ty t x) : ∃ ns : List Int, ns.length = l.length ∧ ∀ (A : Option Addr) (cap : Nat) (w : World) (lo hi : Nat), l.length * 8 ≤ 140737488351232 → l.length ≤ cap → (G.row A l).In w lo hi → Ints w lo hi A cap ns := by
 have hone : ∀ i, i < l.length → ∃ n : Int, ∃ x, l[i]? = some x ∧ x = .mk [.int .i64 n] [] ∧ -9223372036854775808 ≤ n ∧ n ≤ 9223372036854775807 := fun i hi => by
  have hm := List.getElem_mem hi
  obtain ⟨n, h1, h2⟩ := ty_num hf (h _ hm)
  exact ⟨n, l[i], List.getElem?_eq_getElem hi, h1, wf_i64 h2⟩
 obtain ⟨ns, hns, hq⟩ := choose_list l.length hone
 refine ⟨ns, hns, fun A cap w lo hi hl hc hin => ?_⟩
 obtain ⟨h1, h2⟩ := G.row_in.1 hin
 refine ⟨by rw [hns]; exact hl, by rw [hns]; exact hc, fun hne => ?_, fun x hx => ?_⟩
 · obtain ⟨b, o, rfl, hb0, hb1, hcc⟩ := h1 (by rintro rfl; simp at hns; exact hne hns)
   refine ⟨b, o, rfl, hb0, hb1, fun i x hx => ?_⟩
   obtain ⟨y, hy, e, -⟩ := hq i x hx
   have := hcc i y hy 0 (.int .i64 x) (by rw [e]; rfl)
   rw [e] at this
   simpa [G.c] using this
 · obtain ⟨i, hi', rfl⟩ := List.mem_iff_getElem.1 hx
   obtain ⟨y, hy, -, h3⟩ := hq i _ (List.getElem?_eq_getElem hi')
   exact h3
theorem open_entries {l : List G} (h : ∀ x ∈ l, Ty 140 x) : ∃ ths : List (Int × Tg), ths.length = l.length ∧ ∀ (A : Option Addr) (cap : Nat) (w : World) (lo hi : Nat), l.length * 200 ≤ 140737488351232 → l.length ≤ cap → (G.row A l).In w lo hi → EnRow w lo hi A cap ths := by
 have hone : ∀ i, i < l.length → ∃ z : Int × Tg, ∃ x, l[i]? = some x ∧ x.c = .int .i64 z.1 :: z.2.cells ∧ (-9223372036854775808 ≤ z.1 ∧ z.1 ≤ 9223372036854775807) ∧ ∀ (w : World) (lo hi : Nat), x.In w lo hi → z.2.In w lo hi := fun i hi => by
  have hm := List.getElem_mem hi
  obtain ⟨r, x, h1, h2, h3, h4⟩ := ty_entry (h _ hm)
  exact ⟨(r, x), l[i], List.getElem?_eq_getElem hi, h1, ⟨h2, h3⟩, h4⟩
 obtain ⟨ts, hts, hq⟩ := choose_list l.length hone
 refine ⟨ts, hts, fun A cap w lo hi hl hc hin => ?_⟩
 obtain ⟨h1, h2⟩ := G.row_in.1 hin
 refine ⟨by rw [hts]; exact hc, by rw [hts]; exact hl, fun hne => ?_, fun x hx => ?_⟩
 · obtain ⟨b, o, rfl, hb0, hb1, hcc⟩ := h1 (by rintro rfl; simp at hts; exact hne hts)
   refine ⟨b, o, rfl, hb0, hb1, fun i x hx j u hu => ?_⟩
   obtain ⟨y, hy, e, -, -⟩ := hq i x hx
   have := hcc i y hy j u (by rw [e]; exact hu)
   rw [e] at this
   have hlen : (Value.int .i64 x.1 :: x.2.cells).length = 17 := by
    obtain ⟨kind, home, ⟨k, n, s, A, cap, l, r⟩, VA, vc, vs, n1, lost, ofr, byr, set, full, CA, cc, code, NA, nc, names⟩ := x.2
    rfl
   rwa [hlen] at this
 · obtain ⟨i, hi', rfl⟩ := List.mem_iff_getElem.1 hx
   obtain ⟨y, hy, -, h3, h4⟩ := hq i _ (List.getElem?_eq_getElem hi')
   exact ⟨h3, h4 w lo hi (h2 y (List.mem_of_getElem? hy))⟩
section
variable {H : Type} {enc : TypeId × Value → H}
def WorldIn (W : World) (v : Value) (PA : Option Addr) (pc : Nat) (ps : List Int) (CA : Option Addr) (cc : Nat) (cuts : List Int) (TA : Option Addr) (tc : Nat) (ths : List (Int × Tg)) (last : Int) (MA : Option Addr) (mc : Nat) (made : List Int) : Prop :=
 v = .agg #[.slice PA ps.length pc, .slice CA cuts.length cc, .slice TA ths.length tc, .int .i64 last, .slice MA made.length mc] ∧
 Ints W 0 W.heap.size PA pc ps ∧ Ints W 0 W.heap.size CA cc cuts ∧ EnRow W 0 W.heap.size TA tc ths ∧ Ints W 0 W.heap.size MA mc made ∧ -9223372036854775808 ≤ last ∧ last ≤ 9223372036854775807
set_option maxRecDepth 100000 in
theorem open_world {W : World} {b0 : Nat} {v : Value} {d : DataW H} {p : List MemPlace} (hv : Value.okWide Tryz.prog W .any b0 71 v) (h : DataW.Trod enc Tryz.prog W 0 (fun _ => true) true 71 v d p) (hw : ∀ m ∈ d.weights Tryz.prog 71, m ≤ reachBytes) :
 ∃ PA pc ps CA cc cuts TA tc ths last MA mc made, WorldIn W v PA pc ps CA cc cuts TA tc ths last MA mc made := by
 obtain ⟨cs, rfl, hsz⟩ := okWide_struct Tryz.underlying71 hv
 obtain ⟨fuel, hf⟩ := h
 have ho := open_flat (S := Met) met_flat met_closed met_cells fuel 6 71 (flat 71) (by
  rw [flat_world]
  intro e he
  simp [sls] at he
  rcases he with rfl | rfl | rfl | rfl <;> simp [Met]) flat_world_of _ _ hf hw
 obtain ⟨g, hg, hty, hin⟩ := Opn.tree ho
 obtain ⟨cs⟩ := cs
 have hg' : cs = g.c := hg
 obtain ⟨c, s⟩ := g
 have h0 := Ty.fits hty
 rw [flat_world] at h0
 obtain ⟨PA, pl, pc, c, s, rfl, rfl, w1, w2, h0⟩ := h0.inv_sl
 obtain ⟨CA, cl, cc, c, s, rfl, rfl, w3, w4, h0⟩ := h0.inv_sl
 obtain ⟨TA, tl, tc, c, s, rfl, rfl, w5, w6, h0⟩ := h0.inv_sl
 obtain ⟨last, c, rfl, w7, h0⟩ := h0.inv_int
 obtain ⟨MA, ml, mc, c, s, rfl, rfl, w8, w9, h0⟩ := h0.inv_sl
 obtain ⟨rfl, rfl⟩ := h0.inv_nil
 have hs : sls (flat 71) = [23, 3, 140, 3] := by rw [flat_world]; rfl
 have k0 := Ty.kids hty 0 _ (by rw [hs]; rfl) rfl
 have k1 := Ty.kids hty 1 _ (by rw [hs]; rfl) rfl
 have k2 := Ty.kids hty 2 _ (by rw [hs]; rfl) rfl
 have k3 := Ty.kids hty 3 _ (by rw [hs]; rfl) rfl
 obtain ⟨ps, hps, ip⟩ := open_nums flat_side k0
 obtain ⟨cuts, hcs, ic⟩ := open_nums flat_int k1
 obtain ⟨ths, hts, it⟩ := open_entries k2
 obtain ⟨made, hms, im⟩ := open_nums flat_int k3
 have hr := G.in_rows.1 hin
 refine ⟨PA, pc, ps, CA, cc, cuts, TA, tc, ths, last, MA, mc, made, ?_, ip PA pc W _ _ w2 w1 (hr _ _ (by simp)), ic CA cc W _ _ w4 w3 (hr _ _ (by simp)), it TA tc W _ _ w6 w5 (hr _ _ (by simp)), im MA mc W _ _ w9 w8 (hr _ _ (by simp)), wf_i64 w7⟩
 rw [hg', hps, hcs, hts, hms]
 rfl
end
end Go.Proofs.YtlejelbefmkakaaGreat

namespace Go.Proofs.YtlejelbefmkakaaGreat
theorem knob0 : ownKnob Tryz.prog.godebug = none := by kernel_rfl
theorem laidOut0 : laidOutB Tryz.prog = true := by kernel_rfl
end Go.Proofs.YtlejelbefmkakaaGreat

/- FMany -/
import Derived.Test.YtlejelbefmkakaaGreatJn41
import Derived.Test.YtlejelbefmkakaaGreatSm1
import Derived.Test.YtlejelbefmkakaaGreatSm2
import Derived.Test.YtlejelbefmkakaaGreatRows
import Derived.ProofKit
import Derived.OpenShut
import Derived.ShutString
import Derived.ChangeOld
import Derived.Below
namespace Go.Proofs.YtlejelbefmkakaaGreat
open Go.ChangeShapes Go.WideShapes Go.ChangeAt Go.RowKit
set_option maxRecDepth 100000 in
theorem facetMany_lifted (os : Os) (started : os.Started) (H : Type) (enc : TypeId × Value → H) :
 ReturnsInHanded {} Tryz.checked os 15 .any (Rows.facetManySpec.pre6 enc Tryz.prog Tryz.f15 Rows.facetManyRow.domain false) (Rows.facetManySpec.post enc Tryz.prog Tryz.f15 false true false false) := by
 refine returnsInHanded_of_change_sized (C := Tryz.checked) knob0 started (by kernel_rfl) Tryz.func15
  (ChangeSpec.witness6 (enc := enc) (C := Tryz.checked) false ⟨#[], #[.agg #[.slice none 0 0, .slice none 0 0, .slice none 0 0, .int .i64 0, .slice none 0 0], .int .i64 0], []⟩ 8 (by kernel_rfl) (by kernel_rfl) (by kernel_rfl) (by kernel_rfl)) ?_
 intro W base args ds gs before hval0 hW hcnd hsz _
 have hval : ∀ (j : Nat) t v, Tryz.f15.params[j]? = some t → args[j]? = some v → Value.okWide Tryz.prog W .any base t v := hval0
 have hW' := hW
 obtain ⟨p, q, hA0, hV, rfl, hfz, hnd⟩ := hW
 have hA : DataW.TrodAll enc Tryz.prog W 0 (fun _ => true) true Tryz.f15.params.toList args.toList ds p := hA0
 have hsz0 : (DataW.weightsEach Tryz.prog (Tryz.f15.params.toList ++ Rows.facetManySpec.plain.varTypes Tryz.prog) (ds ++ gs)).all (· ≤ reachBytes) = true := hsz
 rw [Tryz.params15] at hA hval hsz0
 obtain ⟨v0, vs0, d0, ds0, p0, q0, hargs, rfl, rfl, h0, r0⟩ := trodAll_cons hA
 obtain ⟨v1, vs1, d1, ds1, p1, q1, rfl, rfl, rfl, h1, r1⟩ := trodAll_cons r0
 obtain ⟨rfl, rfl, rfl⟩ := trodAll_nil r1
 obtain rfl : args = #[v0, v1] := by cases args; simp_all
 obtain ⟨rfl, rfl⟩ := trodVars_none hV
 have k0 := h0
 have lt0 : ∀ x ∈ p0, x.block < W.heap.size := by obtain ⟨m, hm⟩ := k0; exact DataW.trod_lt m _ _ _ hm
 have z0 : ∀ m ∈ d0.weights Tryz.prog 71, m ≤ reachBytes := fun m hm => by simpa using List.all_eq_true.1 hsz0 m (DataW.weights_mem_each (j := 0) rfl rfl m hm)
 obtain ⟨PA0, pc0, ps0, CA0, cc0, cuts0, TA0, tc0, ths0, last0, MA0, mc0, made0, rfl, ip0, ic0, it0, im0, il0⟩ := open_world (hval 0 71 v0 rfl rfl) h0 z0
 obtain ⟨a1, rfl, rfl, rfl, w1⟩ := open_int Tryz.underlying22 (hval 1 22 v1 rfl rfl) h1
 clear hA0 hval0
 refine (facetMany_all PA0 pc0 ps0 CA0 cc0 cuts0 TA0 tc0 ths0 last0 MA0 mc0 made0 a1 W ip0 ic0 it0 im0 il0 ).mono fun e W' ⟨he, fr⟩ => ?_
 have bel := fr.noBelow
 subst he
 exact ⟨_, rfl, _, _, _, [], _, [], hW', trodAll_mk1 (shut_bool Tryz.underlying4 _), (trodAll_cons_mk (Below.trod laidOut0 (by kernel_rfl) (of_decide_eq_true (by kernel_rfl)) k0 bel lt0) (trodAll_cons_mk (shut_int Tryz.underlying22 w1) trodAll_mk0)), rfl, bel.frame _, fun h => by cases h⟩
theorem facetMany_over : Rows.facetManyRow.holds Tryz.pinned (OpenSpec.ofChange Rows.facetManySpec) :=
 OpenClaim.holds_of_wide 15 Tryz.f15 rfl rfl rfl rfl rfl rfl rfl ⟨rfl, rfl, rfl, rfl, rfl⟩ rfl rfl rfl rfl rfl fm_fn Tryz.func15 fm_closed fm_inst fm_wrap
  (fun os started H enc _ => facetMany_lifted os started H enc)
theorem facetMany_proved : Rows.FacetManySaid := facetMany_over
#print axioms facetMany_proved
end Go.Proofs.YtlejelbefmkakaaGreat

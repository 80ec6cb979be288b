/-
  NARROWER THAN 'FOR EVERY INPUT', by the rows' own cells (each row's printed sentence says how): SealNone: loops · GateNone: loops · GatePlays: loops · SealCloses: loops · SealPlays: loops · SealUnlocked: loops · GateWithin: loops · GateStops: loops · GateShuts: loops · GateFewest: loops · GateAsks: loops · FacetNil: loops · FacetMany: loops.
  DERIVED. THE GIVEN ROWS OF THIS SEAT. 13 by the template 'for every input the law returns true; each argument reads behind the call as it read before'; 0 by the template 'total and deterministic' (their statements: YtlejelbefmkakaaGreatTotals.lean).
  GIVEN WITH THE SEED: the statements are not yours to turn. If you find one false, say at which input.
  Laid BY PROGRAM, IN A SANDBOX (cutbox-rows.mjs): the forced cells as the released guide's own fill.sh prints them over the translation b10420be19bfaf86… (all of the seat's roots in one cut). By AI agents, Wed Nov 11 2026. No macro, syntax, notation, axiom, sorry.
-/
import Derived.Test.YtlejelbefmkakaaGreatChecked
import GoSem.Claim
import GoSem.ClaimJoined
import GoSem.ClaimMapViews
import Derived.JoinedTies
import Derived.KernelRfl
namespace Go.Proofs.YtlejelbefmkakaaGreat
/- THE CELL 'sum', in the pinned program and in every row, IS THE sha256 OF THE DUMP (.gsa) THAT YtlejelbefmkakaaGreatProg.lean LOADS. Nothing in Lean hashes anything: it is a label: what it is worth is what the hold of that sum in a sandbox is worth. -/
noncomputable def Tryz.pinned : Pinned := { name := "ytlejelbefmkakaagreat", sum := "b10420be19bfaf8673b1fe0f6410960a24a24926500a571a9341a09649045612", checked := Tryz.checked }
namespace Rows
def none {H : Type} : Left H := { results := [], args := [] }

/-- 'posternlaw09.SealNone': WHATEVER THE INPUT: true; the input reads as it did. -/
def sealNoneSpec : ChangeSpec := { name := "sealNone", fn := fun _ => fun
  | [d1, d2, d3, d4, d5] => { results := [.lit (.bool true)], args := [d1, d2, d3, d4, d5] }
  | _ => none }
def sealNoneRow : OpenClaim := { program := "ytlejelbefmkakaagreat", sum := "b10420be19bfaf8673b1fe0f6410960a24a24926500a571a9341a09649045612", func := "postern/posternlaw09.SealNone", spec := "sealNone", unfollowed := true, recurses := true, loops := true, plainKeys := false, apart := false }
def SealNoneSaid : Prop := sealNoneRow.holds Tryz.pinned (OpenSpec.ofChange sealNoneSpec)

/-- ITS FALSE NEIGHBOUR: 'it returns false'. Refute it at one input. -/
def sealNoneWrong : ChangeSpec := { name := "sealNone", fn := fun _ => fun
  | [d1, d2, d3, d4, d5] => { results := [.lit (.bool false)], args := [d1, d2, d3, d4, d5] }
  | _ => none }
def SealNoneWrongFalsely : Prop := sealNoneRow.holds Tryz.pinned (OpenSpec.ofChange sealNoneWrong)

/-- 'posternlaw12.GateNone': WHATEVER THE INPUT: true; the input reads as it did. -/
def gateNoneSpec : ChangeSpec := { name := "gateNone", fn := fun _ => fun
  | [d1, d2, d3, d4, d5] => { results := [.lit (.bool true)], args := [d1, d2, d3, d4, d5] }
  | _ => none }
def gateNoneRow : OpenClaim := { program := "ytlejelbefmkakaagreat", sum := "b10420be19bfaf8673b1fe0f6410960a24a24926500a571a9341a09649045612", func := "postern/posternlaw12.GateNone", spec := "gateNone", unfollowed := true, recurses := true, loops := true, plainKeys := false, apart := false }
def GateNoneSaid : Prop := gateNoneRow.holds Tryz.pinned (OpenSpec.ofChange gateNoneSpec)

/-- ITS FALSE NEIGHBOUR: 'it returns false'. Refute it at one input. -/
def gateNoneWrong : ChangeSpec := { name := "gateNone", fn := fun _ => fun
  | [d1, d2, d3, d4, d5] => { results := [.lit (.bool false)], args := [d1, d2, d3, d4, d5] }
  | _ => none }
def GateNoneWrongFalsely : Prop := gateNoneRow.holds Tryz.pinned (OpenSpec.ofChange gateNoneWrong)

/-- 'posternlaw12.GatePlays': WHATEVER THE INPUT: true; the input reads as it did. -/
def gatePlaysSpec : ChangeSpec := { name := "gatePlays", fn := fun _ => fun
  | [d1, d2] => { results := [.lit (.bool true)], args := [d1, d2] }
  | _ => none }
def gatePlaysRow : OpenClaim := { program := "ytlejelbefmkakaagreat", sum := "b10420be19bfaf8673b1fe0f6410960a24a24926500a571a9341a09649045612", func := "postern/posternlaw12.GatePlays", spec := "gatePlays", unfollowed := true, recurses := true, loops := true, plainKeys := false, apart := false }
def GatePlaysSaid : Prop := gatePlaysRow.holds Tryz.pinned (OpenSpec.ofChange gatePlaysSpec)

/-- ITS FALSE NEIGHBOUR: 'it returns false'. Refute it at one input. -/
def gatePlaysWrong : ChangeSpec := { name := "gatePlays", fn := fun _ => fun
  | [d1, d2] => { results := [.lit (.bool false)], args := [d1, d2] }
  | _ => none }
def GatePlaysWrongFalsely : Prop := gatePlaysRow.holds Tryz.pinned (OpenSpec.ofChange gatePlaysWrong)

/-- 'posternlaw09.SealCloses': WHATEVER THE INPUT: true; the input reads as it did. -/
def sealClosesSpec : ChangeSpec := { name := "sealCloses", fn := fun _ => fun
  | [d1, d2, d3] => { results := [.lit (.bool true)], args := [d1, d2, d3] }
  | _ => none }
def sealClosesRow : OpenClaim := { program := "ytlejelbefmkakaagreat", sum := "b10420be19bfaf8673b1fe0f6410960a24a24926500a571a9341a09649045612", func := "postern/posternlaw09.SealCloses", spec := "sealCloses", unfollowed := true, recurses := true, loops := true, plainKeys := false, apart := false }
def SealClosesSaid : Prop := sealClosesRow.holds Tryz.pinned (OpenSpec.ofChange sealClosesSpec)

/-- ITS FALSE NEIGHBOUR: 'it returns false'. Refute it at one input. -/
def sealClosesWrong : ChangeSpec := { name := "sealCloses", fn := fun _ => fun
  | [d1, d2, d3] => { results := [.lit (.bool false)], args := [d1, d2, d3] }
  | _ => none }
def SealClosesWrongFalsely : Prop := sealClosesRow.holds Tryz.pinned (OpenSpec.ofChange sealClosesWrong)

/-- 'posternlaw09.SealPlays': WHATEVER THE INPUT: true; the input reads as it did. -/
def sealPlaysSpec : ChangeSpec := { name := "sealPlays", fn := fun _ => fun
  | [d1, d2] => { results := [.lit (.bool true)], args := [d1, d2] }
  | _ => none }
def sealPlaysRow : OpenClaim := { program := "ytlejelbefmkakaagreat", sum := "b10420be19bfaf8673b1fe0f6410960a24a24926500a571a9341a09649045612", func := "postern/posternlaw09.SealPlays", spec := "sealPlays", unfollowed := true, recurses := true, loops := true, plainKeys := false, apart := false }
def SealPlaysSaid : Prop := sealPlaysRow.holds Tryz.pinned (OpenSpec.ofChange sealPlaysSpec)

/-- ITS FALSE NEIGHBOUR: 'it returns false'. Refute it at one input. -/
def sealPlaysWrong : ChangeSpec := { name := "sealPlays", fn := fun _ => fun
  | [d1, d2] => { results := [.lit (.bool false)], args := [d1, d2] }
  | _ => none }
def SealPlaysWrongFalsely : Prop := sealPlaysRow.holds Tryz.pinned (OpenSpec.ofChange sealPlaysWrong)

/-- 'posternlaw09.SealUnlocked': WHATEVER THE INPUT: true; the input reads as it did. -/
def sealUnlockedSpec : ChangeSpec := { name := "sealUnlocked", fn := fun _ => fun
  | [d1, d2] => { results := [.lit (.bool true)], args := [d1, d2] }
  | _ => none }
def sealUnlockedRow : OpenClaim := { program := "ytlejelbefmkakaagreat", sum := "b10420be19bfaf8673b1fe0f6410960a24a24926500a571a9341a09649045612", func := "postern/posternlaw09.SealUnlocked", spec := "sealUnlocked", unfollowed := true, recurses := true, loops := true, plainKeys := false, apart := false }
def SealUnlockedSaid : Prop := sealUnlockedRow.holds Tryz.pinned (OpenSpec.ofChange sealUnlockedSpec)

/-- ITS FALSE NEIGHBOUR: 'it returns false'. Refute it at one input. -/
def sealUnlockedWrong : ChangeSpec := { name := "sealUnlocked", fn := fun _ => fun
  | [d1, d2] => { results := [.lit (.bool false)], args := [d1, d2] }
  | _ => none }
def SealUnlockedWrongFalsely : Prop := sealUnlockedRow.holds Tryz.pinned (OpenSpec.ofChange sealUnlockedWrong)

/-- 'posternlaw12.GateWithin': WHATEVER THE INPUT: true; the input reads as it did. -/
def gateWithinSpec : ChangeSpec := { name := "gateWithin", fn := fun _ => fun
  | [d] => { results := [.lit (.bool true)], args := [d] }
  | _ => none }
def gateWithinRow : OpenClaim := { program := "ytlejelbefmkakaagreat", sum := "b10420be19bfaf8673b1fe0f6410960a24a24926500a571a9341a09649045612", func := "postern/posternlaw12.GateWithin", spec := "gateWithin", unfollowed := true, recurses := true, loops := true, plainKeys := false, apart := false }
def GateWithinSaid : Prop := gateWithinRow.holds Tryz.pinned (OpenSpec.ofChange gateWithinSpec)

/-- ITS FALSE NEIGHBOUR: 'it returns false'. Refute it at one input. -/
def gateWithinWrong : ChangeSpec := { name := "gateWithin", fn := fun _ => fun
  | [d] => { results := [.lit (.bool false)], args := [d] }
  | _ => none }
def GateWithinWrongFalsely : Prop := gateWithinRow.holds Tryz.pinned (OpenSpec.ofChange gateWithinWrong)

/-- 'posternlaw12.GateStops': WHATEVER THE INPUT: true; the input reads as it did. -/
def gateStopsSpec : ChangeSpec := { name := "gateStops", fn := fun _ => fun
  | [d1, d2, d3] => { results := [.lit (.bool true)], args := [d1, d2, d3] }
  | _ => none }
def gateStopsRow : OpenClaim := { program := "ytlejelbefmkakaagreat", sum := "b10420be19bfaf8673b1fe0f6410960a24a24926500a571a9341a09649045612", func := "postern/posternlaw12.GateStops", spec := "gateStops", unfollowed := true, recurses := true, loops := true, plainKeys := false, apart := false }
def GateStopsSaid : Prop := gateStopsRow.holds Tryz.pinned (OpenSpec.ofChange gateStopsSpec)

/-- ITS FALSE NEIGHBOUR: 'it returns false'. Refute it at one input. -/
def gateStopsWrong : ChangeSpec := { name := "gateStops", fn := fun _ => fun
  | [d1, d2, d3] => { results := [.lit (.bool false)], args := [d1, d2, d3] }
  | _ => none }
def GateStopsWrongFalsely : Prop := gateStopsRow.holds Tryz.pinned (OpenSpec.ofChange gateStopsWrong)

/-- 'posternlaw12.GateShuts': WHATEVER THE INPUT: true; the input reads as it did. -/
def gateShutsSpec : ChangeSpec := { name := "gateShuts", fn := fun _ => fun
  | [d1, d2, d3] => { results := [.lit (.bool true)], args := [d1, d2, d3] }
  | _ => none }
def gateShutsRow : OpenClaim := { program := "ytlejelbefmkakaagreat", sum := "b10420be19bfaf8673b1fe0f6410960a24a24926500a571a9341a09649045612", func := "postern/posternlaw12.GateShuts", spec := "gateShuts", unfollowed := true, recurses := true, loops := true, plainKeys := false, apart := false }
def GateShutsSaid : Prop := gateShutsRow.holds Tryz.pinned (OpenSpec.ofChange gateShutsSpec)

/-- ITS FALSE NEIGHBOUR: 'it returns false'. Refute it at one input. -/
def gateShutsWrong : ChangeSpec := { name := "gateShuts", fn := fun _ => fun
  | [d1, d2, d3] => { results := [.lit (.bool false)], args := [d1, d2, d3] }
  | _ => none }
def GateShutsWrongFalsely : Prop := gateShutsRow.holds Tryz.pinned (OpenSpec.ofChange gateShutsWrong)

/-- 'posternlaw12.GateFewest': WHATEVER THE INPUT: true; the input reads as it did. -/
def gateFewestSpec : ChangeSpec := { name := "gateFewest", fn := fun _ => fun
  | [d1, d2, d3] => { results := [.lit (.bool true)], args := [d1, d2, d3] }
  | _ => none }
def gateFewestRow : OpenClaim := { program := "ytlejelbefmkakaagreat", sum := "b10420be19bfaf8673b1fe0f6410960a24a24926500a571a9341a09649045612", func := "postern/posternlaw12.GateFewest", spec := "gateFewest", unfollowed := true, recurses := true, loops := true, plainKeys := false, apart := false }
def GateFewestSaid : Prop := gateFewestRow.holds Tryz.pinned (OpenSpec.ofChange gateFewestSpec)

/-- ITS FALSE NEIGHBOUR: 'it returns false'. Refute it at one input. -/
def gateFewestWrong : ChangeSpec := { name := "gateFewest", fn := fun _ => fun
  | [d1, d2, d3] => { results := [.lit (.bool false)], args := [d1, d2, d3] }
  | _ => none }
def GateFewestWrongFalsely : Prop := gateFewestRow.holds Tryz.pinned (OpenSpec.ofChange gateFewestWrong)

/-- 'posternlaw12.GateAsks': WHATEVER THE INPUT: true; the input reads as it did. -/
def gateAsksSpec : ChangeSpec := { name := "gateAsks", fn := fun _ => fun
  | [d1, d2, d3] => { results := [.lit (.bool true)], args := [d1, d2, d3] }
  | _ => none }
def gateAsksRow : OpenClaim := { program := "ytlejelbefmkakaagreat", sum := "b10420be19bfaf8673b1fe0f6410960a24a24926500a571a9341a09649045612", func := "postern/posternlaw12.GateAsks", spec := "gateAsks", unfollowed := true, recurses := true, loops := true, plainKeys := false, apart := false }
def GateAsksSaid : Prop := gateAsksRow.holds Tryz.pinned (OpenSpec.ofChange gateAsksSpec)

/-- ITS FALSE NEIGHBOUR: 'it returns false'. Refute it at one input. -/
def gateAsksWrong : ChangeSpec := { name := "gateAsks", fn := fun _ => fun
  | [d1, d2, d3] => { results := [.lit (.bool false)], args := [d1, d2, d3] }
  | _ => none }
def GateAsksWrongFalsely : Prop := gateAsksRow.holds Tryz.pinned (OpenSpec.ofChange gateAsksWrong)

/-- 'posternlaw11.FacetNil': WHATEVER THE INPUT: true; the input reads as it did. -/
def facetNilSpec : ChangeSpec := { name := "facetNil", fn := fun _ => fun
  | [d1, d2, d3, d4] => { results := [.lit (.bool true)], args := [d1, d2, d3, d4] }
  | _ => none }
def facetNilRow : OpenClaim := { program := "ytlejelbefmkakaagreat", sum := "b10420be19bfaf8673b1fe0f6410960a24a24926500a571a9341a09649045612", func := "postern/posternlaw11.FacetNil", spec := "facetNil", unfollowed := true, recurses := true, loops := true, plainKeys := false, apart := false }
def FacetNilSaid : Prop := facetNilRow.holds Tryz.pinned (OpenSpec.ofChange facetNilSpec)

/-- ITS FALSE NEIGHBOUR: 'it returns false'. Refute it at one input. -/
def facetNilWrong : ChangeSpec := { name := "facetNil", fn := fun _ => fun
  | [d1, d2, d3, d4] => { results := [.lit (.bool false)], args := [d1, d2, d3, d4] }
  | _ => none }
def FacetNilWrongFalsely : Prop := facetNilRow.holds Tryz.pinned (OpenSpec.ofChange facetNilWrong)

/-- 'posternlaw11.FacetMany': WHATEVER THE INPUT: true; the input reads as it did. -/
def facetManySpec : ChangeSpec := { name := "facetMany", fn := fun _ => fun
  | [d1, d2] => { results := [.lit (.bool true)], args := [d1, d2] }
  | _ => none }
def facetManyRow : OpenClaim := { program := "ytlejelbefmkakaagreat", sum := "b10420be19bfaf8673b1fe0f6410960a24a24926500a571a9341a09649045612", func := "postern/posternlaw11.FacetMany", spec := "facetMany", unfollowed := true, recurses := true, loops := true, plainKeys := false, apart := false }
def FacetManySaid : Prop := facetManyRow.holds Tryz.pinned (OpenSpec.ofChange facetManySpec)

/-- ITS FALSE NEIGHBOUR: 'it returns false'. Refute it at one input. -/
def facetManyWrong : ChangeSpec := { name := "facetMany", fn := fun _ => fun
  | [d1, d2] => { results := [.lit (.bool false)], args := [d1, d2] }
  | _ => none }
def FacetManyWrongFalsely : Prop := facetManyRow.holds Tryz.pinned (OpenSpec.ofChange facetManyWrong)

/- THE SECOND FORM. 'bulk': how many values and letters a reading holds, each counted each time it is reached (what is shared counts as often as it is met; a slice's spare places count too). A statement '..UptoSaid' is the law's where the arguments, and the package variables that the reading takes, are together of bulk at most 1048576: NARROWER than '..Said'. Prove '..Said' where nothing that the law and all that it calls make is longer than what came in: it says more and counts as full. Else prove '..UptoSaid'. A law counts once. -/
mutual
def uptoBulk {H : Type} : DataW H → Nat
  | .lit (.string bytes) => bytes.length + 1
  | .lit _ => 1
  | .nil => 1
  | .ptr d => uptoBulk d + 1
  | .slice elems spare => uptoBulkAll elems + uptoBulkAll spare + 1
  | .agg parts => uptoBulkAll parts + 1
  | .iface _ d => uptoBulk d + 1
  | .map entries => uptoBulkEntries entries + 1
  | .held _ => 1
def uptoBulkAll {H : Type} : List (DataW H) → Nat
  | [] => 0
  | d :: r => uptoBulk d + uptoBulkAll r
def uptoBulkEntries {H : Type} : List (Lit × DataW H) → Nat
  | [] => 0
  | x :: r => uptoBulkEntry x + uptoBulkEntries r
def uptoBulkEntry {H : Type} : Lit × DataW H → Nat
  | (.string bytes, d) => bytes.length + uptoBulk d + 1
  | (_, d) => uptoBulk d + 1
 end
def uptoSmall : (H : Type) → List (DataW H) → Bool := fun _ ds => decide (uptoBulkAll ds ≤ 1048576)
def OpenSpec.upto (s : _root_.Go.ChangeSpec) : _root_.Go.OpenSpec := { _root_.Go.OpenSpec.ofChange s with cond := some uptoSmall }

/-- 'posternlaw09.SealNone', WHERE WHAT IT READS IS OF BULK AT MOST 1048576: true; the input reads as it did. -/
def sealNoneUptoRow : OpenClaim := { program := "ytlejelbefmkakaagreat", sum := "b10420be19bfaf8673b1fe0f6410960a24a24926500a571a9341a09649045612", func := "postern/posternlaw09.SealNone", spec := "sealNone", unfollowed := true, recurses := true, loops := true, plainKeys := false, apart := false, narrowed := true }
def SealNoneUptoSaid : Prop := sealNoneUptoRow.holds Tryz.pinned (OpenSpec.upto sealNoneSpec)

/-- 'posternlaw12.GateNone', WHERE WHAT IT READS IS OF BULK AT MOST 1048576: true; the input reads as it did. -/
def gateNoneUptoRow : OpenClaim := { program := "ytlejelbefmkakaagreat", sum := "b10420be19bfaf8673b1fe0f6410960a24a24926500a571a9341a09649045612", func := "postern/posternlaw12.GateNone", spec := "gateNone", unfollowed := true, recurses := true, loops := true, plainKeys := false, apart := false, narrowed := true }
def GateNoneUptoSaid : Prop := gateNoneUptoRow.holds Tryz.pinned (OpenSpec.upto gateNoneSpec)

/-- 'posternlaw12.GatePlays', WHERE WHAT IT READS IS OF BULK AT MOST 1048576: true; the input reads as it did. -/
def gatePlaysUptoRow : OpenClaim := { program := "ytlejelbefmkakaagreat", sum := "b10420be19bfaf8673b1fe0f6410960a24a24926500a571a9341a09649045612", func := "postern/posternlaw12.GatePlays", spec := "gatePlays", unfollowed := true, recurses := true, loops := true, plainKeys := false, apart := false, narrowed := true }
def GatePlaysUptoSaid : Prop := gatePlaysUptoRow.holds Tryz.pinned (OpenSpec.upto gatePlaysSpec)

/-- 'posternlaw09.SealCloses', WHERE WHAT IT READS IS OF BULK AT MOST 1048576: true; the input reads as it did. -/
def sealClosesUptoRow : OpenClaim := { program := "ytlejelbefmkakaagreat", sum := "b10420be19bfaf8673b1fe0f6410960a24a24926500a571a9341a09649045612", func := "postern/posternlaw09.SealCloses", spec := "sealCloses", unfollowed := true, recurses := true, loops := true, plainKeys := false, apart := false, narrowed := true }
def SealClosesUptoSaid : Prop := sealClosesUptoRow.holds Tryz.pinned (OpenSpec.upto sealClosesSpec)

/-- 'posternlaw09.SealPlays', WHERE WHAT IT READS IS OF BULK AT MOST 1048576: true; the input reads as it did. -/
def sealPlaysUptoRow : OpenClaim := { program := "ytlejelbefmkakaagreat", sum := "b10420be19bfaf8673b1fe0f6410960a24a24926500a571a9341a09649045612", func := "postern/posternlaw09.SealPlays", spec := "sealPlays", unfollowed := true, recurses := true, loops := true, plainKeys := false, apart := false, narrowed := true }
def SealPlaysUptoSaid : Prop := sealPlaysUptoRow.holds Tryz.pinned (OpenSpec.upto sealPlaysSpec)

/-- 'posternlaw09.SealUnlocked', WHERE WHAT IT READS IS OF BULK AT MOST 1048576: true; the input reads as it did. -/
def sealUnlockedUptoRow : OpenClaim := { program := "ytlejelbefmkakaagreat", sum := "b10420be19bfaf8673b1fe0f6410960a24a24926500a571a9341a09649045612", func := "postern/posternlaw09.SealUnlocked", spec := "sealUnlocked", unfollowed := true, recurses := true, loops := true, plainKeys := false, apart := false, narrowed := true }
def SealUnlockedUptoSaid : Prop := sealUnlockedUptoRow.holds Tryz.pinned (OpenSpec.upto sealUnlockedSpec)

/-- 'posternlaw12.GateWithin', WHERE WHAT IT READS IS OF BULK AT MOST 1048576: true; the input reads as it did. -/
def gateWithinUptoRow : OpenClaim := { program := "ytlejelbefmkakaagreat", sum := "b10420be19bfaf8673b1fe0f6410960a24a24926500a571a9341a09649045612", func := "postern/posternlaw12.GateWithin", spec := "gateWithin", unfollowed := true, recurses := true, loops := true, plainKeys := false, apart := false, narrowed := true }
def GateWithinUptoSaid : Prop := gateWithinUptoRow.holds Tryz.pinned (OpenSpec.upto gateWithinSpec)

/-- 'posternlaw12.GateStops', WHERE WHAT IT READS IS OF BULK AT MOST 1048576: true; the input reads as it did. -/
def gateStopsUptoRow : OpenClaim := { program := "ytlejelbefmkakaagreat", sum := "b10420be19bfaf8673b1fe0f6410960a24a24926500a571a9341a09649045612", func := "postern/posternlaw12.GateStops", spec := "gateStops", unfollowed := true, recurses := true, loops := true, plainKeys := false, apart := false, narrowed := true }
def GateStopsUptoSaid : Prop := gateStopsUptoRow.holds Tryz.pinned (OpenSpec.upto gateStopsSpec)

/-- 'posternlaw12.GateShuts', WHERE WHAT IT READS IS OF BULK AT MOST 1048576: true; the input reads as it did. -/
def gateShutsUptoRow : OpenClaim := { program := "ytlejelbefmkakaagreat", sum := "b10420be19bfaf8673b1fe0f6410960a24a24926500a571a9341a09649045612", func := "postern/posternlaw12.GateShuts", spec := "gateShuts", unfollowed := true, recurses := true, loops := true, plainKeys := false, apart := false, narrowed := true }
def GateShutsUptoSaid : Prop := gateShutsUptoRow.holds Tryz.pinned (OpenSpec.upto gateShutsSpec)

/-- 'posternlaw12.GateFewest', WHERE WHAT IT READS IS OF BULK AT MOST 1048576: true; the input reads as it did. -/
def gateFewestUptoRow : OpenClaim := { program := "ytlejelbefmkakaagreat", sum := "b10420be19bfaf8673b1fe0f6410960a24a24926500a571a9341a09649045612", func := "postern/posternlaw12.GateFewest", spec := "gateFewest", unfollowed := true, recurses := true, loops := true, plainKeys := false, apart := false, narrowed := true }
def GateFewestUptoSaid : Prop := gateFewestUptoRow.holds Tryz.pinned (OpenSpec.upto gateFewestSpec)

/-- 'posternlaw12.GateAsks', WHERE WHAT IT READS IS OF BULK AT MOST 1048576: true; the input reads as it did. -/
def gateAsksUptoRow : OpenClaim := { program := "ytlejelbefmkakaagreat", sum := "b10420be19bfaf8673b1fe0f6410960a24a24926500a571a9341a09649045612", func := "postern/posternlaw12.GateAsks", spec := "gateAsks", unfollowed := true, recurses := true, loops := true, plainKeys := false, apart := false, narrowed := true }
def GateAsksUptoSaid : Prop := gateAsksUptoRow.holds Tryz.pinned (OpenSpec.upto gateAsksSpec)

/-- 'posternlaw11.FacetNil', WHERE WHAT IT READS IS OF BULK AT MOST 1048576: true; the input reads as it did. -/
def facetNilUptoRow : OpenClaim := { program := "ytlejelbefmkakaagreat", sum := "b10420be19bfaf8673b1fe0f6410960a24a24926500a571a9341a09649045612", func := "postern/posternlaw11.FacetNil", spec := "facetNil", unfollowed := true, recurses := true, loops := true, plainKeys := false, apart := false, narrowed := true }
def FacetNilUptoSaid : Prop := facetNilUptoRow.holds Tryz.pinned (OpenSpec.upto facetNilSpec)

/-- 'posternlaw11.FacetMany', WHERE WHAT IT READS IS OF BULK AT MOST 1048576: true; the input reads as it did. -/
def facetManyUptoRow : OpenClaim := { program := "ytlejelbefmkakaagreat", sum := "b10420be19bfaf8673b1fe0f6410960a24a24926500a571a9341a09649045612", func := "postern/posternlaw11.FacetMany", spec := "facetMany", unfollowed := true, recurses := true, loops := true, plainKeys := false, apart := false, narrowed := true }
def FacetManyUptoSaid : Prop := facetManyUptoRow.holds Tryz.pinned (OpenSpec.upto facetManySpec)

end Rows
end Go.Proofs.YtlejelbefmkakaaGreat

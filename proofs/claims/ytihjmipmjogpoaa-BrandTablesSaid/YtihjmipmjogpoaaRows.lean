/-
  NARROWER THAN 'FOR EVERY INPUT', by the rows' own cells (each row's printed sentence says how): BrandCompares: loops · BrandLists: loops · BrandTables: loops · BrandNone: loops · ValueEach: loops · ValueBytes: loops · ValueBack: loops · ValueLooks: loops · ValueOfs: loops · ValuePlaces: loops · ValueWalks: loops · ValueRenames: loops · ValueRenamed: loops · ValueOrders: loops · ValueTotal: loops.
  DERIVED. THE GIVEN ROWS OF THIS SEAT. 16 by the template 'for every input the law returns true; each argument reads behind the call as it read before'; 0 by the template 'total and deterministic' (their statements: YtihjmipmjogpoaaTotals.lean).
  GIVEN WITH THE SEED: the statements are not yours to turn. If you find one false, say at which input.
  Laid BY PROGRAM, IN A SANDBOX (cutbox-rows.mjs): the forced cells as the released guide's own fill.sh prints them over the translation 03741c2cdef696dd… (all of the seat's roots in one cut). By AI agents, Wed Nov 11 2026. No macro, syntax, notation, axiom, sorry.
-/
import Derived.Test.YtihjmipmjogpoaaChecked
import GoSem.Claim
import GoSem.ClaimJoined
import GoSem.ClaimMapViews
import Derived.JoinedTies
import Derived.KernelRfl
namespace Go.Proofs.Ytihjmipmjogpoaa
/- THE CELL 'sum', in the pinned program and in every row, IS THE sha256 OF THE DUMP (.gsa) THAT YtihjmipmjogpoaaProg.lean LOADS. Nothing in Lean hashes anything: it is a label: what it is worth is what the hold of that sum in a sandbox is worth. -/
noncomputable def Try.pinned : Pinned := { name := "ytihjmipmjogpoaa", sum := "03741c2cdef696dd3ecb63519826b6bc8147cde3942444df7225ed0a6385b756", checked := Try.checked }
namespace Rows
def none {H : Type} : Left H := { results := [], args := [] }

/-- 'posternlaw04.BrandNames': WHATEVER THE INPUT: true; the input reads as it did. -/
def brandNamesSpec : ChangeSpec := { name := "brandNames", fn := fun _ => fun
  | [] => { results := [.lit (.bool true)], args := [] }
  | _ => none }
def brandNamesRow : OpenClaim := { program := "ytihjmipmjogpoaa", sum := "03741c2cdef696dd3ecb63519826b6bc8147cde3942444df7225ed0a6385b756", func := "postern/posternlaw04.BrandNames", spec := "brandNames", unfollowed := true, recurses := true, apart := false }
def BrandNamesSaid : Prop := brandNamesRow.holds Try.pinned (OpenSpec.ofChange brandNamesSpec)

/-- ITS FALSE NEIGHBOUR: 'it returns false'. Refute it at one input. -/
def brandNamesWrong : ChangeSpec := { name := "brandNames", fn := fun _ => fun
  | [] => { results := [.lit (.bool false)], args := [] }
  | _ => none }
def BrandNamesWrongFalsely : Prop := brandNamesRow.holds Try.pinned (OpenSpec.ofChange brandNamesWrong)

/-- 'posternlaw04.BrandCompares': WHATEVER THE INPUT: true; the input reads as it did. -/
def brandComparesSpec : ChangeSpec := { name := "brandCompares", fn := fun _ => fun
  | [d1, d2] => { results := [.lit (.bool true)], args := [d1, d2] }
  | _ => none }
def brandComparesRow : OpenClaim := { program := "ytihjmipmjogpoaa", sum := "03741c2cdef696dd3ecb63519826b6bc8147cde3942444df7225ed0a6385b756", func := "postern/posternlaw04.BrandCompares", spec := "brandCompares", unfollowed := true, recurses := true, loops := true, apart := false }
def BrandComparesSaid : Prop := brandComparesRow.holds Try.pinned (OpenSpec.ofChange brandComparesSpec)

/-- ITS FALSE NEIGHBOUR: 'it returns false'. Refute it at one input. -/
def brandComparesWrong : ChangeSpec := { name := "brandCompares", fn := fun _ => fun
  | [d1, d2] => { results := [.lit (.bool false)], args := [d1, d2] }
  | _ => none }
def BrandComparesWrongFalsely : Prop := brandComparesRow.holds Try.pinned (OpenSpec.ofChange brandComparesWrong)

/-- 'posternlaw04.BrandLists': WHATEVER THE INPUT: true; the input reads as it did. -/
def brandListsSpec : ChangeSpec := { name := "brandLists", fn := fun _ => fun
  | [d1, d2] => { results := [.lit (.bool true)], args := [d1, d2] }
  | _ => none }
def brandListsRow : OpenClaim := { program := "ytihjmipmjogpoaa", sum := "03741c2cdef696dd3ecb63519826b6bc8147cde3942444df7225ed0a6385b756", func := "postern/posternlaw04.BrandLists", spec := "brandLists", unfollowed := true, recurses := true, loops := true, apart := false }
def BrandListsSaid : Prop := brandListsRow.holds Try.pinned (OpenSpec.ofChange brandListsSpec)

/-- ITS FALSE NEIGHBOUR: 'it returns false'. Refute it at one input. -/
def brandListsWrong : ChangeSpec := { name := "brandLists", fn := fun _ => fun
  | [d1, d2] => { results := [.lit (.bool false)], args := [d1, d2] }
  | _ => none }
def BrandListsWrongFalsely : Prop := brandListsRow.holds Try.pinned (OpenSpec.ofChange brandListsWrong)

/-- 'posternlaw04.BrandTables': WHATEVER THE INPUT: true; the input reads as it did. -/
def brandTablesSpec : ChangeSpec := { name := "brandTables", fn := fun _ => fun
  | [d] => { results := [.lit (.bool true)], args := [d] }
  | _ => none }
def brandTablesRow : OpenClaim := { program := "ytihjmipmjogpoaa", sum := "03741c2cdef696dd3ecb63519826b6bc8147cde3942444df7225ed0a6385b756", func := "postern/posternlaw04.BrandTables", spec := "brandTables", unfollowed := true, recurses := true, loops := true, apart := false }
def BrandTablesSaid : Prop := brandTablesRow.holds Try.pinned (OpenSpec.ofChange brandTablesSpec)

/-- ITS FALSE NEIGHBOUR: 'it returns false'. Refute it at one input. -/
def brandTablesWrong : ChangeSpec := { name := "brandTables", fn := fun _ => fun
  | [d] => { results := [.lit (.bool false)], args := [d] }
  | _ => none }
def BrandTablesWrongFalsely : Prop := brandTablesRow.holds Try.pinned (OpenSpec.ofChange brandTablesWrong)

/-- 'posternlaw04.BrandNone': WHATEVER THE INPUT: true; the input reads as it did. -/
def brandNoneSpec : ChangeSpec := { name := "brandNone", fn := fun _ => fun
  | [d1, d2] => { results := [.lit (.bool true)], args := [d1, d2] }
  | _ => none }
def brandNoneRow : OpenClaim := { program := "ytihjmipmjogpoaa", sum := "03741c2cdef696dd3ecb63519826b6bc8147cde3942444df7225ed0a6385b756", func := "postern/posternlaw04.BrandNone", spec := "brandNone", unfollowed := true, recurses := true, loops := true, apart := false }
def BrandNoneSaid : Prop := brandNoneRow.holds Try.pinned (OpenSpec.ofChange brandNoneSpec)

/-- ITS FALSE NEIGHBOUR: 'it returns false'. Refute it at one input. -/
def brandNoneWrong : ChangeSpec := { name := "brandNone", fn := fun _ => fun
  | [d1, d2] => { results := [.lit (.bool false)], args := [d1, d2] }
  | _ => none }
def BrandNoneWrongFalsely : Prop := brandNoneRow.holds Try.pinned (OpenSpec.ofChange brandNoneWrong)

/-- 'posternlaw02.ValueEach': WHATEVER THE INPUT: true; the input reads as it did. -/
def valueEachSpec : ChangeSpec := { name := "valueEach", fn := fun _ => fun
  | [d1, d2] => { results := [.lit (.bool true)], args := [d1, d2] }
  | _ => none }
def valueEachRow : OpenClaim := { program := "ytihjmipmjogpoaa", sum := "03741c2cdef696dd3ecb63519826b6bc8147cde3942444df7225ed0a6385b756", func := "postern/posternlaw02.ValueEach", spec := "valueEach", unfollowed := true, recurses := true, loops := true, apart := false }
def ValueEachSaid : Prop := valueEachRow.holds Try.pinned (OpenSpec.ofChange valueEachSpec)

/-- ITS FALSE NEIGHBOUR: 'it returns false'. Refute it at one input. -/
def valueEachWrong : ChangeSpec := { name := "valueEach", fn := fun _ => fun
  | [d1, d2] => { results := [.lit (.bool false)], args := [d1, d2] }
  | _ => none }
def ValueEachWrongFalsely : Prop := valueEachRow.holds Try.pinned (OpenSpec.ofChange valueEachWrong)

/-- 'posternlaw02.ValueBytes': WHATEVER THE INPUT: true; the input reads as it did. -/
def valueBytesSpec : ChangeSpec := { name := "valueBytes", fn := fun _ => fun
  | [d1, d2] => { results := [.lit (.bool true)], args := [d1, d2] }
  | _ => none }
def valueBytesRow : OpenClaim := { program := "ytihjmipmjogpoaa", sum := "03741c2cdef696dd3ecb63519826b6bc8147cde3942444df7225ed0a6385b756", func := "postern/posternlaw02.ValueBytes", spec := "valueBytes", unfollowed := true, recurses := true, loops := true, apart := false }
def ValueBytesSaid : Prop := valueBytesRow.holds Try.pinned (OpenSpec.ofChange valueBytesSpec)

/-- ITS FALSE NEIGHBOUR: 'it returns false'. Refute it at one input. -/
def valueBytesWrong : ChangeSpec := { name := "valueBytes", fn := fun _ => fun
  | [d1, d2] => { results := [.lit (.bool false)], args := [d1, d2] }
  | _ => none }
def ValueBytesWrongFalsely : Prop := valueBytesRow.holds Try.pinned (OpenSpec.ofChange valueBytesWrong)

/-- 'posternlaw02.ValueBack': WHATEVER THE INPUT: true; the input reads as it did. -/
def valueBackSpec : ChangeSpec := { name := "valueBack", fn := fun _ => fun
  | [d1, d2, d3] => { results := [.lit (.bool true)], args := [d1, d2, d3] }
  | _ => none }
def valueBackRow : OpenClaim := { program := "ytihjmipmjogpoaa", sum := "03741c2cdef696dd3ecb63519826b6bc8147cde3942444df7225ed0a6385b756", func := "postern/posternlaw02.ValueBack", spec := "valueBack", unfollowed := true, recurses := true, loops := true, apart := false }
def ValueBackSaid : Prop := valueBackRow.holds Try.pinned (OpenSpec.ofChange valueBackSpec)

/-- ITS FALSE NEIGHBOUR: 'it returns false'. Refute it at one input. -/
def valueBackWrong : ChangeSpec := { name := "valueBack", fn := fun _ => fun
  | [d1, d2, d3] => { results := [.lit (.bool false)], args := [d1, d2, d3] }
  | _ => none }
def ValueBackWrongFalsely : Prop := valueBackRow.holds Try.pinned (OpenSpec.ofChange valueBackWrong)

/-- 'posternlaw02.ValueLooks': WHATEVER THE INPUT: true; the input reads as it did. -/
def valueLooksSpec : ChangeSpec := { name := "valueLooks", fn := fun _ => fun
  | [d] => { results := [.lit (.bool true)], args := [d] }
  | _ => none }
def valueLooksRow : OpenClaim := { program := "ytihjmipmjogpoaa", sum := "03741c2cdef696dd3ecb63519826b6bc8147cde3942444df7225ed0a6385b756", func := "postern/posternlaw02.ValueLooks", spec := "valueLooks", unfollowed := true, recurses := true, loops := true, apart := false }
def ValueLooksSaid : Prop := valueLooksRow.holds Try.pinned (OpenSpec.ofChange valueLooksSpec)

/-- ITS FALSE NEIGHBOUR: 'it returns false'. Refute it at one input. -/
def valueLooksWrong : ChangeSpec := { name := "valueLooks", fn := fun _ => fun
  | [d] => { results := [.lit (.bool false)], args := [d] }
  | _ => none }
def ValueLooksWrongFalsely : Prop := valueLooksRow.holds Try.pinned (OpenSpec.ofChange valueLooksWrong)

/-- 'posternlaw02.ValueOfs': WHATEVER THE INPUT: true; the input reads as it did. -/
def valueOfsSpec : ChangeSpec := { name := "valueOfs", fn := fun _ => fun
  | [d] => { results := [.lit (.bool true)], args := [d] }
  | _ => none }
def valueOfsRow : OpenClaim := { program := "ytihjmipmjogpoaa", sum := "03741c2cdef696dd3ecb63519826b6bc8147cde3942444df7225ed0a6385b756", func := "postern/posternlaw02.ValueOfs", spec := "valueOfs", unfollowed := true, recurses := true, loops := true, apart := false }
def ValueOfsSaid : Prop := valueOfsRow.holds Try.pinned (OpenSpec.ofChange valueOfsSpec)

/-- ITS FALSE NEIGHBOUR: 'it returns false'. Refute it at one input. -/
def valueOfsWrong : ChangeSpec := { name := "valueOfs", fn := fun _ => fun
  | [d] => { results := [.lit (.bool false)], args := [d] }
  | _ => none }
def ValueOfsWrongFalsely : Prop := valueOfsRow.holds Try.pinned (OpenSpec.ofChange valueOfsWrong)

/-- 'posternlaw02.ValuePlaces': WHATEVER THE INPUT: true; the input reads as it did. -/
def valuePlacesSpec : ChangeSpec := { name := "valuePlaces", fn := fun _ => fun
  | [d1, d2, d3] => { results := [.lit (.bool true)], args := [d1, d2, d3] }
  | _ => none }
def valuePlacesRow : OpenClaim := { program := "ytihjmipmjogpoaa", sum := "03741c2cdef696dd3ecb63519826b6bc8147cde3942444df7225ed0a6385b756", func := "postern/posternlaw02.ValuePlaces", spec := "valuePlaces", unfollowed := true, recurses := true, loops := true, apart := false }
def ValuePlacesSaid : Prop := valuePlacesRow.holds Try.pinned (OpenSpec.ofChange valuePlacesSpec)

/-- ITS FALSE NEIGHBOUR: 'it returns false'. Refute it at one input. -/
def valuePlacesWrong : ChangeSpec := { name := "valuePlaces", fn := fun _ => fun
  | [d1, d2, d3] => { results := [.lit (.bool false)], args := [d1, d2, d3] }
  | _ => none }
def ValuePlacesWrongFalsely : Prop := valuePlacesRow.holds Try.pinned (OpenSpec.ofChange valuePlacesWrong)

/-- 'posternlaw02.ValueWalks': WHATEVER THE INPUT: true; the input reads as it did. -/
def valueWalksSpec : ChangeSpec := { name := "valueWalks", fn := fun _ => fun
  | [d] => { results := [.lit (.bool true)], args := [d] }
  | _ => none }
def valueWalksRow : OpenClaim := { program := "ytihjmipmjogpoaa", sum := "03741c2cdef696dd3ecb63519826b6bc8147cde3942444df7225ed0a6385b756", func := "postern/posternlaw02.ValueWalks", spec := "valueWalks", unfollowed := true, recurses := true, loops := true, apart := false }
def ValueWalksSaid : Prop := valueWalksRow.holds Try.pinned (OpenSpec.ofChange valueWalksSpec)

/-- ITS FALSE NEIGHBOUR: 'it returns false'. Refute it at one input. -/
def valueWalksWrong : ChangeSpec := { name := "valueWalks", fn := fun _ => fun
  | [d] => { results := [.lit (.bool false)], args := [d] }
  | _ => none }
def ValueWalksWrongFalsely : Prop := valueWalksRow.holds Try.pinned (OpenSpec.ofChange valueWalksWrong)

/-- 'posternlaw02.ValueRenames': WHATEVER THE INPUT: true; the input reads as it did. -/
def valueRenamesSpec : ChangeSpec := { name := "valueRenames", fn := fun _ => fun
  | [d1, d2, d3] => { results := [.lit (.bool true)], args := [d1, d2, d3] }
  | _ => none }
def valueRenamesRow : OpenClaim := { program := "ytihjmipmjogpoaa", sum := "03741c2cdef696dd3ecb63519826b6bc8147cde3942444df7225ed0a6385b756", func := "postern/posternlaw02.ValueRenames", spec := "valueRenames", unfollowed := true, recurses := true, loops := true, apart := false }
def ValueRenamesSaid : Prop := valueRenamesRow.holds Try.pinned (OpenSpec.ofChange valueRenamesSpec)

/-- ITS FALSE NEIGHBOUR: 'it returns false'. Refute it at one input. -/
def valueRenamesWrong : ChangeSpec := { name := "valueRenames", fn := fun _ => fun
  | [d1, d2, d3] => { results := [.lit (.bool false)], args := [d1, d2, d3] }
  | _ => none }
def ValueRenamesWrongFalsely : Prop := valueRenamesRow.holds Try.pinned (OpenSpec.ofChange valueRenamesWrong)

/-- 'posternlaw02.ValueRenamed': WHATEVER THE INPUT: true; the input reads as it did. -/
def valueRenamedSpec : ChangeSpec := { name := "valueRenamed", fn := fun _ => fun
  | [d1, d2, d3, d4] => { results := [.lit (.bool true)], args := [d1, d2, d3, d4] }
  | _ => none }
def valueRenamedRow : OpenClaim := { program := "ytihjmipmjogpoaa", sum := "03741c2cdef696dd3ecb63519826b6bc8147cde3942444df7225ed0a6385b756", func := "postern/posternlaw02.ValueRenamed", spec := "valueRenamed", unfollowed := true, recurses := true, loops := true, apart := false }
def ValueRenamedSaid : Prop := valueRenamedRow.holds Try.pinned (OpenSpec.ofChange valueRenamedSpec)

/-- ITS FALSE NEIGHBOUR: 'it returns false'. Refute it at one input. -/
def valueRenamedWrong : ChangeSpec := { name := "valueRenamed", fn := fun _ => fun
  | [d1, d2, d3, d4] => { results := [.lit (.bool false)], args := [d1, d2, d3, d4] }
  | _ => none }
def ValueRenamedWrongFalsely : Prop := valueRenamedRow.holds Try.pinned (OpenSpec.ofChange valueRenamedWrong)

/-- 'posternlaw02.ValueOrders': WHATEVER THE INPUT: true; the input reads as it did. -/
def valueOrdersSpec : ChangeSpec := { name := "valueOrders", fn := fun _ => fun
  | [d1, d2, d3] => { results := [.lit (.bool true)], args := [d1, d2, d3] }
  | _ => none }
def valueOrdersRow : OpenClaim := { program := "ytihjmipmjogpoaa", sum := "03741c2cdef696dd3ecb63519826b6bc8147cde3942444df7225ed0a6385b756", func := "postern/posternlaw02.ValueOrders", spec := "valueOrders", unfollowed := true, recurses := true, loops := true, apart := false }
def ValueOrdersSaid : Prop := valueOrdersRow.holds Try.pinned (OpenSpec.ofChange valueOrdersSpec)

/-- ITS FALSE NEIGHBOUR: 'it returns false'. Refute it at one input. -/
def valueOrdersWrong : ChangeSpec := { name := "valueOrders", fn := fun _ => fun
  | [d1, d2, d3] => { results := [.lit (.bool false)], args := [d1, d2, d3] }
  | _ => none }
def ValueOrdersWrongFalsely : Prop := valueOrdersRow.holds Try.pinned (OpenSpec.ofChange valueOrdersWrong)

/-- 'posternlaw02.ValueTotal': WHATEVER THE INPUT: true; the input reads as it did. -/
def valueTotalSpec : ChangeSpec := { name := "valueTotal", fn := fun _ => fun
  | [d1, d2, d3, d4] => { results := [.lit (.bool true)], args := [d1, d2, d3, d4] }
  | _ => none }
def valueTotalRow : OpenClaim := { program := "ytihjmipmjogpoaa", sum := "03741c2cdef696dd3ecb63519826b6bc8147cde3942444df7225ed0a6385b756", func := "postern/posternlaw02.ValueTotal", spec := "valueTotal", unfollowed := true, recurses := true, loops := true, apart := false }
def ValueTotalSaid : Prop := valueTotalRow.holds Try.pinned (OpenSpec.ofChange valueTotalSpec)

/-- ITS FALSE NEIGHBOUR: 'it returns false'. Refute it at one input. -/
def valueTotalWrong : ChangeSpec := { name := "valueTotal", fn := fun _ => fun
  | [d1, d2, d3, d4] => { results := [.lit (.bool false)], args := [d1, d2, d3, d4] }
  | _ => none }
def ValueTotalWrongFalsely : Prop := valueTotalRow.holds Try.pinned (OpenSpec.ofChange valueTotalWrong)

/- THE SECOND FORM. 'bulk': how many values and letters a reading holds, each counted each time it is reached (what is shared counts as often as it is met; a slice's spare places count too). A statement '..UptoSaid' is the law's where the arguments, and the package variables that the reading takes, are together of bulk at most 1048576: NARROWER than '..Said'. Prove '..Said' where nothing that the law and all that it calls make is longer than what came in: it says more and counts as full. Else prove '..UptoSaid'. A law counts once. -/
mutual
def uptoBulk {H : Type} : DataW H → Nat
  | .lit (.string bytes) => bytes.length + 1
  | .lit _ => 1
  | .nil => 1
  | .ptr d => uptoBulk d + 1
  | .slice elems spare => uptoBulkAll elems + uptoBulkAll spare + 1
  | .agg parts => uptoBulkAll parts + 1
  | .iface _ d => uptoBulk d + 1
  | .map entries => uptoBulkEntries entries + 1
  | .held _ => 1
def uptoBulkAll {H : Type} : List (DataW H) → Nat
  | [] => 0
  | d :: r => uptoBulk d + uptoBulkAll r
def uptoBulkEntries {H : Type} : List (Lit × DataW H) → Nat
  | [] => 0
  | x :: r => uptoBulkEntry x + uptoBulkEntries r
def uptoBulkEntry {H : Type} : Lit × DataW H → Nat
  | (.string bytes, d) => bytes.length + uptoBulk d + 1
  | (_, d) => uptoBulk d + 1
 end
def uptoSmall : (H : Type) → List (DataW H) → Bool := fun _ ds => decide (uptoBulkAll ds ≤ 1048576)
def OpenSpec.upto (s : _root_.Go.ChangeSpec) : _root_.Go.OpenSpec := { _root_.Go.OpenSpec.ofChange s with cond := some uptoSmall }

/-- 'posternlaw04.BrandNames', WHERE WHAT IT READS IS OF BULK AT MOST 1048576: true; the input reads as it did. -/
def brandNamesUptoRow : OpenClaim := { program := "ytihjmipmjogpoaa", sum := "03741c2cdef696dd3ecb63519826b6bc8147cde3942444df7225ed0a6385b756", func := "postern/posternlaw04.BrandNames", spec := "brandNames", unfollowed := true, recurses := true, apart := false, narrowed := true }
def BrandNamesUptoSaid : Prop := brandNamesUptoRow.holds Try.pinned (OpenSpec.upto brandNamesSpec)

/-- 'posternlaw04.BrandCompares', WHERE WHAT IT READS IS OF BULK AT MOST 1048576: true; the input reads as it did. -/
def brandComparesUptoRow : OpenClaim := { program := "ytihjmipmjogpoaa", sum := "03741c2cdef696dd3ecb63519826b6bc8147cde3942444df7225ed0a6385b756", func := "postern/posternlaw04.BrandCompares", spec := "brandCompares", unfollowed := true, recurses := true, loops := true, apart := false, narrowed := true }
def BrandComparesUptoSaid : Prop := brandComparesUptoRow.holds Try.pinned (OpenSpec.upto brandComparesSpec)

/-- 'posternlaw04.BrandLists', WHERE WHAT IT READS IS OF BULK AT MOST 1048576: true; the input reads as it did. -/
def brandListsUptoRow : OpenClaim := { program := "ytihjmipmjogpoaa", sum := "03741c2cdef696dd3ecb63519826b6bc8147cde3942444df7225ed0a6385b756", func := "postern/posternlaw04.BrandLists", spec := "brandLists", unfollowed := true, recurses := true, loops := true, apart := false, narrowed := true }
def BrandListsUptoSaid : Prop := brandListsUptoRow.holds Try.pinned (OpenSpec.upto brandListsSpec)

/-- 'posternlaw04.BrandTables', WHERE WHAT IT READS IS OF BULK AT MOST 1048576: true; the input reads as it did. -/
def brandTablesUptoRow : OpenClaim := { program := "ytihjmipmjogpoaa", sum := "03741c2cdef696dd3ecb63519826b6bc8147cde3942444df7225ed0a6385b756", func := "postern/posternlaw04.BrandTables", spec := "brandTables", unfollowed := true, recurses := true, loops := true, apart := false, narrowed := true }
def BrandTablesUptoSaid : Prop := brandTablesUptoRow.holds Try.pinned (OpenSpec.upto brandTablesSpec)

/-- 'posternlaw04.BrandNone', WHERE WHAT IT READS IS OF BULK AT MOST 1048576: true; the input reads as it did. -/
def brandNoneUptoRow : OpenClaim := { program := "ytihjmipmjogpoaa", sum := "03741c2cdef696dd3ecb63519826b6bc8147cde3942444df7225ed0a6385b756", func := "postern/posternlaw04.BrandNone", spec := "brandNone", unfollowed := true, recurses := true, loops := true, apart := false, narrowed := true }
def BrandNoneUptoSaid : Prop := brandNoneUptoRow.holds Try.pinned (OpenSpec.upto brandNoneSpec)

/-- 'posternlaw02.ValueEach', WHERE WHAT IT READS IS OF BULK AT MOST 1048576: true; the input reads as it did. -/
def valueEachUptoRow : OpenClaim := { program := "ytihjmipmjogpoaa", sum := "03741c2cdef696dd3ecb63519826b6bc8147cde3942444df7225ed0a6385b756", func := "postern/posternlaw02.ValueEach", spec := "valueEach", unfollowed := true, recurses := true, loops := true, apart := false, narrowed := true }
def ValueEachUptoSaid : Prop := valueEachUptoRow.holds Try.pinned (OpenSpec.upto valueEachSpec)

/-- 'posternlaw02.ValueBytes', WHERE WHAT IT READS IS OF BULK AT MOST 1048576: true; the input reads as it did. -/
def valueBytesUptoRow : OpenClaim := { program := "ytihjmipmjogpoaa", sum := "03741c2cdef696dd3ecb63519826b6bc8147cde3942444df7225ed0a6385b756", func := "postern/posternlaw02.ValueBytes", spec := "valueBytes", unfollowed := true, recurses := true, loops := true, apart := false, narrowed := true }
def ValueBytesUptoSaid : Prop := valueBytesUptoRow.holds Try.pinned (OpenSpec.upto valueBytesSpec)

/-- 'posternlaw02.ValueBack', WHERE WHAT IT READS IS OF BULK AT MOST 1048576: true; the input reads as it did. -/
def valueBackUptoRow : OpenClaim := { program := "ytihjmipmjogpoaa", sum := "03741c2cdef696dd3ecb63519826b6bc8147cde3942444df7225ed0a6385b756", func := "postern/posternlaw02.ValueBack", spec := "valueBack", unfollowed := true, recurses := true, loops := true, apart := false, narrowed := true }
def ValueBackUptoSaid : Prop := valueBackUptoRow.holds Try.pinned (OpenSpec.upto valueBackSpec)

/-- 'posternlaw02.ValueLooks', WHERE WHAT IT READS IS OF BULK AT MOST 1048576: true; the input reads as it did. -/
def valueLooksUptoRow : OpenClaim := { program := "ytihjmipmjogpoaa", sum := "03741c2cdef696dd3ecb63519826b6bc8147cde3942444df7225ed0a6385b756", func := "postern/posternlaw02.ValueLooks", spec := "valueLooks", unfollowed := true, recurses := true, loops := true, apart := false, narrowed := true }
def ValueLooksUptoSaid : Prop := valueLooksUptoRow.holds Try.pinned (OpenSpec.upto valueLooksSpec)

/-- 'posternlaw02.ValueOfs', WHERE WHAT IT READS IS OF BULK AT MOST 1048576: true; the input reads as it did. -/
def valueOfsUptoRow : OpenClaim := { program := "ytihjmipmjogpoaa", sum := "03741c2cdef696dd3ecb63519826b6bc8147cde3942444df7225ed0a6385b756", func := "postern/posternlaw02.ValueOfs", spec := "valueOfs", unfollowed := true, recurses := true, loops := true, apart := false, narrowed := true }
def ValueOfsUptoSaid : Prop := valueOfsUptoRow.holds Try.pinned (OpenSpec.upto valueOfsSpec)

/-- 'posternlaw02.ValuePlaces', WHERE WHAT IT READS IS OF BULK AT MOST 1048576: true; the input reads as it did. -/
def valuePlacesUptoRow : OpenClaim := { program := "ytihjmipmjogpoaa", sum := "03741c2cdef696dd3ecb63519826b6bc8147cde3942444df7225ed0a6385b756", func := "postern/posternlaw02.ValuePlaces", spec := "valuePlaces", unfollowed := true, recurses := true, loops := true, apart := false, narrowed := true }
def ValuePlacesUptoSaid : Prop := valuePlacesUptoRow.holds Try.pinned (OpenSpec.upto valuePlacesSpec)

/-- 'posternlaw02.ValueWalks', WHERE WHAT IT READS IS OF BULK AT MOST 1048576: true; the input reads as it did. -/
def valueWalksUptoRow : OpenClaim := { program := "ytihjmipmjogpoaa", sum := "03741c2cdef696dd3ecb63519826b6bc8147cde3942444df7225ed0a6385b756", func := "postern/posternlaw02.ValueWalks", spec := "valueWalks", unfollowed := true, recurses := true, loops := true, apart := false, narrowed := true }
def ValueWalksUptoSaid : Prop := valueWalksUptoRow.holds Try.pinned (OpenSpec.upto valueWalksSpec)

/-- 'posternlaw02.ValueRenames', WHERE WHAT IT READS IS OF BULK AT MOST 1048576: true; the input reads as it did. -/
def valueRenamesUptoRow : OpenClaim := { program := "ytihjmipmjogpoaa", sum := "03741c2cdef696dd3ecb63519826b6bc8147cde3942444df7225ed0a6385b756", func := "postern/posternlaw02.ValueRenames", spec := "valueRenames", unfollowed := true, recurses := true, loops := true, apart := false, narrowed := true }
def ValueRenamesUptoSaid : Prop := valueRenamesUptoRow.holds Try.pinned (OpenSpec.upto valueRenamesSpec)

/-- 'posternlaw02.ValueRenamed', WHERE WHAT IT READS IS OF BULK AT MOST 1048576: true; the input reads as it did. -/
def valueRenamedUptoRow : OpenClaim := { program := "ytihjmipmjogpoaa", sum := "03741c2cdef696dd3ecb63519826b6bc8147cde3942444df7225ed0a6385b756", func := "postern/posternlaw02.ValueRenamed", spec := "valueRenamed", unfollowed := true, recurses := true, loops := true, apart := false, narrowed := true }
def ValueRenamedUptoSaid : Prop := valueRenamedUptoRow.holds Try.pinned (OpenSpec.upto valueRenamedSpec)

/-- 'posternlaw02.ValueOrders', WHERE WHAT IT READS IS OF BULK AT MOST 1048576: true; the input reads as it did. -/
def valueOrdersUptoRow : OpenClaim := { program := "ytihjmipmjogpoaa", sum := "03741c2cdef696dd3ecb63519826b6bc8147cde3942444df7225ed0a6385b756", func := "postern/posternlaw02.ValueOrders", spec := "valueOrders", unfollowed := true, recurses := true, loops := true, apart := false, narrowed := true }
def ValueOrdersUptoSaid : Prop := valueOrdersUptoRow.holds Try.pinned (OpenSpec.upto valueOrdersSpec)

/-- 'posternlaw02.ValueTotal', WHERE WHAT IT READS IS OF BULK AT MOST 1048576: true; the input reads as it did. -/
def valueTotalUptoRow : OpenClaim := { program := "ytihjmipmjogpoaa", sum := "03741c2cdef696dd3ecb63519826b6bc8147cde3942444df7225ed0a6385b756", func := "postern/posternlaw02.ValueTotal", spec := "valueTotal", unfollowed := true, recurses := true, loops := true, apart := false, narrowed := true }
def ValueTotalUptoSaid : Prop := valueTotalUptoRow.holds Try.pinned (OpenSpec.upto valueTotalSpec)

end Rows
end Go.Proofs.Ytihjmipmjogpoaa

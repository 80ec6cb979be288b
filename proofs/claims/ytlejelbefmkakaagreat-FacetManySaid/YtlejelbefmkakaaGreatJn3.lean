/- Texts joined: Wo2. -/
import Derived.Test.YtlejelbefmkakaaGreatJn2
import Derived.Deep.Cut
import Derived.Deep.CutRange
import Derived.Deep.RegionHeld3
namespace Go.Proofs.YtlejelbefmkakaaGreat
open Go.RowKit
def th16 (kind home k n : Int) (s : ByteArray) (A : Option Addr) (len cap : Nat) (r n1 lost ofr byr set : Int) (full : Bool) : Array Value :=
 #[.int .u8 kind, .int .i64 home, .int .u8 k, .int .i64 n, .string s, .slice A len cap, .int .i64 r, .slice none 0 0, .int .i64 n1, .int .i64 lost, .int .i64 ofr, .int .i64 byr, .int .u8 set, .bool full, .slice none 0 0, .slice none 0 0]
def Th.Pl (x : Th) : Prop := x.n = 0 ∧ x.lost = 0 ∧ x.set = 0 ∧
 ((x.kind = 1 ∧ x.ofr = 0 ∧ x.byr = 0 ∧ x.full = false) ∨ (x.kind = 2 ∧ x.ofr = 0 ∧ x.byr = 0 ∧ x.full = false ∧ x.v = T.zero) ∨ (x.kind = 5 ∧ x.ofr = 0 ∧ x.byr = 0 ∧ x.full = false ∧ x.v = T.zero) ∨
  (x.kind = 6 ∧ x.byr = 0 ∧ x.full = false ∧ x.v = T.zero) ∨ (x.kind = 7 ∧ x.byr = 0 ∧ x.full = false) ∨ (x.kind = 13 ∧ x.byr = 0 ∧ x.v = T.zero) ∨ (x.kind = 15 ∧ x.full = false ∧ x.v = T.zero))
end Go.Proofs.YtlejelbefmkakaaGreat

/- Texts joined: Sa3. -/
import Derived.Test.YtlejelbefmkakaaGreatJn1
import Derived.Test.YtlejelbefmkakaaGreatJn21
import Derived.Test.YtlejelbefmkakaaGreatJn22
import Derived.Test.YtlejelbefmkakaaGreatJn30
import Derived.Test.YtlejelbefmkakaaGreatJn33
import Derived.Deep.MidRow
import Derived.Deep.Cut
import Derived.Deep.CutRange
import Derived.Deep.RegionHeld3
namespace Go.Proofs.YtlejelbefmkakaaGreat
open Go.RowKit
def SC (l:List G):Prop:=∀(l':List G) (A A':Option Addr) (cap cap':Nat) (w:World) (lo hi lo' hi':Nat),(∀x∈l,Ty 311 x)->(∀x∈l',Ty 311 x)->l.map G.er=l'.map G.er->(G.row A l).In w lo hi->hi<=w.heap.size->(G.row A' l').In w lo' hi'->hi'<=w.heap.size->l.length*256<=140737488351232->
 Calls Tryz.prog 206 #[.slice A l.length cap,.slice A' l'.length cap'] w λe w'=>e= .returned (.bool true)/\Fr No w w'
end Go.Proofs.YtlejelbefmkakaaGreat

/- Texts joined: Gd0. -/
import Derived.Test.YtlejelbefmkakaaGreatJn2
import Derived.Deep.Cut
import Derived.Deep.CutRange
import Derived.Deep.CutBlock
import Derived.Deep.RegionHeld3
namespace Go.Proofs.YtlejelbefmkakaaGreat
open Go.RowKit
def zbv (kind home k n:Int) (s:ByteArray) (A:Option Addr) (len cap:Nat) (r:Int) (VA:Option Addr) (vl vc:Nat) (n1 lost ofr byr set:Int) (full:Bool) (CA:Option Addr) (cl cc:Nat) (NA:Option Addr) (nl nc:Nat):Array Value:=
 if kind=1 then c16 kind home k n s A len cap r none 0 0 0 0 0 0 0 false none 0 0 none 0 0 else
 if kind=2\/kind=4 then c16 kind home 0 0 ⟨#[]⟩ none 0 0 0 VA vl vc 0 0 0 0 0 false none 0 0 none 0 0 else
 if kind=3 then c16 kind home 0 0 ⟨#[]⟩ none 0 0 0 none 0 0 n1 0 0 0 0 false none 0 0 none 0 0 else
 if kind=6\/kind=11 then c16 kind home 0 0 ⟨#[]⟩ none 0 0 0 none 0 0 0 0 ofr 0 0 false none 0 0 none 0 0 else
 if kind=7 then c16 kind home k n s A len cap r none 0 0 0 0 ofr 0 0 false none 0 0 none 0 0 else
 if kind=8 then c16 kind home 0 0 ⟨#[]⟩ none 0 0 0 none 0 0 n1 lost 0 0 0 false none 0 0 none 0 0 else
 if kind=9 then c16 kind home 0 0 ⟨#[]⟩ none 0 0 0 none 0 0 n1 0 ofr 0 0 false none 0 0 none 0 0 else
 if kind=10 then c16 kind home k n s A len cap r none 0 0 0 0 0 0 0 full none 0 0 none 0 0 else
 if kind=12 then c16 kind home 0 0 ⟨#[]⟩ none 0 0 0 none 0 0 0 0 0 0 0 false CA cl cc NA nl nc else
 if kind=13 then c16 kind home 0 0 ⟨#[]⟩ none 0 0 0 none 0 0 0 0 ofr 0 0 full none 0 0 none 0 0 else
 if kind=15\/kind=16 then c16 kind home 0 0 ⟨#[]⟩ none 0 0 0 none 0 0 0 0 ofr byr 0 false none 0 0 none 0 0 else
 if kind=14 then c16 kind 0 0 0 ⟨#[]⟩ none 0 0 0 none 0 0 0 0 ofr 0 set false none 0 0 none 0 0 else
 c16 kind home 0 0 ⟨#[]⟩ none 0 0 0 none 0 0 0 0 0 0 0 false none 0 0 none 0 0
theorem Blk.c16s {w:World} {g:Nat} {t:TypeId} {x0 x1 x2 x3 x4 x5 x6 x7 x8 x9 x10 x11 x12 x13 x14 x15:Value} (h:Blk w g t #[x0,x1,x2,x3,x4,x5,x6,x7,x8,x9,x10,x11,x12,x13,x14,x15]):
 w.cell? ⟨g,0,none⟩=some x0/\w.cell? ⟨g,1,none⟩=some x1/\w.cell? ⟨g,2,none⟩=some x2/\w.cell? ⟨g,3,none⟩=some x3/\w.cell? ⟨g,4,none⟩=some x4/\w.cell? ⟨g,5,none⟩=some x5/\w.cell? ⟨g,6,none⟩=some x6/\w.cell? ⟨g,7,none⟩=some x7/\
 w.cell? ⟨g,8,none⟩=some x8/\w.cell? ⟨g,9,none⟩=some x9/\w.cell? ⟨g,10,none⟩=some x10/\w.cell? ⟨g,11,none⟩=some x11/\w.cell? ⟨g,12,none⟩=some x12/\w.cell? ⟨g,13,none⟩=some x13/\w.cell? ⟨g,14,none⟩=some x14/\w.cell? ⟨g,15,none⟩=some x15/\(∀i,w.frozen? ⟨g,i,none⟩=false)/\g<w.heap.size:=
 ⟨h.cell 0,h.cell 1,h.cell 2,h.cell 3,h.cell 4,h.cell 5,h.cell 6,h.cell 7,h.cell 8,h.cell 9,h.cell 10,h.cell 11,h.cell 12,h.cell 13,h.cell 14,h.cell 15,h.frozen,h.lt⟩
theorem ztf (kind home k n:Int) (s:ByteArray) (A:Option Addr) (len cap:Nat) (r:Int) (VA:Option Addr) (vl vc:Nat) (n1 lost ofr byr set:Int) (full:Bool) (CA:Option Addr) (cl cc:Nat) (NA:Option Addr) (nl nc:Nat):∃qkind qhome qk qn qs qA qlen qcap qr qVA qvl qvc qn1 qlost qofr qbyr qset qfull qCA qcl qcc qNA qnl qnc,c16 kind home k n s A len cap r VA vl vc n1 lost ofr byr set full CA cl cc NA nl nc=c16 qkind qhome qk qn qs qA qlen qcap qr qVA qvl qvc qn1 qlost qofr qbyr qset qfull qCA qcl qcc qNA qnl qnc:=⟨_,_,_,_,_,_,_,_,_,_,_,_,_,_,_,_,_,_,_,_,_,_,_,_,rfl⟩
theorem zx1 {c:Prop} [Decidable c] {a b:Array Value} (h1:∃qkind qhome qk qn qs qA qlen qcap qr qVA qvl qvc qn1 qlost qofr qbyr qset qfull qCA qcl qcc qNA qnl qnc,a=c16 qkind qhome qk qn qs qA qlen qcap qr qVA qvl qvc qn1 qlost qofr qbyr qset qfull qCA qcl qcc qNA qnl qnc) (h2:∃qkind qhome qk qn qs qA qlen qcap qr qVA qvl qvc qn1 qlost qofr qbyr qset qfull qCA qcl qcc qNA qnl qnc,b=c16 qkind qhome qk qn qs qA qlen qcap qr qVA qvl qvc qn1 qlost qofr qbyr qset qfull qCA qcl qcc qNA qnl qnc):∃qkind qhome qk qn qs qA qlen qcap qr qVA qvl qvc qn1 qlost qofr qbyr qset qfull qCA qcl qcc qNA qnl qnc,(if c then a else b)=c16 qkind qhome qk qn qs qA qlen qcap qr qVA qvl qvc qn1 qlost qofr qbyr qset qfull qCA qcl qcc qNA qnl qnc:=by
 split
 .exact h1
 .exact h2
theorem zdx (kind home k n:Int) (s:ByteArray) (A:Option Addr) (len cap:Nat) (r:Int) (VA:Option Addr) (vl vc:Nat) (n1 lost ofr byr set:Int) (full:Bool) (CA:Option Addr) (cl cc:Nat) (NA:Option Addr) (nl nc:Nat):∃qkind qhome qk qn qs qA qlen qcap qr qVA qvl qvc qn1 qlost qofr qbyr qset qfull qCA qcl qcc qNA qnl qnc,zbv kind home k n s A len cap r VA vl vc n1 lost ofr byr set full CA cl cc NA nl nc=c16 qkind qhome qk qn qs qA qlen qcap qr qVA qvl qvc qn1 qlost qofr qbyr qset qfull qCA qcl qcc qNA qnl qnc:=by
 unfold zbv;repeat(refine zx1 (ztf _ _ _ _ _ _ _ _ _ _ _ _ _ _ _ _ _ _ _ _ _ _ _ _) ?_)
 exact ztf _ _ _ _ _ _ _ _ _ _ _ _ _ _ _ _ _ _ _ _ _ _ _ _
theorem zcr {w:World} {g:Nat} {t:TypeId} {cs cs':Array Value} (h:Blk w g t cs) (e:cs=cs'):Blk w g t cs':=e▸h
end Go.Proofs.YtlejelbefmkakaaGreat

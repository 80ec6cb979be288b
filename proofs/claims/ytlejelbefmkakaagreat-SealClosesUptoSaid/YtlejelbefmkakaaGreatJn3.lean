/- Texts joined: Wo2. -/
import Derived.Test.YtlejelbefmkakaaGreatJn2
import Derived.Deep.Cut
import Derived.Deep.CutRange
import Derived.Deep.RegionHeld3
set_option maxHeartbeats 4000000
set_option maxRecDepth 100000
namespace Go.Proofs.YtlejelbefmkakaaGreat
open Go.RowKit
def zat (kind home k n:Int) (s:ByteArray) (A:Option Addr) (len cap:Nat) (r n1 lost ofr byr set:Int) (full:Bool):Array Value:=
 #[.int .u8 kind,.int .i64 home,.int .u8 k,.int .i64 n,.string s,.slice A len cap,.int .i64 r,.slice none 0 0,.int .i64 n1,.int .i64 lost,.int .i64 ofr,.int .i64 byr,.int .u8 set,.bool full,.slice none 0 0,.slice none 0 0]
def Th.Pl (x:Th):Prop:=x.n=0/\x.lost=0/\x.set=0/\
 ((x.kind=1/\x.ofr=0/\x.byr=0/\x.full=false)\/(x.kind=2/\x.ofr=0/\x.byr=0/\x.full=false/\x.v=T.zero)\/(x.kind=5/\x.ofr=0/\x.byr=0/\x.full=false/\x.v=T.zero)\/
  (x.kind=6/\x.byr=0/\x.full=false/\x.v=T.zero)\/(x.kind=7/\x.byr=0/\x.full=false)\/(x.kind=13/\x.byr=0/\x.v=T.zero)\/(x.kind=15/\x.full=false/\x.v=T.zero))
theorem zy0 (home:Int) (W:World):
 Calls Tryz.prog 207 #[.agg (zat 5 home 0 0 ⟨#[]⟩ none 0 0 0 0 0 0 0 0 false)] W λe w'=>e= .returned (.agg (zat 5 home 0 0 ⟨#[]⟩ none 0 0 0 0 0 0 0 0 false))/\Fr No W w':=by
 unfold zat;go_enter Tryz.func207,Tryz.ntmps207;go_wp2_with fail;refine bodyPost_ret (v:=.agg (zat 5 home 0 0 ⟨#[]⟩ none 0 0 0 0 0 0 0 0 false)) (by simp[results,Tryz.results207,zat,go_sem, *]) rfl ⟨rfl,?_⟩;repeat(first|with_reducible exact Fr.refl No W|with_reducible refine Fr.drew ?_ |with_reducible refine Fr.alloc ?_ _|with_reducible refine Fr.setNew ?_ (by first|(simp;done)|(simp;omega)) _)
theorem zy1 (home:Int) (ofr:Int) (W:World):
 Calls Tryz.prog 207 #[.agg (zat 6 home 0 0 ⟨#[]⟩ none 0 0 0 0 0 ofr 0 0 false)] W λe w'=>e= .returned (.agg (zat 6 home 0 0 ⟨#[]⟩ none 0 0 0 0 0 ofr 0 0 false))/\Fr No W w':=by
 unfold zat;go_enter Tryz.func207,Tryz.ntmps207;go_wp2_with fail;refine bodyPost_ret (v:=.agg (zat 6 home 0 0 ⟨#[]⟩ none 0 0 0 0 0 ofr 0 0 false)) (by simp[results,Tryz.results207,zat,go_sem, *]) rfl ⟨rfl,?_⟩;repeat(first|with_reducible exact Fr.refl No W|with_reducible refine Fr.drew ?_ |with_reducible refine Fr.alloc ?_ _|with_reducible refine Fr.setNew ?_ (by first|(simp;done)|(simp;omega)) _)
theorem zy2 (home:Int) (k n:Int) (s:ByteArray) (A:Option Addr) (len cap:Nat) (r:Int) (ofr:Int) (W:World):
 Calls Tryz.prog 207 #[.agg (zat 7 home k n s A len cap r 0 0 ofr 0 0 false)] W λe w'=>e= .returned (.agg (zat 7 home k n s A len cap r 0 0 ofr 0 0 false))/\Fr No W w':=by
 unfold zat;go_enter Tryz.func207,Tryz.ntmps207;go_upto_region 14 with(fail);go_region
 all_goals
  go_simp;go_wp2_with fail;refine bodyPost_ret (v:=.agg (zat 7 home k n s A len cap r 0 0 ofr 0 0 false)) (by simp[results,Tryz.results207,zat,go_sem, *]) rfl ⟨rfl,?_⟩;repeat(first|with_reducible exact Fr.refl No W|with_reducible refine Fr.drew ?_ |with_reducible refine Fr.alloc ?_ _|with_reducible refine Fr.setNew ?_ (by first|(simp;done)|(simp;omega)) _)
end Go.Proofs.YtlejelbefmkakaaGreat

/- Texts joined: Eb4. -/
import Derived.Test.YtlejelbefmkakaaGreatJn1
import Derived.Test.YtlejelbefmkakaaGreatJn33
import Derived.Test.YtlejelbefmkakaaGreatJn35
import Derived.Test.YtlejelbefmkakaaGreatJn36
import Derived.Deep.Cut
import Derived.Deep.CutRange
set_option maxHeartbeats 16000000
set_option maxRecDepth 100000
namespace Go.Proofs.YtlejelbefmkakaaGreat
open Go.RowKit
def Tg.yb (x:Tg):Tg:=
 ⟨x.kind,if x.kind=14 then 0 else x.home,if x.kind=1\/x.kind=7\/x.kind=10 then x.v else T.zero,none,0,[],if x.kind=3\/x.kind=8\/x.kind=9 then x.n else 0,if x.kind=8 then x.lost else 0,
  if x.kind=6\/x.kind=7\/x.kind=9\/x.kind=11\/x.kind=13\/x.kind=14\/x.kind=15\/x.kind=16 then x.ofr else 0,if x.kind=15\/x.kind=16 then x.byr else 0,if x.kind=14 then x.set else 0,if x.kind=10\/x.kind=13 then x.full else false,none,0,[],none,0,[]⟩
def V.kd:V->Int
 | .mk k _ _ _ _=>k
theorem T.kd_mk (k n:Int) (s:ByteArray) (A:Option Addr) (cap:Nat) (l:List T) (r:Int):(T.mk k n s A cap l r).v.kd=k:=by rw[T.v_mk];rfl
def Tg.q7 (x:Tg):Bool:=decide (x.kind=2\/x.kind=4)
def Tg.q8 (x:Tg):Bool:=decide (x.kind=12)
structure Tg.Kc (x:Tg):Prop where
 list:x.kind=2\/x.kind=4->x.vs.length<=512/\(T.row x.VA x.vc x.vs).v.may=true
 mint:x.kind=8->0<=x.lost/\x.lost<=x.n
 prom:x.kind=10->x.full=true\/x.v.v.kd=0
 clerk:x.kind=12->x.names.length<=64/\∀y∈x.names,y.2.v.may=true
structure Tg.Eqs (x y:Tg):Prop where
 home:x.home=y.home
 v:x.v.v=y.v.v
 n:x.n=y.n
 lost:x.lost=y.lost
 ofr:x.ofr=y.ofr
 byr:x.byr=y.byr
 set:x.set=y.set
 full:x.full=y.full
 vs:x.q7=true\/x.vs.length=0
 names:x.q8=true\/x.names.length=0
 code:x.q8=true\/x.code.length=0
structure Tg.RForm (sides:Nat) (x:Tg):Prop where
 kind:1<=x.kind/\x.kind<=16
 side:x.kind≠14->0<=x.home/\x.home<(sides:Int)
 kc:x.Kc
 num:0<=x.n/\x.n<=9007199254740992
 may:x.v.v.may=true
 eqs:x.Eqs x.yb
def zgr (sides:Nat) (x:Tg) (w:World) (e:Ending) (w':World):Prop:=∃q:Bool,e= .returned (.bool q)/\(q=true↔x.RForm sides)/\Fr No w w'
theorem zgr.no {sides:Nat} {x:Tg} {w w':World} (h:¬x.RForm sides) (f:Fr No w w'):zgr sides x w (.returned (.bool false)) w':=⟨false,rfl,⟨nofun,λhh=>absurd hh h⟩,f⟩
theorem zt9 (w:World) (lo hi:Nat):T.zero.In w lo hi:=T.in_mk.2 ⟨⟨by decide,by decide,by decide,by decide,by decide,by decide,Nat.le_refl _,by decide,by decide⟩,λh=>absurd rfl h,by simp⟩
theorem zq4 {l:List Nm} {j:Nat} (hj:j<l.length) (h:l[j].2.v.may=false):¬∀y∈l,y.2.v.may=true:=λhh=>by
 rw[hh _ (List.getElem_mem hj)]at h;cases h
theorem zaz {w:World} {g:Nat} {t:TypeId} {cs cs':Array Value} (h:Blk w g t cs) (e:cs=cs'):Blk w g t cs':=e▸h
theorem zb2 {x:Tg} (h2:x.kind≠2) (h4:x.kind≠4) (h8:x.kind≠8) (h10:x.kind≠10) (h12:x.kind≠12):x.Kc:=
 ⟨λh=>h.elim (λh=>absurd h h2) λh=>absurd h h4,λh=>absurd h h8,λh=>absurd h h10,λh=>absurd h h12⟩
theorem zua (x:Tg) (sides:Nat) (w:World) (lo hi:Nat) (hx:x.In w lo hi) (hh:hi<=w.heap.size) (hsh:x.short=true) (_hsd:sides<=1000000):
 Calls Tryz.prog 175 #[x.val,.int .i64 (sides:Int)] w (zgr sides x w):=by
 obtain⟨yb,i4⟩:∃b,x.yb=b:=⟨_,rfl⟩;have l0:x.RForm sides↔((1<=x.kind/\x.kind<=16)/\(x.kind≠14->0<=x.home/\x.home<(sides:Int))/\x.Kc/\(0<=x.n/\x.n<=9007199254740992)/\x.v.v.may=true/\x.Eqs yb):=by
  rw[<-i4];exact⟨λ⟨a,b,c,d,e,f⟩=>⟨a,b,c,d,e,f⟩,λ⟨a,b,c,d,e,f⟩=>⟨a,b,c,d,e,f⟩⟩
 have l5:∀W',Fr No w W'->¬x.RForm sides->zgr sides x w (.returned (.bool false)) W':=λW' f h=>zgr.no h f;have h7:∀W',Fr No w W'->x.RForm sides->zgr sides x w (.returned (.bool true)) W':=λW' f h=>⟨true,rfl,⟨λ_=>h,λ_=>rfl⟩,f⟩;obtain⟨Q0,p3⟩:∃Q0,zgr sides x w=Q0:=⟨_,rfl⟩;rw[p3]at l5 h7 ⊢;clear p3;obtain⟨RF,o7⟩:∃R,x.RForm sides=R:=⟨_,rfl⟩;rw[o7]at l0 l5 h7;clear o7;have g1:=hx.fit;have a7:x.vs.length<=1024/\x.names.length<=128/\(x.code.map G.ssz).sum<=512/\x.code.all G.sok=true:=by
  unfold Tg.short at hsh;simp only[Bool.and_eq_true,decide_eq_true_eq]at hsh;exact⟨hsh.1,hsh.2.1,hsh.2.2.1,hsh.2.2.2.1⟩
 have l1:=λW' (f:Fr No w W')=>zgi x.v W' lo hi (hx.v.no f hh) (Nat.le_trans hh f.size);have m4:=λ(y:Nm) (hy:y∈x.names) W' (f:Fr No w W')=>zgi y.2 W' lo hi ((hx.names.inn y hy).2.no f hh) (Nat.le_trans hh f.size);have l9:=λW' (f:Fr No w W')=>zgi (T.row x.VA x.vc x.vs) W' lo hi (hx.vs.no f hh) (Nat.le_trans hh f.size);have m9:=λW' (f:Fr No w W')=>zli x.code W' lo hi x.CA x.cc (hx.code.no f hh) (Nat.le_trans hh f.size) (by have:=a7.2.2.1;omega);have m2:=λW' (f:Fr No w W')=>zfx x.code W' lo hi x.CA x.cc (hx.code.no f hh) (Nat.le_trans hh f.size);have j3:yb.v=x.v\/yb.v=T.zero:=by
  rw[<-i4];show(if x.kind=1\/x.kind=7\/x.kind=10 then x.v else T.zero)=x.v\/(if x.kind=1\/x.kind=7\/x.kind=10 then x.v else T.zero)=T.zero;split
  .exact .inl rfl
  .exact .inr rfl
 have o3:∀W',Fr No w W'->yb.v.In W' lo hi:=λW' f=>by
  rcases j3 with e|e<;>rw[e]
  .exact hx.v.no f hh
  .exact zt9 W' lo hi
 have j6:=λW' (f:Fr No w W')=>zp0 x.v yb.v W' lo hi lo hi (hx.v.no f hh) (Nat.le_trans hh f.size) (o3 W' f) (Nat.le_trans hh f.size);have m7:=hx.names;have f7:yb.home=if x.kind=14 then 0 else x.home:=by rw[<-i4];rfl
 have f8:x.kind=yb.kind/\yb.VA=none/\yb.vc=0/\yb.vs=[]/\yb.CA=none/\yb.cc=0/\yb.code=[]/\yb.NA=none/\yb.nc=0/\yb.names=[]:=by rw[<-i4];exact⟨rfl,rfl,rfl,rfl,rfl,rfl,rfl,rfl,rfl,rfl⟩
 obtain⟨kind,home,⟨k,n,s,A,cap,l,r⟩,VA,vc,vs,n1,lost,ofr,byr,set,full,CA,cc,code,NA,nc,names⟩:=x;obtain⟨r9,yh,⟨yk,yn,ys,yA,g4,yl,yr⟩,s0,r7,s5,k6,c4,g0,g2,g3,c3,s2,r8,o0,r6,v2,m8⟩:=yb;simp only at f8;obtain⟨rfl,rfl,rfl,rfl,rfl,rfl,rfl,rfl,rfl,rfl⟩:=f8;have j1:(Tg.val ⟨kind,home,T.mk k n s A cap l r,VA,vc,vs,n1,lost,ofr,byr,set,full,CA,cc,code,NA,nc,names⟩)= .agg #[.int .u8 kind,.int .i64 home,.int .u8 k,.int .i64 n,.string s,.slice A l.length cap,.int .i64 r,.slice VA vs.length vc,.int .i64 n1,.int .i64 lost,.int .i64 ofr,.int .i64 byr,.int .u8 set,.bool full,.slice CA code.length cc,.slice NA names.length nc]:=rfl;rw[j1];have m1:=Blk.new w 138 #[.int .u8 kind,.int .i64 home,.int .u8 k,.int .i64 n,.string s,.slice A l.length cap,.int .i64 r,.slice VA vs.length vc,.int .i64 n1,.int .i64 lost,.int .i64 ofr,.int .i64 byr,.int .u8 set,.bool full,.slice CA code.length cc,.slice NA names.length nc];have o2:=(Fr.refl No w).alloc (.cells #[.int .u8 kind,.int .i64 home,.int .u8 k,.int .i64 n,.string s,.slice A l.length cap,.int .i64 r,.slice VA vs.length vc,.int .i64 n1,.int .i64 lost,.int .i64 ofr,.int .i64 byr,.int .u8 set,.bool full,.slice CA code.length cc,.slice NA names.length nc] 138);have j4:(T.row VA vc vs).val= .agg #[.int .u8 3,.int .i64 0,.string ⟨#[]⟩,.slice VA vs.length vc,.int .i64 0]:=rfl;simp only at f7 a7 l1 m4 l9 m9 m2 j6 m7 g1 i4 l0;have p9:=g1.kind.1;have q3:=g1.kind.2;simp only at p9 q3;rw[T.val_mk]at l1 j6;rw[T.val_mk]at j6;rw[j4]at l9;generalize n2:(T.row VA vc vs).v.may=ml at*;generalize o9:(T.mk k n s A cap l r).v.may=mx at*;have k9:=zaa n2;have v4:=zaa o9;have HX:=zaa hx;have o8:=zaa hh;have a4:=zaa l0;have a6:=zaa l5;have g9:=zaa h7;have p4:=zaa l1;have r5:=zaa m4;have p1:=zaa l9;have p8:=zaa m9;have r0:=zaa m2;have q2:=zaa j6;have p5:=zaa m7;have p6:=zaa i4;have k7:=zaa a7;have f1:=zaa f7;have p7:=zaa g1;have k1:=zaa m1;have m5:=zaa o2;have s4:vs.length<=1024:=a7.1;have s1:names.length<=128:=a7.2.1;have v0:code.length*256<=140737488351232:=hx.code.len1;clear l0 l5 h7 l1 m4 l9 m9 m2 j6 m7 i4 a7 f7 g1 m1 o2 j4 j1 hx hh hsh j3 o3 n2 o9;go_enter Tryz.func175,Tryz.ntmps175;go_upto_region 1 with(fail);generalize World.alloc w _=W0 at*;obtain⟨d0,d1,d2,d3,d4,d5,d6,d7,d8,d9,c1,c2,c6,c5,b9,b8⟩:=k1.out.cells16;have dq:=k1.out.lt;go_upto_region 3 with(fail);have o5:=Blk.new W0 138 #[.int .u8 kind,.int .i64 0,.int .u8 0,.int .i64 0,.string ⟨#[]⟩,.slice none 0 0,.int .i64 0,.slice none 0 0,.int .i64 0,.int .i64 0,.int .i64 0,.int .i64 0,.int .u8 0,.bool false,.slice none 0 0,.slice none 0 0];have n0:=(Fr.refl No W0).alloc (.cells #[.int .u8 kind,.int .i64 0,.int .u8 0,.int .i64 0,.string ⟨#[]⟩,.slice none 0 0,.int .i64 0,.slice none 0 0,.int .i64 0,.int .i64 0,.int .i64 0,.int .i64 0,.int .u8 0,.bool false,.slice none 0 0,.slice none 0 0] 138);have k0:=zaa (k1.out.fr n0 λh=>h);have j0:=zaa o5;have k2:=zaa (m5.out.trans n0);have l2:=zaa (show W0.heap.size≠w.heap.size by have:=k1.out.lt;omega);have m0:=zaa (show w.heap.size<=W0.heap.size from m5.out.size);clear o5 n0 k1 m5 d0 d1 d2 d3 d4 d5 d6 d7 d8 d9 c1 c2 c6 c5 b9 b8 dq;generalize q4:W0.heap.size=gy at*;generalize World.alloc W0 _=W1 at*;clear q4;by_cases h1:kind<1
 .have t1:decide (kind<1)=true:=by simpa using h1
  have HH:=zaa h1;clear h1;go_wp2_with fail;exact a6.out _ k2.out λh=>by have:=(a4.out.1 h).1;have:=HH.out;omega
 have t1:decide (kind<1)=false:=by simpa using h1
 by_cases h2:16<kind
 .have t2:decide ((16:Int)<kind)=true:=by simpa using h2
  have HH:=zaa h2;clear h1 h2;go_wp2_with fail;exact a6.out _ k2.out λh=>by have:=(a4.out.1 h).1;have:=HH.out;omega
 have t2:decide ((16:Int)<kind)=false:=by simpa using h2
 have HK:=zaa (show 1<=kind/\kind<=16 by omega);go_upto_if 24 with(fail);go_cut []from 11 to 36 (λwx=>Hid (kind≠14->0<=home/\home<(sides:Int))/\Blk wx w.heap.size 138 #[.int .u8 kind,.int .i64 home,.int .u8 k,.int .i64 n,.string s,.slice A l.length cap,.int .i64 r,.slice VA vs.length vc,.int .i64 n1,.int .i64 lost,.int .i64 ofr,.int .i64 byr,.int .u8 set,.bool full,.slice CA code.length cc,.slice NA names.length nc]/\Blk wx gy 138 #[.int .u8 kind,.int .i64 yh,.int .u8 0,.int .i64 0,.string ⟨#[]⟩,.slice none 0 0,.int .i64 0,.slice none 0 0,.int .i64 0,.int .i64 0,.int .i64 0,.int .i64 0,.int .u8 0,.bool false,.slice none 0 0,.slice none 0 0]/\Fr No w wx)
 case first=>
  obtain⟨d0,d1,d2,d3,d4,d5,d6,d7,d8,d9,c1,c2,c6,c5,b9,b8⟩:=k0.out.cells16;have dq:=k0.out.lt;obtain⟨e0,e1,e2,e3,e4,e5,e6,e7,e8,e9,h0,g8,g6,g7,i1,i0⟩:=j0.out.cells16;have i5:=j0.out.lt;have ez:=j0.out.frozen;by_cases i8:kind=14
  .have q6:(kind !=14)=false:=by simpa using i8
   have HH:=zaa i8;clear h1 h2 i8;go_wp2_with fail;go_meet
   case rel=>exact⟨zaa λh=>absurd HH.out h,k0.out,by have h:=j0.out;rw[f1.out,if_pos HH.out];exact h,k2.out⟩
  have q6:(kind !=14)=true:=by simpa using i8
  have HH:=zaa i8;clear h1 h2 i8;have fs:Fr (λi=>i=gy) W1 (W1.setCell ⟨gy,1,none⟩ (.int .i64 home)):=(Fr.refl (λi=>i=gy) W1).set (λ_=>rfl) _;have n8:=k0.out.fr fs λh=>l2.out h.symm;have n5:=j0.out.set_ 1 (.int .i64 home);have p0:=k2.out.trans' fs λi hi h=>by have h':i=gy:=h;have:=m0.out;omega
  have f4:=zaa n8;have i2:=zaa (show Blk (W1.setCell ⟨gy,1,none⟩ (.int .i64 home)) gy 138 #[.int .u8 kind,.int .i64 yh,.int .u8 0,.int .i64 0,.string ⟨#[]⟩,.slice none 0 0,.int .i64 0,.slice none 0 0,.int .i64 0,.int .i64 0,.int .i64 0,.int .i64 0,.int .u8 0,.bool false,.slice none 0 0,.slice none 0 0] by rw[f1.out,if_neg HH.out];simpa using n5);have f0:=zaa p0;have c0:=l2.out;clear fs n8 n5 p0;go_upto_region 7 with(fail);generalize World.setCell W1 _ _=W2 at*;clear d0 d1 d2 d3 d4 d5 d6 d7 d8 d9 c1 c2 c6 c5 b9 b8 dq e0 e1 e2 e3 e4 e5 e6 e7 e8 e9 h0 g8 g6 g7 i1 i0 i5 ez;obtain⟨d0,d1,d2,d3,d4,d5,d6,d7,d8,d9,c1,c2,c6,c5,b9,b8⟩:=f4.out.cells16;have dq:=f4.out.lt;by_cases i9:home<0
  .have u0:decide (home<0)=true:=by simpa using i9
   have HS:=zaa i9;clear i9;go_wp2_with fail;exact a6.out _ f0.out λh=>by have:=(a4.out.1 h).2.1 HH.out;have:=HS.out;omega
  have u0:decide (home<0)=false:=by simpa using i9
  by_cases j2:(sides:Int)<=home
  .have u1:decide ((sides:Int)<=home)=true:=by simpa using j2
   have HS:=zaa j2;clear j2 i9;go_wp2_with fail;exact a6.out _ f0.out λh=>by have:=(a4.out.1 h).2.1 HH.out;have:=HS.out;omega
  have u1:decide ((sides:Int)<=home)=false:=by simpa using j2
  have HS:=zaa (show 0<=home/\home<(sides:Int) by omega);clear j2 i9;go_wp2_with fail;go_meet
  case rel=>exact⟨zaa λ_=>HS.out,f4.out,i2.out,f0.out⟩
 case rest=>
  obtain⟨c8,j8,i6,k4⟩:=hcut;clear k0 j0 k2 h1 h2 t1 t2;have a9:=zaa j8;have a5:=zaa i6
  have a8:=zaa k4;have c0:=l2.out;have b1:=m0.out;clear j8 i6 k4 l2 m0 W0;go_upto_block 0 with(fail);go_cut [7,8,9]from 10 to 176 (λs7 s8 s9 wy=>(s7= .bool (Tg.q7 ⟨kind,home,T.mk k n s A cap l r,VA,vc,vs,n1,lost,ofr,byr,set,full,CA,cc,code,NA,nc,names⟩)/\s8= .bool (Tg.q8 ⟨kind,home,T.mk k n s A cap l r,VA,vc,vs,n1,lost,ofr,byr,set,full,CA,cc,code,NA,nc,names⟩)/\s9= .bool (Tg.q8 ⟨kind,home,T.mk k n s A cap l r,VA,vc,vs,n1,lost,ofr,byr,set,full,CA,cc,code,NA,nc,names⟩))/\Hid (Tg.Kc ⟨kind,home,T.mk k n s A cap l r,VA,vc,vs,n1,lost,ofr,byr,set,full,CA,cc,code,NA,nc,names⟩)/\Blk wy w.heap.size 138 #[.int .u8 kind,.int .i64 home,.int .u8 k,.int .i64 n,.string s,.slice A l.length cap,.int .i64 r,.slice VA vs.length vc,.int .i64 n1,.int .i64 lost,.int .i64 ofr,.int .i64 byr,.int .u8 set,.bool full,.slice CA code.length cc,.slice NA names.length nc]/\Blk wy gy 138 (Tg.yb ⟨kind,home,T.mk k n s A cap l r,VA,vc,vs,n1,lost,ofr,byr,set,full,CA,cc,code,NA,nc,names⟩).cells.toArray/\Fr No w wy)
  case first=>
   obtain⟨d0,d1,d2,d3,d4,d5,d6,d7,d8,d9,c1,c2,c6,c5,b9,b8⟩:=a9.out.cells16;have dq:=a9.out.lt;obtain⟨e0,e1,e2,e3,e4,e5,e6,e7,e8,e9,h0,g8,g6,g7,i1,i0⟩:=a5.out.cells16;have i5:=a5.out.lt;have ez:=a5.out.frozen;have q9:kind=1\/kind=2\/kind=3\/kind=4\/kind=5\/kind=6\/kind=7\/kind=8\/kind=9\/kind=10\/kind=11\/kind=12\/kind=13\/kind=14\/kind=15\/kind=16:=by have:=HK.out;omega
   have a3:=f1.out;rcases q9 with rfl|rfl|rfl|rfl|rfl|rfl|rfl|rfl|rfl|rfl|rfl|rfl|rfl|rfl|rfl|rfl
   .obtain rfl:home=yh:=by simpa using a3.symm
    clear a3;go_wp2_with fail;go_meet
    case rel=>
     refine⟨⟨rfl,rfl,rfl⟩,zaa (zb2 s_ s_ s_ s_ s_),?_,?_,?_⟩
     .repeat(first|with_reducible exact a9.out|with_reducible refine Blk.drew ?_ |refine Blk.far ?_ c0.symm _)
     .with_reducible refine zaz (((((a5.out.set_ 2 (.int .u8 k)).set_ 3 (.int .i64 n)).set_ 4 (.string s)).set_ 5 (.slice A l.length cap)).set_ 6 (.int .i64 r)) ?_
      first|rfl|simp[Tg.yb,Tg.cells,T.cells,T.zero]
     .repeat(first|with_reducible exact a8.out|with_reducible refine Fr.drew ?_ |refine Fr.setNew ?_ b1 _)
   .obtain rfl:home=yh:=by simpa using a3.symm
    clear a3;by_cases hv:512<vs.length
    .have u0:decide ((512:Int)<(vs.length:Int))=true:=so_;have HV:=zaa hv;clear hv;go_wp2_with fail;exact a6.out _ a8.out λh=>by have h1:=((a4.out.1 h).2.2.1.list s_).1;have:=HV.out;simp only at h1;omega
    have u0:decide ((512:Int)<(vs.length:Int))=false:=so_;have HV:=zaa (show vs.length<=512 by omega);clear hv;go_wp2_with fail;refine(zj0 VA vs.length vc _).mono ?_;rintro e w2 ⟨rfl,f2⟩;have f0:=zaa (a8.out.trans f2);have f4:=zaa (a9.out.fr f2 λh=>h);have i2:=zaa (a5.out.fr f2 λh=>h);clear f2;go_wp2_with fail;refine(p1.out w2 f0.out).mono ?_;rintro e w3 ⟨rfl,f3⟩;have h3:=zaa (f0.out.trans f3);have i3:=zaa (f4.out.fr f3 λh=>h);have k8:=zaa (i2.out.fr f3 λh=>h);clear f3 d0 d1 d2 d3 d4 d5 d6 d7 d8 d9 c1 c2 c6 c5 b9 b8 dq e0 e1 e2 e3 e4 e5 e6 e7 e8 e9 h0 g8 g6 g7 i1 i0 i5 ez;cases ml
    .go_wp2_with fail;exact a6.out _ h3.out λh=>by have h1:=((a4.out.1 h).2.2.1.list s_).2;rw[k9.out]at h1;cases h1
    go_wp2_with fail;go_meet
    case rel=>
     refine⟨⟨rfl,rfl,rfl⟩,zaa (⟨λ_=>⟨HV.out,k9.out⟩,λh=>absurd h s_,λh=>absurd h s_,λh=>absurd h s_⟩),?_,?_,?_⟩
     .repeat(first|with_reducible exact i3.out|with_reducible refine Blk.drew ?_ |refine Blk.far ?_ c0.symm _)
     .with_reducible refine zaz k8.out ?_
      first|rfl|simp[Tg.yb,Tg.cells,T.cells,T.zero]
     .repeat(first|with_reducible exact h3.out|with_reducible refine Fr.drew ?_ |refine Fr.setNew ?_ b1 _)
   .obtain rfl:home=yh:=by simpa using a3.symm
    clear a3;go_wp2_with fail;go_meet
    case rel=>
     refine⟨⟨rfl,rfl,rfl⟩,zaa (zb2 s_ s_ s_ s_ s_),?_,?_,?_⟩
     .repeat(first|with_reducible exact a9.out|with_reducible refine Blk.drew ?_ |refine Blk.far ?_ c0.symm _)
     .with_reducible refine zaz (a5.out.set_ 8 (.int .i64 n1)) ?_
      first|rfl|simp[Tg.yb,Tg.cells,T.cells,T.zero]
     .repeat(first|with_reducible exact a8.out|with_reducible refine Fr.drew ?_ |refine Fr.setNew ?_ b1 _)
   .obtain rfl:home=yh:=by simpa using a3.symm
    clear a3;by_cases hv:512<vs.length
    .have u0:decide ((512:Int)<(vs.length:Int))=true:=so_;have HV:=zaa hv;clear hv;go_wp2_with fail;exact a6.out _ a8.out λh=>by have h1:=((a4.out.1 h).2.2.1.list s_).1;have:=HV.out;simp only at h1;omega
    have u0:decide ((512:Int)<(vs.length:Int))=false:=so_;have HV:=zaa (show vs.length<=512 by omega);clear hv;go_wp2_with fail;refine(zj0 VA vs.length vc _).mono ?_;rintro e w2 ⟨rfl,f2⟩;have f0:=zaa (a8.out.trans f2);have f4:=zaa (a9.out.fr f2 λh=>h);have i2:=zaa (a5.out.fr f2 λh=>h);clear f2;go_wp2_with fail;refine(p1.out w2 f0.out).mono ?_;rintro e w3 ⟨rfl,f3⟩;have h3:=zaa (f0.out.trans f3);have i3:=zaa (f4.out.fr f3 λh=>h);have k8:=zaa (i2.out.fr f3 λh=>h);clear f3 d0 d1 d2 d3 d4 d5 d6 d7 d8 d9 c1 c2 c6 c5 b9 b8 dq e0 e1 e2 e3 e4 e5 e6 e7 e8 e9 h0 g8 g6 g7 i1 i0 i5 ez;cases ml
    .go_wp2_with fail;exact a6.out _ h3.out λh=>by have h1:=((a4.out.1 h).2.2.1.list s_).2;rw[k9.out]at h1;cases h1
    go_wp2_with fail;go_meet
    case rel=>
     refine⟨⟨rfl,rfl,rfl⟩,zaa (⟨λ_=>⟨HV.out,k9.out⟩,λh=>absurd h s_,λh=>absurd h s_,λh=>absurd h s_⟩),?_,?_,?_⟩
     .repeat(first|with_reducible exact i3.out|with_reducible refine Blk.drew ?_ |refine Blk.far ?_ c0.symm _)
     .with_reducible refine zaz k8.out ?_
      first|rfl|simp[Tg.yb,Tg.cells,T.cells,T.zero]
     .repeat(first|with_reducible exact h3.out|with_reducible refine Fr.drew ?_ |refine Fr.setNew ?_ b1 _)
   .obtain rfl:home=yh:=by simpa using a3.symm
    clear a3;go_wp2_with fail;go_meet
    case rel=>
     refine⟨⟨rfl,rfl,rfl⟩,zaa (zb2 s_ s_ s_ s_ s_),?_,?_,?_⟩
     .repeat(first|with_reducible exact a9.out|with_reducible refine Blk.drew ?_ |refine Blk.far ?_ c0.symm _)
     .with_reducible refine zaz a5.out ?_
      first|rfl|simp[Tg.yb,Tg.cells,T.cells,T.zero]
     .repeat(first|with_reducible exact a8.out|with_reducible refine Fr.drew ?_ |refine Fr.setNew ?_ b1 _)
   .obtain rfl:home=yh:=by simpa using a3.symm
    clear a3;go_wp2_with fail;go_meet
    case rel=>
     refine⟨⟨rfl,rfl,rfl⟩,zaa (zb2 s_ s_ s_ s_ s_),?_,?_,?_⟩
     .repeat(first|with_reducible exact a9.out|with_reducible refine Blk.drew ?_ |refine Blk.far ?_ c0.symm _)
     .with_reducible refine zaz (a5.out.set_ 10 (.int .i64 ofr)) ?_
      first|rfl|simp[Tg.yb,Tg.cells,T.cells,T.zero]
     .repeat(first|with_reducible exact a8.out|with_reducible refine Fr.drew ?_ |refine Fr.setNew ?_ b1 _)
   .obtain rfl:home=yh:=by simpa using a3.symm
    clear a3;go_upto_region 24 with(fail);go_region
    all_goals
     go_wp2_with fail;go_meet
     case rel=>
      refine⟨⟨rfl,rfl,rfl⟩,zaa (zb2 s_ s_ s_ s_ s_),?_,?_,?_⟩
      .repeat(first|with_reducible exact a9.out|with_reducible refine Blk.drew ?_ |refine Blk.far ?_ c0.symm _)
      . (first|(with_reducible refine zaz (Blk.drew ((((((a5.out.set_ 10 (.int .i64 ofr)).set_ 2 (.int .u8 k)).set_ 3 (.int .i64 n)).set_ 4 (.string s)).set_ 5 (.slice A l.length cap)).set_ 6 (.int .i64 r))) ?_)|(with_reducible refine zaz (Blk.drew ((((((a5.out.set_ 2 (.int .u8 k)).set_ 3 (.int .i64 n)).set_ 4 (.string s)).set_ 5 (.slice A l.length cap)).set_ 6 (.int .i64 r)).set_ 10 (.int .i64 ofr))) ?_))
        first|rfl|simp[Tg.yb,Tg.cells,T.cells,T.zero]
      .repeat(first|with_reducible exact a8.out|with_reducible refine Fr.drew ?_ |refine Fr.setNew ?_ b1 _)
   .obtain rfl:home=yh:=by simpa using a3.symm
    clear a3;go_upto_region 26 with(fail);go_region
    all_goals
     by_cases h1:lost<0
     .have u1:decide (lost<0)=true:=by simpa using h1
      have HV:=zaa h1;clear h1;go_wp2_with fail;refine a6.out _ ?_ λh=>by have h1:=((a4.out.1 h).2.2.1.mint rfl).1;have:=HV.out;simp only at h1;omega
      repeat(first|with_reducible exact a8.out|with_reducible refine Fr.drew ?_ |refine Fr.setNew ?_ b1 _)
     have u1:decide (lost<0)=false:=by simpa using h1
     by_cases h2:n1<lost
     .have u2:decide (n1<lost)=true:=by simpa using h2
      have HV:=zaa h2;clear h1 h2;go_wp2_with fail;refine a6.out _ ?_ λh=>by have h1:=((a4.out.1 h).2.2.1.mint rfl).2;have:=HV.out;simp only at h1;omega
      repeat(first|with_reducible exact a8.out|with_reducible refine Fr.drew ?_ |refine Fr.setNew ?_ b1 _)
     have u2:decide (n1<lost)=false:=by simpa using h2
     have HV:=zaa (show 0<=lost/\lost<=n1 by omega);clear h1 h2;go_wp2_with fail;go_meet
     case rel=>
      refine⟨⟨rfl,rfl,rfl⟩,zaa (⟨λh=>absurd h s_,λ_=>HV.out,λh=>absurd h s_,λh=>absurd h s_⟩),?_,?_,?_⟩
      .repeat(first|with_reducible exact a9.out|with_reducible refine Blk.drew ?_ |refine Blk.far ?_ c0.symm _)
      . (first|(with_reducible refine zaz (Blk.drew ((a5.out.set_ 8 (.int .i64 n1)).set_ 9 (.int .i64 lost))) ?_)|(with_reducible refine zaz (Blk.drew ((a5.out.set_ 9 (.int .i64 lost)).set_ 8 (.int .i64 n1))) ?_))
        first|rfl|simp[Tg.yb,Tg.cells,T.cells,T.zero]
      .repeat(first|with_reducible exact a8.out|with_reducible refine Fr.drew ?_ |refine Fr.setNew ?_ b1 _)
   .obtain rfl:home=yh:=by simpa using a3.symm
    clear a3;go_upto_region 30 with(fail);go_region
    all_goals
     go_wp2_with fail;go_meet
     case rel=>
      refine⟨⟨rfl,rfl,rfl⟩,zaa (zb2 s_ s_ s_ s_ s_),?_,?_,?_⟩
      .repeat(first|with_reducible exact a9.out|with_reducible refine Blk.drew ?_ |refine Blk.far ?_ c0.symm _)
      . (first|(with_reducible refine zaz (Blk.drew ((a5.out.set_ 10 (.int .i64 ofr)).set_ 8 (.int .i64 n1))) ?_)|(with_reducible refine zaz (Blk.drew ((a5.out.set_ 8 (.int .i64 n1)).set_ 10 (.int .i64 ofr))) ?_))
        first|rfl|simp[Tg.yb,Tg.cells,T.cells,T.zero]
      .repeat(first|with_reducible exact a8.out|with_reducible refine Fr.drew ?_ |refine Fr.setNew ?_ b1 _)
   .obtain rfl:home=yh:=by simpa using a3.symm
    clear a3;have n7:(T.mk k n s A cap l r).v.kd=k:=T.kd_mk ..;have n9:=zaa n7;clear n7;go_upto_region 32 with(fail);go_region
    all_goals
     cases full
     .by_cases h1:k=0
      .have HV:=zaa h1;subst h1;go_wp2_with fail;go_meet
       case rel=>
        refine⟨⟨rfl,rfl,rfl⟩,zaa (⟨λh=>absurd h s_,λh=>absurd h s_,λ_=>.inr n9.out,λh=>absurd h s_⟩),?_,?_,?_⟩
        .repeat(first|with_reducible exact a9.out|with_reducible refine Blk.drew ?_ |refine Blk.far ?_ c0.symm _)
        . (first|(with_reducible refine zaz (Blk.drew ((((((a5.out.set_ 13 (.bool false)).set_ 2 (.int .u8 0)).set_ 3 (.int .i64 n)).set_ 4 (.string s)).set_ 5 (.slice A l.length cap)).set_ 6 (.int .i64 r))) ?_)|(with_reducible refine zaz (Blk.drew ((((((a5.out.set_ 2 (.int .u8 0)).set_ 3 (.int .i64 n)).set_ 4 (.string s)).set_ 5 (.slice A l.length cap)).set_ 6 (.int .i64 r)).set_ 13 (.bool false))) ?_))
          first|rfl|simp[Tg.yb,Tg.cells,T.cells,T.zero]
        .repeat(first|with_reducible exact a8.out|with_reducible refine Fr.drew ?_ |refine Fr.setNew ?_ b1 _)
      .have u1:(k !=0)=true:=by simpa using h1
       have HV:=zaa h1;clear h1;go_wp2_with fail;refine a6.out _ ?_ λh=>by
        rcases(a4.out.1 h).2.2.1.prom rfl with h1|h1
        .cases h1
        .exact HV.out (n9.out.symm.trans h1)
       repeat(first|with_reducible exact a8.out|with_reducible refine Fr.drew ?_ |refine Fr.setNew ?_ b1 _)
     .go_wp2_with fail;go_meet
      case rel=>
       refine⟨⟨rfl,rfl,rfl⟩,zaa (⟨λh=>absurd h s_,λh=>absurd h s_,λ_=>.inl rfl,λh=>absurd h s_⟩),?_,?_,?_⟩
       .repeat(first|with_reducible exact a9.out|with_reducible refine Blk.drew ?_ |refine Blk.far ?_ c0.symm _)
       . (first|(with_reducible refine zaz (Blk.drew ((((((a5.out.set_ 13 (.bool true)).set_ 2 (.int .u8 k)).set_ 3 (.int .i64 n)).set_ 4 (.string s)).set_ 5 (.slice A l.length cap)).set_ 6 (.int .i64 r))) ?_)|(with_reducible refine zaz (Blk.drew ((((((a5.out.set_ 2 (.int .u8 k)).set_ 3 (.int .i64 n)).set_ 4 (.string s)).set_ 5 (.slice A l.length cap)).set_ 6 (.int .i64 r)).set_ 13 (.bool true))) ?_))
         first|rfl|simp[Tg.yb,Tg.cells,T.cells,T.zero]
       .repeat(first|with_reducible exact a8.out|with_reducible refine Fr.drew ?_ |refine Fr.setNew ?_ b1 _)
   .obtain rfl:home=yh:=by simpa using a3.symm
    clear a3;go_wp2_with fail;go_meet
    case rel=>
     refine⟨⟨rfl,rfl,rfl⟩,zaa (zb2 s_ s_ s_ s_ s_),?_,?_,?_⟩
     .repeat(first|with_reducible exact a9.out|with_reducible refine Blk.drew ?_ |refine Blk.far ?_ c0.symm _)
     .with_reducible refine zaz (a5.out.set_ 10 (.int .i64 ofr)) ?_
      first|rfl|simp[Tg.yb,Tg.cells,T.cells,T.zero]
     .repeat(first|with_reducible exact a8.out|with_reducible refine Fr.drew ?_ |refine Fr.setNew ?_ b1 _)
   .obtain rfl:home=yh:=by simpa using a3.symm
    clear a3;by_cases hv:64<names.length
    .have u0:decide ((64:Int)<(names.length:Int))=true:=so_;have HV:=zaa hv;clear hv;go_wp2_with fail;exact a6.out _ a8.out λh=>by have h1:=((a4.out.1 h).2.2.1.clerk rfl).1;have:=HV.out;simp only at h1;omega
    have u0:decide ((64:Int)<(names.length:Int))=false:=so_;have HV:=zaa (show names.length<=64 by omega);clear hv;go_wp2_with fail;refine(p8.out _ a8.out).mono ?_;rintro e w2 ⟨z,rfl,hz,f2⟩;have s6:z<=512:=by have:=hz.1;have:=k7.out.2.2.1;omega
    have u1:decide ((512:Int)<(z:Int))=false:=so_;have f0:=zaa (a8.out.trans f2);have f4:=zaa (a9.out.fr f2 λh=>h);have i2:=zaa (a5.out.fr f2 λh=>h);clear f2 d0 d1 d2 d3 d4 d5 d6 d7 d8 d9 c1 c2 c6 c5 b9 b8 dq e0 e1 e2 e3 e4 e5 e6 e7 e8 e9 h0 g8 g6 g7 i1 i0 i5 ez hz;obtain⟨d0,d1,d2,d3,d4,d5,d6,d7,d8,d9,c1,c2,c6,c5,b9,b8⟩:=f4.out.cells16;have dq:=f4.out.lt;go_wp2_with fail;refine(r0.out w2 f0.out).mono ?_;rintro e w3 ⟨rfl,f3⟩;rw[k7.out.2.2.2];have h3:=zaa (f0.out.trans f3);have i3:=zaa (f4.out.fr f3 λh=>h);have k8:=zaa (i2.out.fr f3 λh=>h);clear f3 d0 d1 d2 d3 d4 d5 d6 d7 d8 d9 c1 c2 c6 c5 b9 b8 dq;go_wp2_with fail;go_loopw [10] (λi wr=>∃j:Nat,j<=names.length/\i= .int .i64 j/\Hid (∀y∈names.take j,y.2.v.may=true)/\Fr No w3 wr) (λi _=>names.length - (intOf i).toNat)
    case atStart=>exact⟨0,Nat.zero_le _,rfl,zaa s_,Fr.refl _ _⟩
    case round=>
     obtain⟨j,hj,rfl,p2,fr⟩:=hrel;obtain⟨d0,d1,d2,d3,d4,d5,d6,d7,d8,d9,c1,c2,c6,c5,b9,b8⟩:=(i3.out.fr fr λh=>h).cells16;have dq:=(i3.out.fr fr λh=>h).lt;by_cases hlt:j<names.length
     case neg=>
      obtain rfl:names.length=j:=o_;have m6:=zaa fr;clear fr;go_wp2_with fail;go_meet
      case rel=>
       refine⟨⟨rfl,rfl,rfl⟩,zaa (⟨λh=>absurd h s_,λh=>absurd h s_,λh=>absurd h s_,λ_=>⟨HV.out,by have h:=p2.out;rw[List.take_length]at h;exact h⟩⟩),?_,?_,?_⟩
       .repeat(first|with_reducible exact(i3.out.fr m6.out λh=>h)|with_reducible refine Blk.drew ?_ |refine Blk.far ?_ c0.symm _)
       .with_reducible refine zaz (k8.out.fr m6.out λh=>h) ?_
        first|rfl|simp[Tg.yb,Tg.cells,T.cells,T.zero]
       .repeat(first|with_reducible exact(h3.out.trans m6.out)|with_reducible refine Fr.drew ?_ |refine Fr.setNew ?_ b1 _)
     have l7:=h3.out.trans fr;obtain⟨b,o,rfl,m1,v3,m3,i7⟩:=zyj (p5.out.fr l7 o8.out λ_ _ _ h=>h) hlt;have hM:=r5.out names[j] (List.getElem_mem hlt) wr l7;have HN:=zaa λh=>zq4 hlt h;have o1:names.take (j+1)=names.take j++[names[j]]:=by rw[List.take_add_one,List.getElem?_eq_getElem hlt];rfl
     have q5:=zaa o1;have r2:=o8.out;have q0:=l7.size;generalize names[j]=xj at*;obtain⟨nm,⟨k3,n3,s3,A3,k5,l3,r3⟩⟩:=xj;rw[T.val_mk]at hM;generalize n6:(T.mk k3 n3 s3 A3 k5 l3 r3).v.may=q at*;have r4:=zaa n6;have x1:wr.cell? ⟨b,o+j*6+1,none⟩=some (.int .u8 k3):=i7 1 _ rfl;have x2:wr.cell? ⟨b,o+j*6+1+1,none⟩=some (.int .i64 n3):=i7 2 _ rfl;have x3:wr.cell? ⟨b,o+j*6+1+2,none⟩=some (.string s3):=i7 3 _ rfl;have x4:wr.cell? ⟨b,o+j*6+1+3,none⟩=some (.slice A3 l3.length k5):=i7 4 _ rfl;have x5:wr.cell? ⟨b,o+j*6+1+4,none⟩=some (.int .i64 r3):=i7 5 _ rfl;have v1:b<wr.heap.size:=o_;have n4:=zaa fr;have HM:=zaa hM;clear i7 m3 fr hM o1 l7 n6 r2 q0;go_wp2_with fail;refine HM.out.mono ?_;rintro e w5 ⟨rfl,f5⟩;have h9:=zaa f5;clear f5 x1 x2 x3 x4 x5;cases q
     .go_wp2_with fail;exact a6.out _ ((h3.out.trans n4.out).trans h9.out) λh=>HN.out trivial ((a4.out.1 h).2.2.1.clerk rfl).2
     go_wp2;go_roundw
     case rel=>
      refine⟨j+1,hlt,by go_num,zaa λt ht=>?_,n4.out.trans h9.out⟩;rw[q5.out]at ht;rcases List.mem_append.1 ht with ht|ht
      .exact p2.out t ht
      .simp only[List.mem_singleton]at ht;subst ht;exact r4.out
     case measure=>simp[intOf];omega
   .obtain rfl:home=yh:=by simpa using a3.symm
    clear a3;go_upto_region 45 with(fail);go_region
    all_goals
     go_wp2_with fail;go_meet
     case rel=>
      refine⟨⟨rfl,rfl,rfl⟩,zaa (zb2 s_ s_ s_ s_ s_),?_,?_,?_⟩
      .repeat(first|with_reducible exact a9.out|with_reducible refine Blk.drew ?_ |refine Blk.far ?_ c0.symm _)
      . (first|(with_reducible refine zaz (Blk.drew ((a5.out.set_ 13 (.bool full)).set_ 10 (.int .i64 ofr))) ?_)|(with_reducible refine zaz (Blk.drew ((a5.out.set_ 10 (.int .i64 ofr)).set_ 13 (.bool full))) ?_))
        first|rfl|simp[Tg.yb,Tg.cells,T.cells,T.zero]
      .repeat(first|with_reducible exact a8.out|with_reducible refine Fr.drew ?_ |refine Fr.setNew ?_ b1 _)
   .obtain rfl:(0:Int)=yh:=by simpa using a3.symm
    clear a3;go_upto_region 47 with(fail);go_region
    all_goals
     go_wp2_with fail;go_meet
     case rel=>
      refine⟨⟨rfl,rfl,rfl⟩,zaa (zb2 s_ s_ s_ s_ s_),?_,?_,?_⟩
      .repeat(first|with_reducible exact a9.out|with_reducible refine Blk.drew ?_ |refine Blk.far ?_ c0.symm _)
      . (first|(with_reducible refine zaz (Blk.drew ((a5.out.set_ 10 (.int .i64 ofr)).set_ 12 (.int .u8 set))) ?_)|(with_reducible refine zaz (Blk.drew ((a5.out.set_ 12 (.int .u8 set)).set_ 10 (.int .i64 ofr))) ?_))
        first|rfl|simp[Tg.yb,Tg.cells,T.cells,T.zero]
      .repeat(first|with_reducible exact a8.out|with_reducible refine Fr.drew ?_ |refine Fr.setNew ?_ b1 _)
   .obtain rfl:home=yh:=by simpa using a3.symm
    clear a3;go_upto_region 50 with(fail);go_region
    all_goals
     go_wp2_with fail;go_meet
     case rel=>
      refine⟨⟨rfl,rfl,rfl⟩,zaa (zb2 s_ s_ s_ s_ s_),?_,?_,?_⟩
      .repeat(first|with_reducible exact a9.out|with_reducible refine Blk.drew ?_ |refine Blk.far ?_ c0.symm _)
      . (first|(with_reducible refine zaz (Blk.drew ((a5.out.set_ 10 (.int .i64 ofr)).set_ 11 (.int .i64 byr))) ?_)|(with_reducible refine zaz (Blk.drew ((a5.out.set_ 11 (.int .i64 byr)).set_ 10 (.int .i64 ofr))) ?_))
        first|rfl|simp[Tg.yb,Tg.cells,T.cells,T.zero]
      .repeat(first|with_reducible exact a8.out|with_reducible refine Fr.drew ?_ |refine Fr.setNew ?_ b1 _)
   .obtain rfl:home=yh:=by simpa using a3.symm
    clear a3;go_upto_region 50 with(fail);go_region
    all_goals
     go_wp2_with fail;go_meet
     case rel=>
      refine⟨⟨rfl,rfl,rfl⟩,zaa (zb2 s_ s_ s_ s_ s_),?_,?_,?_⟩
      .repeat(first|with_reducible exact a9.out|with_reducible refine Blk.drew ?_ |refine Blk.far ?_ c0.symm _)
      . (first|(with_reducible refine zaz (Blk.drew ((a5.out.set_ 10 (.int .i64 ofr)).set_ 11 (.int .i64 byr))) ?_)|(with_reducible refine zaz (Blk.drew ((a5.out.set_ 11 (.int .i64 byr)).set_ 10 (.int .i64 ofr))) ?_))
        first|rfl|simp[Tg.yb,Tg.cells,T.cells,T.zero]
      .repeat(first|with_reducible exact a8.out|with_reducible refine Fr.drew ?_ |refine Fr.setNew ?_ b1 _)
  case rest=>
   obtain⟨⟨rfl,rfl,rfl⟩,l4,j8,i6,k4⟩:=hcut;rw[p6.out]at i6
   have j7:Blk _ gy 138 #[.int .u8 kind,.int .i64 yh,.int .u8 yk,.int .i64 yn,.string ys,.slice yA yl.length g4,.int .i64 yr,.slice none 0 0,.int .i64 k6,.int .i64 c4,.int .i64 g0,.int .i64 g2,.int .u8 g3,.bool c3,.slice none 0 0,.slice none 0 0]:=i6
   have h8:=zaa j8;have j5:=zaa j7;have f9:=zaa k4;clear j8 i6 j7 k4 a9 a5 a8;obtain⟨d0,d1,d2,d3,d4,d5,d6,d7,d8,d9,c1,c2,c6,c5,b9,b8⟩:=h8.out.cells16;have dq:=h8.out.lt;by_cases a1:n1<0
   .have u0:decide (n1<0)=true:=by simpa using a1
    have HV:=zaa a1;clear a1;go_wp2_with fail;exact a6.out _ f9.out λh=>by have h1:=(a4.out.1 h).2.2.2.1.1;have:=HV.out;omega
   have u0:decide (n1<0)=false:=by simpa using a1
   by_cases a2:9007199254740992<n1
   .have u1:decide ((9007199254740992:Int)<n1)=true:=by simpa using a2
    have HV:=zaa a2;clear a1 a2;go_wp2_with fail;exact a6.out _ f9.out λh=>by have h1:=(a4.out.1 h).2.2.2.1.2;have:=HV.out;omega
   have u1:decide ((9007199254740992:Int)<n1)=false:=by simpa using a2
   have g5:=zaa (show 0<=n1/\n1<=9007199254740992 by omega);clear a1 a2;go_wp2_with fail;refine(p4.out _ f9.out).mono ?_;rintro e w5 ⟨rfl,f5⟩;have h9:=zaa (f9.out.trans f5);have l8:=zaa (h8.out.fr f5 λh=>h);have l6:=zaa (j5.out.fr f5 λh=>h);clear f5 d0 d1 d2 d3 d4 d5 d6 d7 d8 d9 c1 c2 c6 c5 b9 b8 dq u0 u1 f9 h8 j5;cases mx
   .go_wp2_with fail;exact a6.out _ h9.out λh=>Bool.noConfusion (a4.out.1 h).2.2.2.2.1
   obtain⟨d0,d1,d2,d3,d4,d5,d6,d7,d8,d9,c1,c2,c6,c5,b9,b8⟩:=l8.out.cells16;have dq:=l8.out.lt;obtain⟨e0,e1,e2,e3,e4,e5,e6,e7,e8,e9,h0,g8,g6,g7,i1,i0⟩:=l6.out.cells16;have i5:=l6.out.lt;generalize o4:(Tg.q7 ⟨kind,home,T.mk k n s A cap l r,VA,vc,vs,n1,lost,ofr,byr,set,full,CA,cc,code,NA,nc,names⟩)=q7 at*;generalize o6:(Tg.q8 ⟨kind,home,T.mk k n s A cap l r,VA,vc,vs,n1,lost,ofr,byr,set,full,CA,cc,code,NA,nc,names⟩)=q8 at*;have j9:=zaa o4;have c9:=zaa o6;clear o4 o6;go_upto_region 53 with(fail);rename_i hKK;refine wp_region_lit ?_;simp only[List.append_eq,List.cons_append,List.nil_append];refine znb λa ha=>?_;have hn:a.tmps.size=272:=by rw[ha];kernel_rfl
   have a0:a.defers=[]:=by rw[ha]
   have hk:Kn.Ok [(2,.pointer (some ⟨w.heap.size,0,none⟩)),(5,.pointer (some ⟨gy,0,none⟩)),(7,.bool q7),(8,.bool q8),(9,.bool q8)] a:=by
    intro t b hm;simp only[List.mem_cons,List.not_mem_nil,or_false,Prod.mk.injEq]at hm;rcases hm with⟨rfl,rfl⟩|⟨rfl,rfl⟩|⟨rfl,rfl⟩|⟨rfl,rfl⟩|⟨rfl,rfl⟩<;>exact⟨by rw[ha];rfl,by rw[hn];decide⟩
   clear ha;refine zad (v:=.pointer (some ⟨w.heap.size,1,none⟩)) hk hn k_ k_ (by have e:=hk.get 2 (b:=.pointer (some ⟨w.heap.size,0,none⟩)) k_;simp[execOp,e,go_sem]) λa hk hn hd=>?_;replace a0:=hd.trans a0;clear hd;refine zad (v:=.int .i64 home) hk hn k_ k_ (by have e:=hk.get 191 (b:=.pointer (some ⟨w.heap.size,1,none⟩)) k_;simp[execOp,e,go_sem,d1]) λa hk hn hd=>?_;replace a0:=hd.trans a0;clear hd;refine zad (v:=.pointer (some ⟨gy,1,none⟩)) hk hn k_ k_ (by have e:=hk.get 5 (b:=.pointer (some ⟨gy,0,none⟩)) k_;simp[execOp,e,go_sem]) λa hk hn hd=>?_;replace a0:=hd.trans a0;clear hd;refine zad (v:=.int .i64 yh) hk hn k_ k_ (by have e:=hk.get 193 (b:=.pointer (some ⟨gy,1,none⟩)) k_;simp[execOp,e,go_sem,e1]) λa hk hn hd=>?_;replace a0:=hd.trans a0;clear hd;by_cases b0:home=yh
   case neg=>
    refine zad (v:=.bool false) hk hn k_ k_ (by have e1:=hk.get 192 (b:=.int .i64 home) k_;have e2:=hk.get 194 (b:=.int .i64 yh) k_;simp[execOp,e1,e2,go_sem,b0]) λa hk hn hd=>?_;replace a0:=hd.trans a0;clear hd;refine zav 4 (.bool false) k_ hk hn λa' h1 h2=>hKK _ _ (zbd rfl h1 (h2.trans a0) ?_);exact a6.out _ h9.out λh=>b0 (a4.out.1 h).2.2.2.2.2.home
   refine zad (v:=.bool true) hk hn k_ k_ (by have e1:=hk.get 192 (b:=.int .i64 home) k_;have e2:=hk.get 194 (b:=.int .i64 yh) k_;simp[execOp,e1,e2,go_sem,b0]) λa hk hn hd=>?_;replace a0:=hd.trans a0;clear hd;have G0:=zaa b0;clear b0;refine zau 1 [2,5,7,8,9,196] [(2,.pointer (some ⟨w.heap.size,0,none⟩)),(5,.pointer (some ⟨gy,0,none⟩)),(7,.bool q7),(8,.bool q8),(9,.bool q8),(196,.bool true)] k_ hk hn λa hk hn hd=>?_;replace a0:=hd.trans a0;clear hd;show wpList _ _ _ (_::_) a _;refine zad (v:=.pointer (some ⟨w.heap.size,2,none⟩)) hk hn k_ k_ (by have e:=hk.get 2 (b:=.pointer (some ⟨w.heap.size,0,none⟩)) k_;simp[execOp,e,go_sem]) λa hk hn hd=>?_;replace a0:=hd.trans a0;clear hd;refine zad (v:=.agg #[.int .u8 k,.int .i64 n,.string s,.slice A l.length cap,.int .i64 r]) hk hn k_ k_ (by have e:=hk.get 197 (b:=.pointer (some ⟨w.heap.size,2,none⟩)) k_;simp[execOp,e,go_sem,d2,d3,d4,d5,d6]) λa hk hn hd=>?_;replace a0:=hd.trans a0;clear hd;refine zad (v:=.pointer (some ⟨gy,2,none⟩)) hk hn k_ k_ (by have e:=hk.get 5 (b:=.pointer (some ⟨gy,0,none⟩)) k_;simp[execOp,e,go_sem]) λa hk hn hd=>?_;replace a0:=hd.trans a0;clear hd;refine zad (v:=.agg #[.int .u8 yk,.int .i64 yn,.string ys,.slice yA yl.length g4,.int .i64 yr]) hk hn k_ k_ (by have e:=hk.get 199 (b:=.pointer (some ⟨gy,2,none⟩)) k_;simp[execOp,e,go_sem,e2,e3,e4,e5,e6]) λa hk hn hd=>?_;replace a0:=hd.trans a0;clear hd;refine zjs (f:=204) (args:=#[.agg #[.int .u8 k,.int .i64 n,.string s,.slice A l.length cap,.int .i64 r],.agg #[.int .u8 yk,.int .i64 yn,.string ys,.slice yA yl.length g4,.int .i64 yr]]) hk hn k_ k_ (by have e1:=hk.get 198 (b:=.agg #[.int .u8 k,.int .i64 n,.string s,.slice A l.length cap,.int .i64 r]) k_;have e2:=hk.get 200 (b:=.agg #[.int .u8 yk,.int .i64 yn,.string ys,.slice yA yl.length g4,.int .i64 yr]) k_;simp[e1,e2,go_sem]) ?_;refine(q2.out _ h9.out).mono ?_;rintro e w6 ⟨q,rfl,hq,f6⟩;refine⟨_,rfl,λa hk hn hd=>?_⟩;replace a0:=hd.trans a0;clear hd;have c7:=zaa (h9.out.trans f6);have r1:=zaa (l8.out.fr f6 λh=>h);have q1:=zaa (l6.out.fr f6 λh=>h);clear f6 d0 d1 d2 d3 d4 d5 d6 d7 d8 d9 c1 c2 c6 c5 b9 b8 dq e0 e1 e2 e3 e4 e5 e6 e7 e8 e9 h0 g8 g6 g7 i1 i0 i5 h9 l8 l6;obtain⟨d0,d1,d2,d3,d4,d5,d6,d7,d8,d9,c1,c2,c6,c5,b9,b8⟩:=r1.out.cells16;obtain⟨e0,e1,e2,e3,e4,e5,e6,e7,e8,e9,h0,g8,g6,g7,i1,i0⟩:=q1.out.cells16;cases q
   case false=>
    refine zav 4 (.bool false) k_ hk hn λa' h1 h2=>hKK _ _ (zbd rfl h1 (h2.trans a0) ?_);exact a6.out _ c7.out λh=>Bool.noConfusion (hq.2 (a4.out.1 h).2.2.2.2.2.v)
   have G1:=zaa (hq.1 rfl);clear hq;refine zau 2 [2,5,7,8,9,203] [(2,.pointer (some ⟨w.heap.size,0,none⟩)),(5,.pointer (some ⟨gy,0,none⟩)),(7,.bool q7),(8,.bool q8),(9,.bool q8),(203,.bool true)] k_ hk hn λa hk hn hd=>?_;replace a0:=hd.trans a0;clear hd;show wpList _ _ _ (_::_) a _;refine zad (v:=.pointer (some ⟨w.heap.size,8,none⟩)) hk hn k_ k_ (by have e:=hk.get 2 (b:=.pointer (some ⟨w.heap.size,0,none⟩)) k_;simp[execOp,e,go_sem]) λa hk hn hd=>?_;replace a0:=hd.trans a0;clear hd;refine zad (v:=.int .i64 n1) hk hn k_ k_ (by have e:=hk.get 204 (b:=.pointer (some ⟨w.heap.size,8,none⟩)) k_;simp[execOp,e,go_sem,d8]) λa hk hn hd=>?_;replace a0:=hd.trans a0;clear hd;refine zad (v:=.pointer (some ⟨gy,8,none⟩)) hk hn k_ k_ (by have e:=hk.get 5 (b:=.pointer (some ⟨gy,0,none⟩)) k_;simp[execOp,e,go_sem]) λa hk hn hd=>?_;replace a0:=hd.trans a0;clear hd;refine zad (v:=.int .i64 k6) hk hn k_ k_ (by have e:=hk.get 206 (b:=.pointer (some ⟨gy,8,none⟩)) k_;simp[execOp,e,go_sem,e8]) λa hk hn hd=>?_;replace a0:=hd.trans a0;clear hd;by_cases b2:n1=k6
   case neg=>
    refine zad (v:=.bool false) hk hn k_ k_ (by have e1:=hk.get 205 (b:=.int .i64 n1) k_;have e2:=hk.get 207 (b:=.int .i64 k6) k_;simp[execOp,e1,e2,go_sem,b2]) λa hk hn hd=>?_;replace a0:=hd.trans a0;clear hd;refine zav 4 (.bool false) k_ hk hn λa' h1 h2=>hKK _ _ (zbd rfl h1 (h2.trans a0) ?_);exact a6.out _ c7.out λh=>b2 (a4.out.1 h).2.2.2.2.2.n
   refine zad (v:=.bool true) hk hn k_ k_ (by have e1:=hk.get 205 (b:=.int .i64 n1) k_;have e2:=hk.get 207 (b:=.int .i64 k6) k_;simp[execOp,e1,e2,go_sem,b2]) λa hk hn hd=>?_;replace a0:=hd.trans a0;clear hd;have G2:=zaa b2;clear b2;refine zau 2 [2,5,7,8,9,210] [(2,.pointer (some ⟨w.heap.size,0,none⟩)),(5,.pointer (some ⟨gy,0,none⟩)),(7,.bool q7),(8,.bool q8),(9,.bool q8),(210,.bool true)] k_ hk hn λa hk hn hd=>?_;replace a0:=hd.trans a0;clear hd;show wpList _ _ _ (_::_) a _;refine zad (v:=.pointer (some ⟨w.heap.size,9,none⟩)) hk hn k_ k_ (by have e:=hk.get 2 (b:=.pointer (some ⟨w.heap.size,0,none⟩)) k_;simp[execOp,e,go_sem]) λa hk hn hd=>?_;replace a0:=hd.trans a0;clear hd;refine zad (v:=.int .i64 lost) hk hn k_ k_ (by have e:=hk.get 211 (b:=.pointer (some ⟨w.heap.size,9,none⟩)) k_;simp[execOp,e,go_sem,d9]) λa hk hn hd=>?_;replace a0:=hd.trans a0;clear hd;refine zad (v:=.pointer (some ⟨gy,9,none⟩)) hk hn k_ k_ (by have e:=hk.get 5 (b:=.pointer (some ⟨gy,0,none⟩)) k_;simp[execOp,e,go_sem]) λa hk hn hd=>?_;replace a0:=hd.trans a0;clear hd;refine zad (v:=.int .i64 c4) hk hn k_ k_ (by have e:=hk.get 213 (b:=.pointer (some ⟨gy,9,none⟩)) k_;simp[execOp,e,go_sem,e9]) λa hk hn hd=>?_;replace a0:=hd.trans a0;clear hd;by_cases b3:lost=c4
   case neg=>
    refine zad (v:=.bool false) hk hn k_ k_ (by have e1:=hk.get 212 (b:=.int .i64 lost) k_;have e2:=hk.get 214 (b:=.int .i64 c4) k_;simp[execOp,e1,e2,go_sem,b3]) λa hk hn hd=>?_;replace a0:=hd.trans a0;clear hd;refine zav 4 (.bool false) k_ hk hn λa' h1 h2=>hKK _ _ (zbd rfl h1 (h2.trans a0) ?_);exact a6.out _ c7.out λh=>b3 (a4.out.1 h).2.2.2.2.2.lost
   refine zad (v:=.bool true) hk hn k_ k_ (by have e1:=hk.get 212 (b:=.int .i64 lost) k_;have e2:=hk.get 214 (b:=.int .i64 c4) k_;simp[execOp,e1,e2,go_sem,b3]) λa hk hn hd=>?_;replace a0:=hd.trans a0;clear hd;have G3:=zaa b3;clear b3;refine zau 2 [2,5,7,8,9,217] [(2,.pointer (some ⟨w.heap.size,0,none⟩)),(5,.pointer (some ⟨gy,0,none⟩)),(7,.bool q7),(8,.bool q8),(9,.bool q8),(217,.bool true)] k_ hk hn λa hk hn hd=>?_;replace a0:=hd.trans a0;clear hd;show wpList _ _ _ (_::_) a _;refine zad (v:=.pointer (some ⟨w.heap.size,10,none⟩)) hk hn k_ k_ (by have e:=hk.get 2 (b:=.pointer (some ⟨w.heap.size,0,none⟩)) k_;simp[execOp,e,go_sem]) λa hk hn hd=>?_;replace a0:=hd.trans a0;clear hd;refine zad (v:=.int .i64 ofr) hk hn k_ k_ (by have e:=hk.get 218 (b:=.pointer (some ⟨w.heap.size,10,none⟩)) k_;simp[execOp,e,go_sem,c1]) λa hk hn hd=>?_;replace a0:=hd.trans a0;clear hd;refine zad (v:=.pointer (some ⟨gy,10,none⟩)) hk hn k_ k_ (by have e:=hk.get 5 (b:=.pointer (some ⟨gy,0,none⟩)) k_;simp[execOp,e,go_sem]) λa hk hn hd=>?_;replace a0:=hd.trans a0;clear hd;refine zad (v:=.int .i64 g0) hk hn k_ k_ (by have e:=hk.get 220 (b:=.pointer (some ⟨gy,10,none⟩)) k_;simp[execOp,e,go_sem,h0]) λa hk hn hd=>?_;replace a0:=hd.trans a0;clear hd;by_cases b4:ofr=g0
   case neg=>
    refine zad (v:=.bool false) hk hn k_ k_ (by have e1:=hk.get 219 (b:=.int .i64 ofr) k_;have e2:=hk.get 221 (b:=.int .i64 g0) k_;simp[execOp,e1,e2,go_sem,b4]) λa hk hn hd=>?_;replace a0:=hd.trans a0;clear hd;refine zav 4 (.bool false) k_ hk hn λa' h1 h2=>hKK _ _ (zbd rfl h1 (h2.trans a0) ?_);exact a6.out _ c7.out λh=>b4 (a4.out.1 h).2.2.2.2.2.ofr
   refine zad (v:=.bool true) hk hn k_ k_ (by have e1:=hk.get 219 (b:=.int .i64 ofr) k_;have e2:=hk.get 221 (b:=.int .i64 g0) k_;simp[execOp,e1,e2,go_sem,b4]) λa hk hn hd=>?_;replace a0:=hd.trans a0;clear hd;have G4:=zaa b4;clear b4;refine zau 2 [2,5,7,8,9,224] [(2,.pointer (some ⟨w.heap.size,0,none⟩)),(5,.pointer (some ⟨gy,0,none⟩)),(7,.bool q7),(8,.bool q8),(9,.bool q8),(224,.bool true)] k_ hk hn λa hk hn hd=>?_;replace a0:=hd.trans a0;clear hd;show wpList _ _ _ (_::_) a _;refine zad (v:=.pointer (some ⟨w.heap.size,11,none⟩)) hk hn k_ k_ (by have e:=hk.get 2 (b:=.pointer (some ⟨w.heap.size,0,none⟩)) k_;simp[execOp,e,go_sem]) λa hk hn hd=>?_;replace a0:=hd.trans a0;clear hd;refine zad (v:=.int .i64 byr) hk hn k_ k_ (by have e:=hk.get 225 (b:=.pointer (some ⟨w.heap.size,11,none⟩)) k_;simp[execOp,e,go_sem,c2]) λa hk hn hd=>?_;replace a0:=hd.trans a0;clear hd;refine zad (v:=.pointer (some ⟨gy,11,none⟩)) hk hn k_ k_ (by have e:=hk.get 5 (b:=.pointer (some ⟨gy,0,none⟩)) k_;simp[execOp,e,go_sem]) λa hk hn hd=>?_;replace a0:=hd.trans a0;clear hd;refine zad (v:=.int .i64 g2) hk hn k_ k_ (by have e:=hk.get 227 (b:=.pointer (some ⟨gy,11,none⟩)) k_;simp[execOp,e,go_sem,g8]) λa hk hn hd=>?_;replace a0:=hd.trans a0;clear hd;by_cases b5:byr=g2
   case neg=>
    refine zad (v:=.bool false) hk hn k_ k_ (by have e1:=hk.get 226 (b:=.int .i64 byr) k_;have e2:=hk.get 228 (b:=.int .i64 g2) k_;simp[execOp,e1,e2,go_sem,b5]) λa hk hn hd=>?_;replace a0:=hd.trans a0;clear hd;refine zav 4 (.bool false) k_ hk hn λa' h1 h2=>hKK _ _ (zbd rfl h1 (h2.trans a0) ?_);exact a6.out _ c7.out λh=>b5 (a4.out.1 h).2.2.2.2.2.byr
   refine zad (v:=.bool true) hk hn k_ k_ (by have e1:=hk.get 226 (b:=.int .i64 byr) k_;have e2:=hk.get 228 (b:=.int .i64 g2) k_;simp[execOp,e1,e2,go_sem,b5]) λa hk hn hd=>?_;replace a0:=hd.trans a0;clear hd;have G5:=zaa b5;clear b5;refine zau 2 [2,5,7,8,9,231] [(2,.pointer (some ⟨w.heap.size,0,none⟩)),(5,.pointer (some ⟨gy,0,none⟩)),(7,.bool q7),(8,.bool q8),(9,.bool q8),(231,.bool true)] k_ hk hn λa hk hn hd=>?_;replace a0:=hd.trans a0;clear hd;show wpList _ _ _ (_::_) a _;refine zad (v:=.pointer (some ⟨w.heap.size,12,none⟩)) hk hn k_ k_ (by have e:=hk.get 2 (b:=.pointer (some ⟨w.heap.size,0,none⟩)) k_;simp[execOp,e,go_sem]) λa hk hn hd=>?_;replace a0:=hd.trans a0;clear hd;refine zad (v:=.int .u8 set) hk hn k_ k_ (by have e:=hk.get 232 (b:=.pointer (some ⟨w.heap.size,12,none⟩)) k_;simp[execOp,e,go_sem,c6]) λa hk hn hd=>?_;replace a0:=hd.trans a0;clear hd;refine zad (v:=.pointer (some ⟨gy,12,none⟩)) hk hn k_ k_ (by have e:=hk.get 5 (b:=.pointer (some ⟨gy,0,none⟩)) k_;simp[execOp,e,go_sem]) λa hk hn hd=>?_;replace a0:=hd.trans a0;clear hd;refine zad (v:=.int .u8 g3) hk hn k_ k_ (by have e:=hk.get 234 (b:=.pointer (some ⟨gy,12,none⟩)) k_;simp[execOp,e,go_sem,g6]) λa hk hn hd=>?_;replace a0:=hd.trans a0;clear hd;by_cases b6:set=g3
   case neg=>
    refine zad (v:=.bool false) hk hn k_ k_ (by have e1:=hk.get 233 (b:=.int .u8 set) k_;have e2:=hk.get 235 (b:=.int .u8 g3) k_;simp[execOp,e1,e2,go_sem,b6]) λa hk hn hd=>?_;replace a0:=hd.trans a0;clear hd;refine zav 4 (.bool false) k_ hk hn λa' h1 h2=>hKK _ _ (zbd rfl h1 (h2.trans a0) ?_);exact a6.out _ c7.out λh=>b6 (a4.out.1 h).2.2.2.2.2.set
   refine zad (v:=.bool true) hk hn k_ k_ (by have e1:=hk.get 233 (b:=.int .u8 set) k_;have e2:=hk.get 235 (b:=.int .u8 g3) k_;simp[execOp,e1,e2,go_sem,b6]) λa hk hn hd=>?_;replace a0:=hd.trans a0;clear hd;have G6:=zaa b6;clear b6;refine zau 2 [2,5,7,8,9,238] [(2,.pointer (some ⟨w.heap.size,0,none⟩)),(5,.pointer (some ⟨gy,0,none⟩)),(7,.bool q7),(8,.bool q8),(9,.bool q8),(238,.bool true)] k_ hk hn λa hk hn hd=>?_;replace a0:=hd.trans a0;clear hd;show wpList _ _ _ (_::_) a _;refine zad (v:=.pointer (some ⟨w.heap.size,13,none⟩)) hk hn k_ k_ (by have e:=hk.get 2 (b:=.pointer (some ⟨w.heap.size,0,none⟩)) k_;simp[execOp,e,go_sem]) λa hk hn hd=>?_;replace a0:=hd.trans a0;clear hd;refine zad (v:=.bool full) hk hn k_ k_ (by have e:=hk.get 239 (b:=.pointer (some ⟨w.heap.size,13,none⟩)) k_;simp[execOp,e,go_sem,c5]) λa hk hn hd=>?_;replace a0:=hd.trans a0;clear hd;refine zad (v:=.pointer (some ⟨gy,13,none⟩)) hk hn k_ k_ (by have e:=hk.get 5 (b:=.pointer (some ⟨gy,0,none⟩)) k_;simp[execOp,e,go_sem]) λa hk hn hd=>?_;replace a0:=hd.trans a0;clear hd;refine zad (v:=.bool c3) hk hn k_ k_ (by have e:=hk.get 241 (b:=.pointer (some ⟨gy,13,none⟩)) k_;simp[execOp,e,go_sem,g7]) λa hk hn hd=>?_;replace a0:=hd.trans a0;clear hd;by_cases b7:full=c3
   case neg=>
    refine zad (v:=.bool false) hk hn k_ k_ (by have e1:=hk.get 240 (b:=.bool full) k_;have e2:=hk.get 242 (b:=.bool c3) k_;simp[execOp,e1,e2,go_sem,b7]) λa hk hn hd=>?_;replace a0:=hd.trans a0;clear hd;refine zav 4 (.bool false) k_ hk hn λa' h1 h2=>hKK _ _ (zbd rfl h1 (h2.trans a0) ?_);exact a6.out _ c7.out λh=>b7 (a4.out.1 h).2.2.2.2.2.full
   refine zad (v:=.bool true) hk hn k_ k_ (by have e1:=hk.get 240 (b:=.bool full) k_;have e2:=hk.get 242 (b:=.bool c3) k_;simp[execOp,e1,e2,go_sem,b7]) λa hk hn hd=>?_;replace a0:=hd.trans a0;clear hd;have G7:=zaa b7;clear b7;refine zau 2 [2,5,7,8,9,245] [(2,.pointer (some ⟨w.heap.size,0,none⟩)),(5,.pointer (some ⟨gy,0,none⟩)),(7,.bool q7),(8,.bool q8),(9,.bool q8),(245,.bool true)] k_ hk hn λa hk hn hd=>?_;replace a0:=hd.trans a0;clear hd;show wpList _ _ _ (_::_) a _;cases q7
   case false=>
    refine zau 2 [2,5,8,9,245,247] [(2,.pointer (some ⟨w.heap.size,0,none⟩)),(5,.pointer (some ⟨gy,0,none⟩)),(8,.bool q8),(9,.bool q8),(245,.bool true),(247,.bool false)] k_ hk hn λa hk hn hd=>?_;replace a0:=hd.trans a0;clear hd;show wpList _ _ _ (_::_) a _;refine zad (v:=.pointer (some ⟨w.heap.size,7,none⟩)) hk hn k_ k_ (by have e:=hk.get 2 (b:=.pointer (some ⟨w.heap.size,0,none⟩)) k_;simp[execOp,e,go_sem]) λa hk hn hd=>?_;replace a0:=hd.trans a0;clear hd;refine zad (v:=.slice VA vs.length vc) hk hn k_ k_ (by have e:=hk.get 248 (b:=.pointer (some ⟨w.heap.size,7,none⟩)) k_;simp[execOp,e,go_sem,d7]) λa hk hn hd=>?_;replace a0:=hd.trans a0;clear hd;refine zad (v:=.int .i64 (vs.length:Int)) hk hn k_ k_ (by have e:=hk.get 249 (b:=.slice VA vs.length vc) k_;simp[e,go_sem]) λa hk hn hd=>?_;replace a0:=hd.trans a0;clear hd;by_cases h4:vs.length=0
    case neg=>
     refine zad (v:=.bool false) hk hn k_ k_ (by have e:=hk.get 250 (b:=.int .i64 (vs.length:Int)) k_;simp[execOp,e,go_sem,h4]) λa hk hn hd=>?_;replace a0:=hd.trans a0;clear hd;refine zav 4 (.bool false) k_ hk hn λa' h1 h2=>hKK _ _ (zbd rfl h1 (h2.trans a0) ?_);exact a6.out _ c7.out λhh=>by
      have h1:=(a4.out.1 hh).2.2.2.2.2.vs;rw[j9.out]at h1;rcases h1 with h1|h1
      .cases h1
      .exact h4 h1
    refine zad (v:=.bool true) hk hn k_ k_ (by have e:=hk.get 250 (b:=.int .i64 (vs.length:Int)) k_;simp[execOp,e,go_sem,h4]) λa hk hn hd=>?_;replace a0:=hd.trans a0;clear hd;refine zau 3 [2,5,8,9,254] [(2,.pointer (some ⟨w.heap.size,0,none⟩)),(5,.pointer (some ⟨gy,0,none⟩)),(8,.bool q8),(9,.bool q8),(254,.bool true)] k_ hk hn λa hk hn hd=>?_;replace a0:=hd.trans a0;clear hd;show wpList _ _ _ (_::_) a _;have G8:Hid (false=true\/vs.length=0):=zaa (.inr h4);cases q8
    case false=>
     refine zau 2 [2,5,9,254,256] [(2,.pointer (some ⟨w.heap.size,0,none⟩)),(5,.pointer (some ⟨gy,0,none⟩)),(9,.bool false),(254,.bool true),(256,.bool false)] k_ hk hn λa hk hn hd=>?_;replace a0:=hd.trans a0;clear hd;show wpList _ _ _ (_::_) a _;refine zad (v:=.pointer (some ⟨w.heap.size,15,none⟩)) hk hn k_ k_ (by have e:=hk.get 2 (b:=.pointer (some ⟨w.heap.size,0,none⟩)) k_;simp[execOp,e,go_sem]) λa hk hn hd=>?_;replace a0:=hd.trans a0;clear hd;refine zad (v:=.slice NA names.length nc) hk hn k_ k_ (by have e:=hk.get 257 (b:=.pointer (some ⟨w.heap.size,15,none⟩)) k_;simp[execOp,e,go_sem,b8]) λa hk hn hd=>?_;replace a0:=hd.trans a0;clear hd;refine zad (v:=.int .i64 (names.length:Int)) hk hn k_ k_ (by have e:=hk.get 258 (b:=.slice NA names.length nc) k_;simp[e,go_sem]) λa hk hn hd=>?_;replace a0:=hd.trans a0;clear hd;by_cases h5:names.length=0
     case neg=>
      refine zad (v:=.bool false) hk hn k_ k_ (by have e:=hk.get 259 (b:=.int .i64 (names.length:Int)) k_;simp[execOp,e,go_sem,h5]) λa hk hn hd=>?_;replace a0:=hd.trans a0;clear hd;refine zav 4 (.bool false) k_ hk hn λa' h1 h2=>hKK _ _ (zbd rfl h1 (h2.trans a0) ?_);exact a6.out _ c7.out λhh=>by
       have h1:=(a4.out.1 hh).2.2.2.2.2.names;rw[c9.out]at h1;rcases h1 with h1|h1
       .cases h1
       .exact h5 h1
     refine zad (v:=.bool true) hk hn k_ k_ (by have e:=hk.get 259 (b:=.int .i64 (names.length:Int)) k_;simp[execOp,e,go_sem,h5]) λa hk hn hd=>?_;replace a0:=hd.trans a0;clear hd;refine zau 5 [2,5,263,265] [(2,.pointer (some ⟨w.heap.size,0,none⟩)),(5,.pointer (some ⟨gy,0,none⟩)),(263,.bool true),(265,.bool false)] k_ hk hn λa hk hn hd=>?_;replace a0:=hd.trans a0;clear hd;show wpList _ _ _ (_::_) a _;refine zad (v:=.pointer (some ⟨w.heap.size,14,none⟩)) hk hn k_ k_ (by have e:=hk.get 2 (b:=.pointer (some ⟨w.heap.size,0,none⟩)) k_;simp[execOp,e,go_sem]) λa hk hn hd=>?_;replace a0:=hd.trans a0;clear hd;refine zad (v:=.slice CA code.length cc) hk hn k_ k_ (by have e:=hk.get 266 (b:=.pointer (some ⟨w.heap.size,14,none⟩)) k_;simp[execOp,e,go_sem,b9]) λa hk hn hd=>?_;replace a0:=hd.trans a0;clear hd;refine zad (v:=.int .i64 (code.length:Int)) hk hn k_ k_ (by have e:=hk.get 267 (b:=.slice CA code.length cc) k_;simp[e,go_sem]) λa hk hn hd=>?_;replace a0:=hd.trans a0;clear hd;by_cases h6:code.length=0
     case neg=>
      refine zad (v:=.bool false) hk hn k_ k_ (by have e:=hk.get 268 (b:=.int .i64 (code.length:Int)) k_;simp[execOp,e,go_sem,h6]) λa hk hn hd=>?_;replace a0:=hd.trans a0;clear hd;refine zav 4 (.bool false) k_ hk hn λa' h1 h2=>hKK _ _ (zbd rfl h1 (h2.trans a0) ?_);exact a6.out _ c7.out λhh=>by
       have h1:=(a4.out.1 hh).2.2.2.2.2.code;rw[c9.out]at h1;rcases h1 with h1|h1
       .cases h1
       .exact h6 h1
     refine zad (v:=.bool true) hk hn k_ k_ (by have e:=hk.get 268 (b:=.int .i64 (code.length:Int)) k_;simp[execOp,e,go_sem,h6]) λa hk hn hd=>?_;replace a0:=hd.trans a0;clear hd;refine zav 4 (.bool true) k_ hk hn λa' h1 h2=>hKK _ _ (zbd rfl h1 (h2.trans a0) ?_);exact g9.out _ c7.out (a4.out.2 ⟨HK.out,c8.out,l4.out,g5.out,trivial,⟨G0.out,G1.out,G2.out,G3.out,G4.out,G5.out,G6.out,G7.out,by rw[j9.out];exact G8.out,by rw[c9.out];exact .inr h5,by rw[c9.out];exact .inr h6⟩⟩)
    refine zav 4 (.bool true) k_ hk hn λa' h1 h2=>hKK _ _ (zbd rfl h1 (h2.trans a0) ?_);exact g9.out _ c7.out (a4.out.2 ⟨HK.out,c8.out,l4.out,g5.out,trivial,⟨G0.out,G1.out,G2.out,G3.out,G4.out,G5.out,G6.out,G7.out,by rw[j9.out];exact G8.out,by rw[c9.out];exact .inl rfl,by rw[c9.out];exact .inl rfl⟩⟩)
   refine zau 9 [2,5,8,9,254] [(2,.pointer (some ⟨w.heap.size,0,none⟩)),(5,.pointer (some ⟨gy,0,none⟩)),(8,.bool q8),(9,.bool q8),(254,.bool true)] k_ hk hn λa hk hn hd=>?_;replace a0:=hd.trans a0;clear hd;show wpList _ _ _ (_::_) a _;have G8:Hid (true=true\/vs.length=0):=zaa (.inl rfl);cases q8
   case false=>
    refine zau 2 [2,5,9,254,256] [(2,.pointer (some ⟨w.heap.size,0,none⟩)),(5,.pointer (some ⟨gy,0,none⟩)),(9,.bool false),(254,.bool true),(256,.bool false)] k_ hk hn λa hk hn hd=>?_;replace a0:=hd.trans a0;clear hd;show wpList _ _ _ (_::_) a _;refine zad (v:=.pointer (some ⟨w.heap.size,15,none⟩)) hk hn k_ k_ (by have e:=hk.get 2 (b:=.pointer (some ⟨w.heap.size,0,none⟩)) k_;simp[execOp,e,go_sem]) λa hk hn hd=>?_;replace a0:=hd.trans a0;clear hd;refine zad (v:=.slice NA names.length nc) hk hn k_ k_ (by have e:=hk.get 257 (b:=.pointer (some ⟨w.heap.size,15,none⟩)) k_;simp[execOp,e,go_sem,b8]) λa hk hn hd=>?_;replace a0:=hd.trans a0;clear hd;refine zad (v:=.int .i64 (names.length:Int)) hk hn k_ k_ (by have e:=hk.get 258 (b:=.slice NA names.length nc) k_;simp[e,go_sem]) λa hk hn hd=>?_;replace a0:=hd.trans a0;clear hd;by_cases h5:names.length=0
    case neg=>
     refine zad (v:=.bool false) hk hn k_ k_ (by have e:=hk.get 259 (b:=.int .i64 (names.length:Int)) k_;simp[execOp,e,go_sem,h5]) λa hk hn hd=>?_;replace a0:=hd.trans a0;clear hd;refine zav 4 (.bool false) k_ hk hn λa' h1 h2=>hKK _ _ (zbd rfl h1 (h2.trans a0) ?_);exact a6.out _ c7.out λhh=>by
      have h1:=(a4.out.1 hh).2.2.2.2.2.names;rw[c9.out]at h1;rcases h1 with h1|h1
      .cases h1
      .exact h5 h1
    refine zad (v:=.bool true) hk hn k_ k_ (by have e:=hk.get 259 (b:=.int .i64 (names.length:Int)) k_;simp[execOp,e,go_sem,h5]) λa hk hn hd=>?_;replace a0:=hd.trans a0;clear hd;refine zau 5 [2,5,263,265] [(2,.pointer (some ⟨w.heap.size,0,none⟩)),(5,.pointer (some ⟨gy,0,none⟩)),(263,.bool true),(265,.bool false)] k_ hk hn λa hk hn hd=>?_;replace a0:=hd.trans a0;clear hd;show wpList _ _ _ (_::_) a _;refine zad (v:=.pointer (some ⟨w.heap.size,14,none⟩)) hk hn k_ k_ (by have e:=hk.get 2 (b:=.pointer (some ⟨w.heap.size,0,none⟩)) k_;simp[execOp,e,go_sem]) λa hk hn hd=>?_;replace a0:=hd.trans a0;clear hd;refine zad (v:=.slice CA code.length cc) hk hn k_ k_ (by have e:=hk.get 266 (b:=.pointer (some ⟨w.heap.size,14,none⟩)) k_;simp[execOp,e,go_sem,b9]) λa hk hn hd=>?_;replace a0:=hd.trans a0;clear hd;refine zad (v:=.int .i64 (code.length:Int)) hk hn k_ k_ (by have e:=hk.get 267 (b:=.slice CA code.length cc) k_;simp[e,go_sem]) λa hk hn hd=>?_;replace a0:=hd.trans a0;clear hd;by_cases h6:code.length=0
    case neg=>
     refine zad (v:=.bool false) hk hn k_ k_ (by have e:=hk.get 268 (b:=.int .i64 (code.length:Int)) k_;simp[execOp,e,go_sem,h6]) λa hk hn hd=>?_;replace a0:=hd.trans a0;clear hd;refine zav 4 (.bool false) k_ hk hn λa' h1 h2=>hKK _ _ (zbd rfl h1 (h2.trans a0) ?_);exact a6.out _ c7.out λhh=>by
      have h1:=(a4.out.1 hh).2.2.2.2.2.code;rw[c9.out]at h1;rcases h1 with h1|h1
      .cases h1
      .exact h6 h1
    refine zad (v:=.bool true) hk hn k_ k_ (by have e:=hk.get 268 (b:=.int .i64 (code.length:Int)) k_;simp[execOp,e,go_sem,h6]) λa hk hn hd=>?_;replace a0:=hd.trans a0;clear hd;refine zav 4 (.bool true) k_ hk hn λa' h1 h2=>hKK _ _ (zbd rfl h1 (h2.trans a0) ?_);exact g9.out _ c7.out (a4.out.2 ⟨HK.out,c8.out,l4.out,g5.out,trivial,⟨G0.out,G1.out,G2.out,G3.out,G4.out,G5.out,G6.out,G7.out,by rw[j9.out];exact G8.out,by rw[c9.out];exact .inr h5,by rw[c9.out];exact .inr h6⟩⟩)
   refine zav 4 (.bool true) k_ hk hn λa' h1 h2=>hKK _ _ (zbd rfl h1 (h2.trans a0) ?_);exact g9.out _ c7.out (a4.out.2 ⟨HK.out,c8.out,l4.out,g5.out,trivial,⟨G0.out,G1.out,G2.out,G3.out,G4.out,G5.out,G6.out,G7.out,by rw[j9.out];exact G8.out,by rw[c9.out];exact .inl rfl,by rw[c9.out];exact .inl rfl⟩⟩)
end Go.Proofs.YtlejelbefmkakaaGreat

/- Texts joined: Rp2, Re4, Re6, Rp3, Re1, Re5. -/
import Derived.Test.YtlejelbefmkakaaGreatJn1
import Derived.Test.YtlejelbefmkakaaGreatJn12
import Derived.Test.YtlejelbefmkakaaGreatJn23
import Derived.Test.YtlejelbefmkakaaGreatJn28
import Derived.Test.YtlejelbefmkakaaGreatJn29
import Derived.Test.YtlejelbefmkakaaGreatJn30
import Derived.Test.YtlejelbefmkakaaGreatJn33
import Derived.Test.YtlejelbefmkakaaGreatJn37
set_option maxHeartbeats 16000000
set_option maxRecDepth 100000
namespace Go.Proofs.YtlejelbefmkakaaGreat
open Go.RowKit
theorem zfq {v:V}:zb7 v=true↔v=V.zero:=by
 obtain⟨k,n,s,l,r⟩:=v;simp only[zb7,V.zero,Bool.and_eq_true,decide_eq_true_eq,V.mk.injEq,List.length_eq_zero_iff];constructor
 .rintro⟨⟨⟨⟨a,b⟩,c⟩,d⟩,e⟩;exact⟨a,b,c,d,e⟩
 .rintro⟨a,b,c,d,e⟩;exact⟨⟨⟨⟨a,b⟩,c⟩,d⟩,e⟩
theorem zts {v:V} (h:v.may=true):v.kd=0↔zb7 v=true:=by
 rw[zfq];obtain⟨k,n,s,l,r⟩:=v;constructor
 .intro hk;have a0:k=0:=hk;subst a0;have h1:=zlg h;rw[V.ok_mk]at h1;simp only[fok,if_true,Bool.and_eq_true,decide_eq_true_eq,List.length_eq_zero_iff]at h1;obtain⟨⟨⟨⟨a,b⟩,c⟩,d⟩,-⟩:=h1;have hs:s=⟨#[]⟩:=zfc (by rw[b,zqp]);rw[a,hs,c,d];rfl
 .intro e;rw[e];rfl
theorem zpt {l:List V}:(ofV l).2=0↔l.all V.may=true/\(V.mk 3 0 ⟨#[]⟩ l 0).may=true:=by
 unfold ofV;by_cases h1:l.all V.may=true
 .rw[if_pos h1];by_cases h2:(V.mk 3 0 ⟨#[]⟩ l 0).may=true
  .rw[if_pos h2];simp[h1,h2]
  .rw[if_neg h2];simp[h2]
 .rw[if_neg h1];simp[h1]
theorem zvr:(ofV []).2=0:=by
 rw[zpt];refine⟨rfl,?_⟩;simp[V.may,V.fits,V.ok_mk,V.size_mk,V.dep_mk,fok,ByteArray.toList_eq,top]
theorem zvs {k n:Int} {s:ByteArray} {l:List V} {r:Int} (h:(V.mk k n s l r).may=true):l.length<=512:=by
 have h1:(V.mk k n s l r).size<=512:=by simp[V.may,V.fits]at h;omega
 rw[V.size_mk]at h1;have:∀l:List V,l.length<=(l.map V.size).sum:=λl=>by
  induction l with
  |nil=>simp
  |cons x l ih=>
   have:=x.size_pos;simp only[List.length_cons,List.map_cons,List.sum_cons];omega
 have:=this l;omega
theorem Tg.short_parts {x:Tg} (h:x.short=true):x.vs.length<=1024/\x.names.length<=128/\(x.code.map G.ssz).sum<=512/\(∀y∈x.code,y.sok=true)/\∀t∈x.vals,t.v.may=true:=by
 unfold Tg.short at h;simp only[Bool.and_eq_true,decide_eq_true_eq]at h;exact⟨h.1,h.2.1,h.2.2.1,λy hy=>List.all_eq_true.1 h.2.2.2.1 y hy,λt ht=>List.all_eq_true.1 h.2.2.2.2 t ht⟩
theorem zxf {x:Tg} (h:∀t∈x.vals,t.v.may=true):x.v.v.may=true/\(∀t∈x.vs,t.v.may=true)/\∀y∈x.names,y.2.v.may=true:=
 ⟨h x.v (by simp[Tg.vals]),λt ht=>h t (by simp[Tg.vals,ht]),λy hy=>h y.2 (by
  simp only[Tg.vals,List.mem_cons,List.mem_append];exact .inr (.inr (List.mem_map_of_mem hy)))⟩
theorem zvt {k:Int} (h:1<=k/\k<=16):k=1\/k=2\/k=3\/k=4\/k=5\/k=6\/k=7\/k=8\/k=9\/k=10\/k=11\/k=12\/k=13\/k=14\/k=15\/k=16:=o_
theorem ztt {x:Tg} (hk:1<=x.kind/\x.kind<=16):x.bar.home=x.yb.home/\x.bar.v=x.yb.v/\x.bar.n=x.yb.n/\x.bar.lost=x.yb.lost/\x.bar.ofr=x.yb.ofr/\x.bar.byr=x.yb.byr/\x.bar.set=x.yb.set/\x.bar.full=x.yb.full/\
 x.bar.vs.length=(if x.q7=true then x.vs.length else 0)/\x.bar.names.length=(if x.q8=true then x.names.length else 0)/\x.bar.code.length=(if x.q8=true then x.code.length else 0)/\(x.yb.v=x.v\/x.yb.v=T.zero):=by
 obtain⟨kind,home,v,VA,vc,vs,n,lost,ofr,byr,set,full,CA,cc,a1,NA,nc,a0⟩:=x;simp only at hk;rcases zvt hk with e|e|e|e|e|e|e|e|e|e|e|e|e|e|e|e<;>subst e<;>simp[Tg.bar,Tg.yb,Tg.q7,Tg.q8]
theorem zxg {x:Tg} (h:¬(x.kind=3\/x.kind=8\/x.kind=9)):x.yb.n=0:=if_neg h
theorem zvu {x:Tg} (h:x.kind≠8):x.yb.lost=0:=if_neg h
theorem zsi {sides:Nat} {x:Tg} (hs:x.short=true) (hk0:0<=x.kind) (h:x.Form sides):x.RForm sides:=by
 obtain⟨p1,p2,p3,p4,p5⟩:=Tg.short_parts hs;obtain⟨m1,m2,m3⟩:=zxf p5;obtain⟨a0,a7,b0,a4,b5,a5,a9,b7,b6⟩:=h;have hk:1<=x.kind/\x.kind<=16:=by
  unfold Tg.Bad1 at a0;constructor
  .have:x.kind≠0:=λe=>a0 (.inl e);omega
  .exact Int.not_lt.1 λe=>a0 (.inr (.inl e))
 have a3:(ofV (x.vs.map T.v)).2=0:=Classical.byContradiction λe=>a4 (.inl e);have b4:x.names.length<=64:=Nat.not_lt.1 λe=>a4 (.inr e);have a1:x.kind≠14->0<=x.home/\x.home<(sides:Int):=λe=>Classical.byContradiction λhh=>b0 (.inl ⟨e,hh⟩);simp only[Tg.Bad1,not_or,Decidable.not_not]at a0;simp only[Tg.Bad2,not_or,Decidable.not_not,not_and,Bool.not_eq_false]at a7;obtain⟨-,-,e1,e2,e3,e4,e5,e6,e7⟩:=a0;obtain⟨f1,f2,f3,f4⟩:=a7;rw[zpt]at a3;have a6:=zvs a3.2;simp only[List.length_map]at a6;have a2:(T.row x.VA x.vc x.vs).v.may=true:=by rw[T.row_v];exact a3.2
 have b1:=zts m1;obtain⟨g1,g2,g3,g4,g5,g6,g7,g8,g9,b3,a8,b2⟩:=ztt hk;have hz:zb7 T.zero.v=true:=by rw[T.zero_v,zfq]
 refine⟨hk,a1,⟨λ_=>⟨a6,a2⟩,λh8=>?_,λh10=>?_,λ_=>⟨b4,m3⟩⟩,?_,m1,⟨e7.trans g1,?_,e1.trans g3,e2.trans g4,e3.trans g5,e4.trans g6,e5.trans g7,e6.trans g8,?_,?_,?_⟩⟩
 .have:=a5 (.inr (.inl h8));omega
 .rw[b1];exact a9 h10
 .by_cases hn:x.kind=3\/x.kind=8\/x.kind=9
  .have:=a5 hn;omega
  .rw[e1,g3,zxg hn];decide
 .rcases b2 with g|g
  .rw[g]
  .rw[g2,g,hz]at f4;rw[g,T.zero_v];exact zfq.1 (f4 rfl)
 .rw[g9]at f1;cases hq:x.q7 with
  |true=>exact .inl rfl
  |false=>rw[hq]at f1;exact .inr f1
 .rw[b3]at f3;cases hq:x.q8 with
  |true=>exact .inl rfl
  |false=>rw[hq]at f3;exact .inr f3
 .rw[a8]at f2;cases hq:x.q8 with
  |true=>exact .inl rfl
  |false=>rw[hq]at f2;exact .inr f2
theorem zvv {sides:Nat} {x:Tg} (hs:x.short=true) (h:x.RForm sides) (hset:x.kind=14->x.set<=63):x.Form sides:=by
 obtain⟨p1,p2,p3,p4,p5⟩:=Tg.short_parts hs;obtain⟨m1,m2,m3⟩:=zxf p5;obtain⟨hk,a0,a1,a5,-,he⟩:=h;obtain⟨g1,g2,g3,g4,g5,g6,g7,g8,g9,a8,a4,a9⟩:=ztt hk;have a7:=zts m1;have a2:¬(x.q7=true)->x.vs=[]:=λhq=>List.eq_nil_of_length_eq_zero (he.vs.resolve_left hq);have a3:¬(x.q8=true)->x.names=[]:=λhq=>List.eq_nil_of_length_eq_zero (he.names.resolve_left hq);have a6:¬(x.q8=true)->x.code=[]:=λhq=>List.eq_nil_of_length_eq_zero (he.code.resolve_left hq);refine⟨?_,?_,?_,?_,?_,?_,?_,λ_=>⟨p3,p4⟩,hset⟩
 .unfold Tg.Bad1;rintro(h|h|h|h|h|h|h|h|h)
  .omega
  .omega
  .exact h (he.n.trans g3.symm)
  .exact h (he.lost.trans g4.symm)
  .exact h (he.ofr.trans g5.symm)
  .exact h (he.byr.trans g6.symm)
  .exact h (he.set.trans g7.symm)
  .exact h (he.full.trans g8.symm)
  .exact h (he.home.trans g1.symm)
 .unfold Tg.Bad2;rintro(h|h|h|⟨h,h'⟩)
  .rw[g9]at h;by_cases hq:x.q7=true
   .rw[if_pos hq]at h;exact h rfl
   .rw[if_neg hq,a2 hq]at h;exact h rfl
  .rw[a4]at h;by_cases hq:x.q8=true
   .rw[if_pos hq]at h;exact h rfl
   .rw[if_neg hq,a6 hq]at h;exact h rfl
  .rw[a8]at h;by_cases hq:x.q8=true
   .rw[if_pos hq]at h;exact h rfl
   .rw[if_neg hq,a3 hq]at h;exact h rfl
  .rw[g2,<-he.v]at h;rw[h]at h';cases h'
 .unfold Tg.Bad3;rintro(⟨h,h'⟩|h)
  .exact h' (a0 h)
  .rw[m1]at h;cases h
 .unfold Tg.Bad4;rintro(h|h)
  .refine h ?_;by_cases hq:x.q7=true
   .have h7:x.kind=2\/x.kind=4:=by simpa[Tg.q7]using hq
    have:=(a1.list h7).2;rw[T.row_v]at this;rw[zpt];refine⟨?_,this⟩;rw[List.all_eq_true];intro z hz;obtain⟨t,ht,rfl⟩:=List.mem_map.1 hz;exact m2 t ht
   .rw[a2 hq];exact zvr
  .by_cases hq:x.q8=true
   .have h8:x.kind=12:=by simpa[Tg.q8]using hq
    have:=(a1.clerk h8).1;omega
   .rw[a3 hq]at h;simp at h
 .rintro⟨y,hy,h⟩;rw[m3 y hy]at h;cases h
 .intro h3;have hl:x.lost=x.yb.lost:=he.lost;by_cases h8:x.kind=8
  .have:=a1.mint h8;omega
  .rw[zvu h8]at hl;omega
 .intro h10;have:=a1.prom h10;rwa [a7]at this
theorem zpk {wb lo hi:Nat} {TA:Option Addr} {tc:Nat} {ths:List (Int×Tg)} {w:World} {r:Int} {x:Tg} (h:RwT w wb lo hi TA tc ths) (hx:zcz ths r=some x) (hk:x.kind≠14/\x.kind≠15/\x.kind≠16):
 Calls Tryz.prog 237 #[.pointer (some ⟨wb,0,none⟩),.int .i64 r] w λe w'=>e= .returned (.int .u8 (canN x.kind:Int))/\Fr No w w':=by
 have a4:=(h.fit r).kind;have hA:=ztn h r;have b1:atT ths r=x:=by unfold atT;rw[hx];rfl
 rw[hx,b1]at hA;rw[b1]at a4;have HA:=zaa hA;clear hA b1 hx;clear h;obtain⟨kd,b3⟩:∃kd,x.kind=kd:=⟨_,rfl⟩;rw[b3]at hk a4 ⊢;go_enter Tryz.func237,Tryz.ntmps237;go_wp2_with fail;refine HA.out.mono ?_;rintro e w1 ⟨rfl,f1⟩;have b2:=zaa (f1.alloc (.cells Tg.zero.cells.toArray 138));have b0:=zaa (Blk.new w1 138 Tg.zero.cells.toArray);rw[zal]at b2;have b6:=zaa f1;clear f1;go_upto_region 2 with(refine wpList_store_row r_ 138 (.tmp 5) (.tmp 11) r_ w1.heap.size x.cells.toArray r_ r_ _ _ b0.out (zam.trans (by rw[zae])) (by rw[zae,zae]) (zaq x) ?_);rw[<-zal]at*;have a3:=zaa (b2.out.trans' (zb0 _ w1.heap.size x.cells.toArray) λi hi h=>by have h':i=w1.heap.size:=h;have:=b6.out.size;omega);have a9:=zaa (zbn (us:=x.cells.toArray) b0.out);generalize b5:World.setRow _ _ _=W1 at*;have hg:=a9.out.lt;generalize w1.heap.size=g at*;obtain⟨c0,c1,b9,b7,b8,b4⟩:=a9.out.tg;rw[b3]at c0;clear b3;obtain⟨a2,a0,a1⟩:=hk;clear b5 c1 b9 b7 b8 b4 b0 b2 HA a9;by_cases k1:kd=1
 .subst k1;clear a2 a0 a1;go_wp2;go_ret;exact⟨rfl,a3.out⟩
 by_cases k2:kd=2
 .subst k2;clear a2 a0 a1;go_wp2;go_ret;exact⟨rfl,a3.out⟩
 by_cases k3:kd=3
 .subst k3;clear a2 a0 a1;go_wp2;go_ret;exact⟨rfl,a3.out⟩
 by_cases k4:kd=4
 .subst k4;clear a2 a0 a1;go_wp2;go_ret;exact⟨rfl,a3.out⟩
 by_cases k5:kd=5
 .subst k5;clear a2 a0 a1;go_wp2;go_ret;exact⟨rfl,a3.out⟩
 by_cases k6:kd=6
 .subst k6;clear a2 a0 a1;go_wp2;go_ret;exact⟨rfl,a3.out⟩
 by_cases k8:kd=8
 .subst k8;clear a2 a0 a1;go_wp2;go_ret;exact⟨rfl,a3.out⟩
 by_cases a6:kd=12
 .subst a6;clear a2 a0 a1;go_wp2;go_ret;exact⟨rfl,a3.out⟩
 by_cases k9:kd=9
 .subst k9;clear a2 a0 a1;go_wp2;go_ret;exact⟨rfl,a3.out⟩
 by_cases a8:kd=10
 .subst a8;clear a2 a0 a1;go_wp2;go_ret;exact⟨rfl,a3.out⟩
 by_cases a7:kd=11
 .subst a7;clear a2 a0 a1;go_wp2;go_ret;exact⟨rfl,a3.out⟩
 by_cases a5:kd=13
 .subst a5;clear a2 a0 a1;go_wp2;go_ret;exact⟨rfl,a3.out⟩
 have e1:(kd==1)=false:=by simpa using k1
 have e2:(kd==2)=false:=by simpa using k2
 have e3:(kd==3)=false:=by simpa using k3
 have e4:(kd==4)=false:=by simpa using k4
 have e5:(kd==5)=false:=by simpa using k5
 have e6:(kd==6)=false:=by simpa using k6
 have e8:(kd==8)=false:=by simpa using k8
 have c7:(kd==12)=false:=by simpa using a6
 have e9:(kd==9)=false:=by simpa using k9
 have c4:(kd==10)=false:=by simpa using a8
 have c6:(kd==11)=false:=by simpa using a7
 have c2:(kd==13)=false:=by simpa using a5
 have c8:(kd==14)=false:=by simpa using a2
 have c3:(kd==15)=false:=by simpa using a0
 have c5:(kd==16)=false:=by simpa using a1
 have HC:=zaa (show canN kd=0 by unfold canN;simp[k1,k2,k3,k4,k5,k6,k8,a6,k9,a8,a7,a5]);clear k1 k2 k3 k4 k5 k6 k8 a6 k9 a8 a7 a5 a2 a0 a1;go_wp2;go_ret;exact⟨by rw[HC.out];rfl,a3.out⟩
theorem zne {wb lo hi:Nat} {TA:Option Addr} {tc:Nat} {ths:List (Int×Tg)} {w:World} {r:Int} {x:Tg} {s:Nat} (h:RwT w wb lo hi TA tc ths) (hx:zcz ths r=some x) (hk:x.kind=14) (hs:x.set=(s:Int)):
 Calls Tryz.prog 237 #[.pointer (some ⟨wb,0,none⟩),.int .i64 r] w λe w'=>e= .returned (.int .u8 (s:Int))/\Fr No w w':=by
 have a0:=(h.fit r).kind;have hA:=ztn h r;have a3:atT ths r=x:=by unfold atT;rw[hx];rfl
 rw[hx,a3]at hA;rw[a3]at a0;have HA:=zaa hA;clear hA a3 hx;clear h;go_enter Tryz.func237,Tryz.ntmps237;go_wp2_with fail;refine HA.out.mono ?_;rintro e w1 ⟨rfl,f1⟩;have a4:=zaa (f1.alloc (.cells Tg.zero.cells.toArray 138));have a2:=zaa (Blk.new w1 138 Tg.zero.cells.toArray);rw[zal]at a4;have a8:=zaa f1;clear f1;go_upto_region 2 with(refine wpList_store_row r_ 138 (.tmp 5) (.tmp 11) r_ w1.heap.size x.cells.toArray r_ r_ _ _ a2.out (zam.trans (by rw[zae])) (by rw[zae,zae]) (zaq x) ?_);rw[<-zal]at*;have a6:=zaa (a4.out.trans' (zb0 _ w1.heap.size x.cells.toArray) λi hi h=>by have h':i=w1.heap.size:=h;have:=a8.out.size;omega);have a1:=zaa (zbn (us:=x.cells.toArray) a2.out);generalize a7:World.setRow _ _ _=W1 at*;have hg:=a1.out.lt;generalize w1.heap.size=g at*;obtain⟨c0,c1,b1,a9,b0,a5⟩:=a1.out.tg;rw[hk]at c0;rw[hs]at b0;clear a7 c1 b1 a9 a5 a2 a4 HA a1 hk hs a0;go_wp2;go_ret;exact⟨rfl,a6.out⟩
theorem zpl {wb lo hi:Nat} {TA:Option Addr} {tc:Nat} {ths:List (Int×Tg)} {w:World} {r:Int} {x:Tg} {a:Nat} (h:RwT w wb lo hi TA tc ths) (hx:zcz ths r=some x) (hk:x.kind=15\/x.kind=16)
 (ih:∀w':World,Fr No w w'->Calls Tryz.prog 237 #[.pointer (some ⟨wb,0,none⟩),.int .i64 x.ofr] w' λe w''=>e= .returned (.int .u8 (a:Int))/\Fr No w' w''):
 Calls Tryz.prog 237 #[.pointer (some ⟨wb,0,none⟩),.int .i64 r] w λe w'=>e= .returned (.int .u8 (a:Int))/\Fr No w w':=by
 have a0:=(h.fit r).kind;have hA:=ztn h r;have a3:atT ths r=x:=by unfold atT;rw[hx];rfl
 rw[hx,a3]at hA;rw[a3]at a0;have HA:=zaa hA;clear hA a3 hx;have HI:=zaa ih;clear h ih;go_enter Tryz.func237,Tryz.ntmps237;go_wp2_with fail;refine HA.out.mono ?_;rintro e w1 ⟨rfl,f1⟩;have a4:=zaa (f1.alloc (.cells Tg.zero.cells.toArray 138));have a2:=zaa (Blk.new w1 138 Tg.zero.cells.toArray);rw[zal]at a4;have a9:=zaa f1;clear f1;go_upto_region 2 with(refine wpList_store_row r_ 138 (.tmp 5) (.tmp 11) r_ w1.heap.size x.cells.toArray r_ r_ _ _ a2.out (zam.trans (by rw[zae])) (by rw[zae,zae]) (zaq x) ?_);rw[<-zal]at*;have a5:=zaa (a4.out.trans' (zb0 _ w1.heap.size x.cells.toArray) λi hi h=>by have h':i=w1.heap.size:=h;have:=a9.out.size;omega);have a1:=zaa (zbn (us:=x.cells.toArray) a2.out);generalize a8:World.setRow _ _ _=W1 at*;have hg:=a1.out.lt;generalize w1.heap.size=g at*;obtain⟨c0,c1,b2,b0,b1,a6⟩:=a1.out.tg;clear a8 c1 b0 b1 a6 a2 a4 HA a1 a0;generalize x.ofr=q at*;rcases hk with hk|hk;all_goals
  rw[hk]at c0;clear hk;go_wp2_with fail;refine(HI.out W1 a5.out).mono ?_;rintro e w2 ⟨rfl,f2⟩;have a7:=zaa (a5.out.trans f2);clear f2;go_wp2;go_ret;exact⟨rfl,a7.out⟩
theorem ztq {wb lo hi:Nat} {TA:Option Addr} {tc:Nat} {ths:List (Int×Tg)} {w:World} {r:Int} {a:Nat} (ha:RAbl ths r a) (h:RwT w wb lo hi TA tc ths):
 Calls Tryz.prog 237 #[.pointer (some ⟨wb,0,none⟩),.int .i64 r] w λe w'=>e= .returned (.int .u8 (a:Int))/\Fr No w w':=by
 induction ha generalizing w with
 | @no r hx=>
  have hA:=ztn h r;rw[hx]at hA;have HA:=zaa hA;generalize atT ths r=x at*;clear h hA hx;go_enter Tryz.func237,Tryz.ntmps237;go_wp2_with fail;refine HA.out.mono ?_;rintro e w1 ⟨rfl,f1⟩;have a0:=zaa (f1.alloc (.cells Tg.zero.cells.toArray 138));have a1:=zaa (Blk.new w1 138 Tg.zero.cells.toArray);rw[zal]at a0;have a2:=zaa f1;clear f1;go_wp2_with (refine wpList_store_row r_ 138 (.tmp 5) (.tmp 11) r_ w1.heap.size x.cells.toArray r_ r_ _ _ a1.out (zam.trans (by rw[zae])) (by rw[zae,zae]) (zaq x) ?_);go_ret;exact⟨rfl,a0.out.trans' (zb0 _ _ _) λi hi h=>by have h':i=w1.heap.size:=h;have:=a2.out.size;omega⟩
 | @base r x hx hk=>exact zpk h hx hk
 | @facet r x s hx hk hs=>exact zne h hx hk hs
 | @pass r x a hx hk ha ih=>exact zpl h hx hk λw' f=>ih (h.no f)
theorem zc7 (x:Int×Tg):(zc9 x).toArray.size=17:=by simp[zdg]
theorem zgj (x:Int×Tg):∀u∈zc9 x,u.oneCell'=true:=λu hu=>by
 rcases List.mem_cons.1 hu with rfl|hu
 .rfl
 .exact Tg.cells_one _ u hu
theorem zh2 (x:Int×Tg):(zc9 x).toArray.all (·.oneCell')=true:=all_oneCell_toArray (zgj x)
theorem zd3:(Tryz.prog.info? 140).map (·.size)=some 17:=k_
theorem zgk:(zc9 (0,Tg.zero)).toArray=#[.int .i64 0,.int .u8 0,.int .i64 0,.int .u8 0,.int .i64 0,.string ⟨#[]⟩,.slice none 0 0,.int .i64 0,.slice none 0 0,.int .i64 0,.int .i64 0,.int .i64 0,.int .i64 0,.int .u8 0,.bool false,.slice none 0 0,.slice none 0 0]:=rfl
theorem Blk.ent {w:World} {g:Nat} {t:TypeId} {x:Int×Tg} (h:Blk w g t (zc9 x).toArray):
 w.cell? ⟨g,0,none⟩=some (.int .i64 x.1)/\w.cell? ⟨g,1,none⟩=some (.int .u8 x.2.kind)/\w.cell? ⟨g,2,none⟩=some (.int .i64 x.2.home)/\w.rangeAt g 1 x.2.cells:=by
 have e:∀i,w.cell? ⟨g,i,none⟩=(zc9 x)[i]? :=λi=>(h.cell i).trans s_;obtain⟨a0,a1,-⟩:=x.2.cell_at;refine⟨e 0,(e 1).trans ?_,(e 2).trans ?_,λj u hu=>?_⟩
 .simp[zc9,a0]
 .simp[zc9,a1]
 .rw[Nat.add_comm];exact(e (j+1)).trans (by simpa[zc9]using hu)
theorem zvl {a:Nat} (ha:a<64) (h0:a≠0):pcN (a&&&(a - 1))+1=pcN a:=by
 have:∀a:Fin 64,a.1≠0->pcN (a.1&&&(a.1 - 1))+1=pcN a.1:=d_;exact this ⟨a,ha⟩ h0
def spA (A:Int->Nat) (x:Int×Tg):Int:=if x.2.kind=14 then -1 else 2 ^ pcN (A x.1) - 1
theorem zxc {p:Nat} (h:p<=6):(2:Nat) ^ p<=64:=by
 have:p=0\/p=1\/p=2\/p=3\/p=4\/p=5\/p=6:=o_;rcases this with rfl|rfl|rfl|rfl|rfl|rfl|rfl<;>decide
theorem zpo (A:Int->Nat) (x:Int×Tg): -64<=spA A x/\spA A x<=64:=by
 unfold spA;split
 .omega
 .have h:=zlt (A x.1);generalize pcN (A x.1)=p at*;have:p=0\/p=1\/p=2\/p=3\/p=4\/p=5\/p=6:=o_;rcases this with rfl|rfl|rfl|rfl|rfl|rfl|rfl<;>decide
theorem zk2 (A:Int->Nat):∀l:List (Int×Tg),-64*(l.length:Int)<=(l.map (spA A)).sum/\(l.map (spA A)).sum<=64*(l.length:Int)
 |[]=>by simp
 |x::l=>by
  have:=zk2 A l;have h:=zpo A x;simp only[List.map_cons,List.sum_cons,List.length_cons];omega
theorem zvm {wb lo hi:Nat} {TA:Option Addr} {tc:Nat} {ths:List (Int×Tg)} {w:World} (h:RwT w wb lo hi TA tc ths) (hl:ths.length<=1000000) (A:Int->Nat) (hA:∀x∈ths,x.2.kind≠14->RAbl ths x.1 (A x.1)/\A x.1<64):
 Calls Tryz.prog 180 #[.pointer (some ⟨wb,0,none⟩)] w λe w'=>e= .returned (.int .i64 (ths.map (spA A)).sum)/\Fr No w w':=by
 have HH:=zaa h;have HA:=zaa hA;obtain⟨c2,hlt,-,-⟩:=h;have HC:=zaa (And.intro c2 hlt);clear c2 hlt hA;go_enter Tryz.func180,Tryz.ntmps180;go_wp2_with fail;go_loopw [3,4] (λn v wr=>∃(j:Nat) (N:Int),j<=ths.length/\v= .int .i64 j/\n= .int .i64 N/\Hid (N=((ths.take j).map (spA A)).sum)/\Fr No w wr) (λ_ v _=>ths.length - (intOf v).toNat)
 case atStart=>exact⟨0,0,Nat.zero_le _,rfl,rfl,zaa s_,Fr.refl _ _⟩
 case round=>
  obtain⟨j,N,hj,rfl,rfl,HN,fr⟩:=hrel;have b0:=zaa fr;have c2:=(fr.cell HC.out.2 λh=>h).trans HC.out.1;have b2:=Nat.lt_of_lt_of_le HC.out.2 fr.size;have hb:=zk2 A (ths.take j);rw[<-HN.out,List.length_take,Nat.min_eq_left hj]at hb;by_cases hlt:j<ths.length
  case neg=>
   obtain rfl:ths.length=j:=o_;clear fr;go_wp2;go_ret;have hn:=HN.out;rw[List.take_length]at hn;exact⟨by rw[<-hn];rfl,b0.out⟩
  obtain⟨b,o1,rfl,d3,d5,-,-,b7⟩:=(HH.out.no fr).row.elem hlt;have d0:b<wr.heap.size:=by have:=HH.out.hh;have:=fr.size;omega
  have c4:=zaa b7;have a4:=zh2 ths[j];have b3:=(HH.out.row.inn _ (List.getElem_mem hlt)).2.fit.kind;have a5:=zaa (HA.out _ (List.getElem_mem hlt));have c5:=zaa (show((ths.take (j+1)).map (spA A)).sum=N+spA A ths[j] by
   rw[List.take_succ_eq_append_getElem hlt,List.map_append,List.sum_append,<-HN.out];simp)
  generalize ths[j]=xj at*;clear b7 HN fr;have a9:=zaa (Blk.new wr 140 (zc9 (0,Tg.zero)).toArray);have b1:=zaa ((Fr.refl No wr).alloc (.cells (zc9 (0,Tg.zero)).toArray 140));rw[zgk]at b1;go_upto_region 6 with(first|(refine wpList_load_mid r_ 140 (.tmp 22) r_ b (o1+j*17) r_ (zc9 xj) _ c4.out Tryz.underlying140 r_ (by rw[zdg];exact zd3) ?_)|(refine wpList_store_row r_ 140 (.tmp 5) (.tmp 23) r_ wr.heap.size (zc9 xj).toArray r_ r_ _ _ a9.out (zd3.trans (by rw[zc7])) (by rw[zc7,zc7]) a4 ?_));rw[<-zgk]at*;have d8:=b0.out.size;have c3:Fr No wr (World.setRow (wr.alloc (.cells (zc9 (0,Tg.zero)).toArray 140)) wr.heap.size (zc9 xj).toArray):=b1.out.trans' (zb0 _ wr.heap.size (zc9 xj).toArray) λi hi h=>by have h':i=wr.heap.size:=h;omega
  have a6:=zaa (b0.out.trans c3);have a8:=zaa (zbn (us:=(zc9 xj).toArray) a9.out);clear c3 c2 b2 d0 c4 b1 a4;generalize c7:World.setRow _ _ _=W1 at*;have hg:=a8.out.lt;generalize wr.heap.size=g at*;obtain⟨c0,c1,-,-⟩:=a8.out.ent;clear c7 a9;have a3:Hid (spA A xj=if xj.2.kind=14 then -1 else 2 ^ pcN (A xj.1) - 1):=zaa rfl;obtain⟨kd,b9⟩:∃kd,xj.2.kind=kd:=⟨_,rfl⟩;rw[b9]at a5 a3 b3 c1;obtain⟨rj,b4⟩:∃rj,xj.1=rj:=⟨_,rfl⟩;rw[b4]at a5 a3 c0;clear b9 b4 a8;by_cases hk:kd=14
  .subst hk;have a0:=zaa (a3.out.trans (if_pos rfl));clear a5 a3;go_wp2_with fail;go_roundw
   case rel=>exact⟨j+1,N - 1,hlt,by go_num,rfl,zaa (by rw[c5.out,a0.out];rfl),a6.out⟩
   case measure=>simp[intOf];omega
  .have d4:(kd==14)=false:=by simpa using hk
   have a0:=zaa (a3.out.trans (if_neg hk));obtain⟨a7,d1⟩:=a5.out hk;have b5:=zaa (ztq a7 (HH.out.no a6.out));have c8:=zaa (And.intro c0 c1);generalize A rj=a at*;clear a5 a3 a7 hk;go_wp2_with fail;refine b5.out.mono ?_;rintro e w2 ⟨rfl,f2⟩;have c6:=zaa (a6.out.trans f2);clear f2 a6 b5 c0 c1 c8 hg;obtain⟨wo,rfl⟩:∃wo:World,wo=wr:=⟨_,rfl⟩;go_wp2_with fail;go_loopw [6,7] (λs v wq=>∃(a1 s1:Nat),a1<64/\s= .int .i64 s1/\v= .int .u8 a1/\s1*2 ^ pcN a1=2 ^ pcN a/\1<=s1/\wq=w2) (λ_ v _=>(intOf v).toNat)
   case atStart=>exact⟨a,1,d1,rfl,rfl,by simp,by omega,rfl⟩
   case round=>
    obtain⟨a1,s1,a7,rfl,rfl,b8,e0,rfl⟩:=hrel;have d7:s1<=64:=by
     have h1:=zxc (zlt a);have h2:0<2 ^ pcN a1:=Nat.pow_pos o_;have h3:s1*1<=s1*2 ^ pcN a1:=Nat.mul_le_mul_left _ h2;omega
    have b6:=zaa b8;clear b8;by_cases h0:a1=0
    .subst h0;have hp:=b6.out;rw[show pcN 0=0 from rfl,Nat.pow_zero,Nat.mul_one]at hp;have c9:=zaa hp;clear hp;go_wp2_with fail;go_roundw
     case rel=>exact⟨j+1,N+s1 - 1,hlt,by go_num,rfl,zaa (by rw[c5.out,a0.out,c9.out];simp;omega),c6.out⟩
     case measure=>simp[intOf];omega
    .have hp:decide ((0:Int)<(a1:Int))=true:=so_;have d9:1<=a1:=o_;have e1:((a1:Int) - 1)=((a1 - 1:Nat):Int):=o_;have e2:bits .and .u8 (a1:Int) ((a1 - 1:Nat):Int)=((a1&&&(a1 - 1):Nat):Int):=u8_and_nat a1 (a1 - 1) o_ o_;go_wp2_with fail;have d6:a1&&&(a1 - 1)<=a1 - 1:=Nat.and_le_right;have d2:=zaa (zvl a7 h0);generalize a1&&&(a1 - 1)=a2 at*;go_roundw
     case rel=>
      refine⟨a2,2*s1,by omega,by go_num,rfl,?_,by omega,trivial⟩;rw[<-b6.out,<-d2.out,Nat.pow_succ,Nat.mul_comm (2 ^ pcN a2) 2,<-Nat.mul_assoc,Nat.mul_comm 2 s1]
     case measure=>simp[intOf];omega
def zpu (k:Nat) (cuts:List Int):List Bool:=cuts.foldl (λl c=>l.set (c - 1).toNat true) (List.replicate k false)
theorem zpv {k j:Nat} {cuts:List Int} {c:Int} (h:cuts[j]? =some c):zpu k (cuts.take (j+1))=(zpu k (cuts.take j)).set (c - 1).toNat true:=by
 unfold zpu;rw[List.take_add_one,h];simp
theorem zmc:∀(cs:List Int) (l:List Bool),(cs.foldl (λl c=>l.set (c - 1).toNat true) l).length=l.length
 |[],l=>rfl
 |c::cs,l=>by rw[List.foldl_cons,zmc cs];simp
theorem zec (k:Nat) (cuts:List Int):(zpu k cuts).length=k:=by
 unfold zpu;rw[zmc];simp
def zk3 (k:Nat) (ths:List (Int×Tg)) (last:Int) (i:Nat):Prop:=∀x,ths[i]? =some x->x.2.RForm k/\1<=x.1/\x.1<=last/\zbk ths i<x.1
section
variable {ps cuts:List Int} {ths L:List (Int×Tg)} {last:Int} {made:List Int} {k j:Nat}
theorem zsj (h:∀i,i<j->zk3 k ths last i):0<=zbk ths j:=by
 cases j with
 |zero=>exact Int.le_refl _
 |succ i=>
  show 0<=(ths[i]?.map Prod.fst).getD 0;cases hx:ths[i]? with
  |none=>exact Int.le_refl _
  |some x=>
   have:=(h i o_ x hx).2.1;show 0<=x.1;omega
theorem zsk (hg:∀i,i<j->zk3 made.length ths last i) {x:Int×Tg} (hx:ths[j]? =some x) (hs:x.2.short=true) (hk:0<=x.2.kind) (h:x.1<1\/last<x.1\/x.1<=zbk ths j\/¬x.2.RForm made.length):¬FromOk ps cuts ths last made:=by
 intro F;have hp:=zsj hg;obtain⟨h1,h2,h3⟩:=F.thing j x hx;rcases h with h|h|h|h
 .omega
 .omega
 .omega
 .exact h (zsi hs hk h1)
theorem zsl (h:∀i,i<ths.length->∀x,ths[i]? =some x->x.1<=last/\zbk ths i<x.1) (hl:0<=last):(ths.length:Int)<=last:=by
 have a0:∀i,i<=ths.length->(i:Int)<=zbk ths i:=by
  intro i;induction i with
  |zero=>intro _;exact Int.le_refl _
  |succ i ih=>
   intro hi;have hlt:i<ths.length:=hi;have:=(h i hlt _ (List.getElem?_eq_getElem hlt)).2;have h2:=ih o_;show((i+1:Nat):Int)<=(ths[i]?.map Prod.fst).getD 0;rw[List.getElem?_eq_getElem hlt];show((i+1:Nat):Int)<=ths[i].1;omega
 cases hn:ths.length with
 |zero=>simpa using hl
 |succ n=>
  have h1:=a0 ths.length (Nat.le_refl _);rw[hn]at h1;have hlt:n<ths.length:=o_;have h2:=(h n hlt _ (List.getElem?_eq_getElem hlt)).1;have h3:zbk ths (n+1)=ths[n].1:=by
   show(ths[n]?.map Prod.fst).getD 0=_;rw[List.getElem?_eq_getElem hlt];rfl
  rw[h3]at h1;omega
theorem zsm (h:last<0\/64*made.sum<last\/64*made.sum<(ths.length:Int)):¬FromOk ps cuts ths last made:=by
 intro F;have h1:=F.lasts;have h2:=zsl (λi _ x hx=>(F.thing i x hx).2) h1.1;omega
theorem zpw {n:Int} (hn:made[j]? =some n) (h:n<0\/512<n\/n<zby ths j):¬FromOk ps cuts ths last made:=by
 intro F;have h1:=F.mades j n hn;have h2:=(zcu ths j).1;omega
def zgl (ths L:List (Int×Tg)):Prop:=(L.map λx=>(x.1,x.2.pl))=ths.map λx=>(x.1,x.2.pl)
theorem zgl.pl (h:zgl ths L):(Gm.ofT L).pl=(Gm.ofT ths).pl:=by rw[zhy,zhy];exact h
theorem zgl.len (h:zgl ths L):L.length=ths.length:=by simpa[zgl]using congrArg List.length h
theorem zgl.at_ (h:zgl ths L) {i:Nat} {y:Int×Tg} (hy:L[i]? =some y):∃x,ths[i]? =some x/\x.1=y.1/\x.2.pl=y.2.pl:=by
 have h1:=congrArg (λl=>l[i]?) h;simp only[List.getElem?_map,hy,Option.map_some]at h1;cases hx:ths[i]? with
 |none=>rw[hx]at h1;cases h1
 |some x=>
  rw[hx]at h1;simp only[Option.map_some,Option.some.injEq,Prod.mk.injEq]at h1;exact⟨x,rfl,h1.1.symm,h1.2.symm⟩
theorem zgl.fst (h:zgl ths L):L.map Prod.fst=ths.map Prod.fst:=by
 have:=congrArg (List.map λz:Int×TgV=>z.1) h;simpa[List.map_map,Function.comp_def]using this
theorem zvw {x y:Tg} (h:x.pl=y.pl):x.vals.map T.v=y.vals.map T.v:=by
 have h1:=congrArg TgV.v h;have h2:=congrArg TgV.vs h;have h3:=congrArg (List.map λz:ByteArray×V=>z.2) (congrArg TgV.names h);simp only[Tg.pl,List.map_map]at h1 h2 h3;unfold Tg.vals;simp only[List.map_cons,List.map_append,List.map_map];rw[h1,h2];congr 2
theorem ztu {x y:Tg} (h:x.pl=y.pl) (hm:∀t∈x.vals,t.v.may=true):∀t∈y.vals,t.v.may=true:=λt ht=>by
 have:t.v∈y.vals.map T.v:=List.mem_map_of_mem ht;rw[<-zvw h]at this;obtain⟨s,hs,e⟩:=List.mem_map.1 this;rw[<-e];exact hm s hs
theorem zvx {x y:Tg} (h:x.pl=y.pl):y.vs.length=x.vs.length/\y.names.length=x.names.length:=by
 have h2:=congrArg List.length (congrArg TgV.vs h);have h3:=congrArg List.length (congrArg TgV.names h);simp only[Tg.pl,List.length_map]at h2 h3;exact⟨h2.symm,h3.symm⟩
theorem zpx (h:∀i,i<ths.length->∀x,ths[i]? =some x->zbk ths i<x.1):(ths.map Prod.fst).Nodup:=by
 have a1:∀(i j:Nat),i<j->∀(x y:Int×Tg),ths[i]? =some x->ths[j]? =some y->x.1<y.1:=by
  intro i j;induction j with
  |zero=>intro hij;omega
  |succ j ih=>
   intro hij x y hx hy;have a2:=(List.getElem?_eq_some_iff.1 hy).1;have h1:=h (j+1) a2 y hy;have hj:j<ths.length:=o_;have h2:zbk ths (j+1)=ths[j].1:=by
    show(ths[j]?.map Prod.fst).getD 0=_;rw[List.getElem?_eq_getElem hj];rfl
   rw[h2]at h1;by_cases a0:i=j
   .subst a0;rw[List.getElem?_eq_getElem hj]at hx;injection hx with hx
    rw[<-hx];exact h1
   .have:=ih o_ x ths[j] hx (List.getElem?_eq_getElem hj);omega
 rw[List.nodup_iff_pairwise_ne,List.pairwise_map,List.pairwise_iff_getElem];intro i j hi hj hij e;have:=a1 i j hij _ _ (List.getElem?_eq_getElem hi) (List.getElem?_eq_getElem hj);omega
theorem zgl.pre (h:zgl ths L) (hg:∀i,i<ths.length->zk3 k ths last i) (hs:∀x∈ths,x.2.short=true) (hf:∀x∈L,x.2.Fit):RPre L:=by
 refine⟨?_,λy hy=>?_,λy hy=>?_,λy hy=>(hf y hy).set,λy hy=>?_⟩
 .rw[h.fst];exact zpx λi hi x hx=>(hg i hi x hx).2.2.2
 all_goals
  obtain⟨i,hi,rfl⟩:=List.mem_iff_getElem.1 hy;obtain⟨x,hx,e1,e2⟩:=h.at_ (List.getElem?_eq_getElem hi);have a1:=(List.getElem?_eq_some_iff.1 hx).1;have a0:=hg i a1 x hx
 .rw[<-e1];exact a0.2.1
 .have e3:=congrArg TgV.kind e2;simp only[Tg.pl]at e3;rw[<-e3];exact a0.1.kind
 .exact ztu e2 (Tg.short_parts (hs x (List.mem_of_getElem? hx))).2.2.2.2
noncomputable def zc0 (L:List (Int×Tg)) (r:Int):Nat:=Classical.epsilon (RAbl L r)
theorem zmd {r:Int} {a:Nat} (h:RAbl L r a):zc0 L r=a:=(Classical.epsilon_spec (⟨a,h⟩:∃a,RAbl L r a)).uniq h
theorem ziq (hp:RPre L) (hh:∀x∈L,∃n,(Gm.ofT L).Hgt x.1 n) (r:Int):RAbl L r (zc0 L r):=by
 obtain⟨a,ha⟩:=zps hh (λx hx=>(hp.set x hx).1) r;rw[zmd ha];exact ha
def zng (L:List (Int×Tg)) (i:Nat):Prop:=∀x,L[i]? =some x->zpf L x.1 x.2 (zc0 L x.2.ofr)=0
theorem zjy {r:Int} {x:Tg} {a:Nat}:zpf L r x a=0↔(ze5 L x&&zfo L r x a)=true:=by
 unfold zpf;cases ze5 L x<;>cases zfo L r x a<;>simp
theorem zpy (hp:RPre L) (hw:∀x∈L,zfp L x.1) (ha:∀i,i<L.length->zng L i):(Gm.ofT L).Snd:=by
 have hh:∀x∈L,∃n,(Gm.ofT L).Hgt x.1 n:=λx hx=>(zhc _).1 (hw x hx);rw[zhd hp];refine⟨hh,λx hx a h=>?_⟩;obtain⟨i,hi,rfl⟩:=List.mem_iff_getElem.1 hx;have:=ha i hi _ (List.getElem?_eq_getElem hi);rw[zmd h,zjy]at this;exact this
theorem zxh (h:zgl ths L) (hp:RPre L) {x:Int×Tg} (hx:x∈L) (hw:¬zfp L x.1):¬FromOk ps cuts ths last made:=λF=>by
 have hS:=F.snd.sim h.pl.symm;rw[zhd hp]at hS;exact hw ((zhc _).2 (hS.1 x hx))
theorem zxi (h:zgl ths L) (hp:RPre L) (_hw:∀x∈L,zfp L x.1) {i:Nat} (ha:¬zng L i):¬FromOk ps cuts ths last made:=λF=>by
 have hS:=F.snd.sim h.pl.symm;rw[zhd hp]at hS;exact ha λx hx=>zjy.2 (hS.2 x (List.mem_of_getElem? hx) _ (ziq hp hS.1 _))
theorem ze6 (hp:RPre L) (hS:(Gm.ofT L).Snd) {x:Int×Tg} (hx:x∈L):RAbl L x.1 (zc0 L x.1)/\zc0 L x.1<64/\(Gm.ofT L).abl x.1=zc0 L x.1:=by
 have a0:=(zhd hp).1 hS;obtain⟨n,hn⟩:=a0.1 x hx;have h1:=ziq hp a0.1 x.1;have h2:=zmb hp hn (λy hy hk a ha=>by
  have:=a0.2 y hy a ha;rw[Bool.and_eq_true]at this;have h3:=this.2;unfold zfo at h3;simp only[hk,if_true]at h3;rw[if_neg d_,if_neg d_,if_neg d_,if_neg d_,if_neg d_,if_neg d_,if_neg d_]at h3;simp only[Bool.and_eq_true]at h3;exact h3.1.2.1) _ h1
 exact⟨h1,h2.lt,Gm.abl_eq h2⟩
theorem zjz (h:zgl ths L) (hp:RPre L) (hS:(Gm.ofT L).Snd):(L.map (spA (zc0 L))).sum=(Gm.ofT ths).spare:=by
 rw[<-Gm.sim_spare h.pl];unfold Gm.spare;rw[zf4,List.map_map];congr 1
 refine List.map_congr_left λx hx=>?_;show spA (zc0 L) x=Gm.spN (Gm.ofT L) (x.1,0,x.2);unfold spA Gm.spN;rw[(ze6 hp hS hx).2.2]
theorem zpz (h:zgl ths L) (hp:RPre L) (hS:(Gm.ofT L).Snd) {x:Int×Tg} (hx:x∈ths) (hk:x.2.kind=14):x.2.set<=63:=by
 have a5:=hS.sim h.pl;have a6:=(zhd hp).1 hS;obtain⟨i,hi,rfl⟩:=List.mem_iff_getElem.1 hx;have a2:i<L.length:=by rw[h.len];exact hi
 obtain⟨x',a1,e1,e2⟩:=h.at_ (List.getElem?_eq_getElem a2);rw[List.getElem?_eq_getElem hi]at a1;injection a1 with a1
 subst a1;have e3:=congrArg TgV.kind e2;have e4:=congrArg TgV.set e2;have e5:=congrArg TgV.ofr e2;simp only[Tg.pl]at e3 e4 e5;have hm:=List.getElem_mem a2;have a3:(L[i]).2.kind=14:=by rw[<-e3];exact hk
 have a0:=hS.fit _ (zdf hm);unfold Gm.fitS at a0;simp only[a3,if_true,Bool.and_eq_true]at a0;obtain⟨⟨⟨h1,h2⟩,h3⟩,h4⟩:=a0;obtain⟨y,hy⟩:=Option.isSome_iff_exists.1 h1;obtain⟨-,q2,q3⟩:=ze6 hp hS (zcg (zb5 hy));simp only at q2 q3;rw[q3]at h4;have a4:=hp.set _ hm;rw[show(L[i]).2.set=(((L[i]).2.set.toNat:Nat):Int) by omega]at h4;have h5:=zoo o_ q2 h4;have h6:(L[i]).2.set.toNat&&&zc0 L (L[i]).2.ofr<=zc0 L (L[i]).2.ofr:=Nat.and_le_right;rw[h5]at h6;rw[e4];omega
theorem zsn (hn:zgx ps) (hsd:made.length=ps.length+1) (hc:∀i,zm2 made.length cuts i) (hg:∀i,i<ths.length->zk3 made.length ths last i) (hs:∀x∈ths,x.2.short=true)
 (hmd:∀s n,made[s]? =some n->zby ths s<=n/\n<=512) (hl:0<=last/\last<=64*made.sum) (h:zgl ths L) (hf:∀x∈L,x.2.Fit) (hw:∀x∈L,zfp L x.1) (ha:∀i,i<L.length->zng L i)
 (hsp:last+(L.map (spA (zc0 L))).sum<=64*made.sum):FromOk ps cuts ths last made:=by
 have hp:=h.pre hg hs hf;have hS:=zpy hp hw ha;refine⟨hn,hsd,hc,λi x hx=>?_,hmd,hl,hS.sim h.pl,by rw[<-zjz h hp hS];exact hsp⟩;have a0:=(List.getElem?_eq_some_iff.1 hx).1;obtain⟨g1,g2,g3,g4⟩:=hg i a0 x hx;have hm:=List.mem_of_getElem? hx;exact⟨zvv (hs x hm) g1 (zpz h hp hS hm),g3,g4⟩
theorem zso (hg:∀i,i<ths.length->zk3 made.length ths last i) (hs:∀x∈ths,x.2.short=true) (h:zgl ths L) (hf:∀x∈L,x.2.Fit) (hw:∀x∈L,zfp L x.1) (ha:∀i,i<L.length->zng L i)
 (hsp:¬last+(L.map (spA (zc0 L))).sum<=64*made.sum):¬FromOk ps cuts ths last made:=λF=>by
 have hp:=h.pre hg hs hf;have hS:=zpy hp hw ha;have:=F.spare;rw[<-zjz h hp hS]at this;exact hsp this
end
theorem zl5 {v:V} (h:v.may=true):v.size<=512:=by simp[V.may,V.fits]at h;omega
theorem zpg (t:T):∀(w:World) (lo hi:Nat),t.In w lo hi->hi<=w.heap.size->t.v.size<=1000000->Calls Tryz.prog 269 #[t.val] w (zi6 t.v.rf w):=by
 induction t using T.ind with
 |h k n s A cap l r ih=>
  intro w lo hi ht hh hsz;rw[T.val_mk];have d3:=(T.in_mk.1 ht).1;have c9:=d3.len1;have hK:=Blk.new' w 28 #[.int .u8 k,.int .i64 n,.string s,.slice A l.length cap,.int .i64 r] rfl;have a6:=(Fr.refl No w).alloc (.cells #[.int .u8 k,.int .i64 n,.string s,.slice A l.length cap,.int .i64 r] 28);by_cases h4:k=4
  .subst h4;have e:(T.mk 4 n s A cap l r).v.rf=[r]:=by rw[T.v_mk,V.rf_mk,if_pos rfl]
   rw[e];have hB:=Blk.new (w.alloc (.cells #[.int .u8 4,.int .i64 n,.string s,.slice A l.length cap,.int .i64 r] 28)) 22 #[.int .i64 r];have hP:zi6 [r] w (.returned (.slice (some ⟨w.heap.size+1,0,none⟩) 1 1)) ((w.alloc (.cells #[.int .u8 4,.int .i64 n,.string s,.slice A l.length cap,.int .i64 r] 28)).alloc (.cells #[.int .i64 r] 22)):=by
    refine⟨_,rfl,⟨rfl,.inr ⟨w.heap.size+1,1,#[.int .i64 r],rfl,by omega,?_,Nat.le_refl _,by unfold maxLen;omega,rfl,rfl⟩⟩,a6.alloc _⟩;rw[World.size_alloc]at hB;exact hB
   have HP:=zaa hP;clear ih hP hB;go_enter Tryz.func269,Tryz.ntmps269;go_wp2;go_ret;exact HP.out
  have d8:(k==4)=false:=by simpa using h4
  have b4:(T.mk k n s A cap l r).v.rf=((l.map T.v).map V.rf).flatten:=by rw[T.v_mk,V.rf_mk,if_neg h4]
  have a0:(T.mk k n s A cap l r).v.size=1+((l.map T.v).map V.size).sum:=by rw[T.v_mk,V.size_mk]
  rw[a0]at hsz;have c8:=zaa b4;have a2:=zaa a6;have HK:=zaa hK;clear a0 b4 a6 hK;go_enter Tryz.func269,Tryz.ntmps269;go_wp2_with fail;generalize World.alloc w _=W0 at*;go_loopw [3,4] (λv i wr=>∃(j:Nat) (L:List Int),j<=l.length/\i= .int .i64 j/\Hid (L=(((l.map T.v).take j).map V.rf).flatten)/\wr.ownsRow W0.heap.size 22 1 v L.length (zak L)/\L.length<=(((l.map T.v).map V.size).take j).sum/\Fr No W0 wr) (λ_ i _=>l.length - (intOf i).toNat)
  case atStart=>
   exact⟨0,[],Nat.zero_le _,rfl,zaa s_,World.ownsRow_nil _ _ _ _,by simp,Fr.refl _ _⟩
  case round=>
   obtain⟨j,L,hj,rfl,HL,a3,b2,fr⟩:=hrel;obtain⟨c0,c1,c2,d5,c4,cf⟩:=(HK.out.fr fr λh=>h).cells5;have q0:=(HK.out.fr fr λh=>h).lt;have d9:=zcc ((l.map T.v).map V.size) j;by_cases hlt:j<l.length
   .have a4:=a2.out.trans fr;obtain⟨b,o,k1,n1,s1,A1,a1,l1,r1,rfl,d4,e6,hx,b6,e0,e1,e2,e3,e4⟩:=T.elem (ht.no a4 hh) hlt;have a5:=zb6 ((l.map T.v).map V.size) j (by simpa using hlt);have a8:=zcc ((l.map T.v).map V.size) (j+1);rw[List.getElem_map,List.getElem_map,hx]at a5;have d2:j<(l.map T.v).length:=by simpa using hlt
    have b0:(((l.map T.v).take (j+1)).map V.rf).flatten=L++(T.mk k1 n1 s1 A1 a1 l1 r1).v.rf:=by
     rw[List.take_succ_eq_append_getElem d2,List.map_append,List.flatten_append,<-HL.out,List.getElem_map,hx];simp
    have e5:=zjw (T.mk k1 n1 s1 A1 a1 l1 r1).v;have IH:=ih l[j] (List.getElem_mem hlt) wr lo hi (by rw[hx];exact b6) (by have:=a4.size;omega);rw[hx,T.val_mk]at IH;generalize (T.mk k1 n1 s1 A1 a1 l1 r1).v=u at*;have b3:=IH o_;have d7:u.size<=1000000:=o_;have g0:b<wr.heap.size:=by have:=a4.size;omega
    have c7:=zaa b3;have HO:=zaa a3;have HF:=zaa fr;have c5:=zaa b0;have b7:=zaa a5;have b1:=zaa b2;clear ih IH b3 a3 fr b0 a5 HL hx b6 ht b2 a8 a4;generalize hR:u.rf=R at*;have HR:=zaa hR;have e7:R.length<=1000000:=o_;have d6:L.length<=1000000:=by have:=b1.out;omega
    clear hR;go_wp2_with fail;refine c7.out.mono ?_;rintro e w2 ⟨vc,rfl,oc,f2⟩;have a9:=zaa (zaf HO.out f2 λ_ _ h=>h);have a7:W0.heap.size<=w2.heap.size:=by have:=HF.out.size;have:=f2.size;omega
    have c3:=zaa f2;have d1:=zaa oc;clear f2 oc;go_wp2_with (at_builtin;refine zb4 _ r_ _ _ r_ W0.heap.size wr.heap.size _ vc L R r_ r_ a9.out d1.out o_ a7 ?_;intro v' w' hown' hgr;have c6:=zaa hown';have d0:=zaa hgr;clear hown' hgr);go_roundw
    case rel=>
     refine⟨j+1,L++R,hlt,by go_num,zaa c5.out.symm,c6.out,by rw[b7.out,List.length_append];have:=b1.out;omega,(HF.out.trans c3.out).grown d0.out λi hi hlt=>by have:=(zaj a9.out i hi).1;omega⟩
    case measure=>simp[intOf];omega
   .obtain rfl:l.length=j:=o_;have b8:L=((l.map T.v).map V.rf).flatten:=by rw[HL.out,List.take_of_length_le s_]
    have HO:=zaa a3;have HF:=zaa fr;have b5:=a2.out.size;have b9:=zaa b5;clear a3 fr ih ht b5;go_wp2;go_ret;refine⟨_,rfl,?_,a2.out.trans HF.out⟩;rw[c8.out,<-b8];exact zbc HO.out b9.out
theorem zph {x:Tg} (hm:∀t∈x.vals,t.v.may=true) (l:List T) (hl:∀t∈l,t∈x.vals):((l.map λt=>t.v.rf).flatten).length<=512*l.length:=by
 induction l with
 |nil=>simp
 |cons t l ih=>
  have h1:=ih λy hy=>hl y (by simp[hy]);have h2:=zjw t.v;have h3:=zl5 (hm t (hl t s_));simp only[List.map_cons,List.flatten_cons,List.length_append,List.length_cons];omega
theorem zpi (x:Tg) (w:World) (lo hi:Nat) (hx:x.In w lo hi) (hh:hi<=w.heap.size) (hvs:x.vs.length<=1024) (hns:x.names.length<=128) (hm:∀t∈x.vals,t.v.may=true):
 Calls Tryz.prog 235 #[x.val] w (zi6 x.rfs w):=by
 have b0:=zaa λ(w':World) (f:Fr No w w')=>zht x w' lo hi (hx.no f hh) (Nat.le_trans hh f.size) hvs hns;have b1:=zaa λ(w':World) (f:Fr No w w')=>Tg.vals_in (hx.no f hh);have b6:=x.vals_len;have c0:=zaa (λj=>zph hm (x.vals.take j) λt ht=>List.mem_of_mem_take ht);have c6:=zaa hm;unfold Tg.rfs;have HH:=zaa hh;have hb:=Blk.new w 138 x.cells.toArray;have hf:=(Fr.refl No w).alloc (.cells x.cells.toArray 138);have HF:=zaa hf;have HB:=zaa hb;have c4:x.vals.length<=2000:=o_;show Calls Tryz.prog 235 #[.agg x.cells.toArray] w _;have a8:=zae x;have c5:=zaa a8;have HV:Hid (x.val= .agg x.cells.toArray):=zaa rfl;generalize x.vals=VL at*;generalize x.val=xv at*;generalize x.cells.toArray=xc at*;clear hx hh hm hvs hns b6 hb hf a8;go_enter Tryz.func235,Tryz.ntmps235;go_upto_region 1 with(fail);generalize World.alloc w _=W0 at*;go_wp2_with (refine wpList_load_row r_ _ (.tmp 1) r_ w.heap.size r_ _ _ _ _ HB.out Tryz.underlying138 r_ (zam.trans (by rw[c5.out])) ?_);rw[<-HV.out];refine(b0.out W0 HF.out).mono ?_;rintro e w3 ⟨A3,c3,rfl,ho,f3⟩;have a2:=HF.out.trans f3;have b8:=a2.size;have a1:∀t∈VL,t.In w3 0 hi:=λt ht=>T.In.more (Nat.zero_le _) (Nat.le_refl _) t (b1.out w3 a2 t ht);have a0:=zgm ho a1 o_ (Nat.zero_le _) (by have:=HH.out;omega);have HR:=zaa a0;have c7:=zaa a2;clear a0 a1 ho f3 a2 b0 b1 HB HF;go_wp2_with fail;go_loopw [3,5] (λv i wr=>∃(j:Nat) (L:List Int),j<=VL.length/\i= .int .i64 j/\Hid (L=((VL.take j).map λt=>t.v.rf).flatten)/\wr.ownsRow w3.heap.size 22 1 v L.length (zak L)/\Fr No w3 wr) (λ_ i _=>VL.length - (intOf i).toNat)
 case atStart=>exact⟨0,[],Nat.zero_le _,rfl,zaa s_,World.ownsRow_nil _ _ _ _,Fr.refl _ _⟩
 case round=>
  obtain⟨j,L,hj,rfl,HL,a4,fr⟩:=hrel;have HO:=zaa a4;have a5:=zaa fr;by_cases hlt:j<VL.length
  case neg=>
   obtain rfl:VL.length=j:=o_;clear a4 fr;go_wp2;go_ret;have hl:=HL.out;rw[List.take_length]at hl;rw[<-hl];exact⟨_,rfl,zbc HO.out b8,c7.out.trans a5.out⟩
  obtain⟨b,o,k1,n1,s1,A1,a7,l1,r1,rfl,c8,d0,hx,a9,e0,e1,e2,e3,e4⟩:=T.elem (HR.out.no fr (Nat.le_refl _)) hlt;have hM:=zpg VL[j] wr 0 w3.heap.size (by rw[hx];exact a9) fr.size (by have:=zl5 (c6.out _ (List.getElem_mem hlt));omega);have a3:((VL.take (j+1)).map λt=>t.v.rf).flatten=L++VL[j].v.rf:=by
   rw[List.take_succ_eq_append_getElem hlt,List.map_append,List.flatten_append,<-HL.out];simp
  have b9:=c0.out (j+1);rw[a3,List.length_append]at b9;have c9:(VL.take (j+1)).length<=2000:=so_;have b5:=zaa a3;generalize VL[j]=tj at*;rw[hx,T.val_mk]at hM;have b3:(T.mk k1 n1 s1 A1 a7 l1 r1).v.rf=tj.v.rf:=by rw[hx]
  generalize tj.v.rf=R at*;rw[b3]at hM;have HM:=zaa hM;have g0:b<wr.heap.size:=by have:=fr.size;omega
  clear hx a9 hM a3 a4 fr b3;go_wp2_with fail;refine HM.out.mono ?_;rintro e w2 ⟨vc,rfl,oc,f2⟩;have b2:=zaa (zaf HO.out f2 λ_ _ h=>h);have a6:w3.heap.size<=w2.heap.size:=by have:=a5.out.size;have:=f2.size;omega
  have c1:=zaa f2;have c2:=zaa oc;clear f2 oc;go_wp2_with (at_builtin;refine zb4 _ r_ _ _ r_ w3.heap.size wr.heap.size _ vc L R r_ r_ b2.out c2.out o_ a6 ?_;intro v' w' hown' hgr;have b4:=zaa hown';have b7:=zaa hgr;clear hown' hgr);go_roundw
  case rel=>
   exact⟨j+1,L++R,hlt,by go_num,zaa b5.out.symm,b4.out,(a5.out.trans c1.out).grown b7.out λi hi hlt=>by have:=(zaj b2.out i hi).1;omega⟩
  case measure=>simp[intOf];omega
def zvk (r k o:Int) (by_:Bool) (y:Int×Tg):Bool:=y.1 !=r&&(y.2.kind==k&&(if by_=true then y.2.byr==o else y.2.ofr==o))
theorem zpm {ths:List (Int×Tg)} {r k o:Int} {by_:Bool} (h:∀i y,i<ths.length->ths[i]? =some y->zvk r k o by_ y=false):zdl ths r k o by_=false:=by
 unfold zdl;rw[List.any_eq_false];intro y hy;obtain⟨i,hi,rfl⟩:=List.mem_iff_getElem.1 hy;have:=h i _ hi (List.getElem?_eq_getElem hi);unfold zvk at this;rw[this];decide
theorem zpn {ths:List (Int×Tg)} {r k o:Int} {by_:Bool} {j:Nat} (hj:j<ths.length) (h:zvk r k o by_ ths[j]=true):zdl ths r k o by_=true:=by
 unfold zdl;exact List.any_eq_true.2 ⟨_,List.getElem_mem hj,h⟩
theorem zk1 {wb lo hi:Nat} {TA:Option Addr} {tc:Nat} {ths:List (Int×Tg)} {w:World} (h:RwT w wb lo hi TA tc ths) (r k o:Int) (by_:Bool):
 Calls Tryz.prog 236 #[.pointer (some ⟨wb,0,none⟩),.int .i64 r,.int .i64 k,.int .i64 o,.bool by_] w λe w'=>e= .returned (.bool (zdl ths r k o by_))/\Fr No w w':=by
 have c6:=h.row.len;have HH:=zaa h;obtain⟨c2,hlt,-,-⟩:=h;have HC:=zaa (And.intro c2 hlt);clear c2 hlt;go_enter Tryz.func236,Tryz.ntmps236;go_wp2_with fail;go_loopw [11] (λv wr=>∃j:Nat,j<=ths.length/\v= .int .i64 j/\Hid (∀i y,i<j->ths[i]? =some y->zvk r k o by_ y=false)/\Fr No w wr) (λv _=>ths.length - (intOf v).toNat)
 case atStart=>exact⟨0,Nat.zero_le _,rfl,zaa λi y hi=>by omega,Fr.refl _ _⟩
 case round=>
  obtain⟨j,hj,rfl,HN,fr⟩:=hrel;have b4:=zaa fr;have c2:=(fr.cell HC.out.2 λh=>h).trans HC.out.1;have a2:=Nat.lt_of_lt_of_le HC.out.2 fr.size;by_cases hlt:j<ths.length
  case neg=>
   obtain rfl:ths.length=j:=o_;clear fr;go_wp2;go_ret;exact⟨by rw[zpm HN.out];rfl,b4.out⟩
  obtain⟨b,o1,rfl,c9,d3,b7,b8,-⟩:=(HH.out.no fr).row.elem hlt;have a7:b<wr.heap.size:=by have:=HH.out.hh;have:=fr.size;omega
  have a9:=zaa b8;have a3:=zaq ths[j].2;have b5:=(HH.out.row.inn _ (List.getElem_mem hlt)).2.fit.kind;have a1:=zaa (λh=>zpn (r:=r) (k:=k) (o:=o) (by_:=by_) hlt h);have a0:Hid (zvk r k o by_ ths[j]=false->∀i y,i<j+1->ths[i]? =some y->zvk r k o by_ y=false):=zaa λhf i y hi hy=>by
   by_cases c7:i=j
   .subst c7;rw[List.getElem?_eq_getElem hlt]at hy;injection hy with hy
    rw[<-hy];exact hf
   .exact HN.out i y o_ hy
  have HP:Hid (zvk r k o by_ ths[j]=(ths[j].1 !=r&&(ths[j].2.kind==k&&(if by_=true then ths[j].2.byr==o else ths[j].2.ofr==o)))):=zaa rfl;generalize ths[j].1=rj at*;obtain⟨xj,c1⟩:∃xj,ths[j].2=xj:=⟨_,rfl⟩;rw[c1]at a9 a3 b5 HP;clear b8 c1 HN fr;have b3:=zaa (Blk.new wr 138 Tg.zero.cells.toArray);have a6:=zaa ((Fr.refl No wr).alloc (.cells Tg.zero.cells.toArray 138));have b6:Hid ((wr.alloc (.cells Tg.zero.cells.toArray 138)).rangeAt b (o1+j*17+1) xj.cells):=zaa λq u hu=>(a6.out.cell a7 λh=>h).trans (a9.out q u hu);rw[zal]at a6;go_upto_region 5 with(first|(refine wpList_load_mid r_ 138 (.tmp 28) r_ b (o1+j*17+1) r_ xj.cells _ a9.out Tryz.underlying138 r_ (by rw[Tg.cells_len];exact zam) ?_)|(refine wpList_load_mid r_ 138 (.tmp 28) r_ b (o1+j*17+1) r_ xj.cells _ b6.out Tryz.underlying138 r_ (by rw[Tg.cells_len];exact zam) ?_)|(refine wpList_store_row r_ 138 (.tmp 12) (.tmp 29) r_ wr.heap.size xj.cells.toArray r_ r_ _ _ b3.out (zam.trans (by rw[zae])) (by rw[zae,zae]) a3 ?_));rw[<-zal]at*;have d5:=b4.out.size;have a4:Fr No wr (World.setRow (wr.alloc (.cells Tg.zero.cells.toArray 138)) wr.heap.size xj.cells.toArray):=a6.out.trans' (zb0 _ wr.heap.size xj.cells.toArray) λi hi h=>by have h':i=wr.heap.size:=h;omega
  have a5:=zaa (b4.out.trans a4);have b1:=zaa (zbn (us:=xj.cells.toArray) b3.out);have d2:=(a4.cell a2 λh=>h).trans c2;have d0:=Nat.lt_of_lt_of_le a2 a4.size;have dx:=(a4.cell a7 λh=>h).trans b7;have c8:=Nat.lt_of_lt_of_le a7 a4.size;clear a4 c2 a2 b7 a7 a9 b6 a6 a3;generalize c4:World.setRow _ _ _=W1 at*;have hg:=b1.out.lt;generalize wr.heap.size=g at*;obtain⟨c0,-,d4,d1,-,-⟩:=b1.out.tg;clear c4 b3;generalize xj.kind=kd at*;generalize xj.ofr=xo at*;generalize xj.byr=xb at*;have b2:=HP.out;obtain⟨q1,c3⟩:∃q,(rj !=r)=q:=⟨_,rfl⟩;obtain⟨q2,b9⟩:∃q,(kd==k)=q:=⟨_,rfl⟩;obtain⟨q3,b0⟩:∃q,(if by_=true then xb==o else xo==o)=q:=⟨_,rfl⟩;rw[c3,b9,b0]at b2;have HX:=zaa b2;have c5:=zaa (λh=>a1.out (HX.out.trans h));have a8:=zaa (λh=>a0.out (HX.out.trans h));clear b2 HX HP a1 a0 b1;cases q1
  case false=>
   clear b9 b0;go_wp2_with fail;go_roundw
   case rel=>exact⟨j+1,hlt,by go_num,zaa (a8.out rfl),a5.out⟩
   case measure=>simp[intOf];omega
  cases q2
  case false=>
   clear b0;go_wp2_with fail;go_roundw
   case rel=>exact⟨j+1,hlt,by go_num,zaa (a8.out rfl),a5.out⟩
   case measure=>simp[intOf];omega
  cases by_;all_goals
   simp only[if_true,if_false,Bool.false_eq_true]at b0;cases q3
  case false.false=>
   go_wp2_with fail;go_roundw
   case rel=>exact⟨j+1,hlt,by go_num,zaa (a8.out rfl),a5.out⟩
   case measure=>simp[intOf];omega
  case true.false=>
   go_wp2_with fail;go_roundw
   case rel=>exact⟨j+1,hlt,by go_num,zaa (a8.out rfl),a5.out⟩
   case measure=>simp[intOf];omega
  all_goals
   go_wp2;go_ret;exact⟨by rw[c5.out rfl];rfl,a5.out⟩
end Go.Proofs.YtlejelbefmkakaaGreat

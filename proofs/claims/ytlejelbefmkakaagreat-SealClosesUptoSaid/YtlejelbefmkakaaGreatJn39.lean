/- Texts joined: Re9. -/
import Derived.Test.YtlejelbefmkakaaGreatJn1
import Derived.Test.YtlejelbefmkakaaGreatJn38
import Derived.Deep.Cut
import Derived.Deep.CutRange
set_option maxHeartbeats 16000000
set_option maxRecDepth 100000
namespace Go.Proofs.YtlejelbefmkakaaGreat
open Go.RowKit
def ztr (r o st:Int) (y:Int×Tg):Bool:=y.1==r||(y.2.kind !=14||(y.2.ofr !=o||y.2.set !=st))
theorem zse {ths:List (Int×Tg)} {r:Int} {x:Tg}:(∀(i:Nat) (y:Int×Tg),ths[i]? =some y->ztr r x.ofr x.set y=false->zl4 ths r x=false)/\((∀(i:Nat) (y:Int×Tg),i<ths.length->ths[i]? =some y->ztr r x.ofr x.set y=true)->zl4 ths r x=true):=by
 refine⟨λi y hy hp=>?_,λh=>?_⟩
 .unfold zl4;cases hl:ths.all λy=>y.1==r||(y.2.kind !=14||(y.2.ofr !=x.ofr||y.2.set !=x.set))with
  |false=>rfl
  |true=>
   have:=List.all_eq_true.1 hl _ (List.mem_of_getElem? hy);unfold ztr at hp;rw[this]at hp;cases hp
 .unfold zl4;rw[List.all_eq_true];intro y hy;obtain⟨i,hi,rfl⟩:=List.mem_iff_getElem.1 hy;exact h i _ hi (List.getElem?_eq_getElem hi)
theorem zvn {ths:List (Int×Tg)} {x:Tg} {j:Nat} (hj:j<x.rfs.length) (h:zc5 ths x.rfs[j]=0):ze5 ths x=false:=by
 unfold ze5;cases hl:x.rfs.all λq=>zc5 ths q !=0 with
 |false=>rfl
 |true=>
  have:=List.all_eq_true.1 hl _ (List.getElem_mem hj);rw[h]at this;cases this
theorem zvo {wb lo hi:Nat} {TA:Option Addr} {tc:Nat} {ths:List (Int×Tg)} {w:World} (h:RwT w wb lo hi TA tc ths) (r:Int) (x:Tg) (lo1 hi1:Nat) (hx:x.In w lo1 hi1) (hh:hi1<=w.heap.size) (hvs:x.vs.length<=1024) (hns:x.names.length<=128) (hm:∀t∈x.vals,t.v.may=true)
 (a:Nat) (ha:x.kind=14->RAbl ths x.ofr a):
 Calls Tryz.prog 179 #[.pointer (some ⟨wb,0,none⟩),.int .i64 r,x.val] w λe w'=>e= .returned (.int .i64 (zpf ths r x a))/\Fr No w w':=by
 have l6:=zaa λ(w':World) (f:Fr No w w')=>zpi x w' lo1 hi1 (hx.no f hh) (Nat.le_trans hh f.size) hvs hns hm;have HH:=zaa h;have f0:=zaa hx.fit;have k4:=zaa (λ(j:Nat) (hj:j<x.rfs.length) h=>zvn (ths:=ths) hj h);have n8:=zph hm x.vals (λ_ h=>h);have o2:x.vals.length<=2000:=by have:=x.vals_len;omega
 have n0:x.rfs.length<=2000000:=by unfold Tg.rfs;omega
 have n6:=zaa ha;have HC:=zaa (And.intro h.c2 h.lt);have o3:=zaa (zae x);have r0:=zaa (zaq x);have HB:=zaa (Blk.new w 138 x.cells.toArray);have HF:=zaa ((Fr.refl No w).alloc (.cells x.cells.toArray 138));have HV:Hid (x.val= .agg x.cells.toArray):=zaa rfl;have a2:=zaa (show zpf ths r x a=if ze5 ths x=true then(if zfo ths r x a=true then 0 else 70)else 5 from rfl);clear h hx hh hvs hns hm ha n8 o2;show Calls Tryz.prog 179 #[.pointer (some ⟨wb,0,none⟩),.int .i64 r,.agg x.cells.toArray] w _;obtain⟨E,hE⟩:∃E,zpf ths r x a=E:=⟨_,rfl⟩;rw[hE]at a2 ⊢;clear hE;go_enter Tryz.func179,Tryz.ntmps179;go_upto_region 1 with(fail);generalize World.alloc w _=W0 at*;go_wp2_with (refine wpList_load_row r_ _ (.tmp 5) r_ w.heap.size r_ _ _ _ _ HB.out Tryz.underlying138 r_ (zam.trans (by rw[o3.out])) ?_);rw[<-HV.out];refine(l6.out W0 HF.out).mono ?_;rintro e w1 ⟨v1,rfl,ho,f1⟩;have c3:=zaa (HF.out.trans f1);have e1:=zaa (HB.out.fr f1 λh=>h);obtain⟨AL,cL,rfl⟩:=za8 ho;have l8:=zaa (Il.own (e:=22) (p:=x.rfs) ho (Nat.zero_le _) o_);clear ho f1 l6 HF HB;have p0:Hid (∃L,L=x.rfs):=zaa ⟨_,rfl⟩;go_wp2_with fail;go_loopw [8] (λi wr=>∃j:Nat,j<=x.rfs.length/\i= .int .i64 j/\Hid (∀q∈x.rfs.take j,zc5 ths q≠0)/\Fr No w1 wr) (λi _=>x.rfs.length - (intOf i).toNat)
 case atStart=>exact⟨0,Nat.zero_le _,rfl,zaa s_,Fr.refl _ _⟩
 case round=>
  obtain⟨j,hj,rfl,h1,fr⟩:=hrel;have a8:=zaa fr;by_cases hlt:j<x.rfs.length
  case pos=>
   obtain⟨b,o,rfl,m7,p5⟩:=(l8.out.no fr (Nat.le_refl _)).elem hlt;have i5:=ztp (HH.out.no (c3.out.trans fr)) x.rfs[j];obtain⟨z,hz⟩:∃z,zc5 ths x.rfs[j]=z:=⟨_,rfl⟩;have HZ:=zaa hz;rw[hz]at i5;have o6:=zaa i5;clear hz;have r1:b<wr.heap.size:=Nat.lt_of_lt_of_le m7 fr.size;have o5:=zaa (k4.out j hlt);have l0:x.rfs.take (j+1)=x.rfs.take j++[x.rfs[j]]:=by rw[List.take_add_one,List.getElem?_eq_getElem hlt];rfl
   have n7:=zaa l0;generalize x.rfs[j]=q at*;clear fr i5 l0;go_wp2_with fail;refine o6.out.mono ?_;rintro e w2 ⟨rfl,f2⟩;have k0:=zaa (a8.out.trans f2);clear f2;by_cases i8:z=0
   .subst i8;go_wp2;go_ret;exact⟨by rw[a2.out,o5.out HZ.out];rfl,c3.out.trans k0.out⟩
   .have r4:(z==0)=false:=by simpa using i8
    go_wp2_with fail;go_roundw
    case rel=>
     refine⟨j+1,hlt,by go_num,zaa ?_,k0.out⟩;rw[n7.out];intro q' e3;rcases List.mem_append.1 e3 with e3|e3
     .exact h1.out q' e3
     .simp only[List.mem_singleton]at e3;subst e3;rw[HZ.out];exact i8
    case measure=>simp[intOf];omega
  case neg=>
   obtain rfl:x.rfs.length=j:=o_;have g0:(x.rfs.all λq=>zc5 ths q !=0)=true:=by
    rw[List.all_eq_true];intro q hq;have:=h1.out q (by rw[List.take_length];exact hq);simpa using this
   have h2:=zaa g0;have f8:=zaa (c3.out.trans fr);have h6:=zaa (e1.out.fr fr λh=>h);clear g0 fr a8 h1 c3 e1 l8;obtain⟨c0,c1,b5,b8,b4,-⟩:=h6.out.tg;have c4:=h6.out.lt;have q6:=f0.out.kind;have m6:=zaa (ztn (HH.out.no f8.out) x.ofr);have r5:=((HH.out.no f8.out).fit x.ofr).kind;have h0:=zaa (λ(w':World) (f:Fr No w w')=>ztn (HH.out.no f) x.byr);have q0:=((HH.out.no f8.out).fit x.byr).kind;have HE:Hid (zpf ths r x a=E):=zaa a2.out.symm;go_wp2_with fail;refine m6.out.mono ?_;rintro e w3 ⟨rfl,f3⟩;have l9:=zaa f3;have d6:=zaa (f3.alloc (.cells Tg.zero.cells.toArray 138));have e0:=zaa (Blk.new w3 138 Tg.zero.cells.toArray);rw[zal]at d6;clear f3 c0 c1 b5 b8 b4 c4;generalize j9:atT ths x.ofr=xo at*;generalize l7:(zcz ths x.ofr).isSome=io at*;have m1:=zaa l7;have l3:=zaa j9;clear l7 j9;go_upto_region 9 with(refine wpList_store_row r_ 138 (.tmp 10) (.tmp 42) r_ w3.heap.size xo.cells.toArray r_ r_ _ _ e0.out (zam.trans (by rw[zae])) (by rw[zae,zae]) (zaq xo) ?_);rw[<-zal]at*;have j0:=zaa (d6.out.trans' (zb0 _ w3.heap.size xo.cells.toArray) λi hi h=>by have h':i=w3.heap.size:=h;have:=l9.out.size;omega);have k3:=zaa (zbn (us:=xo.cells.toArray) e0.out);have c9:=zaa (h6.out.fr j0.out λh=>h);have d5:=zaa (f8.out.trans j0.out);clear d6 e0 l9 h6 f8;generalize e8:World.setRow _ _ _=W4 at*;generalize w3.heap.size=g4 at*;clear e8 j0;obtain⟨c0,c1,b5,b8,b4,-⟩:=c9.out.tg;have c4:=c9.out.lt;go_wp2_with fail;refine(h0.out W4 d5.out).mono ?_;rintro e w5 ⟨rfl,f5⟩;have j4:=zaa f5;have d6:=zaa (f5.alloc (.cells Tg.zero.cells.toArray 138));have e0:=zaa (Blk.new w5 138 Tg.zero.cells.toArray);rw[zal]at d6;clear f5 c0 c1 b5 b8 b4 c4;generalize l2:atT ths x.byr=xb at*;generalize k1:(zcz ths x.byr).isSome=ib at*;have j6:=zaa k1;have j8:=zaa l2;clear k1 l2;go_upto_region 10 with(refine wpList_store_row r_ 138 (.tmp 12) (.tmp 49) r_ w5.heap.size xb.cells.toArray r_ r_ _ _ e0.out (zam.trans (by rw[zae])) (by rw[zae,zae]) (zaq xb) ?_);rw[<-zal]at*;have h9:=zaa (d6.out.trans' (zb0 _ w5.heap.size xb.cells.toArray) λi hi h=>by have h':i=w5.heap.size:=h;have:=j4.out.size;omega);have g8:=zaa (zbn (us:=xb.cells.toArray) e0.out);have b2:=zaa (c9.out.fr h9.out λh=>h);have d8:=zaa (k3.out.fr h9.out λh=>h);have a0:=zaa (d5.out.trans h9.out);clear d6 e0 j4 c9 k3 d5;generalize e8:World.setRow _ _ _=W6 at*;generalize w5.heap.size=g6 at*;clear e8 h9;obtain⟨c0,c1,b5,b8,b4,-⟩:=b2.out.tg;have c4:=b2.out.lt;obtain⟨o0,o1,-,m5,-,-⟩:=d8.out.tg;have h7:=d8.out.lt;obtain⟨b0,b1,b9,-,-,-⟩:=g8.out.tg;have d3:=g8.out.lt;have b7:Hid (zfo ths r x a=if x.kind=6 then xo.kind==5&&(xo.home==x.home&& !zdl ths r 6 x.ofr false)else
    if x.kind=7 then xo.kind==5&&xo.home==x.home else
    if x.kind=9 then xo.kind==8&&xo.home==x.home else
    if x.kind=11 then xo.kind==10&&(xo.home==x.home&& !zdl ths r 11 x.ofr false)else
    if x.kind=13 then x.ofr==0||(xo.kind==15&&xo.byr==r)else
    if x.kind=15 then xb.kind==13&&(xb.home==x.home&&(!zdl ths r 15 x.byr true&&(r==0||xb.ofr==r)))else
    if x.kind=16 then xb.kind==3&&xb.home==x.home else
    if x.kind=14 then(xo.kind !=14&&(bits .andNot .u8 x.set (a:Int)==0&&x.set !=(a:Int)))&&zl4 ths r x else true):=zaa (by unfold zfo;rw[l3.out,j8.out])
   have a4:Hid (ze5 ths x=(!(zl3 x&& !io)&& !(zep x.kind&& !ib))):=zaa (by unfold ze5;rw[h2.out,Bool.true_and,m1.out,j6.out]);have m9:Hid (zl3 x=(zeo x.kind||(x.kind==13&&x.ofr !=0))):=zaa rfl;have p6:=f0.out.set;have j7:=zaa (zse (ths:=ths) (r:=r) (x:=x));obtain⟨RB,m4⟩:∃q,ze5 ths x=q:=⟨_,rfl⟩;obtain⟨WB,e2⟩:∃q,zfo ths r x a=q:=⟨_,rfl⟩;rw[m4]at a4 a2;rw[e2]at b7 a2;rw[m9.out]at a4;clear m4 e2 m9 h2 HE h0 m6 k4 m1 j6 l3 j8;generalize x.kind=kd at*;generalize x.home=hm at*;generalize e4:x.ofr=xof at*;generalize x.byr=xbr at*;generalize g7:x.set=xst at*;generalize k8:xo.kind=ok at*;generalize xo.home=oh at*;generalize xo.byr=ob at*;generalize xb.kind=bk at*;generalize xb.home=bh at*;generalize m3:xb.ofr=bo at*;have i9:Hid (xb.ofr=bo):=zaa m3;have k5:Hid (x.ofr=xof):=zaa e4;have m2:Hid (x.set=xst):=zaa g7;have h1:Hid (xo.kind=ok):=zaa k8;clear m3 e4 g7 k8;by_cases k6:kd=6
   .as_aux_lemma=>
    subst k6;cases io
    .have a1:Hid (E=5):=zaa (by rw[a2.out,a4.out];rfl);go_wp2;go_ret;exact⟨by rw[a1.out];rfl,a0.out⟩
    obtain⟨q1,a5⟩:∃q,(ok==5)=q:=⟨_,rfl⟩;obtain⟨q2,a7⟩:∃q,(oh==hm)=q:=⟨_,rfl⟩;obtain⟨qo,b6⟩:∃q,zdl ths r 6 xof false=q:=⟨_,rfl⟩;have a1:Hid (E=if(q1&&(q2&& !qo))=true then 0 else 70):=zaa (by rw[a2.out,a4.out,b7.out,a5,a7,b6];rfl);have f9:=zaa b6;clear b6;cases q1
    .skip
     go_wp2;go_ret;exact⟨by rw[a1.out];rfl,a0.out⟩
    cases q2
    .skip
     go_wp2;go_ret;exact⟨by rw[a1.out];rfl,a0.out⟩
    go_wp2_with fail;refine(zk1 (HH.out.no a0.out) r 6 xof false).mono ?_;rintro e w7 ⟨rfl,f7⟩;have a3:=zaa f7;rw[f9.out];have a6:=zaa (g8.out.fr f7 λh=>h);have a9:=zaa (b2.out.fr f7 λh=>h);clear f7 b0 b1 b9 d3 c0 c1 b5 b8 b4 c4;obtain⟨b0,b1,b9,-,-,-⟩:=a6.out.tg;have d3:=a6.out.lt;rw[i9.out]at b9;cases qo
    .skip
     go_wp2;go_ret;exact⟨by rw[a1.out];rfl,a0.out.trans a3.out⟩
    go_wp2;go_ret;exact⟨by rw[a1.out];rfl,a0.out.trans a3.out⟩
   by_cases k7:kd=7
   .as_aux_lemma=>
    subst k7;cases io
    .have a1:Hid (E=5):=zaa (by rw[a2.out,a4.out];rfl);go_wp2;go_ret;exact⟨by rw[a1.out];rfl,a0.out⟩
    obtain⟨q1,a5⟩:∃q,(ok==5)=q:=⟨_,rfl⟩;obtain⟨q2,a7⟩:∃q,(oh==hm)=q:=⟨_,rfl⟩;have a1:Hid (E=if(q1&&q2)=true then 0 else 70):=zaa (by rw[a2.out,a4.out,b7.out,a5,a7];rfl);cases q1
    .skip
     go_wp2;go_ret;exact⟨by rw[a1.out];rfl,a0.out⟩
    cases q2
    .skip
     go_wp2;go_ret;exact⟨by rw[a1.out];rfl,a0.out⟩
    go_wp2;go_ret;exact⟨by rw[a1.out];rfl,a0.out⟩
   by_cases k9:kd=9
   .as_aux_lemma=>
    subst k9;cases io
    .have a1:Hid (E=5):=zaa (by rw[a2.out,a4.out];rfl);go_wp2;go_ret;exact⟨by rw[a1.out];rfl,a0.out⟩
    obtain⟨q1,a5⟩:∃q,(ok==8)=q:=⟨_,rfl⟩;obtain⟨q2,a7⟩:∃q,(oh==hm)=q:=⟨_,rfl⟩;have a1:Hid (E=if(q1&&q2)=true then 0 else 70):=zaa (by rw[a2.out,a4.out,b7.out,a5,a7];rfl);cases q1
    .skip
     go_wp2;go_ret;exact⟨by rw[a1.out];rfl,a0.out⟩
    cases q2
    .skip
     go_wp2;go_ret;exact⟨by rw[a1.out];rfl,a0.out⟩
    go_wp2;go_ret;exact⟨by rw[a1.out];rfl,a0.out⟩
   by_cases h3:kd=11
   .as_aux_lemma=>
    subst h3;cases io
    .have a1:Hid (E=5):=zaa (by rw[a2.out,a4.out];rfl);go_wp2;go_ret;exact⟨by rw[a1.out];rfl,a0.out⟩
    obtain⟨q1,a5⟩:∃q,(ok==10)=q:=⟨_,rfl⟩;obtain⟨q2,a7⟩:∃q,(oh==hm)=q:=⟨_,rfl⟩;obtain⟨qo,b6⟩:∃q,zdl ths r 11 xof false=q:=⟨_,rfl⟩;have a1:Hid (E=if(q1&&(q2&& !qo))=true then 0 else 70):=zaa (by rw[a2.out,a4.out,b7.out,a5,a7,b6];rfl);have f9:=zaa b6;clear b6;cases q1
    .skip
     go_wp2;go_ret;exact⟨by rw[a1.out];rfl,a0.out⟩
    cases q2
    .skip
     go_wp2;go_ret;exact⟨by rw[a1.out];rfl,a0.out⟩
    go_wp2_with fail;refine(zk1 (HH.out.no a0.out) r 11 xof false).mono ?_;rintro e w7 ⟨rfl,f7⟩;have a3:=zaa f7;rw[f9.out];have a6:=zaa (g8.out.fr f7 λh=>h);have a9:=zaa (b2.out.fr f7 λh=>h);clear f7 b0 b1 b9 d3 c0 c1 b5 b8 b4 c4;obtain⟨b0,b1,b9,-,-,-⟩:=a6.out.tg;have d3:=a6.out.lt;rw[i9.out]at b9;cases qo
    .skip
     go_wp2;go_ret;exact⟨by rw[a1.out];rfl,a0.out.trans a3.out⟩
    go_wp2;go_ret;exact⟨by rw[a1.out];rfl,a0.out.trans a3.out⟩
   by_cases h4:kd=13
   .as_aux_lemma=>
    subst h4;obtain⟨q1,a5⟩:∃q,(xof==0)=q:=⟨_,rfl⟩;have c6:(xof !=0)= !q1:=by rw[<-a5];rfl
    cases q1
    case true=>
     have a1:Hid (E=0):=zaa (by rw[a2.out,a4.out,b7.out,c6,a5];rfl);go_wp2_with fail;refine(za9 _ W6).mono ?_;rintro e w7 ⟨rfl,rfl⟩;go_wp2;go_ret;exact⟨by rw[a1.out];rfl,a0.out⟩
    simp only[Bool.not_false]at c6;cases io
    .have a1:Hid (E=5):=zaa (by rw[a2.out,a4.out,c6];rfl);go_wp2_with fail;refine(za9 _ W6).mono ?_;rintro e w7 ⟨rfl,rfl⟩;go_wp2;go_ret;exact⟨by rw[a1.out];rfl,a0.out⟩
    obtain⟨q2,a7⟩:∃q,(ok==15)=q:=⟨_,rfl⟩;obtain⟨q3,j2⟩:∃q,(ob==r)=q:=⟨_,rfl⟩;have a1:Hid (E=if(q2&&q3)=true then 0 else 70):=zaa (by rw[a2.out,a4.out,b7.out,c6,a5,a7,j2];rfl);go_wp2_with fail;refine(za9 _ W6).mono ?_;rintro e w7 ⟨rfl,rfl⟩;cases q2
    .skip
     go_wp2;go_ret;exact⟨by rw[a1.out];rfl,a0.out⟩
    cases q3
    .skip
     go_wp2;go_ret;exact⟨by rw[a1.out];rfl,a0.out⟩
    go_wp2;go_ret;exact⟨by rw[a1.out];rfl,a0.out⟩
   by_cases g2:kd=15
   .as_aux_lemma=>
    subst g2;go_wp2_with fail;refine(za9 _ W6).mono ?_;rintro e w7 ⟨rfl,rfl⟩;cases io
    .have a1:Hid (E=5):=zaa (by rw[a2.out,a4.out];rfl);go_wp2;go_ret;exact⟨by rw[a1.out];rfl,a0.out⟩
    cases ib
    .have a1:Hid (E=5):=zaa (by rw[a2.out,a4.out];rfl);go_wp2;go_ret;exact⟨by rw[a1.out];rfl,a0.out⟩
    obtain⟨q1,a5⟩:∃q,(bk==13)=q:=⟨_,rfl⟩;obtain⟨q2,a7⟩:∃q,(bh==hm)=q:=⟨_,rfl⟩;obtain⟨qo,b6⟩:∃q,zdl ths r 15 xbr true=q:=⟨_,rfl⟩;obtain⟨q4,h7⟩:∃q,(r==0)=q:=⟨_,rfl⟩;obtain⟨q5,o4⟩:∃q,(bo==r)=q:=⟨_,rfl⟩;have a1:Hid (E=if(q1&&(q2&&(!qo&&(q4||q5))))=true then 0 else 70):=zaa (by rw[a2.out,a4.out,b7.out,a5,a7,b6,h7,o4];rfl);have f9:=zaa b6;clear b6;cases q1
    .skip
     go_wp2;go_ret;exact⟨by rw[a1.out];rfl,a0.out⟩
    cases q2
    .skip
     go_wp2;go_ret;exact⟨by rw[a1.out];rfl,a0.out⟩
    go_wp2_with fail;refine(zk1 (HH.out.no a0.out) r 15 xbr true).mono ?_;rintro e w7 ⟨rfl,f7⟩;have a3:=zaa f7;rw[f9.out];have a6:=zaa (g8.out.fr f7 λh=>h);have a9:=zaa (b2.out.fr f7 λh=>h);clear f7 b0 b1 b9 d3 c0 c1 b5 b8 b4 c4;obtain⟨b0,b1,b9,-,-,-⟩:=a6.out.tg;have d3:=a6.out.lt;rw[i9.out]at b9;cases qo
    case true=>
     go_wp2;go_ret;exact⟨by rw[a1.out];rfl,a0.out.trans a3.out⟩
    cases q4
    case true=>
     go_wp2;go_ret;exact⟨by rw[a1.out];rfl,a0.out.trans a3.out⟩
    cases q5
    .skip
     go_wp2;go_ret;exact⟨by rw[a1.out];rfl,a0.out.trans a3.out⟩
    go_wp2;go_ret;exact⟨by rw[a1.out];rfl,a0.out.trans a3.out⟩
   by_cases g3:kd=16
   .as_aux_lemma=>
    subst g3;go_wp2_with fail;refine(za9 _ W6).mono ?_;rintro e w7 ⟨rfl,rfl⟩;cases io
    .have a1:Hid (E=5):=zaa (by rw[a2.out,a4.out];rfl);go_wp2;go_ret;exact⟨by rw[a1.out];rfl,a0.out⟩
    cases ib
    .have a1:Hid (E=5):=zaa (by rw[a2.out,a4.out];rfl);go_wp2;go_ret;exact⟨by rw[a1.out];rfl,a0.out⟩
    obtain⟨q1,a5⟩:∃q,(bk==3)=q:=⟨_,rfl⟩;obtain⟨q2,a7⟩:∃q,(bh==hm)=q:=⟨_,rfl⟩;have a1:Hid (E=if(q1&&q2)=true then 0 else 70):=zaa (by rw[a2.out,a4.out,b7.out,a5,a7];rfl);cases q1
    .skip
     go_wp2;go_ret;exact⟨by rw[a1.out];rfl,a0.out⟩
    cases q2
    .skip
     go_wp2;go_ret;exact⟨by rw[a1.out];rfl,a0.out⟩
    go_wp2;go_ret;exact⟨by rw[a1.out];rfl,a0.out⟩
   by_cases g1:kd=14
   .as_aux_lemma=>
    subst g1;go_wp2_with fail;refine(za9 _ W6).mono ?_;rintro e w7 ⟨rfl,rfl⟩;cases io
    .have a1:Hid (E=5):=zaa (by rw[a2.out,a4.out];rfl);go_wp2;go_ret;exact⟨by rw[a1.out];rfl,a0.out⟩
    go_wp2_with fail;refine(ztq (n6.out (by first|exact trivial|rfl)) (HH.out.no a0.out)).mono ?_;rintro e w7 ⟨rfl,f7⟩;have a3:=zaa f7;have a9:=zaa (b2.out.fr f7 λh=>h);have e5:=zaa (d8.out.fr f7 λh=>h);clear f7 b0 b1 b9 d3 c0 c1 b5 b8 b4 c4 o0 o1 m5 h7;obtain⟨c0,c1,b5,b8,b4,-⟩:=a9.out.tg;have c4:=a9.out.lt;rw[k5.out]at b5;rw[m2.out]at b4;obtain⟨o0,o1,-,m5,-,-⟩:=e5.out.tg;have h7:=e5.out.lt;rw[h1.out]at o0;obtain⟨av,l4⟩:∃av:Int,(a:Int)=av:=⟨_,rfl⟩;rw[l4];obtain⟨nv,o7⟩:∃nv,bits .andNot .u8 xst av=nv:=⟨_,rfl⟩;obtain⟨q1,a5⟩:∃q,(ok !=14)=q:=⟨_,rfl⟩;obtain⟨q2,a7⟩:∃q,(nv==0)=q:=⟨_,rfl⟩;obtain⟨q3,j2⟩:∃q,(xst !=av)=q:=⟨_,rfl⟩;have a1:Hid (E=if((q1&&(q2&&q3))&&zl4 ths r x)=true then 0 else 70):=zaa (by rw[a2.out,a4.out,b7.out,l4,o7,a5,a7,j2];rfl);cases q1
    case false=>
     have a1:=zaa (a1.out.trans (by rfl:_=(70:Int)));go_wp2_with fail;go_loopw [15,17] (λo i wr=>o= .bool false/\i= .int .i64 0/\Fr No w7 wr) (λ_ _ _=>0)
     case atStart=>exact⟨rfl,rfl,Fr.refl _ _⟩
     case round=>
      obtain⟨rfl,rfl,fr⟩:=hrel;have c2:=((a0.out.trans (a3.out.trans fr)).cell HC.out.2 λh=>h).trans HC.out.1;have b3:=Nat.lt_of_lt_of_le HC.out.2 (a0.out.trans (a3.out.trans fr)).size;have a8:=zaa fr;clear fr;by_cases g9:0<ths.length
      .go_wp2;go_ret;exact⟨by rw[a1.out];rfl,a0.out.trans (a3.out.trans a8.out)⟩
      .obtain d1:ths.length=0:=o_;rw[d1]at c2;clear g9 d1;go_wp2;go_ret;exact⟨by rw[a1.out];rfl,a0.out.trans (a3.out.trans a8.out)⟩
    cases q2
    case false=>
     have a1:=zaa (a1.out.trans (by rfl:_=(70:Int)));go_wp2_with fail;go_loopw [15,17] (λo i wr=>o= .bool false/\i= .int .i64 0/\Fr No w7 wr) (λ_ _ _=>0)
     case atStart=>exact⟨rfl,rfl,Fr.refl _ _⟩
     case round=>
      obtain⟨rfl,rfl,fr⟩:=hrel;have c2:=((a0.out.trans (a3.out.trans fr)).cell HC.out.2 λh=>h).trans HC.out.1;have b3:=Nat.lt_of_lt_of_le HC.out.2 (a0.out.trans (a3.out.trans fr)).size;have a8:=zaa fr;clear fr;by_cases g9:0<ths.length
      .go_wp2;go_ret;exact⟨by rw[a1.out];rfl,a0.out.trans (a3.out.trans a8.out)⟩
      .obtain d1:ths.length=0:=o_;rw[d1]at c2;clear g9 d1;go_wp2;go_ret;exact⟨by rw[a1.out];rfl,a0.out.trans (a3.out.trans a8.out)⟩
    cases q3
    case false=>
     have a1:=zaa (a1.out.trans (by rfl:_=(70:Int)));go_wp2_with fail;go_loopw [15,17] (λo i wr=>o= .bool false/\i= .int .i64 0/\Fr No w7 wr) (λ_ _ _=>0)
     case atStart=>exact⟨rfl,rfl,Fr.refl _ _⟩
     case round=>
      obtain⟨rfl,rfl,fr⟩:=hrel;have c2:=((a0.out.trans (a3.out.trans fr)).cell HC.out.2 λh=>h).trans HC.out.1;have b3:=Nat.lt_of_lt_of_le HC.out.2 (a0.out.trans (a3.out.trans fr)).size;have a8:=zaa fr;clear fr;by_cases g9:0<ths.length
      .go_wp2;go_ret;exact⟨by rw[a1.out];rfl,a0.out.trans (a3.out.trans a8.out)⟩
      .obtain d1:ths.length=0:=o_;rw[d1]at c2;clear g9 d1;go_wp2;go_ret;exact⟨by rw[a1.out];rfl,a0.out.trans (a3.out.trans a8.out)⟩
    have a1:Hid (E=if zl4 ths r x=true then 0 else 70):=zaa (a1.out.trans s_);go_wp2_with fail;go_loopw [15,17] (λo i wr=>∃(j:Nat) (f4:Bool),j<=ths.length/\o= .bool f4/\i= .int .i64 j/\Hid (f4=true->∀i y,i<j->ths[i]? =some y->ztr r xof xst y=true)/\Hid (f4=false->∃i y,i<j/\ths[i]? =some y/\ztr r xof xst y=false)/\Fr No w7 wr) (λ_ i _=>ths.length - (intOf i).toNat)
    case atStart=>exact⟨0,true,Nat.zero_le _,rfl,rfl,zaa (λ_ i y hi=>by omega),zaa (λh=>by cases h),Fr.refl _ _⟩
    case round=>
     obtain⟨j,f4,hj,rfl,rfl,HT,HU,fr⟩:=hrel;have l5:=HH.out.row.len;have fw:=a0.out.trans (a3.out.trans fr);have c2:=(fw.cell HC.out.2 λh=>h).trans HC.out.1;have b3:=Nat.lt_of_lt_of_le HC.out.2 fw.size;have a8:=zaa fr;have c5:=zaa fw;cases f4
     .obtain⟨i,y,hi,hy,hp⟩:=HU.out rfl;have hf:zl4 ths r x=false:=j7.out.1 i y hy hp;have c7:Hid (E=70):=zaa (by rw[a1.out,hf];rfl);clear hf hi hy hp fr fw;by_cases hlt:j<ths.length
      .go_wp2;go_ret;exact⟨by rw[c7.out];rfl,c5.out⟩
      .obtain rfl:ths.length=j:=o_;go_wp2;go_ret;exact⟨by rw[c7.out];rfl,c5.out⟩
     by_cases hlt:j<ths.length
     case neg=>
      obtain rfl:ths.length=j:=o_;have hf:zl4 ths r x=true:=j7.out.2 (HT.out rfl);have c7:Hid (E=0):=zaa (by rw[a1.out,hf];rfl);clear hf fr fw;go_wp2;go_ret;exact⟨by rw[c7.out];rfl,c5.out⟩
     obtain⟨b,i6,rfl,o9,m7,i7,j5,-⟩:=(HH.out.no fw).row.elem hlt;have h8:b<wr.heap.size:=by have:=HH.out.hh;have:=fw.size;omega
     have i1:=zaa j5;have d9:=zaq ths[j].2;have c8:=(HH.out.row.inn _ (List.getElem_mem hlt)).2.fit;have f6:=zaa (a9.out.fr fr λh=>h);obtain⟨yj,j3⟩:∃y,ths[j]=y:=⟨_,rfl⟩;have g5:ths[j]? =some yj:=by rw[<-j3];exact List.getElem?_eq_getElem hlt
     have m8:=zaa g5;rw[j3]at i7 i1 d9 c8;have k2:Hid (ztr r xof xst yj=(yj.1==r||(yj.2.kind !=14||(yj.2.ofr !=xof||yj.2.set !=xst)))):=zaa rfl;clear j5 j3 g5 fr fw;have i4:=zaa (Blk.new wr 138 Tg.zero.cells.toArray);have h5:=zaa ((Fr.refl No wr).alloc (.cells Tg.zero.cells.toArray 138));have l1:Hid ((wr.alloc (.cells Tg.zero.cells.toArray 138)).rangeAt b (i6+j*17+1) yj.2.cells):=zaa λq u hu=>(h5.out.cell h8 λh=>h).trans (i1.out q u hu);rw[zal]at h5;go_upto_region 36 with(first|(refine wpList_load_mid r_ 138 (.tmp 266) r_ b (i6+j*17+1) r_ yj.2.cells _ i1.out Tryz.underlying138 r_ (by rw[Tg.cells_len];exact zam) ?_)|(refine wpList_load_mid r_ 138 (.tmp 266) r_ b (i6+j*17+1) r_ yj.2.cells _ l1.out Tryz.underlying138 r_ (by rw[Tg.cells_len];exact zam) ?_)|(refine wpList_store_row r_ 138 (.tmp 18) (.tmp 267) r_ wr.heap.size yj.2.cells.toArray r_ r_ _ _ i4.out (zam.trans (by rw[zae])) (by rw[zae,zae]) d9 ?_));rw[<-zal]at*;have r2:=c5.out.size;have d7:Fr No wr (World.setRow (wr.alloc (.cells Tg.zero.cells.toArray 138)) wr.heap.size yj.2.cells.toArray):=h5.out.trans' (zb0 _ wr.heap.size yj.2.cells.toArray) λi hi h=>by have h':i=wr.heap.size:=h;omega
     have c3:=zaa (a8.out.trans d7);have e1:=zaa (zbn (us:=yj.2.cells.toArray) i4.out);have d4:=zaa (f6.out.fr d7 λh=>h);have d2:=(d7.cell b3 λh=>h).trans c2;have q8:=Nat.lt_of_lt_of_le b3 d7.size;have dx:=(d7.cell h8 λh=>h).trans i7;have p7:=Nat.lt_of_lt_of_le h8 d7.size;clear d7 c2 b3 i7 h8 i1 l1 h5 d9;generalize e8:World.setRow _ _ _=W1 at*;have hg:=e1.out.lt;generalize wr.heap.size=g at*;obtain⟨y0,-,q9,-,p8,-⟩:=e1.out.tg;obtain⟨c0,c1,b5,b8,b4,-⟩:=d4.out.tg;have c4:=d4.out.lt;rw[k5.out]at b5;rw[m2.out]at b4;clear e8 i4;have p9:=c8.kind;have r3:=c8.set;generalize yj.1=yr at*;generalize yj.2.kind=yk at*;generalize yj.2.ofr=yo at*;generalize yj.2.set=ys at*;obtain⟨p1,o8⟩:∃q,(yr==r)=q:=⟨_,rfl⟩;obtain⟨p2,m0⟩:∃q,(yk !=14)=q:=⟨_,rfl⟩;obtain⟨p3,j1⟩:∃q,(yo !=xof)=q:=⟨_,rfl⟩;obtain⟨p4,i0⟩:∃q,(ys !=xst)=q:=⟨_,rfl⟩;have i2:=k2.out;rw[o8,m0,j1,i0]at i2;have HX:=zaa i2;have d0:Hid ((p1||(p2||(p3||p4)))=true->∀i y,i<j+1->ths[i]? =some y->ztr r xof xst y=true):=zaa λhf i y hi hy=>by
      by_cases n1:i=j
      .subst n1;have:=m8.out;rw[this]at hy;injection hy with hy
       rw[<-hy,HX.out];exact hf
      .exact HT.out rfl i y o_ hy
     have i3:Hid ((p1||(p2||(p3||p4)))=false->∃i y,i<j+1/\ths[i]? =some y/\ztr r xof xst y=false):=zaa λhf=>⟨j,yj,by omega,m8.out,by rw[HX.out];exact hf⟩;clear i2 k2 e1 d4 f6 c8;cases p1
     case true=>
      clear m0 j1 i0;go_wp2_with fail;go_roundw
      case rel=>exact⟨j+1,true,hlt,rfl,by go_num,zaa (λ_=>d0.out rfl),zaa (λh=>by cases h),c3.out⟩
      case measure=>simp[intOf];omega
     cases p2
     case true=>
      clear j1 i0;go_wp2_with fail;go_roundw
      case rel=>exact⟨j+1,true,hlt,rfl,by go_num,zaa (λ_=>d0.out rfl),zaa (λh=>by cases h),c3.out⟩
      case measure=>simp[intOf];omega
     cases p3
     case true=>
      clear i0;go_wp2_with fail;go_roundw
      case rel=>exact⟨j+1,true,hlt,rfl,by go_num,zaa (λ_=>d0.out rfl),zaa (λh=>by cases h),c3.out⟩
      case measure=>simp[intOf];omega
     cases p4
     case true=>
      go_wp2_with fail;go_roundw
      case rel=>exact⟨j+1,true,hlt,rfl,by go_num,zaa (λ_=>d0.out rfl),zaa (λh=>by cases h),c3.out⟩
      case measure=>simp[intOf];omega
     go_wp2_with fail;go_roundw
     case rel=>exact⟨j+1,false,hlt,rfl,by go_num,zaa (λh=>by cases h),zaa (λ_=>i3.out rfl),c3.out⟩
     case measure=>simp[intOf];omega
   have e6:(kd==6)=false:=by simpa using k6
   have e7:(kd==7)=false:=by simpa using k7
   have e9:(kd==9)=false:=by simpa using k9
   have n5:(kd==11)=false:=by simpa using h3
   have n2:(kd==13)=false:=by simpa using h4
   have q7:(kd==14)=false:=by simpa using g1
   have n3:(kd==15)=false:=by simpa using g2
   have n4:(kd==16)=false:=by simpa using g3
   have e2:zb8 kd=false:=by simp[zb8,g1,g2,g3]
   have a1:Hid (E=0):=zaa (by rw[a2.out,a4.out,b7.out,if_neg k6,if_neg k7,if_neg k9,if_neg h3,if_neg h4,if_neg g2,if_neg g3,if_neg g1];unfold zeo zep;rw[e6,e7,e9,n5,e2,n2,n3,n4];rfl);have n9:=zaa e2;clear k6 k7 k9 h3 h4 g1 g2 g3 e2;go_wp2_with fail;refine(za9 _ W6).mono ?_;rintro e w7 ⟨rfl,rfl⟩;rw[n9.out];go_wp2;go_ret;exact⟨by rw[a1.out];rfl,a0.out⟩
end Go.Proofs.YtlejelbefmkakaaGreat

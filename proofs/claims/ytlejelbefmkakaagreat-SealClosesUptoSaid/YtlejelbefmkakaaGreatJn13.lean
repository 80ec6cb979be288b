/- Texts joined: Gq7. -/
import Derived.Test.YtlejelbefmkakaaGreatJn1
import Derived.Test.YtlejelbefmkakaaGreatJn12
import Derived.Deep.Cut
import Derived.Deep.CutRange
set_option maxHeartbeats 16000000
set_option maxRecDepth 100000
namespace Go.Proofs.YtlejelbefmkakaaGreat
open Go.RowKit
structure SdI (m:Gm) (W:World) (cl rI:Nat) (es:Array MapEntry) (v:List Nat) (wr:World):Prop where
 ri:RI m.M cl rI es v wr
 fr:Fr No W wr
 r0:W.heap.size<=rI
 ok:∀(i:Nat) (x:Int×Nat×Tg),m.th[i]? =some x->zlr es v i->m.badB x.2.2=false/\∃n,m.Hgt x.1 n
structure SfI (m:Gm) (lo:Nat) (W:World) (cl rI:Nat) (es:Array MapEntry) (v:List Nat) (F:List (Int×Int×Int)) (wr:World):Prop where
 ri:RI m.M cl rI es v wr
 fr:Fr (λi=>i=m.F) W wr
 r0:W.heap.size<=rI
 ok:(m.wf F).Ok lo wr
 fac:FacI m (zlr es v) F
structure SgI (m:Gm) (W:World) (cl rI:Nat) (es:Array MapEntry) (v:List Nat) (wr:World):Prop where
 ri:RI m.M cl rI es v wr
 fr:Fr No W wr
 r0:W.heap.size<=rI
 ok:∀(i:Nat) (x:Int×Nat×Tg),m.th[i]? =some x->zlr es v i->m.fitS x.1 x.2.2 (m.abl x.2.2.ofr)=true
def zoh (m:Gm) (lo:Nat) (W:World) (e:Ending) (w':World):Prop:=
 (e= .returned (.bool false)/\¬m.Snd/\Fr (λi=>i=m.F) W w')\/
 (e= .returned (.bool true)/\m.Snd/\∃F,(m.wf F).Ok lo w'/\FacI m (λi=>∃x,m.th[i]? =some x) F/\Fr (λi=>i=m.F) W w')
theorem FacI.all {m:Gm} {sn sn':Nat->Prop} {F:List (Int×Int×Int)} (h:FacI m sn F) (hs:∀(i:Nat) (x:Int×Nat×Tg),m.th[i]? =some x->(sn i↔sn' i)):FacI m sn' F:=
 ⟨λo s r=>(h.mem o s r).trans ⟨λ⟨i,x,hx,hsn,q⟩=>⟨i,x,hx,(hs i x hx).1 hsn,q⟩,λ⟨i,x,hx,hsn,q⟩=>⟨i,x,hx,(hs i x hx).2 hsn,q⟩⟩,h.nod⟩
section
variable {m:Gm} {lo:Nat} {W:World}
theorem zuw (h:m.Ok lo W) (hfac:m.fac=[]) (h7:∀x∈m.th,x.2.2.vs.length<=512/\x.2.2.names.length<=64):
 Calls Tryz.prog 182 #[.pointer (some ⟨m.wb,0,none⟩)] W (zoh m lo W):=by
 obtain⟨es,cl,hm,m4,p1⟩:=h.things;have c0:=zba h;have q0:=h.blk.lt;have o8:=run_range_map (P:=Tryz.prog) W 34 22 185 m.M es cl Tryz.underlying34 hm;have hM:=zah hm;have g5:Hid (SdI m W cl W.heap.size es [] (W.alloc (.mapIter (some m.M) cl #[] cl))):=zaa ⟨⟨World.alloc_heap_new _ _,(Below.heap_alloc _ _ _ hM).trans hm⟩,(Fr.refl No W).alloc _,Nat.le_refl _,λi x _ hs=>absurd hs zem⟩;have k9:=zaa m4;have m0:=zaa p1;have a9:=zaa h;have r9:=zaa h7;have HM:=zaa hm;have r6:Hid (m.wf []=m):=zaa (by unfold Gm.wf;rw[<-hfac]);have i8:es.size=m.th.length:=by rw[<-m4.1];simp
 have s0:=zaa i8;clear m4 p1 h h7 hfac hm i8;generalize o4:W.heap.size=rI at*;have s4:=zaa o4;clear o4;go_enter Tryz.func182,Tryz.ntmps182;go_wp2_with fail;go_loopw [18] (λ_ wr=>∃v,SdI m W cl rI es v wr) (λ_ wr=>(leftOf es (wr.iterSeen rI)).size)
 case atStart=>exact⟨[],g5.out⟩
 case round=>
  obtain⟨v,inv⟩:=hrel;rcases zgy inv.ri k9.out m0.out 0 with⟨b1,f0⟩|⟨i,b,x,W3,hx,h9,a4,f0,b8,F3,f7,e9⟩
  .have f3:∀x∈m.th,m.badB x.2.2=false/\∃n,m.Hgt x.1 n:=λx hx=>by
    obtain⟨i,hi⟩:=List.mem_iff_getElem?.1 hx;exact inv.ok i x hi (b1 i x hi)
   have h4:=zaa f3;have a8:=zaa inv.fr;have c4:=a9.out.no inv.fr;have k1:=inv.ri.mp;clear f3 b1 inv o8 g5 c0 q0 hM;obtain⟨w1,rfl⟩:∃w1:World,w1=wr:=⟨_,rfl⟩;have c1:=zba c4;have q1:=c4.blk.lt;have p2:=zah k1;have j5:=run_range_map (P:=Tryz.prog) w1 34 22 185 m.M es cl Tryz.underlying34 k1;have c3:Hid (SfI m lo w1 cl w1.heap.size es [] [] (w1.alloc (.mapIter (some m.M) cl #[] cl))):=zaa ⟨⟨World.alloc_heap_new _ _,(Below.heap_alloc _ _ _ p2).trans k1⟩,(Fr.refl _ w1).alloc _,Nat.le_refl _,by rw[r6.out];exact c4.no ((Fr.refl No w1).alloc _),FacI.start λi=>zem⟩;have s5:=zaa c4;clear c4 k1 p2;generalize j6:w1.heap.size=r1 at*;have l2:=zaa j6;clear j6;go_wp2_with fail;go_loopw [132] (λ_ wr'=>∃v F,SfI m lo w1 cl r1 es v F wr') (λ_ wr'=>(leftOf es (wr'.iterSeen r1)).size)
   case atStart=>exact⟨[],[],c3.out⟩
   case round=>
    obtain⟨v,F,inv⟩:=hrel;rcases zgy inv.ri k9.out m0.out 0 with⟨b1,f0⟩|⟨i,b,x,W3,hx,h9,a4,f0,b8,F3,f7,e9⟩
    .have f9:FacI m (λi=>∃x,m.th[i]? =some x) F:=inv.fac.all λi x hx=>⟨λ_=>⟨x,hx⟩,λ_=>b1 i x hx⟩;have e8:=zaa f9;have o7:=zaa (a8.out.no.trans inv.fr);have c7:=inv.ok;have j8:=inv.ri.mp;clear f9 b1 inv j5 c3 c1 q1;obtain⟨w2,rfl⟩:∃w2:World,w2=wr:=⟨_,rfl⟩;have c2:w2.cell? ⟨m.wb,2,none⟩=some (.map (some m.M)):=zba (m:=m.wf F) c7;have q2:m.wb<w2.heap.size:=c7.blk.lt;have p7:=zah j8;have j3:=run_range_map (P:=Tryz.prog) w2 34 22 185 m.M es cl Tryz.underlying34 j8;have c5:Hid (SgI m w2 cl w2.heap.size es [] (w2.alloc (.mapIter (some m.M) cl #[] cl))):=zaa ⟨⟨World.alloc_heap_new _ _,(Below.heap_alloc _ _ _ p7).trans j8⟩,(Fr.refl _ w2).alloc _,Nat.le_refl _,λi x _ hs=>absurd hs zem⟩;have g3:=zaa c7;clear c7 j8 p7;generalize i2:w2.heap.size=r2 at*;have n7:=zaa i2;clear i2;have i3:Hid (∀x∈m.th,∀y∈m.th,x.2.2.kind=14->y.2.2.kind=14->x.2.2.ofr=y.2.2.ofr->x.2.2.set=y.2.2.set->x.1=y.1):=zaa (λx hx y hy kx ky ho hs=>by
      obtain⟨i,hi⟩:=List.mem_iff_getElem?.1 hx;obtain⟨j,hj⟩:=List.mem_iff_getElem?.1 hy;have m1:=(e8.out.mem x.2.2.ofr x.2.2.set x.1).2 ⟨i,x,hi,⟨x,hi⟩,rfl,kx,rfl,rfl⟩;have m2:=(e8.out.mem y.2.2.ofr y.2.2.set y.1).2 ⟨j,y,hj,⟨y,hj⟩,rfl,ky,rfl,rfl⟩;rw[ho,hs]at m1;obtain⟨a,ha,o1⟩:=List.mem_iff_getElem.1 m1;obtain⟨c,hc,n2⟩:=List.mem_iff_getElem.1 m2;have hk:(F.map λf=>(f.1,f.2.1)).Nodup:=g3.out.fkeys;have:a=c:=by
       refine(List.getElem_inj (h₀:=by simpa using ha) (h₁:=by simpa using hc) hk).1 ?_;simp[o1,n2]
      subst this;rw[o1]at n2;simpa using n2)
     go_wp2_with fail;go_loopw [168] (λ_ wr'=>∃v,SgI m w2 cl r2 es v wr') (λ_ wr'=>(leftOf es (wr'.iterSeen r2)).size)
     case atStart=>exact⟨[],c5.out⟩
     case round=>
      obtain⟨v,inv⟩:=hrel;rcases zgy inv.ri k9.out m0.out 0 with⟨b1,f0⟩|⟨i,b,x,W3,hx,h9,a4,f0,b8,F3,f7,e9⟩
      .have j0:zoh m lo W (.returned (.bool true)) wr:=.inr ⟨rfl,⟨λx hx=>(h4.out x hx).1,λx hx=>(h4.out x hx).2,i3.out,λx hx=>by
        obtain⟨i,hi⟩:=List.mem_iff_getElem?.1 hx;exact inv.ok i x hi (b1 i x hi)⟩,F,g3.out.no inv.fr,e8.out,o7.out.trans inv.fr.no⟩
       have l0:=zaa j0;clear j0 inv b1 j3 c5;go_wp2;go_ret;exact l0.out
      .have b0:x∈m.th:=List.mem_of_getElem? hx;have b4:Fr No w2 W3:=inv.fr.trans' F3 λq hq h=>by have h':q=r2:=h;have:=inv.r0;have:=n7.out;omega
       have a3:=g3.out.no b4;have bx:=a3.box x b0;have o0:x.2.2.kind=14->(m.wf F).Abl x.2.2.ofr (m.abl x.2.2.ofr):=λhk=>by
        obtain⟨n,hn⟩:=(h4.out x b0).2;have b2:m.get x.1=some x.2:=Gm.get_of a9.out.keys b0;cases hn with
        |base hg hk'=>rw[b2]at hg;cases hg;exact absurd hk hk'.1
        |wrap hg hk' hl=>
         rw[b2]at hg;cases hg;obtain⟨a,ha⟩:=hl.abl λr y hy=>by
          have:=(a9.out.st _ (Gm.get_mem hy)).inn.fit.set;exact this.1
         rw[Gm.abl_eq ha];exact ha.wf
       have h8:=zwz a3 x.1 x.2.2 _ o0;rw[Gm.fit_wf e8.out a9.out.keys i3.out b0]at h8;have e6:=zaa inv.ok;have h5:=zaa inv.r0;have HX:=zaa hx;have f2:=zaa b0;have g6:=zaa a4;have a6:=zaa f7;have h3:=zaa e9;have j1:=zaa b4;clear inv hx h9 a4 F3 b4 f7 e9 a3 o0 b0 j3 c5 c2 q2;obtain⟨rx,gx,kind,home,⟨k,n,s,A,cap,l,r0⟩,VA,vc,vs,n1,lost,ofr,byr,set,full,CA,cc,a5,NA,nc,a0⟩:=x;have b9:(Tg.val ⟨kind,home,T.mk k n s A cap l r0,VA,vc,vs,n1,lost,ofr,byr,set,full,CA,cc,a5,NA,nc,a0⟩)= .agg #[.int .u8 kind,.int .i64 home,.int .u8 k,.int .i64 n,.string s,.slice A l.length cap,.int .i64 r0,.slice VA vs.length vc,.int .i64 n1,.int .i64 lost,.int .i64 ofr,.int .i64 byr,.int .u8 set,.bool full,.slice CA a5.length cc,.slice NA a0.length nc]:=rfl;have g0:Blk W3 gx 138 #[.int .u8 kind,.int .i64 home,.int .u8 k,.int .i64 n,.string s,.slice A l.length cap,.int .i64 r0,.slice VA vs.length vc,.int .i64 n1,.int .i64 lost,.int .i64 ofr,.int .i64 byr,.int .u8 set,.bool full,.slice CA a5.length cc,.slice NA a0.length nc]:=bx;simp only at f0 b8 h8;rw[b9]at h8;obtain⟨bd,c8⟩:∃bd,m.fitS rx ⟨kind,home,T.mk k n s A cap l r0,VA,vc,vs,n1,lost,ofr,byr,set,full,CA,cc,a5,NA,nc,a0⟩ (m.abl ofr)=bd:=⟨_,rfl⟩;rw[c8]at h8;have a7:=zaa c8;have p3:=zaa h8;obtain⟨d0,d1,d2,d3,d4,d5,d6,d7,d8,d9,c6,i4,g1,k7,k0,j9⟩:=g0.cells16;have dq:=g0.lt;clear bx g0 b9 c8 h8;go_wp2_with fail;refine p3.out.mono ?_;rintro e w4 ⟨rfl,f4⟩;have b3:=a6.out.fr f4 (λh=>h) (λh=>h);have c9:=zaa b3;have p4:=zaa (j1.out.trans f4);have b5:w4.iterSeen r2=W3.iterSeen r2:=by rw[zaw b3.it,zaw a6.out.it]
       have g8:=zaa b5;clear b3 f4 b5 d0 d1 d2 d3 d4 d5 d6 d7 d8 d9 c6 i4 g1 k7 k0 j9 dq p3;cases bd with
       |true=>
        go_wp2;go_roundw
        case rel=>
         refine⟨v++[b],c9.out,p4.out,h5.out,λj z hz hs=>?_⟩;rcases(g6.out j).1 hs with rfl|hs
         .have:=HX.out;rw[this]at hz;injection hz with hz
          subst hz;exact a7.out
         .exact e6.out j z hz hs
        case measure=>
         rw[g8.out];exact h3.out
       |false=>
        go_wp2;go_ret;refine .inl ⟨rfl,λhs=>?_,o7.out.trans p4.out.no⟩;have:=hs.fit _ f2.out;simp only at this;rw[a7.out]at this;cases this
    .have b0:x∈m.th:=List.mem_of_getElem? hx;have m3:=inv.r0;have b4:Fr (λi=>i=m.F) w1 W3:=inv.fr.trans' F3 λq hq h=>by have h':q=r1:=h;have:=l2.out;omega
     have a3:(m.wf F).Ok lo W3:=inv.ok.fr F3 λi hi h=>by
      have h':i=r1:=h;have:=(inv.ok.lt i hi).2;subst h';have hq:=inv.ri.it;rcases hi with rfl|rfl|rfl|hi|hi|hi|⟨y,hy,rfl|hi⟩
      .rw[inv.ok.blk]at hq;cases hq
      .change wr.heap[m.M]? =_ at hq;rw[inv.ri.mp]at hq;cases hq
      .obtain⟨ef,cf,hf,-⟩:=inv.ok.facets;rw[hf]at hq;cases hq
      .obtain⟨cs,hb⟩:=zao inv.ok.par hi;rw[hb]at hq;cases hq
      .obtain⟨cs,hb⟩:=zao inv.ok.cut hi;rw[hb]at hq;cases hq
      .obtain⟨cs,hb⟩:=zao inv.ok.made hi;rw[hb]at hq;cases hq
      .have hb:=inv.ok.box y hy;rw[hb]at hq;cases hq
      .obtain⟨e,cs,-,hb⟩:=(inv.ok.st y hy).ty hi;rw[hb]at hq;cases hq
     have b2:m.get x.1=some x.2:=Gm.get_of a9.out.keys b0;obtain⟨d0,-,c6,-,g1,-⟩:=zct (a3.box x b0);have dq:=(a3.box x b0).lt;have b6:=zaa inv.fac;have h5:=zaa inv.r0;have HX:=zaa hx;have f2:=zaa b0;have n6:=zaa h9;have g6:=zaa a4;have h3:=zaa e9;have a6:=zaa f7;have j1:=zaa b4;have HG:=zaa b2;have y3:W3.cell? ⟨m.wb,3,none⟩=some (.map (some m.F)):=zgv (m:=m.wf F) a3;have yq:m.wb<W3.heap.size:=a3.blk.lt;have e5:=zaa a3;try simp only at f0 b8
     obtain⟨kd,l8⟩:∃kd,x.2.2.kind=kd:=⟨_,rfl⟩;obtain⟨oo,l5⟩:∃oo,x.2.2.ofr=oo:=⟨_,rfl⟩;obtain⟨ss,n8⟩:∃ss,x.2.2.set=ss:=⟨_,rfl⟩;rw[l8]at d0;rw[l5]at c6;rw[n8]at g1;have k5:=zaa l8;have m5:=zaa l5;have l6:=zaa n8;clear inv hx h9 a4 F3 b4 f7 e9 m3 a3 b2 l8 l5 n8 b0 j5 c3 c1 q1;by_cases k2:kd=14
     .subst k2;have a3:=e5.out;have g2:∀q:ClN W3,(Instr.lookup 35 (.map (some m.F)) (.agg #[.int .i64 oo,.int .u8 ss]) true).run Tryz.prog q.w= .ok ((m.wf F).findV oo ss) q.w:=λq=>zlk (a3.no q.fr) oo ss;have e0:∀q:ClN W3,q.w.cell? ⟨x.2.1,10,none⟩=some (.int .i64 oo):=λq=>(q.fr.cell dq λh=>h).trans c6;have e2:∀q:ClN W3,q.w.cell? ⟨x.2.1,12,none⟩=some (.int .u8 ss):=λq=>(q.fr.cell dq λh=>h).trans g1;have n0:∀q:ClN W3,x.2.1<q.w.heap.size:=λq=>Nat.lt_of_lt_of_le dq q.fr.size;have e3:∀q:ClN W3,q.w.cell? ⟨m.wb,3,none⟩=some (.map (some m.F)):=λq=>(q.fr.cell yq λh=>h).trans y3;have p5:∀q:ClN W3,m.wb<q.w.heap.size:=λq=>Nat.lt_of_lt_of_le yq q.fr.size;have f8:Nonempty (ClN W3):=⟨⟨W3,Fr.refl No W3⟩⟩;unfold Gm.findV at g2;cases hfg:(m.wf F).fget oo ss with
      |some q0=>
       have i0:¬m.Snd:=λhs=>by
        obtain⟨j,hj,-⟩:=Gm.fget_some hfg;obtain⟨i',y,hy,r8,e1,e2,e3,e4⟩:=(b6.out.mem _ _ _).1 (List.mem_of_getElem? hj);have h1:=hs.one x f2.out y (List.mem_of_getElem? hy) k5.out e2 (by rw[m5.out,e3]) (by rw[l6.out,e4]);refine n6.out ?_;have r4:i'=i:=by
         have hx:=HX.out;obtain⟨hj,s7⟩:=List.getElem?_eq_some_iff.1 hy;obtain⟨hi,hi'⟩:=List.getElem?_eq_some_iff.1 hx;refine(List.getElem_inj (h₀:=by simpa using hj) (h₁:=by simpa using hi) a9.out.keys).1 ?_;simp only[List.getElem_map];rw[s7,hi',h1]
        exact r4▸r8
       have l7:=zaa i0;rw[hfg]at g2;simp only at g2;clear i0 hfg a3;go_upto_region 17 with(fail);refine zab (λW'=>∃q:ClN W3,W'=q.w) k_ k_ ⟨⟨_,(Fr.refl No W3).drew⟩,rfl⟩ ?_;repeat(go_big_quiet_step (fail))
       refine wpQuiet_nil ?_;rintro w5 ⟨⟨_,f5⟩,rfl⟩;have k8:=zaa f5;clear g2 e0 e2 n0 e3 p5 f8 f5;go_wp2_with fail;go_ret;exact .inl ⟨rfl,l7.out,a8.out.no.trans (j1.out.trans k8.out.no)⟩
      |none=>
       have q8:=zaa hfg;rw[hfg]at g2;simp only at g2;clear hfg a3;go_upto_region 17 with(fail);refine zab (λW'=>∃q:ClN W3,W'=q.w) k_ k_ ⟨⟨_,(Fr.refl No W3).drew⟩,rfl⟩ ?_;repeat(go_big_quiet_step (fail))
       refine wpQuiet_nil ?_;rintro w5 ⟨⟨_,f5⟩,rfl⟩;have i7:=e5.out.no f5;have o6:=zuk (t:=oo) (s:=ss) i7 (x:=x.2) (r:=x.1) (HG.out) k5.out m5.out l6.out q8.out (by have:=b6.out.len a9.out.keys HX.out n6.out;have:=a9.out.len;show F.length<1000000;omega);have s1:=zaa o6;have i5:=a6.out.fr f5 (λh=>h) (λh=>h);have m7:=zaa i5;have k8:=zaa (j1.out.trans f5.no);clear g2 e0 e2 n0 e3 p5 f8 f5 o6 i5 i7 d0 c6 g1 dq y3 yq;go_wp2_with fail;refine s1.out.mono ?_;rintro e w6 ⟨⟨v6,rfl⟩,j2,f6⟩;have j7:r1≠m.F:=by
        rintro rfl;obtain⟨ef,cf,hf,-⟩:=e5.out.facets;have:=a6.out.it;change W3.heap[m.F]? =_ at hf;rw[hf]at this;cases this
       have g9:=m7.out.fr f6 j7 a9.out.mf;have l1:=zaa g9;have n3:=zaa j2;have s2:=zaa (k8.out.trans f6);have i1:w6.iterSeen r1=W3.iterSeen r1:=by rw[zaw g9.it,zaw a6.out.it]
       have n4:=zaa i1;clear j2 f6 j7 g9 i1;go_wp2;go_roundw
       case rel=>
        refine⟨v++[b],F++[(oo,ss,x.1)],l1.out,s2.out,h5.out,n3.out,?_⟩;have:=b6.out.add a9.out.keys HX.out k5.out n6.out g6.out;rw[m5.out,l6.out]at this;exact this
       case measure=>
        rw[n4.out];exact h3.out
     .have r7:(kd==14)=false:=by simpa using k2
      have s3:Hid (x.2.2.kind≠14):=zaa (by rw[k5.out];exact k2);clear k2;go_wp2_with fail;go_roundw
      case rel=>exact⟨v++[b],F,a6.out,j1.out,h5.out,e5.out,b6.out.skip HX.out s3.out g6.out⟩
      case measure=>exact h3.out
  .have b0:x∈m.th:=List.mem_of_getElem? hx;have m3:=inv.r0;have b4:Fr No W W3:=inv.fr.trans' F3 λq hq h=>by have h':q=rI:=h;have:=s4.out;omega
   have bx:=(a9.out.box _ b0).fr b4 λh=>h;have i6:=(a9.out.no b4).st _ b0;have h7:=r9.out _ b0;have e6:=zaa inv.ok;have h5:=zaa inv.r0;have HX:=zaa hx;have g6:=zaa a4;have a6:=zaa f7;have h3:=zaa e9;have f2:=zaa b0;clear inv hx h9 a4 F3 f7 e9 m3 o8 g5;obtain⟨rx,gx,kind,home,⟨k,n,s,A,cap,l,r0⟩,VA,vc,vs,n1,lost,ofr,byr,set,full,CA,cc,a5,NA,nc,a0⟩:=x;have HN:=zaa (zro (a9.out.no b4) ⟨kind,home,T.mk k n s A cap l r0,VA,vc,vs,n1,lost,ofr,byr,set,full,CA,cc,a5,NA,nc,a0⟩ lo W3.heap.size i6.inn (Nat.le_refl _) h7.1 h7.2);have b9:(Tg.val ⟨kind,home,T.mk k n s A cap l r0,VA,vc,vs,n1,lost,ofr,byr,set,full,CA,cc,a5,NA,nc,a0⟩)= .agg #[.int .u8 kind,.int .i64 home,.int .u8 k,.int .i64 n,.string s,.slice A l.length cap,.int .i64 r0,.slice VA vs.length vc,.int .i64 n1,.int .i64 lost,.int .i64 ofr,.int .i64 byr,.int .u8 set,.bool full,.slice CA a5.length cc,.slice NA a0.length nc]:=rfl;rw[b9]at HN;have g0:Blk W3 gx 138 #[.int .u8 kind,.int .i64 home,.int .u8 k,.int .i64 n,.string s,.slice A l.length cap,.int .i64 r0,.slice VA vs.length vc,.int .i64 n1,.int .i64 lost,.int .i64 ofr,.int .i64 byr,.int .u8 set,.bool full,.slice CA a5.length cc,.slice NA a0.length nc]:=bx;simp only at f0 b8;obtain⟨bd,c8⟩:∃bd,m.badB ⟨kind,home,T.mk k n s A cap l r0,VA,vc,vs,n1,lost,ofr,byr,set,full,CA,cc,a5,NA,nc,a0⟩=bd:=⟨_,rfl⟩;have g7:=zaa c8;unfold Gm.badB at c8;simp only at c8;have a7:=zaa c8;have r5:=zaa g0;have l4:=zaa b4;obtain⟨d0,d1,d2,d3,d4,d5,d6,d7,d8,d9,c6,i4,g1,k7,k0,j9⟩:=g0.cells16;have dq:=g0.lt;have x2:W3.cell? ⟨m.wb,2,none⟩=some (.map (some m.M)):=zba (a9.out.no b4);have o3:m.wb<W3.heap.size:=(a9.out.no b4).blk.lt;clear b0 bx i6 h7 b9 g0 b4 c8 hM;go_upto_region 4 with(fail);go_cut [83]from 18 to 126 (λt wx=>t= .bool bd/\Fr No W3 wx)
   case first=>as_aux_lemma=>
    clear g7 e6 a6 h3 HX g6 x2 o3 c0 q0;go_wp2_with fail;refine HN.out.mono ?_;rintro e w1 ⟨rfl,f1⟩;have m8:=r5.out.fr f1 λh=>h;clear d0 d1 d2 d3 d4 d5 d6 d7 d8 d9 c6 i4 g1 k7 k0 j9 dq;obtain⟨d0,-,-,-,-,-,-,-,-,-,c6,i4,-,-,-,-⟩:=m8.cells16;have dq:=m8.lt;have a8:=zaa f1;have j4:Hid (∀_w:World,Calls Tryz.prog 58 #[.pointer (some ⟨m.wb,0,none⟩),.int .i64 ofr] w1 λe w'=>e= .returned (.bool (m.get ofr).isSome)/\w'=w1):=zaa λ_=>zf9 (a9.out.no (l4.out.trans f1)) ofr;have o2:Hid (∀_w:World,Calls Tryz.prog 58 #[.pointer (some ⟨m.wb,0,none⟩),.int .i64 byr] w1 λe w'=>e= .returned (.bool (m.get byr).isSome)/\w'=w1):=zaa λ_=>zf9 (a9.out.no (l4.out.trans f1)) byr;have s6:=zaa λW'=>zru kind W';have o5:=zaa λW'=>zrt kind W';generalize m.are (Tg.held ⟨kind,home,T.mk k n s A cap l r0,VA,vc,vs,n1,lost,ofr,byr,set,full,CA,cc,a5,NA,nc,a0⟩)=q1 at*;generalize zeo kind=q2 at*;generalize (m.get ofr).isSome=q3 at*;generalize zep kind=q4 at*;generalize (m.get byr).isSome=q5 at*;obtain⟨k6,p9⟩:∃q,(kind==13)=q:=⟨_,rfl⟩;obtain⟨q0,h0⟩:∃q,(ofr !=0)=q:=⟨_,rfl⟩;rw[p9,h0]at a7;clear m8 f1;cases q1
    .go_wp2_with fail;go_meet
     case rel=>exact⟨by rw[<-a7.out];simp,a8.out⟩
    .go_wp2_with fail;refine(s6.out _).mono ?_;rintro e w' ⟨rfl,rfl⟩;cases q2
     .go_wp2_with fail;refine(o5.out _).mono ?_;rintro e w' ⟨rfl,rfl⟩;cases q4
      .cases k6
       .go_wp2_with fail;go_meet
        case rel=>exact⟨by rw[<-a7.out];simp,a8.out⟩
       .cases q0
        .obtain rfl:ofr=0:=by simpa using h0
         go_wp2_with fail;go_meet
         case rel=>exact⟨by rw[<-a7.out];simp,a8.out⟩
        .have m9:ofr≠0:=by simpa using h0
         go_wp2_with fail;refine(j4.out W).mono ?_;rintro e w' ⟨rfl,rfl⟩;cases q3
         .go_wp2_with fail;go_meet
          case rel=>exact⟨by rw[<-a7.out];simp,a8.out⟩
         .go_wp2_with fail;go_meet
          case rel=>exact⟨by rw[<-a7.out];simp,a8.out⟩
      .go_wp2_with fail;refine(o2.out W).mono ?_;rintro e w' ⟨rfl,rfl⟩;cases q5
       .go_wp2_with fail;go_meet
        case rel=>exact⟨by rw[<-a7.out];simp,a8.out⟩
       .cases k6
        .go_wp2_with fail;go_meet
         case rel=>exact⟨by rw[<-a7.out];simp,a8.out⟩
        .cases q0
         .obtain rfl:ofr=0:=by simpa using h0
          go_wp2_with fail;go_meet
          case rel=>exact⟨by rw[<-a7.out];simp,a8.out⟩
         .have m9:ofr≠0:=by simpa using h0
          go_wp2_with fail;refine(j4.out W).mono ?_;rintro e w' ⟨rfl,rfl⟩;cases q3
          .go_wp2_with fail;go_meet
           case rel=>exact⟨by rw[<-a7.out];simp,a8.out⟩
          .go_wp2_with fail;go_meet
           case rel=>exact⟨by rw[<-a7.out];simp,a8.out⟩
     .go_wp2_with fail;refine(j4.out W).mono ?_;rintro e w' ⟨rfl,rfl⟩;cases q3
      .go_wp2_with fail;go_meet
       case rel=>exact⟨by rw[<-a7.out];simp,a8.out⟩
      .go_wp2_with fail;refine(o5.out _).mono ?_;rintro e w' ⟨rfl,rfl⟩;cases q4
       .cases k6
        .go_wp2_with fail;go_meet
         case rel=>exact⟨by rw[<-a7.out];simp,a8.out⟩
        .cases q0
         .obtain rfl:ofr=0:=by simpa using h0
          go_wp2_with fail;go_meet
          case rel=>exact⟨by rw[<-a7.out];simp,a8.out⟩
         .have m9:ofr≠0:=by simpa using h0
          go_wp2_with fail;refine(j4.out W).mono ?_;rintro e w' ⟨rfl,rfl⟩;go_wp2_with fail;go_meet
          case rel=>exact⟨by rw[<-a7.out];simp,a8.out⟩
       .go_wp2_with fail;refine(o2.out W).mono ?_;rintro e w' ⟨rfl,rfl⟩;cases q5
        .go_wp2_with fail;go_meet
         case rel=>exact⟨by rw[<-a7.out];simp,a8.out⟩
        .cases k6
         .go_wp2_with fail;go_meet
          case rel=>exact⟨by rw[<-a7.out];simp,a8.out⟩
         .cases q0
          .obtain rfl:ofr=0:=by simpa using h0
           go_wp2_with fail;go_meet
           case rel=>exact⟨by rw[<-a7.out];simp,a8.out⟩
          .have m9:ofr≠0:=by simpa using h0
           go_wp2_with fail;refine(j4.out W).mono ?_;rintro e w' ⟨rfl,rfl⟩;go_wp2_with fail;go_meet
           case rel=>exact⟨by rw[<-a7.out];simp,a8.out⟩
   obtain⟨rfl,fw⟩:=hcut;have b6:=zaa (l4.out.trans fw);have b3:=a6.out.fr fw (λh=>h) (λh=>h);have c9:=zaa b3;have b5:wc.iterSeen rI=W3.iterSeen rI:=by rw[zaw b3.it,zaw a6.out.it]
   have g8:=zaa b5;clear b5 b3 d0 d1 d2 d3 d4 d5 d6 d7 d8 d9 c6 i4 g1 k7 k0 j9 dq fw HN;have g4:=a9.out.no b6.out;have y2:wc.cell? ⟨m.wb,2,none⟩=some (.map (some m.M)):=zba g4;have s8:m.wb<wc.heap.size:=g4.blk.lt;have b2:m.get rx=some (gx,⟨kind,home,T.mk k n s A cap l r0,VA,vc,vs,n1,lost,ofr,byr,set,full,CA,cc,a5,NA,nc,a0⟩):=Gm.get_of a9.out.keys f2.out;have HG:=zaa b2;have e7:=λty=>run_len_map (P:=Tryz.prog) (w:=wc) 34 ty m.M es cl k_ (c9.out.mp);have l9:=zaa e7;clear g4 b2 x2 o3 c0 q0 e7;cases bd with
   |true=>
    go_wp2_with fail;go_ret;refine .inl ⟨rfl,λhs=>?_,b6.out.no⟩;have:=hs.bad _ f2.out;rw[g7.out]at this;cases this
   |false=>
    go_wp2_with fail;obtain⟨w4,rfl⟩:∃w4:World,w4=wc:=⟨_,rfl⟩;go_loopw [5,6] (λnv qv wr'=>∃(n:Nat) (q:Int),nv= .int .i64 n/\qv= .int .i64 q/\wr'=w4/\n<=m.th.length/\(∃y,m.get q=some y)/\∀h,m.Hgt rx h↔∃h',m.Hgt q h'/\h=h'+n) (λnv _ _=>m.th.length+1 - (intOf nv).toNat)
    case atStart=>exact⟨0,rx,rfl,rfl,rfl,Nat.zero_le _,⟨_,HG.out⟩,λh=>⟨λhh=>⟨h,hh,rfl⟩,λ⟨h',hh,e⟩=>by rw[e];exact hh⟩⟩
    case round=>
     obtain⟨n,q,rfl,rfl,rfl,hn,⟨y,hy⟩,hh⟩:=hrel;have h6:=a9.out.no b6.out;have hl:=zbt h6 q;rw[hy]at hl;simp only[Option.map_some]at hl;obtain⟨e0,-,v0,-,-,-⟩:=zct (h6.box _ (Gm.get_mem hy));have n0:=(h6.box _ (Gm.get_mem hy)).lt;have e7:=l9.out;have p0:=s0.out;have hw:=zaa (zog y.2.kind wr);have HY:=zaa hy;have HH:=zaa hh;have r3:=zaa hn;cases hwb:zb8 y.2.kind with
     |false=>
      have o9:y.2.kind≠14/\y.2.kind≠15/\y.2.kind≠16:=by
       refine⟨λe=>?_,λe=>?_,λe=>?_⟩<;> · rw[e]at hwb;exact absurd hwb d_
      have i9:∃h,m.Hgt rx h:=⟨0+n,(hh _).2 ⟨0,.base hy o9,rfl⟩⟩;have q6:=zaa i9;rw[hwb]at hw;generalize y.2.kind=kq at*;generalize y.2.ofr=oq at*;clear h6 hh hn hy o9 i9 hwb;go_wp2_with fail;refine hw.out.mono ?_;rintro e w' ⟨rfl,rfl⟩;go_wp2;go_roundw
      case rel=>
       refine⟨v++[b],c9.out,b6.out,h5.out,λj z hz hs=>?_⟩;rcases(g6.out j).1 hs with rfl|hs
       .have:=HX.out;rw[this]at hz;injection hz with hz
        subst hz;exact⟨g7.out,q6.out⟩
       .exact e6.out j z hz hs
      case measure=>
       rw[g8.out];exact h3.out
     |true=>
      have m6:=zeq.1 hwb;have b7:∀h,m.Hgt q h↔∃h',m.Hgt y.2.ofr h'/\h=h'+1:=λh=>by
       constructor
       .intro hq;cases hq with
        |base hg hk=>rw[hy]at hg;cases hg;rcases m6 with e|e|e<;>simp[e]at hk
        |wrap hg hk hl=>rw[hy]at hg;cases hg;exact⟨_,hl,rfl⟩
       .rintro⟨h',hq,rfl⟩;exact .wrap hy m6 hq
      have p8:∀h,m.Hgt rx h↔∃h',m.Hgt y.2.ofr h'/\h=h'+(n+1):=λh=>by
       rw[hh];constructor
       .rintro⟨h1,a1,rfl⟩;obtain⟨h2,a2,rfl⟩:=(b7 h1).1 a1;exact⟨h2,a2,by omega⟩
       .rintro⟨h2,a2,rfl⟩;exact⟨h2+1,(b7 _).2 ⟨h2,a2,rfl⟩,by omega⟩
      have l3:=zaa p8;have hI:=zf9 h6 y.2.ofr;rw[hwb]at hw;obtain⟨q3,n5⟩:∃q3,(m.get y.2.ofr).isSome=q3:=⟨_,rfl⟩;rw[n5]at hI;have n9:=zaa n5;have q7:=zaa hI;generalize p6:y.2.ofr=oq at*;have s9:=zaa p6;clear h6 hh hn hy hwb m6 b7 p8 hI n5 p6;generalize y.2.kind=kq at*;have v1:IntKind.i64.wrap ((n:Int)+1)=(n:Int)+1:=by
       have h1:=a9.out.len;have h2:=r3.out;exact IntWalk.i64_in _ o_
      rw[p0]at e7;clear p0;by_cases k4:m.th.length<n+1
      .have hd:decide ((n:Int)+1 > (m.th.length:Int))=true:=so_;have k3:=zaa k4;clear k4;go_wp2_with fail;refine hw.out.mono ?_;rintro e w' ⟨rfl,rfl⟩;go_wp2;go_ret;refine .inl ⟨rfl,λhs=>?_,b6.out.no⟩;obtain⟨h,hh⟩:=hs.hgt _ f2.out;obtain⟨h',-,e⟩:=(l3.out h).1 hh;have:=hh.lt;have:=k3.out;omega
      .have hd:decide ((n:Int)+1 > (m.th.length:Int))=false:=so_;have k3:=zaa k4;clear k4;go_wp2_with fail;refine hw.out.mono ?_;rintro e w' ⟨rfl,rfl⟩;go_wp2_with fail;refine q7.out.mono ?_;rintro e w' ⟨rfl,rfl⟩;cases q3 with
       |false=>
        go_wp2;go_ret;refine .inl ⟨rfl,λhs=>?_,b6.out.no⟩;obtain⟨h,hh⟩:=hs.hgt _ f2.out;obtain⟨h',q9,e⟩:=(l3.out h).1 hh;have hq:=n9.out;have:∃z,m.get oq=some z:=by
         cases q9 with
         |base h _=>exact⟨_,h⟩
         |wrap h _ _=>exact⟨_,h⟩
        obtain⟨z,hz⟩:=this;rw[hz]at hq;cases hq
       |true=>
        go_wp2;go_roundw
        case rel=>
         refine⟨n+1,oq,by go_num,rfl,trivial,by have:=k3.out;omega,?_,l3.out⟩;have:=n9.out;rw[Option.isSome_iff_exists]at this;exact this
        case measure=>
         have:=k3.out;simp[intOf];omega
end
end Go.Proofs.YtlejelbefmkakaaGreat

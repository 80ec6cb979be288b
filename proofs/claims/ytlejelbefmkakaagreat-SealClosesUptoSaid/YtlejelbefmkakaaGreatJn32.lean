/- Texts joined: Gq10. -/
import Derived.Test.YtlejelbefmkakaaGreatJn1
import Derived.Test.YtlejelbefmkakaaGreatJn28
import Derived.Deep.Cut
import Derived.Deep.CutRange
set_option maxHeartbeats 16000000
set_option maxRecDepth 100000
namespace Go.Proofs.YtlejelbefmkakaaGreat
open Go.RowKit
theorem Gm.Ok.less {m:Gm} {lo lo':Nat} {W:World} (h:m.Ok lo W) (hl:lo'<=lo):m.Ok lo' W:=
 ⟨h.blk,h.things,h.facets,zbc h.par hl,zbc h.cut hl,zbc h.made hl,h.box,λx hx=>(h.st x hx).more hl,⟨Nat.le_trans hl h.lo0.1,Nat.le_trans hl h.lo0.2.1,Nat.le_trans hl h.lo0.2.2.1,λx hx=>Nat.le_trans hl (h.lo0.2.2.2 x hx)⟩,h.mf,h.keys,h.dist,h.len,h.fkeys,h.flen,h.sides⟩
theorem Ints.noI {w w':World} {lo hi:Nat} {A:Option Addr} {cap:Nat} {p:List Int} (h:Ints w lo hi A cap p) (hf:Fr No w w') (hh:hi<=w.heap.size):Ints w' lo hi A cap p:=h.fr hf hh λ_ _ _ h=>h
def zm1 (m0:Gm) (l:List Bool):Gm:={m0 with cut:=l}
theorem ztj (PA:Option Addr) (pc:Nat) (ps:List Int) (CA:Option Addr) (cc:Nat) (cuts:List Int) (TA:Option Addr) (tc:Nat) (ths:List (Int×Tg)) (last:Int) (MA:Option Addr) (mc:Nat) (made:List Int) (W:World) (lo hi:Nat)
 (hp:Ints W lo hi PA pc ps) (hc:Ints W lo hi CA cc cuts) (ht:EnRow W lo hi TA tc ths) (hm:Ints W lo hi MA mc made) (hla: -9223372036854775808<=last/\last<=9223372036854775807) (hh:hi<=W.heap.size) (hlen:ths.length<=1000000):
 Calls Tryz.prog 108 #[.agg #[.slice PA ps.length pc,.slice CA cuts.length cc,.slice TA ths.length tc,.int .i64 last,.slice MA made.length mc]] W (zuy ps cuts ths last made W):=by
 have f0:=Blk.new W 71 #[.slice PA ps.length pc,.slice CA cuts.length cc,.slice TA ths.length tc,.int .i64 last,.slice MA made.length mc];have y8:=(Fr.refl No W).alloc (.cells #[.slice PA ps.length pc,.slice CA cuts.length cc,.slice TA ths.length tc,.int .i64 last,.slice MA made.length mc] 71);have hN:=zun PA pc ps (W.alloc (.cells #[.slice PA ps.length pc,.slice CA cuts.length cc,.slice TA ths.length tc,.int .i64 last,.slice MA made.length mc] 71)) lo hi (hp.noI y8 hh) (Nat.le_trans hh y8.size);have N9:=zaa f0;have d9:=zaa y8;have HN:=zaa hN;have HC:=zaa hc;have HT:=zaa ht;have HM:=zaa hm;have s7:=zaa hh;have O3:=zaa hla;have y1:=zaa hlen;have I1:=zaa hm.len;have F5:=zaa hc.len;obtain⟨e0,e1,e2,e3,e4⟩:(W.alloc (.cells #[.slice PA ps.length pc,.slice CA cuts.length cc,.slice TA ths.length tc,.int .i64 last,.slice MA made.length mc] 71)).cell? ⟨W.heap.size,0,none⟩=some (.slice PA ps.length pc)/\(W.alloc (.cells #[.slice PA ps.length pc,.slice CA cuts.length cc,.slice TA ths.length tc,.int .i64 last,.slice MA made.length mc] 71)).cell? ⟨W.heap.size,1,none⟩=some (.slice CA cuts.length cc)/\(W.alloc (.cells #[.slice PA ps.length pc,.slice CA cuts.length cc,.slice TA ths.length tc,.int .i64 last,.slice MA made.length mc] 71)).cell? ⟨W.heap.size,2,none⟩=some (.slice TA ths.length tc)/\(W.alloc (.cells #[.slice PA ps.length pc,.slice CA cuts.length cc,.slice TA ths.length tc,.int .i64 last,.slice MA made.length mc] 71)).cell? ⟨W.heap.size,3,none⟩=some (.int .i64 last)/\(W.alloc (.cells #[.slice PA ps.length pc,.slice CA cuts.length cc,.slice TA ths.length tc,.int .i64 last,.slice MA made.length mc] 71)).cell? ⟨W.heap.size,4,none⟩=some (.slice MA made.length mc):=⟨f0.cell 0,f0.cell 1,f0.cell 2,f0.cell 3,f0.cell 4⟩;have v6:=f0.lt;clear f0 y8 hN hp hc ht hm hh hla hlen;go_enter Tryz.func108,Tryz.ntmps108;go_wp2_with fail;generalize World.alloc W _=W0 at*;generalize I4:W.heap.size=bx at*;have p5:=zaa I4;clear I4;refine HN.out.mono ?_;rintro e w1 (⟨F6,rfl,f1⟩|⟨v2,m0,rfl,p3,⟨E1,g8,r7,hcut,e6,g5⟩,f1⟩)
 .have J7:=zaa F6;have s6:=zaa (d9.out.trans f1);clear F6 f1 e0 e1 e2 e3 e4 v6 HN;go_upto_region 2 with(fail);refine zab (λW'=>∃q:ClN w1,W'=q.w) k_ k_ ⟨⟨_,(Fr.refl No w1).drew⟩,rfl⟩ ?_;have b9:Nonempty (ClN w1):=⟨⟨w1,Fr.refl No w1⟩⟩;repeat(go_big_quiet_step (fail))
  refine wpQuiet_nil ?_;rintro w2 ⟨⟨_,f2⟩,rfl⟩;clear b9;go_wp2_with fail;go_ret2;exact .inl ⟨λh=>J7.out h.new,rfl,s6.out.trans f2⟩
 .obtain⟨k,hk⟩:∃k,ps.length+1=k:=⟨_,rfl⟩;rw[hk]at hcut e6;have A2:m0.made.length=k:=by rw[e6];simp
  have g2:k<=16:=by have:=p3.sides;omega
  have g4:∀q:ClN w1,q.w.cell? ⟨bx,4,none⟩=some (.slice MA made.length mc):=λq=>((f1.trans q.fr).cell v6 λh=>h).trans e4;have gq:∀q:ClN w1,bx<q.w.heap.size:=λq=>Nat.lt_of_lt_of_le v6 (f1.trans q.fr).size;have HS:Hid (∀q:ClN w1,Calls Tryz.prog 84 #[.pointer (some ⟨m0.wb,0,none⟩)] q.w λe H0=>e= .returned (.int .i64 (k:Int))/\∃q':ClN w1,H0=q'.w):=zaa λq=>by
   refine(zej (p3.no q.fr)).mono ?_;rintro e H0 ⟨rfl,rfl⟩;exact⟨by rw[A2],q,rfl⟩
  have b9:Nonempty (ClN w1):=⟨⟨w1,Fr.refl No w1⟩⟩;have HK:=zaa hk;have j9:=zaa g2;have r6:=zaa A2;have H3:=zaa p3;have B8:=zaa v2;have s6:=zaa f1;have HE:Hid (W0.cell? ⟨bx,1,none⟩=some (.slice CA cuts.length cc)/\W0.cell? ⟨bx,2,none⟩=some (.slice TA ths.length tc)/\W0.cell? ⟨bx,3,none⟩=some (.int .i64 last)/\W0.cell? ⟨bx,4,none⟩=some (.slice MA made.length mc)/\bx<W0.heap.size):=zaa ⟨e1,e2,e3,e4,v6⟩;have G4:=zaa E1;have H7:=zaa g8;have G5:=zaa r7;have F4:=zaa hcut;have E2:=zaa e6;have o0:=zaa g5;clear hk g2 A2 p3 v2 f1 e0 e1 e2 e3 e4 v6 HN E1 g8 r7 hcut e6 g5;by_cases k6:made.length=k
  .have hd:((made.length:Int)!=(k:Int))=false:=by simp[k6]
   have e7:=zaa k6;clear k6;go_upto_region 2 with(fail);refine zab (λW'=>∃q:ClN w1,W'=q.w) k_ k_ ⟨⟨_,(Fr.refl No w1).drew⟩,rfl⟩ ?_;repeat(go_big_quiet_step ((go_at_call 84;exact HS.out _)))
   refine wpQuiet_nil ?_;rintro w2 ⟨⟨_,f2⟩,rfl⟩;have i1:=zaa (s6.out.trans f2);have q8:=zaa (H3.out.no f2);have h1:=(i1.out.cell HE.out.2.2.2.2 λh=>h).trans HE.out.1;have hq:=Nat.lt_of_lt_of_le HE.out.2.2.2.2 i1.out.size;clear b9 g4 gq f2 hd HS H3 s6;go_wp2_with fail;go_loopw [35] (λv wr=>∃j:Nat,j<=cuts.length/\v= .int .i64 j/\(zm1 m0 (zc6 k (cuts.take j))).Ok W0.heap.size wr/\Fr No W0 wr/\∀i,i<j->zm2 k cuts i) (λv _=>cuts.length - (intOf v).toNat)
   case atStart=>
    refine⟨0,Nat.zero_le _,rfl,?_,i1.out,λi hi=>by omega⟩;have:zm1 m0 (zc6 k (cuts.take 0))=m0:=by
     unfold zm1 zc6;simp only[List.take_zero,List.foldl_nil];rw[<-F4.out]
    rw[this];exact q8.out
   case round=>
    obtain⟨j,hj,rfl,d4,fj,c0⟩:=hrel;have h1:=(fj.cell HE.out.2.2.2.2 λh=>h).trans HE.out.1;have hq:=Nat.lt_of_lt_of_le HE.out.2.2.2.2 fj.size;have J3:=F5.out;have p4:=zaa fj;have D2:=zaa c0;have A4:=zaa d4;by_cases hlt:j<cuts.length
    .obtain⟨b,o,rfl,f0,G2,j6⟩:=HC.out.at_ (λh=>by rw[h]at hlt;simp at hlt);have hF:=d9.out.trans fj;have e9:b<W.heap.size:=by have:=s7.out;have:=p5.out;omega
     have A0:b<wr.heap.size:=Nat.lt_of_lt_of_le e9 hF.size;have hx:wr.cell? ⟨b,o+j,none⟩=some (.int .i64 cuts[j]):=(hF.cell e9 λh=>h).trans (j6 j _ (List.getElem?_eq_getElem hlt));have F0:cuts[j]? =some cuts[j]:=List.getElem?_eq_getElem hlt;have j0:=zaa F0;have I5:Hid (Calls Tryz.prog 181 #[.pointer (some ⟨m0.wb,0,none⟩),.int .i64 cuts[j]] wr (zzg (zm1 m0 (zc6 k (cuts.take j))) W0.heap.size cuts[j] wr)):=zaa (zm0 d4 _);have z6:Hid (∀i x,cuts[i]? =some x->wr.cell? ⟨b,o+i,none⟩=some (.int .i64 x)):=zaa λi x hx=>(hF.cell e9 λh=>h).trans (j6 i x hx);have k7:=zaa hlt;generalize cuts[j]=c at*;clear F0 j6 hF d4 fj c0 e9;by_cases v7:j=0
     .as_aux_lemma=>
      have J4:decide (0<j)=false:=by simp[v7]
      have K9:=zaa v7;clear v7;go_wp2_with fail;refine I5.out.mono ?_;rintro e w' (⟨hb,rfl,rfl⟩|⟨hg,rfl,h5,f'⟩)
      .have z4:=zaa hb;clear hb;go_wp2_with fail;go_ret2;refine .inl ⟨λh=>z4.out ?_,rfl,d9.out.trans p4.out⟩;have:=(h.cut j _ j0.out).1;rw[e7.out]at this;change 0<c/\c<((zm1 m0 (zc6 k (cuts.take j))).made.length:Int);rw[show(zm1 m0 (zc6 k (cuts.take j))).made.length=k from r6.out];exact this
      .have HG:=zaa hg;have n4:=zaa h5;have D4:=zaa (p4.out.trans' f' λi hi h=>by have h':W0.heap.size<=i:=h;omega);clear hg h5 f';go_wp2;go_roundw
       case rel=>
        refine⟨j+1,hlt,by go_num,?_,D4.out,λi hi=>?_⟩
        .rw[zhw j0.out];exact n4.out
        .by_cases v3:i=j
         .subst v3;intro c2 hc2;rw[j0.out]at hc2;injection hc2 with hc2
          subst hc2;have hg:=HG.out;change 0<c/\c<((zm1 m0 (zc6 k (cuts.take i))).made.length:Int)at hg;rw[show(zm1 m0 (zc6 k (cuts.take i))).made.length=k from r6.out]at hg;refine⟨hg,λc' hi0 hc'=>?_⟩;have:=K9.out;omega
         .exact D2.out i o_
       case measure=>simp[intOf]<;>omega
     .as_aux_lemma=>
      obtain⟨j1,rfl⟩:∃j1,j=j1+1:=⟨j - 1,by omega⟩;have J4:decide (0<j1+1)=true:=s_;have N8:IntKind.i64.wrap (((j1+1:Nat):Int) - 1)=(j1:Int):=by
       rw[show((j1+1:Nat):Int) - 1=(j1:Int) by omega];have:=F5.out;exact IntWalk.i64_in _ o_
      have F1:j1<cuts.length:=o_;have O7:=z6.out j1 _ (List.getElem?_eq_getElem F1);have F7:=zaa (List.getElem?_eq_getElem F1);generalize cuts[j1]=c1 at*;generalize y4:j1+1=j at*;have A3:=zaa y4;clear v7 y4;by_cases p7:c<=c1
      .have o1:decide (c<=c1)=true:=by simpa using p7
       have B1:=zaa p7;clear p7;go_wp2_with fail;go_ret2;refine .inl ⟨λh=>?_,rfl,d9.out.trans p4.out⟩;have:=(h.cut j _ j0.out).2 c1 (by have:=A3.out;omega) (by rw[<-A3.out];exact F7.out);have:=B1.out;omega
      .have o1:decide (c<=c1)=false:=by simpa using p7
       have B1:=zaa p7;clear p7;go_wp2_with fail;refine I5.out.mono ?_;rintro e w' (⟨hb,rfl,rfl⟩|⟨hg,rfl,h5,f'⟩)
       .have z4:=zaa hb;clear hb;go_wp2_with fail;go_ret2;refine .inl ⟨λh=>z4.out ?_,rfl,d9.out.trans p4.out⟩;have:=(h.cut j _ j0.out).1;rw[e7.out]at this;change 0<c/\c<((zm1 m0 (zc6 k (cuts.take j))).made.length:Int);rw[show(zm1 m0 (zc6 k (cuts.take j))).made.length=k from r6.out];exact this
       .have HG:=zaa hg;have n4:=zaa h5;have D4:=zaa (p4.out.trans' f' λi hi h=>by have h':W0.heap.size<=i:=h;omega);clear hg h5 f';go_wp2;go_roundw
        case rel=>
         refine⟨j+1,hlt,by go_num,?_,D4.out,λi hi=>?_⟩
         .rw[zhw j0.out];exact n4.out
         .by_cases v3:i=j
          .subst v3;intro c2 hc2;rw[j0.out]at hc2;injection hc2 with hc2
           subst hc2;have hg:=HG.out;change 0<c/\c<((zm1 m0 (zc6 k (cuts.take i))).made.length:Int)at hg;rw[show(zm1 m0 (zc6 k (cuts.take i))).made.length=k from r6.out]at hg;refine⟨hg,λc' hi0 hc'=>?_⟩;have y4:=A3.out;subst y4;simp only[Nat.add_sub_cancel]at hc';rw[F7.out]at hc';injection hc' with hc'
           have:=B1.out;omega
          .exact D2.out i o_
        case measure=>simp[intOf]<;>omega
    .obtain rfl:cuts.length=j:=o_;have g7:=c0;rw[List.take_length]at d4;have j0:Hid (∀i,zm2 k cuts i):=zaa λi=>by
      by_cases hi:i<cuts.length
      .exact g7 i hi
      .intro c hc;rw[List.getElem?_eq_none o_]at hc;cases hc
     obtain⟨m1,B6⟩:∃m1,zm1 m0 (zc6 k cuts)=m1:=⟨_,rfl⟩;have y6:m1.wb=m0.wb/\m1.th=[]/\m1.fac=[]/\m1.par=ps/\m1.cut=zc6 k cuts/\m1.made=List.replicate k 0/\m1.last=0:=by
      subst B6;exact⟨rfl,G4.out,H7.out,G5.out,rfl,E2.out,o0.out⟩
     rw[B6]at d4;have n9:m1.made.length=k:=by rw[y6.2.2.2.2.2.1];simp
     have C8:=zej d4;rw[y6.1,n9]at C8;have G3:=zaa C8;have o4:=zaa d4;have A7:=zaa fj;have h7:=zaa y6;have B2:=zaa n9;clear g7 c0 B6 y6 n9 C8 d4 fj hlt hj J3 A4 D2 p4 q8 i1 r6 G4 H7 G5 F4 E2 o0 HC;obtain⟨w3,rfl⟩:∃w3:World,w3=wr:=⟨_,rfl⟩;have k6:=zie k j9.out;have h2:=(A7.out.cell HE.out.2.2.2.2 λh=>h).trans HE.out.2.1;have q0:Hid (ThI m1 ths last k W0 w3.heap.size 0 m1 (w3.alloc (.cells (madeCells #[.int .i64 0] k) 3))):=zaa (by
      have fa:=(Fr.refl No w3).alloc (.cells (madeCells #[.int .i64 0] k) 3);refine⟨o4.out.no fa,A7.out.trans fa,⟨rfl,rfl,rfl,rfl,rfl,h7.out.2.2.1,h7.out.2.2.2.2.2.2⟩,?_,?_,λh=>by have:=(o4.out.lt _ h).2;omega,A7.out.size,λi hi=>by omega,λx hx=>by rw[h7.out.2.1]at hx;cases hx⟩
      .unfold Gm.pl;rw[h7.out.2.1];rfl
      .have hb:=Blk.new w3 3 (madeCells #[.int .i64 0] k);have he:madeCells #[.int .i64 0] k=(za2 k (ths.take 0)).toArray:=by
        apply Array.ext'
        rw[toList_madeCells_one,List.take_zero,zf0]
       rw[he]at hb ⊢;exact hb)
     go_wp2_with fail;refine G3.out.mono ?_;rintro e w' ⟨rfl,rfl⟩;clear G3;go_wp2_with fail;generalize F9:w'.heap.size=g at*;have O1:=zaa F9;clear F9;go_loopw [65,9] (λv u wr=>∃(j:Nat) (m:Gm),j<=ths.length/\v= .int .i64 j/\u= .int .i64 (zbk ths j)/\ThI m1 ths last k W0 g j m wr) (λv _ _=>ths.length - (intOf v).toNat)
     case atStart=>exact⟨0,m1,Nat.zero_le _,rfl,rfl,q0.out⟩
     case round=>
      obtain⟨j,m,hj,rfl,rfl,inv⟩:=hrel;have O4:=y1.out;by_cases hlt:j<ths.length
      .as_aux_lemma=>
       obtain⟨b,o,rfl,f0,G2,j6⟩:=HT.out.at_ (λh=>by rw[h]at hlt;simp at hlt);have hF:=d9.out.trans inv.fr;have e9:b<W.heap.size:=by have:=s7.out;have:=p5.out;omega
       have A0:b<wr.heap.size:=Nat.lt_of_lt_of_le e9 hF.size;have g1:hi<=W.heap.size:=by have:=s7.out;have:=p5.out;omega
       have m3:=(HT.out.inn _ (List.getElem_mem hlt)).2.no hF g1;have j4:ths[j]? =some ths[j]:=List.getElem?_eq_getElem hlt;have d3:∀i u,(Value.int .i64 ths[j].1::ths[j].2.cells)[i]? =some u->wr.cell? ⟨b,o+j*17+i,none⟩=some u:=λi u hu=>(hF.cell e9 λh=>h).trans (j6 j _ j4 i u hu);have h8:=zaa j4;have k7:=zaa hlt;have k4:=zaa hF;have h2:=(inv.fr.cell HE.out.2.2.2.2 λh=>h).trans HE.out.2.1;have h3:=(inv.fr.cell HE.out.2.2.2.2 λh=>h).trans HE.out.2.2.1;have hq:=Nat.lt_of_lt_of_le HE.out.2.2.2.2 inv.fr.size;have D3:m.wb=m0.wb:=inv.same.1.trans h7.out.1;have v5:m.made.length=k:=by rw[inv.same.2.2.2.2.1];exact B2.out
       generalize ths[j]=x at*;obtain⟨r,kind,home,⟨k1,n1,s1,A1,b7,l1,r1⟩,VA,vc,vs,n2,lost,ofr,byr,set,full,e5,e8,b5,NA,nc,a0⟩:=x;have x0:wr.cell? ⟨b,o+j*17,none⟩=some (.int .i64 r):=d3 0 _ rfl;have x1:wr.cell? ⟨b,o+j*17+1,none⟩=some (.int .u8 kind):=d3 1 _ rfl;have x2:wr.cell? ⟨b,o+j*17+2,none⟩=some (.int .i64 home):=d3 2 _ rfl;have x3:wr.cell? ⟨b,o+j*17+3,none⟩=some (.int .u8 k1):=d3 3 _ rfl;have x4:wr.cell? ⟨b,o+j*17+4,none⟩=some (.int .i64 n1):=d3 4 _ rfl;have x5:wr.cell? ⟨b,o+j*17+5,none⟩=some (.string s1):=d3 5 _ rfl;have x6:wr.cell? ⟨b,o+j*17+6,none⟩=some (.slice A1 l1.length b7):=d3 6 _ rfl;have x7:wr.cell? ⟨b,o+j*17+7,none⟩=some (.int .i64 r1):=d3 7 _ rfl;have x8:wr.cell? ⟨b,o+j*17+8,none⟩=some (.slice VA vs.length vc):=d3 8 _ rfl;have x9:wr.cell? ⟨b,o+j*17+9,none⟩=some (.int .i64 n2):=d3 9 _ rfl;have L0:wr.cell? ⟨b,o+j*17+10,none⟩=some (.int .i64 lost):=d3 10 _ rfl;have J1:wr.cell? ⟨b,o+j*17+11,none⟩=some (.int .i64 ofr):=d3 11 _ rfl;have L6:wr.cell? ⟨b,o+j*17+12,none⟩=some (.int .i64 byr):=d3 12 _ rfl;have J5:wr.cell? ⟨b,o+j*17+13,none⟩=some (.int .u8 set):=d3 13 _ rfl;have L4:wr.cell? ⟨b,o+j*17+14,none⟩=some (.bool full):=d3 14 _ rfl;have N1:wr.cell? ⟨b,o+j*17+15,none⟩=some (.slice e5 b5.length e8):=d3 15 _ rfl;have M1:wr.cell? ⟨b,o+j*17+16,none⟩=some (.slice NA a0.length nc):=d3 16 _ rfl;have H2:=Blk.new wr 140 #[.int .i64 r,.int .u8 kind,.int .i64 home,.int .u8 k1,.int .i64 n1,.string s1,.slice A1 l1.length b7,.int .i64 r1,.slice VA vs.length vc,.int .i64 n2,.int .i64 lost,.int .i64 ofr,.int .i64 byr,.int .u8 set,.bool full,.slice e5 b5.length e8,.slice NA a0.length nc];have G7:=(Fr.refl No wr).alloc (.cells #[.int .i64 r,.int .u8 kind,.int .i64 home,.int .u8 k1,.int .i64 n1,.string s1,.slice A1 l1.length b7,.int .i64 r1,.slice VA vs.length vc,.int .i64 n2,.int .i64 lost,.int .i64 ofr,.int .i64 byr,.int .u8 set,.bool full,.slice e5 b5.length e8,.slice NA a0.length nc] 140);have F8:∀W',Fr No wr W'->Calls Tryz.prog 154 #[.pointer (some ⟨m0.wb,0,none⟩),.agg #[.int .u8 kind,.int .i64 home,.int .u8 k1,.int .i64 n1,.string s1,.slice A1 l1.length b7,.int .i64 r1,.slice VA vs.length vc,.int .i64 n2,.int .i64 lost,.int .i64 ofr,.int .i64 byr,.int .u8 set,.bool full,.slice e5 b5.length e8,.slice NA a0.length nc]] W' (zul k ⟨kind,home,T.mk k1 n1 s1 A1 b7 l1 r1,VA,vc,vs,n2,lost,ofr,byr,set,full,e5,e8,b5,NA,nc,a0⟩ W'):=λW' f=>by
        have:=zum (inv.ok.no f) ⟨kind,home,T.mk k1 n1 s1 A1 b7 l1 r1,VA,vc,vs,n2,lost,ofr,byr,set,full,e5,e8,b5,NA,nc,a0⟩ lo hi (m3.no f (Nat.le_trans g1 hF.size)) (Nat.le_trans (Nat.le_trans g1 hF.size) f.size);rw[D3,v5]at this;exact this
       have c4:=zaa H2;have k9:=zaa G7;have E0:=zaa F8;have d5:=zaa inv;have B3:=zaa m3;have I7:=zaa (Nat.le_trans g1 hF.size);have l7:=zaa D3;generalize I6:zbk ths j=pv at*;have C9:=zaa I6;clear d3 j6 j4 hlt hF e9 m3 g1 D3 v5 H2 G7 F8 inv I6 k6;as_aux_lemma=>
        by_cases p8:r<=pv
        .have o1:decide (r<=pv)=true:=by simpa using p8
         have y7:=zaa p8;clear p8;go_wp2_with fail;go_ret2;refine .inl ⟨λh=>?_,rfl,k4.out.trans k9.out⟩;have:=h.thing j _ h8.out;rw[e7.out]at this;have h3:=this.2.2;rw[C9.out]at h3;have:=y7.out;omega
        have o1:decide (r<=pv)=false:=by simpa using p8
        have y7:=zaa p8;clear p8;by_cases o9:last<r
        .have v1:decide (r > last)=true:=by simpa using o9
         have z8:=zaa o9;clear o9;go_wp2_with fail;go_ret2;refine .inl ⟨λh=>?_,rfl,k4.out.trans k9.out⟩;have:=h.thing j _ h8.out;rw[e7.out]at this;have h3:=this.2.1;have:=z8.out;omega
        have v1:decide (r > last)=false:=by simpa using o9
        have z8:=zaa o9;clear o9;go_upto_region 15 with(fail);generalize K5:World.alloc wr _=W1 at*;generalize I2:wr.heap.size=tb at*;have z1:=zaa I2;clear K5 I2 x0 x1 x2 x3 x4 x5 x6 x7 x8 x9 L0 J1 L6 J5 L4 N1 M1;have M4:=k9.out.size;have y0:bx<wr.heap.size:=by have:=z1.out;omega
        have J8:=(k9.out.cell y0 λh=>h).trans h2;have N2:=(k9.out.cell y0 λh=>h).trans h3;have L1:=Nat.lt_of_lt_of_le y0 k9.out.size;have t0:W1.cell? ⟨tb,0,none⟩=some (.int .i64 r):=c4.out.cell 0;have t1:W1.cell? ⟨tb,1,none⟩=some (.int .u8 kind):=c4.out.cell 1;have t2:W1.cell? ⟨tb,2,none⟩=some (.int .i64 home):=c4.out.cell 2;have t3:W1.cell? ⟨tb,3,none⟩=some (.int .u8 k1):=c4.out.cell 3;have t4:W1.cell? ⟨tb,4,none⟩=some (.int .i64 n1):=c4.out.cell 4;have t5:W1.cell? ⟨tb,5,none⟩=some (.string s1):=c4.out.cell 5;have t6:W1.cell? ⟨tb,6,none⟩=some (.slice A1 l1.length b7):=c4.out.cell 6;have t7:W1.cell? ⟨tb,7,none⟩=some (.int .i64 r1):=c4.out.cell 7;have t8:W1.cell? ⟨tb,8,none⟩=some (.slice VA vs.length vc):=c4.out.cell 8;have t9:W1.cell? ⟨tb,9,none⟩=some (.int .i64 n2):=c4.out.cell 9;have o6:W1.cell? ⟨tb,10,none⟩=some (.int .i64 lost):=c4.out.cell 10;have n3:W1.cell? ⟨tb,11,none⟩=some (.int .i64 ofr):=c4.out.cell 11;have o3:W1.cell? ⟨tb,12,none⟩=some (.int .i64 byr):=c4.out.cell 12;have m7:W1.cell? ⟨tb,13,none⟩=some (.int .u8 set):=c4.out.cell 13;have m6:W1.cell? ⟨tb,14,none⟩=some (.bool full):=c4.out.cell 14;have n7:W1.cell? ⟨tb,15,none⟩=some (.slice e5 b5.length e8):=c4.out.cell 15;have o5:W1.cell? ⟨tb,16,none⟩=some (.slice NA a0.length nc):=c4.out.cell 16;have tq:=c4.out.lt;clear h2 h3 hq M4 y0 A0;as_aux_lemma=>
         go_wp2_with fail;refine(E0.out W1 k9.out).mono ?_;rintro e W2 ⟨q,rfl,E5,f2⟩;have i1:=zaa (k9.out.trans f2);have G8:=c4.out.fr f2 λh=>h;have c5:=zaa G8;have D1:=zaa E5;clear t0 t1 t2 t3 t4 t5 t6 t7 t8 t9 o6 n3 o3 m7 m6 n7 o5 tq f2 G8 E5 E0 J8 N2 L1;have t0:W2.cell? ⟨tb,0,none⟩=some (.int .i64 r):=c5.out.cell 0;have t1:W2.cell? ⟨tb,1,none⟩=some (.int .u8 kind):=c5.out.cell 1;have t2:W2.cell? ⟨tb,2,none⟩=some (.int .i64 home):=c5.out.cell 2;have t3:W2.cell? ⟨tb,3,none⟩=some (.int .u8 k1):=c5.out.cell 3;have t4:W2.cell? ⟨tb,4,none⟩=some (.int .i64 n1):=c5.out.cell 4;have t5:W2.cell? ⟨tb,5,none⟩=some (.string s1):=c5.out.cell 5;have t6:W2.cell? ⟨tb,6,none⟩=some (.slice A1 l1.length b7):=c5.out.cell 6;have t7:W2.cell? ⟨tb,7,none⟩=some (.int .i64 r1):=c5.out.cell 7;have t8:W2.cell? ⟨tb,8,none⟩=some (.slice VA vs.length vc):=c5.out.cell 8;have t9:W2.cell? ⟨tb,9,none⟩=some (.int .i64 n2):=c5.out.cell 9;have o6:W2.cell? ⟨tb,10,none⟩=some (.int .i64 lost):=c5.out.cell 10;have n3:W2.cell? ⟨tb,11,none⟩=some (.int .i64 ofr):=c5.out.cell 11;have o3:W2.cell? ⟨tb,12,none⟩=some (.int .i64 byr):=c5.out.cell 12;have m7:W2.cell? ⟨tb,13,none⟩=some (.int .u8 set):=c5.out.cell 13;have m6:W2.cell? ⟨tb,14,none⟩=some (.bool full):=c5.out.cell 14;have n7:W2.cell? ⟨tb,15,none⟩=some (.slice e5 b5.length e8):=c5.out.cell 15;have o5:W2.cell? ⟨tb,16,none⟩=some (.slice NA a0.length nc):=c5.out.cell 16;have tq:=c5.out.lt;as_aux_lemma=>
          cases q with
          |false=>
           go_wp2_with fail;go_ret2;refine .inl ⟨λh=>?_,rfl,k4.out.trans i1.out⟩;have:=h.thing j _ h8.out;rw[e7.out]at this;have h4:=D1.out.2 this.1;cases h4
          |true=>as_aux_lemma=>
           have d7:=D1.out.1 rfl;have I3:∀W',Fr No wr W'->Calls Tryz.prog 150 #[.agg #[.int .u8 kind,.int .i64 home,.int .u8 k1,.int .i64 n1,.string s1,.slice A1 l1.length b7,.int .i64 r1,.slice VA vs.length vc,.int .i64 n2,.int .i64 lost,.int .i64 ofr,.int .i64 byr,.int .u8 set,.bool full,.slice e5 b5.length e8,.slice NA a0.length nc]] W' (zm6 ⟨kind,home,T.mk k1 n1 s1 A1 b7 l1 r1,VA,vc,vs,n2,lost,ofr,byr,set,full,e5,e8,b5,NA,nc,a0⟩ W'):=λW' f=>zg3 ⟨kind,home,T.mk k1 n1 s1 A1 b7 l1 r1,VA,vc,vs,n2,lost,ofr,byr,set,full,e5,e8,b5,NA,nc,a0⟩ W' lo hi (B3.out.no f (by have:=I7.out;have:=z1.out;omega)) (Nat.le_trans (by have:=I7.out;have:=z1.out;omega) f.size) d7.may d7.vsmay.1 d7.mays;have E3:=zaa I3;have I0:=zaa d7;clear I3 d7 D1;go_wp2_with fail;refine(E3.out W2 i1.out).mono ?_;rintro e W3 ⟨⟨b0,b1,⟨i8,i4,i2,j2,b6,j8,i7⟩,j7,j5,k0,k3,b4,c3,c9,d0,b3,c6,c7,b2,i6,i3,a9⟩,rfl,g6,B5,C3,D6,D5,E4,f3⟩;have G9:Tg.pl ⟨b0,b1,T.mk i8 i4 i2 j2 b6 j8 i7,j7,j5,k0,k3,b4,c3,c9,d0,b3,c6,c7,b2,i6,i3,a9⟩=Tg.pl ⟨kind,home,T.mk k1 n1 s1 A1 b7 l1 r1,VA,vc,vs,n2,lost,ofr,byr,set,full,e5,e8,b5,NA,nc,a0⟩:=by
            simp only at g6 B5 C3 D6 D5;obtain⟨a1,a2,a3,a4,a5,a6,a7,a8⟩:=g6;unfold Tg.pl;simp only[TgV.mk.injEq];exact⟨a1,a2,B5,C3,a3,a4,a5,a6,a7,a8,D6,D5⟩
           have G6:b0=kind:=g6.1;have I8:b1=home:=g6.2.1;have r8:Tg.val ⟨b0,b1,T.mk i8 i4 i2 j2 b6 j8 i7,j7,j5,k0,k3,b4,c3,c9,d0,b3,c6,c7,b2,i6,i3,a9⟩= .agg #[.int .u8 b0,.int .i64 b1,.int .u8 i8,.int .i64 i4,.string i2,.slice j2 j8.length b6,.int .i64 i7,.slice j7 k0.length j5,.int .i64 k3,.int .i64 b4,.int .i64 c3,.int .i64 c9,.int .u8 d0,.bool b3,.slice c6 b2.length c7,.slice i6 a9.length i3]:=rfl;rw[r8];have A6:=c5.out.fr f3 λh=>h;have d1:=zaa A6;have K0:=zaa G9;have M5:=zaa G6;have J6:=zaa I8;have z2:=i1.out.trans f3;have q5:Tg.St (W3.alloc (.cells #[.int .u8 b0,.int .i64 b1,.int .u8 i8,.int .i64 i4,.string i2,.slice j2 j8.length b6,.int .i64 i7,.slice j7 k0.length j5,.int .i64 k3,.int .i64 b4,.int .i64 c3,.int .i64 c9,.int .u8 d0,.bool b3,.slice c6 b2.length c7,.slice i6 a9.length i3] 138)) wr.heap.size ⟨b0,b1,T.mk i8 i4 i2 j2 b6 j8 i7,j7,j5,k0,k3,b4,c3,c9,d0,b3,c6,c7,b2,i6,i3,a9⟩:=(E4.fr ((Fr.refl No W3).alloc _) λ_ _ h=>h).more (Nat.le_trans (Nat.le_refl _) i1.out.size);have F3:=z2.alloc (.cells #[.int .u8 b0,.int .i64 b1,.int .u8 i8,.int .i64 i4,.string i2,.slice j2 j8.length b6,.int .i64 i7,.slice j7 k0.length j5,.int .i64 k3,.int .i64 b4,.int .i64 c3,.int .i64 c9,.int .u8 d0,.bool b3,.slice c6 b2.length c7,.slice i6 a9.length i3] 138);have E8:=Blk.new W3 138 #[.int .u8 b0,.int .i64 b1,.int .u8 i8,.int .i64 i4,.string i2,.slice j2 j8.length b6,.int .i64 i7,.slice j7 k0.length j5,.int .i64 k3,.int .i64 b4,.int .i64 c3,.int .i64 c9,.int .u8 d0,.bool b3,.slice c6 b2.length c7,.slice i6 a9.length i3];have B0:=zaa q5;have w0:=zaa F3;have M3:=zaa E8;have q3:wr.heap.size<=W3.heap.size:=z2.size;have A9:=zaa q3;have E9:=A6.alloc (.cells #[.int .u8 b0,.int .i64 b1,.int .u8 i8,.int .i64 i4,.string i2,.slice j2 j8.length b6,.int .i64 i7,.slice j7 k0.length j5,.int .i64 k3,.int .i64 b4,.int .i64 c3,.int .i64 c9,.int .u8 d0,.bool b3,.slice c6 b2.length c7,.slice i6 a9.length i3] 138);have d2:=zaa E9;as_aux_lemma=>
            clear r8 g6 B5 C3 D6 D5 E4 f3 A6 G9 G6 I8 z2 q5 F3 E8 q3 E9 E3 t0 t1 t2 t3 t4 t5 t6 t7 t8 t9 o6 n3 o3 m7 m6 n7 o5 tq;have t0:W3.cell? ⟨tb,0,none⟩=some (.int .i64 r):=d1.out.cell 0;have t1:W3.cell? ⟨tb,1,none⟩=some (.int .u8 kind):=d1.out.cell 1;have t2:W3.cell? ⟨tb,2,none⟩=some (.int .i64 home):=d1.out.cell 2;have t3:W3.cell? ⟨tb,3,none⟩=some (.int .u8 k1):=d1.out.cell 3;have t4:W3.cell? ⟨tb,4,none⟩=some (.int .i64 n1):=d1.out.cell 4;have t5:W3.cell? ⟨tb,5,none⟩=some (.string s1):=d1.out.cell 5;have t6:W3.cell? ⟨tb,6,none⟩=some (.slice A1 l1.length b7):=d1.out.cell 6;have t7:W3.cell? ⟨tb,7,none⟩=some (.int .i64 r1):=d1.out.cell 7;have t8:W3.cell? ⟨tb,8,none⟩=some (.slice VA vs.length vc):=d1.out.cell 8;have t9:W3.cell? ⟨tb,9,none⟩=some (.int .i64 n2):=d1.out.cell 9;have o6:W3.cell? ⟨tb,10,none⟩=some (.int .i64 lost):=d1.out.cell 10;have n3:W3.cell? ⟨tb,11,none⟩=some (.int .i64 ofr):=d1.out.cell 11;have o3:W3.cell? ⟨tb,12,none⟩=some (.int .i64 byr):=d1.out.cell 12;have m7:W3.cell? ⟨tb,13,none⟩=some (.int .u8 set):=d1.out.cell 13;have m6:W3.cell? ⟨tb,14,none⟩=some (.bool full):=d1.out.cell 14;have n7:W3.cell? ⟨tb,15,none⟩=some (.slice e5 b5.length e8):=d1.out.cell 15;have o5:W3.cell? ⟨tb,16,none⟩=some (.slice NA a0.length nc):=d1.out.cell 16;have tq:=d1.out.lt;go_upto_region 19 with(fail);generalize K1:World.alloc W3 _=W4 at*;generalize M0:W3.heap.size=yb at*;clear K1 M0 t0 t1 t2 t3 t4 t5 t6 t7 t8 t9 o6 n3 o3 m7 m6 n7 o5 tq;as_aux_lemma=>
             obtain⟨es,cl,z5,C2,-⟩:=(d5.out.ok.no w0.out).things;have c2:W4.cell? ⟨m0.wb,2,none⟩=some (.map (some m.M)):=by
              have:=zba (d5.out.ok.no w0.out);rwa [l7.out]at this
             have cq:m0.wb<W4.heap.size:=by
              have:=(d5.out.ok.no w0.out).blk.lt;rwa [l7.out]at this
             have t0:W4.cell? ⟨tb,0,none⟩=some (.int .i64 r):=d2.out.cell 0;have t1:W4.cell? ⟨tb,1,none⟩=some (.int .u8 kind):=d2.out.cell 1;have t2:W4.cell? ⟨tb,2,none⟩=some (.int .i64 home):=d2.out.cell 2;have t3:W4.cell? ⟨tb,3,none⟩=some (.int .u8 k1):=d2.out.cell 3;have t4:W4.cell? ⟨tb,4,none⟩=some (.int .i64 n1):=d2.out.cell 4;have t5:W4.cell? ⟨tb,5,none⟩=some (.string s1):=d2.out.cell 5;have t6:W4.cell? ⟨tb,6,none⟩=some (.slice A1 l1.length b7):=d2.out.cell 6;have t7:W4.cell? ⟨tb,7,none⟩=some (.int .i64 r1):=d2.out.cell 7;have t8:W4.cell? ⟨tb,8,none⟩=some (.slice VA vs.length vc):=d2.out.cell 8;have t9:W4.cell? ⟨tb,9,none⟩=some (.int .i64 n2):=d2.out.cell 9;have o6:W4.cell? ⟨tb,10,none⟩=some (.int .i64 lost):=d2.out.cell 10;have n3:W4.cell? ⟨tb,11,none⟩=some (.int .i64 ofr):=d2.out.cell 11;have o3:W4.cell? ⟨tb,12,none⟩=some (.int .i64 byr):=d2.out.cell 12;have m7:W4.cell? ⟨tb,13,none⟩=some (.int .u8 set):=d2.out.cell 13;have m6:W4.cell? ⟨tb,14,none⟩=some (.bool full):=d2.out.cell 14;have n7:W4.cell? ⟨tb,15,none⟩=some (.slice e5 b5.length e8):=d2.out.cell 15;have o5:W4.cell? ⟨tb,16,none⟩=some (.slice NA a0.length nc):=d2.out.cell 16;have tq:=d2.out.lt;have hu:(Instr.mapUpdate 34 (.map (some m.M)) (.int .i64 r) (.pointer (some ⟨yb,0,none⟩))).run Tryz.prog W4.drew= .ok () (W4.drew.putObj m.M (.map (es.push {key:=.int .i64 r,val:=.pointer (some ⟨yb,0,none⟩),born:=cl}) (cl+1))):=
              zft Tryz.underlying22 Tryz.underlying34 _ _ (show W4.drew.heap[m.M]? =some (.map es cl)from z5) (λe he=>by
               obtain⟨i,hi,rfl⟩:=List.mem_iff_getElem.1 he;have hi':i<m.th.length:=by rw[<-C2.1];exact hi
               refine⟨_,(C2.2 i _ _ (List.getElem?_eq_getElem hi) (List.getElem?_eq_getElem hi')).1,?_⟩;have:=d5.out.key _ (List.getElem_mem hi');have h4:=y7.out;rw[C9.out]at this;omega)
             have M8:=zaa z5;clear z5 C2;go_region
             all_goals
              go_simp;go_upto_region 20 with(fail);generalize H8:World.putObj W4.drew _ _=W5 at*;have A5:=d5.out.put y1.out h8.out ⟨I0.out,by have:=z8.out;omega,by have:=y7.out;have:=C9.out;omega⟩ w0.out A9.out (y:=⟨b0,b1,T.mk i8 i4 i2 j2 b6 j8 i7,j7,j5,k0,k3,b4,c3,c9,d0,b3,c6,c7,b2,i6,i3,a9⟩) M3.out B0.out K0.out M8.out H8.symm;as_aux_lemma=>
               obtain⟨-,E6,k8,w9,hA,hB⟩:=A5;have K2:=zaa E6;have g0:=zaa k8;have M7:=zaa hA;have N6:=zaa hB;have p0:W5.cell? ⟨yb,0,none⟩=some (.int .u8 b0):=w9.cell 0;have p1:W5.cell? ⟨yb,1,none⟩=some (.int .i64 b1):=w9.cell 1;have pq:=w9.lt;rw[M5.out]at p0;rw[J6.out]at p1;clear hu H8 E6 k8 hA hB w9 t0 t1 t2 t3 t4 t5 t6 t7 t8 t9 o6 n3 o3 m7 m6 n7 o5 tq c2 cq;by_cases d8:kind=14
               .as_aux_lemma=>
                have M2:(kind !=14)=false:=by simp[d8]
                have C6:=zaa d8;clear d8;go_wp2_with fail;go_roundw
                case rel=>exact⟨j+1,_,k7.out,by go_num,by simp[zbk,h8.out],M7.out C6.out⟩
                case measure=>
                 have:=k7.out;simp[intOf]<;>omega
               .as_aux_lemma=>
                have M2:(kind !=14)=true:=by simpa using d8
                obtain⟨s,D7,H9⟩:=I0.out.home d8;simp only at H9;subst H9;have l4:=N6.out s d8 rfl D7;have r4:=zaa l4;have O0:W5.cell? ⟨g,s,none⟩=some (.int .i64 (zby (ths.take j) s)):=by
                 have:=g0.out.cell s;simpa[za2,D7]using this
                have O8:=g0.out.frozen s;have O6:=g0.out.lt;have y2:=zcu (ths.take j) s;have z7:(ths.take j).length<=1000000:=by rw[List.length_take];omega
                have N5:IntKind.i64.wrap (zby (ths.take j) s+1)=zby (ths.take j) s+1:=IntWalk.i64_in _ o_;have M6:(s:Int)<(k:Int):=o_;generalize zby (ths.take j) s=hc at*;clear d8 l4 y2 z7;go_wp2_with fail;go_roundw
                case rel=>exact⟨j+1,_,k7.out,by go_num,by simp[zbk,h8.out],r4.out⟩
                case measure=>
                 have:=k7.out;simp[intOf]<;>omega
      .obtain rfl:ths.length=j:=o_;have C5:=inv.pl;rw[List.take_length]at C5;have c0:∀i,zoj k ths last i:=λi=>by
        by_cases hi:i<ths.length
        .exact inv.good i hi
        .intro x hx;rw[List.getElem?_eq_none o_]at hx;cases hx
       have n0:=inv.row;rw[List.take_length]at n0;have r0:=zaa C5;have l3:=zaa c0;have r9:=zaa n0;have f5:=zaa inv.ok;have n8:=zaa inv.fr;have v5:m.wb=m0.wb/\m.par=ps/\m.cut=zc6 k cuts/\m.made=List.replicate k 0/\m.fac=[]/\m.last=0:=⟨inv.same.1.trans h7.out.1,inv.same.2.2.1.trans h7.out.2.2.2.1,inv.same.2.2.2.1.trans h7.out.2.2.2.2.1,inv.same.2.2.2.2.1.trans h7.out.2.2.2.2.2.1,inv.same.2.2.2.2.2.1,inv.same.2.2.2.2.2.2⟩;have l5:=zaa v5;generalize zbk ths ths.length=pv at*;clear C5 c0 n0 v5 inv k6 h2 hlt hj q0 o4 h7;obtain⟨w5,rfl⟩:∃w5:World,w5=wr:=⟨_,rfl⟩;have h4:=(n8.out.cell HE.out.2.2.2.2 λh=>h).trans HE.out.2.2.2.1;have h3:=(n8.out.cell HE.out.2.2.2.2 λh=>h).trans HE.out.2.2.1;have l9:=Nat.lt_of_lt_of_le HE.out.2.2.2.2 n8.out.size;have K7:=r9.out.lt;have N7:=I1.out;go_wp2_with fail;go_loopw [112,13] (λv u wr'=>∃j:Nat,j<=made.length/\v= .int .i64 j/\u= .int .i64 (made.take j).sum/\wr'=w5/\∀i,i<j->GoodM ths made i) (λv _ _=>made.length - (intOf v).toNat)
       case atStart=>exact⟨0,Nat.zero_le _,rfl,rfl,rfl,λi hi=>by omega⟩
       case round=>
        obtain⟨j,hj,rfl,rfl,rfl,w4⟩:=hrel;have y5:=zlu (k:=k) w4 (by have:=e7.out;omega);have G1:=zaa w4;by_cases hlt:j<made.length
        .obtain⟨b,o,rfl,f0,G2,j6⟩:=HM.out.at_ (λh=>by rw[h]at hlt;simp at hlt);have hF:=d9.out.trans n8.out;have e9:b<W.heap.size:=by have:=s7.out;have:=p5.out;omega
         have A0:b<wr.heap.size:=Nat.lt_of_lt_of_le e9 hF.size;have j4:made[j]? =some made[j]:=List.getElem?_eq_getElem hlt;have hx:wr.cell? ⟨b,o+j,none⟩=some (.int .i64 made[j]):=(hF.cell e9 λh=>h).trans (j6 j _ j4);have L2:j<k:=by have:=e7.out;omega
         have hr:wr.cell? ⟨g,j,none⟩=some (.int .i64 (zby ths j)):=by
          have:=r9.out.cell j;simpa[za2,L2]using this
         have N3:(j:Int)<(k:Int):=o_;have y2:=zcu ths j;have h8:=zaa j4;have k7:=zaa hlt;have k4:=zaa hF;have K8:=zaa y2;generalize F2:zby ths j=hc at*;have E7:=zaa F2;have I9:(made.take (j+1)).sum=(made.take j).sum+made[j]:=by rw[List.take_add_one,j4,List.sum_append];simp;rfl
         generalize made[j]=n at*;have N0:=zaa I9;generalize (made.take j).sum=sm at*;clear j6 hF e9 j4 y2 F2 I9;by_cases m2:n<hc
         .have o1:decide (n<hc)=true:=by simpa using m2
          have C1:=zaa m2;clear m2;go_wp2_with fail;go_ret2;refine .inl ⟨λh=>?_,rfl,k4.out⟩;have h1:=(h.mades j _ h8.out).1;rw[E7.out]at h1;have:=C1.out;omega
         have o1:decide (n<hc)=false:=by simpa using m2
         have C1:=zaa m2;by_cases g9:512<n
         .have v1:decide (n > 512)=true:=by simpa using g9
          have B7:=zaa g9;clear m2 g9;go_wp2_with fail;go_ret2;refine .inl ⟨λh=>?_,rfl,k4.out⟩;have h1:=(h.mades j _ h8.out).2;have:=B7.out;omega
         have v1:decide (n > 512)=false:=by simpa using g9
         have B7:=zaa g9;have g2:=j9.out;have N5:IntKind.i64.wrap (sm+n)=sm+n:=by
          have:=K8.out;exact IntWalk.i64_in _ o_
         clear m2 g9;go_wp2_with fail;go_roundw
         case rel=>
          refine⟨j+1,k7.out,by go_num,by rw[N0.out],trivial,λi hi=>?_⟩;by_cases v3:i=j
          .subst v3;intro n2 g9;rw[h8.out]at g9;injection g9 with g9
           subst g9;rw[E7.out];have:=C1.out;have:=B7.out;omega
          .exact G1.out i o_
         case measure=>
          have:=k7.out;simp[intOf]<;>omega
        .obtain rfl:made.length=j:=o_;rw[List.take_length]at y5 ⊢;have f9:∀i,GoodM ths made i:=λi=>by
          by_cases hi:i<made.length
          .exact w4 i hi
          .intro n hn;rw[List.getElem?_eq_none o_]at hn;cases hn
         have L7:=zaa f9;clear f9 w4 hlt hj G1 h4 K7 N7;obtain⟨sm,o7⟩:∃sm,made.sum=sm:=⟨_,rfl⟩;obtain⟨sp,v0⟩:∃sp,(Gm.ofT ths).spare=sp:=⟨_,rfl⟩;have H5:FromOk ps cuts ths last made↔(0<=last/\last<=64*sm)/\m.Snd/\last+sp<=64*sm:=by
          constructor
          .intro h;exact⟨by rw[<-o7];exact h.lasts,h.snd.sim r0.out.symm,by rw[<-o7,<-v0];exact h.spare⟩
          .rintro⟨h1,h2,h3⟩;exact⟨B8.out,by rw[e7.out,HK.out],λi=>by rw[e7.out];exact j0.out i,λi=>by rw[e7.out];exact l3.out i,L7.out,by rw[o7];exact h1,h2.sim r0.out,by rw[o7,v0];exact h3⟩
         have i0:=(Gm.ofT ths).spare_bound;rw[v0]at i0;have s8:(Gm.ofT ths).th.length=ths.length:=by simp[Gm.ofT]
         rw[s8]at i0;have K4:=y1.out;rw[o7]at y5 ⊢;have g2:=j9.out;have J2:IntKind.i64.wrap (64*sm)=64*sm:=IntWalk.i64_in _ o_;have r5:=d9.out.trans n8.out;have k4:=zaa r5;have q1:=zaa H5;have N4:=zaa y5;have z9:=zaa i0;have m8:=f5.out;have l8:=λW' (f:Fr No wr W')=>zuw (m8.no f) l5.out.2.2.2.2.1 λx hx=>by
          have H6:plE x∈m.pl:=List.mem_map.2 ⟨x,hx,rfl⟩;rw[r0.out,zhy]at H6;obtain⟨y,hy,e⟩:=List.mem_map.1 H6;obtain⟨i,hi⟩:=List.mem_iff_getElem?.1 hy;have hf:=(l3.out i y hi).1;have e2:y.2.pl=x.2.2.pl:=congrArg Prod.snd e;have l1:=congrArg (λz:TgV=>z.vs.length) e2;have l2:=congrArg (λz:TgV=>z.names.length) e2;simp only[Tg.pl,List.length_map]at l1 l2;exact⟨by rw[<-l1];exact hf.vsmay.2.1,by rw[<-l2];exact hf.vsmay.2.2⟩
         have r2:∀W',Fr No wr W'->Calls Tryz.prog 182 #[.pointer (some ⟨m0.wb,0,none⟩)] W' (zoh m W0.heap.size W'):=λW' f=>by
          have:=l8 W' f;rw[l5.out.1]at this;exact this
         have y3:=zaa r2;have s9:m.Snd->∀F W',(m.wf F).Ok W0.heap.size W'->Calls Tryz.prog 183 #[.pointer (some ⟨m0.wb,0,none⟩)] W' λe w'=>e= .returned (.int .i64 sp)/\Fr No W' w':=λhs F W' p3=>by
          have:=zux p3 λx hx=>by
           obtain⟨n,hn⟩:=hs.hgt x hx;obtain⟨a,ha⟩:=hn.abl λr y hy=>((m8.st _ (Gm.get_mem hy)).inn.fit.set).1;exact⟨a,ha.wf⟩
          have e1:(m.wf F).spare=sp:=by rw[<-v0];exact Gm.sim_spare r0.out
          rw[e1]at this;have e2:(m.wf F).wb=m0.wb:=l5.out.1;rw[e2]at this;exact this
         have n6:=zaa s9;clear H5 y5 i0 s8 K4 g2 r5 m8 l8 r2 s9 o7 v0;go_upto_region 31 with(fail);go_cut [155]from 131 to 155 (λt wx=>(t= .bool true/\¬FromOk ps cuts ths last made/\Fr No W wx)\/(t= .bool false/\FromOk ps cuts ths last made/\∃F,(m.wf F).Ok W0.heap.size wx/\FacI m (λi=>∃x,m.th[i]? =some x) F/\Fr No W0 wx))
         case first=>as_aux_lemma=>
          have g3:∀q:ClN wr,q.w.cell? ⟨bx,3,none⟩=some (.int .i64 last):=λq=>(q.fr.cell l9 λh=>h).trans h3;have gq:∀q:ClN wr,bx<q.w.heap.size:=λq=>Nat.lt_of_lt_of_le l9 q.fr.size;have b9:Nonempty (ClN wr):=⟨⟨wr,Fr.refl No wr⟩⟩;by_cases p6:last<0
          .have o1:decide (last<0)=true:=by simpa using p6
           have o0:=zaa p6;clear p6 h3;refine zab (λW'=>∃q:ClN wr,W'=q.w) k_ k_ ⟨⟨_,(Fr.refl No wr).drew⟩,rfl⟩ ?_;repeat(go_big_quiet_step (fail))
           refine wpQuiet_nil ?_;rintro w2 ⟨⟨_,f2⟩,rfl⟩;clear b9 g3 gq;go_wp2_with fail;go_meet
           case rel=>exact .inl ⟨rfl,λh=>by have:=(q1.out.1 h).1;have:=o0.out;omega,k4.out.trans f2⟩
          have o1:decide (last<0)=false:=by simpa using p6
          have o0:=zaa p6;clear p6;by_cases p2:64*sm<last
          .have v1:decide (last > 64*sm)=true:=by simpa using p2
           have v8:=zaa p2;clear p2 h3;refine zab (λW'=>∃q:ClN wr,W'=q.w) k_ k_ ⟨⟨_,(Fr.refl No wr).drew⟩,rfl⟩ ?_;repeat(go_big_quiet_step (fail))
           refine wpQuiet_nil ?_;rintro w2 ⟨⟨_,f2⟩,rfl⟩;clear b9 g3 gq;go_wp2_with fail;go_meet
           case rel=>exact .inl ⟨rfl,λh=>by have:=(q1.out.1 h).1;have:=v8.out;omega,k4.out.trans f2⟩
          have v1:decide (last > 64*sm)=false:=by simpa using p2
          have v8:=zaa p2;clear p2 g3 gq b9;by_cases o2:m.Snd
          .have l8:∀W',Fr No wr W'->Calls Tryz.prog 182 #[.pointer (some ⟨m0.wb,0,none⟩)] W' λe w'=>e= .returned (.bool true)/\∃F,(m.wf F).Ok W0.heap.size w'/\FacI m (λi=>∃x,m.th[i]? =some x) F/\Fr (λi=>i=m.F) W' w':=λW' f=>by
            refine(y3.out W' f).mono ?_;rintro e w' (⟨-,hn,-⟩|⟨rfl,-,F,a,b,c⟩)
            .exact absurd o2 hn
            .exact⟨rfl,F,a,b,c⟩
           have m5:=zaa l8;have B9:=zaa (n6.out o2);have B4:=zaa o2;have q9:bx≠m.F:=by have:=(f5.out.lt m.F (.inr (.inr (.inl rfl)))).1;have:=HE.out.2.2.2.2;omega
           have y9:=zaa q9;have O2:IntKind.i64.wrap (last+sp)=last+sp:=by
            have:=N4.out;have:=z9.out;have:=o0.out;have:=v8.out;have:=j9.out;have:=y1.out;exact IntWalk.i64_in _ o_
           have z0:=zaa h3;have l0:=zaa l9;clear l8 o2 q9 y3 n6;obtain⟨bd,L8⟩:∃bd,decide (last+sp > 64*sm)=bd:=⟨_,rfl⟩;have H4:=zaa L8;refine wp_region_held_drew (S:=λw'=>w'.cell? ⟨bx,3,none⟩=some (.int .i64 last)/\bx<w'.heap.size) k_ ?_ (λhHeld=>?_)
           .exact⟨h3,l9⟩
           refine t_ 0 ?_;try simp only[Act.put,lp_]
           refine t_ 1 ?_;try simp only[Act.put,lp_]
           refine t_ 2 ?_;try simp only[Act.put,lp_]
           refine t_ 3 ?_;try simp only[Act.put,lp_]
           refine t_ 4 ?_;try simp only[Act.put,lp_]
           refine t_ 5 ?_;try simp only[Act.put,lp_]
           refine t_ 6 ?_;try simp only[Act.put,lp_]
           refine t_ 7 ?_;try simp only[Act.put,lp_]
           refine t_ 8 ?_;try simp only[Act.put,lp_]
           refine t_ 9 ?_;try simp only[Act.put,lp_]
           refine t_ 10 ?_;try simp only[Act.put,lp_]
           refine t_ 11 ?_;try simp only[Act.put,lp_]
           refine wpAnyH_ready (rs:=[12]) k_ s_ ?_;refine AllReadyH.cons rfl (λK hK=>?_) AllReadyH.nil
           .go_simp;(go_at_call 182;(refine(m5.out _ (Fr.refl No wr).drew).mono ?_);rintro e w6 ⟨rfl,FF,d6,l6,f6⟩)
            have h6:=zaa ((Fr.refl (λi=>i=m.F) wr).drew.trans f6);have i9:=zaa d6;have j3:=zaa l6;clear d6 l6 f6;try go_simp
            refine hK.out _ _ ?_ (λhHeld2=>?_)
            .exact⟨(h6.out.cell l0.out y9.out).trans z0.out,Nat.lt_of_lt_of_le l0.out h6.out.size⟩
            clear hK K hHeld;have hHeld:=hHeld2;clear hHeld2;try simp only[Act.put,lp_]
            refine t_ 13 ?_;try simp only[Act.put,lp_]
            refine t_ 14 ?_;try simp only[Act.put,lp_]
            refine t_ 15 ?_;try simp only[Act.put,lp_]
            refine t_ 16 ?_;try simp only[Act.put,lp_]
            refine t_ 17 ?_;try simp only[Act.put,lp_]
            refine t_ 18 ?_;try simp only[Act.put,lp_]
            refine t_ 21 ?_;try simp only[Act.put,lp_]
            refine t_ 22 ?_;try simp only[Act.put,lp_]
            refine wpAnyH_ready (rs:=[19]) k_ s_ ?_;refine AllReadyH.cons rfl (λK hK=>?_) AllReadyH.nil
            .go_simp;(go_at_call 183;(refine(B9.out FF _ i9.out).mono ?_);rintro e w7 ⟨rfl,f7⟩)
             have q4:=zaa f7;clear f7;try go_simp
             refine hK.out _ _ ?_ (λhHeld2=>?_)
             .exact⟨(q4.out.cell (Nat.lt_of_lt_of_le l0.out h6.out.size) λh=>h).trans ((h6.out.cell l0.out y9.out).trans z0.out),Nat.lt_of_lt_of_le (Nat.lt_of_lt_of_le l0.out h6.out.size) q4.out.size⟩
             clear hK K hHeld;have hHeld:=hHeld2;clear hHeld2;try simp only[Act.put,lp_]
             refine t_ 20 ?_;try simp only[Act.put,lp_]
             refine t_ 23 ?_;try simp only[Act.put,lp_]
             refine t_ 24 ?_;try simp only[Act.put,lp_]
             refine wpAnyH_done k_ ?_ _;have f4:Fr No W0 w6:=n8.out.trans' h6.out λi hi e=>by
              have e':i=m.F:=e;have:=(f5.out.lt m.F (.inr (.inr (.inl rfl)))).1;omega
             have i5:=zaa f4;clear hHeld f4;cases bd
             .go_wp2_with fail;go_meet
              case rel=>
               have O5:¬last+sp > 64*sm:=by have:=H4.out;simpa using this
               exact .inr ⟨rfl,q1.out.2 ⟨by have:=o0.out;have:=v8.out;omega,B4.out,by omega⟩,FF,i9.out.no q4.out,j3.out,i5.out.trans q4.out⟩
             .go_wp2_with fail;go_meet
              case rel=>
               have j4:last+sp > 64*sm:=by have:=H4.out;simpa using this
               exact .inl ⟨rfl,λh=>by have:=(q1.out.1 h).2.2;omega,d9.out.trans (i5.out.trans q4.out)⟩
          .have l8:∀W',Fr No wr W'->Calls Tryz.prog 182 #[.pointer (some ⟨m0.wb,0,none⟩)] W' λe w'=>e= .returned (.bool false)/\Fr (λi=>i=m.F) W' w':=λW' f=>by
            refine(y3.out W' f).mono ?_;rintro e w' (⟨rfl,-,c⟩|⟨-,hn,-⟩)
            .exact⟨rfl,c⟩
            .exact absurd hn o2
           have m5:=zaa l8;have B4:=zaa o2;have q9:bx≠m.F:=by have:=(f5.out.lt m.F (.inr (.inr (.inl rfl)))).1;have:=HE.out.2.2.2.2;omega
           have y9:=zaa q9;clear l8 o2 y3 n6 q9;have z0:=zaa h3;have l0:=zaa l9;refine wp_region_held_drew (S:=λw'=>w'.cell? ⟨bx,3,none⟩=some (.int .i64 last)/\bx<w'.heap.size) k_ ?_ (λhHeld=>?_)
           .exact⟨h3,l9⟩
           refine t_ 0 ?_;try simp only[Act.put,lp_]
           refine t_ 1 ?_;try simp only[Act.put,lp_]
           refine t_ 2 ?_;try simp only[Act.put,lp_]
           refine t_ 3 ?_;try simp only[Act.put,lp_]
           refine t_ 4 ?_;try simp only[Act.put,lp_]
           refine t_ 5 ?_;try simp only[Act.put,lp_]
           refine t_ 6 ?_;try simp only[Act.put,lp_]
           refine t_ 7 ?_;try simp only[Act.put,lp_]
           refine t_ 8 ?_;try simp only[Act.put,lp_]
           refine t_ 9 ?_;try simp only[Act.put,lp_]
           refine t_ 10 ?_;try simp only[Act.put,lp_]
           refine t_ 11 ?_;try simp only[Act.put,lp_]
           refine wpAnyH_ready (rs:=[12]) k_ s_ ?_;refine AllReadyH.cons rfl (λK hK=>?_) AllReadyH.nil
           .go_simp;(go_at_call 182;(refine(m5.out _ (Fr.refl No wr).drew).mono ?_);rintro e w6 ⟨rfl,f6⟩)
            have h6:=zaa ((Fr.refl (λi=>i=m.F) wr).drew.trans f6);clear f6;try go_simp
            refine hK.out _ _ ?_ (λhHeld2=>?_)
            .exact⟨(h6.out.cell l0.out y9.out).trans z0.out,Nat.lt_of_lt_of_le l0.out h6.out.size⟩
            clear hK K hHeld;have hHeld:=hHeld2;clear hHeld2;try simp only[Act.put,lp_]
            refine t_ 13 ?_;try simp only[Act.put,lp_]
            refine t_ 14 ?_;try simp only[Act.put,lp_]
            refine t_ 15 ?_;try simp only[Act.put,lp_]
            refine wpAnyH_take (i:=16) (v:=undef) q_ k_ k_ k_ i_ (Or.inr ⟨by rfl,rfl⟩) a_ ?_;try simp only[Act.put,lp_]
            refine wpAnyH_take (i:=17) (v:=undef) q_ k_ k_ k_ i_ (Or.inr ⟨by rfl,rfl⟩) a_ ?_;try simp only[Act.put,lp_]
            refine wpAnyH_take (i:=18) (v:=undef) q_ k_ k_ k_ i_ (Or.inr ⟨by rfl,rfl⟩) a_ ?_;try simp only[Act.put,lp_]
            refine wpAnyH_take (i:=19) (v:=undef) q_ k_ k_ k_ i_ (Or.inr ⟨by rfl,rfl⟩) a_ ?_;try simp only[Act.put,lp_]
            refine wpAnyH_take (i:=20) (v:=undef) q_ k_ k_ k_ i_ (Or.inr ⟨by rfl,rfl⟩) a_ ?_;try simp only[Act.put,lp_]
            refine wpAnyH_take (i:=21) (v:=undef) q_ k_ k_ k_ i_ (Or.inr ⟨by rfl,rfl⟩) a_ ?_;try simp only[Act.put,lp_]
            refine wpAnyH_take (i:=22) (v:=undef) q_ k_ k_ k_ i_ (Or.inr ⟨by rfl,rfl⟩) a_ ?_;try simp only[Act.put,lp_]
            refine wpAnyH_take (i:=23) (v:=undef) q_ k_ k_ k_ i_ (Or.inr ⟨by rfl,rfl⟩) a_ ?_;try simp only[Act.put,lp_]
            refine t_ 24 ?_;try simp only[Act.put,lp_]
            refine wpAnyH_done k_ ?_ _;have f4:Fr No W0 w6:=n8.out.trans' h6.out λi hi e=>by
             have e':i=m.F:=e;have:=(f5.out.lt m.F (.inr (.inr (.inl rfl)))).1;omega
            have i5:=zaa f4;clear hHeld f4;go_wp2_with fail;go_meet
            case rel=>exact .inl ⟨rfl,λh=>B4.out (q1.out.1 h).2.1,d9.out.trans i5.out⟩
         rcases hcut with⟨rfl,hn,hf⟩|⟨rfl,q2,F,d6,g8,hf⟩
         .have HN:=zaa hn;have HF:=zaa hf;clear hn hf h3 l9;go_wp2_with fail;go_ret2;exact .inl ⟨HN.out,rfl,HF.out⟩
         .have C0:=zaa q2;have i9:=zaa d6;have j3:=zaa g8;have D0:=zaa hf;have l7:Hid ((m.wf F).wb=m0.wb):=zaa l5.out.1;have h3:=(hf.cell HE.out.2.2.2.2 λh=>h).trans HE.out.2.2.1;have h4:=(hf.cell HE.out.2.2.2.2 λh=>h).trans HE.out.2.2.2.1;have h9:=Nat.lt_of_lt_of_le HE.out.2.2.2.2 hf.size;have p9:W0.heap.size<=m0.wb:=by
           have:=d6.lo0.1;rwa [l7.out]at this
          have H1:bx≠m0.wb:=by have:=HE.out.2.2.2.2;omega
          have o8:=zaa H1;have r3:=zaa p9;have L3:Hid (m0.wb<wc.heap.size):=zaa (by
           have:=d6.blk.lt;rwa [l7.out]at this)
          have K3:=zaa (Nat.le_refl wc.heap.size);have M9:=zaa hf.size;have D9:Blk wc.drew m0.wb 38 #[.slice m.P m.par.length m.pc,.slice m.C m.cut.length m.cc,.map (some m.M),.map (some m.F),.int .i64 m.last,.slice m.D m.made.length m.dc]:=by
           have:=d6.blk.drew;rw[l7.out]at this;exact this
          have HK:=zaa D9;have r5:=d9.out.trans hf;have K6:Hid (∀W',Fr (λi=>i=m0.wb) wc W'->Calls Tryz.prog 149 #[.slice MA made.length mc] W' (zfz 3 1 made.length (made.map λ(n:Int)=>Value.int .i64 n) W')):=zaa λW' f=>by
           have D8:hi<=W.heap.size:=by have:=s7.out;have:=p5.out;omega
           have G0:Fr (λi=>i=m0.wb) W W':=r5.no.trans f;have L5:Ints W' lo hi MA mc made:=HM.out.fr G0 D8 λi h0 h1 e=>by
            have e':i=m0.wb:=e;have:=r3.out;have:=d9.out.size;omega
           exact zra MA made.length mc _ W' lo hi (zek L5) (Nat.le_trans D8 G0.size) (by have:=I1.out;omega)
          clear q2 d6 g8 hf p9 H1 D9 r5 l9;go_upto_region 33 with(fail);refine wp_region_held_drew (S:=λw'=>w'.cell? ⟨bx,3,none⟩=some (.int .i64 last)/\w'.cell? ⟨bx,4,none⟩=some (.slice MA made.length mc)/\bx<w'.heap.size/\Fr (λi=>i=m0.wb) wc w') k_ ?_ (λhHeld=>?_)
          .exact⟨h3,h4,h9,(Fr.refl (λi=>i=m0.wb) wc).drew⟩
          refine t_ 0 ?_;try simp only[Act.put,lp_]
          refine t_ 1 ?_;try simp only[Act.put,lp_]
          refine t_ 2 ?_;try simp only[Act.put,lp_]
          refine t_ 3 ?_;try simp only[Act.put,lp_]
          refine t_ 4 ?_;try simp only[Act.put,lp_]
          refine t_ 5 ?_;try simp only[Act.put,lp_]
          refine wpAnyH_ready (rs:=[6]) k_ s_ ?_;refine AllReadyH.cons rfl (λK hK=>?_) AllReadyH.nil
          .go_simp;(go_at_call 149;(refine(K6.out _ hHeld.2.2.2).mono ?_);rintro e w8 ⟨A8,c8,rfl,C7,f8⟩)
           have q6:Fr (λi=>i=m0.wb) wc w8:=hHeld.2.2.2.trans f8.no;have J0:=zaa (zbc C7 (Nat.le_trans M9.out hHeld.2.2.2.size));have m4:Hid (Blk w8 m0.wb 38 #[.slice m.P m.par.length m.pc,.slice m.C m.cut.length m.cc,.map (some m.M),.map (some m.F),.int .i64 m.last,.slice m.D m.made.length m.dc]):=zaa (HK.out.fr f8 λh=>h);have L9:=zaa (λg (hg:(Value.slice A8 made.length c8).ownBlock=some g)=>(zaj C7 g hg).1);have J9:=zaa hHeld.2.2.2.size;have v9:=zaa q6;clear C7 f8 q6;try go_simp
           refine hK.out _ _ ?_ (λhHeld2=>?_)
           .exact⟨(v9.out.cell h9 o8.out).trans h3,(v9.out.cell h9 o8.out).trans h4,Nat.lt_of_lt_of_le h9 v9.out.size,v9.out⟩
           clear hK K hHeld;have hHeld:=hHeld2;clear hHeld2;try simp only[Act.put,lp_]
           refine t_ 7 ?_;try simp only[Act.put,lp_]
           refine t_ 8 ?_;try simp only[Act.put,lp_]
           refine wpAnyH_ready (rs:=[9]) k_ s_ ?_;refine AllReadyH.cons rfl (λK hK=>?_) AllReadyH.nil
           .go_simp;have s0:w8.cell? ⟨m0.wb,4,none⟩=some (.int .i64 m.last):=m4.out.cell 4;have s1:=m4.out.frozen 4;have s2:=m4.out.lt;go_simp;have m9:=m4.out.set_ 4 (.int .i64 last);simp only[List.setIfInBounds_toArray,List.set_cons_zero,List.set_cons_succ]at m9;have k2:Hid (Blk (w8.setCell ⟨m0.wb,4,none⟩ (.int .i64 last)) m0.wb 38 #[.slice m.P m.par.length m.pc,.slice m.C m.cut.length m.cc,.map (some m.M),.map (some m.F),.int .i64 last,.slice m.D m.made.length m.dc]):=zaa m9;have k5:Hid (Fr (λi=>i=m0.wb) wc (w8.setCell ⟨m0.wb,4,none⟩ (.int .i64 last))):=zaa ((hHeld.2.2.2).set (λ_=>rfl) _);clear s0 s1 s2 m9;refine hK.out _ _ ?_ (λhHeld2=>?_)
            .exact⟨(k5.out.cell h9 o8.out).trans h3,(k5.out.cell h9 o8.out).trans h4,Nat.lt_of_lt_of_le h9 k5.out.size,k5.out⟩
            clear hK K hHeld;have hHeld:=hHeld2;clear hHeld2;try simp only[Act.put,lp_]
            refine t_ 10 ?_;try simp only[Act.put,lp_]
            refine t_ 11 ?_;try simp only[Act.put,lp_]
            refine wpAnyH_ready (rs:=[12]) k_ s_ ?_;refine AllReadyH.cons rfl (λK hK=>?_) AllReadyH.nil
            .go_simp;have s0:(w8.setCell ⟨m0.wb,4,none⟩ (.int .i64 last)).cell? ⟨m0.wb,5,none⟩=some (.slice m.D m.made.length m.dc):=k2.out.cell 5;have s1:=k2.out.frozen 5;have s2:=k2.out.lt;have s3:w8.cell? ⟨m0.wb,5,none⟩=some (.slice m.D m.made.length m.dc):=m4.out.cell 5;have s4:=m4.out.frozen 5;have s5:=m4.out.lt;go_simp;have m9:=k2.out.set_ 5 (.slice A8 made.length c8);simp only[List.setIfInBounds_toArray,List.set_cons_zero,List.set_cons_succ]at m9;have n5:Hid (Blk ((w8.setCell ⟨m0.wb,4,none⟩ (.int .i64 last)).setCell ⟨m0.wb,5,none⟩ (.slice A8 made.length c8)) m0.wb 38 #[.slice m.P m.par.length m.pc,.slice m.C m.cut.length m.cc,.map (some m.M),.map (some m.F),.int .i64 last,.slice A8 made.length c8]):=zaa m9;have b8:Hid (Fr (λi=>i=m0.wb) wc ((w8.setCell ⟨m0.wb,4,none⟩ (.int .i64 last)).setCell ⟨m0.wb,5,none⟩ (.slice A8 made.length c8))):=zaa ((hHeld.2.2.2).set (λ_=>rfl) _);clear s0 s1 s2 m9 s3 s4 s5;refine hK.out _ _ ?_ (λhHeld2=>?_)
             .exact⟨(b8.out.cell h9 o8.out).trans h3,(b8.out.cell h9 o8.out).trans h4,Nat.lt_of_lt_of_le h9 b8.out.size,b8.out⟩
             clear hK K hHeld;have hHeld:=hHeld2;clear hHeld2;try simp only[Act.put,lp_]
             refine wpAnyH_done k_ ?_ _;have q7:(((w8.setCell ⟨m0.wb,4,none⟩ (.int .i64 last)).setCell ⟨m0.wb,5,none⟩ (.slice A8 made.length c8))).ownsRow W0.heap.size 3 1 (.slice A8 made.length c8) made.length (made.map λ(n:Int)=>Value.int .i64 n):=by
              have hx:Fr (λi=>i=m0.wb) w8 (((w8.setCell ⟨m0.wb,4,none⟩ (.int .i64 last)).setCell ⟨m0.wb,5,none⟩ (.slice A8 made.length c8))):=by
               exact((Fr.refl (λi=>i=m0.wb) w8).set (λ_=>rfl) _).set (λ_=>rfl) _
              refine zaf J0.out hx λg hg h=>?_;have h':g=m0.wb:=h;have:=L9.out g hg;have:=J9.out;have:=L3.out;have:=K3.out;omega
             have v4:=zu0 (la:=last) (D:=A8) (dc:=c8) (made:=made) i9.out (W2:=((w8.setCell ⟨m0.wb,4,none⟩ (.int .i64 last)).setCell ⟨m0.wb,5,none⟩ (.slice A8 made.length c8))) (by rw[l7.out];exact b8.out) q7 (by show made.length=m.made.length;rw[l5.out.2.2.2.1,e7.out];simp) (by rw[l7.out];exact n5.out);have C4:=zaa v4;have z3:=zaa (b8.out);clear hHeld q7 v4;go_wp2_with fail;go_ret2;refine .inr ⟨C0.out,{m.wf F with last:=last,D:=A8,dc:=c8,made:=made},?_,C4.out.less (by have:=d9.out.size;have:=p5.out;omega),⟨r0.out,⟨j3.out.mem,j3.out.nod⟩,l5.out.2.1,?_,rfl,rfl⟩,?_⟩
             .show _=Ending.returned (.tuple #[.pointer (some ⟨m.wb,0,none⟩),.int .i64 0]);rw[l5.out.1];rfl
             .show m.cut=_;rw[l5.out.2.2.1,e7.out]
             .refine d9.out.trans (D0.out.trans' z3.out λi hi e=>?_);have e':i=m0.wb:=e;have:=r3.out;omega
  .have hd:((made.length:Int)!=(k:Int))=true:=so_;have e7:=zaa k6;clear k6;go_upto_region 2 with(fail);refine zab (λW'=>∃q:ClN w1,W'=q.w) k_ k_ ⟨⟨_,(Fr.refl No w1).drew⟩,rfl⟩ ?_;repeat(go_big_quiet_step ((go_at_call 84;exact HS.out _)))
   refine wpQuiet_nil ?_;rintro w2 ⟨⟨_,f2⟩,rfl⟩;clear b9 g4 gq HS;go_wp2_with fail;go_ret2;exact .inl ⟨λh=>e7.out (by rw[h.sides,HK.out]),rfl,d9.out.trans (s6.out.trans f2)⟩
end Go.Proofs.YtlejelbefmkakaaGreat

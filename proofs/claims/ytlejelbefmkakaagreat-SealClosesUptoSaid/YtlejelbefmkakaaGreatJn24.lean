/- Texts joined: Gk3. -/
import Derived.Test.YtlejelbefmkakaaGreatJn1
import Derived.Test.YtlejelbefmkakaaGreatJn2
import Derived.Test.YtlejelbefmkakaaGreatJn23
import Derived.Deep.Cut
import Derived.Deep.CutRange
import Derived.Deep.CutBlock
set_option maxHeartbeats 16000000
set_option maxRecDepth 100000
namespace Go.Proofs.YtlejelbefmkakaaGreat
open Go.RowKit
def zul (sides:Nat) (x:Tg) (w:World) (e:Ending) (w':World):Prop:=∃q:Bool,e= .returned (.bool q)/\(q=true↔x.Form sides)/\Fr No w w'
theorem zum {m:Gm} {lo0:Nat} {W:World} (h:m.Ok lo0 W) (x:Tg) (lo hi:Nat) (hx:x.In W lo hi) (hh:hi<=W.heap.size):
 Calls Tryz.prog 154 #[.pointer (some ⟨m.wb,0,none⟩),x.val] W (zul m.made.length x W):=by
 obtain⟨bx,e6⟩:∃b,x.bar=b:=⟨_,rfl⟩;have l6:x.Form m.made.length↔(¬x.Bad1 bx/\¬x.Bad2 bx/\¬x.Bad3 m.made.length/\¬x.Bad4/\¬x.Bad5/\x.Last):=by unfold Tg.Form;rw[e6]
 obtain⟨Q0,p1⟩:∃Q0,zul m.made.length x W=Q0:=⟨_,rfl⟩;have i3:=hx.fit;have q2:=λW' (f:Fr No W W') (s:Int)=>zub (h.no f) s;have q0:=λ(t:T) W'=>zi1 t W';have o0:=λW' (f:Fr No W W')=>zca x.v W' lo hi (hx.v.no f hh) (Nat.le_trans hh f.size);have p9:=λ(y:Nm) (hy:y∈x.names) W' (f:Fr No W W')=>zca y.2 W' lo hi ((hx.names.inn y hy).2.no f hh) (Nat.le_trans hh f.size);have q9:=λW' (f:Fr No W W')=>zo6 x.VA x.vc x.vs W' lo hi (hx.vs.no f hh) (Nat.le_trans hh f.size);obtain⟨kind,home,⟨k,n,s,A,cap,l,r⟩,VA,vc,vs,n1,lost,ofr,byr,set,full,CA,cc,a1,NA,nc,a0⟩:=x;have o3:=zoa kind home k n s A cap l r VA vc vs n1 lost ofr byr set full CA cc a1 NA nc a0;rw[e6]at o3;have i9:=λW'=>zrg kind home k n s A l.length cap r VA vs.length vc n1 lost ofr byr set full CA a1.length cc NA a0.length nc W';rw[<-o3]at i9;obtain⟨c7,c0,⟨qk,qn,qs,qA,e5,ql,qr⟩,i7,j0,i2,i1,a6,e0,c8,c9,a8,i4,i6,a7,i8,i5,a3⟩:=bx;have m0:(Tg.val ⟨kind,home,T.mk k n s A cap l r,VA,vc,vs,n1,lost,ofr,byr,set,full,CA,cc,a1,NA,nc,a0⟩)= .agg #[.int .u8 kind,.int .i64 home,.int .u8 k,.int .i64 n,.string s,.slice A l.length cap,.int .i64 r,.slice VA vs.length vc,.int .i64 n1,.int .i64 lost,.int .i64 ofr,.int .i64 byr,.int .u8 set,.bool full,.slice CA a1.length cc,.slice NA a0.length nc]:=rfl;rw[m0,p1];have l7:=Blk.new W 138 #[.int .u8 kind,.int .i64 home,.int .u8 k,.int .i64 n,.string s,.slice A l.length cap,.int .i64 r,.slice VA vs.length vc,.int .i64 n1,.int .i64 lost,.int .i64 ofr,.int .i64 byr,.int .u8 set,.bool full,.slice CA a1.length cc,.slice NA a0.length nc];have q7:=(Fr.refl No W).alloc (.cells #[.int .u8 kind,.int .i64 home,.int .u8 k,.int .i64 n,.string s,.slice A l.length cap,.int .i64 r,.slice VA vs.length vc,.int .i64 n1,.int .i64 lost,.int .i64 ofr,.int .i64 byr,.int .u8 set,.bool full,.slice CA a1.length cc,.slice NA a0.length nc] 138);rw[T.val_mk]at o0;have HQ:=zaa p1;have HX:=zaa hx;have v7:=zaa h;have c6:=zaa l6;have p2:=zaa q2;have k1:=zaa q0;have m5:=zaa o0;have m9:=zaa p9;have o5:=zaa q9;have j5:=zaa (show ∀W',Calls Tryz.prog 207 #[.agg #[.int .u8 kind,.int .i64 home,.int .u8 k,.int .i64 n,.string s,.slice A l.length cap,.int .i64 r,.slice VA vs.length vc,.int .i64 n1,.int .i64 lost,.int .i64 ofr,.int .i64 byr,.int .u8 set,.bool full,.slice CA a1.length cc,.slice NA a0.length nc]] W' λe w'=>e= .returned (.agg #[.int .u8 c7,.int .i64 c0,.int .u8 qk,.int .i64 qn,.string qs,.slice qA ql.length e5,.int .i64 qr,.slice i7 i2.length j0,.int .i64 i1,.int .i64 a6,.int .i64 e0,.int .i64 c8,.int .u8 c9,.bool a8,.slice i4 a7.length i6,.slice i8 a3.length i5])/\Fr No W' w' from i9);have n6:=zaa i3;have q6:=zaa l7;have q1:=zaa q7;obtain⟨i0,j3⟩:∃sd,m.made.length=sd:=⟨_,rfl⟩;rw[j3]at c6 p2 HQ;have s6:=zaa j3;obtain⟨d0,d1,d2,d3,d4,d5,d6,d7,d8,d9,f9,g0,g2,g1,f7,e7⟩:=l7.cells16;have dq:=l7.lt;clear e6 l6 q2 q0 o0 p9 q9 o3 i9 m0 p1 l7 q7 h hx i3 j3;go_enter Tryz.func154,Tryz.ntmps154;go_wp2_with fail;generalize World.alloc W _=W0 at*;refine(j5.out W0).mono ?_;rintro e w1 ⟨rfl,f1⟩;have fa:=f1.alloc (.cells #[.int .u8 c7,.int .i64 c0,.int .u8 qk,.int .i64 qn,.string qs,.slice qA ql.length e5,.int .i64 qr,.slice i7 i2.length j0,.int .i64 i1,.int .i64 a6,.int .i64 e0,.int .i64 c8,.int .u8 c9,.bool a8,.slice i4 a7.length i6,.slice i8 a3.length i5] 138);have bb:=Blk.new w1 138 #[.int .u8 c7,.int .i64 c0,.int .u8 qk,.int .i64 qn,.string qs,.slice qA ql.length e5,.int .i64 qr,.slice i7 i2.length j0,.int .i64 i1,.int .i64 a6,.int .i64 e0,.int .i64 c8,.int .u8 c9,.bool a8,.slice i4 a7.length i6,.slice i8 a3.length i5];have bx:=q6.out.fr fa λh=>h;have c5:=zaa (q1.out.trans fa);have a4:=zaa bx;have a5:=zaa bb;have v4:=zaa trivial;clear d0 d1 d2 d3 d4 d5 d6 d7 d8 d9 f9 g0 g2 g1 f7 e7 dq;obtain⟨d0,d1,d2,d3,d4,d5,d6,d7,d8,d9,f9,g0,g2,g1,f7,e7⟩:=bx.cells16;obtain⟨b0,b1,b2,b3,b4,b5,b6,b7,b8,b9,g6,g8,g4,h9,g9,g7⟩:=bb.cells16;have dq:=bx.lt;have bq:=bb.lt;clear f1 fa bx bb q6 q1 j5;go_upto_region 2 with(fail);generalize v0:w1.heap.size=gb at*;generalize World.alloc w1 _=w2 at*;go_cut [69]from 13 to 192 (λu wx=>(∃c:Bool,u= .bool c/\(c=true↔Tg.Bad1 ⟨kind,home,T.mk k n s A cap l r,VA,vc,vs,n1,lost,ofr,byr,set,full,CA,cc,a1,NA,nc,a0⟩ ⟨c7,c0,T.mk qk qn qs qA e5 ql qr,i7,j0,i2,i1,a6,e0,c8,c9,a8,i4,i6,a7,i8,i5,a3⟩))/\wx=w2)
 case first=>as_aux_lemma=>
  clear a4 a5 c5;by_cases h0:kind=0
  .have t0:(kind==0)=true:=by simp at h0 ⊢;first|exact h0|omega
   have HH:=zaa h0;clear h0;go_wp2_with fail;go_meet
   case rel=>exact⟨⟨true,rfl,⟨λ_=>.inl HH.out,λ_=>rfl⟩⟩,rfl⟩
  have f0:(kind==0)=false:=by simp at h0 ⊢;first|exact h0|omega
  have N0:=zaa h0;clear h0;by_cases h1:16<kind
  .have t1:decide (kind > 16)=true:=by simp at h1 ⊢;first|exact h1|omega
   have HH:=zaa h1;clear h1;go_wp2_with fail;go_meet
   case rel=>exact⟨⟨true,rfl,⟨λ_=>.inr (.inl HH.out),λ_=>rfl⟩⟩,rfl⟩
  have f1:decide (kind > 16)=false:=by simp at h1 ⊢;first|exact h1|omega
  have N1:=zaa h1;clear h1;by_cases h2:n1≠i1
  .have t2:(n1 !=i1)=true:=by simp at h2 ⊢;first|exact h2|omega
   have HH:=zaa h2;clear h2;go_wp2_with fail;go_meet
   case rel=>exact⟨⟨true,rfl,⟨λ_=>.inr (.inr (.inl HH.out)),λ_=>rfl⟩⟩,rfl⟩
  have f2:(n1 !=i1)=false:=by simp at h2 ⊢;first|exact h2|omega
  have N2:=zaa h2;clear h2;by_cases h3:lost≠a6
  .have t3:(lost !=a6)=true:=by simp at h3 ⊢;first|exact h3|omega
   have HH:=zaa h3;clear h3;go_wp2_with fail;go_meet
   case rel=>exact⟨⟨true,rfl,⟨λ_=>.inr (.inr (.inr (.inl HH.out))),λ_=>rfl⟩⟩,rfl⟩
  have f3:(lost !=a6)=false:=by simp at h3 ⊢;first|exact h3|omega
  have N3:=zaa h3;clear h3;by_cases h4:ofr≠e0
  .have t4:(ofr !=e0)=true:=by simp at h4 ⊢;first|exact h4|omega
   have HH:=zaa h4;clear h4;go_wp2_with fail;go_meet
   case rel=>exact⟨⟨true,rfl,⟨λ_=>.inr (.inr (.inr (.inr (.inl HH.out)))),λ_=>rfl⟩⟩,rfl⟩
  have f4:(ofr !=e0)=false:=by simp at h4 ⊢;first|exact h4|omega
  have N4:=zaa h4;clear h4;by_cases h5:byr≠c8
  .have t5:(byr !=c8)=true:=by simp at h5 ⊢;first|exact h5|omega
   have HH:=zaa h5;clear h5;go_wp2_with fail;go_meet
   case rel=>exact⟨⟨true,rfl,⟨λ_=>.inr (.inr (.inr (.inr (.inr (.inl HH.out))))),λ_=>rfl⟩⟩,rfl⟩
  have f5:(byr !=c8)=false:=by simp at h5 ⊢;first|exact h5|omega
  have N5:=zaa h5;clear h5;by_cases h6:set≠c9
  .have t6:(set !=c9)=true:=by simp at h6 ⊢;first|exact h6|omega
   have HH:=zaa h6;clear h6;go_wp2_with fail;go_meet
   case rel=>exact⟨⟨true,rfl,⟨λ_=>.inr (.inr (.inr (.inr (.inr (.inr (.inl HH.out)))))),λ_=>rfl⟩⟩,rfl⟩
  have f6:(set !=c9)=false:=by simp at h6 ⊢;first|exact h6|omega
  have N6:=zaa h6;clear h6;by_cases h7:full≠a8
  .have t7:(full !=a8)=true:=by simp at h7 ⊢;first|exact h7|omega
   have HH:=zaa h7;clear h7;go_wp2_with fail;go_meet
   case rel=>exact⟨⟨true,rfl,⟨λ_=>.inr (.inr (.inr (.inr (.inr (.inr (.inr (.inl HH.out))))))),λ_=>rfl⟩⟩,rfl⟩
  obtain rfl:a8=full:=by simpa[eq_comm]using h7
  have N7:=zaa h7;clear h7;by_cases h8:home≠c0
  .have t8:(home !=c0)=true:=by simp at h8 ⊢;first|exact h8|omega
   have HH:=zaa h8;clear h8;go_wp2_with fail;go_meet
   case rel=>exact⟨⟨true,rfl,⟨λ_=>.inr (.inr (.inr (.inr (.inr (.inr (.inr (.inr (HH.out)))))))),λ_=>rfl⟩⟩,rfl⟩
  have f8:(home !=c0)=false:=by simp at h8 ⊢;first|exact h8|omega
  have N8:=zaa h8;clear h8;go_wp2_with fail;go_meet
  case rel=>
   refine⟨⟨false,rfl,nofun,λh=>?_⟩,rfl⟩;rcases h with h|h|h|h|h|h|h|h|h
   .exact absurd h N0.out
   .exact absurd (show 16<kind from h) (by have:=N1.out;omega)
   .exact absurd h N2.out
   .exact absurd h N3.out
   .exact absurd h N4.out
   .exact absurd h N5.out
   .exact absurd h N6.out
   .exact absurd h N7.out
   .exact absurd h N8.out
 obtain⟨⟨c1,rfl,p6⟩,rfl⟩:=hcut;have p3:=zaa p6;clear p6;cases c1 with
 |true=>
  clear a4 a5;go_wp2;rw[<-HQ.out];exact⟨false,rfl,⟨nofun,λh=>absurd (p3.out.1 trivial) (c6.out.1 h).1⟩,c5.out⟩
 |false=>
 have l1:=zaa (λh=>Bool.noConfusion (p3.out.2 h):¬Tg.Bad1 ⟨kind,home,T.mk k n s A cap l r,VA,vc,vs,n1,lost,ofr,byr,set,full,CA,cc,a1,NA,nc,a0⟩ ⟨c7,c0,T.mk qk qn qs qA e5 ql qr,i7,j0,i2,i1,a6,e0,c8,c9,a8,i4,i6,a7,i8,i5,a3⟩);clear p3;go_upto_region 4 with(fail);obtain⟨z1,k6⟩:∃z,zb7 (T.mk k n s A cap l r).v=z:=⟨_,rfl⟩;obtain⟨z2,n0⟩:∃z,zb7 (T.mk qk qn qs qA e5 ql qr).v=z:=⟨_,rfl⟩;have k0:=k1.out (T.mk k n s A cap l r);have o1:=k1.out (T.mk qk qn qs qA e5 ql qr);rw[k6,T.val_mk]at k0;rw[n0,T.val_mk]at o1;have m3:=zaa k0;have r0:=zaa o1;have o9:=zaa k6;have p4:=zaa n0;clear k0 o1 k6 n0;go_cut [105]from 13 to 192 (λu wx=>(∃c:Bool,u= .bool c/\(c=true↔Tg.Bad2 ⟨kind,home,T.mk k n s A cap l r,VA,vc,vs,n1,lost,ofr,byr,set,full,CA,cc,a1,NA,nc,a0⟩ ⟨c7,c0,T.mk qk qn qs qA e5 ql qr,i7,j0,i2,i1,a6,e0,c8,c9,a8,i4,i6,a7,i8,i5,a3⟩))/\Blk wx W.heap.size 138 #[.int .u8 kind,.int .i64 home,.int .u8 k,.int .i64 n,.string s,.slice A l.length cap,.int .i64 r,.slice VA vs.length vc,.int .i64 n1,.int .i64 lost,.int .i64 ofr,.int .i64 byr,.int .u8 set,.bool full,.slice CA a1.length cc,.slice NA a0.length nc]/\Blk wx gb 138 #[.int .u8 c7,.int .i64 c0,.int .u8 qk,.int .i64 qn,.string qs,.slice qA ql.length e5,.int .i64 qr,.slice i7 i2.length j0,.int .i64 i1,.int .i64 a6,.int .i64 e0,.int .i64 c8,.int .u8 c9,.bool a8,.slice i4 a7.length i6,.slice i8 a3.length i5]/\Fr No W wx)
 case first=>as_aux_lemma=>
  by_cases h0:vs.length≠i2.length
  .have t0:((vs.length:Int)!=(i2.length:Int))=true:=so_;have HH:=zaa h0;clear h0;go_wp2_with fail;go_meet
   case rel=>exact⟨⟨true,rfl,⟨λ_=>.inl HH.out,λ_=>rfl⟩⟩,a4.out,a5.out,c5.out⟩
  have f0:((vs.length:Int)!=(i2.length:Int))=false:=so_;have N0:=zaa h0;clear h0;by_cases h1:a1.length≠a7.length
  .have t1:((a1.length:Int)!=(a7.length:Int))=true:=so_;have HH:=zaa h1;clear h1;go_wp2_with fail;go_meet
   case rel=>exact⟨⟨true,rfl,⟨λ_=>.inr (.inl HH.out),λ_=>rfl⟩⟩,a4.out,a5.out,c5.out⟩
  have f1:((a1.length:Int)!=(a7.length:Int))=false:=so_;have N1:=zaa h1;clear h1;by_cases h2:a0.length≠a3.length
  .have t2:((a0.length:Int)!=(a3.length:Int))=true:=so_;have HH:=zaa h2;clear h2;go_wp2_with fail;go_meet
   case rel=>exact⟨⟨true,rfl,⟨λ_=>.inr (.inr (.inl HH.out)),λ_=>rfl⟩⟩,a4.out,a5.out,c5.out⟩
  have f2:((a0.length:Int)!=(a3.length:Int))=false:=so_;have N2:=zaa h2;clear h2;go_wp2_with fail;refine(r0.out _).mono ?_;rintro e w3 ⟨rfl,ff⟩;replace a4:=zaa (a4.out.fr ff λh=>h);replace a5:=zaa (a5.out.fr ff λh=>h);replace c5:=zaa (c5.out.trans ff);clear ff;clear d0 d1 d2 d3 d4 d5 d6 d7 d8 d9 f9 g0 g2 g1 f7 e7 dq b0 b1 b2 b3 b4 b5 b6 b7 b8 b9 g6 g8 g4 h9 g9 g7 bq;obtain⟨d0,d1,d2,d3,d4,d5,d6,d7,d8,d9,f9,g0,g2,g1,f7,e7⟩:=a4.out.cells16;obtain⟨b0,b1,b2,b3,b4,b5,b6,b7,b8,b9,g6,g8,g4,h9,g9,g7⟩:=a5.out.cells16;have dq:=a4.out.lt;have bq:=a5.out.lt;cases z2 with
  |false=>
   go_wp2_with fail;go_meet
   case rel=>
    refine⟨⟨false,rfl,nofun,λh=>?_⟩,a4.out,a5.out,c5.out⟩;rcases h with h|h|h|⟨h,-⟩
    .exact absurd h N0.out
    .exact absurd h N1.out
    .exact absurd h N2.out
    .exact absurd (p4.out.symm.trans h) s_
  |true=>
   go_wp2_with fail;refine(m3.out _).mono ?_;rintro e w4 ⟨rfl,ff⟩;replace a4:=zaa (a4.out.fr ff λh=>h);replace a5:=zaa (a5.out.fr ff λh=>h);replace c5:=zaa (c5.out.trans ff);clear ff;clear d0 d1 d2 d3 d4 d5 d6 d7 d8 d9 f9 g0 g2 g1 f7 e7 dq b0 b1 b2 b3 b4 b5 b6 b7 b8 b9 g6 g8 g4 h9 g9 g7 bq;obtain⟨d0,d1,d2,d3,d4,d5,d6,d7,d8,d9,f9,g0,g2,g1,f7,e7⟩:=a4.out.cells16;obtain⟨b0,b1,b2,b3,b4,b5,b6,b7,b8,b9,g6,g8,g4,h9,g9,g7⟩:=a5.out.cells16;have dq:=a4.out.lt;have bq:=a5.out.lt;cases z1 with
   |false=>
    go_wp2_with fail;go_meet
    case rel=>exact⟨⟨true,rfl,⟨λ_=>.inr (.inr (.inr ⟨p4.out,o9.out⟩)),λ_=>rfl⟩⟩,a4.out,a5.out,c5.out⟩
   |true=>
    go_wp2_with fail;go_meet
    case rel=>
     refine⟨⟨false,rfl,nofun,λh=>?_⟩,a4.out,a5.out,c5.out⟩;rcases h with h|h|h|⟨-,h⟩
     .exact absurd h N0.out
     .exact absurd h N1.out
     .exact absurd h N2.out
     .exact absurd (o9.out.symm.trans h) s_
 obtain⟨⟨c2,rfl,q4⟩,e6,g3,j1⟩:=hcut;have o4:=zaa q4;have a4:=zaa e6;have a5:=zaa g3;have c5:=zaa j1;clear q4 d0 d1 d2 d3 d4 d5 d6 d7 d8 d9 f9 g0 g2 g1 f7 e7 dq b0 b1 b2 b3 b4 b5 b6 b7 b8 b9 g6 g8 g4 h9 g9 g7 bq;obtain⟨d0,d1,d2,d3,d4,d5,d6,d7,d8,d9,f9,g0,g2,g1,f7,e7⟩:=e6.cells16;obtain⟨b0,b1,b2,b3,b4,b5,b6,b7,b8,b9,g6,g8,g4,h9,g9,g7⟩:=g3.cells16;have dq:=e6.lt;have bq:=g3.lt;clear e6 g3 j1;cases c2 with
 |true=>
  clear a4 a5;go_wp2;rw[<-HQ.out];exact⟨false,rfl,⟨nofun,λh=>absurd (o4.out.1 trivial) (c6.out.1 h).2.1⟩,c5.out⟩
 |false=>
 have l2:=zaa (λh=>Bool.noConfusion (o4.out.2 h):¬Tg.Bad2 ⟨kind,home,T.mk k n s A cap l r,VA,vc,vs,n1,lost,ofr,byr,set,full,CA,cc,a1,NA,nc,a0⟩ ⟨c7,c0,T.mk qk qn qs qA e5 ql qr,i7,j0,i2,i1,a6,e0,c8,c9,a8,i4,i6,a7,i8,i5,a3⟩);clear o4;go_upto_region 6 with(fail);go_cut [121]from 13 to 192 (λu wx=>(∃c:Bool,u= .bool c/\(c=true↔Tg.Bad3 i0 ⟨kind,home,T.mk k n s A cap l r,VA,vc,vs,n1,lost,ofr,byr,set,full,CA,cc,a1,NA,nc,a0⟩))/\Blk wx W.heap.size 138 #[.int .u8 kind,.int .i64 home,.int .u8 k,.int .i64 n,.string s,.slice A l.length cap,.int .i64 r,.slice VA vs.length vc,.int .i64 n1,.int .i64 lost,.int .i64 ofr,.int .i64 byr,.int .u8 set,.bool full,.slice CA a1.length cc,.slice NA a0.length nc]/\Blk wx gb 138 #[.int .u8 c7,.int .i64 c0,.int .u8 qk,.int .i64 qn,.string qs,.slice qA ql.length e5,.int .i64 qr,.slice i7 i2.length j0,.int .i64 i1,.int .i64 a6,.int .i64 e0,.int .i64 c8,.int .u8 c9,.bool a8,.slice i4 a7.length i6,.slice i8 a3.length i5]/\Fr No W wx)
 case first=>as_aux_lemma=>
  obtain⟨zm,o6⟩:∃z,(T.mk k n s A cap l r).v.may=z:=⟨_,rfl⟩;have hm:=λW' f=>m5.out W' f;rw[o6]at hm;have HM:=zaa hm;have m7:=zaa o6;clear hm o6 m5;by_cases hk:kind=14
  .have l0:(kind !=14)=false:=by simp[hk]
   have HK:=zaa hk;clear hk;go_wp2_with fail;refine(HM.out _ c5.out).mono ?_;rintro e w3 ⟨rfl,ff⟩;replace a4:=zaa (a4.out.fr ff λh=>h);replace a5:=zaa (a5.out.fr ff λh=>h);replace c5:=zaa (c5.out.trans ff);clear ff;clear d0 d1 d2 d3 d4 d5 d6 d7 d8 d9 f9 g0 g2 g1 f7 e7 dq b0 b1 b2 b3 b4 b5 b6 b7 b8 b9 g6 g8 g4 h9 g9 g7 bq;obtain⟨d0,d1,d2,d3,d4,d5,d6,d7,d8,d9,f9,g0,g2,g1,f7,e7⟩:=a4.out.cells16;obtain⟨b0,b1,b2,b3,b4,b5,b6,b7,b8,b9,g6,g8,g4,h9,g9,g7⟩:=a5.out.cells16;have dq:=a4.out.lt;have bq:=a5.out.lt;cases zm with
   |false=>
    go_wp2_with fail;go_meet
    case rel=>exact⟨⟨true,rfl,⟨λ_=>.inr m7.out,λ_=>rfl⟩⟩,a4.out,a5.out,c5.out⟩
   |true=>
    go_wp2_with fail;go_meet
    case rel=>exact⟨⟨false,rfl,nofun,λh=>by
     rcases h with⟨h,-⟩|h
     .exact absurd HK.out h
     .exact absurd (m7.out.symm.trans h) s_⟩,a4.out,a5.out,c5.out⟩
  .have l0:(kind !=14)=true:=by simp[hk]
   have HK:=zaa hk;have j3:=p2.out wc c5.out home;clear hk;by_cases hs:0<=home/\home<(i0:Int)
   .rw[decide_eq_true hs]at j3;have n8:=zaa j3;have HS:=zaa hs;clear hs j3;go_wp2_with fail;refine n8.out.mono ?_;rintro e w' ⟨rfl,rfl⟩;go_wp2_with fail;refine(HM.out _ c5.out).mono ?_;rintro e w3 ⟨rfl,ff⟩;replace a4:=zaa (a4.out.fr ff λh=>h);replace a5:=zaa (a5.out.fr ff λh=>h);replace c5:=zaa (c5.out.trans ff);clear ff;clear d0 d1 d2 d3 d4 d5 d6 d7 d8 d9 f9 g0 g2 g1 f7 e7 dq b0 b1 b2 b3 b4 b5 b6 b7 b8 b9 g6 g8 g4 h9 g9 g7 bq;obtain⟨d0,d1,d2,d3,d4,d5,d6,d7,d8,d9,f9,g0,g2,g1,f7,e7⟩:=a4.out.cells16;obtain⟨b0,b1,b2,b3,b4,b5,b6,b7,b8,b9,g6,g8,g4,h9,g9,g7⟩:=a5.out.cells16;have dq:=a4.out.lt;have bq:=a5.out.lt;cases zm with
    |false=>
     go_wp2_with fail;go_meet
     case rel=>exact⟨⟨true,rfl,⟨λ_=>.inr m7.out,λ_=>rfl⟩⟩,a4.out,a5.out,c5.out⟩
    |true=>
     go_wp2_with fail;go_meet
     case rel=>exact⟨⟨false,rfl,nofun,λh=>by
      rcases h with⟨-,h⟩|h
      .exact absurd HS.out h
      .exact absurd (m7.out.symm.trans h) s_⟩,a4.out,a5.out,c5.out⟩
   .rw[decide_eq_false hs]at j3;have n8:=zaa j3;have HS:=zaa (show Tg.Bad3 i0 ⟨kind,home,T.mk k n s A cap l r,VA,vc,vs,n1,lost,ofr,byr,set,full,CA,cc,a1,NA,nc,a0⟩from .inl ⟨HK.out,hs⟩);clear hs j3;go_wp2_with fail;refine n8.out.mono ?_;rintro e w' ⟨rfl,rfl⟩;go_wp2_with fail;go_meet
    case rel=>exact⟨⟨true,rfl,⟨λ_=>HS.out,λ_=>rfl⟩⟩,a4.out,a5.out,c5.out⟩
 obtain⟨⟨c3,rfl,p7⟩,e6,g3,j1⟩:=hcut;have o8:=zaa p7;have a4:=zaa e6;have a5:=zaa g3;have c5:=zaa j1;clear p7 d0 d1 d2 d3 d4 d5 d6 d7 d8 d9 f9 g0 g2 g1 f7 e7 dq b0 b1 b2 b3 b4 b5 b6 b7 b8 b9 g6 g8 g4 h9 g9 g7 bq;obtain⟨d0,d1,d2,d3,d4,d5,d6,d7,d8,d9,f9,g0,g2,g1,f7,e7⟩:=e6.cells16;obtain⟨b0,b1,b2,b3,b4,b5,b6,b7,b8,b9,g6,g8,g4,h9,g9,g7⟩:=g3.cells16;have dq:=e6.lt;have bq:=g3.lt;clear e6 g3 j1;cases c3 with
 |true=>
  clear a4 a5;go_wp2;rw[<-HQ.out];exact⟨false,rfl,⟨nofun,λh=>absurd (o8.out.1 trivial) (c6.out.1 h).2.2.1⟩,c5.out⟩
 |false=>
 have k8:=zaa (λh=>Bool.noConfusion (o8.out.2 h):¬Tg.Bad3 i0 ⟨kind,home,T.mk k n s A cap l r,VA,vc,vs,n1,lost,ofr,byr,set,full,CA,cc,a1,NA,nc,a0⟩);clear o8;go_upto_region 8 with(fail);obtain⟨z4,m6⟩:∃z,(ofV (vs.map T.v)).2=z:=⟨_,rfl⟩;go_cut [6,7]from 13 to 192 (λu6 u7 wx=>u7= .int .i64 z4/\Blk wx W.heap.size 138 #[.int .u8 kind,.int .i64 home,.int .u8 k,.int .i64 n,.string s,.slice A l.length cap,.int .i64 r,.slice VA vs.length vc,.int .i64 n1,.int .i64 lost,.int .i64 ofr,.int .i64 byr,.int .u8 set,.bool full,.slice CA a1.length cc,.slice NA a0.length nc]/\Blk wx gb 138 #[.int .u8 c7,.int .i64 c0,.int .u8 qk,.int .i64 qn,.string qs,.slice qA ql.length e5,.int .i64 qr,.slice i7 i2.length j0,.int .i64 i1,.int .i64 a6,.int .i64 e0,.int .i64 c8,.int .u8 c9,.bool a8,.slice i4 a7.length i6,.slice i8 a3.length i5]/\Fr No W wx)
 case first=>as_aux_lemma=>
  have m8:=o5.out _ c5.out;change Calls Tryz.prog 209 #[.slice VA vs.length vc] _ (zvf (ofV (vs.map T.v)).1 (ofV (vs.map T.v)).2 _)at m8;rw[m6]at m8;have s0:=zaa m8;clear m8 m6 m5 m9 o5;go_wp2_with fail;refine(s0.out).mono ?_;rintro e w3 ⟨⟨k9,n9,s9,A9,n5,l9,r9⟩,rfl,-,-,ff⟩;rw[T.val_mk];replace ff:=ff.alloc (.cells #[.int .u8 k9,.int .i64 n9,.string s9,.slice A9 l9.length n5,.int .i64 r9] 28);replace a4:=zaa (a4.out.fr ff λh=>h);replace a5:=zaa (a5.out.fr ff λh=>h);replace c5:=zaa (c5.out.trans ff);clear ff;clear d0 d1 d2 d3 d4 d5 d6 d7 d8 d9 f9 g0 g2 g1 f7 e7 dq b0 b1 b2 b3 b4 b5 b6 b7 b8 b9 g6 g8 g4 h9 g9 g7 bq;obtain⟨d0,d1,d2,d3,d4,d5,d6,d7,d8,d9,f9,g0,g2,g1,f7,e7⟩:=a4.out.cells16;obtain⟨b0,b1,b2,b3,b4,b5,b6,b7,b8,b9,g6,g8,g4,h9,g9,g7⟩:=a5.out.cells16;have dq:=a4.out.lt;have bq:=a5.out.lt;go_wp2_with fail;go_meet
  case rel=>exact⟨rfl,a4.out,a5.out,c5.out⟩
 obtain⟨rfl,e6,g3,j1⟩:=hcut;have a4:=zaa e6;have a5:=zaa g3;have c5:=zaa j1;have o7:=zaa m6;clear d0 d1 d2 d3 d4 d5 d6 d7 d8 d9 f9 g0 g2 g1 f7 e7 dq b0 b1 b2 b3 b4 b5 b6 b7 b8 b9 g6 g8 g4 h9 g9 g7 bq m6;obtain⟨d0,d1,d2,d3,d4,d5,d6,d7,d8,d9,f9,g0,g2,g1,f7,e7⟩:=e6.cells16;have dq:=e6.lt;clear e6 g3 j1;go_upto_region 9 with(fail);go_cut [135]from 13 to 192 (λu wx=>(∃c:Bool,u= .bool c/\(c=true↔Tg.Bad4 ⟨kind,home,T.mk k n s A cap l r,VA,vc,vs,n1,lost,ofr,byr,set,full,CA,cc,a1,NA,nc,a0⟩))/\Blk wx W.heap.size 138 #[.int .u8 kind,.int .i64 home,.int .u8 k,.int .i64 n,.string s,.slice A l.length cap,.int .i64 r,.slice VA vs.length vc,.int .i64 n1,.int .i64 lost,.int .i64 ofr,.int .i64 byr,.int .u8 set,.bool full,.slice CA a1.length cc,.slice NA a0.length nc]/\Blk wx gb 138 #[.int .u8 c7,.int .i64 c0,.int .u8 qk,.int .i64 qn,.string qs,.slice qA ql.length e5,.int .i64 qr,.slice i7 i2.length j0,.int .i64 i1,.int .i64 a6,.int .i64 e0,.int .i64 c8,.int .u8 c9,.bool a8,.slice i4 a7.length i6,.slice i8 a3.length i5]/\Fr No W wx)
 case first=>as_aux_lemma=>
  by_cases hz:z4≠0
  .have v1:(z4 !=0)=true:=by simp[hz]
   have HH:=zaa (show Tg.Bad4 ⟨kind,home,T.mk k n s A cap l r,VA,vc,vs,n1,lost,ofr,byr,set,full,CA,cc,a1,NA,nc,a0⟩from .inl (by rw[o7.out];exact hz));clear hz;go_wp2_with fail;go_meet
   case rel=>exact⟨⟨true,rfl,⟨λ_=>HH.out,λ_=>rfl⟩⟩,a4.out,a5.out,c5.out⟩
  have s5:z4=0:=by simpa using hz
  subst s5;clear hz;by_cases hn:64<a0.length
  .have s7:decide ((a0.length:Int) > 64)=true:=so_;have HH:=zaa (show Tg.Bad4 ⟨kind,home,T.mk k n s A cap l r,VA,vc,vs,n1,lost,ofr,byr,set,full,CA,cc,a1,NA,nc,a0⟩from .inr hn);clear hn;go_wp2_with fail;go_meet
   case rel=>exact⟨⟨true,rfl,⟨λ_=>HH.out,λ_=>rfl⟩⟩,a4.out,a5.out,c5.out⟩
  have s7:decide ((a0.length:Int) > 64)=false:=so_;have HH:=zaa (show ¬Tg.Bad4 ⟨kind,home,T.mk k n s A cap l r,VA,vc,vs,n1,lost,ofr,byr,set,full,CA,cc,a1,NA,nc,a0⟩from λh=>h.elim (λh=>h o7.out) hn);clear hn;go_wp2_with fail;go_meet
  case rel=>exact⟨⟨false,rfl,nofun,λh=>absurd h HH.out⟩,a4.out,a5.out,c5.out⟩
 obtain⟨⟨c4,rfl,r1⟩,e6,g3,j1⟩:=hcut;have n4:=zaa r1;have a4:=zaa e6;have a5:=zaa g3;have c5:=zaa j1;clear r1 d0 d1 d2 d3 d4 d5 d6 d7 d8 d9 f9 g0 g2 g1 f7 e7 dq;obtain⟨d0,d1,d2,d3,d4,d5,d6,d7,d8,d9,f9,g0,g2,g1,f7,e7⟩:=e6.cells16;obtain⟨b0,b1,b2,b3,b4,b5,b6,b7,b8,b9,g6,g8,g4,h9,g9,g7⟩:=g3.cells16;have dq:=e6.lt;have bq:=g3.lt;clear e6 g3 j1;cases c4 with
 |true=>
  clear a4 a5;go_wp2;rw[<-HQ.out];exact⟨false,rfl,⟨nofun,λh=>absurd (n4.out.1 trivial) (c6.out.1 h).2.2.2.1⟩,c5.out⟩
 |false=>
 have j9:=zaa (λh=>Bool.noConfusion (n4.out.2 h):¬Tg.Bad4 ⟨kind,home,T.mk k n s A cap l r,VA,vc,vs,n1,lost,ofr,byr,set,full,CA,cc,a1,NA,nc,a0⟩);clear n4;have v6:a0.length<=64:=by
  have:=j9.out;exact Decidable.byContradiction λh=>this (.inr (by show 64<a0.length;omega))
 clear o7 m3 r0 o9 p4 p2 m5 o5 a5;go_wp2_with fail;go_loopw [139] (λi wr=>∃j:Nat,j<=a0.length/\i= .int .i64 j/\(∀y∈a0.take j,y.2.v.may=true)/\Blk wr W.heap.size 138 #[.int .u8 kind,.int .i64 home,.int .u8 k,.int .i64 n,.string s,.slice A l.length cap,.int .i64 r,.slice VA vs.length vc,.int .i64 n1,.int .i64 lost,.int .i64 ofr,.int .i64 byr,.int .u8 set,.bool full,.slice CA a1.length cc,.slice NA a0.length nc]/\Fr No W wr) (λi _=>a0.length - (intOf i).toNat)
 case atStart=>exact⟨0,Nat.zero_le _,rfl,by simp,a4.out,c5.out⟩
 case round=>
  obtain⟨j,hj,rfl,n7,l8,m2⟩:=hrel;clear d0 d1 d2 d3 d4 d5 d6 d7 d8 d9 f9 g0 g2 g1 f7 e7 dq;have p0:=zaa n7;have s1:=zaa l8;have g5:=zaa m2;by_cases hlt:j<a0.length
  .have j7:=List.getElem_mem hlt;have r2:a0.take (j+1)=a0.take j++[a0[j]]:=by rw[List.take_succ_eq_append_getElem hlt]
   obtain⟨b,o,rfl,l7,v8,q8⟩:=HX.out.names.at_ (λh=>by have h':a0=[]:=h;rw[h']at hlt;simp at hlt);have k5:∀i u,(zbj a0[j])[i]? =some u->wr.cell? ⟨b,o+j*6+i,none⟩=some u:=λi u hu=>(m2.cell o_ λh=>h).trans (q8 j a0[j] (List.getElem?_eq_getElem hlt) i u hu);have hM:=λW' f=>m9.out a0[j] j7 W' f;have k4:a0[j].2.v.may=false->Tg.Bad5 ⟨kind,home,T.mk k n s A cap l r,VA,vc,vs,n1,lost,ofr,byr,set,full,CA,cc,a1,(some ⟨b,o,none⟩),nc,a0⟩:=λh=>⟨a0[j],j7,h⟩;generalize a0[j]=xj at*;obtain⟨nm,⟨k3,n3,s3,A3,j2,l3,r3⟩⟩:=xj;rw[T.val_mk]at hM;have x0:wr.cell? ⟨b,o+j*6,none⟩=some (.string nm):=k5 0 _ rfl;have x1:wr.cell? ⟨b,o+j*6+1,none⟩=some (.int .u8 k3):=k5 1 _ rfl;have x2:wr.cell? ⟨b,o+j*6+2,none⟩=some (.int .i64 n3):=k5 2 _ rfl;have x3:wr.cell? ⟨b,o+j*6+3,none⟩=some (.string s3):=k5 3 _ rfl;have x4:wr.cell? ⟨b,o+j*6+4,none⟩=some (.slice A3 l3.length j2):=k5 4 _ rfl;have x5:wr.cell? ⟨b,o+j*6+5,none⟩=some (.int .i64 r3):=k5 5 _ rfl;have m4:b<wr.heap.size:=by have:=m2.size;omega
   obtain⟨z,hz⟩:∃z,(T.mk k3 n3 s3 A3 j2 l3 r3).v.may=z:=⟨_,rfl⟩;have o2:=λW' f=>hM W' f;simp only[hz]at o2 k4;have HM:=zaa o2;have HZ:=zaa hz;have r4:=zaa k4;have s2:=zaa r2;clear hM o2 hz k4 r2 q8 k5 j7 n7 l8 m2 m9;go_wp2_with fail;refine(HM.out _ (g5.out.alloc (.cells #[.string nm,.int .u8 k3,.int .i64 n3,.string s3,.slice A3 l3.length j2,.int .i64 r3] 260))).mono ?_;rintro e w3 ⟨rfl,ff⟩;have p8:=(s1.out.alloc (.cells #[.string nm,.int .u8 k3,.int .i64 n3,.string s3,.slice A3 l3.length j2,.int .i64 r3] 260)).fr ff λh=>h;have m1:=(g5.out.alloc (.cells #[.string nm,.int .u8 k3,.int .i64 n3,.string s3,.slice A3 l3.length j2,.int .i64 r3] 260)).trans ff;have r5:=zaa p8;have j4:=zaa m1;clear p8 m1 ff x0 x1 x2 x3 x4 x5;cases z with
   |false=>
    have HH:=zaa (r4.out rfl);clear r4;go_wp2;rw[<-HQ.out];exact⟨false,rfl,⟨nofun,λh=>absurd HH.out (c6.out.1 h).2.2.2.2.1⟩,j4.out⟩
   |true=>
    go_wp2;go_roundw
    case rel=>
     refine⟨j+1,hlt,by go_num,λy hy=>?_,r5.out,j4.out⟩;rw[s2.out]at hy;rcases List.mem_append.1 hy with hy|hy
     .exact p0.out y hy
     .simp only[List.mem_singleton]at hy;subst hy;exact HZ.out
    case measure=>simp[intOf];omega
  .obtain rfl:a0.length=j:=o_;have l4:=zaa (show ¬Tg.Bad5 ⟨kind,home,T.mk k n s A cap l r,VA,vc,vs,n1,lost,ofr,byr,set,full,CA,cc,a1,NA,nc,a0⟩from λ⟨y,hy,h⟩=>by
    have:=p0.out y (by rw[List.take_length];exact hy);rw[h]at this;cases this)
   have i3:=n6.out;have r8:=i3.kind;have s4:=i3.set;dsimp only at r8 s4;clear n7 p0 i3 m9;obtain⟨d0,d1,d2,d3,d4,d5,d6,d7,d8,d9,f9,g0,g2,g1,f7,e7⟩:=l8.cells16;have dq:=l8.lt;clear l8 m2;by_cases j6:kind=3\/kind=8\/kind=9
   .have l0:kind≠10/\kind≠12/\kind≠14:=o_;have a9:Tg.Last ⟨kind,home,T.mk k n s A cap l r,VA,vc,vs,n1,lost,ofr,byr,set,full,CA,cc,a1,NA,nc,a0⟩↔(0<=n1/\n1<=9007199254740992/\0<=lost/\lost<=n1):=
     ⟨λh=>h.1 j6,λh=>⟨λ_=>h,λh=>absurd h l0.1,λh=>absurd h l0.2.1,λh=>absurd h l0.2.2⟩⟩
    have a2:=zaa a9;clear a9 l0;by_cases t1:0<=n1
    case neg=>
     have e1:decide (0<=n1)=false:=by simpa using t1
     have HH:=zaa (show ¬Tg.Last ⟨kind,home,T.mk k n s A cap l r,VA,vc,vs,n1,lost,ofr,byr,set,full,CA,cc,a1,NA,nc,a0⟩from λh=>t1 (a2.out.1 h).1);clear t1 a2;rcases j6 with rfl|rfl|rfl;all_goals
      go_wp2;rw[<-HQ.out];exact⟨false,rfl,⟨nofun,λh=>absurd (c6.out.1 h).2.2.2.2.2 HH.out⟩,g5.out⟩
    have e1:decide (0<=n1)=true:=by simpa using t1
    by_cases t2:n1<=9007199254740992
    case neg=>
     have e2:decide (n1<=9007199254740992)=false:=by simpa using t2
     have HH:=zaa (show ¬Tg.Last ⟨kind,home,T.mk k n s A cap l r,VA,vc,vs,n1,lost,ofr,byr,set,full,CA,cc,a1,NA,nc,a0⟩from λh=>t2 (a2.out.1 h).2.1);clear t1 t2 a2;rcases j6 with rfl|rfl|rfl;all_goals
      go_wp2;rw[<-HQ.out];exact⟨false,rfl,⟨nofun,λh=>absurd (c6.out.1 h).2.2.2.2.2 HH.out⟩,g5.out⟩
    have e2:decide (n1<=9007199254740992)=true:=by simpa using t2
    by_cases t3:0<=lost
    case neg=>
     have e3:decide (0<=lost)=false:=by simpa using t3
     have HH:=zaa (show ¬Tg.Last ⟨kind,home,T.mk k n s A cap l r,VA,vc,vs,n1,lost,ofr,byr,set,full,CA,cc,a1,NA,nc,a0⟩from λh=>t3 (a2.out.1 h).2.2.1);clear t1 t2 t3 a2;rcases j6 with rfl|rfl|rfl;all_goals
      go_wp2;rw[<-HQ.out];exact⟨false,rfl,⟨nofun,λh=>absurd (c6.out.1 h).2.2.2.2.2 HH.out⟩,g5.out⟩
    have e3:decide (0<=lost)=true:=by simpa using t3
    by_cases t4:lost<=n1
    case neg=>
     have e4:decide (lost<=n1)=false:=by simpa using t4
     have HH:=zaa (show ¬Tg.Last ⟨kind,home,T.mk k n s A cap l r,VA,vc,vs,n1,lost,ofr,byr,set,full,CA,cc,a1,NA,nc,a0⟩from λh=>t4 (a2.out.1 h).2.2.2);clear t1 t2 t3 t4 a2;rcases j6 with rfl|rfl|rfl;all_goals
      go_wp2;rw[<-HQ.out];exact⟨false,rfl,⟨nofun,λh=>absurd (c6.out.1 h).2.2.2.2.2 HH.out⟩,g5.out⟩
    have e4:decide (lost<=n1)=true:=by simpa using t4
    have HH:=zaa (a2.out.2 ⟨t1,t2,t3,t4⟩);clear t1 t2 t3 t4 a2;rcases j6 with rfl|rfl|rfl;all_goals
     go_wp2;rw[<-HQ.out];exact⟨true,rfl,⟨λ_=>c6.out.2 ⟨l1.out,l2.out,k8.out,j9.out,l4.out,HH.out⟩,λ_=>rfl⟩,g5.out⟩
   by_cases j8:kind=10
   .subst j8;have a9:Tg.Last ⟨10,home,T.mk k n s A cap l r,VA,vc,vs,n1,lost,ofr,byr,set,full,CA,cc,a1,NA,nc,a0⟩↔(full=true\/zb7 (T.mk k n s A cap l r).v=true):=
     ⟨λh=>h.2.1 rfl,λh=>⟨λh'=>(by rcases h' with h'|h'|h'<;>cases h'),λ_=>h,(nomatch ·),(nomatch ·)⟩⟩
    cases full with
    |true=>
     have HH:=zaa (a9.2 (.inl rfl));clear a9;go_wp2;rw[<-HQ.out];exact⟨true,rfl,⟨λ_=>c6.out.2 ⟨l1.out,l2.out,k8.out,j9.out,l4.out,HH.out⟩,λ_=>rfl⟩,g5.out⟩
    |false=>
     obtain⟨z1,k6⟩:∃z,zb7 (T.mk k n s A cap l r).v=z:=⟨_,rfl⟩;have k0:=k1.out (T.mk k n s A cap l r);rw[k6,T.val_mk]at k0;rw[k6]at a9;have m3:=zaa k0;have a2:=zaa a9;clear k0 k6 a9 k1;cases z1 with
     |false=>
      have HH:=zaa (show ¬Tg.Last ⟨10,home,T.mk k n s A cap l r,VA,vc,vs,n1,lost,ofr,byr,set,false,CA,cc,a1,NA,nc,a0⟩from λh=>by
       rcases a2.out.1 h with h|h<;>cases h)
      clear a2;go_wp2_with fail;refine(m3.out _).mono ?_;rintro e w3 ⟨rfl,ff⟩;have j4:=zaa (g5.out.trans ff);clear ff;go_wp2;rw[<-HQ.out];exact⟨false,rfl,⟨nofun,λh=>absurd (c6.out.1 h).2.2.2.2.2 HH.out⟩,j4.out⟩
     |true=>
      have HH:=zaa (a2.out.2 (.inr rfl));clear a2;go_wp2_with fail;refine(m3.out _).mono ?_;rintro e w3 ⟨rfl,ff⟩;have j4:=zaa (g5.out.trans ff);clear ff;go_wp2;rw[<-HQ.out];exact⟨true,rfl,⟨λ_=>c6.out.2 ⟨l1.out,l2.out,k8.out,j9.out,l4.out,HH.out⟩,λ_=>rfl⟩,j4.out⟩
   by_cases k7:kind=12
   .subst k7;have a9:Tg.Last ⟨12,home,T.mk k n s A cap l r,VA,vc,vs,n1,lost,ofr,byr,set,full,CA,cc,a1,NA,nc,a0⟩↔((a1.map G.ssz).sum<=512/\∀y∈a1,y.sok=true):=
     ⟨λh=>h.2.2.1 rfl,λh=>⟨λh'=>(by rcases h' with h'|h'|h'<;>cases h'),(nomatch ·),λ_=>h,(nomatch ·)⟩⟩
    have q5:=(Fr.refl No wr).alloc (.cells #[.int .i64 0] 3);have n2:=g5.out.trans q5;have m4:=Blk.new wr 3 #[.int .i64 0];have q3:=zn9 a1 (wr.alloc (.cells #[.int .i64 0] 3)) lo hi wr.heap.size 0 CA cc (HX.out.code.fr n2 hh λ_ _ _ h=>h) (Nat.le_trans hh g5.out.size) ⟨m4.cell 0,m4.frozen 0,m4.lt,by omega⟩;have r7:=zaa q3;have a2:=zaa a9;have r6:=zaa n2;have v2:=g5.out.size;clear q3 a9 q5 n2 m4 k1;go_wp2_with fail;refine r7.out.mono ?_;rintro e w3 ⟨z,rfl,ff,hz,-⟩;have m1:Fr No W w3:=r6.out.trans' ff λi hi h=>by have h':i=wr.heap.size:=h;omega
    have j4:=zaa m1;rw[Nat.zero_add]at hz;have HZ:=zaa (hz.trans a2.out.symm);clear ff m1 hz a2;cases z with
    |false=>
     have HH:=zaa (show ¬Tg.Last ⟨12,home,T.mk k n s A cap l r,VA,vc,vs,n1,lost,ofr,byr,set,full,CA,cc,a1,NA,nc,a0⟩from λh=>Bool.noConfusion (HZ.out.2 h));clear HZ;go_wp2;rw[<-HQ.out];exact⟨false,rfl,⟨nofun,λh=>absurd (c6.out.1 h).2.2.2.2.2 HH.out⟩,j4.out⟩
    |true=>
     have HH:=zaa (HZ.out.1 rfl);clear HZ;go_wp2;rw[<-HQ.out];exact⟨true,rfl,⟨λ_=>c6.out.2 ⟨l1.out,l2.out,k8.out,j9.out,l4.out,HH.out⟩,λ_=>rfl⟩,j4.out⟩
   by_cases k2:kind=14
   .subst k2;obtain⟨sn,rfl⟩:∃sn:Nat,set=(sn:Int):=⟨set.toNat,by omega⟩;have a9:Tg.Last ⟨14,home,T.mk k n s A cap l r,VA,vc,vs,n1,lost,ofr,byr,(sn:Int),full,CA,cc,a1,NA,nc,a0⟩↔sn<64:=
     ⟨λh=>by have:(sn:Int)<=63:=h.2.2.2 rfl;omega,λh=>⟨λh'=>(by rcases h' with h'|h'|h'<;>cases h'),(nomatch ·),(nomatch ·),λ_=>by show(sn:Int)<=63;omega⟩⟩
    have l5:=zx2 sn o_ wr;have a2:=zaa a9;clear a9 k1;by_cases hs:sn<64
    .rw[decide_eq_true hs]at l5;have p5:=zaa l5;have HH:=zaa (a2.out.2 hs);clear l5 hs a2;go_wp2_with fail;refine p5.out.mono ?_;rintro e w' ⟨rfl,rfl⟩;go_wp2;rw[<-HQ.out];exact⟨true,rfl,⟨λ_=>c6.out.2 ⟨l1.out,l2.out,k8.out,j9.out,l4.out,HH.out⟩,λ_=>rfl⟩,g5.out⟩
    .rw[decide_eq_false hs]at l5;have p5:=zaa l5;have HH:=zaa (show ¬Tg.Last ⟨14,home,T.mk k n s A cap l r,VA,vc,vs,n1,lost,ofr,byr,(sn:Int),full,CA,cc,a1,NA,nc,a0⟩from λh=>hs (a2.out.1 h));clear l5 hs a2;go_wp2_with fail;refine p5.out.mono ?_;rintro e w' ⟨rfl,rfl⟩;go_wp2;rw[<-HQ.out];exact⟨false,rfl,⟨nofun,λh=>absurd (c6.out.1 h).2.2.2.2.2 HH.out⟩,g5.out⟩
   have HH:=zaa (show Tg.Last ⟨kind,home,T.mk k n s A cap l r,VA,vc,vs,n1,lost,ofr,byr,set,full,CA,cc,a1,NA,nc,a0⟩from⟨λh=>absurd h j6,λh=>absurd h j8,λh=>absurd h k7,λh=>absurd h k2⟩);have e3:(kind==3)=false:=so_;have e8:(kind==8)=false:=so_;have e9:(kind==9)=false:=so_;have v5:(kind==10)=false:=so_;have s8:(kind==12)=false:=so_;have v3:(kind==14)=false:=so_;clear j6 j8 k7 k2 k1;go_wp2;rw[<-HQ.out];exact⟨true,rfl,⟨λ_=>c6.out.2 ⟨l1.out,l2.out,k8.out,j9.out,l4.out,HH.out⟩,λ_=>rfl⟩,g5.out⟩
end Go.Proofs.YtlejelbefmkakaaGreat

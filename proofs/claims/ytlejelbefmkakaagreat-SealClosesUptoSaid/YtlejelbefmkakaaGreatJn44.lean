/- Texts joined: Eb3, Re13, Ub12, Ub13, Tr0, Wo22, Wo24, Wo23. -/
import Derived.Test.YtlejelbefmkakaaGreatJn1
import Derived.Test.YtlejelbefmkakaaGreatJn28
import Derived.Test.YtlejelbefmkakaaGreatJn31
import Derived.Test.YtlejelbefmkakaaGreatJn32
import Derived.Test.YtlejelbefmkakaaGreatJn33
import Derived.Test.YtlejelbefmkakaaGreatJn43
import Derived.Shelf.SortM.Plain
import Derived.Ground.SlgmProg
set_option maxHeartbeats 16000000
set_option maxRecDepth 100000
namespace Go.Proofs.YtlejelbefmkakaaGreat
open Go.RowKit
def zfy (ps cuts:List Int) (ths:List (Int×Tg)) (made:List Int):Bool:=
 decide (ths.length<=120)&&(decide (ps.length<=40)&&(decide (cuts.length<=40)&&(decide (made.length<=40)&&ths.all λx=>x.2.short)))
theorem znu {l:List (Int×Tg)} {j:Nat} (hj:j<l.length) (h:l[j].2.short=false):(l.all λt=>t.2.short)=false:=by
 cases hl:l.all λt=>t.2.short with
 |false=>rfl
 |true=>rw[List.all_eq_true.1 hl _ (List.getElem_mem hj)]at h;cases h
theorem EnRow.elem9 {w:World} {lo hi:Nat} {A:Option Addr} {cap:Nat} {l:List (Int×Tg)} (h:EnRow w lo hi A cap l) {j:Nat} (hj:j<l.length):
 ∃b o,A=some ⟨b,o,none⟩/\lo<=b/\b<hi/\(∀i u,(zc9 l[j])[i]? =some u->w.cell? ⟨b,o+j*17+i,none⟩=some u)/\l[j].2.In w lo hi:=by
 obtain⟨b,o,rfl,h0,h1,hc⟩:=h.at_ (by rintro rfl;simp at hj);exact⟨b,o,rfl,h0,h1,λi u hu=>hc j _ (List.getElem?_eq_getElem hj) i u hu,(h.inn _ (List.getElem_mem hj)).2⟩
theorem znv (PA:Option Addr) (pc:Nat) (ps:List Int) (CA:Option Addr) (cc:Nat) (cuts:List Int) (TA:Option Addr) (tc:Nat) (ths:List (Int×Tg)) (last:Int) (MA:Option Addr) (mc:Nat) (made:List Int) (w:World) (lo hi:Nat)
 (ht:EnRow w lo hi TA tc ths) (hh:hi<=w.heap.size) (hS:∀x∈ths,(x.2.code.map G.ssz).sum<=1099511627776) (hp:ps.length*8<=140737488351232) (hc:cuts.length*8<=140737488351232) (hm:made.length*8<=140737488351232):
 Calls Tryz.prog 106 #[.agg #[.slice PA ps.length pc,.slice CA cuts.length cc,.slice TA ths.length tc,.int .i64 last,.slice MA made.length mc]] w λe w'=>e= .returned (.bool (zfy ps cuts ths made))/\Fr No w w':=by
 have a3:=zaa (show zfy ps cuts ths made=(decide (ths.length<=120)&&(decide (ps.length<=40)&&(decide (cuts.length<=40)&&(decide (made.length<=40)&&ths.all λx=>x.2.short))))from rfl);have hb:=Blk.new w 71 #[.slice PA ps.length pc,.slice CA cuts.length cc,.slice TA ths.length tc,.int .i64 last,.slice MA made.length mc];have hf:=(Fr.refl No w).alloc (.cells #[.slice PA ps.length pc,.slice CA cuts.length cc,.slice TA ths.length tc,.int .i64 last,.slice MA made.length mc] 71);have HF:=zaa hf;have HB:=zaa hb;have HT:=zaa ht;have HS:=zaa hS;have hl:=ht.len;generalize zfy ps cuts ths made=sh at*;clear ht hS hb hf;go_enter Tryz.func106,Tryz.ntmps106;go_upto_region 1 with(fail);generalize World.alloc w _=W0 at*;obtain⟨d0,d1,d2,d3,d4,-⟩:=HB.out.cells5;have dq:=HB.out.lt;by_cases h1:ths.length<=120
 case neg=>
  have b8:decide ((120:Int)<(ths.length:Int))=true:=so_;have HQ:=zaa (show sh=false by rw[a3.out];simp[h1]);go_wp2;go_ret;exact⟨by rw[HQ.out];rfl,HF.out⟩
 have b8:decide ((120:Int)<(ths.length:Int))=false:=so_;by_cases h2:ps.length<=40
 case neg=>
  have b5:decide ((40:Int)<(ps.length:Int))=true:=so_;have HQ:=zaa (show sh=false by rw[a3.out];simp[h2]);go_wp2;go_ret;exact⟨by rw[HQ.out];rfl,HF.out⟩
 have b5:decide ((40:Int)<(ps.length:Int))=false:=so_;by_cases h3:cuts.length<=40
 case neg=>
  have b9:decide ((40:Int)<(cuts.length:Int))=true:=so_;have HQ:=zaa (show sh=false by rw[a3.out];simp[h3]);go_wp2;go_ret;exact⟨by rw[HQ.out];rfl,HF.out⟩
 have b9:decide ((40:Int)<(cuts.length:Int))=false:=so_;by_cases h4:made.length<=40
 case neg=>
  have b7:decide ((40:Int)<(made.length:Int))=true:=so_;have HQ:=zaa (show sh=false by rw[a3.out];simp[h4]);go_wp2;go_ret;exact⟨by rw[HQ.out];rfl,HF.out⟩
 have b7:decide ((40:Int)<(made.length:Int))=false:=so_;have b4:=zaa (show sh=ths.all λx=>x.2.short by rw[a3.out];simp[h1,h2,h3,h4]);clear a3;go_wp2_with fail;clear d0 d1 d2 d3 d4 dq b5 b9 b7 b8;go_loopw [3] (λi wr=>∃j:Nat,j<=ths.length/\i= .int .i64 j/\Hid (∀t∈ths.take j,t.2.short=true)/\Fr No W0 wr) (λi _=>ths.length - (intOf i).toNat)
 case atStart=>exact⟨0,Nat.zero_le _,rfl,zaa s_,Fr.refl _ _⟩
 case round=>
  obtain⟨j,hj,rfl,c0,fr⟩:=hrel;have a8:=HB.out.fr fr λh=>h;obtain⟨d0,d1,d2,d3,d4,-⟩:=a8.cells5;have dq:=a8.lt;clear a8;by_cases hlt:j<ths.length
  case neg=>
   obtain rfl:ths.length=j:=o_;have c3:=zaa (HF.out.trans fr);clear fr;go_wp2;go_ret;have h:=c0.out;rw[List.take_of_length_le (Nat.le_refl _)]at h;exact⟨by rw[b4.out,List.all_eq_true.2 h];rfl,c3.out⟩
  have b0:=HF.out.trans fr;obtain⟨b,o,rfl,d5,d6,a0,a4⟩:=(HT.out.no b0 hh).elem9 hlt;have hs:=b0.size;have hM:=znt ths[j].2 wr lo hi a4 o_ (HS.out _ (List.getElem_mem hlt));have HN:=zaa λh=>znu hlt h;have b6:ths.take (j+1)=ths.take j++[ths[j]]:=by rw[List.take_add_one,List.getElem?_eq_getElem hlt];rfl
  have a9:=zaa b6;generalize ths[j]=tj at*;obtain⟨rr,kind,home,⟨k,n,s,A,cap,l,r⟩,VA,vc,vs,n1,lost,ofr,byr,set,full,a7,a6,a2,NA,nc,a1⟩:=tj;have a5:(Tg.val ⟨kind,home,T.mk k n s A cap l r,VA,vc,vs,n1,lost,ofr,byr,set,full,a7,a6,a2,NA,nc,a1⟩)= .agg #[.int .u8 kind,.int .i64 home,.int .u8 k,.int .i64 n,.string s,.slice A l.length cap,.int .i64 r,.slice VA vs.length vc,.int .i64 n1,.int .i64 lost,.int .i64 ofr,.int .i64 byr,.int .u8 set,.bool full,.slice a7 a2.length a6,.slice NA a1.length nc]:=rfl;rw[a5]at hM;simp only at hM HN a9;generalize b3:(Tg.short ⟨kind,home,T.mk k n s A cap l r,VA,vc,vs,n1,lost,ofr,byr,set,full,a7,a6,a2,NA,nc,a1⟩)=q at*;have c9:=zaa b3;have x1:wr.cell? ⟨b,o+j*17+1,none⟩=some (.int .u8 kind):=a0 1 _ rfl;have x2:wr.cell? ⟨b,o+j*17+1+1,none⟩=some (.int .i64 home):=a0 2 _ rfl;have x3:wr.cell? ⟨b,o+j*17+1+2,none⟩=some (.int .u8 k):=a0 3 _ rfl;have x4:wr.cell? ⟨b,o+j*17+1+3,none⟩=some (.int .i64 n):=a0 4 _ rfl;have x5:wr.cell? ⟨b,o+j*17+1+4,none⟩=some (.string s):=a0 5 _ rfl;have x6:wr.cell? ⟨b,o+j*17+1+5,none⟩=some (.slice A l.length cap):=a0 6 _ rfl;have x7:wr.cell? ⟨b,o+j*17+1+6,none⟩=some (.int .i64 r):=a0 7 _ rfl;have x8:wr.cell? ⟨b,o+j*17+1+7,none⟩=some (.slice VA vs.length vc):=a0 8 _ rfl;have x9:wr.cell? ⟨b,o+j*17+1+8,none⟩=some (.int .i64 n1):=a0 9 _ rfl;have c4:wr.cell? ⟨b,o+j*17+1+9,none⟩=some (.int .i64 lost):=a0 10 _ rfl;have c1:wr.cell? ⟨b,o+j*17+1+10,none⟩=some (.int .i64 ofr):=a0 11 _ rfl;have c8:wr.cell? ⟨b,o+j*17+1+11,none⟩=some (.int .i64 byr):=a0 12 _ rfl;have c2:wr.cell? ⟨b,o+j*17+1+12,none⟩=some (.int .u8 set):=a0 13 _ rfl;have c7:wr.cell? ⟨b,o+j*17+1+13,none⟩=some (.bool full):=a0 14 _ rfl;have c6:wr.cell? ⟨b,o+j*17+1+14,none⟩=some (.slice a7 a2.length a6):=a0 15 _ rfl;have c5:wr.cell? ⟨b,o+j*17+1+15,none⟩=some (.slice NA a1.length nc):=a0 16 _ rfl;have g0:b<wr.heap.size:=o_;have b2:=zaa fr;have HM:=zaa hM;clear a0 a4 fr hM b6 a5 b0 b3;go_wp2_with fail;refine HM.out.mono ?_;rintro e w5 ⟨rfl,f5⟩;have b1:=zaa f5;clear f5 x1 x2 x3 x4 x5 x6 x7 x8 x9 c4 c1 c8 c2 c7 c6 c5 HM;cases q
  case false=>
   have HQ:=zaa (show sh=false by rw[b4.out];exact HN.out rfl);clear HN a9;go_wp2;go_ret;exact⟨by rw[HQ.out];rfl,(HF.out.trans b2.out).trans b1.out⟩
  go_wp2;go_roundw
  case rel=>
   refine⟨j+1,hlt,by go_num,zaa λt ht=>?_,b2.out.trans b1.out⟩;rw[a9.out]at ht;rcases List.mem_append.1 ht with ht|ht
   .exact c0.out t ht
   .simp only[List.mem_singleton]at ht;subst ht;exact c9.out
  case measure=>simp[intOf];omega
def zyf (ps cuts:List Int) (ths:List (Int×Tg)) (last:Int) (made:List Int) (W:World) (e:Ending) (w':World):Prop:=
 (¬(zfy ps cuts ths made=true/\FromOk ps cuts ths last made)/\e= .returned (.tuple #[.pointer none,.pointer none,.int .i64 1])/\Fr No W w')\/
 (zfy ps cuts ths made=true/\FromOk ps cuts ths last made/\∃(w2:World) (m:Gm) (r:Rw),e= .returned (.tuple #[.pointer (some ⟨m.wb,0,none⟩),.pointer (some ⟨r.wb,0,none⟩),.int .i64 0])/\
  Fr No W w2/\r.Ok W.heap.size w2/\(r.par=ps/\r.cut=zpu ps.length cuts/\zgl ths r.ths/\r.last=last/\r.made=made)/\
  m.Ok w2.heap.size w'/\(m.pl=(Gm.ofT ths).pl/\FacI m (λi=>∃x,m.th[i]? =some x) m.fac/\m.par=ps/\m.cut=zc6 made.length cuts/\m.made=made/\m.last=last)/\Fr No w2 w')
theorem zsb (PA:Option Addr) (pc:Nat) (ps:List Int) (CA:Option Addr) (cc:Nat) (cuts:List Int) (TA:Option Addr) (tc:Nat) (ths:List (Int×Tg)) (last:Int) (MA:Option Addr) (mc:Nat) (made:List Int) (W:World) (lo hi:Nat)
 (hp:Ints W lo hi PA pc ps) (hc:Ints W lo hi CA cc cuts) (ht:EnRow W lo hi TA tc ths) (hm:Ints W lo hi MA mc made) (hla: -9223372036854775808<=last/\last<=9223372036854775807) (hh:hi<=W.heap.size) (hS:∀x∈ths,(x.2.code.map G.ssz).sum<=1099511627776):
 Calls Tryz.prog 39 #[.agg #[.slice PA ps.length pc,.slice CA cuts.length cc,.slice TA ths.length tc,.int .i64 last,.slice MA made.length mc]] W (zyf ps cuts ths last made W):=by
 have b6:=Blk.new W 71 #[.slice PA ps.length pc,.slice CA cuts.length cc,.slice TA ths.length tc,.int .i64 last,.slice MA made.length mc];have d0:=(Fr.refl No W).alloc (.cells #[.slice PA ps.length pc,.slice CA cuts.length cc,.slice TA ths.length tc,.int .i64 last,.slice MA made.length mc] 71);have d5:=zaa b6;have d1:=zaa d0;have c7:Hid (∀w':World,Fr No W w'->Ints w' lo hi PA pc ps/\Ints w' lo hi CA cc cuts/\EnRow w' lo hi TA tc ths/\Ints w' lo hi MA mc made/\hi<=w'.heap.size):=zaa λw' f=>⟨hp.noI f hh,hc.noI f hh,ht.no f hh,hm.noI f hh,Nat.le_trans hh f.size⟩;have d7:=zaa (λ(w':World) (f:Fr No W w')=>znv PA pc ps CA cc cuts TA tc ths last MA mc made w' lo hi (ht.no f hh) (Nat.le_trans hh f.size) hS hp.len hc.len hm.len);have c0:=zaa hla;obtain⟨e0,e1,e2,e3,e4,e5⟩:=b6.cells5;have a6:=b6.lt;clear b6 d0 hp hc ht hm hla hh hS;go_enter Tryz.func39,Tryz.ntmps39;go_wp2_with fail;generalize World.alloc W _=W0 at*;generalize d4:W.heap.size=bx at*;have d2:=zaa d4;clear d4;refine(d7.out W0 d1.out).mono ?_;rintro e w1 ⟨rfl,f1⟩;have a7:=zaa (d1.out.trans f1);have b5:=zaa (d5.out.fr f1 λh=>h);clear f1 e0 e1 e2 e3 e4 e5 a6;obtain⟨e0,e1,e2,e3,e4,e5⟩:=b5.out.cells5;have a6:=b5.out.lt;obtain⟨sw,c2⟩:∃q,zfy ps cuts ths made=q:=⟨_,rfl⟩;have c5:=zaa c2;rw[c2];clear c2;cases sw
 case false=>
  go_wp2;go_ret3
  exact .inl ⟨λh=>(by have:=c5.out;rw[h.1]at this;cases this),rfl,a7.out⟩
 have c9:(ths.length<=120/\ps.length<=40/\cuts.length<=40/\made.length<=40)/\∀x∈ths,x.2.short=true:=by
  have:=c5.out;unfold zfy at this;simp only[Bool.and_eq_true,decide_eq_true_eq]at this;exact⟨⟨this.1,this.2.1,this.2.2.1,this.2.2.2.1⟩,λx hx=>List.all_eq_true.1 this.2.2.2.2 x hx⟩
 have b7:=zaa c9;clear c9;have d6:=zaa (show Calls Tryz.prog 107 #[.agg #[.slice PA ps.length pc,.slice CA cuts.length cc,.slice TA ths.length tc,.int .i64 last,.slice MA made.length mc]] w1 (zjx ps cuts ths last made w1)from by
  obtain⟨a1,a2,a3,a4,a5⟩:=c7.out w1 a7.out;exact zpj PA pc ps CA cc cuts TA tc ths last MA mc made w1 lo hi a1 a2 a3 a4 c0.out a5 b7.out.1 b7.out.2)
 go_wp2_with fail;refine d6.out.mono ?_;rintro e w2 (⟨b8,rfl,f2⟩|⟨a0,r,rfl,a9,b3,f2⟩)
 .have a8:=zaa (a7.out.trans f2);have b0:=zaa (b5.out.fr f2 λh=>h);have d3:=zaa b8;clear f2 b8 e0 e1 e2 e3 e4 e5 a6;obtain⟨e0,e1,e2,e3,e4,e5⟩:=b0.out.cells5;have a6:=b0.out.lt;have c3:=zaa (show Calls Tryz.prog 108 #[.agg #[.slice PA ps.length pc,.slice CA cuts.length cc,.slice TA ths.length tc,.int .i64 last,.slice MA made.length mc]] w2 (zuy ps cuts ths last made w2)from by
   obtain⟨a1,a2,a3,a4,a5⟩:=c7.out w2 a8.out;exact ztj PA pc ps CA cc cuts TA tc ths last MA mc made w2 lo hi a1 a2 a3 a4 c0.out a5 (by have:=b7.out.1.1;omega))
  go_wp2_with fail;refine c3.out.mono ?_;rintro e w3 (⟨-,rfl,f3⟩|⟨a0,-⟩)
  .have c8:=zaa (a8.out.trans f3);clear f3;go_wp2;go_ret3
   exact .inl ⟨λh=>d3.out h.2,rfl,c8.out⟩
  .exact absurd a0 d3.out
 .have a8:=zaa (a7.out.trans f2);have b0:=zaa (b5.out.fr f2 λh=>h);have b4:=zaa a0;have c1:=zaa (a9.less (lo':=bx) (by rw[<-d2.out];exact a7.out.size));have b9:=zaa b3;clear f2 a0 a9 b3 e0 e1 e2 e3 e4 e5 a6;obtain⟨e0,e1,e2,e3,e4,e5⟩:=b0.out.cells5;have a6:=b0.out.lt;have c3:=zaa (show Calls Tryz.prog 108 #[.agg #[.slice PA ps.length pc,.slice CA cuts.length cc,.slice TA ths.length tc,.int .i64 last,.slice MA made.length mc]] w2 (zuy ps cuts ths last made w2)from by
   obtain⟨a1,a2,a3,a4,a5⟩:=c7.out w2 a8.out;exact ztj PA pc ps CA cc cuts TA tc ths last MA mc made w2 lo hi a1 a2 a3 a4 c0.out a5 (by have:=b7.out.1.1;omega))
  go_wp2_with fail;refine c3.out.mono ?_;rintro e w3 (⟨b8,-⟩|⟨-,m,rfl,b1,b2,f3⟩)
  .exact absurd b4.out b8
  .have c8:=zaa f3;have c4:=zaa b1;have c6:=zaa b2;clear f3 b1 b2;go_wp2;go_ret3
   exact .inr ⟨c5.out,b4.out,w2,m,r,rfl,a8.out,by rw[d2.out];exact c1.out,b9.out,c4.out,c6.out,c8.out⟩
structure BW (m:Gm) (lo:Nat) (W:World):Prop where
 ok:m.Ok lo W
 num:∀x∈m.th,1<=x.1/\x.1<=10000000
 kind:∀x∈m.th,1<=x.2.2.kind/\x.2.2.kind<=16
 mays:∀r x,m.get r=some x->x.2.Mays
 len:m.th.length<=120
 hin:∀b x,m.get b=some x->∀q∈x.2.v.v.refs,(m.get q).isSome=true
 snd:m.Snd
theorem BW.no {m:Gm} {lo:Nat} {W W':World} (h:BW m lo W) (f:Fr No W W'):BW m lo W':=⟨h.ok.no f,h.num,h.kind,h.mays,h.len,h.hin,h.snd⟩
theorem zys {ps cuts:List Int} {ths:List (Int×Tg)} {last:Int} {made:List Int} {m:Gm} {lo:Nat} {W:World} (hf:FromOk ps cuts ths last made) (hl:ths.length<=120) (hok:m.Ok lo W)
 (hpl:m.pl=(Gm.ofT ths).pl):BW m lo W:=by
 have a4:=hf.snd.sim hpl.symm;have a6:made.length<=16:=by have:=hf.new.1;have:=hf.sides;omega
 have a8:0<=made.sum/\made.sum<=512*16:=by
  have:=zlu (ths:=ths) (made:=made) (j:=made.length) (k:=16) (λi _=>hf.mades i) a6;rw[List.take_length]at this;simpa using this
 have a3:∀x∈m.th,∃(i:Nat) (z:Int×Tg),ths[i]? =some z/\z.1=x.1/\z.2.pl=x.2.2.pl/\z.2.Form made.length/\1<=x.1/\x.1<=last:=λx hx=>by
  have a7:plE x∈m.pl:=List.mem_map.2 ⟨x,hx,rfl⟩;rw[hpl,zhy]at a7;obtain⟨z,hz,e⟩:=List.mem_map.1 a7;obtain⟨i,hi⟩:=List.mem_iff_getElem?.1 hz;have hg:=hf.thing i z hi;have hp:=zg5 (λi=>hf.thing i) i (by have:=(List.getElem?_eq_some_iff.1 hi).1;omega);have e1:z.1=x.1:=congrArg Prod.fst e;have e2:z.2.pl=x.2.2.pl:=congrArg Prod.snd e;exact⟨i,z,hi,e1,e2,hg.1,by omega,by omega⟩
 have a5:m.th.length<=120:=by rw[ztk hpl];exact hl
 have a9:=hf.lasts;refine⟨hok,λx hx=>?_,λx hx=>?_,λr x hx=>?_,a5,λb x hb q hq=>?_,a4⟩
 .obtain⟨i,z,-,-,-,-,h1,h2⟩:=a3 x hx;exact⟨h1,by omega⟩
 .obtain⟨i,z,-,-,e2,a0,-,-⟩:=a3 x hx;have hb:=a0.1;unfold Tg.Bad1 at hb;have e3:=congrArg TgV.kind e2;simp only[Tg.pl]at e3;have h0:=(hok.st x hx).inn.fit.kind;rw[<-e3]at h0 ⊢;have a1:z.2.kind≠0:=λh=>hb (.inl h);have a2:¬16<z.2.kind:=λh=>hb (.inr (.inl h));omega
 .obtain⟨i,z,-,-,e2,a0,-,-⟩:=a3 _ (Gm.get_mem hx);exact a0.Mays.sim e2
 .have:=a4.bad _ (Gm.get_mem hb);unfold Gm.badB at this;simp only[Bool.or_eq_false_iff,Bool.not_eq_false']at this;have ha:=this.1.1.1;unfold Gm.are at ha;exact List.all_eq_true.1 ha q (List.mem_append_left _ (List.mem_append_left _ hq))
theorem BW.rng {m:Gm} {lo:Nat} {W:World} (h:BW m lo W) {r:Int} (hr:(m.get r).isSome=true):1<=r/\r<=10000000:=by
 obtain⟨x,hx⟩:=Option.isSome_iff_exists.1 hr;exact h.num _ (Gm.get_mem hx)
def ztx (m:Gm) (A:List Int):Prop:=∀r∈A,(m.get r).isSome=true
def zhg (m:Gm) (A:List Int) (base:Nat) (A':Option Addr) (c:Nat) (L:List Int) (n:Int) (w':World):Prop:=
 (¬ztx m A/\(n=2\/n=5))\/(ztx m A/\n=0/\w'.ownsRow base 22 1 (.slice A' L.length c) L.length (zak L)/\L.Pairwise (· < ·)/\(∀r,r∈L↔Unl m A r))
def zv2 (m:Gm) (A:List Int) (W:World) (e:Ending) (w':World):Prop:=
 ∃(A':Option Addr) (c:Nat) (L:List Int) (n:Int),e= .returned (.tuple #[.slice A' L.length c,.int .i64 n])/\Fr No W w'/\zhg m A W.heap.size A' c L n w'
theorem zhg.zero {m:Gm} {A:List Int} {base:Nat} {A':Option Addr} {c:Nat} {L:List Int} {w':World} (h:zhg m A base A' c L 0 w'):w'.ownsRow base 22 1 (.slice A' L.length c) L.length (zak L)/\L.Pairwise (· < ·)/\(∀r,r∈L↔Unl m A r):=by
 rcases h with⟨_,h|h⟩|⟨_,_,h⟩
 .cases h
 .cases h
 .exact h
theorem BW.unl {m:Gm} {lo:Nat} {W:World} (h:BW m lo W) {A L:List Int} (ha:ztx m A) (hs:L.Pairwise (· < ·)) (hm:∀r,r∈L↔Unl m A r):ztx m L/\L.length<=120:=by
 have h1:ztx m L:=λr hr=>((hm r).1 hr).is ha h.hin;exact⟨h1,Nat.le_trans (zk5 h1 (hs.imp λh=>by omega)) h.len⟩
theorem zed {m:Gm} {lo:Nat} {W:World} (h:BW m lo W) (HSORT:Hid SortRefs) (A:Option Addr) (c:Nat) (L:List Int) (hi:Nat) (ht:(T.mk 3 0 ⟨#[]⟩ A c (L.map hT) 0).In W 0 hi) (hhi:hi<=W.heap.size) (hl:L.length<=511):
 Calls Tryz.prog 25 #[.pointer (some ⟨m.wb,0,none⟩),(T.mk 3 0 ⟨#[]⟩ A c (L.map hT) 0).val] W (zv2 m L W):=by
 have hv:(T.mk 3 0 ⟨#[]⟩ A c (L.map hT) 0).v=lV L:=by
  unfold lV;rw[T.v_mk,List.map_map,show(T.v ∘ hT)=hV from funext zyv]
 have hc:=zj5 h.ok h.mays HSORT _ hi ht hhi h.hin;rw[hv]at hc;refine hc.mono ?_;rintro e w' (⟨h1,rfl,f⟩|⟨h1,h2,rfl,f⟩|⟨h1,h2,v,K,rfl,h3,h4,h5,f⟩)
 .refine⟨none,0,[],2,rfl,f,.inl ⟨λha=>?_,.inl rfl⟩⟩;have:(lV L).may=true:=(zxn L).2 ⟨λr hr=>(h.rng (ha r hr)).1,hl⟩;rw[this]at h1;cases h1
 .rw[zqa h1]at h2;exact⟨none,0,[],5,rfl,f,.inl ⟨h2,.inr rfl⟩⟩
 .rw[zqa h1]at h2 h5;obtain⟨A',c',rfl⟩:=za8 h3;exact⟨A',c',K,0,rfl,f,.inr ⟨h2,rfl,h3,h4,h5⟩⟩
theorem zp6 (w:World):(w.alloc (.cells #[] 22)).ownsRow w.heap.size 22 1 (.slice (some ⟨w.heap.size,0,none⟩) 0 0) 0 (zak []):=
 ⟨by simp[zak],.inr ⟨w.heap.size,0,#[],rfl,Nat.le_refl _,World.alloc_heap_new _ _,Nat.le_refl _,by unfold maxLen;omega,by simp,by simp[zak]⟩⟩
theorem zni (HSORT:Hid SortRefs) (HAW:Hid (∀W:World,Calls Tryz.prog 17 #[] W λe w'=>e= .returned (.bool true)/\Fr No W w')) (PA:Option Addr) (pc:Nat) (ps:List Int) (CA:Option Addr) (cc:Nat) (cuts:List Int) (TA:Option Addr) (tc:Nat) (ths:List (Int×Tg)) (last:Int) (MA:Option Addr) (mc:Nat) (made:List Int) (XA:Option Addr) (xc:Nat) (xs:List Int) (YA:Option Addr) (yc:Nat) (ys:List Int) (W:World)
 (hp:Ints W 0 W.heap.size PA pc ps) (hc:Ints W 0 W.heap.size CA cc cuts) (ht:EnRow W 0 W.heap.size TA tc ths) (hm:Ints W 0 W.heap.size MA mc made) (i8: -9223372036854775808<=last/\last<=9223372036854775807) (hS:∀x∈ths,(x.2.code.map G.ssz).sum<=1099511627776)
 (hx:Ints W 0 W.heap.size XA xc xs) (hy:Ints W 0 W.heap.size YA yc ys):
 Calls Tryz.prog 6 #[.agg #[.slice PA ps.length pc,.slice CA cuts.length cc,.slice TA ths.length tc,.int .i64 last,.slice MA made.length mc],.slice XA xs.length xc,.slice YA ys.length yc] W λe w'=>e= .returned (.bool true)/\Fr No W w':=by
 have c2:=(Fr.refl No W).alloc (.cells #[.slice PA ps.length pc,.slice CA cuts.length cc,.slice TA ths.length tc,.int .i64 last,.slice MA made.length mc] 71);have j3:=Blk.new W 71 #[.slice PA ps.length pc,.slice CA cuts.length cc,.slice TA ths.length tc,.int .i64 last,.slice MA made.length mc];have hR:=zsb PA pc ps CA cc cuts TA tc ths last MA mc made (W.alloc (.cells #[.slice PA ps.length pc,.slice CA cuts.length cc,.slice TA ths.length tc,.int .i64 last,.slice MA made.length mc] 71)) 0 W.heap.size (hp.noI c2 (Nat.le_refl _)) (hc.noI c2 (Nat.le_refl _)) (ht.no c2 (Nat.le_refl _)) (hm.noI c2 (Nat.le_refl _)) i8 c2.size hS;have HX:=zaa hx;have HY:=zaa hy;have i7:=hx.len;have q8:=hy.len;have HR:=zaa hR;have k2:=zaa c2;obtain⟨d0,d1,d2,d3,d4,df⟩:=j3.cells5;have dq:=j3.lt;clear c2 j3 hR hp hc ht hm i8 hS hx hy;go_enter Tryz.func6,Tryz.ntmps6;go_wp2_with fail;generalize World.alloc W _=W0 at*;refine HR.out.mono ?_;rintro e w1 (⟨-,rfl,f1⟩|⟨i2,o1,w2,m,r,rfl,f2,-,-,o5,⟨q1,-,-,-,-,i8⟩,f1⟩)
 .have e0:=zaa (k2.out.trans f1);clear f1 d0 d1 d2 d3 d4 df dq HR;go_wp2_with fail;refine(HAW.out w1).mono ?_;rintro e w2 ⟨rfl,f2⟩;have a5:=zaa (e0.out.trans f2);clear f2;go_wp2;go_ret;exact⟨rfl,a5.out⟩
 have g7:ths.length<=120:=by
  unfold zfy at i2;simp only[Bool.and_eq_true,decide_eq_true_eq]at i2;exact i2.1
 have a6:=zaa (zys o1 g7 o5 q1);have e0:=zaa (k2.out.trans (f2.trans f1));clear f1 f2 d0 d1 d2 d3 d4 df dq HR i2 o1 o5 q1 i8 g7 k2;by_cases a9:200<(xs.length:Int)+ys.length
 case pos=>
  have g0:decide (200<(xs.length:Int)+ys.length)=true:=by simpa using a9
  clear a9;go_wp2_with fail;refine(HAW.out w1).mono ?_;rintro e w3 ⟨rfl,f3⟩;have a5:=zaa (e0.out.trans f3);clear f3;go_wp2;go_ret;exact⟨rfl,a5.out⟩
 have g0:decide (200<(xs.length:Int)+ys.length)=false:=by simpa using a9
 have n1:xs.length<=200:=o_;have o7:ys.length<=200:=o_;have a7:=zaa (And.intro n1 o7);clear a9;go_upto_region 4 with(fail);clear g0 n1 o7 i7 q8;generalize w2.heap.size=lo at*;go_wp2_with fail;refine(zqb (HX.out.no e0.out (Nat.le_refl _)) e0.out.size (by have:=a7.out;omega)).mono ?_;rintro e w3 ⟨A3,c3,rfl,g2,f3⟩;have k5:=zaa (zed (a6.out.no f3) HSORT A3 c3 xs w3.heap.size (T.In.more (Nat.zero_le _) (Nat.le_refl _) _ g2) (Nat.le_refl _) (by have:=a7.out;omega));have r6:=zaa (e0.out.trans f3);have j6:=zaa (a6.out.no f3);rw[T.val_mk,List.length_map]at k5 ⊢;clear f3 g2;go_wp2_with fail;refine k5.out.mono ?_;clear k5;rintro e w4 ⟨A4,c4,L4,n4,rfl,f4,h5⟩;have g1:=zaa h5;have j0:=zaa (r6.out.trans f4);have m3:=zaa (j6.out.no f4);clear f4 h5;go_upto_region 5 with(fail);have p7:=zaa (zp6 w4);have o2:=zaa (j0.out.trans ((Fr.refl No w4).alloc (.cells #[] 22)));have d7:=zaa ((Fr.refl No w4).alloc (.cells #[] 22));have n2:=zaa (zek (HX.out.no o2.out (Nat.le_refl _)));go_wp2_with (first|(at_builtin;refine zbf _ r_ _ _ zgc r_ w4.heap.size _ 0 _ r_ p7.out 0 W.heap.size XA xs.length xc _ r_ n2.out (by have:=a7.out;omega) (by have:=a7.out;omega) d7.out.size ?_;intro A5 c5 w5 hk;have r3:=zaa hk;have i3:=zaa (d7.out.trans' hk.fr λi hi e=>by simp only[Value.ownBlock,Option.some.injEq]at e;omega);have m9:=zaa (zek (HY.out.no (j0.out.trans i3.out) (Nat.le_refl _)));have o8:w5.ownsRow w4.heap.size 22 1 (.slice A5 xs.length c5) xs.length (zak xs):=(by have:=hk.1;rw[Nat.zero_add]at this;exact this);have j2:=zaa o8;clear hk o8;try rw[Nat.zero_add])|(at_builtin;refine zbf _ r_ _ _ zgc r_ w4.heap.size _ xs.length _ r_ j2.out 0 W.heap.size YA ys.length yc _ r_ m9.out (by have:=a7.out;omega) (by have:=a7.out;omega) i3.out.size ?_;intro A6 c6 w6 hk;have p2:=zaa (i3.out.trans' hk.fr λi hi e=>by have:=(zaj j2.out i e).1;omega);have n5:w6.ownsRow w4.heap.size 22 1 (.slice A6 (xs++ys).length c6) (xs++ys).length (zak (xs++ys)):=(by have:=hk.1;rw[List.length_append,show zak (xs++ys)=zak xs++ys.map (λn=>Value.int .i64 n) by simp[zak]];exact this);have p3:=zaa n5;clear hk n5));have i0:=zaa (ze8 p3.out (by rw[List.length_append];have:=a7.out;omega) λr hr=>by
  rcases List.mem_append.1 hr with hr|hr
  .exact HX.out.rng r hr
  .exact HY.out.rng r hr)
 have e2:=zaa (zqb i0.out (Nat.le_refl _) (by rw[List.length_append];have:=a7.out;omega));rw[List.length_append]at e2;refine e2.out.mono ?_;rintro e w7 ⟨A7,c7,rfl,i1,f7⟩;have m1:=zaa (p2.out.trans f7);have b7:=zaa (m3.out.no m1.out);have k9:=zaa (zed b7.out HSORT A7 c7 (xs++ys) w7.heap.size (T.In.more (Nat.zero_le _) (Nat.le_refl _) _ i1) (Nat.le_refl _) (by rw[List.length_append];have:=a7.out;omega));rw[T.val_mk,List.length_map,List.length_append]at k9 ⊢;clear f7 i1 e2 i0 p3 j2 m9 n2 p7 o2 r3 d7 i3 p2;go_wp2_with fail;refine k9.out.mono ?_;clear k9;rintro e w8 ⟨A8,c8,L8,n8,rfl,f8,g5⟩;have e3:=zaa g5;have b6:=zaa (m1.out.trans f8);have b0:=zaa (b7.out.no f8);clear f8 g5 m1 b7;have e5:(n4=0/\n8=0/\zhg m xs w3.heap.size A4 c4 L4 0 w4/\ztx m xs/\zhg m (xs++ys) w7.heap.size A8 c8 L8 0 w8/\ztx m (xs++ys))\/((n4=0\/n4=2\/n4=5)/\(n8=2\/n8=5)):=by
  have h4:=g1.out;have h8:=e3.out;rcases h8 with⟨a8,b8⟩|⟨a8,rfl,b8⟩
  .refine .inr ⟨?_,b8⟩;rcases h4 with⟨_,b4⟩|⟨_,b4,_⟩
   .exact .inr b4
   .exact .inl b4
  .have ax:ztx m xs:=λr hr=>a8 r (List.mem_append_left _ hr);rcases h4 with⟨a4,_⟩|⟨a4,rfl,b4⟩
   .exact absurd ax a4
   .exact .inl ⟨rfl,rfl,.inr ⟨a4,rfl,b4⟩,ax,.inr ⟨a8,rfl,b8⟩,a8⟩
 clear g1 e3;go_upto_region 6 with(fail);rcases e5 with⟨rfl,rfl,o0,d6,o6,p5⟩|⟨h4,h8⟩
 case inr=>
  have l3:=zaa (j0.out.trans b6.out);rcases h4 with rfl|rfl|rfl<;>rcases h8 with rfl|rfl<;>(go_wp2_with fail;refine(HAW.out w8).mono ?_;rintro e w9 ⟨rfl,f9⟩;have d8:=zaa (l3.out.trans f9);clear f9;go_wp2;go_ret;exact⟨rfl,d8.out⟩)
 have p4:=zaa o0;have p1:=zaa o6;have s1:=zaa d6;have q5:=zaa p5;clear o0 o6 d6 p5;obtain⟨b1,j5,k0⟩:=p4.out.zero;obtain⟨g8,m6,j4⟩:=p1.out.zero;obtain⟨p6,n3⟩:=a6.out.unl s1.out j5 k0;obtain⟨n6,n9⟩:=a6.out.unl q5.out m6 j4;have l0:=zaa (zaf b1 b6.out λ_ _ h=>h);have q3:=zaa g8;have a1:=zaa (And.intro j5 (And.intro k0 (And.intro p6 n3)));have l5:=zaa (And.intro m6 (And.intro j4 (And.intro n6 n9)));have l3:=zaa (j0.out.trans b6.out);clear b1 j5 k0 g8 m6 j4 p6 n3 n6 n9 p4 p1;have i0:=zaa (ze8 l0.out (by have:=a1.out.2.2.2;omega) λr hr=>by have:=a6.out.rng (a1.out.2.2.1 r hr);omega);go_upto_region 8 with(fail);go_wp2_with fail;refine(zqb i0.out (Nat.le_refl _) (by have:=a1.out.2.2.2;omega)).mono ?_;rintro e w9 ⟨A9,c9,rfl,h9,f9⟩;have d8:=zaa f9;have l8:=zaa (zed (b0.out.no f9) HSORT A9 c9 L4 w9.heap.size (T.In.more (Nat.zero_le _) (Nat.le_refl _) _ h9) (Nat.le_refl _) (by have:=a1.out.2.2.2;omega));rw[T.val_mk,List.length_map]at l8 ⊢;clear f9 h9 i0;go_wp2_with fail;refine l8.out.mono ?_;clear l8;rintro e p0 ⟨r4,s0,i4,q7,rfl,n7,b2⟩;have j9:=zaa (d8.out.trans n7);obtain⟨rfl,h6,rfl⟩:q7=0/\p0.ownsRow w9.heap.size 22 1 (.slice r4 i4.length s0) i4.length (zak i4)/\L4=i4:=by
  rcases b2 with⟨h,_⟩|⟨_,h0,h1,h2,h3⟩
  .exact absurd a1.out.2.2.1 h
  .exact⟨h0,h1,(zp5 h2 a1.out.1 λr=>(h3 r).trans ((zss a1.out.2.1).trans (a1.out.2.1 r).symm)).symm⟩
 have m2:=zaa h6;clear n7 b2 h6;have l6:Hid (∀r∈L4,1<=r/\r<=10000000):=zaa λr hr=>a6.out.rng (a1.out.2.2.1 r hr);have i9:=zaa (ze8 l0.out (by have:=a1.out.2.2.2;omega) λr hr=>by have:=l6.out r hr;omega);have r0:=zaa (ze8 q3.out (by have:=l5.out.2.2.2;omega) λr hr=>by have:=a6.out.rng (l5.out.2.2.1 r hr);omega);have j8:=zaa (ze8 m2.out (by have:=a1.out.2.2.2;omega) λr hr=>by have:=l6.out r hr;omega);go_wp2_with fail;go_loopw [16,17] (λqv v wr=>∃(qb:Bool) (j:Nat),qv= .bool qb/\j<=L4.length/\v= .int .i64 j/\Hid (Fr No p0 wr)/\Hid (qb=false->∀r∈L4.take j,m.kind r≠6)) (λ_ v _=>L4.length - (intOf v).toNat)
 case atStart=>exact⟨false,0,rfl,Nat.zero_le _,rfl,zaa (Fr.refl _ _),zaa (λ_=>by simp)⟩
 case round=>
  obtain⟨qb,j,rfl,hj,rfl,HF,HQ⟩:=hrel;have a0:=zaa (j9.out.trans HF.out);have f0:=zaa (l3.out.trans a0.out);by_cases hlt:j<L4.length
  case neg=>
   obtain rfl:L4.length=j:=o_;have n0:Hid (qb=false->∀r∈L4,m.kind r≠6):=zaa λh r hr=>HQ.out h r (by rw[List.take_length];exact hr);clear hlt hj HQ;obtain⟨wo,rfl⟩:∃wo:World,wo=wr:=⟨_,rfl⟩;go_wp2_with fail;go_loopw [18] (λv wr=>∃i:Nat,i<=xs.length/\v= .int .i64 i/\Hid (Fr No wo wr)) (λv _=>xs.length - (intOf v).toNat)
   case atStart=>exact⟨0,Nat.zero_le _,rfl,zaa (Fr.refl _ _)⟩
   case round=>
    obtain⟨i,hi,rfl,HG⟩:=hrel;by_cases hlt:i<xs.length
    case pos=>
     obtain⟨g,o,j7,-,l2,hx⟩:=(HX.out.no (f0.out.trans HG.out) (Nat.le_refl _)).elem hlt;have hg:g<wr.heap.size:=by have:=(f0.out.trans HG.out).size;omega
     have r5:=a7.out.1;subst j7;obtain⟨r,a2⟩:∃r,xs[i]=r:=⟨_,rfl⟩;have b1:decide (r∈L4)=true:=decide_eq_true ((a1.out.2.1 r).2 (.base (by rw[<-a2];exact List.getElem_mem hlt)));rw[a2]at hx;have e7:=zaa (zsw (i9.out.no (a0.out.trans HG.out) (Nat.le_refl _)) (a0.out.trans HG.out).size r);rw[b1]at e7;clear b1 a2 l2;go_wp2_with fail;refine e7.out.mono ?_;rintro e w5 ⟨rfl,rfl⟩;go_wp2_with fail;go_roundw
     case rel=>exact⟨i+1,hlt,by go_num,HG⟩
     case measure=>simp[intOf];omega
    case neg=>
     obtain rfl:xs.length=i:=o_;clear hlt hi;have i5:=zaa (f0.out.trans HG.out);have e9:=zaa (a0.out.trans HG.out);obtain⟨w5,rfl⟩:∃w5:World,w5=wr:=⟨_,rfl⟩;clear HG;cases qb
     case true=>
      go_wp2_with fail;refine(HAW.out _).mono ?_;rintro e w9 ⟨rfl,f9⟩;have d8:=zaa (i5.out.trans f9);clear f9;go_wp2;go_ret;exact⟨rfl,d8.out⟩
     case false=>
      have g3:Hid (∀r∈L4,r∈xs):=zaa λr hr=>by
       rcases((a1.out.2.1 r).1 hr).inv with h|⟨b,o,x,y,hb,hx,kx,ho,hy,ky,e,hr⟩
       .exact h
       .refine absurd ?_ (n0.out (by first|exact trivial|rfl) o ((a1.out.2.1 o).2 ho));unfold Gm.kind;rw[hy];exact ky
      clear n0;go_wp2_with fail;go_loopw [19] (λv wr=>∃i:Nat,i<=L4.length/\v= .int .i64 i/\Hid (Fr No w5 wr)) (λv _=>L4.length - (intOf v).toNat)
      case atStart=>exact⟨0,Nat.zero_le _,rfl,zaa (Fr.refl _ _)⟩
      case round=>
       obtain⟨i,hi,rfl,HG⟩:=hrel;by_cases hlt:i<L4.length
       case pos=>
        obtain⟨g,o,j7,-,l2,hx⟩:=(i9.out.no (e9.out.trans HG.out) (Nat.le_refl _)).elem hlt;have hg:g<wr.heap.size:=by have:=(e9.out.trans HG.out).size;omega
        have r5:=a1.out.2.2.2;subst j7;obtain⟨r,a2⟩:∃r,L4[i]=r:=⟨_,rfl⟩;have b1:decide (r∈xs)=true:=decide_eq_true (g3.out r (by rw[<-a2];exact List.getElem_mem hlt));rw[a2]at hx;have e7:=zaa (zsw (HX.out.no (i5.out.trans HG.out) (Nat.le_refl _)) (i5.out.trans HG.out).size r);rw[b1]at e7;clear b1 a2 l2;go_wp2_with fail;refine e7.out.mono ?_;rintro e w6 ⟨rfl,rfl⟩;go_wp2_with fail;go_roundw
        case rel=>exact⟨i+1,hlt,by go_num,HG⟩
        case measure=>simp[intOf];omega
       case neg=>
        obtain rfl:L4.length=i:=o_;go_wp2_with fail;refine(HAW.out _).mono ?_;rintro e w9 ⟨rfl,f9⟩;have d8:=zaa ((i5.out.trans HG.out).trans f9);clear f9;go_wp2;go_ret;exact⟨rfl,d8.out⟩
  case pos=>
   obtain⟨wo,rfl⟩:∃wo:World,wo=wr:=⟨_,rfl⟩;have m8:=a1.out.2.2.2;obtain⟨r,a2⟩:∃r,L4[j]=r:=⟨_,rfl⟩;have b3:Hid (r∈L4):=zaa (by rw[<-a2];exact List.getElem_mem hlt);have e4:Hid (L4.take (j+1)=L4.take j++[r]):=zaa (by rw[<-a2];exact List.take_succ_eq_append_getElem hlt);have f5:=zaa ((i9.out.no a0.out (Nat.le_refl _)).elem hlt);obtain⟨g4,o4,p8,-,r9,d6⟩:=f5.out;obtain⟨l4,q6,m0,-,m5,c1⟩:=(j8.out.no HF.out (Nat.le_refl _)).elem hlt;have r8:=a0.out.size;have k7:=HF.out.size;have q4:g4<wo.heap.size:=o_;have k4:l4<wo.heap.size:=o_;have o9:Hid (∀j1,j1+1=j->∃r1,wo.cell? ⟨g4,o4+j1,none⟩=some (.int .i64 r1)/\r1<r):=zaa λj1 e1=>by
    have h1:j1<L4.length:=o_;obtain⟨g,o,hA,-,-,h2⟩:=(i9.out.no a0.out (Nat.le_refl _)).elem h1;rw[p8]at hA;simp only[Option.some.injEq,Addr.mk.injEq]at hA;obtain⟨rfl,rfl,-⟩:=hA;refine⟨_,h2,?_⟩;rw[<-a2];exact List.pairwise_iff_getElem.1 a1.out.1 _ _ _ _ o_
   rw[a2]at d6 c1;clear a2 f5;subst p8 m0;have a3:Nonempty (ClN wo):=⟨⟨wo,Fr.refl No wo⟩⟩;have k1:∀q:ClN wo,q.w.cell? ⟨g4,o4+j,none⟩=some (.int .i64 r):=λq=>(q.fr.cell q4 λh=>h).trans d6;have c0:∀q:ClN wo,q.w.cell? ⟨l4,q6+j,none⟩=some (.int .i64 r):=λq=>(q.fr.cell k4 λh=>h).trans c1;have k3:∀q:ClN wo,g4<q.w.heap.size:=λq=>Nat.lt_of_lt_of_le q4 q.fr.size;have d5:∀q:ClN wo,l4<q.w.heap.size:=λq=>Nat.lt_of_lt_of_le k4 q.fr.size;have g8:decide (r∈L8)=true:=decide_eq_true ((l5.out.2.1 r).2 (((a1.out.2.1 r).1 b3.out).mono λq hq=>.base (List.mem_append_left _ hq)));obtain⟨k,hk⟩:∃k,m.kind r=k:=⟨_,rfl⟩;have HK:=zaa hk;have s6:(k==0)=false:=by
    obtain⟨x,hx⟩:=Option.isSome_iff_exists.1 (a1.out.2.2.1 r b3.out);have h1:=a6.out.kind _ (Gm.get_mem hx);have h2:x.2.kind=k:=by rw[<-hk];unfold Gm.kind;rw[hx];rfl
    have h3:1<=x.2.kind:=h1.1;simp only[beq_eq_false_iff_ne,ne_eq];omega
   have k8:Hid (∀q:ClN wo,Calls Tryz.prog 44 #[.pointer (some ⟨m.wb,0,none⟩),.int .i64 r] q.w λe d9=>e= .returned (.int .u8 k)/\∃q':ClN wo,d9=q'.w):=zaa λq=>by
    refine(zd9 ((b0.out.no a0.out).no q.fr).ok r).mono ?_;rintro e d9 ⟨rfl,rfl⟩;rw[hk];exact⟨rfl,q,rfl⟩
   have m4:Hid (∀q:ClN wo,Calls Tryz.prog 43 #[.slice A8 L8.length c8,.int .i64 r] q.w λe d9=>e= .returned (.bool true)/\∃q':ClN wo,d9=q'.w):=zaa λq=>by
    refine(zsw (r0.out.no (a0.out.trans q.fr) (Nat.le_refl _)) (a0.out.trans q.fr).size r).mono ?_;rintro e d9 ⟨rfl,rfl⟩;rw[g8];exact⟨rfl,q,rfl⟩
   clear hk g8 r8 k7 c1 r9 m5;go_upto_region 15 with(fail);go_cut [150]from 108 to 150 (λv wc=>v= .bool false/\Fr No wo wc)
   case first=>as_aux_lemma=>
    by_cases l1:j=0
    case pos=>
     have d3:decide (0<j)=false:=by simp[l1]
     clear l1;refine zab (λW'=>∃q:ClN wo,W'=q.w) k_ k_ ⟨⟨_,(Fr.refl No wo).drew⟩,rfl⟩ ?_;repeat(go_big_quiet_step (first|(go_at_call 43;exact m4.out _)|(go_at_call 44;exact k8.out _)))
     refine wpQuiet_nil ?_;rintro w2 ⟨⟨_,f2⟩,rfl⟩;have a5:=zaa f2;clear f2 a3 k1 c0 k3 d5;go_wp2_with fail;go_meet
     case rel=>exact⟨rfl,a5.out⟩
    case neg=>
     obtain⟨j1,q2⟩:∃j1,j1+1=j:=⟨j - 1,by omega⟩;obtain⟨r1,i7,s2⟩:=o9.out j1 q2;have q9:∀q:ClN wo,q.w.cell? ⟨g4,o4+j1,none⟩=some (.int .i64 r1):=λq=>(q.fr.cell q4 λh=>h).trans i7;have d3:decide (0<j)=true:=so_;have d4:decide (r<=r1)=false:=so_;have s4:IntKind.i64.wrap ((j:Int) - 1)=(j1:Int):=by
      rw[show(j:Int) - 1=(j1:Int) by omega];exact IntWalk.i64_in _ o_
     have s3:j1<L4.length:=o_;clear l1 q2 s2 i7;refine zab (λW'=>∃q:ClN wo,W'=q.w) k_ k_ ⟨⟨_,(Fr.refl No wo).drew⟩,rfl⟩ ?_;repeat(go_big_quiet_step (first|(go_at_call 43;exact m4.out _)|(go_at_call 44;exact k8.out _)))
     refine wpQuiet_nil ?_;rintro w2 ⟨⟨_,f2⟩,rfl⟩;have a5:=zaa f2;clear f2 a3 k1 c0 k3 d5 q9;go_wp2_with fail;go_meet
     case rel=>exact⟨rfl,a5.out⟩
   case rest=>
    obtain⟨rfl,f2⟩:=hcut;obtain⟨w2,rfl⟩:∃w2:World,w2=wc:=⟨_,rfl⟩;have a5:=zaa (HF.out.trans f2);have b5:=zaa (a0.out.trans f2);have g9:=zaa (f0.out.trans f2);have k6:g4<w2.heap.size:=Nat.lt_of_lt_of_le q4 f2.size;have p9:w2.cell? ⟨g4,o4+j,none⟩=some (.int .i64 r):=(f2.cell q4 λh=>h).trans d6;have b9:=zd9 (b0.out.no b5.out).ok r;rw[HK.out]at b9;have h7:=zaa b9;clear b9;have m7:Hid (r∉xs->∃b∈L4,∃o∈L4,zk4 m r b o):=zaa λhn=>by
     rcases((a1.out.2.1 r).1 b3.out).inv with h|⟨b,o,x,y,hb,hx,kx,ho,hy,ky,e,hr⟩
     .exact absurd h hn
     .refine⟨b,(a1.out.2.1 b).2 hb,o,(a1.out.2.1 o).2 ho,⟨x,y,hx,kx,hy,ky,e.symm⟩,x,hx,?_⟩;rw[<-zfn (a6.out.mays b x hx).v];exact hr
    clear f2 d6 q4 k4 k8 m4 a3 k1 c0 k3 d5 o9 HF a0 f0;go_upto_region 17 with(fail);go_cut [16]from 151 to 160 (λv wc=>∃q':Bool,v= .bool q'/\Hid (q'=false->qb=false/\k≠6)/\Fr No w2 wc)
    case first=>
     cases qb
     case true=>
      go_wp2_with fail;go_meet
      case rel=>exact⟨true,rfl,zaa (λh=>by cases h),Fr.refl _ _⟩
     case false=>
      go_wp2_with fail;refine h7.out.mono ?_;rintro e d9 ⟨rfl,rfl⟩;obtain⟨qk,r7⟩:∃qk,(k==6)=qk:=⟨_,rfl⟩;have r2:=zaa r7;go_wp2_with fail;go_meet
      case rel=>exact⟨qk,rfl,zaa (λh=>⟨by first|exact trivial|rfl,by have:=r2.out;rw[h]at this;simpa using this⟩),Fr.refl _ _⟩
    case rest=>
     obtain⟨q',rfl,q0,f3⟩:=hcut;obtain⟨i6,rfl⟩:∃i6:World,i6=wc:=⟨_,rfl⟩;have e8:=zaa (a5.out.trans f3);have e6:=zaa (b5.out.trans f3);have g6:=zaa (g9.out.trans f3);have s7:g4<i6.heap.size:=Nat.lt_of_lt_of_le k6 f3.size;have s5:i6.cell? ⟨g4,o4+j,none⟩=some (.int .i64 r):=(f3.cell k6 λh=>h).trans p9;have o3:Hid (q'=false->∀r'∈L4.take (j+1),m.kind r'≠6):=zaa λh r' hr'=>by
      obtain⟨h1,h2⟩:=q0.out h;rw[e4.out,List.mem_append,List.mem_singleton]at hr';rcases hr' with h'|rfl
      .exact HQ.out h1 r' h'
      .rw[HK.out];exact h2
     clear f3 p9 k6 q0 a5 b5 g9 h7 HQ;obtain⟨d,hd⟩:∃d,decide (r∈xs)=d:=⟨_,rfl⟩;have l7:=zaa (zsw (HX.out.no g6.out (Nat.le_refl _)) g6.out.size r);rw[hd]at l7;have HD:Hid (d=false->r∉xs):=zaa λh=>by rw[h]at hd;exact of_decide_eq_false hd
     clear hd;go_wp2_with fail;refine l7.out.mono ?_;rintro e w5 ⟨rfl,rfl⟩;clear l7;cases d
     case true=>
      go_wp2_with fail;go_roundw
      case rel=>exact⟨q',j+1,rfl,hlt,by go_num,e8,o3⟩
      case measure=>simp[intOf];omega
     case false=>
      have e2:=zaa (m7.out (HD.out (by first|exact trivial|rfl)));clear m7 HD;go_wp2_with fail;refine(zxk (b0.out.no e6.out).ok a6.out.mays w3.heap.size (zaf l0.out e6.out λ_ _ h=>h) o_ a1.out.2.2.1 (λr hr=>by have:=l6.out r hr;omega) r).mono ?_;rintro e w6 ⟨d,rfl,hd,f6⟩;obtain rfl:d=true:=hd e2.out;have l9:=zaa (e8.out.trans f6);clear hd f6 e2;go_wp2_with fail;go_roundw
      case rel=>exact⟨q',j+1,rfl,hlt,by go_num,l9,o3⟩
      case measure=>simp[intOf];omega
end Go.Proofs.YtlejelbefmkakaaGreat
namespace Go.Proofs.YtlejelbefmkakaaGreat
open Go.RowKit Go.Sort Go.Shelf
def laySM_ren : Go.Shelf.Ren:=⟨λ| 5=>96|8=>167|7=>166|19=>227|20=>228|10=>218|11=>219|12=>220|13=>221|14=>222|15=>223|16=>224|17=>225|18=>226|30=>258|31=>259|32=>260|33=>261|34=>262|35=>263|40=>278|n=>n,λ|23=>54|25=>22|3=>3|32=>132|22=>54|0=>0|44=>291|46=>293|4=>4|36=>284|35=>283|41=>288|5=>5|9=>9|53=>318|57=>210|63=>329|64=>330|n=>n,λ|n=>n⟩
theorem laySM : Go.Proofs.SlLaysM.n5 Tryz.prog laySM_ren:={
 mixed:=by kernel_rfl,
 f5:=⟨Tryz.f96.name, by decide, Tryz.func96.trans (congrArg some (by kernel_rfl))⟩,
 f7:=⟨Tryz.f166.name, by decide, Tryz.func166.trans (congrArg some (by kernel_rfl))⟩,
 f8:=Tryz.func167.trans (congrArg some (by kernel_rfl)),
 f10:=⟨Tryz.f218.name, by decide, Tryz.func218.trans (congrArg some (by kernel_rfl))⟩,
 f11:=⟨Tryz.f219.name, by decide, Tryz.func219.trans (congrArg some (by kernel_rfl))⟩,
 f12:=⟨Tryz.f220.name, by decide, Tryz.func220.trans (congrArg some (by kernel_rfl))⟩,
 f13:=⟨Tryz.f221.name, by decide, Tryz.func221.trans (congrArg some (by kernel_rfl))⟩,
 f14:=⟨Tryz.f222.name, by decide, Tryz.func222.trans (congrArg some (by kernel_rfl))⟩,
 f15:=⟨Tryz.f223.name, by decide, Tryz.func223.trans (congrArg some (by kernel_rfl))⟩,
 f16:=⟨Tryz.f224.name, by decide, Tryz.func224.trans (congrArg some (by kernel_rfl))⟩,
 f17:=⟨Tryz.f225.name, by decide, Tryz.func225.trans (congrArg some (by kernel_rfl))⟩,
 f18:=⟨Tryz.f226.name, by decide, Tryz.func226.trans (congrArg some (by kernel_rfl))⟩,
 f19:=Tryz.func227.trans (congrArg some (by kernel_rfl)),
 f20:=Tryz.func228.trans (congrArg some (by kernel_rfl)),
 f30:=⟨Tryz.f258.name, by decide, Tryz.func258.trans (congrArg some (by kernel_rfl))⟩,
 f31:=Tryz.func259.trans (congrArg some (by kernel_rfl)),
 f32:=Tryz.func260.trans (congrArg some (by kernel_rfl)),
 f33:=⟨Tryz.f261.name, by decide, Tryz.func261.trans (congrArg some (by kernel_rfl))⟩,
 f34:=⟨Tryz.f262.name, by decide, Tryz.func262.trans (congrArg some (by kernel_rfl))⟩,
 f35:=⟨Tryz.f263.name, by decide, Tryz.func263.trans (congrArg some (by kernel_rfl))⟩,
 f40:=⟨Tryz.f278.name, by decide, Tryz.func278.trans (congrArg some (by kernel_rfl))⟩,
 t0:=Tryz.underlying0,
 a0:=Tryz.isAgg0,
 z0:=Tryz.sizeOf0,
 v0:=Tryz.zeroValue0,
 t3:=Tryz.underlying3,
 a3:=Tryz.isAgg3,
 z3:=Tryz.sizeOf3,
 v3:=Tryz.zeroValue3,
 t4:=Tryz.underlying4,
 a4:=Tryz.isAgg4,
 z4:=Tryz.sizeOf4,
 v4:=Tryz.zeroValue4,
 t5:=Tryz.underlying5,
 a5:=Tryz.isAgg5,
 z5:=Tryz.sizeOf5,
 v5:=Tryz.zeroValue5,
 t9:=Tryz.underlying9,
 a9:=Tryz.isAgg9,
 z9:=Tryz.sizeOf9,
 v9:=Tryz.zeroValue9,
 t22:=Tryz.underlying54,
 a22:=Tryz.isAgg54,
 z22:=Tryz.sizeOf54,
 v22:=Tryz.zeroValue54,
 t23:=Tryz.underlying54,
 a23:=Tryz.isAgg54,
 z23:=Tryz.sizeOf54,
 v23:=Tryz.zeroValue54,
 t25:=Tryz.underlying22,
 a25:=Tryz.isAgg22,
 z25:=Tryz.sizeOf22,
 v25:=Tryz.zeroValue22,
 t32:=Tryz.underlying132,
 a32:=Tryz.isAgg132,
 z32:=Tryz.sizeOf132,
 v32:=Tryz.zeroValue132,
 t35:=Tryz.underlying283,
 a35:=Tryz.isAgg283,
 z35:=Tryz.sizeOf283,
 v35:=Tryz.zeroValue283,
 t36:=Tryz.underlying284,
 a36:=Tryz.isAgg284,
 z36:=Tryz.sizeOf284,
 v36:=Tryz.zeroValue284,
 t41:=Tryz.underlying288,
 a41:=Tryz.isAgg288,
 z41:=Tryz.sizeOf288,
 v41:=Tryz.zeroValue288,
 t44:=Tryz.underlying291,
 a44:=Tryz.isAgg291,
 z44:=Tryz.sizeOf291,
 v44:=Tryz.zeroValue291,
 t46:=Tryz.underlying293,
 a46:=Tryz.isAgg293,
 z46:=Tryz.sizeOf293,
 v46:=Tryz.zeroValue293,
 t53:=Tryz.underlying318,
 a53:=Tryz.isAgg318,
 z53:=Tryz.sizeOf318,
 v53:=Tryz.zeroValue318,
 t57:=Tryz.underlying210,
 a57:=Tryz.isAgg210,
 z57:=Tryz.sizeOf210,
 v57:=Tryz.zeroValue210,
 t63:=Tryz.underlying329,
 a63:=Tryz.isAgg329,
 z63:=Tryz.sizeOf329,
 v63:=Tryz.zeroValue329,
 t64:=Tryz.underlying330,
 a64:=Tryz.isAgg330,
 z64:=Tryz.sizeOf330,
 v64:=Tryz.zeroValue330 }
theorem zsp:SortRefs:=λblk cap zs w hH hb hl=>AnyM.slices_Sort_int laySM blk 0 cap zs w hH hb hl
end Go.Proofs.YtlejelbefmkakaaGreat
namespace Go.Proofs.YtlejelbefmkakaaGreat
open Go.RowKit
theorem zwf (W:World):Calls Tryz.prog 82 #[.slice none 0 0] W λe w'=>∃m:Wm,e= .returned (.tuple #[.pointer (some ⟨m.wb,0,none⟩),.int .i64 0])/\m.Ok W.heap.size w'/\m.th=[]/\m.made=[0]/\Fr No W w':=by
 have c2:=@run_makeMap Tryz.prog;have hC:=zs0;have c1:=zs1;have c3:=zwe;go_enter Tryz.func82,Tryz.ntmps82;go_wp2_with fail;refine wp_loop_rounds 1 ?_;rw[rounds_succ];go_wp2_with fail;refine zbb (I:=λa0 f a wx=>∃y0 y1 y2 y3 y4 y5 y6 y7 y8 y9 a4 a3 g,a=((((((((((((a0.put (some 28) y0).put (some 29) y1).put (some 30) y2).put (some 31) y3).put (some 32) y4).put (some 33) y5).put (some 34) y6).put (some 35) y7).put (some 36) y8).put (some 37) y9).put (some 2) a4).put (some 3) a3)/\NJ W f [y0,y1,y2,y3,y4,y5,y6,y7,y8,y9,a4,a3] g wx) k_ k_ ?st ?step ?en
 case st=>exact⟨_,_,_,_,_,_,_,_,_,_,_,_,_,by simp only[Act.put,lp_]<;>rfl,NJ.begin W _⟩
 case step=>
  rintro i o f a wx ho hf hd ⟨y0,y1,y2,y3,y4,y5,y6,y7,y8,y9,a4,a3,g,rfl,J⟩ K' hK;have hi:=(Array.getElem?_eq_some_iff.1 ho).1;simp only[List.size_toArray,List.length_cons,List.length_nil]at hi;have a9:i=0\/i=1\/i=2\/i=3\/i=4\/i=5\/i=6\/i=7\/i=8\/i=9\/i=10\/i=11:=o_;simp only[Act.put,lp_];rcases a9 with rfl|rfl|rfl|rfl|rfl|rfl|rfl|rfl|rfl|rfl|rfl|rfl
  .simp only[List.getElem?_toArray,List.getElem?_cons_zero,Option.some.injEq]at ho;subst ho;have HJ:=zaa J;have a1:=zaa hf;clear J hd hf;go_simp;exact hK.out _ _ ⟨_,_,_,_,_,_,_,_,_,_,_,_,_,by simp only[Act.put,lp_]<;>rfl,HJ.out.quiet (i:=0) d_ s_ (nofun) (nofun)⟩
  .simp only[List.getElem?_toArray,List.getElem?_cons_succ,List.getElem?_cons_zero,Option.some.injEq]at ho;subst ho;have b0:=hd ⟨0,.data⟩ s_ r_;obtain rfl:y0= .slice none 0 0:=J.x 0 b0;have HJ:=zaa J;have B0:=zaa b0;have a1:=zaa hf;clear J hd hf b0;go_simp;refine(hC _).mono ?_;rintro e w' ⟨rfl,rfl⟩;try go_simp
   exact hK.out _ _ ⟨_,_,_,_,_,_,_,_,_,_,_,_,_,by simp only[Act.put,lp_]<;>rfl,HJ.out.quiet (i:=1) d_ s_ (nofun) (nofun)⟩
  .simp only[List.getElem?_toArray,List.getElem?_cons_succ,List.getElem?_cons_zero,Option.some.injEq]at ho;subst ho;have HJ:=zaa J;have a1:=zaa hf;clear J hd hf;go_simp;exact hK.out _ _ ⟨_,_,_,_,_,_,_,_,_,_,_,_,_,by simp only[Act.put,lp_]<;>rfl,HJ.out.quiet (i:=2) d_ s_ (nofun) (nofun)⟩
  .simp only[List.getElem?_toArray,List.getElem?_cons_succ,List.getElem?_cons_zero,Option.some.injEq]at ho;subst ho;have b2:=hd ⟨2,.data⟩ s_ r_;obtain rfl:y2= .int .i64 1:=J.x 2 b2;have HJ:=zaa J;have B2:=zaa b2;have a1:=zaa hf;clear J hd hf b2;go_simp;exact hK.out _ _ ⟨_,_,_,_,_,_,_,_,_,_,_,_,_,by simp only[Act.put,lp_]<;>rfl,HJ.out.make (i:=3) s_ a1.out s_ (by show(World.alloc _ _).heap[zdm g 3 wx.heap.size 3]? =_;rw[zbo];exact World.alloc_heap_new _ _)⟩
  .simp only[List.getElem?_toArray,List.getElem?_cons_succ,List.getElem?_cons_zero,Option.some.injEq]at ho;subst ho;have HJ:=zaa J;have a1:=zaa hf;clear J hd hf;go_simp;exact hK.out _ _ ⟨_,_,_,_,_,_,_,_,_,_,_,_,_,by simp only[Act.put,lp_]<;>rfl,HJ.out.quiet (i:=4) d_ s_ (nofun) (nofun)⟩
  .simp only[List.getElem?_toArray,List.getElem?_cons_succ,List.getElem?_cons_zero,Option.some.injEq]at ho;subst ho;have b4:=hd ⟨4,.data⟩ s_ r_;obtain rfl:y4= .int .i64 1:=J.x 4 b4;have HJ:=zaa J;have B4:=zaa b4;have a1:=zaa hf;clear J hd hf b4;go_simp;exact hK.out _ _ ⟨_,_,_,_,_,_,_,_,_,_,_,_,_,by simp only[Act.put,lp_]<;>rfl,HJ.out.make (i:=5) s_ a1.out s_ (by show(World.alloc _ _).heap[zdm g 5 wx.heap.size 5]? =_;rw[zbo];exact World.alloc_heap_new _ _)⟩
  .simp only[List.getElem?_toArray,List.getElem?_cons_succ,List.getElem?_cons_zero,Option.some.injEq]at ho;subst ho;have HJ:=zaa J;have a1:=zaa hf;clear J hd hf;go_simp;exact hK.out _ _ ⟨_,_,_,_,_,_,_,_,_,_,_,_,_,by simp only[Act.put,lp_]<;>rfl,HJ.out.make (i:=6) s_ a1.out s_ (by show(World.alloc _ _).heap[zdm g 6 wx.heap.size 6]? =_;rw[zbo];exact World.alloc_heap_new _ _)⟩
  .simp only[List.getElem?_toArray,List.getElem?_cons_succ,List.getElem?_cons_zero,Option.some.injEq]at ho;subst ho;have HJ:=zaa J;have a1:=zaa hf;clear J hd hf;go_simp;exact hK.out _ _ ⟨_,_,_,_,_,_,_,_,_,_,_,_,_,by simp only[Act.put,lp_]<;>rfl,HJ.out.make (i:=7) s_ a1.out s_ (by show(World.alloc _ _).heap[zdm g 7 wx.heap.size 7]? =_;rw[zbo];exact World.alloc_heap_new _ _)⟩
  .simp only[List.getElem?_toArray,List.getElem?_cons_succ,List.getElem?_cons_zero,Option.some.injEq]at ho;subst ho;have b1:=hd ⟨1,.data⟩ s_ r_;obtain rfl:y1= .slice none 0 0:=J.x 1 b1;have b3:=hd ⟨3,.data⟩ s_ r_;obtain rfl:y3= .slice (some ⟨g 3,0,none⟩) 1 1:=J.x 3 b3;have b5:=hd ⟨5,.data⟩ s_ r_;obtain rfl:y5= .slice (some ⟨g 5,0,none⟩) 1 1:=J.x 5 b5;have b6:=hd ⟨6,.data⟩ s_ r_;obtain rfl:y6= .map (some (g 6)):=J.x 6 b6;have b7:=hd ⟨7,.data⟩ s_ r_;obtain rfl:y7= .map (some (g 7)):=J.x 7 b7;have HJ:=zaa J;have B1:=zaa b1;have B3:=zaa b3;have B5:=zaa b5;have B6:=zaa b6;have B7:=zaa b7;have a1:=zaa hf;clear J hd hf b1 b3 b5 b6 b7;go_simp;exact hK.out _ _ ⟨_,_,_,_,_,_,_,_,_,_,_,_,_,by simp only[Act.put,lp_]<;>rfl,HJ.out.quiet (i:=8) d_ s_ (λ_=>⟨B3.out,B5.out,B6.out,B7.out⟩) (nofun)⟩
  .simp only[List.getElem?_toArray,List.getElem?_cons_succ,List.getElem?_cons_zero,Option.some.injEq]at ho;subst ho;have b8:=hd ⟨8,.data⟩ s_ r_;obtain rfl:y8= .agg #[.slice none 0 0,.slice (some ⟨g 3,0,none⟩) 1 1,.map (some (g 6)),.map (some (g 7)),.int .i64 0,.slice (some ⟨g 5,0,none⟩) 1 1]:=J.x 8 b8;have HJ:=zaa J;have B8:=zaa b8;have a1:=zaa hf;clear J hd hf b8;go_simp;exact hK.out _ _ ⟨_,_,_,_,_,_,_,_,_,_,_,_,_,by simp only[Act.put,lp_]<;>rfl,HJ.out.box B8.out a1.out s_ (by show(World.alloc _ _).heap[zdm g 9 wx.heap.size 9]? =_;rw[zbo];exact World.alloc_heap_new _ _)⟩
  .simp only[List.getElem?_toArray,List.getElem?_cons_succ,List.getElem?_cons_zero,Option.some.injEq]at ho;subst ho;have b9:=hd ⟨9,.data⟩ s_ r_;obtain rfl:y9= .pointer (some ⟨g 9,0,none⟩):=J.x 9 b9;have HJ:=zaa J;have B9:=zaa b9;have a1:=zaa hf;clear J hd hf b9;go_simp;exact hK.out _ _ ⟨_,_,_,_,_,_,_,_,_,_,_,_,_,by simp only[Act.put,lp_]<;>rfl,HJ.out.quiet (i:=10) d_ s_ (nofun) (λ_=>B9.out)⟩
  .simp only[List.getElem?_toArray,List.getElem?_cons_succ,List.getElem?_cons_zero,Option.some.injEq]at ho;subst ho;have HJ:=zaa J;have a1:=zaa hf;clear J hd hf;go_simp;exact hK.out _ _ ⟨_,_,_,_,_,_,_,_,_,_,_,_,_,by simp only[Act.put,lp_]<;>rfl,HJ.out.quiet (i:=11) d_ s_ (nofun) (nofun)⟩
 case en=>
  rintro f a wx a2 ⟨y0,y1,y2,y3,y4,y5,y6,y7,y8,y9,a4,a3,g,rfl,J⟩;simp only[Act.put,lp_];have ha:∀j,j<12->f j=true:=λj hj=>a2 j (by simpa using hj);obtain rfl:a4= .pointer (some ⟨g 9,0,none⟩):=J.x 10 (ha 10 o_);obtain rfl:a3= .int .i64 0:=J.x 11 (ha 11 o_);have n3:wx.heap[g 9]? =_:=J.b 9 (ha 9 o_);have n5:wx.heap[g 5]? =_:=J.b 5 (ha 5 o_);have n6:wx.heap[g 6]? =_:=J.b 6 (ha 6 o_);have n7:wx.heap[g 7]? =_:=J.b 7 (ha 7 o_);have a7:=J.ne (ha 6 o_) (ha 7 o_);have l9:=J.lo 9 (ha 9 o_) s_;have l5:=J.lo 5 (ha 5 o_) s_;have l6:=J.lo 6 (ha 6 o_) s_;have l7:=J.lo 7 (ha 7 o_) s_;have a6:=J.fr;have a5:(⟨g 9,g 6,g 7,none,0,0,some ⟨g 3,0,none⟩,1,1,some ⟨g 5,0,none⟩,1,[0],[],[]⟩:Wm).Ok W.heap.size wx:=
   ⟨n3,⟨#[],0,n6,⟨rfl,by simp⟩,by simp,by simp⟩,⟨#[],0,n7,rfl,by simp⟩,⟨rfl,.inr ⟨g 5,1,#[.int .i64 0],rfl,l5.1,n5,by simp,by simp[maxLen],rfl,rfl⟩⟩,by simp,by simp,⟨l9.1,l6.1,l7.1,by simp⟩,a7,by simp,by simp,by simp,by simp⟩
  have c0:=zaa a5;have a8:=zaa a6;clear J a2 ha n3 n5 n6 n7 a7 l9 l5 l6 l7 a5 a6;go_wp2_with fail;go_ret2;exact⟨_,rfl,c0.out,rfl,rfl,a8.out⟩
def Wm.pair (m:Wm) (g1 g2:Nat) (t1 t2:T) (s:Nat):Wm:=
 (m.add g1 ⟨5,s,t1,0,0,0,0,0,false⟩ s).add g2 ⟨6,s,t2,0,0,(m.th.length:Int)+1,0,0,false⟩ s
section
variable {m:Wm} {g1 g2 s:Nat} {t1 t2:T}
theorem zi0:(m.pair g1 g2 t1 t2 s).th.length=m.th.length+2:=by unfold Wm.pair;rw[zeg,zeg]
theorem zhn:(m.pair g1 g2 t1 t2 s).made.length=m.made.length:=by unfold Wm.pair;rw[zfb,zfb]
theorem zf6 (hs:s<m.made.length):(m.pair g1 g2 t1 t2 s).made[s]'(by rw[zhn];exact hs)=m.made[s]+2:=by
 unfold Wm.pair;rw[zeh (by rw[zfb];exact hs),zeh hs]
theorem zlb:(m.pair g1 g2 t1 t2 s).get ((m.th.length:Int)+1)=some (g1,⟨5,s,t1,0,0,0,0,0,false⟩):=by
 unfold Wm.pair;exact zcx (zdi _ _ _)
theorem zho:(m.pair g1 g2 t1 t2 s).get ((m.th.length:Int)+2)=some (g2,⟨6,s,t2,0,0,(m.th.length:Int)+1,0,0,false⟩):=by
 unfold Wm.pair;have h:=zdi (m:=m.add g1 ⟨5,s,t1,0,0,0,0,0,false⟩ s) g2 s ⟨6,s,t2,0,0,(m.th.length:Int)+1,0,0,false⟩;rw[zeg]at h;rw[<-h];congr 1
theorem zmn {r:Int} {y:Nat×Th} (h:m.get r=some y):(m.pair g1 g2 t1 t2 s).get r=some y:=by
 unfold Wm.pair;exact zcx (zcx h)
theorem zs3 (h:∀x∈m.th,x.2.ofr<=(m.th.length:Int)):∀x∈(m.pair g1 g2 t1 t2 s).th,x.2.ofr<=((m.pair g1 g2 t1 t2 s).th.length:Int):=by
 intro x hx;rw[zi0];unfold Wm.pair Wm.add at hx;simp only[List.mem_append,List.mem_singleton]at hx;rcases hx with(hx|rfl)|rfl
 .have:=h x hx;omega
 .simp;omega
 .simp
end
def zt4 (n:Int):T:=.mk 1 n ⟨#[]⟩ none 0 [] 0
theorem zs2 (n:Int):(zt4 n).val= .agg #[.int .u8 1,.int .i64 n,.string ⟨#[]⟩,.slice none 0 0,.int .i64 0]:=rfl
theorem zqo (n:Int):(zt4 n).v= .mk 1 n ⟨#[]⟩ [] 0:=by rw[zt4,T.v_mk];rfl
theorem zwg {n:Int} (h0: -100<=n) (h1:n<=100) (w:World) (lo hi:Nat):(zt4 n).In w lo hi:=
 T.in_mk.2 ⟨⟨by decide,by decide,by omega,by omega,by decide,by decide,Nat.le_refl _,by decide,by decide⟩,λh=>absurd rfl h,by simp⟩
theorem ziz (n:Int):(zt4 n).v.may=true:=by
 rw[zqo];simp[V.may,V.fits,V.ok_mk,V.size_mk,V.dep_mk,fok]
theorem zj9 (n:Int):(zt4 n).v.refs=[]:=by
 unfold V.refs;rw[if_pos (ziz n),zqo,V.walk_mk];simp[zb1,zbg]
theorem zxt (W:World):Calls Tryz.prog 17 #[] W λe w'=>e= .returned (.bool true)/\Fr No W w':=by
 have b4:=zaa (zwf W);go_enter Tryz.func17,Tryz.ntmps17;go_wp2_with fail;refine b4.out.mono ?_;rintro e w1 ⟨m,rfl,c2,b7,c8,f1⟩;have b8:0<m.made.length:=by rw[c8];simp
 have d7:m.made[0]=0:=by simp[c8]
 have a7:m.th.length=0:=by rw[b7];rfl
 have hp:=zqi c2 f1.size 0 b8 o_ o_ (by rw[b7];simp);have HP:Hid (Calls Tryz.prog 18 #[.pointer (some ⟨m.wb,0,none⟩),.int .i64 0] w1 λe w'=>e= .returned (.tuple #[.int .i64 1,.int .i64 2,.int .i64 0])/\∃g1 g2 t1 t2,t1.v=V.zero/\t2.v=V.zero/\(m.pair g1 g2 t1 t2 0).Ok W.heap.size w'/\Fr No W w'):=zaa (by
  refine hp.mono ?_;rintro e w' ⟨rfl,g1,g2,t1,t2,h1,h2,h3,h4,-⟩;rw[a7];exact⟨rfl,g1,g2,t1,t2,h1,h2,h3,f1.trans' h4 λi hi hb=>by have:=(c2.lt i hb).1;omega⟩)
 have h0:=zaa a7;have i7:=zaa b8;have f8:=zaa d7;have g7:=zaa b7;clear hp f1 c2 b4 a7 d7 b7 c8;go_wp2_with fail;refine HP.out.mono ?_;rintro e w2 ⟨rfl,g1,g2,t1,t2,d5,e9,a4,f2⟩;have a7:=h0.out;obtain⟨m2,a3⟩:∃m2,m2=m.pair g1 g2 t1 t2 0:=⟨_,rfl⟩;have a9:m2.th.length=2:=by rw[a3,zi0,a7]
 have c9:0<m2.made.length:=by rw[a3,zhn];exact b8
 have c6:m2.made[0]=2:=by
  have:=zf6 (m:=m) (g1:=g1) (g2:=g2) (t1:=t1) (t2:=t2) b8;rw[f8.out]at this;simpa[a3]using this
 have b0:m2.wb=m.wb:=by rw[a3];rfl
 have d8:m2.get 1=some (g1,⟨5,0,t1,0,0,0,0,0,false⟩):=by
  have:=zlb (m:=m) (g1:=g1) (g2:=g2) (t1:=t1) (t2:=t2) (s:=0);rw[a7]at this;rw[a3];exact this
 have e7:m2.get 2=some (g2,⟨6,0,t2,0,0,1,0,0,false⟩):=by
  have:=zho (m:=m) (g1:=g1) (g2:=g2) (t1:=t1) (t2:=t2) (s:=0);rw[a7]at this;rw[a3];exact this
 have b1:∀x∈m2.th,x.2.ofr<=(m2.th.length:Int):=by rw[a3];exact zs3 (by rw[g7.out];simp)
 rw[<-a3]at a4;have f0:=zqi a4 f2.size 0 c9 (by rw[c6];omega) o_ b1;have f7:Hid (Calls Tryz.prog 18 #[.pointer (some ⟨m.wb,0,none⟩),.int .i64 0] w2 λe w'=>e= .returned (.tuple #[.int .i64 3,.int .i64 4,.int .i64 0])/\∃g3 g4 t3 t4,t3.v=V.zero/\t4.v=V.zero/\(m2.pair g3 g4 t3 t4 0).Ok W.heap.size w'/\Fr No W w'):=zaa (by
  rw[<-b0];refine f0.mono ?_;rintro e w' ⟨rfl,g3,g4,t3,t4,h1,h2,h3,h4,-⟩;rw[a9];exact⟨rfl,g3,g4,t3,t4,h1,h2,h3,f2.trans' h4 λi hi hb=>by have:=(a4.lt i hb).1;omega⟩)
 have i8:=zaa d5;have i5:=zaa e9;have g0:=zaa d8;have h6:=zaa e7;have i1:=zaa a9;have g6:=zaa c6;have c5:=zaa b0;have i0:=zaa b1;clear f0 d5 e9 d8 e7 a9 c6 b0 b1 a4 f2 a3 a7 HP;go_wp2_with fail;refine f7.out.mono ?_;rintro e w3 ⟨rfl,g3,g4,t3,t4,i6,f6,a1,f4⟩;have a9:=i1.out;obtain⟨m4,a5⟩:∃m4,m4=m2.pair g3 g4 t3 t4 0:=⟨_,rfl⟩;have c0:m4.th.length=4:=by rw[a5,zi0,a9]
 have g9:0<m4.made.length:=by rw[a5,zhn];exact c9
 have e6:m4.made[0]=4:=by
  have:=zf6 (m:=m2) (g1:=g3) (g2:=g4) (t1:=t3) (t2:=t4) c9;rw[g6.out]at this;simpa[a5]using this
 have a8:m4.wb=m.wb:=by rw[a5,<-c5.out];rfl
 have h1:m4.get 1=some (g1,⟨5,0,t1,0,0,0,0,0,false⟩):=by rw[a5];exact zmn g0.out
 have h2:m4.get 2=some (g2,⟨6,0,t2,0,0,1,0,0,false⟩):=by rw[a5];exact zmn h6.out
 have h4:m4.get 4=some (g4,⟨6,0,t4,0,0,3,0,0,false⟩):=by
  have:=zho (m:=m2) (g1:=g3) (g2:=g4) (t1:=t3) (t2:=t4) (s:=0);rw[a9]at this;rw[a5];exact this
 rw[<-a5]at a1;have c7:=zwd a1 f4.size 0 g9 (by rw[e6];omega) o_ h1 rfl rfl (zt4 7) w3.heap.size (zwg o_ o_ _ _ _) (Nat.le_refl _) (ziz 7) (by rw[zj9];simp) (by rw[zj9];rfl);rw[zs2]at c7;have d9:Hid (Calls Tryz.prog 19 #[.pointer (some ⟨m.wb,0,none⟩),.int .i64 1,.agg #[.int .u8 1,.int .i64 7,.string ⟨#[]⟩,.slice none 0 0,.int .i64 0]] w3 λe w'=>e= .returned (.tuple #[.int .i64 5,.int .i64 0])/\∃g t,t.v=(zt4 7).v/\(m4.add g ⟨7,0,t,0,0,1,0,0,false⟩ 0).Ok W.heap.size w'/\Fr No W w'):=zaa (by
  rw[<-a8];refine c7.mono ?_;rintro e w' ⟨rfl,g,t',q1,q2,q3,-⟩;rw[c0];exact⟨rfl,g,t',q1,q2,f4.trans' q3 λi hi hb=>by have:=(a1.lt i hb).1;omega⟩)
 have i4:=zaa f6;have g8:=zaa h2;have i3:=zaa h4;have i2:=zaa c0;have c1:=zaa a8;clear c7 i6 f6 h1 h2 h4 c0 a8 a1 f4 a5 a9 f7 e6;go_wp2_with fail;refine d9.out.mono ?_;rintro e w4 ⟨rfl,g5,t5,c4,a0,f5⟩;obtain⟨m5,b2⟩:∃m5,m5=m4.add g5 ⟨7,0,t5,0,0,1,0,0,false⟩ 0:=⟨_,rfl⟩;have h2:m5.get 2=some (g2,⟨6,0,t2,0,0,1,0,0,false⟩):=by rw[b2];exact zcx g8.out
 have h4:m5.get 4=some (g4,⟨6,0,t4,0,0,3,0,0,false⟩):=by rw[b2];exact zcx i3.out
 have h5:m5.get 5=some (g5,⟨7,0,t5,0,0,1,0,0,false⟩):=by
  have:=zdi (m:=m4) g5 0 ⟨7,0,t5,0,0,1,0,0,false⟩;rw[i2.out]at this;rw[b2];exact this
 have a2:m5.wb=m.wb:=by rw[b2,<-c1.out];rfl
 rw[<-b2]at a0;have c3:t2.v.may=true:=by rw[i5.out];exact zd5
 have e0:t4.v.may=true:=by rw[i4.out];exact zd5
 have b6:t5.v.may=true:=by rw[c4];exact ziz 7
 have f3:Hid (∀W',Fr No w4 W'->Calls Tryz.prog 20 #[.pointer (some ⟨m.wb,0,none⟩),.int .i64 2,.agg #[.int .u8 4,.int .i64 0,.string ⟨#[]⟩,.slice none 0 0,.int .i64 5]] W' λe w'=>(∃t':T,e= .returned (.tuple #[t'.val,.int .i64 0])/\t'.v= .mk 1 7 ⟨#[]⟩ [] 0)/\Fr No W' w'):=zaa (λW' f=>by
  rw[<-a2];refine(zqn (a0.no f) h2 rfl c3 h5 rfl b6).mono ?_;rintro e w' ⟨q1,-,q3⟩;obtain⟨t',rfl,hv,-⟩:=q1 rfl;exact⟨⟨t',rfl,by rw[hv];show t5.v=_;rw[c4,zqo]⟩,q3⟩)
 have b3:Hid (∀W',Fr No w4 W'->Calls Tryz.prog 20 #[.pointer (some ⟨m.wb,0,none⟩),.int .i64 4,.agg #[.int .u8 4,.int .i64 0,.string ⟨#[]⟩,.slice none 0 0,.int .i64 5]] W' λe w'=>e= .returned (.tuple #[.agg #[.int .u8 0,.int .i64 0,.string ⟨#[]⟩,.slice none 0 0,.int .i64 0],.int .i64 91])/\Fr No W' w'):=zaa (λW' f=>by
  rw[<-a2];refine(zqn (a0.no f) h4 rfl e0 h5 rfl b6).mono ?_;rintro e w' ⟨-,q2,q3⟩;exact⟨q2 s_,q3⟩)
 have d6:Hid (∀W',Fr No w4 W'->Calls Tryz.prog 23 #[.pointer (some ⟨m.wb,0,none⟩),.int .i64 2,.int .i64 5] W' λe w'=>e= .returned (.tuple #[.bool true,.int .i64 0])/\Fr No W' w'):=zaa (λW' f=>by
  rw[<-a2];refine(zxs (a0.no f) h2 (.inr (.inl rfl)) c3 (by simp[Th.pairOf]) (by simp[Th.pairOf]) h5 (.inr (.inr rfl)) b6 (by simp[Th.pairOf]) (by simp[Th.pairOf])).mono ?_;rintro e w' ⟨rfl,q⟩;exact⟨by simp[Th.pairOf],q⟩)
 have f9:=zaa f5;clear h2 h4 h5 a2 c3 e0 b6 a0 c4 f5 b2 d9;go_wp2_with fail;refine(f3.out w4 (Fr.refl No w4)).mono ?_;rintro e w5 ⟨⟨⟨k,n,s,A,cap,l,r⟩,rfl,hv⟩,fa⟩;rw[T.v_mk]at hv;injection hv with e1 e2 e3 e4 e5
 subst e1 e2 e3 e5;rw[T.val_mk];have fb:=fa.alloc (.cells #[.int .u8 1,.int .i64 7,.string ⟨#[]⟩,.slice A l.length cap,.int .i64 0] 28);have a6:=Blk.new w5 28 #[.int .u8 1,.int .i64 7,.string ⟨#[]⟩,.slice A l.length cap,.int .i64 0];have HB:=zaa a6;have e8:=zaa fb;clear fa fb a6 e4 f3;go_wp2_with fail;generalize h7:World.alloc w5 _=w6 at*;generalize b9:w5.heap.size=g11 at*;refine(b3.out w6 e8.out).mono ?_;rintro e w7 ⟨rfl,fa⟩;have fb:=fa.alloc (.cells #[.int .u8 0,.int .i64 0,.string ⟨#[]⟩,.slice none 0 0,.int .i64 0] 28);have a6:=HB.out.fr fb λh=>h;have h9:=zaa a6;have b5:=zaa (e8.out.trans fb);clear fa fb a6 b3 h7 b9;go_wp2_with fail;generalize World.alloc w7 _=w8 at*;refine(d6.out w8 b5.out).mono ?_;rintro e w9 ⟨rfl,fa⟩;have a6:=h9.out.fr fa λh=>h;obtain⟨d0,d1,d2,d3,d4,df⟩:=a6.cells5;have dq:=a6.lt;have h8:=zaa ((f9.out.trans b5.out).trans fa);clear a6 fa d6;go_wp2_with fail;go_ret;exact⟨rfl,h8.out⟩
end Go.Proofs.YtlejelbefmkakaaGreat

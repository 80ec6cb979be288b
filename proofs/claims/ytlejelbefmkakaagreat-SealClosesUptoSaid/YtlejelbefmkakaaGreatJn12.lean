/- Texts joined: Gh, Gh2, Gq6, Gq6b, Ub1, Im, Gq8, Gq9. -/
import Derived.Test.YtlejelbefmkakaaGreatJn1
import Derived.Test.YtlejelbefmkakaaGreatJn2
import Derived.Test.YtlejelbefmkakaaGreatJn4
import Derived.Test.YtlejelbefmkakaaGreatJn11
import Derived.Deep.AppendLies
import Derived.Deep.Upon
import Derived.Deep.Cut
import Derived.Deep.CutRange
set_option maxHeartbeats 16000000
set_option maxRecDepth 100000
namespace Go.Proofs.YtlejelbefmkakaaGreat
open Go.RowKit
def zak (L:List Int):List Value:=L.map λr=>Value.int .i64 r
theorem zmv (L:List Int):∀u∈zak L,u.oneCell'=true:=by
 intro u hu;obtain⟨x,_,rfl⟩:=List.mem_map.1 hu;rfl
theorem zjd (w:World) (base base2:Nat) (v v2:Value) (L M:List Int) (hown:w.ownsRow base 22 1 v L.length (zak L)) (h2:w.ownsRow base2 22 1 v2 M.length (zak M)) (hl:L.length+M.length<=1000000000) (hb:base<=w.heap.size) (ty:TypeId):
 ∃v' w',(Builtin.append_ #[54,54] ty #[v,v2]).run Tryz.prog w= .ok v' w'/\w'.ownsRow base 22 1 v' (L++M).length (zak (L++M))/\w.grownBy w' v.ownBlock:=by
 obtain⟨i0,a1,a7,a5,a4⟩:=info_parts zh8;obtain⟨A,c,rfl⟩:=za8 hown;obtain⟨A2,c2,rfl⟩:=za8 h2;have a3:=zcf hown;by_cases h0:M=[]
 .subst h0;refine⟨.slice A L.length c,w,?_,by simpa using hown,World.grownBy.refl _ _⟩;cases A2 with
  |none=>exact run_append_nothing (P:=Tryz.prog) w 54 54 ty 22 i0 Tryz.underlying54 a1 A L.length c a3 _ (Src.ofNil w Tryz.underlying54 c2)
  |some a=>exact run_append_nothing (P:=Tryz.prog) w 54 54 ty 22 i0 Tryz.underlying54 a1 A L.length c a3 _ (Src.ofSlice w Tryz.underlying54 a 0 c2 [] s_ s_ s_)
 .obtain⟨g,c',hA,a9,b1⟩:=h2.form (List.length_pos_iff.2 h0);simp only[Value.slice.injEq,true_and]at hA;obtain⟨rfl,rfl⟩:=hA;obtain⟨g2,a6,w',a2,a0,a8,b0,hlt⟩:=run_append_lies (P:=Tryz.prog) w 54 ty base 22 i0 _ 1 8 Tryz.underlying54 a1 a7 a5 a4 rfl o_ (.slice A L.length c) L.length (zak L) hown ⟨g,0,none⟩ M.length c2 (zak M) (by simp[zak]) (λj u hu=>World.ownsRow.cells h2 (g:=g) rfl j u hu) (zmv M) (List.length_pos_iff.2 h0) (by unfold maxLen;omega) o_ hb _ rfl;refine⟨_,w',a2,?_,a8⟩;rw[List.length_append];unfold zak at a0 ⊢;rw[List.map_append];exact a0
theorem zb4 {ops:Array Oper} {rest:List Oper} {o:Oper} {a:Act} {Q:Exit->Act->World->Prop} (w:World) (hgd:o.guard=none) (s x:Operand)
 (ho:o.op= .call {callee:=.builtin .append,args:=#[s,x],argTypes:=#[54,54]}) (base base2:Nat) (v v2:Value) (L M:List Int) (hs:a.eval s=v) (hx:a.eval x=v2)
 (hown:w.ownsRow base 22 1 v L.length (zak L)) (h2:w.ownsRow base2 22 1 v2 M.length (zak M)) (hl:L.length+M.length<=1000000000) (hb:base<=w.heap.size)
 (hK:∀v' w',w'.ownsRow base 22 1 v' (L++M).length (zak (L++M))->w.grownBy w' v.ownBlock->wpList Tryz.prog ops Q rest (a.put o.dst v') w'):wpList Tryz.prog ops Q (o::rest) a w:=by
 refine wpList_plain hgd λK hK'=>?_;obtain⟨v',w',a0,h3,h4⟩:=zjd w base base2 v v2 L M hown h2 hl hb o.type;unfold Oper.wp;simp[execOp,ho,resolve,invoke,builtin,hs,hx,a0,Result.andThen];exact hK' _ _ (hK v' w' h3 h4)
theorem zc1 (v:V):v.refs.length<=512:=by
 unfold V.refs;split
 .rename_i h;have h1:=zei (v.walk []);have h2:v.size<=512:=by simp[V.may,V.fits]at h;omega
  have h3:=zgo v [];omega
 .simp
def zch (l:List V):List Int:=l.flatMap V.refs
theorem zdo (l:List V):(zch l).length<=512*l.length:=by
 induction l with
 |nil=>simp[zch]
 |cons x l ih=>
  have:=zc1 x;simp only[zch,List.flatMap_cons,List.length_append,List.length_cons]at ih ⊢;omega
theorem zmw {l:List T} {j:Nat} (hj:j<l.length):zch ((l.take (j+1)).map T.v)=zch ((l.take j).map T.v)++l[j].v.refs:=by
 rw[List.take_succ_eq_append_getElem hj,List.map_append];unfold zch;rw[List.flatMap_append];simp
def zmx (v:V) (vs:List V) (ns:List V):List Int:=v.refs++zch vs++zch ns
theorem zmy {l:List Nm} {j:Nat} (hj:j<l.length):zch ((l.take (j+1)).map λy=>y.2.v)=zch ((l.take j).map λy=>y.2.v)++l[j].2.v.refs:=by
 rw[List.take_succ_eq_append_getElem hj,List.map_append];unfold zch;rw[List.flatMap_append];simp
theorem zrn (x:Tg) (w:World) (lo hi:Nat) (hx:x.In w lo hi) (hh:hi<=w.heap.size) (hvs:x.vs.length<=512) (hns:x.names.length<=64):
 Calls Tryz.prog 212 #[x.val] w (zi6 (zmx x.v.v (x.vs.map T.v) (x.names.map λy=>y.2.v)) w):=by
 obtain⟨kind,home,⟨k,n,s,A,cap,l,r⟩,VA,vc,vs,n1,lost,ofr,byr,set,full,CA,cc,a4,NA,nc,a0⟩:=x;have c1:(Tg.val ⟨kind,home,T.mk k n s A cap l r,VA,vc,vs,n1,lost,ofr,byr,set,full,CA,cc,a4,NA,nc,a0⟩)= .agg #[.int .u8 kind,.int .i64 home,.int .u8 k,.int .i64 n,.string s,.slice A l.length cap,.int .i64 r,.slice VA vs.length vc,.int .i64 n1,.int .i64 lost,.int .i64 ofr,.int .i64 byr,.int .u8 set,.bool full,.slice CA a4.length cc,.slice NA a0.length nc]:=rfl;rw[c1];have hb:=Blk.new w 138 #[.int .u8 kind,.int .i64 home,.int .u8 k,.int .i64 n,.string s,.slice A l.length cap,.int .i64 r,.slice VA vs.length vc,.int .i64 n1,.int .i64 lost,.int .i64 ofr,.int .i64 byr,.int .u8 set,.bool full,.slice CA a4.length cc,.slice NA a0.length nc];have hf:=(Fr.refl No w).alloc (.cells #[.int .u8 kind,.int .i64 home,.int .u8 k,.int .i64 n,.string s,.slice A l.length cap,.int .i64 r,.slice VA vs.length vc,.int .i64 n1,.int .i64 lost,.int .i64 ofr,.int .i64 byr,.int .u8 set,.bool full,.slice CA a4.length cc,.slice NA a0.length nc] 138);have f8:(w.alloc (.cells #[.int .u8 kind,.int .i64 home,.int .u8 k,.int .i64 n,.string s,.slice A l.length cap,.int .i64 r,.slice VA vs.length vc,.int .i64 n1,.int .i64 lost,.int .i64 ofr,.int .i64 byr,.int .u8 set,.bool full,.slice CA a4.length cc,.slice NA a0.length nc] 138)).heap.size=w.heap.size+1:=s_;have HR:=zaa (λ(t:T) (ht:t.In w lo hi) W' (f:Fr No w W')=>zdv t W' lo hi (ht.no f hh) (Nat.le_trans hh f.size));have HX:=zaa hx;have HF:=zaa hf;have HB:=zaa hb;have h3:=zaa f8;have f9:=zc1 (T.mk k n s A cap l r).v;have f6:=zaa f9;obtain⟨d0,d1,d2,d3,d4,d5,d6,d7,d8,d9,b3,b5,b7,b6,b2,b1⟩:=hb.cells16;have dq:=hb.lt;have e2:vs.length<=512:=hvs;have g3:a0.length<=64:=hns;clear hx c1 hb hf f8 hvs hns f9;go_enter Tryz.func212,Tryz.ntmps212;go_wp2_with fail;generalize World.alloc w _=W0 at*;have h0:=HR.out _ HX.out.v W0 HF.out;rw[T.val_mk]at h0;refine h0.mono ?_;rintro e w1 ⟨v,rfl,ho,f1⟩;have hb:=HB.out.fr f1 λh=>h;have HO:=zaa ho;have g4:=zaa f1;clear d0 d1 d2 d3 d4 d5 d6 d7 d8 d9 b3 b5 b7 b6 b2 b1 dq h0 ho f1;obtain⟨d0,d1,d2,d3,d4,d5,d6,d7,d8,d9,b3,b5,b7,b6,b2,b1⟩:=hb.cells16;have dq:=hb.lt;clear hb;go_wp2_with fail;go_loopw [3,14] (λv i wr=>∃j:Nat,j<=vs.length/\i= .int .i64 j/\wr.ownsRow W0.heap.size 22 1 v ((T.mk k n s A cap l r).v.refs++zch ((vs.take j).map T.v)).length (zak ((T.mk k n s A cap l r).v.refs++zch ((vs.take j).map T.v)))/\Fr No W0 wr) (λ_ i _=>vs.length - (intOf i).toNat)
 case atStart=>exact⟨0,Nat.zero_le _,rfl,by simpa[zch,zak]using HO.out,g4.out⟩
 case round=>
  obtain⟨j,hj,rfl,ho,f⟩:=hrel;have a6:=HB.out.fr f λh=>h;clear d0 d1 d2 d3 d4 d5 d6 d7 d8 d9 b3 b5 b7 b6 b2 b1 dq;obtain⟨d0,d1,d2,d3,d4,d5,d6,d7,d8,d9,b3,b5,b7,b6,b2,b1⟩:=a6.cells16;have dq:=a6.lt;clear a6;have b0:=zaa f;have b4:=zaa ho;by_cases hlt:j<vs.length
  .have a3:=List.getElem_mem hlt;obtain⟨-,c2,c4⟩:=T.in_mk.1 HX.out.vs;obtain⟨b,o,rfl,g0,g9,c3⟩:=c2 (λh=>by have h':vs=[]:=h;rw[h']at hlt;simp at hlt);have a2:∀i u,(vs[j]).cells[i]? =some u->wr.cell? ⟨b,o+j*5+i,none⟩=some u:=λi u hu=>((HF.out.trans f).cell o_ λh=>h).trans (c3 j vs[j] (List.getElem?_eq_getElem hlt) i u hu);have c7:=zmw hlt;have a9:=λW' f=>HR.out vs[j] (c4 _ a3) W' f;have g7:=zc1 vs[j].v;have f4:=zdo ((vs.take j).map T.v);have f5:((vs.take j).map T.v).length<=512:=so_;have e6:=f6.out;generalize vs[j]=tj at*;obtain⟨k3,n3,s3,A3,a1,l3,r3⟩:=tj;rw[T.val_mk]at a9;have x0:wr.cell? ⟨b,o+j*5,none⟩=some (.int .u8 k3):=a2 0 _ rfl;have x1:wr.cell? ⟨b,o+j*5+1,none⟩=some (.int .i64 n3):=a2 1 _ rfl;have x2:wr.cell? ⟨b,o+j*5+2,none⟩=some (.string s3):=a2 2 _ rfl;have x3:wr.cell? ⟨b,o+j*5+3,none⟩=some (.slice A3 l3.length a1):=a2 3 _ rfl;have x4:wr.cell? ⟨b,o+j*5+4,none⟩=some (.int .i64 r3):=a2 4 _ rfl;have g6:b<wr.heap.size:=by have:=f.size;have:=HF.out.size;omega
   have e4:=zaa a9;have a5:=zaa c7;generalize h2:(T.mk k3 n3 s3 A3 a1 l3 r3).v.refs=M at*;generalize g5:zch ((vs.take j).map T.v)=L1 at*;generalize g8:(T.mk k n s A cap l r).v.refs=L0 at*;clear c3 a2 c2 c4 a3 f ho a9 c7;go_wp2_with fail;have c6:=b0.out.alloc (.cells #[.int .u8 k3,.int .i64 n3,.string s3,.slice A3 l3.length a1,.int .i64 r3] 28);have c5:=zaa c6;have c8:=zaf b4.out ((Fr.refl No wr).alloc (.cells #[.int .u8 k3,.int .i64 n3,.string s3,.slice A3 l3.length a1,.int .i64 r3] 28)) λ_ _ h=>h;have f0:=zaa c8;clear c6 c8;generalize World.alloc wr _=Wa at*;refine(e4.out Wa (HF.out.trans c5.out)).mono ?_;rintro e w2 ⟨v2,rfl,e1,f2⟩;have c0:=zaf f0.out f2 λ_ _ h=>h;have a8:=c5.out.trans f2;have h1:=a8.size;have e5:=zaa a8;have e3:=zaa e1;have e0:=zaa c0;clear e1 f2 c0 a8;go_wp2_with (at_builtin;refine zb4 _ r_ _ _ r_ W0.heap.size Wa.heap.size u3 v2 (L0++L1) M r_ r_ e0.out e3.out (by rw[List.length_append];omega) o_ ?_;intro v' w' hown' hgr;have e7:=zaa hown';have f3:=zaa hgr;clear hown' hgr);go_roundw
   case rel=>
    refine⟨j+1,hlt,by go_num,?_,e5.out.grown f3.out λi hi hlt=>by have:=(zaj e0.out i hi).1;omega⟩;rw[a5.out,<-List.append_assoc];exact e7.out
   case measure=>simp[intOf];omega
  .obtain rfl:vs.length=j:=o_;have a7:wr.ownsRow W0.heap.size 22 1 u3 ((T.mk k n s A cap l r).v.refs++zch (vs.map T.v)).length (zak ((T.mk k n s A cap l r).v.refs++zch (vs.map T.v))):=by
    have:=b4.out;rwa [List.take_length]at this
   have f7:=zaa a7;have f4:=zdo (vs.map T.v);have e6:=f6.out;have f5:(vs.map T.v).length<=512:=by simpa using e2
   have c9:=zaa (show((T.mk k n s A cap l r).v.refs++zch (vs.map T.v)).length<=1000000 by rw[List.length_append];omega);have e9:zmx (T.mk k n s A cap l r).v (vs.map T.v) (a0.map λy=>y.2.v)=((T.mk k n s A cap l r).v.refs++zch (vs.map T.v))++zch (a0.map λy=>y.2.v):=rfl;obtain⟨b8,b9⟩:∃b8,(T.mk k n s A cap l r).v.refs++zch (vs.map T.v)=b8:=⟨_,rfl⟩;rw[b9]at e9 f7 c9 a7;have e8:=zaa e9;clear a7 f4 e6 f5 e9 b9 ho f b4;obtain⟨wo,rfl⟩:∃wo:World,wo=wr:=⟨_,rfl⟩;have g1:=zaa b0.out;clear b0;go_wp2_with fail;go_loopw [3,26] (λv i wr=>∃j:Nat,j<=a0.length/\i= .int .i64 j/\wr.ownsRow W0.heap.size 22 1 v (b8++zch ((a0.take j).map λy=>y.2.v)).length (zak (b8++zch ((a0.take j).map λy=>y.2.v)))/\Fr No W0 wr) (λ_ i _=>a0.length - (intOf i).toNat)
   case atStart=>exact⟨0,Nat.zero_le _,rfl,by simpa[zch,zak]using f7.out,g1.out⟩
   case round=>
    clear hj hlt;obtain⟨j,hj,rfl,ho,f⟩:=hrel;have a6:=HB.out.fr f λh=>h;clear d0 d1 d2 d3 d4 d5 d6 d7 d8 d9 b3 b5 b7 b6 b2 b1 dq;obtain⟨d0,d1,d2,d3,d4,d5,d6,d7,d8,d9,b3,b5,b7,b6,b2,b1⟩:=a6.cells16;have dq:=a6.lt;clear a6;have b0:=zaa f;have b4:=zaa ho;by_cases hlt:j<a0.length
    .have a3:=List.getElem_mem hlt;obtain⟨b,o,rfl,g0,g9,c3⟩:=HX.out.names.at_ (λh=>by have h':a0=[]:=h;rw[h']at hlt;simp at hlt);have a2:∀i u,(zbj a0[j])[i]? =some u->wr.cell? ⟨b,o+j*6+i,none⟩=some u:=λi u hu=>((HF.out.trans f).cell o_ λh=>h).trans (c3 j a0[j] (List.getElem?_eq_getElem hlt) i u hu);have c7:=zmy hlt;have a9:=λW' f=>HR.out a0[j].2 (HX.out.names.inn _ a3).2 W' f;have g7:=zc1 a0[j].2.v;have f4:=zdo ((a0.take j).map λy=>y.2.v);have f5:((a0.take j).map λy=>y.2.v).length<=64:=so_;have e6:=c9.out;generalize a0[j]=xj at*;obtain⟨nm,⟨k3,n3,s3,A3,a1,l3,r3⟩⟩:=xj;rw[T.val_mk]at a9;have x0:wr.cell? ⟨b,o+j*6,none⟩=some (.string nm):=a2 0 _ rfl;have x1:wr.cell? ⟨b,o+j*6+1,none⟩=some (.int .u8 k3):=a2 1 _ rfl;have x2:wr.cell? ⟨b,o+j*6+2,none⟩=some (.int .i64 n3):=a2 2 _ rfl;have x3:wr.cell? ⟨b,o+j*6+3,none⟩=some (.string s3):=a2 3 _ rfl;have x4:wr.cell? ⟨b,o+j*6+4,none⟩=some (.slice A3 l3.length a1):=a2 4 _ rfl;have x5:wr.cell? ⟨b,o+j*6+5,none⟩=some (.int .i64 r3):=a2 5 _ rfl;have g6:b<wr.heap.size:=by have:=f.size;have:=HF.out.size;omega
     have e4:=zaa a9;have a5:=zaa c7;generalize h2:(T.mk k3 n3 s3 A3 a1 l3 r3).v.refs=M at*;generalize g5:zch ((a0.take j).map λy=>y.2.v)=L1 at*;clear c3 a2 a3 f ho a9 c7;go_wp2_with fail;have c6:=b0.out.alloc (.cells #[.string nm,.int .u8 k3,.int .i64 n3,.string s3,.slice A3 l3.length a1,.int .i64 r3] 260);have c5:=zaa c6;have c8:=zaf b4.out ((Fr.refl No wr).alloc (.cells #[.string nm,.int .u8 k3,.int .i64 n3,.string s3,.slice A3 l3.length a1,.int .i64 r3] 260)) λ_ _ h=>h;have f0:=zaa c8;clear c6 c8;generalize World.alloc wr _=Wa at*;refine(e4.out Wa (HF.out.trans c5.out)).mono ?_;rintro e w2 ⟨v2,rfl,e1,f2⟩;have c0:=zaf f0.out f2 λ_ _ h=>h;have a8:=c5.out.trans f2;have h1:=a8.size;have e5:=zaa a8;have e3:=zaa e1;have e0:=zaa c0;clear e1 f2 c0 a8;go_wp2_with (at_builtin;refine zb4 _ r_ _ _ r_ W0.heap.size Wa.heap.size u3 v2 (b8++L1) M r_ r_ e0.out e3.out (by rw[List.length_append];omega) o_ ?_;intro v' w' hown' hgr;have e7:=zaa hown';have f3:=zaa hgr;clear hown' hgr);go_roundw
     case rel=>
      refine⟨j+1,hlt,by go_num,?_,e5.out.grown f3.out λi hi hlt=>by have:=(zaj e0.out i hi).1;omega⟩;rw[a5.out,<-List.append_assoc];exact e7.out
     case measure=>simp[intOf];omega
    .obtain rfl:a0.length=j:=o_;have a7:=b4.out;rw[List.take_length,<-e8.out]at a7;have g2:=zaa a7;clear a7 ho f;go_wp2;go_ret;exact⟨u3,rfl,zbc g2.out (by have:=HF.out.size;omega),HF.out.trans b0.out⟩
section
variable {m:Gm} {lo:Nat} {W:World}
def Gm.are (m:Gm) (L:List Int):Bool:=L.all λr=>(m.get r).isSome
theorem zn5 (h:m.Ok lo W) {g:Nat} (hb:Blk W g 31 #[.pointer (some ⟨m.wb,0,none⟩)]) (r:Int):Calls Tryz.prog 213 #[.int .i64 r,.pointer (some ⟨g,0,none⟩)] W λe w'=>e= .returned (.bool (!(m.get r).isSome))/\w'=W:=by
 have hI:=zf9 h r;have c0:W.cell? ⟨g,0,none⟩=some (.pointer (some ⟨m.wb,0,none⟩)):=hb.cell 0;have q0:=hb.lt;clear h hb;generalize (m.get r).isSome=q at*;cases q;all_goals
  go_enter Tryz.func213,Tryz.ntmps213;go_wp2_with fail;refine hI.mono ?_;rintro e w2 ⟨rfl,rfl⟩;go_wp2;go_ret;exact⟨rfl,rfl⟩
theorem zn6 (h:m.Ok lo W) {g base:Nat} (hb:Blk W g 31 #[.pointer (some ⟨m.wb,0,none⟩)]) (A:Option Addr) (cap:Nat) (L:List Int) (hr:W.ownsRow base 22 1 (.slice A L.length cap) L.length (L.map λr=>Value.int .i64 r)) (hlen:L.length<=140737488351232):
 Calls Tryz.prog 257 #[.slice A L.length cap,.func (.func 213) #[] #[.pointer (some ⟨g,0,none⟩)]] W λe w'=>(∃z:Int,e= .returned (.int .i64 z)/\((0<=z/\m.are L=false)\/(z= -1/\m.are L=true)))/\w'=W:=by
 have HB:=zaa (zn5 h hb);have HR:=zaa hr;clear h hb hr;go_enter Tryz.func257,Tryz.ntmps257;go_wp2_with fail;go_loopw [8] (λi wr=>∃j:Nat,j<=L.length/\i= .int .i64 j/\wr=W/\∀v∈L.take j,(m.get v).isSome=true) (λi _=>L.length - (intOf i).toNat)
 case atStart=>exact⟨0,Nat.zero_le _,rfl,rfl,by simp⟩
 case round=>
  obtain⟨j,hj,rfl,rfl,a0⟩:=hrel;have HA:=zaa a0;clear a0;by_cases hlt:j<L.length
  .obtain⟨b,rfl,a6,e0⟩:=row_at HR.out hlt;have hc:=HB.out L[j];have a3:L.take (j+1)=L.take j++[L[j]]:=by rw[List.take_succ_eq_append_getElem hlt]
   have a2:L[j]∈L:=List.getElem_mem hlt;generalize L[j]=u at*;have HT:=zaa a3;have HM:=zaa a2;clear a3 a2;cases hm:(m.get u).isSome with
   |false=>
    rw[hm]at hc;have HC:=zaa hc;have a4:m.are L=false:=by
     rw[Bool.eq_false_iff];intro h;have:=List.all_eq_true.1 h u HM.out;rw[hm]at this;cases this
    have HN:=zaa a4;clear hc a4 hm;go_wp2_with fail;refine HC.out.mono ?_;rintro e w2 ⟨rfl,rfl⟩;go_wp2;go_ret;exact⟨⟨_,rfl,.inl ⟨by omega,HN.out⟩⟩,rfl⟩
   |true=>
    rw[hm]at hc;have HC:=zaa hc;have a5:=zaa hm;clear hc hm;go_wp2_with fail;refine HC.out.mono ?_;rintro e w2 ⟨rfl,rfl⟩;go_wp2;go_roundw
    case rel=>
     refine⟨j+1,hlt,by go_num,trivial,λv hv=>?_⟩;rw[HT.out]at hv;rcases List.mem_append.1 hv with hv|hv
     .exact HA.out v hv
     .simp at hv;subst hv;exact a5.out
    case measure=>simp[intOf];omega
  .obtain rfl:L.length=j:=o_;have a1:m.are L=true:=List.all_eq_true.2 λv hv=>HA.out v (by rw[List.take_of_length_le (Nat.le_refl _)];exact hv);have HY:=zaa a1;clear a1;go_wp2;go_ret;exact⟨⟨-1,rfl,.inr ⟨rfl,HY.out⟩⟩,rfl⟩
theorem zje (h:m.Ok lo W) {g base:Nat} (hb:Blk W g 31 #[.pointer (some ⟨m.wb,0,none⟩)]) (A:Option Addr) (cap:Nat) (L:List Int) (hr:W.ownsRow base 22 1 (.slice A L.length cap) L.length (L.map λr=>Value.int .i64 r)) (hlen:L.length<=140737488351232):
 Calls Tryz.prog 211 #[.slice A L.length cap,.func (.func 213) #[] #[.pointer (some ⟨g,0,none⟩)]] W λe w'=>e= .returned (.bool (!m.are L))/\w'=W:=by
 have hI:=zn6 h hb A cap L hr hlen;generalize m.are L=q at*;clear h hb hr;go_enter Tryz.func211,Tryz.ntmps211;go_wp2_with fail;refine hI.mono ?_;rintro e w2 ⟨⟨z,rfl,hz⟩,rfl⟩;rcases hz with⟨h0,rfl⟩|⟨rfl,rfl⟩
 .have h1:decide ((0:Int)<=z)=true:=by simpa using h0
  go_wp2;go_ret;exact⟨rfl,rfl⟩
 .go_wp2;go_ret;exact⟨rfl,rfl⟩
theorem zn7 {v:V} {vs ns:List V} (h1:vs.length<=512) (h2:ns.length<=64):(zmx v vs ns).length<=1000000:=by
 unfold zmx;rw[List.length_append,List.length_append];have:=zc1 v;have:=zdo vs;have:=zdo ns;omega
def Tg.held (x:Tg):List Int:=zmx x.v.v (x.vs.map T.v) (x.names.map λy=>y.2.v)
theorem zro (h:m.Ok lo W) (x:Tg) (lo1 hi:Nat) (hx:x.In W lo1 hi) (hh:hi<=W.heap.size) (hvs:x.vs.length<=512) (hns:x.names.length<=64):
 Calls Tryz.prog 155 #[.pointer (some ⟨m.wb,0,none⟩),x.val] W λe w'=>e= .returned (.bool (m.are x.held))/\Fr No W w':=by
 have b3:x.held.length<=140737488351232:=Nat.le_trans (zn7 (by simpa using hvs) (by simpa using hns)) o_;have hH:=λW' (f:Fr No W W')=>zrn x W' lo1 hi (hx.no f hh) (Nat.le_trans hh f.size) hvs hns;change ∀W',Fr No W W'->Calls Tryz.prog 212 #[x.val] W' (zi6 x.held W')at hH;generalize x.held=L at*;obtain⟨kind,home,⟨k,n,s,A,cap,l,r⟩,VA,vc,vs,n1,lost,ofr,byr,set,full,CA,cc,a1,NA,nc,a0⟩:=x;have a3:(Tg.val ⟨kind,home,T.mk k n s A cap l r,VA,vc,vs,n1,lost,ofr,byr,set,full,CA,cc,a1,NA,nc,a0⟩)= .agg #[.int .u8 kind,.int .i64 home,.int .u8 k,.int .i64 n,.string s,.slice A l.length cap,.int .i64 r,.slice VA vs.length vc,.int .i64 n1,.int .i64 lost,.int .i64 ofr,.int .i64 byr,.int .u8 set,.bool full,.slice CA a1.length cc,.slice NA a0.length nc]:=rfl;rw[a3]at hH ⊢;have a7:=(Blk.new W 31 #[.pointer (some ⟨m.wb,0,none⟩)]).alloc (.cells #[.int .u8 kind,.int .i64 home,.int .u8 k,.int .i64 n,.string s,.slice A l.length cap,.int .i64 r,.slice VA vs.length vc,.int .i64 n1,.int .i64 lost,.int .i64 ofr,.int .i64 byr,.int .u8 set,.bool full,.slice CA a1.length cc,.slice NA a0.length nc] 138);have a5:=Blk.new' (W.alloc (.cells #[.pointer (some ⟨m.wb,0,none⟩)] 31)) 138 #[.int .u8 kind,.int .i64 home,.int .u8 k,.int .i64 n,.string s,.slice A l.length cap,.int .i64 r,.slice VA vs.length vc,.int .i64 n1,.int .i64 lost,.int .i64 ofr,.int .i64 byr,.int .u8 set,.bool full,.slice CA a1.length cc,.slice NA a0.length nc] (g:=W.heap.size+1) s_;have a6:=((Fr.refl No W).alloc (.cells #[.pointer (some ⟨m.wb,0,none⟩)] 31)).alloc (.cells #[.int .u8 kind,.int .i64 home,.int .u8 k,.int .i64 n,.string s,.slice A l.length cap,.int .i64 r,.slice VA vs.length vc,.int .i64 n1,.int .i64 lost,.int .i64 ofr,.int .i64 byr,.int .u8 set,.bool full,.slice CA a1.length cc,.slice NA a0.length nc] 138);have a9:=zaa a7;have a4:=zaa a6;have b2:=zaa h;have HH:=zaa hH;obtain⟨q,hq⟩:∃q,m.are L=q:=⟨_,rfl⟩;rw[hq];have HQ:=zaa hq;clear hq;obtain⟨d0,d1,d2,d3,d4,d5,d6,d7,d8,d9,b0,b4,b5,b6,a8,b7⟩:=a5.cells16;have dq:=a5.lt;clear hx hh a7 a5 a6 hH h a3;go_enter Tryz.func155,Tryz.ntmps155;go_wp2_with fail;generalize World.alloc (World.alloc W _) _=W0 at*;refine(HH.out W0 a4.out).mono ?_;rintro e w1 ⟨v,rfl,a2,f1⟩;obtain⟨A1,c1,rfl⟩:=za8 a2;have hc:=zje ((b2.out.no a4.out).no f1) (a9.out.fr f1 λh=>h) A1 c1 L a2 b3;rw[HQ.out]at hc;have HC:=zaa hc;have b1:=zaa (a4.out.trans f1);clear d0 d1 d2 d3 d4 d5 d6 d7 d8 d9 b0 b4 b5 b6 a8 b7 dq a2 f1 hc HQ;cases q;all_goals
  go_wp2_with fail;refine HC.out.mono ?_;rintro e w2 ⟨rfl,rfl⟩;go_wp2;go_ret;exact⟨rfl,b1.out⟩
end
theorem zen:∀{l k:List Int},l.Nodup->(∀x∈l,x∈k)->l.length<=k.length
 |[],_,_,_=>by simp
 |x::l,k,hn,hs=>by
  rw[List.nodup_cons]at hn;have hx:=hs x s_;have:=zen (k:=k.erase x) hn.2 λy hy=>by
   have a0:y≠x:=λe=>hn.1 (e▸hy);exact(List.mem_erase_of_ne a0).2 (hs y (by simp[hy]))
  rw[List.length_erase_of_mem hx]at this;have:=List.length_pos_of_mem hx;simp only[List.length_cons];omega
section
variable {m:Gm} {r:Int} {n:Nat}
theorem Gm.Hgt.line (h:m.Hgt r n):∃l:List Int,l.length=n+1/\l.Nodup/\∀x∈l,x∈m.th.map Prod.fst/\∃i,i<=n/\m.Hgt x i:=by
 induction h with
 | @base r x h hk=>exact⟨[r],rfl,by simp,λy hy=>by
  simp only[List.mem_singleton]at hy;subst hy;exact⟨List.mem_map.2 ⟨_,Gm.get_mem h,rfl⟩,0,Nat.le_refl _,.base h hk⟩⟩
 | @wrap r x n h hk hl ih=>
  obtain⟨l,h1,h2,h3⟩:=ih;refine⟨r::l,by simp[h1],List.nodup_cons.2 ⟨λhm=>?_,h2⟩,λy hy=>?_⟩
  .obtain⟨-,i,hi,hh⟩:=h3 r hm;have:=hh.uniq (.wrap h hk hl);omega
  .rcases List.mem_cons.1 hy with rfl|hy
   .exact⟨List.mem_map.2 ⟨_,Gm.get_mem h,rfl⟩,n+1,Nat.le_refl _,.wrap h hk hl⟩
   .obtain⟨a,i,hi,hh⟩:=h3 y hy;exact⟨a,i,by omega,hh⟩
theorem Gm.Hgt.lt (h:m.Hgt r n):n<m.th.length:=by
 obtain⟨l,h1,h2,h3⟩:=h.line;have:=zen h2 λx hx=>(h3 x hx).1;rw[List.length_map]at this;omega
theorem Gm.Hgt.abl (h:m.Hgt r n) (hs:∀r x,m.get r=some x->0<=x.2.set):∃a,m.Abl r a:=by
 induction h with
 |base h hk=>exact⟨_,.base h hk⟩
 | @wrap r x n h hk hl ih=>
  obtain⟨a,ha⟩:=ih;rcases hk with hk|hk
  .have:=hs _ _ h;exact⟨_,.facet (s:=x.2.set.toNat) h hk o_ ha⟩
  .exact⟨a,.pass h hk ha⟩
end
def zb8 (k:Int):Bool:=k==14||k==15||k==16
def zeo (k:Int):Bool:=k==6||k==7||k==9||k==11||zb8 k
def zep (k:Int):Bool:=k==15||k==16
theorem zeq {k:Int}:zb8 k=true↔k=14\/k=15\/k=16:=by simp[zb8,or_assoc]
theorem zog (k:Int) (W:World):Calls Tryz.prog 172 #[.int .u8 k] W λe w'=>e= .returned (.bool (zb8 k))/\w'=W:=by
 by_cases h1:k=14
 .subst h1;go_enter Tryz.func172,Tryz.ntmps172;go_wp2;go_ret;exact⟨rfl,rfl⟩
 by_cases h2:k=15
 .subst h2;go_enter Tryz.func172,Tryz.ntmps172;go_wp2;go_ret;exact⟨rfl,rfl⟩
 by_cases h3:k=16
 .subst h3;go_enter Tryz.func172,Tryz.ntmps172;go_wp2;go_ret;exact⟨rfl,rfl⟩
 have e1:(k==14)=false:=by simpa using h1
 have e2:(k==15)=false:=by simpa using h2
 have e3:(k==16)=false:=by simpa using h3
 rw[show zb8 k=false by simp[zb8,h1,h2,h3]];clear h1 h2 h3;go_enter Tryz.func172,Tryz.ntmps172;go_wp2;go_ret;exact⟨rfl,rfl⟩
theorem zrt (k:Int) (W:World):Calls Tryz.prog 157 #[.int .u8 k] W λe w'=>e= .returned (.bool (zep k))/\w'=W:=by
 by_cases h2:k=15
 .subst h2;go_enter Tryz.func157,Tryz.ntmps157;go_wp2;go_ret;exact⟨rfl,rfl⟩
 by_cases h3:k=16
 .subst h3;go_enter Tryz.func157,Tryz.ntmps157;go_wp2;go_ret;exact⟨rfl,rfl⟩
 have e2:(k==15)=false:=by simpa using h2
 have e3:(k==16)=false:=by simpa using h3
 rw[show zep k=false by simp[zep,h2,h3]];clear h2 h3;go_enter Tryz.func157,Tryz.ntmps157;go_wp2;go_ret;exact⟨rfl,rfl⟩
theorem zru (k:Int) (W:World):Calls Tryz.prog 156 #[.int .u8 k] W λe w'=>e= .returned (.bool (zeo k))/\w'=W:=by
 have HW:=zaa λW'=>zog k W';by_cases h1:k=6
 .subst h1;go_enter Tryz.func156,Tryz.ntmps156;go_wp2;go_ret;exact⟨rfl,rfl⟩
 by_cases h2:k=7
 .subst h2;go_enter Tryz.func156,Tryz.ntmps156;go_wp2;go_ret;exact⟨rfl,rfl⟩
 by_cases h3:k=9
 .subst h3;go_enter Tryz.func156,Tryz.ntmps156;go_wp2;go_ret;exact⟨rfl,rfl⟩
 by_cases h4:k=11
 .subst h4;go_enter Tryz.func156,Tryz.ntmps156;go_wp2;go_ret;exact⟨rfl,rfl⟩
 have e1:(k==6)=false:=by simpa using h1
 have e2:(k==7)=false:=by simpa using h2
 have e3:(k==9)=false:=by simpa using h3
 have e4:(k==11)=false:=by simpa using h4
 rw[show zeo k=zb8 k by simp[zeo,h1,h2,h3,h4]];generalize zb8 k=q at*;clear h1 h2 h3 h4;go_enter Tryz.func156,Tryz.ntmps156;go_wp2_with fail;refine(HW.out W).mono ?_;rintro e w' ⟨rfl,rfl⟩;go_wp2;go_ret;exact⟨rfl,rfl⟩
def Gm.badB (m:Gm) (x:Tg):Bool:=
 !(m.are x.held)||(zeo x.kind&& !(m.get x.ofr).isSome)||(zep x.kind&& !(m.get x.byr).isSome)||((x.kind==13&&x.ofr !=0)&& !(m.get x.ofr).isSome)
def Gm.byIs (m:Gm) (o r:Int):Bool:=match m.get o with
 |some y=>y.2.byr==r
 |none=>false
def Gm.ofIs (m:Gm) (o r:Int):Bool:=match m.get o with
 |some y=>y.2.ofr==r
 |none=>false
def Gm.fitB (m:Gm) (r:Int) (x:Tg) (a:Nat):Bool:=
 if x.kind=6 then m.hkB x.ofr 5 x.home&& !m.othB r 6 x.ofr else
 if x.kind=7 then m.hkB x.ofr 5 x.home else
 if x.kind=9 then m.hkB x.ofr 8 x.home else
 if x.kind=11 then m.hkB x.ofr 10 x.home&& !m.othB r 11 x.ofr else
 if x.kind=13 then x.ofr==0||(m.kind x.ofr==15&&m.byIs x.ofr r)else
 if x.kind=14 then(m.get x.ofr).isSome&&m.kind x.ofr !=14&&x.set !=(a:Int)&&bits .andNot .u8 x.set (a:Int)==0&&(match m.fget x.ofr x.set with|some f=>f==r|none=>true)else
 if x.kind=15 then m.hkB x.byr 13 x.home&&(m.get x.ofr).isSome&&m.ofIs x.byr r else
 if x.kind=16 then m.hkB x.byr 3 x.home&&(m.get x.ofr).isSome else true
def Gm.fitS (m:Gm) (r:Int) (x:Tg) (a:Nat):Bool:=
 if x.kind=14 then(m.get x.ofr).isSome&&m.kind x.ofr !=14&&x.set !=(a:Int)&&bits .andNot .u8 x.set (a:Int)==0 else m.fitB r x a
theorem zwz {m:Gm} {lo:Nat} {W:World} (h:m.Ok lo W) (r:Int) (x:Tg) (a:Nat) (ha:x.kind=14->m.Abl x.ofr a):
 Calls Tryz.prog 158 #[.pointer (some ⟨m.wb,0,none⟩),.int .i64 r,x.val] W λe w'=>e= .returned (.bool (m.fitB r x a))/\Fr No W w':=by
 obtain⟨kind,home,⟨k,n,s,A,cap,l,r0⟩,VA,vc,vs,n1,lost,ofr,byr,set,full,CA,cc,a1,NA,nc,a0⟩:=x;have a7:(Tg.val ⟨kind,home,T.mk k n s A cap l r0,VA,vc,vs,n1,lost,ofr,byr,set,full,CA,cc,a1,NA,nc,a0⟩)= .agg (c16 kind home k n s A l.length cap r0 VA vs.length vc n1 lost ofr byr set full CA a1.length cc NA a0.length nc):=rfl;rw[a7];unfold Gm.fitB;simp only at ha ⊢;by_cases h6:kind=6
 .subst h6;rw[if_pos rfl];exact zwy h _ _ _ _ _ _ _ _ _ _ _ _ _ _ _ _ _ _ _ _ _ _ _ _
 rw[if_neg h6];by_cases h7:kind=7
 .subst h7;rw[if_pos rfl];exact zww h _ _ _ _ _ _ _ _ _ _ _ _ _ _ _ _ _ _ _ _ _ _ _ _
 rw[if_neg h7];by_cases h9:kind=9
 .subst h9;rw[if_pos rfl];exact zwx h _ _ _ _ _ _ _ _ _ _ _ _ _ _ _ _ _ _ _ _ _ _ _ _
 rw[if_neg h9];by_cases a6:kind=11
 .subst a6;rw[if_pos rfl];exact zur h _ _ _ _ _ _ _ _ _ _ _ _ _ _ _ _ _ _ _ _ _ _ _ _
 rw[if_neg a6];by_cases a2:kind=13
 .subst a2;rw[if_pos rfl];exact zuu h _ _ _ _ _ _ _ _ _ _ _ _ _ _ _ _ _ _ _ _ _ _ _ _
 rw[if_neg a2];by_cases a3:kind=14
 .subst a3;rw[if_pos rfl];exact zuv h _ _ _ _ _ _ _ _ _ _ _ _ _ _ _ _ _ _ _ _ _ _ _ _ (ha rfl)
 rw[if_neg a3];by_cases a5:kind=15
 .subst a5;rw[if_pos rfl];exact zut h _ _ _ _ _ _ _ _ _ _ _ _ _ _ _ _ _ _ _ _ _ _ _ _
 rw[if_neg a5];by_cases a4:kind=16
 .subst a4;rw[if_pos rfl];exact zus h _ _ _ _ _ _ _ _ _ _ _ _ _ _ _ _ _ _ _ _ _ _ _ _
 rw[if_neg a4];exact zwv m.wb _ _ _ _ _ _ _ _ _ _ _ _ _ _ _ _ _ _ _ _ _ _ _ _ _ ⟨h6,h7,h9,a6,a2,a3,a5,a4⟩
noncomputable def Gm.abl (m:Gm) (r:Int):Nat:=Classical.epsilon (m.Abl r)
theorem Gm.abl_eq {m:Gm} {r:Int} {a:Nat} (h:m.Abl r a):m.abl r=a:=(Classical.epsilon_spec (⟨a,h⟩:∃a,m.Abl r a)).uniq h
structure Gm.Snd (m:Gm):Prop where
 bad:∀x∈m.th,m.badB x.2.2=false
 hgt:∀x∈m.th,∃n,m.Hgt x.1 n
 one:∀x∈m.th,∀y∈m.th,x.2.2.kind=14->y.2.2.kind=14->x.2.2.ofr=y.2.2.ofr->x.2.2.set=y.2.2.set->x.1=y.1
 fit:∀x∈m.th,m.fitS x.1 x.2.2 (m.abl x.2.2.ofr)=true
def Gm.wf (m:Gm) (F:List (Int×Int×Int)):Gm:={m with fac:=F}
section
variable {m:Gm} {F:List (Int×Int×Int)} {r:Int} {a n:Nat}
theorem Gm.wf_get:(m.wf F).get r=m.get r:=rfl
theorem Gm.wf_ext:m.Ext (m.wf F):=⟨rfl,rfl,λ_ _ h=>h⟩
theorem Gm.Abl.wf (h:m.Abl r a):(m.wf F).Abl r a:=h.ext Gm.wf_ext
theorem Gm.wf_kind:(m.wf F).kind r=m.kind r:=rfl
end
structure FacI (m:Gm) (sn:Nat->Prop) (F:List (Int×Int×Int)):Prop where
 mem:∀o s r,(o,s,r)∈F↔∃(i:Nat) (x:Int×Nat×Tg),m.th[i]? =some x/\sn i/\x.1=r/\x.2.2.kind=14/\x.2.2.ofr=o/\x.2.2.set=s
 nod:(F.map λf=>f.2.2).Nodup
theorem FacI.start {m:Gm} {sn:Nat->Prop} (h:∀i,¬sn i):FacI m sn []:=⟨λo s r=>⟨nofun,λ⟨i,x,_,hs,_⟩=>absurd hs (h i)⟩,by simp⟩
theorem FacI.skip {m:Gm} {sn sn':Nat->Prop} {F:List (Int×Int×Int)} (h:FacI m sn F) {i:Nat} {x:Int×Nat×Tg} (hx:m.th[i]? =some x) (hk:x.2.2.kind≠14) (hs:∀j,sn' j↔j=i\/sn j):FacI m sn' F:=by
 refine⟨λo s r=>(h.mem o s r).trans ⟨λ⟨j,y,hy,a0,q⟩=>⟨j,y,hy,(hs j).2 (.inr a0),q⟩,λ⟨j,y,hy,a0,q⟩=>⟨j,y,hy,?_,q⟩⟩,h.nod⟩;rcases(hs j).1 a0 with rfl|a0
 .rw[hx]at hy;injection hy with hy
  subst hy;exact absurd q.2.1 hk
 .exact a0
theorem FacI.fresh {m:Gm} {sn:Nat->Prop} {F:List (Int×Int×Int)} (h:FacI m sn F) (hk:(m.th.map Prod.fst).Nodup) {i:Nat} {x:Int×Nat×Tg} (hx:m.th[i]? =some x) (hn:¬sn i):x.1∉F.map λf=>f.2.2:=by
 intro hm;obtain⟨⟨o,s,r⟩,hf,hr⟩:=List.mem_map.1 hm;obtain⟨j,y,hy,a1,a0,-⟩:=(h.mem o s r).1 hf;have a2:j=i:=by
  obtain⟨hj,rfl⟩:=List.getElem?_eq_some_iff.1 hy;obtain⟨hi,rfl⟩:=List.getElem?_eq_some_iff.1 hx;refine(List.getElem_inj (h₀:=by simpa using hj) (h₁:=by simpa using hi) hk).1 ?_;simp only[List.getElem_map];rw[a0];exact hr
 exact hn (a2▸a1)
theorem FacI.add {m:Gm} {sn sn':Nat->Prop} {F:List (Int×Int×Int)} (h:FacI m sn F) (hk:(m.th.map Prod.fst).Nodup) {i:Nat} {x:Int×Nat×Tg} (hx:m.th[i]? =some x) (h14:x.2.2.kind=14) (hn:¬sn i) (hs:∀j,sn' j↔j=i\/sn j):FacI m sn' (F++[(x.2.2.ofr,x.2.2.set,x.1)]):=by
 have a1:=h.fresh hk hx hn;refine⟨λo s r=>?_,?_⟩
 .rw[List.mem_append,h.mem];constructor
  .rintro(⟨j,y,hy,a0,q⟩|hm)
   .exact⟨j,y,hy,(hs j).2 (.inr a0),q⟩
   .simp only[List.mem_singleton,Prod.mk.injEq]at hm;exact⟨i,x,hx,(hs i).2 (.inl rfl),hm.2.2.symm,h14,hm.1.symm,hm.2.1.symm⟩
  .rintro⟨j,y,hy,a0,q1,q2,q3,q4⟩;rcases(hs j).1 a0 with rfl|a0
   .rw[hx]at hy;injection hy with hy
    subst hy;right
    simp[q1,q3,q4]
   .exact .inl ⟨j,y,hy,a0,q1,q2,q3,q4⟩
 .rw[List.map_append];refine List.nodup_append.2 ⟨h.nod,by simp,λa ha b hb=>?_⟩;simp only[List.map_cons,List.map_nil,List.mem_singleton]at hb;subst hb;rintro rfl;exact a1 ha
theorem FacI.len {m:Gm} {sn:Nat->Prop} {F:List (Int×Int×Int)} (h:FacI m sn F) (hk:(m.th.map Prod.fst).Nodup) {i:Nat} {x:Int×Nat×Tg} (hx:m.th[i]? =some x) (hn:¬sn i):F.length<m.th.length:=by
 have:=zen (l:=x.1::F.map λf=>f.2.2) (k:=m.th.map Prod.fst) (List.nodup_cons.2 ⟨h.fresh hk hx hn,h.nod⟩) λy hy=>by
  rcases List.mem_cons.1 hy with rfl|hy
  .exact List.mem_map.2 ⟨x,List.mem_of_getElem? hx,rfl⟩
  .obtain⟨⟨o,s,r⟩,hf,rfl⟩:=List.mem_map.1 hy;obtain⟨j,z,hz,-,a0,-⟩:=(h.mem o s r).1 hf;exact List.mem_map.2 ⟨z,List.mem_of_getElem? hz,a0⟩
 simp at this;omega
theorem Gm.fit_wf {m:Gm} {F:List (Int×Int×Int)} (hF:FacI m (λi=>∃x,m.th[i]? =some x) F) (_hkey:(m.th.map Prod.fst).Nodup) (hone:∀x∈m.th,∀y∈m.th,x.2.2.kind=14->y.2.2.kind=14->x.2.2.ofr=y.2.2.ofr->x.2.2.set=y.2.2.set->x.1=y.1) {x:Int×Nat×Tg} (hx:x∈m.th) (a:Nat):(m.wf F).fitB x.1 x.2.2 a=m.fitS x.1 x.2.2 a:=by
 unfold Gm.fitS;by_cases a0:x.2.2.kind=14
 .rw[if_pos a0];unfold Gm.fitB;rw[if_neg o_,if_neg o_,if_neg o_,if_neg o_,if_neg o_,if_pos a0];have a1:(m.wf F).fget x.2.2.ofr x.2.2.set=some x.1:=by
   obtain⟨i,hi⟩:=List.mem_iff_getElem?.1 hx;have hm:=(hF.mem x.2.2.ofr x.2.2.set x.1).2 ⟨i,x,hi,⟨x,hi⟩,rfl,a0,rfl,rfl⟩;cases hq:(m.wf F).fget x.2.2.ofr x.2.2.set with
   |none=>exact absurd ⟨rfl,rfl⟩ (Gm.fget_none hq _ hm)
   |some q=>
    obtain⟨j,hj,-⟩:=Gm.fget_some hq;obtain⟨i',y,hy,-,e1,e2,e3,e4⟩:=(hF.mem x.2.2.ofr x.2.2.set q).1 (List.mem_of_getElem? hj);have:=hone x hx y (List.mem_of_getElem? hy) a0 e2 e3.symm e4.symm;rw[<-e1,this]
  rw[a1];simp[Gm.wf_get,Gm.wf_kind]
 .rw[if_neg a0];unfold Gm.fitB;simp only[if_neg a0];rfl
inductive Unl (m:Gm) (A:List Int):Int->Prop
 |base {r:Int} (h:r∈A):Unl m A r
 |box {b o r:Int} {x y:Nat×Tg} (hb:Unl m A b) (hx:m.get b=some x) (kx:x.2.kind=7) (ho:Unl m A o) (hy:m.get o=some y) (ky:y.2.kind=6) (e:y.2.ofr=x.2.ofr) (hr:r∈x.2.v.v.refs):Unl m A r
section
variable {m:Gm} {A B L:List Int} {r:Int}
theorem Unl.mono (h:Unl m A r) (hs:∀q∈A,Unl m B q):Unl m B r:=by
 induction h with
 |base h=>exact hs _ h
 |box _ hx kx _ hy ky e hr ih1 ih2=>exact .box ih1 hx kx ih2 hy ky e hr
def ztw (m:Gm) (L:List Int):Prop:=∀b∈L,∀o∈L,∀x y,m.get b=some x->x.2.kind=7->m.get o=some y->y.2.kind=6->y.2.ofr=x.2.ofr->∀r∈x.2.v.v.refs,r∈L
theorem zxj (hA:∀q∈A,q∈L) (hL:∀q∈L,Unl m A q) (hc:ztw m L):r∈L↔Unl m A r:=by
 refine⟨hL r,λh=>?_⟩;induction h with
 |base h=>exact hA _ h
 |box _ hx kx _ hy ky e hr ih1 ih2=>exact hc _ ih1 _ ih2 _ _ hx kx hy ky e _ hr
theorem zss (h:∀q,q∈L↔Unl m A q):Unl m L r↔Unl m A r:=
 ⟨λhr=>hr.mono λq hq=>(h q).1 hq,λhr=>.base ((h r).2 hr)⟩
theorem Unl.inv (h:Unl m A r):r∈A\/∃b o x y,Unl m A b/\m.get b=some x/\x.2.kind=7/\Unl m A o/\m.get o=some y/\y.2.kind=6/\y.2.ofr=x.2.ofr/\r∈x.2.v.v.refs:=by
 cases h with
 |base h=>exact .inl h
 |box hb hx kx ho hy ky e hr=>exact .inr ⟨_,_,_,_,hb,hx,kx,ho,hy,ky,e,hr⟩
theorem Unl.is (h:Unl m A r) (hA:∀q∈A,(m.get q).isSome=true) (hin:∀b x,m.get b=some x->∀q∈x.2.v.v.refs,(m.get q).isSome=true):(m.get r).isSome=true:=by
 cases h with
 |base h=>exact hA _ h
 |box _ hx _ _ _ _ _ hr=>exact hin _ _ hx _ hr
def zd6:List Int->List Int->List Int
 |L,[]=>L
 |L,r::M=>zd6 (if r∈L then L else L++[r]) M
theorem zj3:∀(L M:List Int) (r:Int),zd6 L (M++[r])=(if r∈zd6 L M then zd6 L M else zd6 L M++[r])
 |L,[],r=>rfl
 |L,q::M,r=>by
  show zd6 (if q∈L then L else L++[q]) (M++[r])=_;rw[zj3];rfl
theorem zbx:∀(L M:List Int) (r:Int),r∈zd6 L M↔r∈L\/r∈M
 |L,[],r=>by simp[zd6]
 |L,q::M,r=>by
  show r∈zd6 (if q∈L then L else L++[q]) M↔_;rw[zbx];split
  .rename_i h;simp only[List.mem_cons];constructor
   .rintro(h1|h1)
    .exact .inl h1
    .exact .inr (.inr h1)
   .rintro(h1|rfl|h1)
    .exact .inl h1
    .exact .inl h
    .exact .inr h1
  .simp only[List.mem_append,List.mem_cons,List.not_mem_nil,or_false];constructor
   .rintro((h1|h1)|h1)
    .exact .inl h1
    .exact .inr (.inl h1)
    .exact .inr (.inr h1)
   .rintro(h1|h1|h1)
    .exact .inl (.inl h1)
    .exact .inl (.inr h1)
    .exact .inr h1
theorem zd4:∀(L M:List Int),L.Nodup->(zd6 L M).Nodup
 |L,[],h=>h
 |L,q::M,h=>by
  show(zd6 (if q∈L then L else L++[q]) M).Nodup;refine zd4 _ M ?_;split
  .exact h
  .rename_i hn;exact List.nodup_append.2 ⟨h,by simp,λa ha b hb=>by simp only[List.mem_singleton]at hb;subst hb;rintro rfl;exact hn ha⟩
theorem zp5 {L M:List Int} (h1:L.Pairwise (· < ·)) (h2:M.Pairwise (· < ·)) (h:∀r,r∈L↔r∈M):L=M:=by
 have n1:L.Nodup:=h1.imp λh=>by omega
 have n2:M.Nodup:=h2.imp λh=>by omega
 exact List.Perm.eq_of_pairwise (le:=λa b=>a<b) (λa b _ _ h1 h2=>by omega) h1 h2 ((List.perm_ext_iff_of_nodup n1 n2).2 h)
end
def zd7 {α:Type} (l:List (Int×α)) (r:Int):Option α:=(l.find? λx=>x.1==r).map Prod.snd
def zh0 {α:Type} (l:List (Int×α)) (r:Int) (v:α):List (Int×α):=if r∈l.map Prod.fst then l.map λx=>if x.1=r then(r,v)else x else l++[(r,v)]
section
variable {α:Type} {l:List (Int×α)} {r q:Int} {v:α}
theorem zg7:zd7 l r=none↔r∉l.map Prod.fst:=by
 unfold zd7;rw[Option.map_eq_none_iff,List.find?_eq_none];simp only[List.mem_map,not_exists,not_and,beq_iff_eq]
theorem zg8 (h:zd7 l r=some v):(r,v)∈l:=by
 unfold zd7 at h;obtain⟨x,hx,rfl⟩:=Option.map_eq_some_iff.1 h;have h1:x.1=r:=by simpa using List.find?_some hx
 rw[<-h1];exact List.mem_of_find?_eq_some hx
theorem zou (hn:(l.map Prod.fst).Nodup) (h:(r,v)∈l):zd7 l r=some v:=by
 cases hg:zd7 l r with
 |none=>exact absurd (List.mem_map_of_mem h) (zg7.1 hg)
 |some u=>
  have h1:=zg8 hg;obtain⟨i,hi,a1⟩:=List.mem_iff_getElem.1 h;obtain⟨j,hj,a0⟩:=List.mem_iff_getElem.1 h1;have:i=j:=by
   refine(List.getElem_inj (h₀:=by simpa using hi) (h₁:=by simpa using hj) hn).1 ?_;simp[a1,a0]
  subst this;rw[a1]at a0;injection a0 with _ e
  rw[e]
theorem zez:(zh0 l r v).map Prod.fst=if r∈l.map Prod.fst then l.map Prod.fst else l.map Prod.fst++[r]:=by
 unfold zh0;split
 .rw[List.map_map];refine List.map_congr_left λx _=>?_;simp only[Function.comp];split
  .rename_i h;exact h.symm
  .rfl
 .simp
theorem zd0 (h:(l.map Prod.fst).Nodup):((zh0 l r v).map Prod.fst).Nodup:=by
 rw[zez];split
 .exact h
 .rename_i hn;exact List.nodup_append.2 ⟨h,by simp,λa ha b hb=>by simp only[List.mem_singleton]at hb;subst hb;rintro rfl;exact hn ha⟩
theorem zr0:q∈(zh0 l r v).map Prod.fst↔q=r\/q∈l.map Prod.fst:=by
 rw[zez];split
 .rename_i h;exact⟨.inr,λh'=>h'.elim (λe=>e▸h) id⟩
 .rw[List.mem_append,List.mem_singleton];exact Or.comm
theorem zjp (hn:(l.map Prod.fst).Nodup):zd7 (zh0 l r v) q=if q=r then some v else zd7 l q:=by
 split
 .rename_i h;subst h;refine zou (zd0 hn) ?_;unfold zh0;split
  .rename_i hm;obtain⟨x,hx,a0⟩:=List.mem_map.1 hm;exact List.mem_map.2 ⟨x,hx,by simp[a0]⟩
  .simp
 .rename_i h;cases hg:zd7 l q with
  |none=>
   rw[zg7]at hg ⊢;rw[zr0];rintro(e|e)
   .exact h e
   .exact hg e
  |some u=>
   refine zou (zd0 hn) ?_;have hm:=zg8 hg;unfold zh0;split
   .exact List.mem_map.2 ⟨(q,u),hm,by simp[h]⟩
   .exact List.mem_append_left _ hm
end
def zea {α:Type} (enc:α->Value) (W:World) (B:Nat) (l:List (Int×α)):Prop:=
 ∃es cl,W.heap[B]? =some (.map es cl)/\(es.toList.length=l.length/\∀(i:Nat) (e:MapEntry) (x:Int×α),es.toList[i]? =some e->l[i]? =some x->e.key= .int .i64 x.1/\e.val=enc x.2)/\Stm es.toList cl/\(l.map Prod.fst).Nodup
section
variable {α:Type} {enc:α->Value} {W W':World} {B:Nat} {l:List (Int×α)} {S:Nat->Prop} {t el kt:TypeId}
theorem zea.lt (h:zea enc W B l):B<W.heap.size:=by obtain⟨es,cl,hm,-⟩:=h;exact zah hm
theorem zea.nodup (h:zea enc W B l):(l.map Prod.fst).Nodup:=by obtain⟨es,cl,hm,-,-,hn⟩:=h;exact hn
theorem zea.fr (h:zea enc W B l) (f:Fr S W W') (hs:¬S B):zea enc W' B l:=by
 obtain⟨es,cl,hm,he⟩:=h;exact⟨es,cl,(f.block _ (zah hm) hs).trans hm,he⟩
theorem zea.made (W:World):zea enc (W.alloc (.map #[] 0)) W.heap.size []:=
 ⟨#[],0,World.alloc_heap_new _ _,⟨rfl,λi e x h=>by simp at h⟩,⟨by simp,by simp⟩,by simp⟩
theorem zgh {es:Array MapEntry} (h:es.toList.length=l.length/\∀(i:Nat) (e:MapEntry) (x:Int×α),es.toList[i]? =some e->l[i]? =some x->e.key= .int .i64 x.1/\e.val=enc x.2):∀e∈es.toList,∃x∈l,e.key= .int .i64 x.1/\e.val=enc x.2:=λe hm=>by
 obtain⟨i,hi,rfl⟩:=List.mem_iff_getElem.1 hm;have hi':i<l.length:=by rw[<-h.1];exact hi
 exact⟨l[i],List.getElem_mem hi',h.2 i _ _ (List.getElem?_eq_getElem hi) (List.getElem?_eq_getElem hi')⟩
theorem zov {es:Array MapEntry} (h:es.toList.length=l.length/\∀(i:Nat) (e:MapEntry) (x:Int×α),es.toList[i]? =some e->l[i]? =some x->e.key= .int .i64 x.1/\e.val=enc x.2) (hn:(l.map Prod.fst).Nodup) {r:Int} {v:α} (hg:(r,v)∈l):
 ∃(i:Nat) (e:MapEntry),l[i]? =some (r,v)/\es.toList[i]? =some e/\e.key= .int .i64 r/\e.val=enc v/\∀(k:Nat) (e':MapEntry),k<i->es.toList[k]? =some e'->e'.key≠ .int .i64 r:=by
 obtain⟨i,hi,a0⟩:=List.mem_iff_getElem.1 hg;have hi':i<es.toList.length:=by rw[h.1];exact hi
 obtain⟨h1,h2⟩:=h.2 i _ _ (List.getElem?_eq_getElem hi') (List.getElem?_eq_getElem hi);rw[a0]at h1 h2;refine⟨i,es.toList[i],by rw[List.getElem?_eq_getElem hi,a0],List.getElem?_eq_getElem hi',h1,h2,λk e' hk hek hkey=>?_⟩;have a1:k<l.length:=o_;rw[(h.2 k e' _ hek (List.getElem?_eq_getElem a1)).1]at hkey;simp only[Value.int.injEq,true_and]at hkey;have:k=i:=by
  refine(List.getElem_inj (h₀:=by simpa using a1) (h₁:=by simpa using hi) hn).1 ?_;simp[a0,hkey]
 omega
theorem zow (h:zea enc W B l) (hk:Tryz.prog.underlying kt=some (.int .i64)) (ht:Tryz.prog.underlying t=some (.map kt el)) {z:Value} (hz:(zeroValue el).run Tryz.prog W= .ok z W) (n:Int):
 (Instr.lookup t (.map (some B)) (.int .i64 n) false).run Tryz.prog W= .ok (((zd7 l n).map enc).getD z) W/\
 (Instr.lookup t (.map (some B)) (.int .i64 n) true).run Tryz.prog W= .ok (match zd7 l n with|some v=>.tuple #[enc v,.bool true]|none=>.tuple #[z,.bool false]) W:=by
 obtain⟨es,cl,hm,he,a7,hn⟩:=h;cases hg:zd7 l n with
 |none=>
  have a5:=zg7.1 hg;have hl:=ze9 (o:=none) hk ht hz n hm (λ_ e hmem=>by
   obtain⟨x,hx,a0,-⟩:=zgh he e hmem;exact⟨x.1,a0,λe'=>a5 (e'▸List.mem_map_of_mem hx)⟩) (λj hj=>by cases hj)
  rw[hl.1,hl.2];exact⟨rfl,rfl⟩
 |some v=>
  obtain⟨i,e,a6,a2,a4,a3,a1⟩:=zov he hn (zg8 hg);have hl:=ze9 (o:=some i) hk ht hz n hm (λho=>by cases ho) (λj hj=>by
   simp only[Option.some.injEq]at hj;subst hj;exact⟨e,a2,a4,λe' hm'=>by obtain⟨x,_,a0,_⟩:=zgh he e' hm';exact⟨_,a0⟩,a1⟩)
  rw[hl.1,hl.2];constructor<;>simp only[Option.bind_some,a2,a3,Option.map_some,Option.getD_some]
theorem zox (n:Int) (w:World):(Instr.keyThatStays (.int .i64 n) (.int .i64 n)).run Tryz.prog w= .ok (.int .i64 n) w:=by
 have:Instr.sameBits 10000 (.int .i64 n) (.int .i64 n)=true:=by simp[Instr.sameBits]
 simp[Instr.keyThatStays,this]
theorem zij (h:zea enc W B l) (hk:Tryz.prog.underlying kt=some (.int .i64)) (ht:Tryz.prog.underlying t=some (.map kt el)) (n:Int) (v:α):
 ∃W',(Instr.mapUpdate t (.map (some B)) (.int .i64 n) (enc v)).run Tryz.prog W= .ok () W'/\zea enc W' B (zh0 l n v)/\Fr (λi=>i=B) W W':=by
 obtain⟨es,cl,hm,he,a5,hn⟩:=h;have hB:=zah hm;have a7:∀o,Fr (λi=>i=B) W (W.putObj B o):=λo=>⟨rfl,rfl,rfl,by simp[World.putObj],λb hb hn=>by simp[World.putObj,Array.getElem?_setIfInBounds];intro h;exact absurd h.symm hn⟩;have b3:∀o,(W.putObj B o).heap[B]? =some o:=λo=>World.putObj_heap_same hB;by_cases a4:n∈l.map Prod.fst
 .obtain⟨x,hx,rfl⟩:=List.mem_map.1 a4;obtain⟨i,e,a8,b4,b5,c2,b2⟩:=zov he hn (r:=x.1) (v:=x.2) hx;have hf:=zdu (i:=0) (n:=x.1) (λe' a1=>by obtain⟨y,_,b8,_⟩:=zgh he e' a1;exact⟨_,b8⟩) b4 b5 b2;have a6:es[i]? =some e:=by simpa using b4
  refine⟨_,?_,⟨es.modify i λe=>{e with key:=.int .i64 x.1,val:=enc v},cl,b3 _,⟨?_,λk e' y a0 hy=>?_⟩,?_,zd0 hn⟩,a7 _⟩
  .unfold Instr.mapUpdate;simp only[Sem.run_bind,run_underlying ht,Result.andThen_ok,zef hm,zc4 hk,Instr.findKey,run_underlying hk,hf,Sem.run_pure,Nat.zero_add,a6,Option.map_some,Option.getD_some,b5,zox,zk8 _ hm]
  .simp[zh0,a4,he.1]
  .have b7:=(List.getElem?_eq_some_iff.1 a8).1;simp only[zh0,a4,if_true,List.getElem?_map,Option.map_eq_some_iff]at hy;obtain⟨y0,a3,rfl⟩:=hy;simp only[Array.getElem?_toList,Array.getElem?_modify]at a0;by_cases b1:i=k
   .subst b1;rw[if_pos rfl,a6]at a0;simp only[Option.map_some,Option.some.injEq]at a0;subst a0;rw[a8]at a3;injection a3 with a3
    subst a3;simp
   .rw[if_neg b1]at a0;have b9:y0.1≠x.1:=λee=>b1 (by
     obtain⟨b0,a9⟩:=List.getElem?_eq_some_iff.1 a3;obtain⟨hi',b6⟩:=List.getElem?_eq_some_iff.1 a8;refine((List.getElem_inj (h₀:=by simpa using b0) (h₁:=by simpa using hi') hn).1 ?_).symm;simp[a9,b6,ee])
    have:=he.2 k e' y0 (by simpa using a0) a3;simpa[b9]using this
  .refine⟨λe' a1=>?_,?_⟩
   .obtain⟨k,b0,rfl⟩:=List.mem_iff_getElem.1 a1;have a9:k<es.toList.length:=by simpa using b0
    have a2:=a5.1 _ (List.getElem_mem a9);simp only[Array.getElem_toList,Array.getElem_modify];simp only[Array.getElem_toList]at a2;split
    .exact a2
    .exact a2
   .have:((es.modify i λe=>{e with key:=.int .i64 x.1,val:=enc v}).toList.map (·.born))=es.toList.map (·.born):=by
     refine List.ext_getElem s_ λk h1 h2=>?_;simp only[List.getElem_map,Array.getElem_toList,Array.getElem_modify];split<;>rfl
    rw[this];exact a5.2
 .have c1:∀e∈es.toList,∃c:Int,e.key= .int .i64 c/\n≠c:=λe hmem=>by
   obtain⟨x,hx,c0,-⟩:=zgh he e hmem;exact⟨x.1,c0,λe'=>a4 (e'▸List.mem_map_of_mem hx)⟩
  refine⟨_,zft hk ht n (enc v) hm c1,⟨_,_,b3 _,⟨?_,λk e' y a0 hy=>?_⟩,⟨λe' a1=>?_,?_⟩,zd0 hn⟩,a7 _⟩
  .have h1:=he.1;simp only[Array.length_toList]at h1;simp[zh0,a4,h1]
  .have h1:=he.1;simp only[zh0,a4,if_false]at hy;simp only[Array.toList_push]at a0;rcases Nat.lt_trichotomy k l.length with hlt|rfl|c3
   .rw[List.getElem?_append_left hlt]at hy;rw[List.getElem?_append_left (by rw[h1];exact hlt)]at a0;exact he.2 k e' y a0 hy
   .simp at hy;rw[List.getElem?_append_right o_,h1]at a0;simp at a0;subst hy a0;exact⟨rfl,rfl⟩
   .rw[List.getElem?_eq_none so_]at hy;cases hy
  .simp only[Array.toList_push,List.mem_append,List.mem_singleton]at a1;rcases a1 with a1|rfl
   .have:=a5.1 e' a1;omega
   .simp
  .simp only[Array.toList_push,List.map_append,List.map_cons,List.map_nil];refine List.nodup_append.2 ⟨a5.2,by simp,λa ha b hb=>?_⟩;simp only[List.mem_singleton]at hb;subst hb;obtain⟨e',a0,rfl⟩:=List.mem_map.1 ha;have:=a5.1 e' a0;omega
end
def pcN (a:Nat):Nat:=a % 2+(a / 2) % 2+(a / 4) % 2+(a / 8) % 2+(a / 16) % 2+(a / 32) % 2
theorem zlt (a:Nat):pcN a<=6:=by unfold pcN;omega
theorem zw0 (a:Nat) (ha:a<64) (W:World):Calls Tryz.prog 239 #[.int .u64 (a:Int)] W λe w'=>e= .returned (.int .i64 (pcN a:Int))/\w'=W:=by
 go_enter Tryz.func239,Tryz.ntmps239;go_wp2;go_ret;refine⟨congrArg (λn=>Ending.returned (.int .i64 n)) ?_,rfl⟩;revert a
 decide+kernel
noncomputable def Gm.spN (m:Gm) (x:Int×Nat×Tg):Int:=if x.2.2.kind=14 then -1 else 2 ^ pcN (m.abl x.1) - 1
noncomputable def Gm.spare (m:Gm):Int:=(m.th.map m.spN).sum
theorem zrv {l k:List Int} (h:l.Perm k):l.sum=k.sum:=by
 induction h with
 |nil=>rfl
 |cons x _ ih=>simp[ih]
 |swap x y l=>simp only[List.sum_cons];omega
 |trans _ _ ih1 ih2=>exact ih1.trans ih2
theorem zgz (f:Nat->Int) (hf:∀i,-64<=f i/\f i<=64):∀S:List Nat,-64*(S.length:Int)<=(S.map f).sum/\(S.map f).sum<=64*(S.length:Int)
 |[]=>by simp
 |i::S=>by
  have:=zgz f hf S;have h:=hf i;simp only[List.map_cons,List.sum_cons,List.length_cons];omega
theorem zoi:∀{l:List Nat} {n:Nat},l.Nodup->(∀x∈l,x<n)->l.length<=n:=λ{l n} hn hs=>by
 have:=zen (l:=l.map λ(i:Nat)=>(i:Int)) (k:=(List.range n).map λ(i:Nat)=>(i:Int)) (by
  rw[List.nodup_iff_pairwise_ne]at hn ⊢;rw[List.pairwise_map];exact hn.imp λh=>by omega) λx hx=>by
   obtain⟨i,hi,rfl⟩:=List.mem_map.1 hx;exact List.mem_map.2 ⟨i,List.mem_range.2 (hs i hi),rfl⟩
 simpa using this
noncomputable def Gm.spI (m:Gm) (i:Nat):Int:=match m.th[i]? with
 |some x=>m.spN x
 |none=>0
theorem Gm.spN_bound (m:Gm) (x:Int×Nat×Tg): -64<=m.spN x/\m.spN x<=64:=by
 unfold Gm.spN;split
 .omega
 .have h:=zlt (m.abl x.1);generalize pcN (m.abl x.1)=p at*;have:p=0\/p=1\/p=2\/p=3\/p=4\/p=5\/p=6:=o_;rcases this with rfl|rfl|rfl|rfl|rfl|rfl|rfl<;>decide
theorem Gm.spI_bound (m:Gm) (i:Nat): -64<=m.spI i/\m.spI i<=64:=by
 unfold Gm.spI;split
 .exact m.spN_bound _
 .omega
theorem Gm.spare_eq {m:Gm} {S:List Nat} (hn:S.Nodup) (hs:∀i,i∈S↔i<m.th.length):(S.map m.spI).sum=m.spare:=by
 have hp:S.Perm (List.range m.th.length):=(List.perm_ext_iff_of_nodup hn List.nodup_range).2 λi=>by rw[hs,List.mem_range]
 rw[zrv (hp.map m.spI)];unfold Gm.spare;congr 1
 apply List.ext_getElem
 .simp
 .intro i h1 h2;simp at h1;simp[Gm.spI,h1]
structure SpI (m:Gm) (W:World) (cl rI:Nat) (es:Array MapEntry) (v:List Nat) (S:List Nat) (wr:World):Prop where
 ri:RI m.M cl rI es v wr
 fr:Fr No W wr
 r0:W.heap.size<=rI
 nod:S.Nodup
 lt:∀i∈S,i<m.th.length
 sn:∀i,i<m.th.length->(i∈S↔zlr es v i)
theorem zux {m:Gm} {lo:Nat} {W:World} (h:m.Ok lo W) (hab:∀x∈m.th,∃a,m.Abl x.1 a):
 Calls Tryz.prog 183 #[.pointer (some ⟨m.wb,0,none⟩)] W λe w'=>e= .returned (.int .i64 m.spare)/\Fr No W w':=by
 obtain⟨es,cl,hm,d5,d4⟩:=h.things;have c0:=zba h;have q0:=h.blk.lt;have d3:=run_range_map (P:=Tryz.prog) W 34 22 185 m.M es cl Tryz.underlying34 hm;have hM:=zah hm;have a5:Hid (SpI m W cl W.heap.size es [] [] (W.alloc (.mapIter (some m.M) cl #[] cl))):=zaa ⟨⟨World.alloc_heap_new _ _,(Below.heap_alloc _ _ _ hM).trans hm⟩,(Fr.refl No W).alloc _,Nat.le_refl _,by simp,by simp,λi _=>⟨nofun,λh=>absurd h zem⟩⟩;have d9:=zaa d5;have e5:=zaa d4;have e7:=zaa h;have e2:=zaa hab;have a2:=h.len;have c4:=zaa a2;clear d5 d4 h hab a2;generalize d2:W.heap.size=rI at*;have e6:=zaa d2;clear d2;go_enter Tryz.func183,Tryz.ntmps183;go_wp2_with fail;go_loopw [3] (λnv wr=>∃v S,nv= .int .i64 (S.map m.spI).sum/\SpI m W cl rI es v S wr) (λ_ wr=>(leftOf es (wr.iterSeen rI)).size)
 case atStart=>exact⟨[],[],by simp,a5.out⟩
 case round=>
  obtain⟨v,S,rfl,inv⟩:=hrel;rcases zgy inv.ri d9.out e5.out 0 with⟨b1,d1⟩|⟨i,b,x,W3,hx,d8,a4,d1,c1,F3,c2,c9⟩
  .have b4:(S.map m.spI).sum=m.spare:=Gm.spare_eq inv.nod λi=>⟨inv.lt i,λhi=>(inv.sn i hi).2 (b1 i _ (List.getElem?_eq_getElem hi))⟩;have b9:=zaa b4;have HF:=zaa inv.fr;clear inv b1 d3 a5 b4;go_wp2;go_ret;exact⟨by rw[b9.out];rfl,HF.out⟩
  .have b8:x∈m.th:=List.mem_of_getElem? hx;have b7:i<m.th.length:=(List.getElem?_eq_some_iff.1 hx).1;have c7:Fr No W W3:=inv.fr.trans' F3 λq hq h=>by have h':q=rI:=h;have:=inv.r0;have:=e6.out;omega
   have a3:=e7.out.no c7;obtain⟨d0,-,-,-,-,-⟩:=zct (a3.box x b8);have dq:=(a3.box x b8).lt;have c6:i∉S:=λh=>d8 ((inv.sn i b7).1 h);have e8:=zgz m.spI m.spI_bound S;have c5:=zgz m.spI m.spI_bound (S++[i]);have d7:=zoi (l:=S++[i]) (n:=m.th.length) (List.nodup_append.2 ⟨inv.nod,by simp,λa ha b hb=>by
    simp only[List.mem_singleton]at hb;subst hb;rintro rfl;exact c6 ha⟩) (λa ha=>by
    rcases List.mem_append.1 ha with ha|ha
    .exact inv.lt a ha
    .simp only[List.mem_singleton]at ha;subst ha;exact b7)
   have b6:SpI m W cl rI es (v++[b]) (S++[i]) W3:=⟨c2,c7,inv.r0,List.nodup_append.2 ⟨inv.nod,by simp,λa ha b hb=>by
    simp only[List.mem_singleton]at hb;subst hb;rintro rfl;exact c6 ha⟩,λa ha=>by
    rcases List.mem_append.1 ha with ha|ha
    .exact inv.lt a ha
    .simp only[List.mem_singleton]at ha;subst ha;exact b7,λj hj=>by
    rw[List.mem_append,a4,inv.sn j hj,List.mem_singleton];exact Or.comm⟩
   have b2:m.spI i=m.spN x:=by unfold Gm.spI;rw[hx]
   have a7:((S++[i]).map m.spI).sum=(S.map m.spI).sum+m.spN x:=by
    rw[List.map_append,List.sum_append];simp[b2]
   have a2:=c4.out;have b5:IntKind.i64.wrap ((S.map m.spI).sum+m.spN x)=(S.map m.spI).sum+m.spN x:=IntWalk.i64_in _ (by
    rw[a7]at c5;simp only[List.length_append,List.length_cons,List.length_nil]at c5 d7;omega)
   obtain⟨a,ha⟩:=e2.out x b8;have a0:m.spN x=if x.2.2.kind=14 then -1 else 2 ^ pcN a - 1:=by unfold Gm.spN;rw[Gm.abl_eq ha]
   have hA:=ztg a3 ha;have HA:=zaa hA;have e3:=ha.lt;have a8:=zaa b6;have a1:=zaa a7;have d6:=zaa c9;have b3:=zaa c2;generalize (S.map m.spI).sum=acc at*;clear inv hx d8 a4 F3 c7 c2 c9 b8 d3 a5 a3 c6 e8 c5 d7 b2 a7 a2 b6 b7 ha hA;try simp only at d1 c1
   by_cases a9:x.2.2.kind=14
   .rw[a9]at d0;rw[if_pos a9]at a0;rw[a0]at b5 a1;have e0:IntKind.i64.wrap (acc - 1)=acc - 1:=by
     rw[show acc - 1=acc+ -1 by omega];exact b5
    clear a9 a0 b5;go_wp2_with fail;go_roundw
    case rel=>exact⟨v++[b],S++[i],by rw[a1.out];congr 1,a8.out⟩
    case measure=>exact d6.out
   .rw[if_neg a9]at a0;rw[a0]at b5 a1;have e4:(x.2.2.kind==14)=false:=by simpa using a9
    have HO:=zaa λW'=>zw0 a e3 W';have e1:=zlt a;generalize pcN a=p at*;generalize x.2.2.kind=kd at*;clear a9 a0;go_wp2_with fail;refine HA.out.mono ?_;rintro e w4 ⟨rfl,f4⟩;have a6:SpI m W cl rI es (v++[b]) (S++[i]) w4:=⟨b3.out.fr f4 (λh=>h) (λh=>h),a8.out.fr.trans f4,a8.out.r0,a8.out.nod,a8.out.lt,a8.out.sn⟩;have b0:w4.iterSeen rI=W3.iterSeen rI:=by rw[zaw a6.ri.it,zaw b3.out.it]
    have c8:=zaa a6;have c3:=zaa b0;clear a6 b0 f4;go_wp2_with fail;refine(HO.out w4).mono ?_;rintro e w' ⟨rfl,rfl⟩;have:p=0\/p=1\/p=2\/p=3\/p=4\/p=5\/p=6:=o_;clear e1;rcases this with rfl|rfl|rfl|rfl|rfl|rfl|rfl;all_goals
     simp only[Int.reducePow,Int.reduceSub,Int.add_zero]at b5 a1;go_wp2;go_roundw
     case rel=>exact⟨v++[b],S++[i],by rw[a1.out],c8.out⟩
     case measure=>
      rw[c3.out];exact d6.out
structure TgV where
 kind:Int
 home:Int
 v:V
 vs:List V
 n:Int
 lost:Int
 ofr:Int
 byr:Int
 set:Int
 full:Bool
 code:List G
 names:List (ByteArray×V)
def Tg.pl (x:Tg):TgV:=⟨x.kind,x.home,x.v.v,x.vs.map T.v,x.n,x.lost,x.ofr,x.byr,x.set,x.full,x.code.map G.er,x.names.map λz=>(z.1,z.2.v)⟩
def plE (x:Int×Nat×Tg):Int×TgV:=(x.1,x.2.2.pl)
def Gm.pl (m:Gm):List (Int×TgV):=m.th.map plE
def Gm.ofT (ths:List (Int×Tg)):Gm:=⟨0,0,0,none,0,[],none,0,[],none,0,[],0,ths.map λx=>(x.1,0,x.2),[]⟩
theorem Tg.pl_held {x y:Tg} (h:x.pl=y.pl):x.held=y.held:=by
 have h1:=congrArg TgV.v h;have h2:=congrArg TgV.vs h;have h3:=congrArg TgV.names h;simp only[Tg.pl]at h1 h2 h3;have h4:=congrArg (List.map λz:ByteArray×V=>z.2) h3;simp only[List.map_map]at h4;unfold Tg.held;rw[h1,h2];congr 1
section
variable {m1 m2:Gm} {r:Int}
theorem Gm.get_pl (m:Gm) (r:Int):(m.get r).map (λx=>x.2.pl)=(m.pl.find? λx=>x.1==r).map Prod.snd:=by
 unfold Gm.get Gm.pl;rw[List.find?_map];simp only[Option.map_map];rfl
theorem Gm.sim (h:m1.pl=m2.pl) (r:Int):(m1.get r=none/\m2.get r=none)\/∃x y,m1.get r=some x/\m2.get r=some y/\x.2.pl=y.2.pl:=by
 have h1:=m1.get_pl r;have h2:=m2.get_pl r;rw[h]at h1;rw[<-h2]at h1;cases ha:m1.get r with
 |none=>
  rw[ha]at h1;cases hb:m2.get r with
  |none=>exact .inl ⟨rfl,rfl⟩
  |some y=>rw[hb]at h1;cases h1
 |some x=>
  rw[ha]at h1;cases hb:m2.get r with
  |none=>rw[hb]at h1;cases h1
  |some y=>
   rw[hb]at h1;simp only[Option.map_some,Option.some.injEq]at h1;exact .inr ⟨x,y,rfl,rfl,h1⟩
theorem Gm.sim_mem (h:m1.pl=m2.pl) {x:Int×Nat×Tg} (hx:x∈m1.th):∃y∈m2.th,y.1=x.1/\y.2.2.pl=x.2.2.pl:=by
 have:plE x∈m1.pl:=List.mem_map.2 ⟨x,hx,rfl⟩;rw[h]at this;obtain⟨y,hy,e⟩:=List.mem_map.1 this;unfold plE at e;injection e with e1 e2
 exact⟨y,hy,e1,e2⟩
theorem Gm.sim_is (h:m1.pl=m2.pl) (r:Int):(m1.get r).isSome=(m2.get r).isSome:=by
 rcases Gm.sim h r with⟨a,b⟩|⟨x,y,a,b,-⟩<;>rw[a,b]<;>rfl
theorem Gm.sim_kind (h:m1.pl=m2.pl) (r:Int):m1.kind r=m2.kind r:=by
 unfold Gm.kind;rcases Gm.sim h r with⟨a,b⟩|⟨x,y,a,b,e⟩<;>rw[a,b];exact congrArg TgV.kind e
theorem Gm.Hgt.sim {n:Nat} (hh:m1.Hgt r n) (h:m1.pl=m2.pl):m2.Hgt r n:=by
 induction hh with
 |base hg hk=>
  rcases Gm.sim h _ with⟨a,b⟩|⟨x,y,a,b,e⟩
  .rw[hg]at a;cases a
  .rw[hg]at a;cases a;have:=congrArg TgV.kind e;simp only[Tg.pl]at this;exact .base b (by rw[<-this];exact hk)
 |wrap hg hk _ ih=>
  rcases Gm.sim h _ with⟨a,b⟩|⟨x,y,a,b,e⟩
  .rw[hg]at a;cases a
  .rw[hg]at a;cases a;have e1:=congrArg TgV.kind e;have e2:=congrArg TgV.ofr e;simp only[Tg.pl]at e1 e2;exact .wrap b (by rw[<-e1];exact hk) (by rw[<-e2];exact ih)
theorem Gm.Abl.sim {n:Nat} (hh:m1.Abl r n) (h:m1.pl=m2.pl):m2.Abl r n:=by
 induction hh with
 |base hg hk=>
  rcases Gm.sim h _ with⟨a,b⟩|⟨x,y,a,b,e⟩
  .rw[hg]at a;cases a
  .rw[hg]at a;cases a;have:=congrArg TgV.kind e;simp only[Tg.pl]at this;rw[this];exact .base b (by rw[<-this];exact hk)
 |facet hg hk hs _ ih=>
  rcases Gm.sim h _ with⟨a,b⟩|⟨x,y,a,b,e⟩
  .rw[hg]at a;cases a
  .rw[hg]at a;cases a;have e1:=congrArg TgV.kind e;have e2:=congrArg TgV.ofr e;have e3:=congrArg TgV.set e;simp only[Tg.pl]at e1 e2 e3;exact .facet b (by rw[<-e1];exact hk) (by rw[<-e3];exact hs) (by rw[<-e2];exact ih)
 |pass hg hk _ ih=>
  rcases Gm.sim h _ with⟨a,b⟩|⟨x,y,a,b,e⟩
  .rw[hg]at a;cases a
  .rw[hg]at a;cases a;have e1:=congrArg TgV.kind e;have e2:=congrArg TgV.ofr e;simp only[Tg.pl]at e1 e2;exact .pass b (by rw[<-e1];exact hk) (by rw[<-e2];exact ih)
theorem Gm.sim_abl (h:m1.pl=m2.pl) (r:Int):m1.abl r=m2.abl r:=by
 unfold Gm.abl;congr 1
 funext a
 exact propext ⟨λhh=>hh.sim h,λhh=>hh.sim h.symm⟩
theorem Gm.sim_hk (h:m1.pl=m2.pl) (r k o:Int):m1.hkB r k o=m2.hkB r k o:=by
 unfold Gm.hkB;rcases Gm.sim h r with⟨a,b⟩|⟨x,y,a,b,e⟩<;>rw[a,b];have e1:=congrArg TgV.kind e;have e2:=congrArg TgV.home e;simp only[Tg.pl]at e1 e2;simp only[e1,e2]
theorem Gm.sim_oth (h:m1.pl=m2.pl) (r k o:Int):m1.othB r k o=m2.othB r k o:=by
 have:∀m:Gm,m.othB r k o=m.pl.any λx=>x.1 !=r&&(x.2.kind==k&&x.2.ofr==o):=λm=>by
  unfold Gm.othB Gm.pl;rw[List.any_map];rfl
 rw[this,this,h]
theorem Gm.sim_are (h:m1.pl=m2.pl) (L:List Int):m1.are L=m2.are L:=by
 unfold Gm.are;congr 1
 funext r
 exact Gm.sim_is h r
theorem Gm.sim_bad (h:m1.pl=m2.pl) {x y:Tg} (e:x.pl=y.pl):m1.badB x=m2.badB y:=by
 have e1:=congrArg TgV.kind e;have e2:=congrArg TgV.ofr e;have e3:=congrArg TgV.byr e;simp only[Tg.pl]at e1 e2 e3;unfold Gm.badB;rw[Tg.pl_held e,e1,e2,e3,Gm.sim_are h,Gm.sim_is h,Gm.sim_is h]
theorem Gm.sim_fit (h:m1.pl=m2.pl) {x y:Tg} (e:x.pl=y.pl) (r:Int) (a:Nat):m1.fitS r x a=m2.fitS r y a:=by
 have e1:=congrArg TgV.kind e;have e2:=congrArg TgV.ofr e;have e3:=congrArg TgV.byr e;have e4:=congrArg TgV.home e;have e5:=congrArg TgV.set e;simp only[Tg.pl]at e1 e2 e3 e4 e5;have h1:m1.byIs y.ofr r=m2.byIs y.ofr r:=by
  unfold Gm.byIs;rcases Gm.sim h y.ofr with⟨a,b⟩|⟨z,z',a,b,e⟩<;>rw[a,b];have:=congrArg TgV.byr e;simp only[Tg.pl]at this;simp only[this]
 have h2:m1.ofIs y.byr r=m2.ofIs y.byr r:=by
  unfold Gm.ofIs;rcases Gm.sim h y.byr with⟨a,b⟩|⟨z,z',a,b,e⟩<;>rw[a,b];have:=congrArg TgV.ofr e;simp only[Tg.pl]at this;simp only[this]
 unfold Gm.fitS Gm.fitB;rw[e1,e2,e3,e4,e5,Gm.sim_is h,Gm.sim_kind h,Gm.sim_hk h,Gm.sim_hk h,Gm.sim_hk h,Gm.sim_hk h,Gm.sim_hk h,Gm.sim_oth h,Gm.sim_oth h,h1,h2];by_cases a0:y.kind=14
 .simp only[if_pos a0]
 .simp only[if_neg a0]
theorem Gm.Snd.sim (hs:m1.Snd) (h:m1.pl=m2.pl):m2.Snd:=by
 refine⟨λy hy=>?_,λy hy=>?_,λy hy z hz k1 k2 ho hst=>?_,λy hy=>?_⟩
 .obtain⟨x,hx,-,e⟩:=Gm.sim_mem h.symm hy;rw[<-Gm.sim_bad h e];exact hs.bad x hx
 .obtain⟨x,hx,e1,e⟩:=Gm.sim_mem h.symm hy;obtain⟨n,hn⟩:=hs.hgt x hx;rw[e1]at hn;exact⟨n,hn.sim h⟩
 .obtain⟨x,hx,e1,e⟩:=Gm.sim_mem h.symm hy;obtain⟨w,hw,f1,f⟩:=Gm.sim_mem h.symm hz;have a1:=congrArg TgV.kind e;have a2:=congrArg TgV.ofr e;have a3:=congrArg TgV.set e;have b1:=congrArg TgV.kind f;have b2:=congrArg TgV.ofr f;have b3:=congrArg TgV.set f;simp only[Tg.pl]at a1 a2 a3 b1 b2 b3;have:=hs.one x hx w hw (a1.trans k1) (b1.trans k2) (by rw[a2,b2,ho]) (by rw[a3,b3,hst]);rw[<-e1,<-f1,this]
 .obtain⟨x,hx,e1,e⟩:=Gm.sim_mem h.symm hy;have a2:=congrArg TgV.ofr e;simp only[Tg.pl]at a2;have:=hs.fit x hx;rw[Gm.sim_fit h e,Gm.sim_abl h,a2,e1]at this;exact this
theorem Gm.sim_spare (h:m1.pl=m2.pl):m1.spare=m2.spare:=by
 have:∀m:Gm,m.spare=(m.pl.map λx=>if x.2.kind=14 then(-1:Int)else 2 ^ pcN (m.abl x.1) - 1).sum:=λm=>by
  unfold Gm.spare Gm.pl;rw[List.map_map];rfl
 rw[this,this,h];congr 1
 refine List.map_congr_left λx _=>?_;rw[Gm.sim_abl h]
end
end Go.Proofs.YtlejelbefmkakaaGreat

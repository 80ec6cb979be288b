/- Texts joined: Hf1, Tr2b, Ap3, R1, R2, Eb1. -/
import Derived.Test.YtlejelbefmkakaaGreatJn1
import Derived.Test.YtlejelbefmkakaaGreatJn4
import Derived.Test.YtlejelbefmkakaaGreatJn11
import Derived.Test.YtlejelbefmkakaaGreatJn12
import Derived.Test.YtlejelbefmkakaaGreatJn28
import Derived.Deep.Cut
set_option maxHeartbeats 8000000
set_option maxRecDepth 100000
namespace Go.Proofs.YtlejelbefmkakaaGreat
open Go.RowKit
structure Tg.Mays (x:Tg):Prop where
 v:x.v.v.may=true
 vs:∀t∈x.vs,t.v.may=true
 nm:∀y∈x.names,y.2.v.may=true
theorem Tg.Mays.sim {x y:Tg} (h:x.Mays) (e:x.pl=y.pl):y.Mays:=by
 have h1:=congrArg TgV.v e;have h2:=congrArg TgV.vs e;have h3:=congrArg TgV.names e;simp only[Tg.pl]at h1 h2 h3;refine⟨by rw[<-h1];exact h.v,λt ht=>?_,λz hz=>?_⟩
 .have:t.v∈x.vs.map T.v:=by rw[h2];exact List.mem_map_of_mem ht
  obtain⟨u,hu,e⟩:=List.mem_map.1 this;rw[<-e];exact h.vs u hu
 .have:(z.1,z.2.v)∈x.names.map λz=>(z.1,z.2.v):=by rw[h3];exact List.mem_map.2 ⟨z,hz,rfl⟩
  obtain⟨u,hu,e⟩:=List.mem_map.1 this;have e2:=congrArg Prod.snd e;simp only at e2;rw[<-e2];exact h.nm u hu
theorem Tg.Form.Mays {k:Nat} {x:Tg} (h:x.Form k):x.Mays:=⟨h.may,h.vsmay.1,h.mays⟩
def zyb (x:Tg) (W:World) (e:Ending) (w':World):Prop:=∃y:Tg,y.pl=x.pl/\e= .returned (.tuple #[y.val,.int .i64 0])/\y.St w' W.heap.size/\Fr No W w'
theorem zgg {m:Gm} {lo:Nat} {W:World} (h:m.Ok lo W) {r:Int} {x:Nat×Tg} (hg:m.get r=some x) (hm:x.2.Mays):
 Calls Tryz.prog 89 #[.pointer (some ⟨m.wb,0,none⟩),.int .i64 r] W (zyb x.2 W):=by
 have g4:=(Fr.refl No W).alloc (.cells #[.int .u8 0,.int .i64 0,.int .u8 0,.int .i64 0,.string ⟨#[]⟩,.slice none 0 0,.int .i64 0,.slice none 0 0,.int .i64 0,.int .i64 0,.int .i64 0,.int .i64 0,.int .u8 0,.bool false,.slice none 0 0,.slice none 0 0] 138);have h0:=h.no g4;have hN:=zib h0;have hI:=zf9 h0 r;have hl:=zbt h0 r;have hx:=Gm.get_mem hg;have h1:=h0.box _ hx;have c0:=zba h0;have q0:=h0.blk.lt;have g9:(m.get r).isSome=true:=by rw[hg];rfl
 rw[g9]at hI;rw[hg]at hl;have g8:=Blk.new W 138 #[.int .u8 0,.int .i64 0,.int .u8 0,.int .i64 0,.string ⟨#[]⟩,.slice none 0 0,.int .i64 0,.slice none 0 0,.int .i64 0,.int .i64 0,.int .i64 0,.int .i64 0,.int .u8 0,.bool false,.slice none 0 0,.slice none 0 0];have g0:=(h0.st _ hx).inn;obtain⟨gx,kind,home,⟨k1,n1,s1,A1,c3,l1,r1⟩,VA,vc,vs,n2,lost,ofr,byr,set,full,g2,g1,c4,NA,nc,b5⟩:=x;have hO:=λW' (f:Fr No (W.alloc (.cells #[.int .u8 0,.int .i64 0,.int .u8 0,.int .i64 0,.string ⟨#[]⟩,.slice none 0 0,.int .i64 0,.slice none 0 0,.int .i64 0,.int .i64 0,.int .i64 0,.int .i64 0,.int .u8 0,.bool false,.slice none 0 0,.slice none 0 0] 138)) W')=>zg3 ⟨kind,home,T.mk k1 n1 s1 A1 c3 l1 r1,VA,vc,vs,n2,lost,ofr,byr,set,full,g2,g1,c4,NA,nc,b5⟩ W' lo (W.alloc (.cells #[.int .u8 0,.int .i64 0,.int .u8 0,.int .i64 0,.string ⟨#[]⟩,.slice none 0 0,.int .i64 0,.slice none 0 0,.int .i64 0,.int .i64 0,.int .i64 0,.int .i64 0,.int .u8 0,.bool false,.slice none 0 0,.slice none 0 0] 138)).heap.size (g0.no f (Nat.le_refl _)) f.size hm.v hm.vs hm.nm;have c2:(Tg.val ⟨kind,home,T.mk k1 n1 s1 A1 c3 l1 r1,VA,vc,vs,n2,lost,ofr,byr,set,full,g2,g1,c4,NA,nc,b5⟩)= .agg #[.int .u8 kind,.int .i64 home,.int .u8 k1,.int .i64 n1,.string s1,.slice A1 l1.length c3,.int .i64 r1,.slice VA vs.length vc,.int .i64 n2,.int .i64 lost,.int .i64 ofr,.int .i64 byr,.int .u8 set,.bool full,.slice g2 c4.length g1,.slice NA b5.length nc]:=rfl;rw[c2]at hO;simp only[Option.map_some]at hl;have c6:Blk (W.alloc (.cells #[.int .u8 0,.int .i64 0,.int .u8 0,.int .i64 0,.string ⟨#[]⟩,.slice none 0 0,.int .i64 0,.slice none 0 0,.int .i64 0,.int .i64 0,.int .i64 0,.int .i64 0,.int .u8 0,.bool false,.slice none 0 0,.slice none 0 0] 138)) gx 138 #[.int .u8 kind,.int .i64 home,.int .u8 k1,.int .i64 n1,.string s1,.slice A1 l1.length c3,.int .i64 r1,.slice VA vs.length vc,.int .i64 n2,.int .i64 lost,.int .i64 ofr,.int .i64 byr,.int .u8 set,.bool full,.slice g2 c4.length g1,.slice NA b5.length nc]:=h1;obtain⟨d0,d1,d2,d3,d4,d5,d6,d7,d8,d9,h6,h9,i6,i4,h5,h4⟩:=c6.cells16;have dq:=c6.lt;have HN:=zaa hN;have HI:=zaa hI;have HO:=zaa hO;have h7:=zaa g4;have i0:=zaa g8;clear hN hI hO g4 g8 h0 hx h1 c6 g9 h hg g0 hm c2;go_enter Tryz.func89,Tryz.ntmps89;go_wp2_with fail;generalize i1:World.alloc W _=W0 at*;refine HN.out.mono ?_;rintro e w' ⟨rfl,rfl⟩;go_wp2_with fail;refine HI.out.mono ?_;rintro e w' ⟨rfl,rfl⟩;go_wp2_with fail;refine(HO.out w' (Fr.refl No w')).mono ?_;rintro e w1 ⟨⟨a9,b0,⟨f2,f9,f5,f7,b4,f4,c9⟩,f3,f0,f6,c7,b3,b6,b8,b9,b2,c1,b7,b1,c8,f8,a0⟩,rfl,c5,g3,g5,g7,g6,g0,f1⟩;have h2:Tg.pl ⟨a9,b0,T.mk f2 f9 f5 f7 b4 f4 c9,f3,f0,f6,c7,b3,b6,b8,b9,b2,c1,b7,b1,c8,f8,a0⟩=Tg.pl ⟨kind,home,T.mk k1 n1 s1 A1 c3 l1 r1,VA,vc,vs,n2,lost,ofr,byr,set,full,g2,g1,c4,NA,nc,b5⟩:=by
  simp only at c5 g3 g5 g7 g6;obtain⟨a1,a2,a3,a4,a5,a6,a7,a8⟩:=c5;unfold Tg.pl;simp only[TgV.mk.injEq];exact⟨a1,a2,g3,g5,a3,a4,a5,a6,a7,a8,g7,g6⟩
 have c2:Tg.val ⟨a9,b0,T.mk f2 f9 f5 f7 b4 f4 c9,f3,f0,f6,c7,b3,b6,b8,b9,b2,c1,b7,b1,c8,f8,a0⟩= .agg #[.int .u8 a9,.int .i64 b0,.int .u8 f2,.int .i64 f9,.string f5,.slice f7 f4.length b4,.int .i64 c9,.slice f3 f6.length f0,.int .i64 c7,.int .i64 b3,.int .i64 b6,.int .i64 b8,.int .u8 b9,.bool b2,.slice c1 b1.length b7,.slice c8 a0.length f8]:=rfl;rw[c2];have hb:=i0.out.fr f1 λh=>h;obtain⟨e0,e1,e2,e3,e4,e5,e6,e7,e8,e9,j2,j0,i7,i8,j1,i9⟩:=hb.cells16;have ez:=hb.frozen;have j4:=hb.lt;have i2:=zaa h2;have h3:=zaa g0;have i3:=zaa f1;clear hb h2 g0 f1 c5 g3 g5 g7 g6 d0 d1 d2 d3 d4 d5 d6 d7 d8 d9 h6 h9 i6 i4 h5 h4 dq c2 c0 q0 hl;go_wp2_with fail;refine bodyPost_ret (v:=.tuple #[.agg #[.int .u8 a9,.int .i64 b0,.int .u8 f2,.int .i64 f9,.string f5,.slice f7 f4.length b4,.int .i64 c9,.slice f3 f6.length f0,.int .i64 c7,.int .i64 b3,.int .i64 b6,.int .i64 b8,.int .u8 b9,.bool b2,.slice c1 b1.length b7,.slice c8 a0.length f8],.int .i64 0]) (by simp[results,Tryz.results89,go_sem, *]) rfl ?_;generalize h8:World.setCell _ _ _=We;have fe:Fr (λi=>i=W.heap.size) w1 We:=by
  rw[<-h8];repeat(first|with_reducible exact Fr.refl _ w1|with_reducible refine Fr.set ?_ s_ _)
 have j3:W.heap.size+1<=w'.heap.size:=by rw[<-i1];simp
 have i5:∀b,(Tg.Has ⟨a9,b0,T.mk f2 f9 f5 f7 b4 f4 c9,f3,f0,f6,c7,b3,b6,b8,b9,b2,c1,b7,b1,c8,f8,a0⟩ b)->w'.heap.size<=b:=λb hb=>(h3.out.inn.has hb).1;refine⟨⟨a9,b0,T.mk f2 f9 f5 f7 b4 f4 c9,f3,f0,f6,c7,b3,b6,b8,b9,b2,c1,b7,b1,c8,f8,a0⟩,i2.out,rfl,(h3.out.fr fe λb hb h=>?_).more o_,(h7.out.trans i3.out).trans' fe λi hi h=>by omega⟩;have h':b=W.heap.size:=h;have:=i5 b hb;omega
def zme (l:List Bool):List Int:=(l.zipIdx.filter λx=>x.1).map λx=>(x.2:Int)
structure TI (m:Gm) (W:World) (g3:Nat) (B:Option Addr) (cB:Nat) (E:Option Addr) (cE:Nat) (K:List Int) (C:Option Addr) (cC:Nat) (L:List (Int×Tg)) (TA:Option Addr) (tc:Nat) (wr:World):Prop where
 fr:Fr No W wr
 blk:Blk wr g3 71 #[.slice B m.par.length cB,.slice C K.length cC,.slice TA L.length tc,.int .i64 m.last,.slice E m.made.length cE]
 rB:wr.ownsRow W.heap.size 23 1 (.slice B m.par.length cB) m.par.length (zak m.par)
 rC:wr.ownsRow W.heap.size 3 1 (.slice C K.length cC) K.length (zak K)
 rT:wr.ownsRow W.heap.size 140 17 (.slice TA L.length tc) L.length (zcw L)
 rE:wr.ownsRow W.heap.size 3 1 (.slice E m.made.length cE) m.made.length (zak m.made)
 st:∀x∈L,x.2.St wr W.heap.size
 sep:∀q,(Value.slice C K.length cC).ownBlock=some q->(Value.slice E m.made.length cE).ownBlock≠some q
 res:Blk wr W.heap.size 71 #[.slice none 0 0,.slice none 0 0,.slice none 0 0,.int .i64 0,.slice none 0 0]
 g0:W.heap.size<g3
section
variable {m:Gm} {W wr w':World} {g3:Nat} {B:Option Addr} {cB:Nat} {E:Option Addr} {cE:Nat} {K:List Int} {C:Option Addr} {cC:Nat} {L:List (Int×Tg)} {TA:Option Addr} {tc:Nat}
theorem zis {w:World} {lo g:Nat} {x:Tg} {t:TypeId} {cs:Array Value} (h:x.St w lo) (hb:Blk w g t cs) (ht:t≠28/\t≠308/\t≠311/\t≠260/\t≠9) {b:Nat} (hx:x.Has b):b≠g:=by
 obtain⟨e,a1,he,a0⟩:=h.ty hx;intro hbg;subst hbg;unfold Blk at hb a0;rw[hb]at a0;injection a0 with a0
 injection a0 with _ e2 _
 subst e2;rcases he with e|e|e|e|e
 .exact ht.1 e
 .exact ht.2.1 e
 .exact ht.2.2.1 e
 .exact ht.2.2.2.1 e
 .exact ht.2.2.2.2 e
theorem zag {w:World} {base g:Nat} {e t:TypeId} {size:Nat} {v:Value} {n:Nat} {xs:List Value} {cs:Array Value} (h:w.ownsRow base e size v n xs) (hb:Blk w g t cs) (hne:e≠t) {q:Nat} (hq:v.ownBlock=some q):q≠g:=by
 obtain⟨a0,h'⟩:=zao h hq;exact Blk.ne_ h' hb hne
theorem zcj {w:World} {base base':Nat} {e e':TypeId} {size size':Nat} {v v':Value} {n n':Nat} {xs xs':List Value} (h:w.ownsRow base e size v n xs) (h':w.ownsRow base' e' size' v' n' xs') (hne:e≠e') {q:Nat} (hq:v.ownBlock=some q):v'.ownBlock≠some q:=λhq'=>by
 obtain⟨cs,hb⟩:=zao h' hq';exact zag h hb hne hq rfl
end
structure Told (m:Gm) (L:List (Int×Tg)) (k:Nat):Prop where
 nums:L.map Prod.fst=m.refs.take k
 pl:∀x∈L,∃y,m.get x.1=some y/\x.2.pl=y.2.pl
def zzo (m:Gm) (W:World) (e:Ending) (w':World):Prop:=
 ∃(B:Option Addr) (cB:Nat) (C:Option Addr) (cC:Nat) (TA:Option Addr) (tc:Nat) (E:Option Addr) (cE:Nat) (L:List (Int×Tg)),
  e= .returned (.agg #[.slice B m.par.length cB,.slice C (zme m.cut).length cC,.slice TA L.length tc,.int .i64 m.last,.slice E m.made.length cE])/\
  w'.ownsRow W.heap.size 23 1 (.slice B m.par.length cB) m.par.length (zak m.par)/\w'.ownsRow W.heap.size 3 1 (.slice C (zme m.cut).length cC) (zme m.cut).length (zak (zme m.cut))/\
  w'.ownsRow W.heap.size 140 17 (.slice TA L.length tc) L.length (zcw L)/\w'.ownsRow W.heap.size 3 1 (.slice E m.made.length cE) m.made.length (zak m.made)/\(∀x∈L,x.2.St w' W.heap.size)/\
  Told m L m.refs.length/\Fr No W w'
theorem ztv {x y:Tg} (hnum:y.kind=x.kind/\y.home=x.home/\y.n=x.n/\y.lost=x.lost/\y.ofr=x.ofr/\y.byr=x.byr/\y.set=x.set/\y.full=x.full) (h1:y.v.v=x.v.v) (h2:y.vs.map T.v=x.vs.map T.v) (h3:y.code.map G.er=x.code.map G.er) (h4:(y.names.map λz=>(z.1,z.2.v))=x.names.map λz=>(z.1,z.2.v)):y.pl=x.pl:=by
 obtain⟨a1,a2,a3,a4,a5,a6,a7,a8⟩:=hnum;unfold Tg.pl;simp only[TgV.mk.injEq];exact⟨a1,a2,h1,h2,a3,a4,a5,a6,a7,a8,h3,h4⟩
section
variable {m:Gm} {W wr w7 w8:World} {g3:Nat} {B:Option Addr} {cB:Nat} {E:Option Addr} {cE:Nat} {K:List Int} {C:Option Addr} {cC:Nat} {L:List (Int×Tg)} {TA:Option Addr} {tc:Nat}
end
def zmp (t e:TypeId) (size bytes:Nat):Prop:=
 Tryz.prog.underlying t=some (.slice e)/\0<size/\∃(i0:TypeInfo) (z:Value),Tryz.prog.info? e=some i0/\i0.zero=some z/\i0.size=size/\i0.bytes=bytes/\z.cells.size=size
theorem zdn {t e:TypeId} {z:Value} {size bytes:Nat} (h:(Tryz.prog.info? e).map (λi=>(i.zero,i.size,i.bytes))=some (some z,size,bytes)) (ht:Tryz.prog.underlying t=some (.slice e)) (hz:z.cells.size=size) (hs:0<size):zmp t e size bytes:=by
 obtain⟨i0,hi,h⟩:=Option.map_eq_some_iff.1 h;simp only[Prod.mk.injEq]at h;exact⟨ht,hs,i0,z,hi,h.1,h.2.1,h.2.2,hz⟩
theorem zda:zmp 26 28 5 64:=zdn zp3 Tryz.underlying26 rfl o_
theorem zgc:zmp 54 22 1 8:=zdn zh8 Tryz.underlying54 rfl o_
def zmq (w:World) (base:Nat) (e:TypeId) (size k m:Nat) (v:Value) (xs news:List Value) (A':Option Addr) (c':Nat) (w':World):Prop:=
 w'.ownsRow base e size (.slice A' (k+m) c') (k+m) (xs++news)/\w.grownBy w' v.ownBlock/\∀g,(Value.slice A' (k+m) c').ownBlock=some g->v.ownBlock=some g\/w.heap.size<=g
theorem zmq.fr {w w':World} {base:Nat} {e:TypeId} {size k m:Nat} {v:Value} {xs news:List Value} {A':Option Addr} {c':Nat} (h:zmq w base e size k m v xs news A' c' w'):Fr (λi=>v.ownBlock=some i) w w':=
 (Fr.refl _ w).grown h.2.1 λ_ hk _=>hk
theorem zt5 {t e:TypeId} {size bytes:Nat} (hT:zmp t e size bytes) (ty:TypeId) (w:World) (base:Nat) (v:Value) (k:Nat) (xs:List Value) (hown:w.ownsRow base e size v k xs) (lo hi:Nat) (B:Option Addr) (m c:Nat) (news:List Value) (h:Lies w lo hi B m size news)
 (hb:(k+m)*bytes<=140737488351232) (hkm:k+m<=100000000000000) (hbase:base<=w.heap.size):
 ∃A' c' w',(Builtin.append_ #[t,t] ty #[v,.slice B m c]).run Tryz.prog w= .ok (.slice A' (k+m) c') w'/\zmq w base e size k m v xs news A' c' w':=by
 obtain⟨ht,hs,i0,z,a4,hz,h4,h5,a7⟩:=hT;by_cases h0:m=0
 .subst h0;obtain rfl:news=[]:=List.eq_nil_of_length_eq_zero (by have:=h.len;simpa using this);obtain⟨A,cap,rfl⟩:=za8 hown;have a3:Src Tryz.prog i0.size t (.slice B 0 c) 0 [] w:=by
   cases B with
   |none=>exact Src.ofNil _ ht c
   |some a=>exact Src.ofSlice _ ht a 0 c [] s_ s_ s_
  have a6:k<=cap:=by
   rcases hown.2 with⟨h0,h1⟩|⟨g,a5,b1,h0,-,-,h3,-⟩
   .simp at h0;omega
   .simp at h0;omega
  exact⟨A,cap,w,run_append_nothing (P:=Tryz.prog) w t t ty e i0 ht a4 A k cap a6 _ a3,by simpa using hown,(World.grownBy.refl _ _),λg hg=>.inl hg⟩
 .obtain⟨b,o,rfl,a9,b0,hc⟩:=h.at_ h0;obtain⟨g,c',w',a2,a0,a8,a1,hlt⟩:=run_append_lies (P:=Tryz.prog) w t ty base e i0 z size bytes ht a4 hz h4 h5 a7 hs v k xs hown ⟨b,o,none⟩ m c news h.len (λj u hu=>by rw[zbi];exact hc j u hu) h.one o_ (by unfold maxLen;omega) o_ hbase _ rfl;refine⟨_,c',w',a2,a0,a8,λg' hg'=>?_⟩;have:g'=g:=by
   have e:(some g:Option Nat)=some g':=hg';exact(Option.some.inj e).symm
  subst this;rcases a1 with a1|a1
  .exact .inl a1
  .exact .inr o_
theorem ztc {o:Oper} {a:Act} {K:Act->World->Prop} {Q:Exit->Act->World->Prop} (w:World) (s x:Operand) {t e:TypeId} {size bytes:Nat} (hT:zmp t e size bytes)
 (ho:o.op= .call {callee:=.builtin .append,args:=#[s,x],argTypes:=#[t,t]}) (base:Nat) (v:Value) (k:Nat) (xs:List Value) (hs:a.eval s=v) (hown:w.ownsRow base e size v k xs) (lo hi:Nat) (B:Option Addr) (m c:Nat) (news:List Value) (hx:a.eval x= .slice B m c) (h:Lies w lo hi B m size news)
 (hb:(k+m)*bytes<=140737488351232) (hkm:k+m<=100000000000000) (hbase:base<=w.heap.size) (hK:∀A' c' w',zmq w base e size k m v xs news A' c' w'->K (a.put o.dst (.slice A' (k+m) c')) w'):Oper.wp Tryz.prog o a w K Q:=by
 obtain⟨A',c',w',a0,hk⟩:=zt5 hT o.type w base v k xs hown lo hi B m c news h hb hkm hbase;unfold Oper.wp execOp;simp only[ho,resolve,invoke,builtin,Sem.run_bind,Sem.run_pure,Result.andThen_ok,List.map_toArray,List.map_cons,List.map_nil,hs,hx,a0];exact hK A' c' w' hk
theorem zbf {ops:Array Oper} {rest:List Oper} {o:Oper} {a:Act} {Q:Exit->Act->World->Prop} (w:World) (hgd:o.guard=none) (s x:Operand) {t e:TypeId} {size bytes:Nat} (hT:zmp t e size bytes)
 (ho:o.op= .call {callee:=.builtin .append,args:=#[s,x],argTypes:=#[t,t]}) (base:Nat) (v:Value) (k:Nat) (xs:List Value) (hs:a.eval s=v) (hown:w.ownsRow base e size v k xs) (lo hi:Nat) (B:Option Addr) (m c:Nat) (news:List Value) (hx:a.eval x= .slice B m c) (h:Lies w lo hi B m size news)
 (hb:(k+m)*bytes<=140737488351232) (hkm:k+m<=100000000000000) (hbase:base<=w.heap.size) (hK:∀A' c' w',zmq w base e size k m v xs news A' c' w'->wpList Tryz.prog ops Q rest (a.put o.dst (.slice A' (k+m) c')) w'):wpList Tryz.prog ops Q (o::rest) a w:=
 wpList_plain hgd λ_ hK'=>ztc w s x hT ho base v k xs hs hown lo hi B m c news hx h hb hkm hbase λA' c' w' hk=>hK' _ _ (hK A' c' w' hk)
theorem zcn {ops:Array Oper} {o:Oper} {a:Act} {w:World} {K:Act->World->Prop} {Q:Exit->Act->World->Prop} {E:Prop} (hgd:o.guard=none) (s x:Operand) {t e:TypeId} {size bytes:Nat} (hT:zmp t e size bytes)
 (ho:o.op= .call {callee:=.builtin .append,args:=#[s,x],argTypes:=#[t,t]}) (base:Nat) (v:Value) (k:Nat) (xs:List Value) (hs:a.eval s=v) (hown:w.ownsRow base e size v k xs) (lo hi:Nat) (B:Option Addr) (m c:Nat) (news:List Value) (hx:a.eval x= .slice B m c) (h:Lies w lo hi B m size news)
 (hb:(k+m)*bytes<=140737488351232) (hkm:k+m<=100000000000000) (hbase:base<=w.heap.size) (hK:∀A' c' w',zmq w base e size k m v xs news A' c' w'->K (a.put o.dst (.slice A' (k+m) c')) w'):
 if Region.wanted o (yielded ops a.tmps)=true then Oper.wp Tryz.prog o a w K Q else E:=by
 have hw:Region.wanted o (yielded ops a.tmps)=true:=by simp[Region.wanted,hgd]
 rw[if_pos hw];exact ztc w s x hT ho base v k xs hs hown lo hi B m c news hx h hb hkm hbase hK
theorem Blk.lies {w:World} {g:Nat} {t:TypeId} {cs:List Value} (h:Blk w g t cs.toArray) (h1:∀u∈cs,u.oneCell'=true):Lies w g (g+1) (some ⟨g,0,none⟩) 1 cs.length cs:=
 ⟨by simp,h1,λ_=>⟨g,0,rfl,Nat.le_refl _,by omega,λj u hu=>by rw[Nat.zero_add];exact(h.cell j).trans (by simpa using hu)⟩⟩
theorem zno {w:World} {lo hi cap:Nat} {A:Option Addr} {l:List T} (h:(T.row A cap l).In w lo hi):Lies w lo hi A l.length 5 (zai l):=by
 unfold T.row at h;rw[T.in_mk]at h;obtain⟨-,h2,-⟩:=h;refine⟨za7 l,λu hu=>?_,λhn=>?_⟩
 .obtain⟨x,-,hx⟩:=List.mem_flatMap.1 hu;exact cells_one x u hx
 .obtain⟨b,o,rfl,h0,h1,hc⟩:=h2 (by rintro rfl;simp at hn);refine⟨b,o,rfl,h0,h1,λj u hu=>?_⟩;have hlt:=(List.getElem?_eq_some_iff.1 hu).1;rw[za7]at hlt;have hi:j / 5<l.length:=o_;have a0:j % 5<l[j / 5].cells.length:=by rw[T.cells_length];omega
  have e1:=zbs l (j / 5) (j % 5) l[j / 5] _ (List.getElem?_eq_getElem hi) (List.getElem?_eq_getElem a0);rw[show j / 5*5+j % 5=j by omega,hu]at e1;have e2:=hc (j / 5) l[j / 5] (List.getElem?_eq_getElem hi) (j % 5) u (by rw[List.getElem?_eq_getElem a0,<-e1]);rwa [show o+j / 5*5+j % 5=o+j by omega]at e2
def zxb (v:V) (d:Nat) (w:World) (e:Ending) (w':World):Prop:=∃z:Nat,e= .returned (.int .i64 (z:Int))/\zcv v d z/\Fr No w w'
theorem znc (t:T):∀(w:World) (d lo hi:Nat),t.In w lo hi->hi<=w.heap.size->d<=17->Calls Tryz.prog 265 #[t.val,.int .i64 (d:Int)] w (zxb t.v d w):=by
 induction t using T.ind with
 |h k n s A cap l r ih=>
  intro w d lo hi ht hh hd;rw[T.val_mk];have a3:=(T.in_mk.1 ht).1;have b3:=a3.len1;have b5:=a3.k0;have c5:=a3.k1;have a2:=(Fr.refl No w).alloc (.cells #[.int .u8 k,.int .i64 n,.string s,.slice A l.length cap,.int .i64 r] 28);by_cases b0:d=17
  .subst b0;have a6:=zcv.deep (T.mk k n s A cap l r).v;have HF:=zaa a2;clear a2 ih;by_cases h3:k=3
   .subst h3;go_enter Tryz.func265,Tryz.ntmps265;go_wp2;go_ret;exact⟨513,rfl,a6,HF.out⟩
   .have b8:(k==3)=false:=by simpa using h3
    go_enter Tryz.func265,Tryz.ntmps265;go_wp2;go_ret;exact⟨513,rfl,a6,HF.out⟩
  .have c6:¬(16:Int)<(d:Int):=o_;have a1:d<=16:=o_;go_enter Tryz.func265,Tryz.ntmps265;go_wp2_with fail;go_loopw [5,6] (λv i wr=>∃j m:Nat,j<=l.length/\i= .int .i64 j/\v= .int .i64 (m:Int)/\PInv (l.map T.v) d j m/\Fr No (w.alloc (.cells #[.int .u8 k,.int .i64 n,.string s,.slice A l.length cap,.int .i64 r] 28)) wr) (λ_ i _=>l.length - (intOf i).toNat)
   case atStart=>
    exact⟨0,1,Nat.zero_le _,rfl,rfl,PInv.zero _ _,Fr.refl _ _⟩
   case round=>
    obtain⟨j,m,hj,rfl,rfl,inv,fr⟩:=hrel;have hK:=(Blk.new' w 28 #[.int .u8 k,.int .i64 n,.string s,.slice A l.length cap,.int .i64 r] rfl).fr fr (λh=>h);obtain⟨c0,c1,c2,c3,c4,cf⟩:=hK.cells5;have a0:=a2.trans fr;have b1:=hK.lt;have hm:=inv.le;have HI:=zaa inv;clear inv;by_cases hlt:j<l.length
    .by_cases a8:m<=512
     .obtain⟨b,o,k1,n1,s1,A1,b4,l1,r1,rfl,b7,b9,hx,b2,e0,e1,e2,e3,e4⟩:=T.elem (ht.no a0 hh) hlt;have IH:=ih l[j] (List.getElem_mem hlt);rw[hx,T.val_mk]at IH;have HX:=zaa hx;have g0:b<wr.heap.size:=by have:=a0.size;omega
      have a4:(m:Int)<=512:=o_;have HF:=zaa fr;have HW:=zaa a0;clear hx ih fr a0 a2;go_wp2_with fail;have a5:((d:Int)+1)=((d+1:Nat):Int):=o_;rw[a5];clear a5;refine(IH wr (d+1) lo hi b2 (by have:=HW.out.size;omega) o_).mono ?_;rintro e w2 ⟨z,rfl,hz,a7⟩;have b6:=hz.2.1;have HZ:=zaa hz;have a9:=zaa a7;clear hz a7;go_wp2;go_roundw
      case rel=>
       refine⟨j+1,m+z,hlt,by go_num,by go_num,HI.out.succ a8 (by simpa using hlt) ?_ a1,HF.out.trans a9.out⟩;rw[List.getElem_map,HX.out];exact HZ.out
      case measure=>simp[intOf];omega
     .have a4:¬(m:Int)<=512:=o_;have HW:=zaa a0;clear ih;go_wp2;go_ret;refine⟨m,rfl,?_,HW.out⟩;rw[T.v_mk];exact HI.out.over o_
    .obtain rfl:l.length=j:=o_;have HW:=zaa a0;clear ih;go_wp2;go_ret;refine⟨m,rfl,?_,HW.out⟩;rw[T.v_mk];have h:=HI.out;have hl:l.length=(l.map T.v).length:=s_;rw[hl]at h;exact h.done a1
theorem ze4 (l:List Nat) (j:Nat) (h:j<l.length):top (l.take (j+1))=max (top (l.take j)) l[j]:=by
 induction l generalizing j with
 |nil=>simp at h
 |cons x l ih=>
  cases j with
  |zero=>simp[top]
  |succ j=>
   simp only[List.take_succ_cons,top,List.getElem_cons_succ];rw[ih j (by simpa using h)];omega
theorem zpc (t:T):∀(w:World) (lo hi:Nat),t.In w lo hi->hi<=w.heap.size->t.v.ht<=16->Calls Tryz.prog 266 #[t.val] w λe w'=>e= .returned (.int .i64 (t.v.dep:Int))/\Fr No w w':=by
 induction t using T.ind with
 |h k n s A cap l r ih=>
  intro w lo hi ht hh hd;rw[T.val_mk];have a4:=(T.in_mk.1 ht).1;have b2:=a4.len1;have b4:=a4.k0;have b8:=a4.k1;have a5:=(Fr.refl No w).alloc (.cells #[.int .u8 k,.int .i64 n,.string s,.slice A l.length cap,.int .i64 r] 28);have a3:=zha (T.mk k n s A cap l r).v;by_cases h3:k=3
  case neg=>
   have b6:(k !=3)=true:=by simpa using h3
   have e:(T.mk k n s A cap l r).v.dep=0:=by rw[T.v_mk,V.dep_mk,if_neg h3]
   rw[e];clear ih;go_enter Tryz.func266,Tryz.ntmps266;go_wp2;go_ret;exact⟨rfl,a5⟩
  subst h3;have e:(T.mk 3 n s A cap l r).v.dep=top ((l.map T.v).map V.dep)+1:=by rw[T.v_mk,V.dep_mk,if_pos rfl];omega
  have a0:∀x∈l,x.v.ht+1<=(T.mk 3 n s A cap l r).v.ht:=by
   intro x hx;rw[T.v_mk];exact ze3 (List.mem_map_of_mem hx)
  rw[e]at a3 ⊢;generalize (T.mk 3 n s A cap l r).v.ht=H at*;clear e;go_enter Tryz.func266,Tryz.ntmps266;go_wp2_with fail;go_loopw [3,4] (λv i wr=>∃j m:Nat,j<=l.length/\i= .int .i64 j/\v= .int .i64 (m:Int)/\m=top (((l.map T.v).map V.dep).take j)/\m<=17/\Fr No (w.alloc (.cells #[.int .u8 3,.int .i64 n,.string s,.slice A l.length cap,.int .i64 r] 28)) wr) (λ_ i _=>l.length - (intOf i).toNat)
  case atStart=>
   exact⟨0,0,Nat.zero_le _,rfl,rfl,by simp[top],by omega,Fr.refl _ _⟩
  case round=>
   obtain⟨j,m,hj,rfl,rfl,hm,a9,fr⟩:=hrel;have hK:=(Blk.new' w 28 #[.int .u8 3,.int .i64 n,.string s,.slice A l.length cap,.int .i64 r] rfl).fr fr (λh=>h);obtain⟨c0,c1,c2,c3,c4,cf⟩:=hK.cells5;have a1:=a5.trans fr;have b0:=hK.lt;have HM:=zaa hm;clear hm;by_cases hlt:j<l.length
   .obtain⟨b,o,k1,n1,s1,A1,a6,l1,r1,rfl,b5,b7,hx,b1,e0,e1,e2,e3,e4⟩:=T.elem (ht.no a1 hh) hlt;have IH:=ih l[j] (List.getElem_mem hlt);have hc:=a0 l[j] (List.getElem_mem hlt);have b3:=zha l[j].v;have a2:=ze4 ((l.map T.v).map V.dep) j (by simpa using hlt);rw[List.getElem_map,List.getElem_map]at a2;rw[hx]at IH hc b3 a2;rw[T.val_mk]at IH;generalize (T.mk k1 n1 s1 A1 a6 l1 r1).v=u at*;have g0:b<wr.heap.size:=by have:=a1.size;omega
    have HF:=zaa fr;have HW:=zaa a1;have HT:=zaa a2;clear hx ih fr a1 a5 a2 a0;go_wp2_with fail;refine(IH wr lo hi b1 (by have:=HW.out.size;omega) o_).mono ?_;rintro e w2 ⟨rfl,a7⟩;have a8:=zaa a7;clear a7;generalize hq:u.dep=q at*;have HQ:=zaa hq;clear hq;go_wp2;go_roundw
    case rel=>
     refine⟨j+1,max m q,hlt,by go_num,?_,by rw[HT.out,<-HM.out],by omega,HF.out.trans a8.out⟩;refine congrArg (Value.int .i64) ?_;rcases Nat.lt_or_ge m q with h|h
     .rw[if_pos h,Nat.max_eq_right o_]
     .rw[if_neg o_,Nat.max_eq_left h]
    case measure=>simp[intOf];omega
   .obtain rfl:l.length=j:=o_;have HW:=zaa a1;clear ih;go_wp2;go_ret;refine⟨?_,HW.out⟩;have h:=HM.out;rw[List.take_of_length_le s_]at h;rw[<-h];go_num
theorem za4 (r:Int):(r==0)=decide (r=0):=by rw[Bool.eq_iff_iff];simp
theorem za5:(⟨#[]⟩:ByteArray).toList=[]:=by rw[ByteArray.toList_eq]
theorem zpd (k n:Int) (s:ByteArray) (A:Option Addr) (cap len:Nat) (r:Int) (w:World) (hk0:0<=k) (hk1:k<256):
 Calls Tryz.prog 281 #[.agg #[.int .u8 k,.int .i64 n,.string s,.slice A len cap,.int .i64 r]] w λe w'=>e= .returned (.bool (fok k n s len r))/\Fr No w w':=by
 by_cases h0:k=0
 .subst h0;go_enter Tryz.func281,Tryz.ntmps281;go_wp2;all_goals
   go_ret;refine⟨congrArg (λb=>Ending.returned (.bool b)) ?_,(Fr.refl No w).alloc _⟩;(first|(simp[fok,za4, *];done)|(simp[fok,zan,za5,za4, *];omega)|(simp[fok,zan,za5,za4, *];intros;omega))
 .have k0:(k==0)=false:=by simp;exact h0
  by_cases h1:k=1
  .subst h1;go_enter Tryz.func281,Tryz.ntmps281;go_wp2;all_goals
    go_ret;refine⟨congrArg (λb=>Ending.returned (.bool b)) ?_,(Fr.refl No w).alloc _⟩;(first|(simp[fok,za4, *];done)|(simp[fok,zan,za5,za4, *];omega)|(simp[fok,zan,za5,za4, *];intros;omega))
  .have k1:(k==1)=false:=by simp;exact h1
   by_cases h2:k=2
   .subst h2;by_cases hs:s.size<=256
    .have a0:(s.size:Int)<=256:=o_;go_enter Tryz.func281,Tryz.ntmps281;go_wp2;all_goals
      go_ret;refine⟨congrArg (λb=>Ending.returned (.bool b)) ?_,(Fr.refl No w).alloc _⟩;(first|(simp[fok,za4, *];done)|(simp[fok,zan,za5,za4, *];omega)|(simp[fok,zan,za5,za4, *];intros;omega))
    .have a0:¬(s.size:Int)<=256:=o_;go_enter Tryz.func281,Tryz.ntmps281;go_wp2;all_goals
      go_ret;refine⟨congrArg (λb=>Ending.returned (.bool b)) ?_,(Fr.refl No w).alloc _⟩;(first|(simp[fok, *];done)|(simp[fok,zan,za5,za4, *];omega)|(simp[fok,zan,za5,za4, *];intros;omega))
   .have k2:(k==2)=false:=by simp;exact h2
    by_cases h3:k=3
    .subst h3;go_enter Tryz.func281,Tryz.ntmps281;go_wp2;all_goals
      go_ret;refine⟨congrArg (λb=>Ending.returned (.bool b)) ?_,(Fr.refl No w).alloc _⟩;(first|(simp[fok,za4, *];done)|(simp[fok,zan,za5,za4, *];omega)|(simp[fok,zan,za5,za4, *];intros;omega))
    .have k3:(k==3)=false:=by simp;exact h3
     by_cases h4:k=4
     .subst h4;by_cases hr:1<=r
      .go_enter Tryz.func281,Tryz.ntmps281;go_wp2;all_goals
        go_ret;refine⟨congrArg (λb=>Ending.returned (.bool b)) ?_,(Fr.refl No w).alloc _⟩;(first|(simp[fok, *];done)|(simp[fok,zan,za5,za4, *];omega)|(simp[fok,zan,za5,za4, *];intros;omega))
      .go_enter Tryz.func281,Tryz.ntmps281;go_wp2;all_goals
        go_ret;refine⟨congrArg (λb=>Ending.returned (.bool b)) ?_,(Fr.refl No w).alloc _⟩;(first|(simp[fok, *];done)|(simp[fok,zan,za5,za4, *];omega)|(simp[fok,zan,za5,za4, *];intros;omega))
     .have k4:(k==4)=false:=by simp;exact h4
      go_enter Tryz.func281,Tryz.ntmps281;go_wp2;all_goals
       go_ret;refine⟨congrArg (λb=>Ending.returned (.bool b)) ?_,(Fr.refl No w).alloc _⟩;(first|(simp[fok, *];done)|(simp[fok,zan,za5,za4, *];omega)|(simp[fok,zan,za5,za4, *];intros;omega))
theorem zk0 {l:List V} {j:Nat} (h:∀i (hi:i<l.length),i<j->l[i].ok=true) (hj:j=l.length):l.all V.ok=true:=by
 rw[List.all_eq_true];intro x hx;obtain⟨i,hi,rfl⟩:=List.mem_iff_getElem.1 hx;exact h i hi o_
theorem znd (t:T):∀(w:World) (lo hi:Nat),t.In w lo hi->hi<=w.heap.size->Calls Tryz.prog 267 #[t.val] w λe w'=>e= .returned (.bool t.v.ok)/\Fr No w w':=by
 induction t using T.ind with
 |h k n s A cap l r ih=>
  intro w lo hi ht hh;rw[T.val_mk];have a3:=(T.in_mk.1 ht).1;have b1:=a3.len1;have a7:=a3.k0;have b0:=a3.k1;have hF:=λw'=>zpd k n s A cap l.length r w' a7 b0;have a6:=(Fr.refl No w).alloc (.cells #[.int .u8 k,.int .i64 n,.string s,.slice A l.length cap,.int .i64 r] 28);go_enter Tryz.func267,Tryz.ntmps267;go_wp2_with fail;go_loopw [3] (λi wr=>∃j:Nat,j<=l.length/\i= .int .i64 j/\(∀i (hi:i<l.length),i<j->l[i].v.ok=true)/\Fr No (w.alloc (.cells #[.int .u8 k,.int .i64 n,.string s,.slice A l.length cap,.int .i64 r] 28)) wr) (λi _=>l.length - (intOf i).toNat)
  case atStart=>
   exact⟨0,Nat.zero_le _,rfl,λi h hi=>absurd hi o_,Fr.refl _ _⟩
  case round=>
   obtain⟨j,hj,rfl,a0,fr⟩:=hrel;have hK:=(Blk.new' w 28 #[.int .u8 k,.int .i64 n,.string s,.slice A l.length cap,.int .i64 r] rfl).fr fr (λh=>h);obtain⟨c0,c1,c2,c3,c4,cf⟩:=hK.cells5;have a1:=a6.trans fr;have a8:=hK.lt;have HA:=zaa a0;clear a0;by_cases hlt:j<l.length
   .obtain⟨b,o,k1,n1,s1,A1,a4,l1,r1,rfl,b2,b3,hx,a9,e0,e1,e2,e3,e4⟩:=T.elem (ht.no a1 hh) hlt;have IH:=ih l[j] (List.getElem_mem hlt);rw[hx,T.val_mk]at IH;have g0:b<wr.heap.size:=by have:=a1.size;omega
    have HX:=zaa hx;have HF:=zaa fr;have HW:=zaa a1;clear hx ih fr a1 a6 hF;go_wp2_with fail;refine(IH wr lo hi a9 (by have:=HW.out.size;omega)).mono ?_;rintro e w2 ⟨rfl,a2⟩;have a5:=zaa a2;clear a2;cases hq:(T.mk k1 n1 s1 A1 a4 l1 r1).v.ok with
    |false=>
     go_wp2;go_ret;refine⟨?_,HW.out.trans a5.out⟩;rw[T.v_mk,V.ok_mk];have hz:(l.map T.v).all V.ok=false:=by
      rw[List.all_eq_false];exact⟨l[j].v,List.mem_map_of_mem (List.getElem_mem hlt),by rw[HX.out,hq];simp⟩
     rw[hz];simp
    |true=>
     have HQ:=zaa hq;clear hq;go_wp2;go_roundw
     case rel=>
      refine⟨j+1,hlt,by go_num,λi hi hij=>?_,HF.out.trans a5.out⟩;rcases Nat.lt_or_ge i j with h|h
      .exact HA.out i hi h
      .obtain rfl:i=j:=o_;rw[HX.out];exact HQ.out
     case measure=>simp[intOf];omega
   .obtain rfl:l.length=j:=o_;have HW:=zaa a1;clear ih;go_wp2_with fail;refine(hF wr).mono ?_;rintro e w2 ⟨rfl,a2⟩;go_wp2;go_ret;refine⟨?_,HW.out.trans a2⟩;rw[T.v_mk,V.ok_mk,zk0 (j:=l.length) (λi hi hij=>by rw[List.getElem_map];exact HA.out i (by simpa using hi) hij) s_];simp
theorem zgi (t:T) (w:World) (lo hi:Nat) (ht:t.In w lo hi) (hh:hi<=w.heap.size):
 Calls Tryz.prog 232 #[t.val] w λe w'=>e= .returned (.bool t.v.may)/\Fr No w w':=by
 have hP:=λw' h h'=>znc t w' 0 lo hi h h' o_;have hD:=λw' h h'=>zpc t w' lo hi h h';have hO:=λw' h h'=>znd t w' lo hi h h';cases t with
 |mk k n s A cap l r=>
  rw[T.val_mk]at*;generalize hv:(T.mk k n s A cap l r).v=u at*;have HV:=zaa hv;clear hv;have a2:=(Fr.refl No w).alloc (.cells #[.int .u8 k,.int .i64 n,.string s,.slice A l.length cap,.int .i64 r] 28);have hK:Blk (w.alloc (.cells #[.int .u8 k,.int .i64 n,.string s,.slice A l.length cap,.int .i64 r] 28)) w.heap.size 28 _:=Blk.new _ _ _;go_enter Tryz.func232,Tryz.ntmps232;go_wp2_with fail;generalize World.alloc w _=W0 at*;have b7:=a2.size;refine(hP W0 (ht.no a2 hh) o_).mono ?_;rintro e w2 ⟨z,rfl,hz,a5⟩;have hm:=zvg hz;have h3:=hz.2.2.1;have b4:=hz.2.1;have a3:=hK.fr a5 (λh=>h);have a0:=a2.trans a5;have a6:=ht.no a0 hh;have b8:=a0.size;clear hz hP hK a2 a5;by_cases h5:z<=512
  .have b2:(z:Int)<=512:=o_;obtain⟨-,b5⟩:=h3 h5;obtain⟨c0,c1,c2,c3,c4,cf⟩:=a3.cells5;have hlt:=a3.lt;have HM:=zaa hm;have HF:=zaa a0;have HK:=zaa a3;clear hm a0 a3 h3;go_wp2_with fail;refine(hD w2 a6 o_ o_).mono ?_;rintro e w3 ⟨rfl,a1⟩;have b0:=zha u;obtain⟨d0,d1,d2,d3,d4,df⟩:=(HK.out.fr a1 (λh=>h)).cells5;have b3:=(HK.out.fr a1 (λh=>h)).lt;have a9:=a6.no a1 o_;have b6:=a1.size;have a7:=zaa (HF.out.trans a1);clear a1 c0 c1 c2 c3 c4 cf;by_cases a8:u.dep<=16
   .have a4:(u.dep:Int)<=16:=o_;go_wp2_with fail;refine(hO w3 a9 o_).mono ?_;rintro e w4 ⟨rfl,b1⟩;have e1:u.may=u.ok:=by rw[HM.out];simp[h5,a8]
    have E1:=zaa e1;clear e1;go_wp2;go_ret;exact⟨by rw[E1.out];rfl,a7.out.trans b1⟩
   .have a4:¬(u.dep:Int)<=16:=o_;have e1:u.may=false:=by rw[HM.out];simp[a8]
    have E1:=zaa e1;clear e1;go_wp2;go_ret;exact⟨by rw[E1.out];rfl,a7.out⟩
  .have b2:¬(z:Int)<=512:=o_;have e1:u.may=false:=by rw[hm];simp[h5]
   have E1:=zaa e1;have HF:=zaa a0;clear e1 hm a0;go_wp2;go_ret;exact⟨by rw[E1.out];rfl,HF.out⟩
def Tg.vals (x:Tg):List T:=x.v::(x.vs++x.names.map Prod.snd)
theorem Tg.vals_len (x:Tg):x.vals.length=1+x.vs.length+x.names.length:=by simp[Tg.vals];omega
theorem Tg.vals_in {w:World} {lo hi:Nat} {x:Tg} (h:x.In w lo hi):∀t∈x.vals,t.In w lo hi:=by
 intro t ht;rcases List.mem_cons.1 ht with rfl|ht
 .exact h.v
 rcases List.mem_append.1 ht with ht|ht
 .exact(T.in_mk.1 h.vs).2.2 t ht
 .obtain⟨y,hy,rfl⟩:=List.mem_map.1 ht;exact(h.names.inn y hy).2
def zx0 (l:List T) (w:World) (e:Ending) (w':World):Prop:=
 ∃A c,e= .returned (.slice A l.length c)/\w'.ownsRow w.heap.size 28 5 (.slice A l.length c) l.length (zai l)/\Fr No w w'
theorem zht (x:Tg) (w:World) (lo hi:Nat) (hx:x.In w lo hi) (hh:hi<=w.heap.size) (hvs:x.vs.length<=1024) (hns:x.names.length<=128):
 Calls Tryz.prog 231 #[x.val] w (zx0 x.vals w):=by
 have a3:=zno hx.vs;obtain⟨kind,home,⟨k,n,s,A,cap,l,r⟩,VA,vc,vs,n1,lost,ofr,byr,set,full,CA,cc,a1,NA,nc,a0⟩:=x;have a7:(Tg.val ⟨kind,home,T.mk k n s A cap l r,VA,vc,vs,n1,lost,ofr,byr,set,full,CA,cc,a1,NA,nc,a0⟩)= .agg #[.int .u8 kind,.int .i64 home,.int .u8 k,.int .i64 n,.string s,.slice A l.length cap,.int .i64 r,.slice VA vs.length vc,.int .i64 n1,.int .i64 lost,.int .i64 ofr,.int .i64 byr,.int .u8 set,.bool full,.slice CA a1.length cc,.slice NA a0.length nc]:=rfl;rw[a7];simp only at a3;have hb:=Blk.new w 138 #[.int .u8 kind,.int .i64 home,.int .u8 k,.int .i64 n,.string s,.slice A l.length cap,.int .i64 r,.slice VA vs.length vc,.int .i64 n1,.int .i64 lost,.int .i64 ofr,.int .i64 byr,.int .u8 set,.bool full,.slice CA a1.length cc,.slice NA a0.length nc];have hf:=(Fr.refl No w).alloc (.cells #[.int .u8 kind,.int .i64 home,.int .u8 k,.int .i64 n,.string s,.slice A l.length cap,.int .i64 r,.slice VA vs.length vc,.int .i64 n1,.int .i64 lost,.int .i64 ofr,.int .i64 byr,.int .u8 set,.bool full,.slice CA a1.length cc,.slice NA a0.length nc] 138);have HL:=zaa (λ(w':World) (f:Fr No w w')=>a3.no f hh);have f1:=zaa hx.names;have HF:=zaa hf;have HB:=zaa hb;have f7:a0.length<=128:=hns;have e8:vs.length<=1024:=hvs;clear hx a7 hb hf a3 hns hvs;go_enter Tryz.func231,Tryz.ntmps231;go_upto_region 1 with(fail);generalize World.alloc w _=W0 at*;obtain⟨d0,d1,d2,d3,d4,d5,d6,d7,d8,d9,b0,b1,b4,b3,a9,a8⟩:=HB.out.cells16;have dq:=HB.out.lt;go_upto_region 2 with(fail);have c4:=Blk.new W0 28 #[.int .u8 k,.int .i64 n,.string s,.slice A l.length cap,.int .i64 r];have b9:=(Fr.refl No W0).alloc (.cells #[.int .u8 k,.int .i64 n,.string s,.slice A l.length cap,.int .i64 r] 28);have c7:(W0.alloc (.cells #[.int .u8 k,.int .i64 n,.string s,.slice A l.length cap,.int .i64 r] 28)).ownsRow w.heap.size 28 5 (.slice (some ⟨W0.heap.size,0,none⟩) 1 1) 1 (zai [T.mk k n s A cap l r]):=
  ⟨by simp[zai,T.cells],.inr ⟨W0.heap.size,1,_,rfl,HF.out.size,c4,Nat.le_refl _,by unfold maxLen;omega,rfl,by simp[zai,T.cells]⟩⟩
 have b7:=zaa (HB.out.fr b9 λh=>h);have b8:=zaa (HF.out.trans b9);have c1:=zaa c7;clear c4 b9 c7 d0 d1 d2 d3 d4 d5 d6 d7 d8 d9 b0 b1 b4 b3 a9 a8 dq;have f3:=zaa (show W0.heap.size≠w.heap.size by have:=HB.out.lt;omega);generalize f0:World.alloc W0 _=W1 at*;generalize W0.heap.size=g0 at*;clear f0;obtain⟨d0,d1,d2,d3,d4,d5,d6,d7,d8,d9,b0,b1,b4,b3,a9,a8⟩:=b7.out.cells16;have dq:=b7.out.lt;go_wp2_with (at_builtin;refine zbf _ r_ _ _ zda r_ w.heap.size _ 1 _ r_ c1.out lo hi VA vs.length vc _ r_ (HL.out W1 b8.out) o_ o_ (by have:=b8.out.size;omega) ?_;intro A2 c2 w2 hk;have HK:=zaa hk;clear hk);have hk:=HK.out;have c6:=hk.1;have e6:=b8.out.trans' hk.fr λi hi hv=>by
  have:=(zaj c1.out i hv).1;omega
 have e3:=b7.out.fr hk.fr λhv=>by
  have:=c1.out;have h1:(Value.slice (some ⟨g0,0,none⟩) 1 1).ownBlock=some w.heap.size:=hv;have h2:g0=w.heap.size:=Option.some.inj h1;exact absurd h2 f3.out
 have a4:zai [T.mk k n s A cap l r]++zai vs=zai (T.mk k n s A cap l r::vs):=by simp[zai]
 rw[a4]at c6;have f2:=zaa c6;have f4:=zaa e6;have e9:=zaa e3;clear hk c6 e6 e3 a4 HK d0 d1 d2 d3 d4 d5 d6 d7 d8 d9 b0 b1 b4 b3 a9 a8 dq;go_loopw [3,4] (λv i wr=>∃(j:Nat) (A':Option Addr) (c':Nat),j<=a0.length/\i= .int .i64 j/\v= .slice A' (1+vs.length+j) c'/\wr.ownsRow w.heap.size 28 5 (.slice A' (1+vs.length+j) c') (1+vs.length+j) (zai (T.mk k n s A cap l r::(vs++(a0.take j).map Prod.snd)))/\Fr No w wr/\Blk wr w.heap.size 138 #[.int .u8 kind,.int .i64 home,.int .u8 k,.int .i64 n,.string s,.slice A l.length cap,.int .i64 r,.slice VA vs.length vc,.int .i64 n1,.int .i64 lost,.int .i64 ofr,.int .i64 byr,.int .u8 set,.bool full,.slice CA a1.length cc,.slice NA a0.length nc]) (λ_ i _=>a0.length - (intOf i).toNat)
 case atStart=>exact⟨0,A2,c2,Nat.zero_le _,rfl,rfl,by simpa using f2.out,f4.out,e9.out⟩
 case round=>
  obtain⟨j,A3,c3,hj,rfl,rfl,ho,f,a6⟩:=hrel;obtain⟨d0,d1,d2,d3,d4,d5,d6,d7,d8,d9,b0,b1,b4,b3,a9,a8⟩:=a6.cells16;have dq:=a6.lt;have b5:=zaa f;have c9:=zaa ho;have e1:=zaa a6;by_cases hlt:j<a0.length
  .have b6:=List.getElem_mem hlt;obtain⟨b,o,rfl,f9,c4,c8⟩:=f1.out.at_ (λh=>by have h':a0=[]:=h;rw[h']at hlt;simp at hlt);have a5:∀i u,(zbj a0[j])[i]? =some u->wr.cell? ⟨b,o+j*6+i,none⟩=some u:=λi u hu=>(f.cell o_ λh=>h).trans (c8 j a0[j] (List.getElem?_eq_getElem hlt) i u hu);have e4:(a0.take (j+1)).map Prod.snd=(a0.take j).map Prod.snd++[a0[j].2]:=by rw[List.take_add_one,List.getElem?_eq_getElem hlt,List.map_append];rfl
   generalize a0[j]=xj at*;obtain⟨nm,⟨k3,n3,s3,A4,a2,l3,r3⟩⟩:=xj;have x1:wr.cell? ⟨b,o+j*6+1,none⟩=some (.int .u8 k3):=a5 1 _ rfl;have x2:wr.cell? ⟨b,o+j*6+1+1,none⟩=some (.int .i64 n3):=a5 2 _ rfl;have x3:wr.cell? ⟨b,o+j*6+1+2,none⟩=some (.string s3):=a5 3 _ rfl;have x4:wr.cell? ⟨b,o+j*6+1+3,none⟩=some (.slice A4 l3.length a2):=a5 4 _ rfl;have x5:wr.cell? ⟨b,o+j*6+1+4,none⟩=some (.int .i64 r3):=a5 5 _ rfl;have g2:b<wr.heap.size:=by have:=f.size;omega
   have f6:=zaa e4;clear c8 a5 b6 f ho e4 a6;have b2:=(Fr.refl No wr).alloc (.cells #[.int .u8 k3,.int .i64 n3,.string s3,.slice A4 l3.length a2,.int .i64 r3] 28);have e0:=zaa b2;have c0:=zaa (zaf c9.out b2 λ_ _ h=>h);have e7:=zaa (e1.out.fr b2 λh=>h);have f8:=zaa ((Blk.new wr 28 #[.int .u8 k3,.int .i64 n3,.string s3,.slice A4 l3.length a2,.int .i64 r3]).lies (cs:=(T.mk k3 n3 s3 A4 a2 l3 r3).cells) (cells_one _));clear b2;go_wp2_with (at_builtin;refine zbf _ r_ _ _ zda r_ w.heap.size _ (1+vs.length+j) _ r_ c0.out wr.heap.size (wr.heap.size+1) (some ⟨wr.heap.size,0,none⟩) 1 1 _ r_ f8.out o_ o_ (by have:=b5.out.size;have:=e0.out.size;omega) ?_;intro A5 c5 w5 hk;have HK:=zaa hk;clear hk);go_roundw
   case rel=>
    have hk:=HK.out;have ha:=e0.out;have e2:=b5.out;have g1:=e2.size;have e5:=hk.1;have a4:zai (T.mk k n s A cap l r::(vs++(a0.take j).map Prod.snd))++(T.mk k3 n3 s3 A4 a2 l3 r3).cells=zai (T.mk k n s A cap l r::(vs++(a0.take (j+1)).map Prod.snd)):=by
     rw[f6.out];simp[zai]
    rw[a4]at e5;refine⟨j+1,A5,c5,hlt,by go_num,rfl,e5,(e2.trans ha).trans' hk.fr λi hi hv=>?_,e7.out.fr hk.fr λhv=>?_⟩
    .have:=(zaj c0.out i hv).1;omega
    .exact absurd rfl (zag c0.out e7.out d_ hv)
   case measure=>simp[intOf];omega
  .obtain rfl:a0.length=j:=o_;have HO:=zaa ho;have f5:=zaa f;clear ho f a6 b5 c9 e1;go_wp2;go_ret;have ho:=HO.out;rw[List.take_length]at ho;exact⟨A3,c3,by simp[Tg.vals];omega,by simpa[Tg.vals,Nat.add_comm,Nat.add_left_comm,Nat.add_assoc]using ho,f5.out⟩
end Go.Proofs.YtlejelbefmkakaaGreat

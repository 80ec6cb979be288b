/- Texts joined: Re12. -/
import Derived.Test.YtlejelbefmkakaaGreatJn1
import Derived.Test.YtlejelbefmkakaaGreatJn37
import Derived.Test.YtlejelbefmkakaaGreatJn38
import Derived.Test.YtlejelbefmkakaaGreatJn39
import Derived.Test.YtlejelbefmkakaaGreatJn40
import Derived.Test.YtlejelbefmkakaaGreatJn42
import Derived.Deep.Cut
import Derived.Deep.CutRange
set_option maxHeartbeats 16000000
set_option maxRecDepth 100000
namespace Go.Proofs.YtlejelbefmkakaaGreat
open Go.RowKit
theorem zay {P:Program} {ops:Array Oper} {C:World->Prop} {Q:Act->Prop} {o:Oper} {rest:List Oper} {a:Act} (hw:Region.wanted o (yielded ops a.tmps)=true) (ty:TypeId) (x:Operand) (ho:o.op= .load ty x) (v:Value) (hr:∀w,C w->(Instr.loadAt ty (a.eval x)).run P w= .ok v w)
 (h:wpQuiet P ops C Q rest (a.put o.dst v)):wpQuiet P ops C Q (o::rest) a:=
 wpQuiet_step λK hK=>by
  rw[if_pos hw];exact⟨v,λw hc=>by
   unfold Oper.quietAt execOp;simp only[ho,Sem.run_bind,hr w hc,Result.andThen_ok,Sem.run_pure];exact⟨rfl,rfl⟩,hK _ h⟩
def zjx (ps cuts:List Int) (ths:List (Int×Tg)) (last:Int) (made:List Int) (W:World) (e:Ending) (w':World):Prop:=
 (¬FromOk ps cuts ths last made/\e= .returned (.tuple #[.pointer none,.int .i64 71])/\Fr No W w')\/
 (FromOk ps cuts ths last made/\∃m:Rw,e= .returned (.tuple #[.pointer (some ⟨m.wb,0,none⟩),.int .i64 0])/\m.Ok W.heap.size w'/\
  (m.par=ps/\m.cut=zpu ps.length cuts/\zgl ths m.ths/\m.last=last/\m.made=made)/\Fr No W w')
theorem Rw.Ok.less {m:Rw} {lo lo':Nat} {W:World} (h:m.Ok lo W) (hl:lo'<=lo):m.Ok lo' W:=
 ⟨h.blk,zbc h.par hl,zbc h.cut hl,zbc h.th hl,zbc h.made hl,λx hx=>(h.st x hx).more hl,h.rng,Nat.le_trans hl h.lo0,h.len,h.sep⟩
structure RI1 (m:Rw) (m0:Rw) (ps cuts:List Int) (made:List Int) (W0 wr:World) (j:Nat):Prop where
 ok:m.Ok W0.heap.size wr
 par:m.par=ps
 cut:m.cut=zpu ps.length (cuts.take j)
 ths:m.ths=[]
 last:m.last=0
 rmade:m.made=List.replicate (ps.length+1) 0
 wb:m.wb=m0.wb
 fr:Fr No W0 wr
 good:∀i,i<j->zm2 made.length cuts i
theorem RI1.step {m m0:Rw} {ps cuts made:List Int} {W0 wr:World} {j:Nat} (h:RI1 m m0 ps cuts made W0 wr j) (hsd:made.length=ps.length+1) {c:Int} (hc:cuts[j]? =some c) (hc0:1<=c/\c<=(ps.length:Int)) (hp:∀c',0<j->cuts[j - 1]? =some c'->c'<c):
 ∃g,m.C=some ⟨g,0,none⟩/\g<wr.heap.size/\(∃u,wr.cell? ⟨g,(c - 1).toNat,none⟩=some (.bool u))/\wr.frozen? ⟨g,(c - 1).toNat,none⟩=false/\
  RI1 {m with cut:=m.cut.set (c - 1).toNat true} m0 ps cuts made W0 (wr.setCell ⟨g,(c - 1).toNat,none⟩ (.bool true)) (j+1):=by
 have a0:(c - 1).toNat<m.cut.length:=by rw[h.cut,zec];omega
 obtain⟨g,hC,h0,h1,h2,h3⟩:=h.ok.cutAt a0;obtain⟨a2,hf⟩:=h.ok.setC hC (c - 1).toNat;refine⟨g,hC,h1,⟨_,h2⟩,h3,a2,h.par,?_,h.ths,h.last,h.rmade,h.wb,h.fr.trans' hf λi hi e=>by have e':i=g:=e;omega,λi hi=>?_⟩
 .show m.cut.set _ true=_;rw[h.cut,zpv hc]
 .by_cases a1:i=j
  .subst a1;intro c2 hc2;rw[hc]at hc2;injection hc2 with hc2
   subst hc2;exact⟨by omega,λc' h0 h'=>hp c' h0 h'⟩
  .exact h.good i o_
structure RI2 (m:Rw) (m0:Rw) (ps cuts:List Int) (made:List Int) (W0 wr:World) (j:Nat):Prop where
 ok:m.Ok W0.heap.size wr
 par:m.par=ps
 cut:m.cut=zpu ps.length cuts
 ths:m.ths=[]
 last:m.last=0
 rmade:m.made=made.take j++List.replicate (made.length - j) 0
 wb:m.wb=m0.wb
 fr:Fr No W0 wr
 good:∀i n,i<j->made[i]? =some n->0<=n/\n<=512
theorem RI2.no {m m0:Rw} {ps cuts made:List Int} {W0 wr w2:World} {j:Nat} (h:RI2 m m0 ps cuts made W0 wr j) (f:Fr No wr w2):RI2 m m0 ps cuts made W0 w2 j:=
 ⟨h.ok.no f,h.par,h.cut,h.ths,h.last,h.rmade,h.wb,h.fr.trans f,h.good⟩
theorem zvj {j:Nat} {l:List Int} {n:Int} (h:l[j]? =some n):(l.take j++List.replicate (l.length - j) (0:Int)).set j n=l.take (j+1)++List.replicate (l.length - (j+1)) 0:=by
 obtain⟨hj,rfl⟩:=List.getElem?_eq_some_iff.1 h;have hl:(l.take j).length=j:=by rw[List.length_take];omega
 rw[List.set_append_right _ _ o_,hl,Nat.sub_self,List.take_succ_eq_append_getElem hj,List.append_assoc];congr 1
 rw[show l.length - j=(l.length - (j+1))+1 by omega,List.replicate_succ];rfl
theorem RI2.len {m m0:Rw} {ps cuts made:List Int} {W0 wr:World} {j:Nat} (h:RI2 m m0 ps cuts made W0 wr j) (hj:j<=made.length):m.made.length=made.length:=by
 rw[h.rmade];simp;omega
theorem RI2.step {m m0:Rw} {ps cuts made:List Int} {W0 wr:World} {j:Nat} (h:RI2 m m0 ps cuts made W0 wr j) {n:Int} (hn:made[j]? =some n) (h0:0<=n/\n<=512):
 ∃g,m.D=some ⟨g,0,none⟩/\g<wr.heap.size/\(∃u,wr.cell? ⟨g,j,none⟩=some (.int .i64 u))/\wr.frozen? ⟨g,j,none⟩=false/\
  RI2 {m with made:=m.made.set j n} m0 ps cuts made W0 (wr.setCell ⟨g,j,none⟩ (.int .i64 n)) (j+1):=by
 have hj:=(List.getElem?_eq_some_iff.1 hn).1;have a0:j<m.made.length:=by rw[h.len o_];exact hj
 obtain⟨g,hD,g0,g1,g2,g3⟩:=h.ok.madeAt a0;obtain⟨a2,hf⟩:=h.ok.setD hD j n;refine⟨g,hD,g1,⟨_,g2⟩,g3,a2,h.par,h.cut,h.ths,h.last,?_,h.wb,h.fr.trans' hf λi hi e=>by have e':i=g:=e;omega,λi n' hi hn'=>?_⟩
 .show m.made.set j n=_;rw[h.rmade,zvj hn]
 .by_cases a1:i=j
  .subst a1;rw[hn]at hn';injection hn' with hn'
   rw[<-hn'];exact h0
  .exact h.good i n' o_ hn'
structure RI3 (m m0:Rw) (ps cuts:List Int) (ths:List (Int×Tg)) (last:Int) (made:List Int) (W0:World) (g:Nat) (hr:List Value) (wr:World) (j:Nat):Prop where
 ok:m.Ok W0.heap.size wr
 par:m.par=ps
 cut:m.cut=zpu ps.length cuts
 rlast:m.last=last
 rmade:m.made=made
 wb:m.wb=m0.wb
 fr:Fr No W0 wr
 kept:zgl (ths.take j) m.ths
 row:Blk wr g 3 hr.toArray
 hP:(Value.slice m.P m.par.length m.pc).ownBlock≠some g
 hD:(Value.slice m.D m.made.length m.dc).ownBlock≠some g
 g0:W0.heap.size<=g
section
variable {m m0:Rw} {ps cuts:List Int} {ths:List (Int×Tg)} {last:Int} {made:List Int} {W0 wr w2 w5:World} {g j:Nat} {hr:List Value}
theorem RI3.no (h:RI3 m m0 ps cuts ths last made W0 g hr wr j) (f:Fr No wr w2):RI3 m m0 ps cuts ths last made W0 g hr w2 j:=
 ⟨h.ok.no f,h.par,h.cut,h.rlast,h.rmade,h.wb,h.fr.trans f,h.kept,h.row.fr f λh=>h,h.hP,h.hD,h.g0⟩
theorem RI3.home (h:RI3 m m0 ps cuts ths last made W0 g hr wr j) (s:Nat) (v:Value):RI3 m m0 ps cuts ths last made W0 g (hr.set s v) (wr.setCell ⟨g,s,none⟩ v) j:=by
 have f:Fr (λi=>i=g) wr (wr.setCell ⟨g,s,none⟩ v):=(Fr.refl (λi=>i=g) wr).set (λ_=>rfl) _;have hb:=h.row.set_ s v;refine⟨h.ok.offI h.row h.hP h.hD f,h.par,h.cut,h.rlast,h.rmade,h.wb,h.fr.trans' f λi hi e=>by have:=h.g0;have e':i=g:=e;omega,h.kept,by simpa using hb,h.hP,h.hD,h.g0⟩
theorem RI3.add (h:RI3 m m0 ps cuts ths last made W0 g hr wr j) {x:Int×Tg} {y:Tg} (hx:ths[j]? =some x) (hy:y.St wr W0.heap.size) (hpl:y.pl=x.2.pl) (hrg: -9223372036854775808<=x.1/\x.1<=9223372036854775807) (hl:m.ths.length<1000000) {A':Option Addr} {c':Nat}
 (hk:zmq wr W0.heap.size 140 17 m.ths.length 1 (.slice m.TA m.ths.length m.tc) (zcw m.ths) (zc9 (x.1,y)) A' c' w5):
 RI3 {m with TA:=A',tc:=c',ths:=m.ths++[(x.1,y)]} m0 ps cuts ths last made W0 g hr (w5.setCell ⟨m.wb,2,none⟩ (.slice A' (m.ths.length+1) c')) (j+1):=by
 obtain⟨a1,f⟩:=h.ok.addT (x:=(x.1,y)) hy hrg hl hk;refine⟨a1,h.par,h.cut,h.rlast,h.rmade,h.wb,h.fr.trans' f λi hi e=>?_,?_,h.row.fr f λe=>?_,h.hP,h.hD,h.g0⟩
 .rcases e with e|e
  .have:=(zaj h.ok.th i e).1;omega
  .have:=h.ok.lo0;omega
 .have a0:=h.kept;unfold zgl at a0 ⊢;rw[List.map_append,a0,List.take_add_one,hx];simp[hpl]
 .rcases e with e|e
  .exact zag h.ok.th h.row d_ e rfl
  .exact Blk.ne_ h.row h.ok.blk d_ e
theorem RI2.start3 {m:Rw} (h:RI2 m m0 ps cuts made W0 wr made.length) (_hk:made.length<=16):RI3 {m with last:=last} m0 ps cuts ths last made W0 wr.heap.size (za2 made.length (ths.take 0)) ((wr.setCell ⟨m.wb,3,none⟩ (.int .i64 last)).alloc (.cells (madeCells #[.int .i64 0] made.length) 3)) 0:=by
 obtain⟨a0,f⟩:=h.ok.setL last;have fa:=(Fr.refl No (wr.setCell ⟨m.wb,3,none⟩ (.int .i64 last))).alloc (.cells (madeCells #[.int .i64 0] made.length) 3);have hb:=Blk.new (wr.setCell ⟨m.wb,3,none⟩ (.int .i64 last)) 3 (madeCells #[.int .i64 0] made.length);have he:madeCells #[.int .i64 0] made.length=(za2 made.length (ths.take 0)).toArray:=by
  apply Array.ext'
  rw[toList_madeCells_one,List.take_zero,zf0]
 rw[he]at hb fa ⊢;rw[World.size_setCell]at hb;have hm:m.made=made:=by rw[h.rmade];simp
 refine⟨a0.no fa,h.par,h.cut,rfl,hm,h.wb,(h.fr.trans' f λi hi e=>by have:=h.ok.lo0;have e':i=m.wb:=e;omega).trans fa,?_,hb,λe=>?_,λe=>?_,h.fr.size⟩
 .show zgl (ths.take 0) m.ths;rw[h.ths];rfl
 .have:=(zaj h.ok.par _ e).2;omega
 .have:=(zaj h.ok.made _ e).2;omega
end
theorem RI1.no {m m0:Rw} {ps cuts made:List Int} {W0 wr w2:World} {j:Nat} (h:RI1 m m0 ps cuts made W0 wr j) (f:Fr No wr w2):RI1 m m0 ps cuts made W0 w2 j:=
 ⟨h.ok.no f,h.par,h.cut,h.ths,h.last,h.rmade,h.wb,h.fr.trans f,h.good⟩
theorem zpj (PA:Option Addr) (pc:Nat) (ps:List Int) (CA:Option Addr) (cc:Nat) (cuts:List Int) (TA:Option Addr) (tc:Nat) (ths:List (Int×Tg)) (last:Int) (MA:Option Addr) (mc:Nat) (made:List Int) (W:World) (lo hi:Nat)
 (hp:Ints W lo hi PA pc ps) (hc:Ints W lo hi CA cc cuts) (ht:EnRow W lo hi TA tc ths) (hm:Ints W lo hi MA mc made) (hla: -9223372036854775808<=last/\last<=9223372036854775807) (hh:hi<=W.heap.size) (hln:ths.length<=120/\ps.length<=40/\cuts.length<=40/\made.length<=40) (hsh:∀x∈ths,x.2.short=true):
 Calls Tryz.prog 107 #[.agg #[.slice PA ps.length pc,.slice CA cuts.length cc,.slice TA ths.length tc,.int .i64 last,.slice MA made.length mc]] W (zjx ps cuts ths last made W):=by
 have b6:=Blk.new W 71 #[.slice PA ps.length pc,.slice CA cuts.length cc,.slice TA ths.length tc,.int .i64 last,.slice MA made.length mc];have l7:=(Fr.refl No W).alloc (.cells #[.slice PA ps.length pc,.slice CA cuts.length cc,.slice TA ths.length tc,.int .i64 last,.slice MA made.length mc] 71);have hN:=zsa PA pc ps (W.alloc (.cells #[.slice PA ps.length pc,.slice CA cuts.length cc,.slice TA ths.length tc,.int .i64 last,.slice MA made.length mc] 71)) lo hi (⟨(hp.il.no l7 hh).len,hp.cap,(hp.il.no l7 hh).at_,hp.rng⟩) (Nat.le_trans hh l7.size);have p7:=zaa b6;have a7:=zaa l7;have HN:=zaa hN;have G3:=zaa hc;have HT:=zaa ht;have HM:=zaa hm;have l6:=zaa hh;have F5:=zaa hla;have l5:=zaa hsh;obtain⟨x5,G2,D7,E0⟩:=hln;have b7:Hid (∀W',Fr No W W'->¬FromOk ps cuts ths last made->zjx ps cuts ths last made W (.returned (.tuple #[.pointer none,.int .i64 71])) W'):=zaa λW' f h=>.inl ⟨h,rfl,f⟩;have p3:Hid (∀W' (m:Rw),Fr No W W'->FromOk ps cuts ths last made->m.Ok W.heap.size W'->(m.par=ps/\m.cut=zpu ps.length cuts/\zgl ths m.ths/\m.last=last/\m.made=made)->zjx ps cuts ths last made W (.returned (.tuple #[.pointer (some ⟨m.wb,0,none⟩),.int .i64 0])) W'):=zaa λW' m f h a8 i6=>.inr ⟨h,m,rfl,a8,i6,f⟩;obtain⟨Q0,A2⟩:∃Q0,zjx ps cuts ths last made W=Q0:=⟨_,rfl⟩;rw[A2]at b7 p3 ⊢;clear A2;obtain⟨e0,e1,e2,e3,e4⟩:(W.alloc (.cells #[.slice PA ps.length pc,.slice CA cuts.length cc,.slice TA ths.length tc,.int .i64 last,.slice MA made.length mc] 71)).cell? ⟨W.heap.size,0,none⟩=some (.slice PA ps.length pc)/\(W.alloc (.cells #[.slice PA ps.length pc,.slice CA cuts.length cc,.slice TA ths.length tc,.int .i64 last,.slice MA made.length mc] 71)).cell? ⟨W.heap.size,1,none⟩=some (.slice CA cuts.length cc)/\(W.alloc (.cells #[.slice PA ps.length pc,.slice CA cuts.length cc,.slice TA ths.length tc,.int .i64 last,.slice MA made.length mc] 71)).cell? ⟨W.heap.size,2,none⟩=some (.slice TA ths.length tc)/\(W.alloc (.cells #[.slice PA ps.length pc,.slice CA cuts.length cc,.slice TA ths.length tc,.int .i64 last,.slice MA made.length mc] 71)).cell? ⟨W.heap.size,3,none⟩=some (.int .i64 last)/\(W.alloc (.cells #[.slice PA ps.length pc,.slice CA cuts.length cc,.slice TA ths.length tc,.int .i64 last,.slice MA made.length mc] 71)).cell? ⟨W.heap.size,4,none⟩=some (.slice MA made.length mc):=⟨b6.cell 0,b6.cell 1,b6.cell 2,b6.cell 3,b6.cell 4⟩;have i0:=b6.lt;have F8:W.heap.size<=(W.alloc (.cells #[.slice PA ps.length pc,.slice CA cuts.length cc,.slice TA ths.length tc,.int .i64 last,.slice MA made.length mc] 71)).heap.size:=l7.size;clear b6 l7 hN hp hc ht hm hh hla hsh;go_enter Tryz.func107,Tryz.ntmps107;go_wp2_with fail;generalize World.alloc W _=W0 at*;generalize C3:W.heap.size=bx at*;have k4:=zaa C3;clear C3;refine HN.out.mono ?_;rintro e w1 (⟨A5,rfl,f1⟩|⟨o2,m0,rfl,a8,i6,f1⟩)
 .have D5:=zaa A5;have n8:=zaa (a7.out.trans f1);clear A5 f1 e0 e1 e2 e3 e4 i0 HN;go_wp2;exact b7.out _ n8.out λF=>D5.out F.new
 have n4:=zaa o2;have B8:Hid (RI1 m0 m0 ps cuts made W0 w1 0):=zaa ⟨a8,i6.1,i6.2.1,i6.2.2.1,i6.2.2.2.1,i6.2.2.2.2,rfl,f1,λi hi=>by omega⟩;have HE:Hid (W0.cell? ⟨bx,0,none⟩=some (.slice PA ps.length pc)/\W0.cell? ⟨bx,1,none⟩=some (.slice CA cuts.length cc)/\W0.cell? ⟨bx,2,none⟩=some (.slice TA ths.length tc)/\W0.cell? ⟨bx,3,none⟩=some (.int .i64 last)/\W0.cell? ⟨bx,4,none⟩=some (.slice MA made.length mc)/\bx<W0.heap.size):=zaa ⟨e0,e1,e2,e3,e4,i0⟩;have c6:Hid (∀w':World,Fr No W0 w'->w'.cell? ⟨bx,0,none⟩=some (.slice PA ps.length pc)/\w'.cell? ⟨bx,1,none⟩=some (.slice CA cuts.length cc)/\w'.cell? ⟨bx,2,none⟩=some (.slice TA ths.length tc)/\w'.cell? ⟨bx,3,none⟩=some (.int .i64 last)/\w'.cell? ⟨bx,4,none⟩=some (.slice MA made.length mc)/\bx<w'.heap.size):=zaa λw' f=>⟨(f.cell i0 λh=>h).trans e0,(f.cell i0 λh=>h).trans e1,(f.cell i0 λh=>h).trans e2,(f.cell i0 λh=>h).trans e3,(f.cell i0 λh=>h).trans e4,Nat.lt_of_lt_of_le i0 f.size⟩;clear a8 i6 o2 e0 e1 e2 e3 e4 i0 HN;obtain⟨z0,z1,z2,z3,z4,zq⟩:=c6.out w1 f1;clear f1;by_cases p5:made.length=ps.length+1
 case neg=>
  have hd:((made.length:Int)!=(ps.length:Int)+1)=true:=so_;have j0:=zaa p5;clear p5;go_wp2;exact b7.out _ (a7.out.trans B8.out.fr) λF=>j0.out F.sides
 have hd:((made.length:Int)!=(ps.length:Int)+1)=false:=so_;have j0:=zaa p5;clear p5;go_wp2_with fail;clear z0 z1 z2 z3 z4 zq hd;go_loopw [6] (λv wr=>∃(j:Nat) (m:Rw),j<=cuts.length/\v= .int .i64 j/\Hid (RI1 m m0 ps cuts made W0 wr j)) (λv _=>cuts.length - (intOf v).toNat)
 case atStart=>exact⟨0,m0,Nat.zero_le _,rfl,B8⟩
 case round=>
  obtain⟨j,m,hj,rfl,HI⟩:=hrel;rw[<-HI.out.wb];obtain⟨z0,z1,z2,z3,z4,zq⟩:=c6.out wr HI.out.fr;by_cases hlt:j<cuts.length
  case pos=>
   obtain⟨b,o,rfl,b6,h6,l2⟩:=G3.out.at_ (by rintro rfl;simp at hlt);have h9:b<W0.heap.size:=by have:=l6.out;have:=k4.out;omega
   have m1:=zaa h9;have l3:Hid (∀w':World,Fr No W0 w'->w'.cell? ⟨b,o+j,none⟩=some (.int .i64 cuts[j])):=zaa λw' f=>((a7.out.trans f).cell (by have:=l6.out;have:=k4.out;omega) λh=>h).trans (l2 j _ (List.getElem?_eq_getElem hlt));have j3:=zaa (List.getElem?_eq_getElem hlt:cuts[j]? =some cuts[j]);have r5:Hid (∀i x,cuts[i]? =some x->∀w':World,Fr No W0 w'->w'.cell? ⟨b,o+i,none⟩=some (.int .i64 x)):=zaa λi x hx w' f=>((a7.out.trans f).cell (by have:=l6.out;have:=k4.out;omega) λh=>h).trans (l2 i x hx);have c9:Hid (¬(1<=cuts[j]/\cuts[j]<=(ps.length:Int)/\∀c',0<j->cuts[j - 1]? =some c'->c'<cuts[j])->¬FromOk ps cuts ths last made):=zaa λhn F=>hn (by
    have:=F.cut j _ (List.getElem?_eq_getElem hlt);have hk:=j0.out;exact⟨by omega,by omega,λc' h0 h1=>this.2 c' h0 h1⟩)
   generalize cuts[j]=c at*;clear l2 b6 h6 z0 z1 z2 z3 z4 zq h9;have c0:∀q:ClN wr,q.w.cell? ⟨bx,0,none⟩=some (.slice PA ps.length pc):=λq=>(c6.out q.w (HI.out.fr.trans q.fr)).1;have k8:∀q:ClN wr,q.w.cell? ⟨bx,1,none⟩=some (.slice (some ⟨b,o,none⟩) cuts.length cc):=λq=>(c6.out q.w (HI.out.fr.trans q.fr)).2.1;have b3:∀q:ClN wr,bx<q.w.heap.size:=λq=>(c6.out q.w (HI.out.fr.trans q.fr)).2.2.2.2.2;have gx:∀q:ClN wr,q.w.cell? ⟨b,o+j,none⟩=some (.int .i64 c):=λq=>l3.out q.w (HI.out.fr.trans q.fr);have gb:∀q:ClN wr,b<q.w.heap.size:=λq=>Nat.lt_of_lt_of_le m1.out (HI.out.fr.trans q.fr).size;have a2:Nonempty (ClN wr):=⟨⟨wr,Fr.refl No wr⟩⟩;have y1:wr.cell? ⟨bx,1,none⟩=some (.slice (some ⟨b,o,none⟩) cuts.length cc):=k8 ⟨wr,Fr.refl No wr⟩;have yq:bx<wr.heap.size:=b3 ⟨wr,Fr.refl No wr⟩;by_cases h1:c<1
   case pos=>
    have d1:decide (c<1)=true:=by simpa using h1
    have a1:=zaa (c9.out o_);clear c9;go_upto_region 7 with(fail);refine zab (λW'=>∃q:ClN wr,W'=q.w) k_ k_ ⟨⟨_,(Fr.refl No wr).drew⟩,rfl⟩ ?_;repeat(go_big_quiet_step (fail))
    refine wpQuiet_nil ?_;rintro w2 ⟨⟨_,f2⟩,rfl⟩;have a5:=zaa (HI.out.fr.trans f2);clear f2 a2 c0 k8 b3 gx gb;go_wp2;exact b7.out _ (a7.out.trans a5.out) a1.out
   have d1:decide (c<1)=false:=by simpa using h1
   by_cases h2:(ps.length:Int)<c
   case pos=>
    have d2:decide ((ps.length:Int)<c)=true:=by simpa using h2
    have a1:=zaa (c9.out o_);clear c9;go_upto_region 7 with(fail);refine zab (λW'=>∃q:ClN wr,W'=q.w) k_ k_ ⟨⟨_,(Fr.refl No wr).drew⟩,rfl⟩ ?_;repeat(go_big_quiet_step (fail))
    refine wpQuiet_nil ?_;rintro w2 ⟨⟨_,f2⟩,rfl⟩;have a5:=zaa (HI.out.fr.trans f2);clear f2 a2 c0 k8 b3 gx gb;go_wp2;exact b7.out _ (a7.out.trans a5.out) a1.out
   have d2:decide ((ps.length:Int)<c)=false:=by simpa using h2
   by_cases g9:j=0
   case pos=>
    have d3:decide (0<j)=false:=by simp[g9]
    have E6:=zaa g9;clear g9;go_upto_region 7 with(fail);refine zab (λW'=>∃q:ClN wr,W'=q.w) k_ k_ ⟨⟨_,(Fr.refl No wr).drew⟩,rfl⟩ ?_;repeat(go_big_quiet_step (fail))
    refine wpQuiet_nil ?_;rintro w2 ⟨⟨_,f2⟩,rfl⟩;have m5:=RI1.no HI.out f2;have b9:=zaa m5;clear f2 a2 c0 k8 b3 gx gb m5;obtain⟨z0,z1,z2,z3,z4,zq⟩:=c6.out w2 b9.out.fr;obtain⟨g,hC,g1,⟨u,g2⟩,g3,g5⟩:=b9.out.step j0.out j3.out o_ (by intro c' h0;have:=E6.out;omega);have o1:(c - 1).toNat=c.toNat - 1:=o_;rw[o1]at g2 g3 g5;have b5:=zaa g5;clear o1;have C9:=l3.out w2 b9.out.fr;have y7:=Nat.lt_of_lt_of_le m1.out b9.out.fr.size;have zc:w2.cell? ⟨m.wb,1,none⟩=some (.slice m.C m.cut.length m.cc):=b9.out.ok.blk.cell 1;rw[hC]at zc;have y6:=b9.out.ok.blk.lt;have k7:m.cut.length=ps.length:=by rw[b9.out.cut,zec]
    rw[k7]at zc;clear g5 hC k7;go_upto_region 9 with(fail);have k0:0<=c - 1:=o_;have k1:c - 1<(ps.length:Int):=o_;go_region
    go_wp2_with fail;go_roundw
    case rel=>exact⟨j+1,{m with cut:=m.cut.set (c.toNat - 1) true},hlt,by go_num,zaa (RI1.no b5.out ((Fr.refl No _).drew))⟩
    case measure=>simp[intOf]<;>omega
   obtain⟨j1,rfl⟩:∃j1,j=j1+1:=⟨j - 1,by omega⟩;have d3:decide (0<j1+1)=true:=s_;have D2:IntKind.i64.wrap (((j1+1:Nat):Int) - 1)=(j1:Int):=by
    rw[show((j1+1:Nat):Int) - 1=(j1:Int) by omega];exact IntWalk.i64_in _ o_
   have m4:j1<cuts.length:=o_;have q0:=zaa (List.getElem?_eq_getElem m4:cuts[j1]? =some cuts[j1]);have l0:∀q:ClN wr,q.w.cell? ⟨b,o+j1,none⟩=some (.int .i64 cuts[j1]):=λq=>r5.out j1 _ (List.getElem?_eq_getElem m4) q.w (HI.out.fr.trans q.fr);generalize cuts[j1]=c1 at*;generalize q5:j1+1=j at*;have s3:=zaa q5;clear g9 q5;by_cases h3:c<=c1
   case pos=>
    have d4:decide (c<=c1)=true:=by simpa using h3
    have a1:=zaa (c9.out (by(intro hh;have:=hh.2.2 c1 (by have:=s3.out;omega) (by rw[<-s3.out];exact q0.out);omega)));clear c9;go_upto_region 7 with(fail);refine zab (λW'=>∃q:ClN wr,W'=q.w) k_ k_ ⟨⟨_,(Fr.refl No wr).drew⟩,rfl⟩ ?_;repeat(go_big_quiet_step (fail))
    refine wpQuiet_nil ?_;rintro w2 ⟨⟨_,f2⟩,rfl⟩;have a5:=zaa (HI.out.fr.trans f2);clear f2 a2 c0 k8 b3 gx gb l0;go_wp2;exact b7.out _ (a7.out.trans a5.out) a1.out
   have d4:decide (c<=c1)=false:=by simpa using h3
   have H3:=zaa h3;clear h3;go_upto_region 7 with(fail);refine zab (λW'=>∃q:ClN wr,W'=q.w) k_ k_ ⟨⟨_,(Fr.refl No wr).drew⟩,rfl⟩ ?_;repeat(go_big_quiet_step (fail))
   refine wpQuiet_nil ?_;rintro w2 ⟨⟨_,f2⟩,rfl⟩;have m5:=RI1.no HI.out f2;have b9:=zaa m5;clear f2 a2 c0 k8 b3 gx gb l0 m5;obtain⟨z0,z1,z2,z3,z4,zq⟩:=c6.out w2 b9.out.fr;obtain⟨g,hC,g1,⟨u,g2⟩,g3,g5⟩:=b9.out.step j0.out j3.out o_ (by intro c' h0 h';rw[<-s3.out]at h';simp only[Nat.add_sub_cancel]at h';rw[q0.out]at h';injection h' with h';have:=H3.out;omega);have o1:(c - 1).toNat=c.toNat - 1:=o_;rw[o1]at g2 g3 g5;have b5:=zaa g5;clear o1;have C9:=l3.out w2 b9.out.fr;have y7:=Nat.lt_of_lt_of_le m1.out b9.out.fr.size;have zc:w2.cell? ⟨m.wb,1,none⟩=some (.slice m.C m.cut.length m.cc):=b9.out.ok.blk.cell 1;rw[hC]at zc;have y6:=b9.out.ok.blk.lt;have k7:m.cut.length=ps.length:=by rw[b9.out.cut,zec]
   rw[k7]at zc;clear g5 hC k7;go_upto_region 9 with(fail);have k0:0<=c - 1:=o_;have k1:c - 1<(ps.length:Int):=o_;go_region
   go_wp2_with fail;go_roundw
   case rel=>exact⟨j+1,{m with cut:=m.cut.set (c.toNat - 1) true},hlt,by go_num,zaa (RI1.no b5.out ((Fr.refl No _).drew))⟩
   case measure=>simp[intOf]<;>omega
  case neg=>
   obtain rfl:cuts.length=j:=o_;have q0:Hid (∀i,zm2 made.length cuts i):=zaa λi=>by
    by_cases hi:i<cuts.length
    .exact HI.out.good i hi
    .intro c hc;rw[List.getElem?_eq_none o_]at hc;cases hc
   have s5:Hid (RI2 m m0 ps cuts made W0 wr 0):=zaa ⟨HI.out.ok,HI.out.par,by have:=HI.out.cut;rwa [List.take_length]at this,HI.out.ths,HI.out.last,by rw[HI.out.rmade,j0.out];rfl,HI.out.wb,HI.out.fr,λi n hi=>by omega⟩;have x9:=zaa HI.out.wb;clear HI z0 z2 z3 z4;obtain⟨wa,rfl⟩:∃wa:World,wa=wr:=⟨_,rfl⟩;go_wp2_with fail;clear z1 zq hlt hj;rw[x9.out];go_loopw [7,8] (λs v wr=>∃(j:Nat) (m:Rw) (S:Int),j<=made.length/\v= .int .i64 j/\s= .int .i64 S/\Hid (S=(made.take j).sum)/\(0<=S/\S<=512*(j:Int))/\Hid (RI2 m m0 ps cuts made W0 wr j)) (λ_ v _=>made.length - (intOf v).toNat)
   case atStart=>exact⟨0,m,0,Nat.zero_le _,rfl,rfl,zaa s_,by simp,s5⟩
   case round=>
    obtain⟨j,m,S,hj,rfl,rfl,r3,⟨I0,H4⟩,HI⟩:=hrel;rw[<-HI.out.wb];obtain⟨z0,z1,z2,z3,z4,zq⟩:=c6.out wr HI.out.fr;by_cases hlt:j<made.length
    case pos=>
     obtain⟨b,o,rfl,b6,h6,l2⟩:=HM.out.at_ (by rintro rfl;simp at hlt);have h9:b<W0.heap.size:=by have:=l6.out;have:=k4.out;have:=a7.out.size;omega
     have m1:=zaa h9;have l3:Hid (∀w':World,Fr No W0 w'->w'.cell? ⟨b,o+j,none⟩=some (.int .i64 made[j])):=zaa λw' f=>((a7.out.trans f).cell (by have:=l6.out;have:=k4.out;omega) λh=>h).trans (l2 j _ (List.getElem?_eq_getElem hlt));have j3:=zaa (List.getElem?_eq_getElem hlt:made[j]? =some made[j]);have G1:=zaa (show(made.take (j+1)).sum=S+made[j] by rw[List.take_succ_eq_append_getElem hlt,List.sum_append,<-r3.out];simp);have f9:Hid (¬(0<=made[j]/\made[j]<=512)->¬FromOk ps cuts ths last made):=zaa λhn=>zpw (List.getElem?_eq_getElem hlt) o_;generalize made[j]=n at*;have hx:=l3.out wr HI.out.fr;have s0:=Nat.lt_of_lt_of_le h9 HI.out.fr.size;clear l2 b6 h6 h9;by_cases h1:n<0
     case pos=>
      have d1:decide (n<0)=true:=by simpa using h1
      have a1:=zaa (f9.out o_);clear f9;go_wp2;exact b7.out _ (a7.out.trans HI.out.fr) a1.out
     have d1:decide (n<0)=false:=by simpa using h1
     by_cases h2:512<n
     case pos=>
      have d2:decide (512<n)=true:=by simpa using h2
      have a1:=zaa (f9.out o_);clear f9;go_wp2;exact b7.out _ (a7.out.trans HI.out.fr) a1.out
     have d2:decide (512<n)=false:=by simpa using h2
     clear f9;obtain⟨g,hD,g1,⟨u,g2⟩,g3,g5⟩:=HI.out.step j3.out o_;have b5:=zaa g5;have zc:wr.cell? ⟨m.wb,4,none⟩=some (.slice m.D m.made.length m.dc):=HI.out.ok.blk.cell 4;rw[hD,HI.out.len hj]at zc;have y6:=HI.out.ok.blk.lt;have H9:=zaa (And.intro HI.out.ok.lo0 HI.out.fr.size);have H7:Hid (W0.heap.size<=g):=zaa (by have:=HI.out.ok.made;rw[hD]at this;exact(zaj this g rfl).1);clear g5 hD;go_upto_region 16 with(fail);go_region
     have m3:=RI2.no b5.out ((Fr.refl No _).drew);have E5:=zaa m3;obtain⟨y0,y1,y2,y3,y4,yq⟩:=c6.out _ m3.fr;have yx:=l3.out _ m3.fr;have I1:=Nat.lt_of_lt_of_le m1.out m3.fr.size;clear m3 z0 z1 z2 z3 z4 zq hx s0 g1 g2 g3 zc y6 b5;generalize World.drew _=w3 at*;go_wp2_with fail;go_roundw
     case rel=>exact⟨j+1,{m with made:=m.made.set j n},S+n,hlt,by go_num,rfl,zaa G1.out.symm,by omega,E5⟩
     case measure=>simp[intOf]<;>omega
    case neg=>
     obtain rfl:made.length=j:=o_;have i1:=zaa (show made.sum=S by have:=r3.out;rw[List.take_length]at this;exact this.symm);have F2:=zaa HI.out.good;clear r3;have i7:made.length<=16:=by have:=j0.out;have:=n4.out.1;omega
     have H6:S<=8192:=o_;have c4:Hid ((last<0\/64*S<last\/64*S<(ths.length:Int))->¬FromOk ps cuts ths last made):=zaa λh=>zsm (by rw[i1.out];exact h);obtain⟨G6,H0⟩:=F5.out;by_cases h1:last<0
     case pos=>
      have d1:decide (last<0)=true:=by simpa using h1
      have a1:=zaa (c4.out (.inl h1));clear c4;go_wp2;exact b7.out _ (a7.out.trans HI.out.fr) a1.out
     have d1:decide (last<0)=false:=by simpa using h1
     by_cases h2:64*S<last
     case pos=>
      have d2:decide (64*S<last)=true:=by simpa using h2
      have a1:=zaa (c4.out (.inr (.inl h2)));clear c4;go_wp2;exact b7.out _ (a7.out.trans HI.out.fr) a1.out
     have d2:decide (64*S<last)=false:=by simpa using h2
     by_cases h3:64*S<(ths.length:Int)
     case pos=>
      have d3:decide (64*S<(ths.length:Int))=true:=by simpa using h3
      have a1:=zaa (c4.out (.inr (.inr h3)));clear c4;go_wp2;exact b7.out _ (a7.out.trans HI.out.fr) a1.out
     have d3:decide (64*S<(ths.length:Int))=false:=by simpa using h3
     have h4:=zaa (And.intro h1 h2);have o6:=zaa (HI.out.start3 (ths:=ths) (last:=last) i7);have y3:wr.cell? ⟨m.wb,3,none⟩=some (.int .i64 m.last):=HI.out.ok.blk.cell 3;have yz:=HI.out.ok.blk.frozen 3;have yq:=HI.out.ok.blk.lt;have b2:bx≠m.wb:=by have:=HI.out.ok.lo0;have:=HE.out.2.2.2.2.2;omega
     have s9:m.wb≠bx:=Ne.symm b2;have E7:=zie made.length i7;clear c4 h1 h2 h3;go_upto_region 22 with(fail);generalize World.alloc (World.setCell wr _ _) _=W3 at*;have E9:=zaa HI.out.fr.size;generalize wr.heap.size=g at*;obtain⟨m',B4⟩:∃m':Rw,({m with last:=last}:Rw)=m':=⟨_,rfl⟩;rw[B4]at o6;have m7:m.wb=m0.wb:=HI.out.wb;rw[m7];clear y3 yz yq b2 s9 E7 z0 z1 z2 z3 z4 zq HI B4 m7;go_wp2_with fail;go_loopw [10] (λv wr=>∃(j:Nat) (m:Rw),j<=ths.length/\v= .int .i64 j/\Hid (RI3 m m0 ps cuts ths last made W0 g (za2 made.length (ths.take j)) wr j)/\Hid (∀i,i<j->zk3 made.length ths last i)) (λv _=>ths.length - (intOf v).toNat)
     case atStart=>exact⟨0,m',Nat.zero_le _,rfl,o6,zaa λi hi=>by omega⟩
     case round=>
      obtain⟨j,m,hj,rfl,HI,HG⟩:=hrel;rw[<-HI.out.wb];obtain⟨z0,z1,z2,z3,z4,zq⟩:=c6.out wr HI.out.fr;by_cases hlt:j<ths.length
      case neg=>
       obtain rfl:ths.length=j:=o_;have g6:=zaa HI.out;have h5:Hid (zgl ths m.ths):=zaa (by have:=HI.out.kept;rwa [List.take_length]at this);have v6:Hid (∀w':World,Fr No wr w'->Blk w' g 3 (za2 made.length ths).toArray):=zaa λw' f=>by have:=HI.out.row.fr f λh=>h;rwa [List.take_length]at this
       have k3:Hid (∀w':World,Fr No wr w'->m.Ok W0.heap.size w'):=zaa λw' f=>HI.out.ok.no f;have j7:=zaa HI.out.fr;obtain⟨w3,rfl⟩:∃w3:World,w3=wr:=⟨_,rfl⟩;clear HI hlt hj;go_wp2_with fail;clear z0 z1 z2 z3 z4 zq;go_loopw [12] (λv wr=>∃j:Nat,j<=made.length/\v= .int .i64 j/\Hid (∀s n,s<j->made[s]? =some n->zby ths s<=n)/\Fr No w3 wr) (λv _=>made.length - (intOf v).toNat)
       case atStart=>exact⟨0,Nat.zero_le _,rfl,zaa λs n hs=>by omega,Fr.refl _ _⟩
       case round=>
        obtain⟨j,hj,rfl,r6,fr⟩:=hrel;have e8:=zaa fr;by_cases hlt:j<made.length
        case pos=>
         have a8:=k3.out wr fr;obtain⟨gD,hD,G5,x8,x2,F3⟩:=a8.madeAt (i:=j) (by rw[g6.out.rmade];exact hlt);have s4:made[j]? =some made[j]:=List.getElem?_eq_getElem hlt;have z5:m.made[j]'(by rw[g6.out.rmade];exact hlt)=made[j]:=by simp[g6.out.rmade]
         rw[z5]at x2;have a2:Nonempty (ClN wr):=⟨⟨wr,Fr.refl No wr⟩⟩;have gh:∀q:ClN wr,q.w.cell? ⟨g,j,none⟩=some (.int .i64 (zby ths j)):=λq=>by
          have:=(v6.out q.w (fr.trans q.fr)).cell j;rw[this];simp[za2,hlt]
         have C0:∀q:ClN wr,g<q.w.heap.size:=λq=>(v6.out q.w (fr.trans q.fr)).lt;have B2:∀q:ClN wr,q.w.cell? ⟨m.wb,4,none⟩=some (.slice (some ⟨gD,0,none⟩) made.length m.dc):=λq=>by
          have:q.w.cell? ⟨m.wb,4,none⟩=some (.slice m.D m.made.length m.dc):=(a8.no q.fr).blk.cell 4;rw[this,hD,g6.out.rmade]
         have C4:∀q:ClN wr,m.wb<q.w.heap.size:=λq=>(a8.no q.fr).blk.lt;have gm:∀q:ClN wr,q.w.cell? ⟨gD,j,none⟩=some (.int .i64 made[j]):=λq=>(q.fr.cell x8 λh=>h).trans x2;have B9:∀q:ClN wr,gD<q.w.heap.size:=λq=>Nat.lt_of_lt_of_le x8 q.fr.size;have r4:Hid (made[j]<zby ths j->¬FromOk ps cuts ths last made):=zaa λh=>zpw s4 (.inr (.inr h));have b5:Hid (¬made[j]<zby ths j->∀s n,s<j+1->made[s]? =some n->zby ths s<=n):=zaa λh s n hs hn=>by
          by_cases F6:s=j
          .subst F6;rw[s4]at hn;injection hn with hn
           omega
          .exact r6.out s n o_ hn
         generalize made[j]=n at*;generalize zby ths j=hv at*;clear a8 hD G5 x8 x2 F3 s4 z5 fr;go_upto_region 34 with(fail);by_cases g0:n<hv
         case pos=>
          have d1:decide (n<hv)=true:=by simpa using g0
          have a1:=zaa (r4.out g0);clear r4 b5;refine zab (λW'=>∃q:ClN wr,W'=q.w) k_ k_ ⟨⟨_,(Fr.refl No wr).drew⟩,rfl⟩ ?_;repeat(go_big_quiet_step (fail))
          refine wpQuiet_nil ?_;rintro w2 ⟨⟨_,f2⟩,rfl⟩;have a5:=zaa (e8.out.trans f2);clear f2 a2 gh C0 B2 C4 gm B9;go_wp2;exact b7.out _ (a7.out.trans (j7.out.trans a5.out)) a1.out
         case neg=>
          have d1:decide (n<hv)=false:=by simpa using g0
          have d8:=zaa (b5.out g0);clear r4 b5 g0;refine zab (λW'=>∃q:ClN wr,W'=q.w) k_ k_ ⟨⟨_,(Fr.refl No wr).drew⟩,rfl⟩ ?_;repeat(go_big_quiet_step (fail))
          refine wpQuiet_nil ?_;rintro w2 ⟨⟨_,f2⟩,rfl⟩;have a5:=zaa (e8.out.trans f2);clear f2 a2 gh C0 B2 C4 gm B9;go_wp2_with fail;go_roundw
          case rel=>exact⟨j+1,hlt,by go_num,d8,a5.out⟩
          case measure=>simp[intOf]<;>omega
        case neg=>
         obtain rfl:made.length=j:=o_;have G0:Hid (∀s n,made[s]? =some n->zby ths s<=n/\n<=512):=zaa λs n hn=>by
          have hs:=(List.getElem?_eq_some_iff.1 hn).1;exact⟨r6.out s n hs hn,(F2.out s n hs hn).2⟩
         have j6:Hid (∀x∈m.ths,x.2.Fit):=zaa λx hx=>(g6.out.ok.st x hx).inn.fit;have c3:=zaa (h5.out.pre HG.out l5.out j6.out);have E2:m.ths.length<=120:=by rw[h5.out.len];exact x5
         have H8:=zaa h5.out.len;obtain⟨w4,rfl⟩:∃w4:World,w4=wr:=⟨_,rfl⟩;have h8:=zaa (j7.out.trans fr);have e9:Hid (∀w':World,Fr No w4 w'->m.Ok W0.heap.size w'):=zaa λw' f=>k3.out w' (fr.trans f);clear fr e8 r6 hlt hj v6 k3 j7;go_wp2_with fail;go_loopw [13] (λv wr=>∃j:Nat,j<=m.ths.length/\v= .int .i64 j/\Hid (∀x∈m.ths.take j,zfp m.ths x.1)/\Fr No w4 wr) (λv _=>m.ths.length - (intOf v).toNat)
         case atStart=>exact⟨0,Nat.zero_le _,rfl,zaa s_,Fr.refl _ _⟩
         case round=>
          obtain⟨j,hj,rfl,r7,fr⟩:=hrel;have e8:=zaa fr;have a8:=e9.out wr fr;have z2:wr.cell? ⟨m.wb,2,none⟩=some (.slice m.TA m.ths.length m.tc):=a8.blk.cell 2;have zq:=a8.blk.lt;by_cases hlt:j<m.ths.length
          case pos=>
           obtain⟨b,o,i2,b6,h6,l4,-,-⟩:=a8.rt.row.elem hlt;rw[i2]at z2;have d0:=List.getElem_mem hlt;have G4:=zaa (zyg a8.rt o_ m.ths[j].1);have b2:∃l,zga m.ths (m.ths.length+1) m.ths[j].1=m.ths[j].1::l:=by
            unfold zga;rw[zvp c3.out.keys d0];exact⟨_,rfl⟩
           have p4:Hid (¬zfp m.ths m.ths[j].1->¬FromOk ps cuts ths last made):=zaa λh=>zxh h5.out c3.out d0 h;have b5:Hid (zfp m.ths m.ths[j].1->∀x∈m.ths.take (j+1),zfp m.ths x.1):=zaa λh x hx=>by
            rw[List.take_succ_eq_append_getElem hlt]at hx;rcases List.mem_append.1 hx with hx|hx
            .exact r7.out x hx
            .simp only[List.mem_singleton]at hx;subst hx;exact h
           have v4:Hid (zfp m.ths m.ths[j].1↔(zga m.ths (m.ths.length+1) m.ths[j].1).length<=m.ths.length/\∃y,(zga m.ths (m.ths.length+1) m.ths[j].1).getLast?=some y/\zb8 (zc5 m.ths y)=false):=zaa Iff.rfl;generalize m.ths[j].1=r at*;generalize zfp m.ths r=WO at*;generalize zga m.ths (m.ths.length+1) r=WL at*;have F1:0<WL.length:=by obtain⟨l,hl⟩:=b2;rw[hl];simp
           have I2:=e9;clear b2 d0 i2 b6 fr a8;go_wp2_with fail;refine G4.out.mono ?_;rintro e w5 ⟨vl,rfl,p6,f5⟩;obtain⟨AL,cL,rfl⟩:=za8 p6;have w0:=zaa (e8.out.trans f5);have y2:=(f5.cell zq λh=>h).trans z2;have yq:=Nat.lt_of_lt_of_le zq f5.size;clear f5 z2 zq l4;by_cases C7:m.ths.length<WL.length
           case pos=>
            have d1:decide (m.ths.length<WL.length)=true:=so_;have a1:=zaa (p4.out λh=>by have:=(v4.out.1 h).1;omega);clear p4 b5 p6;go_wp2;exact b7.out _ (a7.out.trans (h8.out.trans w0.out)) a1.out
           have d1:decide (m.ths.length<WL.length)=false:=so_;have C1:=Il.own (e:=22) (lo:=0) (p:=WL) p6 (Nat.zero_le _) o_;obtain⟨n1,D1⟩:∃n1,WL.length=n1+1:=⟨WL.length - 1,by omega⟩;obtain⟨bl,ol,rfl,s0,k7⟩:=C1.elem (j:=n1) o_;have i8:WL.getLast?=some (WL[n1]'o_):=by
            have e:WL.length - 1=n1:=o_;rw[List.getLast?_eq_getElem?,e];exact List.getElem?_eq_getElem o_
           have C2:=zaa i8;have A7:=ztp (e9.out w5 w0.out).rt (WL[n1]'o_);have n6:=zaa A7;have C8:n1<=120:=o_;generalize (WL[n1]'o_)=y at*;have D8:=zaa (Nat.not_lt.1 C7);rw[D1]at d1 ⊢;have d2:decide ((m.ths.length:Int)<(n1:Int)+1)=false:=so_;clear i8 A7 C1 p6 C7 F1;go_wp2_with fail;refine n6.out.mono ?_;rintro e w6 ⟨rfl,f6⟩;have d9:=zaa (w0.out.trans f6);have H2:=(f6.cell yq λh=>h).trans y2;have I3:=Nat.lt_of_lt_of_le yq f6.size;clear f6 y2 yq k7 s0 d1 d2;obtain⟨kk,r2⟩:∃kk,zc5 m.ths y=kk:=⟨_,rfl⟩;rw[r2];obtain⟨qw,x4⟩:∃q,zb8 kk=q:=⟨_,rfl⟩;have B0:=zaa (show zb8 (zc5 m.ths y)=qw by rw[r2];exact x4);have B5:=zaa (λW'=>za9 kk W');rw[x4]at B5;clear r2 x4;go_wp2_with fail;refine(B5.out w6).mono ?_;rintro e w7 ⟨rfl,rfl⟩;cases qw
           case true=>
            have a1:=zaa (p4.out λh=>by
             obtain⟨-,y',h1,h2⟩:=v4.out.1 h;rw[C2.out]at h1;injection h1 with h1
             subst h1;rw[B0.out]at h2;cases h2)
            clear p4 b5;go_wp2;exact b7.out _ (a7.out.trans (h8.out.trans d9.out)) a1.out
           case false=>
            have d8:=zaa (b5.out (v4.out.2 ⟨D8.out,y,C2.out,B0.out⟩));clear p4 b5;go_wp2_with fail;go_roundw
            case rel=>exact⟨j+1,hlt,by go_num,d8,d9.out⟩
            case measure=>simp[intOf]<;>omega
          case neg=>
           obtain rfl:m.ths.length=j:=o_;have g4:Hid (∀x∈m.ths,zfp m.ths x.1):=zaa (by have:=r7.out;rwa [List.take_length]at this);obtain⟨w5,rfl⟩:∃w5:World,w5=wr:=⟨_,rfl⟩;have j5:=zaa (h8.out.trans fr);have r8:Hid (∀w':World,Fr No w5 w'->m.Ok W0.heap.size w'):=zaa λw' f=>e9.out w' (fr.trans f);have D4:Hid (∀x∈m.ths,∃n,(Gm.ofT m.ths).Hgt x.1 n):=zaa λx hx=>(zhc _).1 (g4.out x hx);clear fr e8 r7 hlt hj a8 h8 e9;go_wp2_with fail;clear z2 zq;go_loopw [15] (λv wr=>∃j:Nat,j<=m.ths.length/\v= .int .i64 j/\Hid (∀i,i<j->zng m.ths i)/\Fr No w5 wr) (λv _=>m.ths.length - (intOf v).toNat)
           case atStart=>exact⟨0,Nat.zero_le _,rfl,zaa λi hi=>by omega,Fr.refl _ _⟩
           case round=>
            obtain⟨j,hj,rfl,q8,fr⟩:=hrel;have e8:=zaa fr;have a8:=r8.out wr fr;have z2:wr.cell? ⟨m.wb,2,none⟩=some (.slice m.TA m.ths.length m.tc):=a8.blk.cell 2;have zq:=a8.blk.lt;by_cases hlt:j<m.ths.length
            case pos=>
             obtain⟨b,o,i2,b6,h6,l4,l8,-⟩:=a8.rt.row.elem hlt;rw[i2]at z2;have d0:=List.getElem_mem hlt;obtain⟨x0,p0,s6,j9⟩:=h5.out.at_ (List.getElem?_eq_getElem hlt);have q7:=Tg.short_parts (l5.out x0 (List.mem_of_getElem? p0));have s8:=zvx j9;have A6:=(a8.st _ d0).inn;have hQ:∀q:ClN wr,Calls Tryz.prog 179 #[.pointer (some ⟨m.wb,0,none⟩),.int .i64 m.ths[j].1,.agg m.ths[j].2.cells.toArray] q.w λe f7=>e= .returned (.int .i64 (zpf m.ths m.ths[j].1 m.ths[j].2 (zc0 m.ths m.ths[j].2.ofr)))/\∃q':ClN wr,f7=q'.w:=λq=>by
              refine(zvo (a8.no q.fr).rt m.ths[j].1 m.ths[j].2 W0.heap.size wr.heap.size (A6.no q.fr (Nat.le_refl _)) q.fr.size (by rw[s8.1];exact q7.1) (by rw[s8.2];exact q7.2.1) (ztu j9 q7.2.2.2.2) _ λ_=>ziq c3.out D4.out _).mono ?_;rintro e f7 ⟨rfl,h2⟩;exact⟨rfl,⟨f7,q.fr.trans h2⟩,rfl⟩
             have n5:=zaa hQ;have a2:Nonempty (ClN wr):=⟨⟨wr,Fr.refl No wr⟩⟩;have e5:∀q:ClN wr,q.w.cell? ⟨m.wb,2,none⟩=some (.slice (some ⟨b,o,none⟩) m.ths.length m.tc):=λq=>(q.fr.cell zq λh=>h).trans z2;have b3:∀q:ClN wr,m.wb<q.w.heap.size:=λq=>Nat.lt_of_lt_of_le zq q.fr.size;have p9:b<wr.heap.size:=h6;have gx:∀q:ClN wr,q.w.cell? ⟨b,o+j*17,none⟩=some (.int .i64 m.ths[j].1):=λq=>(q.fr.cell p9 λh=>h).trans l4;have gb:∀q:ClN wr,b<q.w.heap.size:=λq=>Nat.lt_of_lt_of_le p9 q.fr.size;have b4:∀q:ClN wr,(Instr.loadAt 138 (.pointer (some ⟨b,o+j*17+1,none⟩))).run Tryz.prog q.w= .ok (.agg m.ths[j].2.cells.toArray) q.w:=λq=>run_loadAt_mid q.w b (o+j*17+1) 138 m.ths[j].2.cells _ (λk u hu=>(q.fr.cell p9 λh=>h).trans (l8 k u hu)) Tryz.underlying138 r_ (by rw[Tg.cells_len];exact zam);have v9:Hid (zpf m.ths m.ths[j].1 m.ths[j].2 (zc0 m.ths m.ths[j].2.ofr)≠0->¬FromOk ps cuts ths last made):=zaa λh=>zxi (i:=j) h5.out c3.out g4.out λhh=>h (hh _ (List.getElem?_eq_getElem hlt));have b5:Hid (zpf m.ths m.ths[j].1 m.ths[j].2 (zc0 m.ths m.ths[j].2.ofr)=0->∀i,i<j+1->zng m.ths i):=zaa λh i hi=>by
              by_cases x3:i=j
              .subst x3;intro x hx;rw[List.getElem?_eq_getElem hlt]at hx;injection hx with hx
               rw[<-hx];exact h
              .exact q8.out i o_
             generalize zpf m.ths m.ths[j].1 m.ths[j].2 (zc0 m.ths m.ths[j].2.ofr)=zz at*;generalize m.ths[j]=xj at*;clear hQ i2 b6 h6 l4 l8 d0 p0 s6 j9 q7 s8 A6 a8 fr;go_upto_region 45 with(fail);clear z2 zq p9;by_cases hz:zz=0
             case neg=>
              have d1:(zz !=0)=true:=by simpa using hz
              have a1:=zaa (v9.out hz);clear v9 b5 hz;refine zab (λW'=>∃q:ClN wr,W'=q.w) k_ k_ ⟨⟨_,(Fr.refl No wr).drew⟩,rfl⟩ ?_;repeat(first|go_big_quiet_step ((go_at_call 179;exact n5.out _))|(refine zay r_ 138 (.tmp 308) r_ (.agg xj.2.cells.toArray) (λw' hw'=>by obtain⟨q,rfl⟩:=hw';exact b4 q) ?_;try simp only[Act.put,lp_]))
              refine wpQuiet_nil ?_;rintro w2 ⟨⟨_,f2⟩,rfl⟩;have a5:=zaa (e8.out.trans f2);clear f2 a2 e5 b3 gx gb b4;go_wp2;exact b7.out _ (a7.out.trans (j5.out.trans a5.out)) a1.out
             case pos=>
              have d8:=zaa (b5.out hz);subst hz;clear v9 b5;refine zab (λW'=>∃q:ClN wr,W'=q.w) k_ k_ ⟨⟨_,(Fr.refl No wr).drew⟩,rfl⟩ ?_;repeat(first|go_big_quiet_step ((go_at_call 179;exact n5.out _))|(refine zay r_ 138 (.tmp 308) r_ (.agg xj.2.cells.toArray) (λw' hw'=>by obtain⟨q,rfl⟩:=hw';exact b4 q) ?_;try simp only[Act.put,lp_]))
              refine wpQuiet_nil ?_;rintro w2 ⟨⟨_,f2⟩,rfl⟩;have a5:=zaa (e8.out.trans f2);clear f2 a2 e5 b3 gx gb b4;go_wp2_with fail;go_roundw
              case rel=>exact⟨j+1,hlt,by go_num,d8,a5.out⟩
              case measure=>simp[intOf]<;>omega
            case neg=>
             obtain rfl:m.ths.length=j:=o_;have l9:=zaa (zpy c3.out g4.out q8.out);have hQ:∀q:ClN wr,Calls Tryz.prog 180 #[.pointer (some ⟨m.wb,0,none⟩)] q.w λe f7=>e= .returned (.int .i64 (m.ths.map (spA (zc0 m.ths))).sum)/\∃q':ClN wr,f7=q'.w:=λq=>by
              refine(zvm (a8.no q.fr).rt o_ (zc0 m.ths) λx hx _=>⟨(ze6 c3.out l9.out hx).1,(ze6 c3.out l9.out hx).2.1⟩).mono ?_;rintro e f7 ⟨rfl,h2⟩;exact⟨rfl,⟨f7,q.fr.trans h2⟩,rfl⟩
             have n5:=zaa hQ;have a2:Nonempty (ClN wr):=⟨⟨wr,Fr.refl No wr⟩⟩;have e6:∀q:ClN wr,q.w.cell? ⟨m.wb,3,none⟩=some (.int .i64 last):=λq=>by
              have:q.w.cell? ⟨m.wb,3,none⟩=some (.int .i64 m.last):=(a8.no q.fr).blk.cell 3;rw[this,g6.out.rlast]
             have b3:∀q:ClN wr,m.wb<q.w.heap.size:=λq=>Nat.lt_of_lt_of_le zq q.fr.size;obtain⟨v1,y9⟩:=zk2 (zc0 m.ths) m.ths;have v0:Hid (¬last+(m.ths.map (spA (zc0 m.ths))).sum<=64*S->¬FromOk ps cuts ths last made):=zaa λh=>zso HG.out l5.out h5.out j6.out g4.out q8.out (by rw[i1.out];exact h);have s2:Hid (last+(m.ths.map (spA (zc0 m.ths))).sum<=64*S->FromOk ps cuts ths last made):=zaa λh=>zsn n4.out j0.out q0.out HG.out l5.out G0.out ⟨by have:=h4.out.1;omega,by rw[i1.out];have:=h4.out.2;omega⟩ h5.out j6.out g4.out q8.out (by rw[i1.out];exact h);generalize (m.ths.map (spA (zc0 m.ths))).sum=sp at*;have x1:=zaa a8;have B6:0<=last:=by have:=h4.out.1;omega
             have B3:last<=64*S:=by have:=h4.out.2;omega
             have G7: -7680<=sp:=o_;have D3:sp<=7680:=o_;clear hQ a8 fr v1 y9;go_upto_region 47 with(fail);clear z2 zq;by_cases hz:64*S<last+sp
             case pos=>
              have d1:decide (64*S<last+sp)=true:=by simpa using hz
              have a1:=zaa (v0.out o_);clear v0 s2;refine zab (λW'=>∃q:ClN wr,W'=q.w) k_ k_ ⟨⟨_,(Fr.refl No wr).drew⟩,rfl⟩ ?_;repeat(go_big_quiet_step ((go_at_call 180;exact n5.out _)))
              refine wpQuiet_nil ?_;rintro w2 ⟨⟨_,f2⟩,rfl⟩;have a5:=zaa (e8.out.trans f2);clear f2 a2 e6 b3;go_wp2;exact b7.out _ (a7.out.trans (j5.out.trans a5.out)) a1.out
             case neg=>
              have d1:decide (64*S<last+sp)=false:=by simpa using hz
              have n0:=zaa (s2.out o_);clear v0 s2;refine zab (λW'=>∃q:ClN wr,W'=q.w) k_ k_ ⟨⟨_,(Fr.refl No wr).drew⟩,rfl⟩ ?_;repeat(go_big_quiet_step ((go_at_call 180;exact n5.out _)))
              refine wpQuiet_nil ?_;rintro w2 ⟨⟨_,f2⟩,rfl⟩;have a5:=zaa (e8.out.trans f2);have v5:=zaa (x1.out.no f2);clear f2 a2 e6 b3;go_wp2;exact p3.out _ m (a7.out.trans (j5.out.trans a5.out)) n0.out (v5.out.less (by rw[<-k4.out];exact a7.out.size)) ⟨g6.out.par,g6.out.cut,h5.out,g6.out.rlast,g6.out.rmade⟩
      case pos=>
       have k6:Hid (hi<=W.heap.size):=zaa (by have:=l6.out;have:=k4.out;omega);have m6:=HT.out.no (a7.out.trans HI.out.fr) k6.out;obtain⟨b,o,i2,b6,h6,l4,-,l8⟩:=m6.elem hlt;have A0:=zaa i2;rw[i2]at z2;have h9:b<wr.heap.size:=by have:=k6.out;have:=(a7.out.trans HI.out.fr).size;omega
       have B7:=zaa l8;have p1:=zh2 ths[j];have o3:=zaa (HT.out.inn _ (List.getElem_mem hlt));have x6:=(o3.out).1;have k2:=zaa (l5.out _ (List.getElem_mem hlt));have k9:=zaa (List.getElem?_eq_getElem hlt:ths[j]? =some ths[j]);have y5:=o3.out.2.fit.kind;have a6:Hid ((ths[j].1<1\/last<ths[j].1\/ths[j].1<=zbk ths j\/¬ths[j].2.RForm made.length)->¬FromOk ps cuts ths last made):=zaa λh=>zsk HG.out (List.getElem?_eq_getElem hlt) (l5.out _ (List.getElem_mem hlt)) (HT.out.inn _ (List.getElem_mem hlt)).2.fit.kind.1 h;have E1:Hid (∀j1 y,ths[j1]? =some y->∀w':World,Fr No W0 w'->w'.cell? ⟨b,o+j1*17,none⟩=some (.int .i64 y.1)):=zaa λj1 y hy w' f=>by
        obtain⟨b',o',q6,H5,I5,F9⟩:=HT.out.at_ (by rintro rfl;simp at hlt);rw[A0.out]at q6;injection q6 with q6
        injection q6 with e1 e2 e3
        subst e1;subst e2;exact((a7.out.trans f).cell (by have:=k6.out;omega) λh=>h).trans (F9 j1 y hy 0 _ rfl)
       generalize ths[j]=xj at*;clear l8 m6 i2 b6 h6;have p7:=zaa (Blk.new wr 140 (zc9 (0,Tg.zero)).toArray);have k5:=zaa ((Fr.refl No wr).alloc (.cells (zc9 (0,Tg.zero)).toArray 140));rw[zgk]at k5;go_upto_region 26 with(first|(refine wpList_load_mid r_ 140 (.tmp 163) r_ b (o+j*17) r_ (zc9 xj) _ B7.out Tryz.underlying140 r_ (by rw[zdg];exact zd3) ?_)|(refine wpList_store_row r_ 140 (.tmp 11) (.tmp 164) r_ wr.heap.size (zc9 xj).toArray r_ r_ _ _ p7.out (zd3.trans (by rw[zc7])) (by rw[zc7,zc7]) p1 ?_));try simp only[Act.put]
       rw[<-zgk]at*;have v3:Fr No wr (World.setRow (wr.alloc (.cells (zc9 (0,Tg.zero)).toArray 140)) wr.heap.size (zc9 xj).toArray):=k5.out.trans' (zb0 _ wr.heap.size (zc9 xj).toArray) λi hi h=>by have h':i=wr.heap.size:=h;omega
       have h7:=zaa (HI.out.no v3);have m8:=zaa (zbn (us:=(zc9 xj).toArray) p7.out);have v7:Hid (∀q,(Value.slice m.TA m.ths.length m.tc).ownBlock=some q->q<wr.heap.size):=zaa λq hq=>(zaj HI.out.ok.th q hq).2;have r0:Hid (m.wb<wr.heap.size/\g<wr.heap.size):=zaa ⟨HI.out.ok.blk.lt,HI.out.row.lt⟩;have v8:=zaa (Nat.lt_of_lt_of_le h9 v3.size);clear v3 z0 z1 z2 z3 z4 zq l4 h9 B7 k5 p1;generalize E3:World.setRow _ _ _=wb1 at*;generalize F7:wr.heap.size=gt at*;clear E3 p7 F7 HI;have o0:Hid (hi<=wb1.heap.size):=zaa (by have:=k6.out;have:=(a7.out.trans h7.out.fr).size;omega);have o7:=zaa ((o3.out.2).no (a7.out.trans h7.out.fr) k6.out);have a2:Nonempty (ClN wb1):=⟨⟨wb1,Fr.refl No wb1⟩⟩;have c0:∀q:ClN wb1,q.w.cell? ⟨gt,0,none⟩=some (.int .i64 xj.1):=λq=>(m8.out.fr q.fr λh=>h).ent.1;have b8:∀q:ClN wb1,gt<q.w.heap.size:=λq=>(m8.out.fr q.fr λh=>h).lt;have e5:∀q:ClN wb1,q.w.cell? ⟨bx,2,none⟩=some (.slice (some ⟨b,o,none⟩) ths.length tc):=λq=>by rw[<-A0.out];exact(c6.out q.w (h7.out.fr.trans q.fr)).2.2.1
       have e6:∀q:ClN wb1,q.w.cell? ⟨bx,3,none⟩=some (.int .i64 last):=λq=>(c6.out q.w (h7.out.fr.trans q.fr)).2.2.2.1;have i4:∀q:ClN wb1,q.w.cell? ⟨bx,4,none⟩=some (.slice MA made.length mc):=λq=>(c6.out q.w (h7.out.fr.trans q.fr)).2.2.2.2.1;have b3:∀q:ClN wb1,bx<q.w.heap.size:=λq=>(c6.out q.w (h7.out.fr.trans q.fr)).2.2.2.2.2;have b4:∀q:ClN wb1,(Instr.loadAt 138 (.pointer (some ⟨gt,1,none⟩))).run Tryz.prog q.w= .ok (.agg xj.2.cells.toArray) q.w:=λq=>run_loadAt_mid q.w gt 1 138 xj.2.cells _ (m8.out.fr q.fr λh=>h).ent.2.2.2 Tryz.underlying138 r_ (by rw[Tg.cells_len];exact zam);obtain⟨qf,z9⟩:∃qf:Bool,qf=true↔xj.2.RForm made.length:=by
        by_cases h:xj.2.RForm made.length
        .exact⟨true,by simp[h]⟩
        .exact⟨false,by simp[h]⟩
       have q9:=zaa z9;have d5:Hid (∀q:ClN wb1,Calls Tryz.prog 175 #[.agg xj.2.cells.toArray,.int .i64 (made.length:Int)] q.w λe f7=>e= .returned (.bool qf)/\∃q':ClN wb1,f7=q'.w):=zaa λq=>by
        refine(zua xj.2 made.length q.w lo hi (o7.out.no q.fr o0.out) (by have:=o0.out;have:=q.fr.size;omega) k2.out o_).mono ?_;rintro e f7 ⟨q1,rfl,h1,h2⟩;have E4:q1=qf:=by cases q1<;>cases qf<;>simp_all
        subst E4;exact⟨rfl,⟨f7,q.fr.trans h2⟩,rfl⟩
       have i5:True:=trivial;clear z9;obtain⟨r,hr⟩:∃r,xj.1=r:=⟨_,rfl⟩;have HR:=zaa hr;rw[hr]at c0 x6 a6;clear hr;go_cut [199]from 165 to 198 (λv wc=>∃q:Bool,v= .bool q/\Hid (q=true->¬FromOk ps cuts ths last made)/\Hid (q=false->zbk ths j<r/\1<=r/\r<=last/\xj.2.RForm made.length)/\Fr No wb1 wc)
       case first=>as_aux_lemma=>
        by_cases h1:r<1
        case pos=>
         have d1:decide (r<1)=true:=by simpa using h1
         have a1:=zaa (a6.out (by exact .inl h1));clear a6;refine zab (λW'=>∃q:ClN wb1,W'=q.w) k_ k_ ⟨⟨_,(Fr.refl No wb1).drew⟩,rfl⟩ ?_;repeat(first|go_big_quiet_step (fail)|(refine zay r_ 138 (.tmp 192) r_ (.agg xj.2.cells.toArray) (λw' hw'=>by obtain⟨q,rfl⟩:=hw';exact b4 q) ?_;try simp only[Act.put,lp_]))
         refine wpQuiet_nil ?_;rintro w2 ⟨⟨_,f2⟩,rfl⟩;have a5:=zaa f2;clear f2 a2 c0 e5 e6 i4 b3 i5 b8 b4 d5;go_wp2_with fail;go_meet
         case rel=>exact⟨true,rfl,zaa (λ_=>a1.out),zaa (λh=>by cases h),a5.out⟩
        have d1:decide (r<1)=false:=by simpa using h1
        by_cases h2:last<r
        case pos=>
         have d2:decide (last<r)=true:=by simpa using h2
         have a1:=zaa (a6.out (by exact .inr (.inl h2)));clear a6;refine zab (λW'=>∃q:ClN wb1,W'=q.w) k_ k_ ⟨⟨_,(Fr.refl No wb1).drew⟩,rfl⟩ ?_;repeat(first|go_big_quiet_step (fail)|(refine zay r_ 138 (.tmp 192) r_ (.agg xj.2.cells.toArray) (λw' hw'=>by obtain⟨q,rfl⟩:=hw';exact b4 q) ?_;try simp only[Act.put,lp_]))
         refine wpQuiet_nil ?_;rintro w2 ⟨⟨_,f2⟩,rfl⟩;have a5:=zaa f2;clear f2 a2 c0 e5 e6 i4 b3 i5 b8 b4 d5;go_wp2_with fail;go_meet
         case rel=>exact⟨true,rfl,zaa (λ_=>a1.out),zaa (λh=>by cases h),a5.out⟩
        have d2:decide (last<r)=false:=by simpa using h2
        by_cases g9:j=0
        case pos=>
         have d3:decide (0<j)=false:=by simp[g9]
         have x7:Hid (zbk ths j<r):=zaa (by subst g9;show(0:Int)<r;omega);clear g9;cases qf
         case false=>
          have a1:=zaa (a6.out (by exact .inr (.inr (.inr λh=>by have:=q9.out.2 h;cases this))));clear a6;refine zab (λW'=>∃q:ClN wb1,W'=q.w) k_ k_ ⟨⟨_,(Fr.refl No wb1).drew⟩,rfl⟩ ?_;repeat(first|go_big_quiet_step ((go_at_call 175;exact d5.out _))|(refine zay r_ 138 (.tmp 192) r_ (.agg xj.2.cells.toArray) (λw' hw'=>by obtain⟨q,rfl⟩:=hw';exact b4 q) ?_;try simp only[Act.put,lp_]))
          refine wpQuiet_nil ?_;rintro w2 ⟨⟨_,f2⟩,rfl⟩;have a5:=zaa f2;clear f2 a2 c0 e5 e6 i4 b3 i5 b8 b4 d5;go_wp2_with fail;go_meet
          case rel=>exact⟨true,rfl,zaa (λ_=>a1.out),zaa (λh=>by cases h),a5.out⟩
         clear a6;refine zab (λW'=>∃q:ClN wb1,W'=q.w) k_ k_ ⟨⟨_,(Fr.refl No wb1).drew⟩,rfl⟩ ?_;repeat(first|go_big_quiet_step ((go_at_call 175;exact d5.out _))|(refine zay r_ 138 (.tmp 192) r_ (.agg xj.2.cells.toArray) (λw' hw'=>by obtain⟨q,rfl⟩:=hw';exact b4 q) ?_;try simp only[Act.put,lp_]))
         refine wpQuiet_nil ?_;rintro w2 ⟨⟨_,f2⟩,rfl⟩;have a5:=zaa f2;have o4:=zaa (And.intro (Int.not_lt.1 h1) (Int.not_lt.1 h2));clear f2 a2 c0 e5 e6 i4 b3 i5 b8 b4 d5;go_wp2_with fail;go_meet
         case rel=>exact⟨false,rfl,zaa (λh=>by cases h),zaa (λ_=>⟨x7.out,o4.out.1,o4.out.2,q9.out.1 (by first|exact trivial|rfl)⟩),a5.out⟩
        obtain⟨j1,rfl⟩:∃j1,j=j1+1:=⟨j - 1,by omega⟩;have d3:decide (0<j1+1)=true:=s_;have D2:IntKind.i64.wrap (((j1+1:Nat):Int) - 1)=(j1:Int):=by
         rw[show((j1+1:Nat):Int) - 1=(j1:Int) by omega];exact IntWalk.i64_in _ o_
        have m4:j1<ths.length:=o_;have l0:∀q:ClN wb1,q.w.cell? ⟨b,o+j1*17,none⟩=some (.int .i64 ths[j1].1):=λq=>E1.out j1 _ (List.getElem?_eq_getElem m4) q.w (h7.out.fr.trans q.fr);have y8:∀q:ClN wb1,b<q.w.heap.size:=λq=>Nat.lt_of_lt_of_le v8.out q.fr.size;have C5:zbk ths (j1+1)=ths[j1].1:=by
         show(ths[j1]?.map Prod.fst).getD 0=_;rw[List.getElem?_eq_getElem m4];rfl
        have A4:=zaa C5;generalize ths[j1].1=r1 at*;generalize q5:j1+1=j at*;clear g9 q5 C5;by_cases h3:r<=r1
        case pos=>
         have d4:decide (r<=r1)=true:=by simpa using h3
         have a1:=zaa (a6.out (by exact .inr (.inr (.inl (by rw[A4.out];exact h3)))));clear a6;refine zab (λW'=>∃q:ClN wb1,W'=q.w) k_ k_ ⟨⟨_,(Fr.refl No wb1).drew⟩,rfl⟩ ?_;repeat(first|go_big_quiet_step (fail)|(refine zay r_ 138 (.tmp 192) r_ (.agg xj.2.cells.toArray) (λw' hw'=>by obtain⟨q,rfl⟩:=hw';exact b4 q) ?_;try simp only[Act.put,lp_]))
         refine wpQuiet_nil ?_;rintro w2 ⟨⟨_,f2⟩,rfl⟩;have a5:=zaa f2;clear f2 a2 c0 e5 e6 i4 b3 i5 b8 b4 d5 l0 y8;go_wp2_with fail;go_meet
         case rel=>exact⟨true,rfl,zaa (λ_=>a1.out),zaa (λh=>by cases h),a5.out⟩
        have d4:decide (r<=r1)=false:=by simpa using h3
        have x7:Hid (zbk ths j<r):=zaa (by rw[A4.out];omega);clear h3;cases qf
        case false=>
         have a1:=zaa (a6.out (by exact .inr (.inr (.inr λh=>by have:=q9.out.2 h;cases this))));clear a6;refine zab (λW'=>∃q:ClN wb1,W'=q.w) k_ k_ ⟨⟨_,(Fr.refl No wb1).drew⟩,rfl⟩ ?_;repeat(first|go_big_quiet_step ((go_at_call 175;exact d5.out _))|(refine zay r_ 138 (.tmp 192) r_ (.agg xj.2.cells.toArray) (λw' hw'=>by obtain⟨q,rfl⟩:=hw';exact b4 q) ?_;try simp only[Act.put,lp_]))
         refine wpQuiet_nil ?_;rintro w2 ⟨⟨_,f2⟩,rfl⟩;have a5:=zaa f2;clear f2 a2 c0 e5 e6 i4 b3 i5 b8 b4 d5 l0 y8;go_wp2_with fail;go_meet
         case rel=>exact⟨true,rfl,zaa (λ_=>a1.out),zaa (λh=>by cases h),a5.out⟩
        clear a6;refine zab (λW'=>∃q:ClN wb1,W'=q.w) k_ k_ ⟨⟨_,(Fr.refl No wb1).drew⟩,rfl⟩ ?_;repeat(first|go_big_quiet_step ((go_at_call 175;exact d5.out _))|(refine zay r_ 138 (.tmp 192) r_ (.agg xj.2.cells.toArray) (λw' hw'=>by obtain⟨q,rfl⟩:=hw';exact b4 q) ?_;try simp only[Act.put,lp_]))
        refine wpQuiet_nil ?_;rintro w2 ⟨⟨_,f2⟩,rfl⟩;have a5:=zaa f2;have o4:=zaa (And.intro (Int.not_lt.1 h1) (Int.not_lt.1 h2));clear f2 a2 c0 e5 e6 i4 b3 i5 b8 b4 d5 l0 y8;go_wp2_with fail;go_meet
        case rel=>exact⟨false,rfl,zaa (λh=>by cases h),zaa (λ_=>⟨x7.out,o4.out.1,o4.out.2,q9.out.1 (by first|exact trivial|rfl)⟩),a5.out⟩
       case rest=>
        obtain⟨q,rfl,A9,n8,f2⟩:=hcut;obtain⟨w2,rfl⟩:∃w2:World,w2=wc:=⟨_,rfl⟩;have j8:=zaa (h7.out.no f2);have m2:=zaa (m8.out.fr f2 λh=>h);clear f2 a2 c0 e5 e6 i4 b3 i5 b8 b4 d5 a6 h7 m8 o7;cases q
        case true=>
         go_wp2;exact b7.out _ (a7.out.trans j8.out.fr) (A9.out (by first|exact trivial|rfl))
        case false=>
         have E8:=zaa (n8.out rfl).2.2.2;have j3:Hid (∀i,i<j+1->zk3 made.length ths last i):=zaa λi hi=>by
          by_cases x3:i=j
          .subst x3;intro y hy;rw[k9.out]at hy;injection hy with hy
           subst hy;obtain⟨q1,q2,q3,q4⟩:=n8.out rfl;exact⟨q4,by rw[HR.out];exact q2,by rw[HR.out];exact q3,by rw[HR.out];exact q1⟩
          .exact HG.out i o_
         clear n8 A9;obtain⟨-,c1,c2,-⟩:=m2.out.ent;have cq:=m2.out.lt;obtain⟨kd,v2⟩:∃kd,xj.2.kind=kd:=⟨_,rfl⟩;rw[v2]at c1 y5;have n6:=zaa v2;clear v2;go_upto_region 28 with(fail);go_upto_if 204 with(fail);go_cut []from 200 to 212 (λwc=>RI3 m m0 ps cuts ths last made W0 g (za2 made.length (ths.take (j+1))) wc j/\Blk wc gt 140 (zc9 xj).toArray)
         case first=>
          by_cases hk:kd=14
          case pos=>
           subst hk;clear c2;go_wp2_with fail;go_meet
           case rel=>exact⟨by rw[zer k9.out n6.out];exact j8.out,m2.out⟩
          case neg=>
           have D6:(kd !=14)=true:=by simpa using hk
           obtain⟨D9,G8⟩:=E8.out.side (by rw[n6.out];exact hk);obtain⟨s,hs⟩:∃s:Nat,xj.2.home=(s:Int):=⟨xj.2.home.toNat,by omega⟩;have F4:=zaa hs;rw[hs]at c2 G8;have D0:s<made.length:=o_;have zg:w2.cell? ⟨g,s,none⟩=some (.int .i64 (zby (ths.take j) s)):=by
            have:=j8.out.row.cell s;rw[this];simp[za2,D0]
           have I4:=j8.out.row.frozen s;have I6:=j8.out.row.lt;have G9:=zcu (ths.take j) s;rw[List.length_take]at G9;have r9:=zaa (j8.out.home s (.int .i64 (zby (ths.take j) s+1)));have z7:=zes (k:=made.length) k9.out (by rw[n6.out];exact hk) F4.out;have F0:=zaa z7;generalize zby (ths.take j) s=hv at*;clear z7 hs D9 hk;go_wp2_with fail;go_meet
           case rel=>
            have f3:Fr (λi=>i=g) w2 (w2.setCell ⟨g,s,none⟩ (.int .i64 (hv+1))):=(Fr.refl (λi=>i=g) w2).set (λ_=>rfl) _;exact⟨by rw[F0.out];exact r9.out,m2.out.fr f3 (by have:=r0.out.2;omega)⟩
         case rest=>
          obtain⟨B1,A3⟩:=hcut;obtain⟨wq,rfl⟩:∃wq:World,wq=wc:=⟨_,rfl⟩;have d7:=zaa B1;have H1:=zaa A3;clear B1 A3 c1 c2 cq j8 m2;have s7:=zaa (o3.out.2.no (a7.out.trans d7.out.fr) k6.out);have o9:Hid (hi<=wq.heap.size):=zaa (by have:=k6.out;have:=(a7.out.trans d7.out.fr).size;omega);go_upto_region 30 with(fail);have d6:Hid (∀w':World,Fr No wq w'->(λw'=>m.wb<w'.heap.size/\gt<w'.heap.size/\w'.cell? ⟨gt,0,none⟩=some (.int .i64 xj.1)/\w'.rangeAt gt 1 xj.2.cells) w'):=zaa λw' f=>by
           have hb:=H1.out.fr f λh=>h;exact⟨Nat.lt_of_lt_of_le d7.out.ok.blk.lt f.size,hb.lt,hb.ent.1,hb.ent.2.2.2⟩
          have z6:Hid (∀W' (f:Fr No wq W'),Calls Tryz.prog 176 #[.agg xj.2.cells.toArray] W' (zm6 xj.2 W')):=zaa λW' f=>zsd xj.2 W' lo hi (s7.out.no f o9.out) (by have:=o9.out;have:=f.size;omega) (by have:=(Tg.short_parts k2.out).1;omega) (by have:=(Tg.short_parts k2.out).2.1;omega);have j4:=zaa o3.out.1;have E2:m.ths.length<=120:=by have:=d7.out.kept.len;rw[List.length_take]at this;omega
          have z2:wq.cell? ⟨m.wb,2,none⟩=some (.slice m.TA m.ths.length m.tc):=d7.out.ok.blk.cell 2;refine wp_region_held_drew (S:=λw'=>m.wb<w'.heap.size/\gt<w'.heap.size/\w'.cell? ⟨gt,0,none⟩=some (.int .i64 xj.1)/\w'.rangeAt gt 1 xj.2.cells) k_ ?_ (λhHeld=>?_)
          .exact d6.out _ ((Fr.refl No wq).drew)
          refine t_ 0 ?_;try simp only[Act.put,lp_]
          refine t_ 1 ?_;try simp only[Act.put,lp_]
          refine t_ 2 ?_;try simp only[Act.put,lp_]
          refine t_ 3 ?_;try simp only[Act.put,lp_]
          refine t_ 5 ?_;try simp only[Act.put,lp_]
          refine t_ 6 ?_;try simp only[Act.put,lp_]
          refine t_ 7 ?_;try simp only[Act.put,lp_]
          refine wpAnyH_take (i:=8) (by simp only[List.getElem?_toArray,List.getElem?_cons_succ,List.getElem?_cons_zero];rfl) k_ k_ k_ i_ (yieldsIf_load_mid r_ 138 (.tmp 220) r_ gt 1 r_ xj.2.cells _ (λw h=>h.2.2.2) Tryz.underlying138 r_ (by rw[Tg.cells_len];exact zam)) a_ ?_;try simp only[Act.put,lp_]
          refine wpAnyH_ready (rs:=[4,9]) k_ s_ ?_;refine AllReadyH.cons rfl (λK hK=>?_) (AllReadyH.cons rfl (λK hK=>?_) AllReadyH.nil)
          .go_simp;clear z2;refine hK.out _ _ ?_ (λhHeld2=>?_)
           .exact d6.out _ ((Fr.refl No wq).drew)
           clear hK K hHeld;have hHeld:=hHeld2;clear hHeld2;try simp only[Act.put,lp_]
           refine wpAnyH_ready (rs:=[9]) k_ s_ ?_;refine AllReadyH.cons rfl (λK hK=>?_) AllReadyH.nil
           .go_simp;go_at_call 176
            refine(z6.out _ ((Fr.refl No wq).drew)).mono ?_;rintro e w6 ⟨y,rfl,f8,n3,n9,p2,o8,f4,f6⟩;have p8:=zaa (ztv f8 n3 n9 p2 o8);clear f8 n3 n9 p2 o8;obtain⟨kind,home,⟨k1,n1,s1,A1,a4,l1,r1⟩,VA,vc,vs,n2,lost,ofr,byr,set,full,a9,b0,a3,NA,nc,a0⟩:=y;have m9:Tg.val ⟨kind,home,T.mk k1 n1 s1 A1 a4 l1 r1,VA,vc,vs,n2,lost,ofr,byr,set,full,a9,b0,a3,NA,nc,a0⟩= .agg #[.int .u8 kind,.int .i64 home,.int .u8 k1,.int .i64 n1,.string s1,.slice A1 l1.length a4,.int .i64 r1,.slice VA vs.length vc,.int .i64 n2,.int .i64 lost,.int .i64 ofr,.int .i64 byr,.int .u8 set,.bool full,.slice a9 a3.length b0,.slice NA a0.length nc]:=rfl;rw[m9];have d9:=zaa (((Fr.refl No wq).drew).trans f6);have g8:=zaa (f4.more (Nat.le_trans d7.out.fr.size (((Fr.refl No wq).drew)).size));clear m9 f4 f6;refine hK.out _ _ ?_ (λhHeld2=>?_)
            .exact d6.out _ d9.out
            clear hK K hHeld;have hHeld:=hHeld2;clear hHeld2;try simp only[Act.put,lp_]
            refine t_ 10 ?_;try simp only[Act.put,lp_]
            refine wpAnyH_ready (rs:=[11]) k_ s_ ?_;refine AllReadyH.cons rfl (λK hK=>?_) AllReadyH.nil
            .go_simp;have c7:=zaa (d9.out.alloc (.cells #[.int .i64 xj.1,.int .u8 kind,.int .i64 home,.int .u8 k1,.int .i64 n1,.string s1,.slice A1 l1.length a4,.int .i64 r1,.slice VA vs.length vc,.int .i64 n2,.int .i64 lost,.int .i64 ofr,.int .i64 byr,.int .u8 set,.bool full,.slice a9 a3.length b0,.slice NA a0.length nc] 140));have o5:=zaa ((show Blk (World.alloc w6 (.cells #[.int .i64 xj.1,.int .u8 kind,.int .i64 home,.int .u8 k1,.int .i64 n1,.string s1,.slice A1 l1.length a4,.int .i64 r1,.slice VA vs.length vc,.int .i64 n2,.int .i64 lost,.int .i64 ofr,.int .i64 byr,.int .u8 set,.bool full,.slice a9 a3.length b0,.slice NA a0.length nc] 140)) w6.heap.size 140 (zc9 (xj.1,⟨kind,home,T.mk k1 n1 s1 A1 a4 l1 r1,VA,vc,vs,n2,lost,ofr,byr,set,full,a9,b0,a3,NA,nc,a0⟩)).toArray from Blk.new w6 140 #[.int .i64 xj.1,.int .u8 kind,.int .i64 home,.int .u8 k1,.int .i64 n1,.string s1,.slice A1 l1.length a4,.int .i64 r1,.slice VA vs.length vc,.int .i64 n2,.int .i64 lost,.int .i64 ofr,.int .i64 byr,.int .u8 set,.bool full,.slice a9 a3.length b0,.slice NA a0.length nc]).lies (zgj _));have f0:=zaa (g8.out.no ((Fr.refl No w6).alloc (.cells #[.int .i64 xj.1,.int .u8 kind,.int .i64 home,.int .u8 k1,.int .i64 n1,.string s1,.slice A1 l1.length a4,.int .i64 r1,.slice VA vs.length vc,.int .i64 n2,.int .i64 lost,.int .i64 ofr,.int .i64 byr,.int .u8 set,.bool full,.slice a9 a3.length b0,.slice NA a0.length nc] 140)));generalize C6:w6.heap.size=g7 at*;generalize World.alloc w6 _=w7 at*;refine hK.out _ _ ?_ (λhHeld2=>?_)
             .exact d6.out _ c7.out
             clear hK K hHeld;have hHeld:=hHeld2;clear hHeld2;try simp only[Act.put,lp_]
             refine wpAnyH_ready (rs:=[12]) k_ s_ ?_;refine AllReadyH.cons rfl (λK hK=>?_) AllReadyH.nil
             .have b1:=d7.out.no c7.out;refine zcn r_ _ _ zio r_ W0.heap.size _ m.ths.length _ r_ b1.ok.th g7 (g7+1) (some ⟨g7,0,none⟩) 1 1 _ r_ o5.out o_ o_ b1.fr.size ?_;intro A8 c8 w8 hk;have e7:=zaa (b1.add (x:=xj) (y:=⟨kind,home,T.mk k1 n1 s1 A1 a4 l1 r1,VA,vc,vs,n2,lost,ofr,byr,set,full,a9,b0,a3,NA,nc,a0⟩) k9.out f0.out p8.out j4.out o_ hk);have c5:=b1.ok.blk.fr hk.fr λe=>zag b1.ok.th b1.ok.blk d_ e rfl;have z8:w8.cell? ⟨m.wb,2,none⟩=some (.slice m.TA m.ths.length m.tc):=c5.cell 2;have n7:=c5.frozen 2;have j2:=c5.lt;have i9:(λw'=>m.wb<w'.heap.size/\gt<w'.heap.size/\w'.cell? ⟨gt,0,none⟩=some (.int .i64 xj.1)/\w'.rangeAt gt 1 xj.2.cells) w8:=by
               obtain⟨-,q2,q3,q4⟩:=d6.out _ c7.out;have b2:¬(Value.slice m.TA m.ths.length m.tc).ownBlock=some gt:=λe=>by have:=v7.out _ e;omega
               exact⟨j2,Nat.lt_of_lt_of_le q2 hk.fr.size,(hk.fr.cell q2 b2).trans q3,λj u hu=>(hk.fr.cell q2 b2).trans (q4 j u hu)⟩
              have i3:=zaa i9;clear hk b1 c5 i9;refine hK.out _ _ ?_ (λhHeld2=>?_)
              .exact i3.out
              clear hK K hHeld;have hHeld:=hHeld2;clear hHeld2;try simp only[Act.put,lp_]
              refine t_ 13 ?_;try simp only[Act.put]
              refine t_ 14 ?_;try simp only[Act.put]
              refine wpAnyH_ready (rs:=[15]) k_ s_ ?_;refine AllReadyH.cons rfl (λK hK=>?_) AllReadyH.nil
              .go_simp;refine hK.out _ _ ?_ (λhHeld2=>?_)
               .exact by obtain⟨q1,q2,q3,q4⟩:=i3.out;have f:Fr (λi=>i=m.wb) w8 _:=(Fr.refl (λi=>i=m.wb) w8).set (p:=⟨m.wb,2,none⟩) (λ_=>rfl) (.slice A8 (m.ths.length+1) c8);have b2:¬gt=m.wb:=(by have:=r0.out.1;omega);exact⟨Nat.lt_of_lt_of_le q1 f.size,Nat.lt_of_lt_of_le q2 f.size,(f.cell q2 b2).trans q3,λj u hu=>(f.cell q2 b2).trans (q4 j u hu)⟩
               clear hK K hHeld;have hHeld:=hHeld2;clear hHeld2;try simp only[Act.put,lp_]
               refine wpAnyH_done k_ ?_ _;clear hHeld z8 n7 j2;generalize World.setCell w8 _ _=w9 at*;go_wp2_with fail;go_roundw
               case rel=>exact⟨j+1,{m with TA:=A8,tc:=c8,ths:=m.ths++[(xj.1,⟨kind,home,T.mk k1 n1 s1 A1 a4 l1 r1,VA,vc,vs,n2,lost,ofr,byr,set,full,a9,b0,a3,NA,nc,a0⟩)]},hlt,by go_num,e7,j3⟩
               case measure=>simp[intOf]<;>omega
          .go_simp;go_at_call 176
           refine(z6.out _ ((Fr.refl No wq).drew)).mono ?_;rintro e w6 ⟨y,rfl,f8,n3,n9,p2,o8,f4,f6⟩;have p8:=zaa (ztv f8 n3 n9 p2 o8);clear f8 n3 n9 p2 o8;obtain⟨kind,home,⟨k1,n1,s1,A1,a4,l1,r1⟩,VA,vc,vs,n2,lost,ofr,byr,set,full,a9,b0,a3,NA,nc,a0⟩:=y;have m9:Tg.val ⟨kind,home,T.mk k1 n1 s1 A1 a4 l1 r1,VA,vc,vs,n2,lost,ofr,byr,set,full,a9,b0,a3,NA,nc,a0⟩= .agg #[.int .u8 kind,.int .i64 home,.int .u8 k1,.int .i64 n1,.string s1,.slice A1 l1.length a4,.int .i64 r1,.slice VA vs.length vc,.int .i64 n2,.int .i64 lost,.int .i64 ofr,.int .i64 byr,.int .u8 set,.bool full,.slice a9 a3.length b0,.slice NA a0.length nc]:=rfl;rw[m9];have d9:=zaa (((Fr.refl No wq).drew).trans f6);have g8:=zaa (f4.more (Nat.le_trans d7.out.fr.size (((Fr.refl No wq).drew)).size));clear m9 f4 f6;clear z2;have z2:w6.cell? ⟨m.wb,2,none⟩=some (.slice m.TA m.ths.length m.tc):=(d7.out.no d9.out).ok.blk.cell 2;refine hK.out _ _ ?_ (λhHeld2=>?_)
           .exact d6.out _ d9.out
           clear hK K hHeld;have hHeld:=hHeld2;clear hHeld2;try simp only[Act.put,lp_]
           refine t_ 10 ?_;try simp only[Act.put,lp_]
           refine wpAnyH_ready (rs:=[4,11]) k_ s_ ?_;refine AllReadyH.cons rfl (λK hK=>?_) (AllReadyH.cons rfl (λK hK=>?_) AllReadyH.nil)
           .go_simp;clear z2;refine hK.out _ _ ?_ (λhHeld2=>?_)
            .exact d6.out _ d9.out
            clear hK K hHeld;have hHeld:=hHeld2;clear hHeld2;try simp only[Act.put,lp_]
            refine wpAnyH_ready (rs:=[11]) k_ s_ ?_;refine AllReadyH.cons rfl (λK hK=>?_) AllReadyH.nil
            .go_simp;have c7:=zaa (d9.out.alloc (.cells #[.int .i64 xj.1,.int .u8 kind,.int .i64 home,.int .u8 k1,.int .i64 n1,.string s1,.slice A1 l1.length a4,.int .i64 r1,.slice VA vs.length vc,.int .i64 n2,.int .i64 lost,.int .i64 ofr,.int .i64 byr,.int .u8 set,.bool full,.slice a9 a3.length b0,.slice NA a0.length nc] 140));have o5:=zaa ((show Blk (World.alloc w6 (.cells #[.int .i64 xj.1,.int .u8 kind,.int .i64 home,.int .u8 k1,.int .i64 n1,.string s1,.slice A1 l1.length a4,.int .i64 r1,.slice VA vs.length vc,.int .i64 n2,.int .i64 lost,.int .i64 ofr,.int .i64 byr,.int .u8 set,.bool full,.slice a9 a3.length b0,.slice NA a0.length nc] 140)) w6.heap.size 140 (zc9 (xj.1,⟨kind,home,T.mk k1 n1 s1 A1 a4 l1 r1,VA,vc,vs,n2,lost,ofr,byr,set,full,a9,b0,a3,NA,nc,a0⟩)).toArray from Blk.new w6 140 #[.int .i64 xj.1,.int .u8 kind,.int .i64 home,.int .u8 k1,.int .i64 n1,.string s1,.slice A1 l1.length a4,.int .i64 r1,.slice VA vs.length vc,.int .i64 n2,.int .i64 lost,.int .i64 ofr,.int .i64 byr,.int .u8 set,.bool full,.slice a9 a3.length b0,.slice NA a0.length nc]).lies (zgj _));have f0:=zaa (g8.out.no ((Fr.refl No w6).alloc (.cells #[.int .i64 xj.1,.int .u8 kind,.int .i64 home,.int .u8 k1,.int .i64 n1,.string s1,.slice A1 l1.length a4,.int .i64 r1,.slice VA vs.length vc,.int .i64 n2,.int .i64 lost,.int .i64 ofr,.int .i64 byr,.int .u8 set,.bool full,.slice a9 a3.length b0,.slice NA a0.length nc] 140)));generalize C6:w6.heap.size=g7 at*;generalize World.alloc w6 _=w7 at*;refine hK.out _ _ ?_ (λhHeld2=>?_)
             .exact d6.out _ c7.out
             clear hK K hHeld;have hHeld:=hHeld2;clear hHeld2;try simp only[Act.put,lp_]
             refine wpAnyH_ready (rs:=[12]) k_ s_ ?_;refine AllReadyH.cons rfl (λK hK=>?_) AllReadyH.nil
             .have b1:=d7.out.no c7.out;refine zcn r_ _ _ zio r_ W0.heap.size _ m.ths.length _ r_ b1.ok.th g7 (g7+1) (some ⟨g7,0,none⟩) 1 1 _ r_ o5.out o_ o_ b1.fr.size ?_;intro A8 c8 w8 hk;have e7:=zaa (b1.add (x:=xj) (y:=⟨kind,home,T.mk k1 n1 s1 A1 a4 l1 r1,VA,vc,vs,n2,lost,ofr,byr,set,full,a9,b0,a3,NA,nc,a0⟩) k9.out f0.out p8.out j4.out o_ hk);have c5:=b1.ok.blk.fr hk.fr λe=>zag b1.ok.th b1.ok.blk d_ e rfl;have z8:w8.cell? ⟨m.wb,2,none⟩=some (.slice m.TA m.ths.length m.tc):=c5.cell 2;have n7:=c5.frozen 2;have j2:=c5.lt;have i9:(λw'=>m.wb<w'.heap.size/\gt<w'.heap.size/\w'.cell? ⟨gt,0,none⟩=some (.int .i64 xj.1)/\w'.rangeAt gt 1 xj.2.cells) w8:=by
               obtain⟨-,q2,q3,q4⟩:=d6.out _ c7.out;have b2:¬(Value.slice m.TA m.ths.length m.tc).ownBlock=some gt:=λe=>by have:=v7.out _ e;omega
               exact⟨j2,Nat.lt_of_lt_of_le q2 hk.fr.size,(hk.fr.cell q2 b2).trans q3,λj u hu=>(hk.fr.cell q2 b2).trans (q4 j u hu)⟩
              have i3:=zaa i9;clear hk b1 c5 i9;refine hK.out _ _ ?_ (λhHeld2=>?_)
              .exact i3.out
              clear hK K hHeld;have hHeld:=hHeld2;clear hHeld2;try simp only[Act.put,lp_]
              refine t_ 13 ?_;try simp only[Act.put]
              refine t_ 14 ?_;try simp only[Act.put]
              refine wpAnyH_ready (rs:=[15]) k_ s_ ?_;refine AllReadyH.cons rfl (λK hK=>?_) AllReadyH.nil
              .go_simp;refine hK.out _ _ ?_ (λhHeld2=>?_)
               .exact by obtain⟨q1,q2,q3,q4⟩:=i3.out;have f:Fr (λi=>i=m.wb) w8 _:=(Fr.refl (λi=>i=m.wb) w8).set (p:=⟨m.wb,2,none⟩) (λ_=>rfl) (.slice A8 (m.ths.length+1) c8);have b2:¬gt=m.wb:=(by have:=r0.out.1;omega);exact⟨Nat.lt_of_lt_of_le q1 f.size,Nat.lt_of_lt_of_le q2 f.size,(f.cell q2 b2).trans q3,λj u hu=>(f.cell q2 b2).trans (q4 j u hu)⟩
               clear hK K hHeld;have hHeld:=hHeld2;clear hHeld2;try simp only[Act.put,lp_]
               refine wpAnyH_done k_ ?_ _;clear hHeld z8 n7 j2;generalize World.setCell w8 _ _=w9 at*;go_wp2_with fail;go_roundw
               case rel=>exact⟨j+1,{m with TA:=A8,tc:=c8,ths:=m.ths++[(xj.1,⟨kind,home,T.mk k1 n1 s1 A1 a4 l1 r1,VA,vc,vs,n2,lost,ofr,byr,set,full,a9,b0,a3,NA,nc,a0⟩)]},hlt,by go_num,e7,j3⟩
               case measure=>simp[intOf]<;>omega
           .go_simp;have c7:=zaa (d9.out.alloc (.cells #[.int .i64 xj.1,.int .u8 kind,.int .i64 home,.int .u8 k1,.int .i64 n1,.string s1,.slice A1 l1.length a4,.int .i64 r1,.slice VA vs.length vc,.int .i64 n2,.int .i64 lost,.int .i64 ofr,.int .i64 byr,.int .u8 set,.bool full,.slice a9 a3.length b0,.slice NA a0.length nc] 140));have o5:=zaa ((show Blk (World.alloc w6 (.cells #[.int .i64 xj.1,.int .u8 kind,.int .i64 home,.int .u8 k1,.int .i64 n1,.string s1,.slice A1 l1.length a4,.int .i64 r1,.slice VA vs.length vc,.int .i64 n2,.int .i64 lost,.int .i64 ofr,.int .i64 byr,.int .u8 set,.bool full,.slice a9 a3.length b0,.slice NA a0.length nc] 140)) w6.heap.size 140 (zc9 (xj.1,⟨kind,home,T.mk k1 n1 s1 A1 a4 l1 r1,VA,vc,vs,n2,lost,ofr,byr,set,full,a9,b0,a3,NA,nc,a0⟩)).toArray from Blk.new w6 140 #[.int .i64 xj.1,.int .u8 kind,.int .i64 home,.int .u8 k1,.int .i64 n1,.string s1,.slice A1 l1.length a4,.int .i64 r1,.slice VA vs.length vc,.int .i64 n2,.int .i64 lost,.int .i64 ofr,.int .i64 byr,.int .u8 set,.bool full,.slice a9 a3.length b0,.slice NA a0.length nc]).lies (zgj _));have f0:=zaa (g8.out.no ((Fr.refl No w6).alloc (.cells #[.int .i64 xj.1,.int .u8 kind,.int .i64 home,.int .u8 k1,.int .i64 n1,.string s1,.slice A1 l1.length a4,.int .i64 r1,.slice VA vs.length vc,.int .i64 n2,.int .i64 lost,.int .i64 ofr,.int .i64 byr,.int .u8 set,.bool full,.slice a9 a3.length b0,.slice NA a0.length nc] 140)));generalize C6:w6.heap.size=g7 at*;generalize World.alloc w6 _=w7 at*;clear z2;have z2:w7.cell? ⟨m.wb,2,none⟩=some (.slice m.TA m.ths.length m.tc):=(d7.out.no c7.out).ok.blk.cell 2;refine hK.out _ _ ?_ (λhHeld2=>?_)
            .exact d6.out _ c7.out
            clear hK K hHeld;have hHeld:=hHeld2;clear hHeld2;try simp only[Act.put,lp_]
            refine wpAnyH_ready (rs:=[4]) k_ s_ ?_;refine AllReadyH.cons rfl (λK hK=>?_) AllReadyH.nil
            .go_simp;clear z2;refine hK.out _ _ ?_ (λhHeld2=>?_)
             .exact d6.out _ c7.out
             clear hK K hHeld;have hHeld:=hHeld2;clear hHeld2;try simp only[Act.put,lp_]
             refine wpAnyH_ready (rs:=[12]) k_ s_ ?_;refine AllReadyH.cons rfl (λK hK=>?_) AllReadyH.nil
             .have b1:=d7.out.no c7.out;refine zcn r_ _ _ zio r_ W0.heap.size _ m.ths.length _ r_ b1.ok.th g7 (g7+1) (some ⟨g7,0,none⟩) 1 1 _ r_ o5.out o_ o_ b1.fr.size ?_;intro A8 c8 w8 hk;have e7:=zaa (b1.add (x:=xj) (y:=⟨kind,home,T.mk k1 n1 s1 A1 a4 l1 r1,VA,vc,vs,n2,lost,ofr,byr,set,full,a9,b0,a3,NA,nc,a0⟩) k9.out f0.out p8.out j4.out o_ hk);have c5:=b1.ok.blk.fr hk.fr λe=>zag b1.ok.th b1.ok.blk d_ e rfl;have z8:w8.cell? ⟨m.wb,2,none⟩=some (.slice m.TA m.ths.length m.tc):=c5.cell 2;have n7:=c5.frozen 2;have j2:=c5.lt;have i9:(λw'=>m.wb<w'.heap.size/\gt<w'.heap.size/\w'.cell? ⟨gt,0,none⟩=some (.int .i64 xj.1)/\w'.rangeAt gt 1 xj.2.cells) w8:=by
               obtain⟨-,q2,q3,q4⟩:=d6.out _ c7.out;have b2:¬(Value.slice m.TA m.ths.length m.tc).ownBlock=some gt:=λe=>by have:=v7.out _ e;omega
               exact⟨j2,Nat.lt_of_lt_of_le q2 hk.fr.size,(hk.fr.cell q2 b2).trans q3,λj u hu=>(hk.fr.cell q2 b2).trans (q4 j u hu)⟩
              have i3:=zaa i9;clear hk b1 c5 i9;refine hK.out _ _ ?_ (λhHeld2=>?_)
              .exact i3.out
              clear hK K hHeld;have hHeld:=hHeld2;clear hHeld2;try simp only[Act.put,lp_]
              refine t_ 13 ?_;try simp only[Act.put]
              refine t_ 14 ?_;try simp only[Act.put]
              refine wpAnyH_ready (rs:=[15]) k_ s_ ?_;refine AllReadyH.cons rfl (λK hK=>?_) AllReadyH.nil
              .go_simp;refine hK.out _ _ ?_ (λhHeld2=>?_)
               .exact by obtain⟨q1,q2,q3,q4⟩:=i3.out;have f:Fr (λi=>i=m.wb) w8 _:=(Fr.refl (λi=>i=m.wb) w8).set (p:=⟨m.wb,2,none⟩) (λ_=>rfl) (.slice A8 (m.ths.length+1) c8);have b2:¬gt=m.wb:=(by have:=r0.out.1;omega);exact⟨Nat.lt_of_lt_of_le q1 f.size,Nat.lt_of_lt_of_le q2 f.size,(f.cell q2 b2).trans q3,λj u hu=>(f.cell q2 b2).trans (q4 j u hu)⟩
               clear hK K hHeld;have hHeld:=hHeld2;clear hHeld2;try simp only[Act.put,lp_]
               refine wpAnyH_done k_ ?_ _;clear hHeld z8 n7 j2;generalize World.setCell w8 _ _=w9 at*;go_wp2_with fail;go_roundw
               case rel=>exact⟨j+1,{m with TA:=A8,tc:=c8,ths:=m.ths++[(xj.1,⟨kind,home,T.mk k1 n1 s1 A1 a4 l1 r1,VA,vc,vs,n2,lost,ofr,byr,set,full,a9,b0,a3,NA,nc,a0⟩)]},hlt,by go_num,e7,j3⟩
               case measure=>simp[intOf]<;>omega
end Go.Proofs.YtlejelbefmkakaaGreat

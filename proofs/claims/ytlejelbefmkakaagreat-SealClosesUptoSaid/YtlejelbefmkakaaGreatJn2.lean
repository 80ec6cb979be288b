/- Texts joined: P6, Gw, Wo0, Gm, Fp, Gf1, Gf2, Wo1, Ga. -/
import Derived.Test.YtlejelbefmkakaaGreatJn1
import Derived.Laws.IdiomRangeMap
import Derived.RangeFuncRecord
import Derived.MapKept
import Derived.Maps.RangeRun
import Derived.Laws.BitsAllLaws
import Derived.LoopN
set_option maxHeartbeats 4000000
set_option maxRecDepth 100000
namespace Go.Proofs.YtlejelbefmkakaaGreat
open Go.RowKit
theorem T.zero_sh (w:World) (lo hi:Nat):T.zero.Sh w lo hi:=T.sh_leaf ⟨by decide,by decide,by decide,by decide,by decide,by decide,by decide,by decide,by decide⟩
def zvf (v:V) (n:Int) (w:World) (e:Ending) (w':World):Prop:=
 ∃t':T,e= .returned (.tuple #[t'.val,.int .i64 n])/\t'.v=v/\t'.Sh w' w.heap.size w'.heap.size/\Fr No w w'
theorem zl2 (t:T) (w:World) (lo hi:Nat) (ht:t.In w lo hi) (hh:hi<=w.heap.size):
 Calls Tryz.prog 146 #[t.val] w (zvf (if t.v.may=true then t.v else V.zero) (if t.v.may=true then 0 else 2) w):=by
 have hM:=λw' h h'=>zca t w' lo hi h h';have hO:=λw' h h'=>zl1 t w' lo hi h h';cases t with
 |mk k n s A cap l r=>
  rw[T.val_mk]at*;cases hm:(T.mk k n s A cap l r).v.may
  .rw[hm]at hM;go_enter Tryz.func146,Tryz.ntmps146;go_wp2_with fail;refine(hM _ (ht.no (((Fr.refl No w).alloc _).alloc _) hh) so_).mono ?_;rintro e w2 ⟨rfl,a1⟩;have a2:=a1.size;simp only[World.size_alloc]at a2;have a6:w.heap.size+1<w2.heap.size:=o_;have b1:=(Blk.new' (w.alloc (.cells #[.int .u8 k,.int .i64 n,.string s,.slice A l.length cap,.int .i64 r] 28)) 28 #[.int .u8 0,.int .i64 0,.string ⟨#[]⟩,.slice none 0 0,.int .i64 0] (g:=w.heap.size+1) s_).fr a1 (λh=>h);obtain⟨d0,d1,d2,d3,d4,df⟩:=b1.cells5;have a0:Fr No w w2:=(((Fr.refl No w).alloc _).alloc _).trans a1;have HF:=zaa a0;clear b1 hO a0;go_wp2;refine bodyPost_ret (v:=.tuple #[.agg #[.int .u8 0,.int .i64 0,.string ⟨#[]⟩,.slice none 0 0,.int .i64 0],.int .i64 2]) (by simp[results,Tryz.results146,go_sem, *]) rfl ?_;have a0:=HF.out;exact⟨T.zero,rfl,T.zero_v,T.zero_sh _ _ _,(by repeat(first|with_reducible exact a0|with_reducible refine Fr.setNew ?_ s_ _|with_reducible refine Fr.alloc ?_ _))⟩
  .rw[hm]at hM;go_enter Tryz.func146,Tryz.ntmps146;go_wp2_with fail;refine(hM _ (ht.no (((Fr.refl No w).alloc _).alloc _) hh) so_).mono ?_;rintro e w2 ⟨rfl,a1⟩;have a2:=a1.size;simp only[World.size_alloc]at a2;have a6:w.heap.size+1<w2.heap.size:=o_;have b0:=((Blk.new' w 28 #[.int .u8 k,.int .i64 n,.string s,.slice A l.length cap,.int .i64 r] (g:=w.heap.size) rfl).alloc (.cells #[.int .u8 0,.int .i64 0,.string ⟨#[]⟩,.slice none 0 0,.int .i64 0] 28)).fr a1 (λh=>h);have b1:=(Blk.new' (w.alloc (.cells #[.int .u8 k,.int .i64 n,.string s,.slice A l.length cap,.int .i64 r] 28)) 28 #[.int .u8 0,.int .i64 0,.string ⟨#[]⟩,.slice none 0 0,.int .i64 0] (g:=w.heap.size+1) s_).fr a1 (λh=>h);obtain⟨c0,c1,c2,c3,c4,cf⟩:=b0.cells5;obtain⟨d0,d1,d2,d3,d4,df⟩:=b1.cells5;have a0:Fr No w w2:=(((Fr.refl No w).alloc _).alloc _).trans a1;have HT:=zaa (ht.no a0 hh);clear ht;have HF:=zaa a0;have HB:=zaa b1;clear b1 b0 a0;go_wp2_with fail;refine(hO _ HT.out o_).mono ?_;rintro e w3 ⟨t',rfl,hv,ow,a3⟩;have b1:=HB.out.fr a3 (λh=>h);obtain⟨d0,d1,d2,d3,d4,df⟩:=b1.cells5;have a0:=HF.out.trans a3;have a4:=zaa a0;have HV:=zaa hv;have HO:=zaa ow;have a5:=a3.size;clear hv ow a0 b1;cases t' with
   |mk k2 n2 s2 A2 cap2 l2 r2=>
    rw[T.val_mk];go_wp2;refine bodyPost_ret (v:=.tuple #[.agg #[.int .u8 k2,.int .i64 n2,.string s2,.slice A2 l2.length cap2,.int .i64 r2],.int .i64 0]) (by simp[results,Tryz.results146,go_sem, *]) rfl ?_;have a0:=a4.out;refine⟨T.mk k2 n2 s2 A2 cap2 l2 r2,rfl,HV.out,?_,(by repeat(first|with_reducible exact a0|with_reducible refine Fr.setNew ?_ s_ _|with_reducible refine Fr.alloc ?_ _))⟩;refine(HO.out.fr' (S:=(· =w.heap.size+1)) ?_ (λi h0 h1 h2=>by have h':i=w.heap.size+1:=h2;omega)).more o_ s_;repeat(first|with_reducible exact Fr.refl _ w3|with_reducible refine Fr.set ?_ s_ _)
end Go.Proofs.YtlejelbefmkakaaGreat
namespace Go.Proofs.YtlejelbefmkakaaGreat
open Go.Joins Go.ChangeShapes Go.WideShapes Go.RowKit Go.Deep
abbrev Nm:=ByteArray×T
def zbj (x:Nm):List Value:=.string x.1::x.2.cells
theorem zbw (x:Nm):(zbj x).length=6:=by simp[zbj,T.cells_length]
structure NmRow (w:World) (lo hi:Nat) (A:Option Addr) (cap:Nat) (l:List Nm):Prop where
 len1:l.length*80<=140737488351232
 cap1:l.length<=cap
 at_:l≠[]->∃b o,A=some ⟨b,o,none⟩/\lo<=b/\b<hi/\∀i x,l[i]? =some x->∀j u,(zbj x)[j]? =some u->w.cell? ⟨b,o+i*6+j,none⟩=some u
 inn:∀x∈l,x.1.size<=140737488351232/\x.2.In w lo hi
structure CdRow (w:World) (lo hi:Nat) (A:Option Addr) (cap:Nat) (l:List G):Prop where
 len1:l.length*256<=140737488351232
 cap1:l.length<=cap
 ty:∀x∈l,Ty 311 x
 inn:(G.row A l).In w lo hi
structure Tg where
 kind:Int
 home:Int
 v:T
 VA:Option Addr
 vc:Nat
 vs:List T
 n:Int
 lost:Int
 ofr:Int
 byr:Int
 set:Int
 full:Bool
 CA:Option Addr
 cc:Nat
 code:List G
 NA:Option Addr
 nc:Nat
 names:List Nm
def c16 (kind home k n:Int) (s:ByteArray) (A:Option Addr) (len cap:Nat) (r:Int) (VA:Option Addr) (vl vc:Nat) (n1 lost ofr byr set:Int) (full:Bool) (CA:Option Addr) (cl cc:Nat) (NA:Option Addr) (nl nc:Nat):Array Value:=
 #[.int .u8 kind,.int .i64 home,.int .u8 k,.int .i64 n,.string s,.slice A len cap,.int .i64 r,.slice VA vl vc,.int .i64 n1,.int .i64 lost,.int .i64 ofr,.int .i64 byr,.int .u8 set,.bool full,.slice CA cl cc,.slice NA nl nc]
def Tg.cells (x:Tg):List Value:=[.int .u8 x.kind,.int .i64 x.home]++(x.v.cells++[.slice x.VA x.vs.length x.vc,.int .i64 x.n,.int .i64 x.lost,.int .i64 x.ofr,.int .i64 x.byr,.int .u8 x.set,.bool x.full,.slice x.CA x.code.length x.cc,.slice x.NA x.names.length x.nc])
def Tg.val (x:Tg):Value:=.agg x.cells.toArray
structure Tg.Fit (x:Tg):Prop where
 kind:0<=x.kind/\x.kind<256
 home: -9223372036854775808<=x.home/\x.home<=9223372036854775807
 n: -9223372036854775808<=x.n/\x.n<=9223372036854775807
 lost: -9223372036854775808<=x.lost/\x.lost<=9223372036854775807
 ofr: -9223372036854775808<=x.ofr/\x.ofr<=9223372036854775807
 byr: -9223372036854775808<=x.byr/\x.byr<=9223372036854775807
 set:0<=x.set/\x.set<256
structure Tg.In (w:World) (lo hi:Nat) (x:Tg):Prop where
 fit:x.Fit
 v:x.v.In w lo hi
 vs:(T.row x.VA x.vc x.vs).In w lo hi
 code:CdRow w lo hi x.CA x.cc x.code
 names:NmRow w lo hi x.NA x.nc x.names
section
variable {S:Nat->Prop} {a w:World} {lo hi:Nat}
theorem NmRow.fr {A:Option Addr} {cap:Nat} {l:List Nm} (h:NmRow a lo hi A cap l) (hf:Fr S a w) (hh:hi<=a.heap.size) (hs:∀i,lo<=i->i<hi->¬S i):NmRow w lo hi A cap l:=by
 refine⟨h.len1,h.cap1,λhl=>?_,λx hx=>⟨(h.inn x hx).1,(h.inn x hx).2.fr hf hh hs⟩⟩;obtain⟨b,o,rfl,h0,h1,hc⟩:=h.at_ hl;exact⟨b,o,rfl,h0,h1,λi x hx j u hu=>(hf.cell o_ (hs b h0 h1)).trans (hc i x hx j u hu)⟩
theorem NmRow.more {A:Option Addr} {cap:Nat} {l:List Nm} {lo' hi':Nat} (h:NmRow a lo hi A cap l) (hl:lo'<=lo) (hh:hi<=hi'):NmRow a lo' hi' A cap l:=by
 refine⟨h.len1,h.cap1,λhl'=>?_,λx hx=>⟨(h.inn x hx).1,T.In.more hl hh _ (h.inn x hx).2⟩⟩;obtain⟨b,o,rfl,h0,h1,hc⟩:=h.at_ hl';exact⟨b,o,rfl,by omega,by omega,hc⟩
theorem CdRow.fr {A:Option Addr} {cap:Nat} {l:List G} (h:CdRow a lo hi A cap l) (hf:Fr S a w) (hh:hi<=a.heap.size) (hs:∀i,lo<=i->i<hi->¬S i):CdRow w lo hi A cap l:=⟨h.len1,h.cap1,h.ty,h.inn.fr hf hh hs⟩
theorem CdRow.more {A:Option Addr} {cap:Nat} {l:List G} {lo' hi':Nat} (h:CdRow a lo hi A cap l) (hl:lo'<=lo) (hh:hi<=hi'):CdRow a lo' hi' A cap l:=⟨h.len1,h.cap1,h.ty,G.In.more hl hh _ h.inn⟩
theorem Tg.In.fr {x:Tg} (h:x.In a lo hi) (hf:Fr S a w) (hh:hi<=a.heap.size) (hs:∀i,lo<=i->i<hi->¬S i):x.In w lo hi:=⟨h.fit,h.v.fr hf hh hs,h.vs.fr hf hh hs,h.code.fr hf hh hs,h.names.fr hf hh hs⟩
theorem Tg.In.no {x:Tg} (h:x.In a lo hi) (hf:Fr No a w) (hh:hi<=a.heap.size):x.In w lo hi:=h.fr hf hh λ_ _ _ h=>h
theorem Tg.In.more {x:Tg} {lo' hi':Nat} (h:x.In a lo hi) (hl:lo'<=lo) (hh:hi<=hi'):x.In a lo' hi':=⟨h.fit,T.In.more hl hh _ h.v,T.In.more hl hh _ h.vs,h.code.more hl hh,h.names.more hl hh⟩
end
theorem zva {g:G} (h:Ty 260 g):∃x:Nm,g.c=zbj x/\x.1.size<=140737488351232/\∀(w:World) (lo hi:Nat),g.In w lo hi->x.2.In w lo hi:=by
 obtain⟨c,s⟩:=g;have h0:=h.fits;rw[zeu]at h0;obtain⟨nm,c,rfl,w0,h0⟩:=h0.inv_str;obtain⟨k,c,rfl,w1,h0⟩:=h0.inv_int;obtain⟨n,c,rfl,w2,h0⟩:=h0.inv_int;obtain⟨b,c,rfl,w3,h0⟩:=h0.inv_str;obtain⟨A,l,cap,c,s,rfl,rfl,w4,w5,h0⟩:=h0.inv_sl;obtain⟨r,c,rfl,w6,h0⟩:=h0.inv_int;obtain⟨rfl,rfl⟩:=h0.inv_nil;have hk:=h.kids 0 _ (by rw[zeu];rfl) rfl;have hv:Ty 28 (.mk [.int .u8 k,.int .i64 n,.string b,.slice A l.length cap,.int .i64 r] [(A,l)]):=by
  refine .mk _ _ _ ?_ λi e A' l' x he hs hx=>?_
  .rw[zc2];exact⟨⟨k,rfl,w1⟩,⟨n,rfl,w2⟩,⟨b,rfl,w3⟩,⟨cap,rfl,w4,w5⟩,⟨r,rfl,w6⟩,rfl,rfl⟩
  .rw[zc2]at he;cases i with
   |zero=>
    simp[sls]at he hs;obtain⟨rfl,rfl⟩:=hs;subst he;exact hk x hx
   |succ i=>simp at hs
 obtain⟨t,ht,a0⟩:=zol _ hv;refine⟨(nm,t),?_,w0,λw lo hi hi'=>a0 w lo hi ?_⟩
 .show Value.string nm::_=Value.string nm::t.cells;rw[<-ht];rfl
 .rw[G.in_rows]at hi' ⊢;exact hi'
theorem zry {l:List G} (h:∀x∈l,Ty 260 x):∃ts:List Nm,ts.length=l.length/\∀(A:Option Addr) (cap:Nat) (w:World) (lo hi:Nat),l.length*80<=140737488351232->l.length<=cap->(G.row A l).In w lo hi->NmRow w lo hi A cap ts:=by
 have a1:∀i,i<l.length->∃t:Nm,∃x,l[i]? =some x/\x.c=zbj t/\t.1.size<=140737488351232/\∀(w:World) (lo hi:Nat),x.In w lo hi->t.2.In w lo hi:=λi hi=>by
  have hm:=List.getElem_mem hi;obtain⟨t,h1,h2,h3⟩:=zva (h _ hm);exact⟨t,l[i],List.getElem?_eq_getElem hi,h1,h2,h3⟩
 obtain⟨ts,a0,hq⟩:=zbr l.length a1;refine⟨ts,a0,λA cap w lo hi hl hc hin=>?_⟩;obtain⟨h1,h2⟩:=G.row_in.1 hin;refine⟨by rw[a0];exact hl,by rw[a0];exact hc,λhne=>?_,λx hx=>?_⟩
 .obtain⟨b,o,rfl,a3,a5,hc⟩:=h1 (by rintro rfl;simp at a0;exact hne a0);refine⟨b,o,rfl,a3,a5,λi x hx j u hu=>?_⟩;obtain⟨y,hy,a2,-⟩:=hq i x hx;have:=hc i y hy j u (by rw[a2];exact hu);rwa [a2,zbw]at this
 .obtain⟨i,hi',rfl⟩:=List.mem_iff_getElem.1 hx;obtain⟨y,hy,-,a6,a4⟩:=hq i _ (List.getElem?_eq_getElem hi');exact⟨a6,a4 w lo hi (h2 y (List.mem_of_getElem? hy))⟩
end Go.Proofs.YtlejelbefmkakaaGreat
namespace Go.Proofs.YtlejelbefmkakaaGreat
open Go.RowKit
theorem zah {w:World} {i:Nat} {o:Obj} (h:w.heap[i]? =some o):i<w.heap.size:=by
 rcases Nat.lt_or_ge i w.heap.size with hlt|a0
 .exact hlt
 .rw[Array.getElem?_eq_none a0]at h;cases h
theorem zef {W:World} {B:Nat} {es:Array MapEntry} {c:Nat} (h:W.heap[B]? =some (.map es c)):(getObj B).run Tryz.prog W= .ok (.map es c) W:=by
 simp[getObj,Sem.run,h]
theorem zk8 {W:World} {B:Nat} {es:Array MapEntry} {c:Nat} (o:Obj) (h:W.heap[B]? =some (.map es c)):(setObj B o).run Tryz.prog W= .ok () (W.putObj B o):=by
 simp[setObj,Sem.run,h,World.putObj]
theorem zdt {n:Int}:∀{es:List MapEntry} {i:Nat},(∀e∈es,∃c:Int,e.key= .int .i64 c/\n≠c)->Instr.findNow (.int .i64) (.int .i64 n) es i=some none
 |[],_,_=>rfl
 |e::es,i,h=>by
  obtain⟨c,hc,a0⟩:=h e s_;unfold Instr.findNow;have:Instr.sameNow (.int .i64) (.int .i64 n) e.key=some false:=by rw[hc];simp[Instr.sameNow];exact a0
  rw[this];exact zdt λe he=>h e (by simp[he])
theorem zdu {n:Int}:∀{es:List MapEntry} {i j:Nat} {e:MapEntry},(∀e∈es,∃c:Int,e.key= .int .i64 c)->es[j]? =some e->e.key= .int .i64 n->(∀k e',k<j->es[k]? =some e'->e'.key≠ .int .i64 n)->
 Instr.findNow (.int .i64) (.int .i64 n) es i=some (some (i+j,e.val))
 |[],_,j,e,_,h,_,_=>by simp at h
 |e0::es,i,0,e,_,h,hk,_=>by
  simp at h;subst h;unfold Instr.findNow;have:Instr.sameNow (.int .i64) (.int .i64 n) e0.key=some true:=by rw[hk];simp[Instr.sameNow]
  rw[this];rfl
 |e0::es,i,j+1,e,hall,h,hk,hb=>by
  obtain⟨c,hc⟩:=hall e0 s_;have a0:n≠c:=λh'=>hb 0 e0 o_ rfl (by rw[hc,h']);unfold Instr.findNow;have:Instr.sameNow (.int .i64) (.int .i64 n) e0.key=some false:=by rw[hc];simp[Instr.sameNow];exact a0
  rw[this];have:=zdu (n:=n) (i:=i+1) (j:=j) (λe he=>hall e (List.mem_cons_of_mem _ he)) (by simpa using h) hk (λk e' hk' he'=>hb (k+1) e' o_ (by simpa using he'));rw[show i+(j+1)=i+1+j from by omega];exact this
section
variable {t el kt:TypeId} {w:World} {B cl:Nat} {es:Array MapEntry}
theorem zc4 (hk:Tryz.prog.underlying kt=some (.int .i64)) (e:Bool) (n:Int) (w:World):(Instr.checkKey e 10000 kt (.int .i64 n)).run Tryz.prog w= .ok () w:=by
 have:∀d,(Instr.checkKey e (d+1) kt (.int .i64 n)).run Tryz.prog w= .ok () w:=λd=>by simp[Instr.checkKey,run_underlying hk]
 exact this 9999
theorem ze9 {z:Value} (hk:Tryz.prog.underlying kt=some (.int .i64)) (ht:Tryz.prog.underlying t=some (.map kt el)) (hz:(zeroValue el).run Tryz.prog w= .ok z w) (n:Int) (hB:w.heap[B]? =some (.map es cl)) (o:Option Nat)
 (hn:o=none->∀e∈es.toList,∃c:Int,e.key= .int .i64 c/\n≠c) (hs:∀j,o=some j->∃e,es.toList[j]? =some e/\e.key= .int .i64 n/\(∀e∈es.toList,∃c:Int,e.key= .int .i64 c)/\∀k e',k<j->es.toList[k]? =some e'->e'.key≠ .int .i64 n):
 (Instr.lookup t (.map (some B)) (.int .i64 n) true).run Tryz.prog w= .ok (match o.bind λj=>es.toList[j]? with|some e=>.tuple #[e.val,.bool true]|none=>.tuple #[z,.bool false]) w/\
 (Instr.lookup t (.map (some B)) (.int .i64 n) false).run Tryz.prog w= .ok (match o.bind λj=>es.toList[j]? with|some e=>e.val|none=>z) w:=by
 unfold Instr.lookup;cases o with
 |none=>
  have hf:=zdt (i:=0) (hn rfl);constructor<;>simp[run_underlying ht,zef hB,zc4 hk,Instr.findKey,run_underlying hk,hf,Result.andThen,hz]
 |some j=>
  obtain⟨e,h1,h2,h3,h4⟩:=hs j rfl;have hf:=zdu (i:=0) h3 h1 h2 h4;have a0:es[j]? =some e:=by simpa using h1
  constructor<;>simp[run_underlying ht,zef hB,zc4 hk,Instr.findKey,run_underlying hk,hf,Result.andThen,a0]
theorem zft (hk:Tryz.prog.underlying kt=some (.int .i64)) (ht:Tryz.prog.underlying t=some (.map kt el)) (n:Int) (val:Value) (hB:w.heap[B]? =some (.map es cl))
 (h:∀e∈es.toList,∃c:Int,e.key= .int .i64 c/\n≠c):
 (Instr.mapUpdate t (.map (some B)) (.int .i64 n) val).run Tryz.prog w= .ok () (w.putObj B (.map (es.push {key:=.int .i64 n,val:=val,born:=cl}) (cl+1))):=by
 unfold Instr.mapUpdate;simp only[Sem.run_bind,run_underlying ht,Result.andThen_ok,zef hB,zc4 hk,Instr.findKey,run_underlying hk,zdt h,Sem.run_pure,zk8 _ hB]
end
structure Th where
 kind:Int
 home:Int
 v:T
 n:Int
 lost:Int
 ofr:Int
 byr:Int
 set:Int
 full:Bool
def Th.cells (x:Th):List Value:=[.int .u8 x.kind,.int .i64 x.home]++(x.v.cells++[.slice none 0 0,.int .i64 x.n,.int .i64 x.lost,.int .i64 x.ofr,.int .i64 x.byr,.int .u8 x.set,.bool x.full,.slice none 0 0,.slice none 0 0])
def Th.val (x:Th):Value:=.agg x.cells.toArray
structure Wm where
 wb:Nat
 M:Nat
 F:Nat
 P:Option Addr
 pn:Nat
 pc:Nat
 C:Option Addr
 cn:Nat
 cc:Nat
 D:Option Addr
 dc:Nat
 made:List Nat
 th:List (Nat×Th)
 fac:List (Int×Int×Int)
def Wm.cells (m:Wm):Array Value:=#[.slice m.P m.pn m.pc,.slice m.C m.cn m.cc,.map (some m.M),.map (some m.F),.int .i64 (m.th.length:Int),.slice m.D m.made.length m.dc]
def zt2 (es:List MapEntry) (l:List (Nat×Th)):Prop:=
 es.length=l.length/\∀(i:Nat) (e:MapEntry) (x:Nat×Th),es[i]? =some e->l[i]? =some x->e.key= .int .i64 ((i:Int)+1)/\e.val= .pointer (some ⟨x.1,0,none⟩)
def zmi (es:List MapEntry) (l:List (Int×Int×Int)):Prop:=
 es.length=l.length/\∀(i:Nat) (e:MapEntry) (x:Int×Int×Int),es[i]? =some e->l[i]? =some x->e.key= .agg #[.int .i64 x.1,.int .u8 x.2.1]/\e.val= .int .i64 x.2.2
def Stm (es:List MapEntry) (cl:Nat):Prop:=(∀x∈es,x.born<cl)/\(es.map (·.born)).Nodup
def Wm.B (m:Wm) (i:Nat):Prop:=i=m.wb\/i=m.M\/i=m.F\/(Value.slice m.D m.made.length m.dc).ownBlock=some i\/∃x∈m.th,i=x.1\/i∈x.2.v.blocks
structure Wm.Ok (m:Wm) (lo:Nat) (W:World):Prop where
 blk:Blk W m.wb 38 m.cells
 things:∃es cl,W.heap[m.M]? =some (.map es cl)/\zt2 es.toList m.th/\Stm es.toList cl
 facets:∃es cl,W.heap[m.F]? =some (.map es cl)/\zmi es.toList m.fac
 made:W.ownsRow lo 3 1 (.slice m.D m.made.length m.dc) m.made.length (m.made.map λ(n:Nat)=>Value.int .i64 (n:Int))
 box:∀x∈m.th,Blk W x.1 138 x.2.cells.toArray
 vals:∀x∈m.th,x.2.v.Sh W lo W.heap.size
 lo0:lo<=m.wb/\lo<=m.M/\lo<=m.F/\∀x∈m.th,lo<=x.1
 mf:m.M≠m.F
 dist:m.th.Pairwise λa b=>a.1≠b.1
 len:m.th.length<=100000
 mades:∀n∈m.made,n<=512
 sides:1<=m.made.length/\m.made.length<=16
section
variable {m:Wm} {lo:Nat} {W W':World} {S:Nat->Prop}
theorem Wm.Ok.lt (h:m.Ok lo W):∀i,m.B i->lo<=i/\i<W.heap.size:=by
 obtain⟨es,cl,hm,-⟩:=h.things;obtain⟨ef,cf,hf,a0⟩:=h.facets;obtain⟨l0,l1,l2,l3⟩:=h.lo0;rintro i (rfl|rfl|rfl|hi|⟨x,hx,rfl|hi⟩)
 .exact⟨l0,h.blk.lt⟩
 .exact⟨l1,zah hm⟩
 .exact⟨l2,zah hf⟩
 .exact zaj h.made i hi
 .exact⟨l3 x hx,(h.box x hx).lt⟩
 .exact T.In.blocks _ (h.vals x hx).inn i hi
theorem Wm.Ok.fr (h:m.Ok lo W) (f:Fr S W W') (hs:∀i,m.B i->¬S i):m.Ok lo W':=by
 obtain⟨es,cl,hm,he⟩:=h.things;obtain⟨ef,cf,hf,a0⟩:=h.facets;exact⟨h.blk.fr f (hs _ (.inl rfl)),⟨es,cl,(f.block _ (zah hm) (hs _ (.inr (.inl rfl)))).trans hm,he⟩,⟨ef,cf,(f.block _ (zah hf) (hs _ (.inr (.inr (.inl rfl))))).trans hf,a0⟩,
  zaf h.made f λg hg=>hs g (.inr (.inr (.inr (.inl hg)))),λx hx=>(h.box x hx).fr f (hs _ (.inr (.inr (.inr (.inr ⟨x,hx,.inl rfl⟩))))),
  λx hx=>((h.vals x hx).fr f λb hb=>hs b (.inr (.inr (.inr (.inr ⟨x,hx,.inr hb⟩))))).more (Nat.le_refl _) f.size,h.lo0,h.mf,h.dist,h.len,h.mades,h.sides⟩
theorem Wm.Ok.no (h:m.Ok lo W) (f:Fr No W W'):m.Ok lo W':=h.fr f λ_ _ h=>h
end
structure Gm where
 wb:Nat
 M:Nat
 F:Nat
 P:Option Addr
 pc:Nat
 par:List Int
 C:Option Addr
 cc:Nat
 cut:List Bool
 D:Option Addr
 dc:Nat
 made:List Int
 last:Int
 th:List (Int×Nat×Tg)
 fac:List (Int×Int×Int)
def Gm.cells (m:Gm):Array Value:=#[.slice m.P m.par.length m.pc,.slice m.C m.cut.length m.cc,.map (some m.M),.map (some m.F),.int .i64 m.last,.slice m.D m.made.length m.dc]
def zti (es:List MapEntry) (l:List (Int×Nat×Tg)):Prop:=
 es.length=l.length/\∀(i:Nat) (e:MapEntry) (x:Int×Nat×Tg),es[i]? =some e->l[i]? =some x->e.key= .int .i64 x.1/\e.val= .pointer (some ⟨x.2.1,0,none⟩)
structure Tg.St (w:World) (lo:Nat) (x:Tg):Prop where
 inn:x.In w lo w.heap.size
 tdV:∀b,(b∈x.v.blocks\/b∈(T.row x.VA x.vc x.vs).blocks)->∃cs,Blk w b 28 cs
 tdC:(G.row x.CA x.code).Td w
 tdN:∀b,(∃a,x.NA=some a/\x.names≠[]/\a.block=b)->∃cs,Blk w b 260 cs
 tdM:∀y∈x.names,∀b∈y.2.blocks,∃cs,Blk w b 28 cs
inductive Tg.Has (x:Tg) (b:Nat):Prop
 |v (h:b∈x.v.blocks)
 |vs (h:b∈(T.row x.VA x.vc x.vs).blocks)
 |code (h:(G.row x.CA x.code).Has b)
 |nm (h:∃a,x.NA=some a/\x.names≠[]/\a.block=b)
 |nv (y:Nm) (hy:y∈x.names) (h:b∈y.2.blocks)
theorem Tg.St.ty {w:World} {lo:Nat} {x:Tg} (h:x.St w lo) {b:Nat} (hb:x.Has b):∃e cs,(e=28\/e=308\/e=311\/e=260\/e=9)/\Blk w b e cs:=by
 cases hb with
 |v hb=>obtain⟨cs,h1⟩:=h.tdV b (.inl hb);exact⟨_,cs,.inl rfl,h1⟩
 |vs hb=>obtain⟨cs,h1⟩:=h.tdV b (.inr hb);exact⟨_,cs,.inl rfl,h1⟩
 |code hb=>exact h.tdC b hb
 |nm hb=>obtain⟨cs,h1⟩:=h.tdN b hb;exact⟨_,cs,.inr (.inr (.inr (.inl rfl))),h1⟩
 |nv y hy hb=>obtain⟨cs,h1⟩:=h.tdM y hy b hb;exact⟨_,cs,.inl rfl,h1⟩
theorem Tg.In.has {w:World} {lo hi:Nat} {x:Tg} (h:x.In w lo hi) {b:Nat} (hb:x.Has b):lo<=b/\b<hi:=by
 cases hb with
 |v hb=>exact T.In.blocks _ h.v b hb
 |vs hb=>exact T.In.blocks _ h.vs b hb
 |code hb=>exact G.In.has hb h.code.inn
 |nm hb=>
  obtain⟨a,ha,hn,rfl⟩:=hb;obtain⟨b,o,hA,h0,h1,-⟩:=h.names.at_ hn;rw[ha]at hA;injection hA with hA
  subst hA;exact⟨h0,h1⟩
 |nv y hy hb=>exact T.In.blocks _ (h.names.inn y hy).2 b hb
theorem T.In.keepT {w w':World} {lo hi:Nat} (t:T):t.In w lo hi->(∀b∈t.blocks,∀o,w'.cell? ⟨b,o,none⟩=w.cell? ⟨b,o,none⟩)->t.In w' lo hi:=by
 induction t using T.ind with
 |h k n s A cap l r ih=>
  rw[T.in_mk,T.in_mk,T.blocks_mk];rintro⟨h1,h2,h3⟩ hk;refine⟨h1,λhl=>?_,λx hx=>ih x hx (h3 x hx) λb hb=>hk b (List.mem_append_right _ (List.mem_flatten.2 ⟨_,List.mem_map_of_mem hx,hb⟩))⟩;obtain⟨b,o,rfl,a1,a0,hc⟩:=h2 hl;refine⟨b,o,rfl,a1,a0,λi x hx j u hu=>(hk b (List.mem_append_left _ ?_) _).trans (hc i x hx j u hu)⟩;cases l with
  |nil=>exact absurd rfl hl
  |cons x l=>simp
theorem T.In.frT {S:Nat->Prop} {w w':World} {lo hi:Nat} {t:T} (h:t.In w lo hi) (hf:Fr S w w') (hh:hi<=w.heap.size) (hs:∀b∈t.blocks,¬S b):t.In w' lo hi:=
 T.In.keepT t h λb hb _=>hf.cell (by have:=(T.In.blocks t h b hb).2;omega) (hs b hb)
theorem Tg.St.fr {S:Nat->Prop} {w w':World} {lo:Nat} {x:Tg} (h:x.St w lo) (hf:Fr S w w') (hs:∀b,x.Has b->¬S b):x.St w' lo:=by
 have a0:=h.inn;refine⟨Tg.In.more (lo:=lo) (hi:=w.heap.size) ⟨a0.fit,a0.v.frT hf (Nat.le_refl _) λb hb=>hs b (.v hb),a0.vs.frT hf (Nat.le_refl _) λb hb=>hs b (.vs hb),
  ⟨a0.code.len1,a0.code.cap1,a0.code.ty,a0.code.inn.frH hf (Nat.le_refl _) λb hb=>hs b (.code hb)⟩,⟨a0.names.len1,a0.names.cap1,λhl=>?_,λy hy=>⟨(a0.names.inn y hy).1,(a0.names.inn y hy).2.frT hf (Nat.le_refl _) λb hb=>hs b (.nv y hy hb)⟩⟩⟩ (Nat.le_refl _) hf.size,
  λb hb=>?_,h.tdC.fr hf λb hb=>hs b (.code hb),λb hb=>?_,λy hy b hb=>?_⟩
 .obtain⟨b,o,hA,h0,h1,hc⟩:=a0.names.at_ hl;exact⟨b,o,hA,h0,h1,λi x hx j u hu=>(hf.cell h1 (hs b (.nm ⟨_,hA,hl,rfl⟩))).trans (hc i x hx j u hu)⟩
 .obtain⟨cs,h1⟩:=h.tdV b hb;exact⟨cs,h1.fr hf (hs b (hb.elim (λh=>.v h) λh=>.vs h))⟩
 .obtain⟨cs,h1⟩:=h.tdN b hb;exact⟨cs,h1.fr hf (hs b (.nm hb))⟩
 .obtain⟨cs,h1⟩:=h.tdM y hy b hb;exact⟨cs,h1.fr hf (hs b (.nv y hy hb))⟩
def Gm.B (m:Gm) (i:Nat):Prop:=i=m.wb\/i=m.M\/i=m.F\/(Value.slice m.P m.par.length m.pc).ownBlock=some i\/(Value.slice m.C m.cut.length m.cc).ownBlock=some i\/(Value.slice m.D m.made.length m.dc).ownBlock=some i\/∃x∈m.th,i=x.2.1\/x.2.2.Has i
structure Gm.Ok (m:Gm) (lo:Nat) (W:World):Prop where
 blk:Blk W m.wb 38 m.cells
 things:∃es cl,W.heap[m.M]? =some (.map es cl)/\zti es.toList m.th/\Stm es.toList cl
 facets:∃es cl,W.heap[m.F]? =some (.map es cl)/\zmi es.toList m.fac/\Stm es.toList cl
 par:W.ownsRow lo 23 1 (.slice m.P m.par.length m.pc) m.par.length (m.par.map λ(n:Int)=>Value.int .i64 n)
 cut:W.ownsRow lo 4 1 (.slice m.C m.cut.length m.cc) m.cut.length (m.cut.map λb=>Value.bool b)
 made:W.ownsRow lo 3 1 (.slice m.D m.made.length m.dc) m.made.length (m.made.map λ(n:Int)=>Value.int .i64 n)
 box:∀x∈m.th,Blk W x.2.1 138 x.2.2.cells.toArray
 st:∀x∈m.th,x.2.2.St W lo
 lo0:lo<=m.wb/\lo<=m.M/\lo<=m.F/\∀x∈m.th,lo<=x.2.1
 mf:m.M≠m.F
 keys:(m.th.map Prod.fst).Nodup
 dist:m.th.Pairwise λa b=>a.2.1≠b.2.1
 len:m.th.length<=1000000
 fkeys:(m.fac.map λf=>(f.1,f.2.1)).Nodup
 flen:m.fac.length<=1000000
 sides:1<=m.made.length/\m.made.length<=16/\m.par.length+1=m.made.length/\m.cut.length=m.made.length
section
variable {m:Gm} {lo:Nat} {W W':World} {S:Nat->Prop}
theorem Gm.Ok.lt (h:m.Ok lo W):∀i,m.B i->lo<=i/\i<W.heap.size:=by
 obtain⟨es,cl,hm,-⟩:=h.things;obtain⟨ef,cf,hf,a0⟩:=h.facets;obtain⟨l0,l1,l2,l3⟩:=h.lo0;rintro i (rfl|rfl|rfl|hi|hi|hi|⟨x,hx,rfl|hi⟩)
 .exact⟨l0,h.blk.lt⟩
 .exact⟨l1,zah hm⟩
 .exact⟨l2,zah hf⟩
 .exact zaj h.par i hi
 .exact zaj h.cut i hi
 .exact zaj h.made i hi
 .exact⟨l3 x hx,(h.box x hx).lt⟩
 .exact(h.st x hx).inn.has hi
theorem Gm.Ok.fr (h:m.Ok lo W) (f:Fr S W W') (hs:∀i,m.B i->¬S i):m.Ok lo W':=by
 obtain⟨es,cl,hm,he⟩:=h.things;obtain⟨ef,cf,hf,a0⟩:=h.facets;exact⟨h.blk.fr f (hs _ (.inl rfl)),⟨es,cl,(f.block _ (zah hm) (hs _ (.inr (.inl rfl)))).trans hm,he⟩,⟨ef,cf,(f.block _ (zah hf) (hs _ (.inr (.inr (.inl rfl))))).trans hf,a0⟩,
  zaf h.par f λg hg=>hs g (.inr (.inr (.inr (.inl hg)))),zaf h.cut f λg hg=>hs g (.inr (.inr (.inr (.inr (.inl hg))))),zaf h.made f λg hg=>hs g (.inr (.inr (.inr (.inr (.inr (.inl hg)))))),
  λx hx=>(h.box x hx).fr f (hs _ (.inr (.inr (.inr (.inr (.inr (.inr ⟨x,hx,.inl rfl⟩))))))),
  λx hx=>(h.st x hx).fr f λb hb=>hs b (.inr (.inr (.inr (.inr (.inr (.inr ⟨x,hx,.inr hb⟩)))))),h.lo0,h.mf,h.keys,h.dist,h.len,h.fkeys,h.flen,h.sides⟩
theorem Gm.Ok.no (h:m.Ok lo W) (f:Fr No W W'):m.Ok lo W':=h.fr f λ_ _ h=>h
def Gm.get (m:Gm) (r:Int):Option (Nat×Tg):=(m.th.find? λx=>x.1==r).map Prod.snd
def Gm.kind (m:Gm) (r:Int):Int:=((m.get r).map λx=>x.2.kind).getD 0
theorem Gm.get_mem {r:Int} {x:Nat×Tg} (h:m.get r=some x):(r,x)∈m.th:=by
 unfold Gm.get at h;obtain⟨y,hy,rfl⟩:=Option.map_eq_some_iff.1 h;have h1:=List.find?_some hy;have h2:=List.mem_of_find?_eq_some hy;have:y.1=r:=by simpa using h1
 rw[<-this];exact h2
theorem Gm.get_none {r:Int} (h:m.get r=none):∀x∈m.th,x.1≠r:=by
 unfold Gm.get at h;rw[Option.map_eq_none_iff,List.find?_eq_none]at h;intro x hx;have:=h x hx;simpa using this
theorem Gm.get_of (hk:(m.th.map Prod.fst).Nodup) {x:Int×Nat×Tg} (h:x∈m.th):m.get x.1=some x.2:=by
 cases hg:m.get x.1 with
 |none=>exact absurd rfl (Gm.get_none hg x h)
 |some y=>
  have h1:=Gm.get_mem hg;obtain⟨i,hi,a1⟩:=List.mem_iff_getElem.1 h;obtain⟨j,hj,a0⟩:=List.mem_iff_getElem.1 h1;have:i=j:=by
   refine(List.getElem_inj (h₀:=by simpa using hi) (h₁:=by simpa using hj) hk).1 ?_;simp[a1,a0]
  subst this;rw[a1]at a0;rw[a0]
theorem zbt (h:m.Ok lo W) (r:Int):(Instr.lookup 34 (.map (some m.M)) (.int .i64 r) false).run Tryz.prog W= .ok (.pointer ((m.get r).map λx=>⟨x.1,0,none⟩)) W:=by
 obtain⟨es,cl,hm,he,a4⟩:=h.things;have a0:∀e∈es.toList,∃c:Int,e.key= .int .i64 c:=λe hm=>by
  obtain⟨i,hi,rfl⟩:=List.mem_iff_getElem.1 hm;have hi':i<m.th.length:=by rw[<-he.1];exact hi
  exact⟨_,(he.2 i _ _ (List.getElem?_eq_getElem hi) (List.getElem?_eq_getElem hi')).1⟩
 have hz:(zeroValue 185).run Tryz.prog W= .ok (.pointer none) W:=r_;cases hg:m.get r with
 |none=>
  have hn:=Gm.get_none hg;have hl:=(ze9 (o:=none) Tryz.underlying22 Tryz.underlying34 hz r hm (λ_ e hm=>by
   obtain⟨i,hi,rfl⟩:=List.mem_iff_getElem.1 hm;have hi':i<m.th.length:=by rw[<-he.1];exact hi
   exact⟨_,(he.2 i _ _ (List.getElem?_eq_getElem hi) (List.getElem?_eq_getElem hi')).1,λhr=>hn _ (List.getElem_mem hi') hr.symm⟩) (λj hj=>by cases hj)).2
  rw[hl];rfl
 |some x=>
  have hx:=Gm.get_mem hg;obtain⟨i,hi,a2⟩:=List.mem_iff_getElem.1 hx;have hi':i<es.toList.length:=by rw[he.1];exact hi
  have a1:=he.2 i _ _ (List.getElem?_eq_getElem hi') (List.getElem?_eq_getElem hi);rw[a2]at a1;have hl:=(ze9 (o:=some i) Tryz.underlying22 Tryz.underlying34 hz r hm (λho=>by cases ho) (λj hj=>by
   simp only[Option.some.injEq]at hj;subst hj;refine⟨_,List.getElem?_eq_getElem hi',a1.1,a0,λk e' hk hek hkey=>?_⟩;have a3:k<m.th.length:=o_;rw[(he.2 k e' _ hek (List.getElem?_eq_getElem a3)).1]at hkey;simp only[Value.int.injEq,true_and]at hkey;have:k=i:=by
    refine(List.getElem_inj (h₀:=by simpa using a3) (h₁:=by simpa using hi) h.keys).1 ?_;simp[a2,hkey]
   omega)).2
  rw[hl];simp only[Option.bind_some,List.getElem?_eq_getElem hi',a1.2,Option.map_some]
end
def canN (k:Int):Nat:=
 if k=1 then 3 else if k=2\/k=3 then 9 else if k=4 then 12 else if k=5\/k=6\/k=8\/k=12 then 16 else if k=9 then 13 else if k=10 then 1 else if k=11 then 8 else if k=13 then 33 else 0
theorem zn0 (k:Int):canN k<64:=by unfold canN;repeat' split<;>try decide
inductive Gm.Abl (m:Gm):Int->Nat->Prop
 |base {r:Int} {x:Nat×Tg} (h:m.get r=some x) (hk:x.2.kind≠14/\x.2.kind≠15/\x.2.kind≠16):Gm.Abl m r (canN x.2.kind)
 |facet {r:Int} {x:Nat×Tg} {s a:Nat} (h:m.get r=some x) (hk:x.2.kind=14) (hs:x.2.set=(s:Int)) (ha:Gm.Abl m x.2.ofr a):Gm.Abl m r (s&&&a)
 |pass {r:Int} {x:Nat×Tg} {a:Nat} (h:m.get r=some x) (hk:x.2.kind=15\/x.2.kind=16) (ha:Gm.Abl m x.2.ofr a):Gm.Abl m r a
section
variable {m m':Gm} {r t:Int} {a b:Nat}
theorem Gm.Abl.uniq (h:m.Abl r a):∀{b:Nat},m.Abl r b->a=b:=by
 induction h with
 |base h hk=>
  intro b hb;cases hb with
  |base h' _=>rw[h]at h';cases h';rfl
  |facet h' hk' _ _=>rw[h]at h';cases h';exact absurd hk' hk.1
  |pass h' hk' _=>rw[h]at h';cases h';exact hk'.elim (λe=>absurd e hk.2.1) λe=>absurd e hk.2.2
 |facet h hk hs ha ih=>
  intro b hb;cases hb with
  |base h' hk'=>rw[h]at h';cases h';exact absurd hk hk'.1
  |facet h' hk' hs' ha'=>
   rw[h]at h';cases h';rw[hs]at hs';have:=ih ha';subst this;have e:(_:Nat)=_:=Int.ofNat.inj hs';rw[e]
  |pass h' hk' _=>rw[h]at h';cases h';rcases hk' with e|e<;>rw[hk]at e<;>cases e
 |pass h hk ha ih=>
  intro b hb;cases hb with
  |base h' hk'=>rw[h]at h';cases h';exact hk.elim (λe=>absurd e hk'.2.1) λe=>absurd e hk'.2.2
  |facet h' hk' _ _=>rw[h]at h';cases h';rcases hk with e|e<;>rw[hk']at e<;>cases e
  |pass h' hk' ha'=>rw[h]at h';cases h';exact ih ha'
theorem Gm.Abl.lt (h:m.Abl r a):a<64:=by
 induction h with
 |base h hk=>exact zn0 _
 |facet h hk hs ha ih=>exact Nat.lt_of_le_of_lt Nat.and_le_right ih
 |pass h hk ha ih=>exact ih
def Gm.Ext (m m':Gm):Prop:=m'.wb=m.wb/\m.made.length=m'.made.length/\∀r x,m.get r=some x->m'.get r=some x
theorem Gm.Abl.ext (h:m.Abl r a) (he:m.Ext m'):m'.Abl r a:=by
 induction h with
 |base h hk=>exact .base (he.2.2 _ _ h) hk
 |facet h hk hs ha ih=>exact .facet (he.2.2 _ _ h) hk hs ih
 |pass h hk ha ih=>exact .pass (he.2.2 _ _ h) hk ih
def Gm.root (m:Gm) (r:Int):Int:=match m.get r with
 |some x=>if x.2.kind=14 then x.2.ofr else r
 |none=>r
structure Gm.Fs (m:Gm):Prop where
 num:∀x∈m.th,1<=x.1/\x.1<=m.last
 kind:∀x∈m.th,1<=x.2.2.kind/\x.2.2.kind<=16
 last:0<=m.last/\m.last<=10000000
 abl:∀r x,m.get r=some x->∃a,m.Abl r a
 set:∀r x,m.get r=some x->x.2.kind=14->∃s:Nat,x.2.set=(s:Int)/\s<64/\∃y,m.get x.2.ofr=some y/\y.2.kind≠14/\∃a,m.Abl x.2.ofr a/\s&&&a=s/\s≠a
 fac:∀o s r,(o,s,r)∈m.fac↔∃x,m.get r=some x/\x.2.kind=14/\x.2.ofr=o/\x.2.set=s
def Tg.fac (t:Int) (s:Nat):Tg:=⟨14,0,T.zero,none,0,[],0,0,t,0,(s:Int),false,none,0,[],none,0,[]⟩
def Gm.addF (m:Gm) (g:Nat) (t:Int) (s:Nat):Gm:={m with last:=m.last+1,th:=m.th++[(m.last+1,g,Tg.fac t s)],fac:=m.fac++[(t,(s:Int),m.last+1)]}
end
theorem zkh {a:Nat} (h:a<64):63&&&a=a:=by
 have:a&&&63=a:=by
  rw[show(63:Nat)=2 ^ 6 - 1 from rfl,Nat.and_two_pow_sub_one_eq_mod];exact Nat.mod_eq_of_lt h
 rw[Nat.and_comm];exact this
theorem zwp {a b:Nat} (h:a<64):a&&&b<64:=Nat.lt_of_le_of_lt Nat.and_le_left h
theorem zn3 {W:World} {g a b:Nat} (ha:a<64) (hb:b<256) (h0:W.cell? ⟨g,0,none⟩=some (.int .u8 (a:Int))) (h1:W.cell? ⟨g,1,none⟩=some (.int .u8 (b:Int))) (_hg:g<W.heap.size):
 Calls Tryz.prog 151 #[.slice (some ⟨g,0,none⟩) 2 2] W λe w'=>e= .returned (.int .u8 ((a&&&b:Nat):Int))/\w'=W:=by
 have e1:bits .and .u8 63 (a:Int)=(a:Int):=by
  have:=u8_and_nat 63 a o_ o_;rw[zkh ha]at this;exact this
 have e2:bits .and .u8 (a:Int) (b:Int)=((a&&&b:Nat):Int):=u8_and_nat a b o_ o_;go_enter Tryz.func151,Tryz.ntmps151;go_wp2_with fail;refine wp_loop_rounds 3 ?_;rw[rounds_succ];go_wp2_with fail;rw[rounds_succ];go_wp2_with fail;rw[rounds_succ];go_wp2_with fail;go_ret;exact⟨rfl,rfl⟩
theorem zx2 (a:Nat) (ha:a<256) (W:World):Calls Tryz.prog 161 #[.int .u8 (a:Int)] W λe w'=>e= .returned (.bool (decide (a<64)))/\w'=W:=by
 have e1:bits .andNot .u8 (a:Int) 63=((a&&&192:Nat):Int):=u8_andNot_nat a 63 ha o_;have e2:(((a&&&192:Nat):Int)==0)=decide (a<64):=by
  have:∀a:Fin 256,(((a.val&&&192:Nat):Int)==0)=decide (a.val<64):=by decide+kernel
  exact this ⟨a,ha⟩
 go_enter Tryz.func161,Tryz.ntmps161;go_wp2;go_ret;exact⟨rfl,rfl⟩
theorem or0 (a:Nat):0|||a=a:=s_
theorem zgt {W:World} {g a b:Nat} (ha:a<64) (hb:b<64) (h0:W.cell? ⟨g,0,none⟩=some (.int .u8 (a:Int))) (h1:W.cell? ⟨g,1,none⟩=some (.int .u8 (b:Int))) (_hg:g<W.heap.size):
 Calls Tryz.prog 203 #[.slice (some ⟨g,0,none⟩) 2 2] W λe w'=>e= .returned (.int .u8 ((a|||b:Nat):Int))/\w'=W:=by
 have m0:bits .and .u8 (a:Int) 63=(a:Int):=by
  have:=u8_and_nat a 63 o_ o_;rw[Nat.and_comm,zkh ha]at this;exact this
 have m1:bits .and .u8 (b:Int) 63=(b:Int):=by
  have:=u8_and_nat b 63 o_ o_;rw[Nat.and_comm,zkh hb]at this;exact this
 have o0:bits .or .u8 0 (a:Int)=(a:Int):=by
  have:=u8_or_nat 0 a o_ o_;rw[or0]at this;exact this
 have o1:bits .or .u8 (a:Int) (b:Int)=((a|||b:Nat):Int):=u8_or_nat _ b (by first|omega|exact Nat.lt_of_lt_of_le (Nat.or_lt_two_pow (n:=6) ha hb) d_) o_;go_enter Tryz.func203,Tryz.ntmps203;go_wp2_with fail;refine wp_loop_rounds 3 ?_;rw[rounds_succ];go_wp2_with fail;rw[rounds_succ];go_wp2_with fail;rw[rounds_succ];go_wp2_with fail;go_ret;exact⟨rfl,rfl⟩
theorem zui {W:World} {g a b c:Nat} (ha:a<64) (hb:b<64) (hc:c<64) (h0:W.cell? ⟨g,0,none⟩=some (.int .u8 (a:Int))) (h1:W.cell? ⟨g,1,none⟩=some (.int .u8 (b:Int))) (h2:W.cell? ⟨g,2,none⟩=some (.int .u8 (c:Int))) (_hg:g<W.heap.size):
 Calls Tryz.prog 203 #[.slice (some ⟨g,0,none⟩) 3 3] W λe w'=>e= .returned (.int .u8 (((a|||b|||c):Nat):Int))/\w'=W:=by
 have m0:bits .and .u8 (a:Int) 63=(a:Int):=by
  have:=u8_and_nat a 63 o_ o_;rw[Nat.and_comm,zkh ha]at this;exact this
 have m1:bits .and .u8 (b:Int) 63=(b:Int):=by
  have:=u8_and_nat b 63 o_ o_;rw[Nat.and_comm,zkh hb]at this;exact this
 have m2:bits .and .u8 (c:Int) 63=(c:Int):=by
  have:=u8_and_nat c 63 o_ o_;rw[Nat.and_comm,zkh hc]at this;exact this
 have o0:bits .or .u8 0 (a:Int)=(a:Int):=by
  have:=u8_or_nat 0 a o_ o_;rw[or0]at this;exact this
 have o1:bits .or .u8 (a:Int) (b:Int)=((a|||b:Nat):Int):=u8_or_nat _ b (by first|omega|exact Nat.lt_of_lt_of_le (Nat.or_lt_two_pow (n:=6) ha hb) d_) o_;have o2:bits .or .u8 ((a|||b:Nat):Int) (c:Int)=(((a|||b|||c):Nat):Int):=u8_or_nat _ c (by first|omega|exact Nat.lt_of_lt_of_le (Nat.or_lt_two_pow (n:=6) ha hb) d_) o_;go_enter Tryz.func203,Tryz.ntmps203;go_wp2_with fail;refine wp_loop_rounds 4 ?_;rw[rounds_succ];go_wp2_with fail;rw[rounds_succ];go_wp2_with fail;rw[rounds_succ];go_wp2_with fail;rw[rounds_succ];go_wp2_with fail;go_ret;exact⟨rfl,rfl⟩
theorem zx3 (k:Int) (W:World):Calls Tryz.prog 152 #[.int .u8 k] W λe w'=>e= .returned (.int .u8 (canN k:Int))/\Fr No W w':=by
 by_cases h1:k=1
 .subst h1;have hb:=Blk.new W 24 #[.int .u8 1,.int .u8 2];have hf:=(Fr.refl No W).alloc (.cells #[.int .u8 1,.int .u8 2] 24);have hj:=zgt (a:=1) (b:=2) d_ d_ (hb.cell 0) (hb.cell 1) hb.lt;have HJ:=zaa hj;have HF:=zaa hf;clear hb hf hj;go_enter Tryz.func152,Tryz.ntmps152;go_wp2_with fail;refine HJ.out.mono ?_;rintro e w' ⟨rfl,rfl⟩;go_wp2;go_ret;exact⟨rfl,HF.out⟩
 by_cases h2:k=2
 .subst h2;have hb:=Blk.new W 24 #[.int .u8 1,.int .u8 8];have hf:=(Fr.refl No W).alloc (.cells #[.int .u8 1,.int .u8 8] 24);have hj:=zgt (a:=1) (b:=8) d_ d_ (hb.cell 0) (hb.cell 1) hb.lt;have HJ:=zaa hj;have HF:=zaa hf;clear hb hf hj;go_enter Tryz.func152,Tryz.ntmps152;go_wp2_with fail;refine HJ.out.mono ?_;rintro e w' ⟨rfl,rfl⟩;go_wp2;go_ret;exact⟨rfl,HF.out⟩
 by_cases h3:k=3
 .subst h3;have hb:=Blk.new W 24 #[.int .u8 1,.int .u8 8];have hf:=(Fr.refl No W).alloc (.cells #[.int .u8 1,.int .u8 8] 24);have hj:=zgt (a:=1) (b:=8) d_ d_ (hb.cell 0) (hb.cell 1) hb.lt;have HJ:=zaa hj;have HF:=zaa hf;clear hb hf hj;go_enter Tryz.func152,Tryz.ntmps152;go_wp2_with fail;refine HJ.out.mono ?_;rintro e w' ⟨rfl,rfl⟩;go_wp2;go_ret;exact⟨rfl,HF.out⟩
 by_cases h4:k=4
 .subst h4;have hb:=Blk.new W 24 #[.int .u8 8,.int .u8 4];have hf:=(Fr.refl No W).alloc (.cells #[.int .u8 8,.int .u8 4] 24);have hj:=zgt (a:=8) (b:=4) d_ d_ (hb.cell 0) (hb.cell 1) hb.lt;have HJ:=zaa hj;have HF:=zaa hf;clear hb hf hj;go_enter Tryz.func152,Tryz.ntmps152;go_wp2_with fail;refine HJ.out.mono ?_;rintro e w' ⟨rfl,rfl⟩;go_wp2;go_ret;exact⟨rfl,HF.out⟩
 by_cases h5:k=5
 .subst h5;go_enter Tryz.func152,Tryz.ntmps152;go_wp2;go_ret;exact⟨rfl,Fr.refl _ _⟩
 by_cases h6:k=6
 .subst h6;go_enter Tryz.func152,Tryz.ntmps152;go_wp2;go_ret;exact⟨rfl,Fr.refl _ _⟩
 by_cases h8:k=8
 .subst h8;go_enter Tryz.func152,Tryz.ntmps152;go_wp2;go_ret;exact⟨rfl,Fr.refl _ _⟩
 by_cases a1:k=12
 .subst a1;go_enter Tryz.func152,Tryz.ntmps152;go_wp2;go_ret;exact⟨rfl,Fr.refl _ _⟩
 by_cases h9:k=9
 .subst h9;have hb:=Blk.new W 24 #[.int .u8 1,.int .u8 4,.int .u8 8];have hf:=(Fr.refl No W).alloc (.cells #[.int .u8 1,.int .u8 4,.int .u8 8] 24);have hj:=zui (a:=1) (b:=4) (c:=8) d_ d_ d_ (hb.cell 0) (hb.cell 1) (hb.cell 2) hb.lt;have HJ:=zaa hj;have HF:=zaa hf;clear hb hf hj;go_enter Tryz.func152,Tryz.ntmps152;go_wp2_with fail;refine HJ.out.mono ?_;rintro e w' ⟨rfl,rfl⟩;go_wp2;go_ret;exact⟨rfl,HF.out⟩
 by_cases a3:k=10
 .subst a3;go_enter Tryz.func152,Tryz.ntmps152;go_wp2;go_ret;exact⟨rfl,Fr.refl _ _⟩
 by_cases a2:k=11
 .subst a2;go_enter Tryz.func152,Tryz.ntmps152;go_wp2;go_ret;exact⟨rfl,Fr.refl _ _⟩
 by_cases a0:k=13
 .subst a0;have hb:=Blk.new W 24 #[.int .u8 1,.int .u8 32];have hf:=(Fr.refl No W).alloc (.cells #[.int .u8 1,.int .u8 32] 24);have hj:=zgt (a:=1) (b:=32) d_ d_ (hb.cell 0) (hb.cell 1) hb.lt;have HJ:=zaa hj;have HF:=zaa hf;clear hb hf hj;go_enter Tryz.func152,Tryz.ntmps152;go_wp2_with fail;refine HJ.out.mono ?_;rintro e w' ⟨rfl,rfl⟩;go_wp2;go_ret;exact⟨rfl,HF.out⟩
 have e1:(k==1)=false:=by simpa using h1
 have e2:(k==2)=false:=by simpa using h2
 have e3:(k==3)=false:=by simpa using h3
 have e4:(k==4)=false:=by simpa using h4
 have e5:(k==5)=false:=by simpa using h5
 have e6:(k==6)=false:=by simpa using h6
 have e8:(k==8)=false:=by simpa using h8
 have a7:(k==12)=false:=by simpa using a1
 have e9:(k==9)=false:=by simpa using h9
 have a5:(k==10)=false:=by simpa using a3
 have a6:(k==11)=false:=by simpa using a2
 have a4:(k==13)=false:=by simpa using a0
 have hn:canN k=0:=by simp[canN,h1,h2,h3,h4,h5,h6,h8,a1,h9,a3,a2,a0]
 rw[hn];clear hn h1 h2 h3 h4 h5 h6 h8 a1 h9 a3 a2 a0;go_enter Tryz.func152,Tryz.ntmps152;go_wp2;go_ret;exact⟨rfl,Fr.refl _ _⟩
section
variable {m:Wm} {lo:Nat} {W:World}
def Wm.at_ (m:Wm) (r:Int):Option Nat:=if 1<=r/\r<=(m.th.length:Int)then some (r - 1).toNat else none
def Wm.get (m:Wm) (r:Int):Option (Nat×Th):=(m.at_ r).bind λi=>m.th[i]?
def Wm.kind (m:Wm) (r:Int):Int:=((m.get r).map λx=>x.2.kind).getD 0
theorem Wm.get_is {m:Wm} {r:Int}:(m.get r).isSome=decide (1<=r/\r<=(m.th.length:Int)):=by
 unfold Wm.get Wm.at_;by_cases h:1<=r/\r<=(m.th.length:Int)
 .rw[if_pos h];have:(r - 1).toNat<m.th.length:=o_;simp[h];omega
 .rw[if_neg h];simp[h]
theorem Wm.get_mem {m:Wm} {r:Int} {x:Nat×Th} (h:m.get r=some x):x∈m.th:=by
 unfold Wm.get at h;obtain⟨i,-,hi⟩:=Option.bind_eq_some_iff.1 h;exact List.mem_of_getElem? hi
theorem zhl (w:World) (M:Nat):(binOp .eql 34 (.map (some M)) (.map none)).run Tryz.prog w= .ok (.bool false) w:=by
 have h:=run_eql_map_nil (P:=Tryz.prog) w 34 _ _ (some M) Tryz.underlying34;simpa using h
theorem zcq (h:m.Ok lo W) (r:Int):(Instr.lookup 34 (.map (some m.M)) (.int .i64 r) false).run Tryz.prog W= .ok (.pointer ((m.get r).map λx=>⟨x.1,0,none⟩)) W:=by
 obtain⟨es,cl,hm,he,a2⟩:=h.things;have a0:∀e∈es.toList,∃c:Int,e.key= .int .i64 c:=λe hm=>by
  obtain⟨i,hi,rfl⟩:=List.mem_iff_getElem.1 hm;have hi':i<m.th.length:=by rw[<-he.1];exact hi
  exact⟨_,(he.2 i _ _ (List.getElem?_eq_getElem hi) (List.getElem?_eq_getElem hi')).1⟩
 have hz:(zeroValue 185).run Tryz.prog W= .ok (.pointer none) W:=r_;have hl:=(ze9 (o:=m.at_ r) Tryz.underlying22 Tryz.underlying34 hz r hm (λho e hm=>by
  obtain⟨i,hi,rfl⟩:=List.mem_iff_getElem.1 hm;have hi':i<m.th.length:=by rw[<-he.1];exact hi
  refine⟨_,(he.2 i _ _ (List.getElem?_eq_getElem hi) (List.getElem?_eq_getElem hi')).1,λhr=>?_⟩;unfold Wm.at_ at ho;rw[if_pos o_]at ho;cases ho) (λj hj=>by
  unfold Wm.at_ at hj;split at hj
  .rename_i hr;simp only[Option.some.injEq]at hj;subst hj;have hi':(r - 1).toNat<m.th.length:=o_;have hi:(r - 1).toNat<es.toList.length:=by rw[he.1];exact hi'
   refine⟨_,List.getElem?_eq_getElem hi,?_,a0,λk e' hk hek hkey=>?_⟩
   .rw[(he.2 _ _ _ (List.getElem?_eq_getElem hi) (List.getElem?_eq_getElem hi')).1];congr 1
    omega
   .have a1:k<m.th.length:=o_;rw[(he.2 k e' _ hek (List.getElem?_eq_getElem a1)).1]at hkey;simp only[Value.int.injEq,true_and]at hkey;omega
  .cases hj)).2
 rw[hl];unfold Wm.get;cases ho:m.at_ r with
 |none=>rfl
 |some j=>
  unfold Wm.at_ at ho;split at ho
  .rename_i hr;simp only[Option.some.injEq]at ho;subst ho;have hi':(r - 1).toNat<m.th.length:=o_;have hi:(r - 1).toNat<es.toList.length:=by rw[he.1];exact hi'
   have hv:=(he.2 _ _ _ (List.getElem?_eq_getElem hi) (List.getElem?_eq_getElem hi')).2;simp only[Option.bind_some,List.getElem?_eq_getElem hi,List.getElem?_eq_getElem hi',Option.map_some,hv]
  .cases ho
theorem zh6 (h:m.Ok lo W):Calls Tryz.prog 127 #[.pointer (some ⟨m.wb,0,none⟩)] W λe w'=>e= .returned (.bool false)/\w'=W:=by
 have c0:=h.blk.cell 2;simp only[Wm.cells,List.getElem?_toArray,List.getElem?_cons_zero,List.getElem?_cons_succ]at c0;have hq:=zhl;clear h;go_enter Tryz.func127,Tryz.ntmps127;go_wp2;go_ret;exact⟨rfl,rfl⟩
theorem zk9 (h:m.Ok lo W):Calls Tryz.prog 84 #[.pointer (some ⟨m.wb,0,none⟩)] W λe w'=>e= .returned (.int .i64 (m.made.length:Int))/\w'=W:=by
 have hN:=zh6 h;have c0:=h.blk.cell 5;simp only[Wm.cells,List.getElem?_toArray,List.getElem?_cons_zero,List.getElem?_cons_succ]at c0;clear h;go_enter Tryz.func84,Tryz.ntmps84;go_wp2_with fail;refine hN.mono ?_;rintro e w' ⟨rfl,rfl⟩;go_wp2;go_ret;exact⟨rfl,rfl⟩
theorem zmj (h:m.Ok lo W) (s:Int):Calls Tryz.prog 133 #[.pointer (some ⟨m.wb,0,none⟩),.int .i64 s] W λe w'=>e= .returned (.bool (decide (0<=s/\s<(m.made.length:Int))))/\w'=W:=by
 have hN:=zk9 h;clear h;by_cases h0:0<=s
 .by_cases h1:s<(m.made.length:Int)
  .have hd:decide (0<=s/\s<(m.made.length:Int))=true:=by simp[h0,h1]
   rw[hd];go_enter Tryz.func133,Tryz.ntmps133;go_wp2_with fail;refine hN.mono ?_;rintro e w' ⟨rfl,rfl⟩;go_wp2;go_ret;exact⟨rfl,rfl⟩
  .have hd:decide (0<=s/\s<(m.made.length:Int))=false:=by simp[h0,h1]
   have h2:decide (s<(m.made.length:Int))=false:=by simp[h1]
   rw[hd];clear h1;go_enter Tryz.func133,Tryz.ntmps133;go_wp2_with fail;refine hN.mono ?_;rintro e w' ⟨rfl,rfl⟩;go_wp2;go_ret;exact⟨rfl,rfl⟩
 .have hd:decide (0<=s/\s<(m.made.length:Int))=false:=by simp[h0]
  rw[hd];go_enter Tryz.func133,Tryz.ntmps133;go_wp2;go_ret;exact⟨rfl,rfl⟩
theorem zqg (h:m.Ok lo W) (r:Int):Calls Tryz.prog 58 #[.pointer (some ⟨m.wb,0,none⟩),.int .i64 r] W λe w'=>e= .returned (.bool (m.get r).isSome)/\w'=W:=by
 have hN:=zh6 h;have hl:=zcq h r;have c0:=h.blk.cell 2;simp only[Wm.cells,List.getElem?_toArray,List.getElem?_cons_zero,List.getElem?_cons_succ]at c0;clear h;go_enter Tryz.func58,Tryz.ntmps58;go_wp2_with fail;refine hN.mono ?_;rintro e w' ⟨rfl,rfl⟩;cases hg:m.get r with
 |none=>
  rw[hg]at hl;simp only[Option.map_none]at hl;go_wp2;go_ret;exact⟨by rw[hg];rfl,rfl⟩
 |some x=>
  rw[hg]at hl;simp only[Option.map_some]at hl;go_wp2;go_ret;exact⟨by rw[hg];rfl,rfl⟩
theorem zmk (h:m.Ok lo W) (r:Int):Calls Tryz.prog 44 #[.pointer (some ⟨m.wb,0,none⟩),.int .i64 r] W λe w'=>e= .returned (.int .u8 (m.kind r))/\w'=W:=by
 have hI:=zqg h r;have hl:=zcq h r;have c0:=h.blk.cell 2;simp only[Wm.cells,List.getElem?_toArray,List.getElem?_cons_zero,List.getElem?_cons_succ]at c0;unfold Wm.kind;cases hg:m.get r with
 |none=>
  rw[hg]at hI hl;clear h hg;go_enter Tryz.func44,Tryz.ntmps44;go_wp2_with fail;refine hI.mono ?_;rintro e w' ⟨rfl,rfl⟩;go_wp2;go_ret;exact⟨rfl,rfl⟩
 |some x=>
  have hx:=Wm.get_mem hg;have d0:W.cell? ⟨x.1,0,none⟩=some (.int .u8 x.2.kind):=(h.box x hx).cell 0;rw[hg]at hI hl;simp only[Option.map_some]at hl;clear h hg hx;go_enter Tryz.func44,Tryz.ntmps44;go_wp2_with fail;refine hI.mono ?_;rintro e w' ⟨rfl,rfl⟩;go_wp2;go_ret;exact⟨rfl,rfl⟩
theorem zxo (h:m.Ok lo W) {r:Int} {x:Nat×Th} (hg:m.get r=some x) (hk:x.2.kind≠14):Calls Tryz.prog 88 #[.pointer (some ⟨m.wb,0,none⟩),.int .i64 r] W λe w'=>e= .returned (.tuple #[.int .i64 x.2.home,.bool true])/\w'=W:=by
 have hI:=zqg h r;have hl:=zcq h r;have c0:=h.blk.cell 2;simp only[Wm.cells,List.getElem?_toArray,List.getElem?_cons_zero,List.getElem?_cons_succ]at c0;have hx:=Wm.get_mem hg;have d0:W.cell? ⟨x.1,0,none⟩=some (.int .u8 x.2.kind):=(h.box x hx).cell 0;have d1:W.cell? ⟨x.1,1,none⟩=some (.int .i64 x.2.home):=(h.box x hx).cell 1;have a0:(x.2.kind==14)=false:=by simpa using hk
 rw[hg]at hI hl;simp only[Option.map_some]at hl;clear h hg hx hk;go_enter Tryz.func88,Tryz.ntmps88;go_wp2_with fail;refine hI.mono ?_;rintro e w' ⟨rfl,rfl⟩;go_wp2;go_ret2;exact⟨rfl,rfl⟩
theorem zxp (h:m.Ok lo W) {s:Nat} (hs:s<m.made.length):Calls Tryz.prog 59 #[.pointer (some ⟨m.wb,0,none⟩),.int .i64 (s:Int)] W λe w'=>e= .returned (.int .i64 (m.made[s]:Int))/\w'=W:=by
 have hI:=zmj h (s:Int);have hd:decide (0<=(s:Int)/\(s:Int)<(m.made.length:Int))=true:=so_;rw[hd]at hI;have c0:=h.blk.cell 5;simp only[Wm.cells,List.getElem?_toArray,List.getElem?_cons_zero,List.getElem?_cons_succ]at c0;obtain⟨A,c,hA⟩:=za8 h.made;simp only[Value.slice.injEq,true_and]at hA;have hz:0<m.made.length:=o_;obtain⟨g,c,a0,a1,a2⟩:=h.made.form hz;simp only[Value.slice.injEq,true_and]at a0;have d1:W.cell? ⟨g,s,none⟩=some (.int .i64 (m.made[s]:Int)):=by
  have:=World.ownsRow.cells h.made (g:=g) (by rw[a0.1];rfl) s (.int .i64 (m.made[s]:Int)) (by simp[hs]);rwa [zbi,Nat.zero_add]at this
 rw[a0.1,a0.2]at c0;generalize m.made[s]=v at*;have hb:m.wb<W.heap.size:=h.blk.lt;clear h hA a0 hd;go_enter Tryz.func59,Tryz.ntmps59;go_wp2_with fail;refine hI.mono ?_;rintro e w' ⟨rfl,rfl⟩;go_wp2;go_ret;exact⟨rfl,rfl⟩
theorem zhm (h:m.Ok lo W):Calls Tryz.prog 83 #[.pointer (some ⟨m.wb,0,none⟩)] W λe w'=>e= .returned (.bool true)/\w'=W:=by
 have hS:=zk9 h;have h1:decide (0<m.made.length)=true:=by have:=h.sides;simp;omega
 clear h;go_enter Tryz.func83,Tryz.ntmps83;go_wp2_with fail;refine hS.mono ?_;rintro e w' ⟨rfl,rfl⟩;go_wp2;go_ret;exact⟨rfl,rfl⟩
end
section
variable {m:Gm} {lo:Nat} {W:World}
theorem zib (h:m.Ok lo W):Calls Tryz.prog 127 #[.pointer (some ⟨m.wb,0,none⟩)] W λe w'=>e= .returned (.bool false)/\w'=W:=by
 have c0:=h.blk.cell 2;simp only[Gm.cells,List.getElem?_toArray,List.getElem?_cons_zero,List.getElem?_cons_succ]at c0;have hq:=zhl;clear h;go_enter Tryz.func127,Tryz.ntmps127;go_wp2;go_ret;exact⟨rfl,rfl⟩
theorem zej (h:m.Ok lo W):Calls Tryz.prog 84 #[.pointer (some ⟨m.wb,0,none⟩)] W λe w'=>e= .returned (.int .i64 (m.made.length:Int))/\w'=W:=by
 have hN:=zib h;have c0:=h.blk.cell 5;simp only[Gm.cells,List.getElem?_toArray,List.getElem?_cons_zero,List.getElem?_cons_succ]at c0;clear h;go_enter Tryz.func84,Tryz.ntmps84;go_wp2_with fail;refine hN.mono ?_;rintro e w' ⟨rfl,rfl⟩;go_wp2;go_ret;exact⟨rfl,rfl⟩
theorem zub (h:m.Ok lo W) (s:Int):Calls Tryz.prog 133 #[.pointer (some ⟨m.wb,0,none⟩),.int .i64 s] W λe w'=>e= .returned (.bool (decide (0<=s/\s<(m.made.length:Int))))/\w'=W:=by
 have hN:=zej h;clear h;by_cases h0:0<=s
 .by_cases h1:s<(m.made.length:Int)
  .have hd:decide (0<=s/\s<(m.made.length:Int))=true:=by simp[h0,h1]
   rw[hd];go_enter Tryz.func133,Tryz.ntmps133;go_wp2_with fail;refine hN.mono ?_;rintro e w' ⟨rfl,rfl⟩;go_wp2;go_ret;exact⟨rfl,rfl⟩
  .have hd:decide (0<=s/\s<(m.made.length:Int))=false:=by simp[h0,h1]
   have h2:decide (s<(m.made.length:Int))=false:=by simp[h1]
   rw[hd];clear h1;go_enter Tryz.func133,Tryz.ntmps133;go_wp2_with fail;refine hN.mono ?_;rintro e w' ⟨rfl,rfl⟩;go_wp2;go_ret;exact⟨rfl,rfl⟩
 .have hd:decide (0<=s/\s<(m.made.length:Int))=false:=by simp[h0]
  rw[hd];go_enter Tryz.func133,Tryz.ntmps133;go_wp2;go_ret;exact⟨rfl,rfl⟩
theorem zf9 (h:m.Ok lo W) (r:Int):Calls Tryz.prog 58 #[.pointer (some ⟨m.wb,0,none⟩),.int .i64 r] W λe w'=>e= .returned (.bool (m.get r).isSome)/\w'=W:=by
 have hN:=zib h;have hl:=zbt h r;have c0:=h.blk.cell 2;simp only[Gm.cells,List.getElem?_toArray,List.getElem?_cons_zero,List.getElem?_cons_succ]at c0;clear h;go_enter Tryz.func58,Tryz.ntmps58;go_wp2_with fail;refine hN.mono ?_;rintro e w' ⟨rfl,rfl⟩;cases hg:m.get r with
 |none=>
  rw[hg]at hl;simp only[Option.map_none]at hl;go_wp2;go_ret;exact⟨by rw[hg];rfl,rfl⟩
 |some x=>
  rw[hg]at hl;simp only[Option.map_some]at hl;go_wp2;go_ret;exact⟨by rw[hg];rfl,rfl⟩
theorem zd9 (h:m.Ok lo W) (r:Int):Calls Tryz.prog 44 #[.pointer (some ⟨m.wb,0,none⟩),.int .i64 r] W λe w'=>e= .returned (.int .u8 (m.kind r))/\w'=W:=by
 have hI:=zf9 h r;have hl:=zbt h r;have c0:=h.blk.cell 2;simp only[Gm.cells,List.getElem?_toArray,List.getElem?_cons_zero,List.getElem?_cons_succ]at c0;unfold Gm.kind;cases hg:m.get r with
 |none=>
  rw[hg]at hI hl;clear h hg;go_enter Tryz.func44,Tryz.ntmps44;go_wp2_with fail;refine hI.mono ?_;rintro e w' ⟨rfl,rfl⟩;go_wp2;go_ret;exact⟨rfl,rfl⟩
 |some x=>
  have hx:=Gm.get_mem hg;have d0:W.cell? ⟨x.1,0,none⟩=some (.int .u8 x.2.kind):=(h.box _ hx).cell 0;rw[hg]at hI hl;simp only[Option.map_some]at hl;clear h hg hx;go_enter Tryz.func44,Tryz.ntmps44;go_wp2_with fail;refine hI.mono ?_;rintro e w' ⟨rfl,rfl⟩;go_wp2;go_ret;exact⟨rfl,rfl⟩
theorem zlj (h:m.Ok lo W):Calls Tryz.prog 83 #[.pointer (some ⟨m.wb,0,none⟩)] W λe w'=>e= .returned (.bool true)/\w'=W:=by
 have hS:=zej h;have h1:decide (0<m.made.length)=true:=by have:=h.sides;simp;omega
 clear h;go_enter Tryz.func83,Tryz.ntmps83;go_wp2_with fail;refine hS.mono ?_;rintro e w' ⟨rfl,rfl⟩;go_wp2;go_ret;exact⟨rfl,rfl⟩
end
end Go.Proofs.YtlejelbefmkakaaGreat

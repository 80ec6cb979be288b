/- Texts joined: Rd0, St1, St0, Re0, Ed1, Re2, Ub2, Ub3, Ub4, Ub0, Ub6, Ub5, Ec1, Ub7. -/
import Derived.Test.YtlejelbefmkakaaGreatJn1
import Derived.Test.YtlejelbefmkakaaGreatJn2
import Derived.Test.YtlejelbefmkakaaGreatJn4
import Derived.Test.YtlejelbefmkakaaGreatJn11
import Derived.Test.YtlejelbefmkakaaGreatJn12
import Derived.Test.YtlejelbefmkakaaGreatJn28
import Derived.Test.YtlejelbefmkakaaGreatJn29
import Derived.Laws.Tables
import Derived.Deep.RegionHeld3
import Derived.Deep.MidRow
import Derived.Deep.Cut
set_option maxHeartbeats 16000000
set_option maxRecDepth 100000
namespace Go.Proofs.YtlejelbefmkakaaGreat
open Go.RowKit
def Tg.zero:Tg:=⟨0,0,T.zero,none,0,[],0,0,0,0,0,false,none,0,[],none,0,[]⟩
def zcz (ths:List (Int×Tg)) (r:Int):Option Tg:=(ths.find? λx=>x.1==r).map Prod.snd
theorem zde (ths:List (Int×Tg)) (r:Int):(Gm.ofT ths).get r=(zcz ths r).map λx=>(0,x):=by
 unfold Gm.get zcz Gm.ofT;simp only[List.find?_map,Option.map_map];rfl
def atT (ths:List (Int×Tg)) (r:Int):Tg:=(zcz ths r).getD Tg.zero
theorem zcg {ths:List (Int×Tg)} {r:Int} {x:Tg} (h:zcz ths r=some x):(r,x)∈ths:=by
 unfold zcz at h;obtain⟨y,hy,rfl⟩:=Option.map_eq_some_iff.1 h;have h1:=List.find?_some hy;have h2:=List.mem_of_find?_eq_some hy;have:y.1=r:=by simpa using h1
 rw[<-this];exact h2
theorem zvh {ths:List (Int×Tg)} {r:Int} {j:Nat} (hj:j<ths.length) (hn:∀i x,i<j->ths[i]? =some x->x.1≠r) (h:ths[j].1=r):zcz ths r=some ths[j].2:=by
 unfold zcz;have:ths.find? (λx=>x.1==r)=some ths[j]:=by
  rw[List.find?_eq_some_iff_getElem];refine⟨by simpa using h,j,hj,rfl,λi hi=>?_⟩;have:=hn i ths[i] hi (List.getElem?_eq_getElem o_);simpa using this
 rw[this];rfl
theorem zr7 {ths:List (Int×Tg)} {r:Int} (hn:∀i x,i<ths.length->ths[i]? =some x->x.1≠r):zcz ths r=none:=by
 unfold zcz;rw[Option.map_eq_none_iff,List.find?_eq_none];intro x hx;obtain⟨i,hi,rfl⟩:=List.mem_iff_getElem.1 hx;have:=hn i _ hi (List.getElem?_eq_getElem hi);simpa using this
def zc5 (ths:List (Int×Tg)) (r:Int):Int:=(atT ths r).kind
theorem zr8 (ths:List (Int×Tg)) (r:Int):zc5 ths r=(Gm.ofT ths).kind r:=by
 unfold zc5 Gm.kind atT;rw[zde];cases zcz ths r<;>rfl
def zga (ths:List (Int×Tg)):Nat->Int->List Int
 |0,_=>[]
 |n+1,r=>match zcz ths r with
  |none=>[]
  |some x=>r::if zb8 x.kind=true then zga ths n x.ofr else[]
theorem zpe {ths:List (Int×Tg)} {n:Nat} {r:Int} (h:zcz ths r=none):zga ths n r=[]:=by
 cases n<;>simp[zga,h]
theorem zju {ths:List (Int×Tg)} {n:Nat} {r:Int} {x:Tg} (h:zcz ths r=some x) (hw:zb8 x.kind=false):zga ths (n+1) r=[r]:=by simp[zga,h,hw]
theorem zjv {ths:List (Int×Tg)} {n:Nat} {r:Int} {x:Tg} (h:zcz ths r=some x) (hw:zb8 x.kind=true):zga ths (n+1) r=r::zga ths n x.ofr:=by simp[zga,h,hw]
def V.rf:V->List Int
 | .mk k _ _ l r=>if k=4 then[r]else(l.map V.rf).flatten
termination_by v=>v
theorem V.rf_mk (k n:Int) (s:ByteArray) (l:List V) (r:Int):(V.mk k n s l r).rf=if k=4 then[r]else(l.map V.rf).flatten:=by rw[V.rf]
theorem zr9 (l:List V):∀(i:Nat) (p:List Int),(∀v∈l,∀p,zbg (v.walk p)=v.rf)->zbg (zb1 (l.map V.walk) i p)=(l.map V.rf).flatten:=by
 induction l with
 |nil=>intro i p _;rfl
 |cons x l ih=>
  intro i p h;simp only[List.map_cons,zb1,zdb,List.flatten_cons];rw[h x s_,ih (i+1) p λv hv=>h v (by simp[hv])]
theorem zvi (v:V):v.ok=true->∀p,zbg (v.walk p)=v.rf:=by
 induction v using V.ind with
 |h k n s l r ih=>
  intro hok p;rw[V.ok_mk,Bool.and_eq_true,List.all_eq_true]at hok;rw[V.walk_mk,V.rf_mk];simp only[zbg];by_cases h4:k=4
  .obtain rfl:l=[]:=List.eq_nil_of_length_eq_zero (ziu o_ hok.1);simp[h4,zb1,zbg]
  .rw[if_neg h4,if_neg h4,zr9 l 0 p λv hv=>ih v hv (hok.2 v hv)]
theorem zfn {v:V} (h:v.may=true):v.refs=v.rf:=by
 rw[V.refs,if_pos h,zvi v (zlg h)]
theorem zjw (v:V):v.rf.length<=v.size:=by
 induction v using V.ind with
 |h k n s l r ih=>
  rw[V.rf_mk,V.size_mk];split
  .simp
  .have:((l.map V.rf).flatten).length<=(l.map V.size).sum:=by
    rename_i h4;clear h4;induction l with
    |nil=>simp
    |cons x l ih2=>
     have h1:=ih x s_;have h2:=ih2 λv hv=>ih v (by simp[hv]);simp only[List.map_cons,List.flatten_cons,List.length_append,List.sum_cons];omega
   omega
def Tg.rfs (x:Tg):List Int:=(x.vals.map λt=>t.v.rf).flatten
inductive RAbl (ths:List (Int×Tg)):Int->Nat->Prop
 |no {r:Int} (h:zcz ths r=none):RAbl ths r 0
 |base {r:Int} {x:Tg} (h:zcz ths r=some x) (hk:x.kind≠14/\x.kind≠15/\x.kind≠16):RAbl ths r (canN x.kind)
 |facet {r:Int} {x:Tg} {s:Nat} (h:zcz ths r=some x) (hk:x.kind=14) (hs:x.set=(s:Int)):RAbl ths r s
 |pass {r:Int} {x:Tg} {a:Nat} (h:zcz ths r=some x) (hk:x.kind=15\/x.kind=16) (ha:RAbl ths x.ofr a):RAbl ths r a
theorem RAbl.uniq {ths:List (Int×Tg)} {r:Int} {a b:Nat} (h:RAbl ths r a):RAbl ths r b->a=b:=by
 induction h with
 |no h=>intro k;cases k with
  |no _=>rfl
  |base h' _=>rw[h]at h';cases h'
  |facet h' _ _=>rw[h]at h';cases h'
  |pass h' _ _=>rw[h]at h';cases h'
 |base h hk=>intro k;cases k with
  |no h'=>rw[h]at h';cases h'
  |base h' _=>rw[h]at h';cases h';rfl
  |facet h' hk' _=>rw[h]at h';cases h';exact absurd hk' hk.1
  |pass h' hk' _=>rw[h]at h';cases h';exact hk'.elim (λe=>absurd e hk.2.1) λe=>absurd e hk.2.2
 |facet h hk hs=>intro k;cases k with
  |no h'=>rw[h]at h';cases h'
  |base h' hk'=>rw[h]at h';cases h';exact absurd hk hk'.1
  |facet h' _ hs'=>rw[h]at h';cases h';rw[hs]at hs';exact Int.ofNat.inj hs'
  |pass h' hk' _=>rw[h]at h';cases h';rcases hk' with e|e<;>rw[hk]at e<;>cases e
 |pass h hk ha ih=>intro k;cases k with
  |no h'=>rw[h]at h';cases h'
  |base h' hk'=>rw[h]at h';cases h';exact hk.elim (λe=>absurd e hk'.2.1) λe=>absurd e hk'.2.2
  |facet h' hk' _=>rw[h]at h';cases h';rcases hk with e|e<;>rw[hk']at e<;>cases e
  |pass h' _ ha'=>rw[h]at h';cases h';exact ih ha'
def zdl (ths:List (Int×Tg)) (r k o:Int) (by_:Bool):Bool:=ths.any λy=>y.1 !=r&&(y.2.kind==k&&(if by_=true then y.2.byr==o else y.2.ofr==o))
def zl3 (x:Tg):Bool:=zeo x.kind||(x.kind==13&&x.ofr !=0)
def ze5 (ths:List (Int×Tg)) (x:Tg):Bool:=x.rfs.all (λq=>zc5 ths q !=0)&&(!(zl3 x&& !(zcz ths x.ofr).isSome)&& !(zep x.kind&& !(zcz ths x.byr).isSome))
def zl4 (ths:List (Int×Tg)) (r:Int) (x:Tg):Bool:=ths.all λy=>y.1==r||(y.2.kind !=14||(y.2.ofr !=x.ofr||y.2.set !=x.set))
def zfo (ths:List (Int×Tg)) (r:Int) (x:Tg) (a:Nat):Bool:=
 if x.kind=6 then(atT ths x.ofr).kind==5&&((atT ths x.ofr).home==x.home&& !zdl ths r 6 x.ofr false)else
 if x.kind=7 then(atT ths x.ofr).kind==5&&(atT ths x.ofr).home==x.home else
 if x.kind=9 then(atT ths x.ofr).kind==8&&(atT ths x.ofr).home==x.home else
 if x.kind=11 then(atT ths x.ofr).kind==10&&((atT ths x.ofr).home==x.home&& !zdl ths r 11 x.ofr false)else
 if x.kind=13 then x.ofr==0||((atT ths x.ofr).kind==15&&(atT ths x.ofr).byr==r)else
 if x.kind=15 then(atT ths x.byr).kind==13&&((atT ths x.byr).home==x.home&&(!zdl ths r 15 x.byr true&&(r==0||(atT ths x.byr).ofr==r)))else
 if x.kind=16 then(atT ths x.byr).kind==3&&(atT ths x.byr).home==x.home else
 if x.kind=14 then((atT ths x.ofr).kind !=14&&(bits .andNot .u8 x.set (a:Int)==0&&x.set !=(a:Int)))&&zl4 ths r x else true
def zpf (ths:List (Int×Tg)) (r:Int) (x:Tg) (a:Nat):Int:=if ze5 ths x=true then(if zfo ths r x a=true then 0 else 70)else 5
structure Il (w:World) (lo hi:Nat) (A:Option Addr) (p:List Int):Prop where
 len:p.length*8<=140737488351232
 at_:p≠[]->∃b o,A=some ⟨b,o,none⟩/\lo<=b/\b<hi/\∀i x,p[i]? =some x->w.cell? ⟨b,o+i,none⟩=some (.int .i64 x)
theorem Ints.il {w:World} {lo hi:Nat} {A:Option Addr} {cap:Nat} {p:List Int} (h:Ints w lo hi A cap p):Il w lo hi A p:=⟨h.len,h.at_⟩
theorem Il.no {w w':World} {lo hi:Nat} {A:Option Addr} {p:List Int} (h:Il w lo hi A p) (f:Fr No w w') (hh:hi<=w.heap.size):Il w' lo hi A p:=
 ⟨h.len,λhne=>by
  obtain⟨b,o,hA,h0,h1,hc⟩:=h.at_ hne;exact⟨b,o,hA,h0,h1,λi x hx=>(f.cell o_ λh=>h).trans (hc i x hx)⟩⟩
theorem Il.elem {w:World} {lo hi:Nat} {A:Option Addr} {p:List Int} (h:Il w lo hi A p) {j:Nat} (hj:j<p.length):∃b o,A=some ⟨b,o,none⟩/\b<hi/\w.cell? ⟨b,o+j,none⟩=some (.int .i64 p[j]):=by
 obtain⟨b,o,hA,-,h1,hc⟩:=h.at_ (by rintro rfl;simp at hj);exact⟨b,o,hA,h1,hc j _ (List.getElem?_eq_getElem hj)⟩
structure WRow (w:World) (lo hi:Nat) (PA:Option Addr) (pc:Nat) (ps:List Int) (CA:Option Addr) (cc:Nat) (cuts:List Int) (TA:Option Addr) (tc:Nat) (ths:List (Int×Tg)) (MA:Option Addr) (mc:Nat) (made:List Int):Prop where
 p:Il w lo hi PA ps
 c:Il w lo hi CA cuts
 t:EnRow w lo hi TA tc ths
 m:Il w lo hi MA made
theorem Il.own {w:World} {base lo:Nat} {e:TypeId} {A:Option Addr} {n c:Nat} {p:List Int} (h:w.ownsRow base e 1 (.slice A n c) n (zak p)) (h0:lo<=base) (hl:p.length*8<=140737488351232):Il w lo w.heap.size A p:=by
 refine⟨hl,λhne=>?_⟩;have hn:n=p.length:=by have:=h.1;simp[zak]at this;omega
 have a2:0<n:=by rw[hn];exact List.length_pos_iff.2 hne
 obtain⟨g,c',hA,a0,a1⟩:=h.form a2;simp only[Value.slice.injEq,true_and]at hA;obtain⟨rfl,rfl⟩:=hA;refine⟨g,0,rfl,Nat.le_trans h0 a0,a1,λi x hx=>?_⟩;have:=World.ownsRow.cells h (g:=g) rfl i (.int .i64 x) (by simp[zak,hx]);rwa [zbi]at this
theorem EnRow.own {w:World} {base lo:Nat} {A:Option Addr} {c:Nat} {l:List (Int×Tg)} (h:w.ownsRow base 140 17 (.slice A l.length c) l.length (zcw l)) (h0:lo<=base) (hl:l.length*200<=140737488351232) (hst:∀x∈l,x.2.In w lo w.heap.size) (hr:∀x∈l,-9223372036854775808<=x.1/\x.1<=9223372036854775807):EnRow w lo w.heap.size A c l:=by
 have a0:l.length<=c:=by
  rcases h.2 with⟨h1,h2⟩|⟨g,cap,a3,h1,-,-,h2,-⟩
  .rw[h2];exact Nat.zero_le _
  .simp only[Value.slice.injEq,true_and]at h1;rw[h1.2];exact h2
 refine⟨a0,hl,λhne=>?_,λx hx=>⟨hr x hx,hst x hx⟩⟩;obtain⟨g,c',hA,a1,a2⟩:=h.form (List.length_pos_iff.2 hne);simp only[Value.slice.injEq,true_and]at hA;obtain⟨rfl,rfl⟩:=hA;refine⟨g,0,rfl,Nat.le_trans h0 a1,a2,λi x hx j u hu=>?_⟩;have:=World.ownsRow.cells h (g:=g) rfl (i*17+j) u (zp2 hx hu);rwa [zbi,<-Nat.add_assoc]at this
def zyp:Prop:=∀{w:World} {lo hi lo' hi':Nat} {PA:Option Addr} {pc:Nat} {ps:List Int} {CA:Option Addr} {cc:Nat} {cuts:List Int} {TA:Option Addr} {tc:Nat} {ths:List (Int×Tg)} {MA:Option Addr} {mc:Nat} {made:List Int} {last:Int}
 {yPA:Option Addr} {ypc:Nat} {yCA:Option Addr} {ycc:Nat} {yTA:Option Addr} {ytc:Nat} {yths:List (Int×Tg)} {yMA:Option Addr} {ymc:Nat}
 (_hx:WRow w lo hi PA pc ps CA cc cuts TA tc ths MA mc made) (_hh:hi<=w.heap.size) (_hy:WRow w lo' hi' yPA ypc ps yCA ycc cuts yTA ytc yths yMA ymc made) (_hh':hi'<=w.heap.size) (_hpl:(ths.map λx=>(x.1,x.2.pl))=yths.map λx=>(x.1,x.2.pl)),
 Calls Tryz.prog 80 #[.agg #[.slice PA ps.length pc,.slice CA cuts.length cc,.slice TA ths.length tc,.int .i64 last,.slice MA made.length mc],.agg #[.slice yPA ps.length ypc,.slice yCA cuts.length ycc,.slice yTA yths.length ytc,.int .i64 last,.slice yMA made.length ymc]] w λe w'=>e= .returned (.bool true)/\Fr No w w'
def zzn (cs:Array Value):Nat->List Value->Array Value
 |_,[]=>cs
 |o,u::us=>zzn (cs.setIfInBounds o u) (o+1) us
theorem zbn {w:World} {g:Nat} {t:TypeId} {cs us:Array Value} (h:Blk w g t cs):Blk (World.setRow w g us) g t us:=by
 unfold Blk at*;exact Go.setRow_heap w g cs us t _ h
theorem zb0 (w:World) (g:Nat) (us:Array Value):Fr (λi=>i=g) w (World.setRow w g us):=
 ⟨rfl,rfl,rfl,by rw[Go.setRow_size];exact Nat.le_refl _,λb _ hn=>Go.setRow_other w g b us hn⟩
structure RwT (w:World) (wb lo hi:Nat) (TA:Option Addr) (tc:Nat) (ths:List (Int×Tg)):Prop where
 c2:w.cell? ⟨wb,2,none⟩=some (.slice TA ths.length tc)
 lt:wb<w.heap.size
 row:EnRow w lo hi TA tc ths
 hh:hi<=w.heap.size
theorem RwT.no {w w':World} {wb lo hi:Nat} {TA:Option Addr} {tc:Nat} {ths:List (Int×Tg)} (h:RwT w wb lo hi TA tc ths) (f:Fr No w w'):RwT w' wb lo hi TA tc ths:=
 ⟨(f.cell h.lt λh=>h).trans h.c2,Nat.lt_of_lt_of_le h.lt f.size,h.row.no f h.hh,Nat.le_trans h.hh f.size⟩
theorem zam:(Tryz.prog.info? 138).map (·.size)=some 16:=k_
theorem zae (x:Tg):x.cells.toArray.size=16:=by simp[Tg.cells_len]
theorem zaq (x:Tg):x.cells.toArray.all (·.oneCell')=true:=all_oneCell_toArray (Tg.cells_one x)
theorem zal:Tg.zero.cells.toArray=#[.int .u8 0,.int .i64 0,.int .u8 0,.int .i64 0,.string ⟨#[]⟩,.slice none 0 0,.int .i64 0,.slice none 0 0,.int .i64 0,.int .i64 0,.int .i64 0,.int .i64 0,.int .u8 0,.bool false,.slice none 0 0,.slice none 0 0]:=rfl
theorem EnRow.elem {w:World} {lo hi:Nat} {A:Option Addr} {cap:Nat} {l:List (Int×Tg)} (h:EnRow w lo hi A cap l) {j:Nat} (hj:j<l.length):
 ∃b o,A=some ⟨b,o,none⟩/\lo<=b/\b<hi/\w.cell? ⟨b,o+j*17,none⟩=some (.int .i64 l[j].1)/\w.rangeAt b (o+j*17+1) l[j].2.cells/\w.rangeAt b (o+j*17) (zc9 l[j]):=by
 obtain⟨b,o,hA,h0,h1,hc⟩:=h.at_ (by rintro rfl;simp at hj);refine⟨b,o,hA,h0,h1,hc j _ (List.getElem?_eq_getElem hj) 0 _ rfl,λk u hu=>?_,λk u hu=>?_⟩
 .have:=hc j _ (List.getElem?_eq_getElem hj) (k+1) u (by simpa using hu);rwa [show o+j*17+1+k=o+j*17+(k+1) by omega]
 .exact hc j _ (List.getElem?_eq_getElem hj) k u hu
theorem Blk.range {w:World} {g:Nat} {t:TypeId} {cs:List Value} (h:Blk w g t cs.toArray):w.rangeAt g 0 cs:=λj u hu=>by
 rw[Nat.zero_add];exact(h.cell j).trans (by simpa using hu)
theorem zds {fn:Func} {p u:Tmp} (h:fn.results=#[.cell p 138,.tmp u]) (tmps:Array Value) (w:World) (g:Nat) (t:TypeId) (x:Tg)
 (hp:tmps.getD p undef= .pointer (some ⟨g,0,none⟩)) (hg:Blk w g t x.cells.toArray) (v:Value) (hv:tmps.getD u undef=v):
 (results fn tmps).run Tryz.prog w= .ok (.tuple #[x.val,v]) w:=by
 have e:=run_loadVar_mid w g 0 138 x.cells _ hg.range Tryz.underlying138 r_ (by rw[Tg.cells_len];exact zam);rw[results_cell_tmp h,hp];simp[asAddr,Result.andThen,e,<-hv];rfl
theorem ztn {wb lo hi:Nat} {TA:Option Addr} {tc:Nat} {ths:List (Int×Tg)} {w:World} (h:RwT w wb lo hi TA tc ths) (r:Int):
 Calls Tryz.prog 124 #[.pointer (some ⟨wb,0,none⟩),.int .i64 r] w λe w'=>e= .returned (.tuple #[(atT ths r).val,.bool (zcz ths r).isSome])/\Fr No w w':=by
 have b0:=h.row.len;have HH:=zaa h;obtain⟨c2,hlt,-,-⟩:=h;have a2:=Blk.new w 138 Tg.zero.cells.toArray;have a4:=(Fr.refl No w).alloc (.cells Tg.zero.cells.toArray 138);have a1:=zaa a2;have a0:=zaa a4;clear a2 a4;go_enter Tryz.func124,Tryz.ntmps124;go_upto_region 1 with(fail);rw[<-zal];generalize b1:World.alloc w _=W0 at*;have b7:=(a0.out.cell hlt λh=>h).trans c2;have a9:=Nat.lt_of_lt_of_le hlt a0.out.size;clear c2 hlt b1;go_wp2_with fail;go_loopw [6] (λv wr=>∃j:Nat,j<=ths.length/\v= .int .i64 j/\wr=W0/\Hid (∀i x,i<j->ths[i]? =some x->x.1≠r)) (λv _=>ths.length - (intOf v).toNat)
 case atStart=>exact⟨0,Nat.zero_le _,rfl,rfl,zaa λi x hi=>by omega⟩
 case round=>
  obtain⟨j,hj,rfl,rfl,HN⟩:=hrel;by_cases hlt:j<ths.length
  case neg=>
   obtain rfl:ths.length=j:=o_;go_wp2_with (first|(refine wpList_build r_ 138 #[] r_ k_ ?_)|(refine wpList_store_row r_ 138 (.tmp 4) (.tmp 34) r_ w.heap.size Tg.zero.cells.toArray r_ k_ _ _ a1.out zam rfl (zaq _) ?_));refine bodyPost_ret (zds rfl _ _ w.heap.size _ Tg.zero rfl (zbn (us:=Tg.zero.cells.toArray) a1.out) _ rfl) rfl ⟨?_,?_⟩
   .have hn:=zr7 HN.out;unfold atT;rw[hn];rfl
   .exact a0.out.trans' (zb0 _ _ _) λi hi h=>by have h':i=w.heap.size:=h;omega
  case pos=>
   obtain⟨b,o,rfl,a2,b5,b4,a5,-⟩:=(HH.out.no a0.out).row.elem hlt;have b6:b<wr.heap.size:=by have:=HH.out.hh;have:=a0.out.size;omega
   have a8:=zaa a5;clear a5;by_cases he:ths[j].1=r
   .have HG:=zaa (zvh hlt (λi x hi=>HN.out i x hi) he);have b3:(ths[j].1==r)=true:=by simpa using he
    generalize ths[j].1=rj at*;have a3:=zaq ths[j].2;generalize a7:ths[j].2=xj at*;clear he a7 HN;go_wp2_with (first|(refine wpList_load_mid r_ 138 (.tmp 32) r_ b (o+j*17+1) r_ xj.cells _ a8.out Tryz.underlying138 r_ (by rw[Tg.cells_len];exact zam) ?_)|(refine wpList_store_row r_ 138 (.tmp 4) (.tmp 33) r_ w.heap.size xj.cells.toArray r_ r_ _ _ a1.out (zam.trans (by rw[zae])) (by rw[zae,zae]) a3 ?_));refine bodyPost_ret (zds rfl _ _ w.heap.size _ xj rfl (zbn (us:=xj.cells.toArray) a1.out) _ rfl) rfl ⟨?_,?_⟩
    .unfold atT;rw[HG.out];rfl
    .exact a0.out.trans' (zb0 _ _ _) λi hi h=>by have h':i=w.heap.size:=h;omega
   .have b3:(ths[j].1==r)=false:=by simpa using he
    have a6:Hid (∀i x,i<j+1->ths[i]? =some x->x.1≠r):=zaa λi x hi hx=>by
     by_cases b2:i=j
     .subst b2;rw[List.getElem?_eq_getElem hlt]at hx;injection hx with hx
      rw[<-hx];exact he
     .exact HN.out i x o_ hx
    generalize ths[j].1=rj at*;clear he HN;go_wp2_with fail;go_roundw
    case rel=>exact⟨j+1,hlt,by go_num,trivial,a6⟩
    case measure=>simp[intOf];omega
theorem za9 (k:Int) (w:World):Calls Tryz.prog 178 #[.int .i64 k] w λe w'=>e= .returned (.bool (zb8 k))/\w'=w:=by
 by_cases h1:k=14
 .subst h1;go_enter Tryz.func178,Tryz.ntmps178;go_wp2;go_ret;exact⟨rfl,rfl⟩
 have e1:(k==14)=false:=by simpa using h1
 by_cases h2:k=15
 .subst h2;go_enter Tryz.func178,Tryz.ntmps178;go_wp2;go_ret;exact⟨rfl,rfl⟩
 have e2:(k==15)=false:=by simpa using h2
 by_cases h3:k=16
 .subst h3;go_enter Tryz.func178,Tryz.ntmps178;go_wp2;go_ret;exact⟨rfl,rfl⟩
 have e3:(k==16)=false:=by simpa using h3
 rw[show zb8 k=false by simp[zb8,h1,h2,h3]];clear h1 h2 h3;go_enter Tryz.func178,Tryz.ntmps178;go_wp2;go_ret;exact⟨rfl,rfl⟩
theorem Tg.cell_at (x:Tg):x.cells[0]? =some (.int .u8 x.kind)/\x.cells[1]? =some (.int .i64 x.home)/\x.cells[8]? =some (.int .i64 x.n)/\x.cells[9]? =some (.int .i64 x.lost)/\x.cells[10]? =some (.int .i64 x.ofr)/\x.cells[11]? =some (.int .i64 x.byr)/\x.cells[12]? =some (.int .u8 x.set)/\x.cells[13]? =some (.bool x.full):=by
 obtain⟨kind,home,⟨k,n,s,A,cap,l,r⟩,VA,vc,vs,n1,lost,ofr,byr,set,full,CA,cc,a1,NA,nc,a0⟩:=x;exact⟨rfl,rfl,rfl,rfl,rfl,rfl,rfl,rfl⟩
theorem Blk.tg {w:World} {g:Nat} {t:TypeId} {x:Tg} (h:Blk w g t x.cells.toArray):
 w.cell? ⟨g,0,none⟩=some (.int .u8 x.kind)/\w.cell? ⟨g,1,none⟩=some (.int .i64 x.home)/\w.cell? ⟨g,10,none⟩=some (.int .i64 x.ofr)/\w.cell? ⟨g,11,none⟩=some (.int .i64 x.byr)/\w.cell? ⟨g,12,none⟩=some (.int .u8 x.set)/\w.cell? ⟨g,13,none⟩=some (.bool x.full):=by
 have e:∀i,w.cell? ⟨g,i,none⟩=x.cells[i]? :=λi=>(h.cell i).trans s_;obtain⟨a0,a1,-,-,a3,a5,a4,a2⟩:=x.cell_at;exact⟨(e 0).trans a0,(e 1).trans a1,(e 10).trans a3,(e 11).trans a5,(e 12).trans a4,(e 13).trans a2⟩
theorem zsc:Tg.zero.Fit:=⟨by decide,by decide,by decide,by decide,by decide,by decide,by decide⟩
theorem RwT.fit {w:World} {wb lo hi:Nat} {TA:Option Addr} {tc:Nat} {ths:List (Int×Tg)} (h:RwT w wb lo hi TA tc ths) (r:Int):(atT ths r).Fit:=by
 unfold atT;cases hg:zcz ths r with
 |none=>exact zsc
 |some x=>exact(h.row.inn _ (zcg hg)).2.fit
theorem ztp {wb lo hi:Nat} {TA:Option Addr} {tc:Nat} {ths:List (Int×Tg)} {w:World} (h:RwT w wb lo hi TA tc ths) (r:Int):
 Calls Tryz.prog 129 #[.pointer (some ⟨wb,0,none⟩),.int .i64 r] w λe w'=>e= .returned (.int .i64 (zc5 ths r))/\Fr No w w':=by
 have HA:=zaa (ztn h r);have a4:=(h.fit r).kind;unfold zc5;generalize atT ths r=x at*;generalize (zcz ths r).isSome=q at*;clear h;go_enter Tryz.func129,Tryz.ntmps129;go_wp2_with fail;refine HA.out.mono ?_;rintro e w1 ⟨rfl,f1⟩;have a0:=zaa f1;have a3:=zaa (f1.alloc (.cells Tg.zero.cells.toArray 138));have a2:=zaa (Blk.new w1 138 Tg.zero.cells.toArray);rw[zal]at a3;clear f1;go_upto_region 2 with(refine wpList_store_row r_ 138 (.tmp 5) (.tmp 11) r_ w1.heap.size x.cells.toArray r_ r_ _ _ a2.out (zam.trans (by rw[zae])) (by rw[zae,zae]) (zaq x) ?_);rw[<-zal]at*;have a0:=zaa (a3.out.trans' (zb0 _ w1.heap.size x.cells.toArray) λi hi h=>by have h':i=w1.heap.size:=h;have:=a0.out.size;omega);have a1:=zaa (zbn (us:=x.cells.toArray) a2.out);generalize a5:World.setRow _ _ _=W1 at*;have hg:=a1.out.lt;generalize w1.heap.size=g at*;obtain⟨c0,-⟩:=a1.out.tg;go_wp2;go_ret;exact⟨rfl,a0.out⟩
def zhh (m:Gm) (L:List Int) (k:Int):Prop:=∃o∈L,∃y,m.get o=some y/\y.2.kind=6/\y.2.ofr=k
structure US (m:Gm) (W0:World) (g2 g7 g8 g9 gm gk:Nat) (A:Option Addr) (c:Nat) (L Lm Lk:List Int) (me ke:List (Int×Bool)) (W:World):Prop where
 fr:Fr No W0 W
 b2:Blk W g2 31 #[.pointer (some ⟨m.wb,0,none⟩)]
 b7:Blk W g7 54 #[.slice A L.length c]
 b8:Blk W g8 102 #[.map (some gm)]
 b9:Blk W g9 102 #[.map (some gk)]
 met:zea Value.bool W gm me
 keys:zea Value.bool W gk ke
 row:W.ownsRow W0.heap.size 22 1 (.slice A L.length c) L.length (zak L)
 g0:W0.heap.size<=g2/\W0.heap.size<=g7/\W0.heap.size<=g8/\W0.heap.size<=g9/\W0.heap.size<=gm/\W0.heap.size<=gk
 ne:gm≠gk/\g8≠g9
 hm:∀r,(zd7 me r=some true↔r∈Lm)/\zd7 me r≠some false
 hk:∀k,(zd7 ke k=some true↔zhh m Lk k)/\zd7 ke k≠some false
section
variable {m:Gm} {W0 W W':World} {g2 g7 g8 g9 gm gk:Nat} {A:Option Addr} {c:Nat} {L Lm Lk:List Int} {me ke:List (Int×Bool)} {r:Int}
theorem zea.heap {α:Type} {enc:α->Value} {B:Nat} {l:List (Int×α)} (h:zea enc W B l):∃es cl,W.heap[B]? =some (.map es cl):=by
 obtain⟨es,cl,hm,-⟩:=h;exact⟨es,cl,hm⟩
theorem Blk.nemap {α:Type} {enc:α->Value} {g B:Nat} {t:TypeId} {cs:Array Value} {l:List (Int×α)} (h:Blk W g t cs) (k:zea enc W B l):g≠B:=by
 rintro rfl;obtain⟨es,cl,hm⟩:=k.heap;unfold Blk at h;rw[h]at hm;cases hm
theorem US.no (h:US m W0 g2 g7 g8 g9 gm gk A c L Lm Lk me ke W) (f:Fr No W W'):US m W0 g2 g7 g8 g9 gm gk A c L Lm Lk me ke W':=
 ⟨h.fr.trans f,h.b2.fr f λh=>h,h.b7.fr f λh=>h,h.b8.fr f λh=>h,h.b9.fr f λh=>h,h.met.fr f λh=>h,h.keys.fr f λh=>h,zaf h.row f λ_ _ h=>h,h.g0,h.ne,h.hm,h.hk⟩
theorem zxl (W:World):(zeroValue 4).run Tryz.prog W= .ok (.bool false) W:=r_
theorem zhi {B:Nat} {l:List (Int×Bool)} (h:zea Value.bool W B l) {P:Prop} (n:Int) (hp:(zd7 l n=some true↔P)/\zd7 l n≠some false) {q:Bool} (hq:q=true↔P):
 (Instr.lookup 102 (.map (some B)) (.int .i64 n) false).run Tryz.prog W= .ok (.bool q) W:=by
 have hl:=(zow (t:=102) (el:=4) h Tryz.underlying22 Tryz.underlying102 (zxl W) n).1;have e:((zd7 l n).map Value.bool).getD (.bool false)= .bool q:=by
  cases hg:zd7 l n with
  |none=>
   have:q=false:=by
    cases hb:q with
    |false=>rfl
    |true=>
     have:=hp.1.2 (hq.1 hb);rw[hg]at this;cases this
   rw[this];rfl
  |some b=>
   cases b with
   |false=>exact absurd hg hp.2
   |true=>rw[hq.2 (hp.1.1 hg)];rfl
 rw[e]at hl;exact hl
theorem zj4 {l:List (Int×Bool)} (hn:(l.map Prod.fst).Nodup) {P P':Int->Prop} {r:Int} (h:∀k,(zd7 l k=some true↔P k)/\zd7 l k≠some false) (hP:∀k,P' k↔P k\/k=r):
 ∀k,(zd7 (zh0 l r true) k=some true↔P' k)/\zd7 (zh0 l r true) k≠some false:=λk=>by
 rw[zjp hn];by_cases hk:k=r
 .rw[if_pos hk];exact⟨⟨λ_=>(hP k).2 (.inr hk),λ_=>rfl⟩,by simp⟩
 .rw[if_neg hk];refine⟨(h k).1.trans ⟨λh=>(hP k).2 (.inl h),λh=>((hP k).1 h).resolve_right hk⟩,(h k).2⟩
theorem US.putM (h:US m W0 g2 g7 g8 g9 gm gk A c L Lm Lk me ke W) (r:Int):∃W',(Instr.mapUpdate 102 (.map (some gm)) (.int .i64 r) (.bool true)).run Tryz.prog W= .ok () W'/\US m W0 g2 g7 g8 g9 gm gk A c L (Lm++[r]) Lk (zh0 me r true) ke W'/\Fr (λi=>i=gm) W W':=by
 obtain⟨W',hu,a0,f⟩:=zij (t:=102) (enc:=Value.bool) h.met Tryz.underlying22 Tryz.underlying102 r true;refine⟨W',hu,⟨h.fr.trans' f λi hi e=>by have e':i=gm:=e;have:=h.g0;omega,h.b2.fr f (h.b2.nemap h.met),h.b7.fr f (h.b7.nemap h.met),h.b8.fr f (h.b8.nemap h.met),h.b9.fr f (h.b9.nemap h.met),a0,h.keys.fr f (Ne.symm h.ne.1),zaf h.row f λq hq e=>?_,h.g0,h.ne,zj4 h.met.nodup h.hm λk=>by simp,h.hk⟩,f⟩;obtain⟨cs,hc⟩:=zao h.row hq;exact hc.nemap h.met e
theorem zst {r:Int} {y:Nat×Tg} (hy:m.get r=some y) (ky:y.2.kind=6) (k:Int):zhh m (Lk++[r]) k↔zhh m Lk k\/k=y.2.ofr:=by
 unfold zhh;constructor
 .rintro⟨o,ho,z,hz,kz,e⟩;rcases List.mem_append.1 ho with ho|ho
  .exact .inl ⟨o,ho,z,hz,kz,e⟩
  .simp only[List.mem_singleton]at ho;subst ho;rw[hy]at hz;injection hz with hz
   subst hz;exact .inr e.symm
 .rintro(⟨o,ho,z,hz,kz,e⟩|rfl)
  .exact⟨o,List.mem_append_left _ ho,z,hz,kz,e⟩
  .exact⟨r,by simp,y,hy,ky,rfl⟩
theorem zsu {r:Int} {y:Nat×Tg} (hy:m.get r=some y) (ky:y.2.kind≠6) (k:Int):zhh m (Lk++[r]) k↔zhh m Lk k:=by
 unfold zhh;constructor
 .rintro⟨o,ho,z,hz,kz,e⟩;rcases List.mem_append.1 ho with ho|ho
  .exact⟨o,ho,z,hz,kz,e⟩
  .simp only[List.mem_singleton]at ho;subst ho;rw[hy]at hz;injection hz with hz
   subst hz;exact absurd kz ky
 .rintro⟨o,ho,z,hz,kz,e⟩;exact⟨o,List.mem_append_left _ ho,z,hz,kz,e⟩
theorem US.putK (h:US m W0 g2 g7 g8 g9 gm gk A c L Lm Lk me ke W) {r:Int} {y:Nat×Tg} (hy:m.get r=some y) (ky:y.2.kind=6):∃W',(Instr.mapUpdate 102 (.map (some gk)) (.int .i64 y.2.ofr) (.bool true)).run Tryz.prog W= .ok () W'/\US m W0 g2 g7 g8 g9 gm gk A c L Lm (Lk++[r]) me (zh0 ke y.2.ofr true) W'/\Fr (λi=>i=gk) W W':=by
 obtain⟨W',hu,a0,f⟩:=zij (t:=102) (enc:=Value.bool) h.keys Tryz.underlying22 Tryz.underlying102 y.2.ofr true;refine⟨W',hu,⟨h.fr.trans' f λi hi e=>by have e':i=gk:=e;have:=h.g0;omega,h.b2.fr f (h.b2.nemap h.keys),h.b7.fr f (h.b7.nemap h.keys),h.b8.fr f (h.b8.nemap h.keys),h.b9.fr f (h.b9.nemap h.keys),h.met.fr f h.ne.1,a0,zaf h.row f λq hq e=>?_,h.g0,h.ne,h.hm,zj4 h.keys.nodup h.hk λk=>zst hy ky k⟩,f⟩;obtain⟨cs,hc⟩:=zao h.row hq;exact hc.nemap h.keys e
theorem US.skipK (h:US m W0 g2 g7 g8 g9 gm gk A c L Lm Lk me ke W) {r:Int} {y:Nat×Tg} (hy:m.get r=some y) (ky:y.2.kind≠6):US m W0 g2 g7 g8 g9 gm gk A c L Lm (Lk++[r]) me ke W:=
 ⟨h.fr,h.b2,h.b7,h.b8,h.b9,h.met,h.keys,h.row,h.g0,h.ne,h.hm,λk=>⟨(h.hk k).1.trans (zsu hy ky k).symm,(h.hk k).2⟩⟩
theorem US.rowK (h:US m W0 g2 g7 g8 g9 gm gk A c L Lm Lk me ke W) {base n:Nat} {v:Value} {xs:List Value} (hr:W.ownsRow base 22 1 v n xs) (hne:∀q,v.ownBlock=some q->(Value.slice A L.length c).ownBlock≠some q) (f:Fr (λi=>(Value.slice A L.length c).ownBlock=some i\/i=g7\/i=gm\/i=gk) W W'):W'.ownsRow base 22 1 v n xs:=
 zaf hr f λq hq e=>by
  obtain⟨cs,hc⟩:=zao hr hq;rcases e with e|e|e|e
  .exact hne q hq e
  .exact Blk.ne_ hc h.b7 d_ e
  .exact hc.nemap h.met e
  .exact hc.nemap h.keys e
theorem US.app (h:US m W0 g2 g7 g8 g9 gm gk A c L Lm Lk me ke W) {A':Option Addr} {c':Nat} (hk:zmq W W0.heap.size 22 1 L.length 1 (.slice A L.length c) (zak L) [.int .i64 r] A' c' W'):
 US m W0 g2 g7 g8 g9 gm gk A' c' (L++[r]) Lm Lk me ke (W'.setCell ⟨g7,0,none⟩ (.slice A' (L.length+1) c'))/\Fr (λi=>(Value.slice A L.length c).ownBlock=some i\/i=g7\/i=gm\/i=gk) W (W'.setCell ⟨g7,0,none⟩ (.slice A' (L.length+1) c')):=by
 have e:(L++[r]).length=L.length+1:=s_;have f1:Fr (λi=>(Value.slice A L.length c).ownBlock=some i) W W':=hk.fr;have f2:Fr (λi=>i=g7) W' (W'.setCell ⟨g7,0,none⟩ (.slice A' (L.length+1) c')):=(Fr.refl (λi=>i=g7) W').set (λ_=>rfl) _;have n1:∀{g:Nat} {t:TypeId} {cs:Array Value},Blk W g t cs->22≠t->¬(Value.slice A L.length c).ownBlock=some g:=λhb ht e=>zag h.row hb ht e rfl;have nm:∀{B:Nat} {l:List (Int×Bool)},zea Value.bool W B l->¬(Value.slice A L.length c).ownBlock=some B:=λhmp e=>by
  obtain⟨cs,hc⟩:=zao h.row e;exact hc.nemap hmp rfl
 have b7:=h.b7.fr f1 (n1 h.b7 d_);have b2:=h.b2.fr f1 (n1 h.b2 d_);have b8:=h.b8.fr f1 (n1 h.b8 d_);have b9:=h.b9.fr f1 (n1 h.b9 d_);have a1:=h.met.fr f1 (nm h.met);have a0:=h.keys.fr f1 (nm h.keys);refine⟨⟨(h.fr.trans' f1 λi hi e=>by have:=(zaj h.row i e).1;omega).trans' f2 λi hi e=>by have e':i=g7:=e;have:=h.g0;omega,b2.fr f2 λe=>Blk.ne_ b2 b7 d_ e,?_,b8.fr f2 λe=>Blk.ne_ b8 b7 d_ e,b9.fr f2 λe=>Blk.ne_ b9 b7 d_ e,a1.fr f2 λe=>b7.nemap a1 e.symm,a0.fr f2 λe=>b7.nemap a0 e.symm,?_,h.g0,h.ne,h.hm,h.hk⟩,(f1.mono λi _ e=>.inl e).trans' f2 λi _ e=>.inr (.inl e)⟩
 .have:=b7.set_ 0 (.slice A' (L.length+1) c');rw[e];simpa using this
 .rw[e,show zak (L++[r])=zak L++[.int .i64 r] by simp[zak]];exact zaf hk.1 f2 λq hq e=>zag hk.1 b7 d_ hq e
end
def AFr (g7 gm gk:Nat) (sl:Value) (W wr:World) (sl':Value):Prop:=Fr (λi=>sl.ownBlock=some i\/i=g7\/i=gm\/i=gk) W wr/\∀q,sl'.ownBlock=some q->sl.ownBlock=some q\/W.heap.size<=q
theorem AFr.step {g7 gm gk:Nat} {sl sl' sl2:Value} {W wr w2:World} (h:AFr g7 gm gk sl W wr sl') (f:Fr (λi=>sl'.ownBlock=some i\/i=g7\/i=gm\/i=gk) wr w2) (hn:∀q,sl2.ownBlock=some q->sl'.ownBlock=some q\/wr.heap.size<=q):AFr g7 gm gk sl W w2 sl2:=by
 refine⟨h.1.trans' f λi hi e=>?_,λq hq=>?_⟩
 .rcases e with e|e
  .rcases h.2 i e with e|e
   .exact .inl e
   .omega
  .exact .inr e
 .rcases hn q hq with e|e
  .exact h.2 q e
  .have:=h.1.size;exact .inr o_
theorem zty {m:Gm} {lo:Nat} {W0 W:World} {g2 g7 g8 g9 gm gk:Nat} {A:Option Addr} {c:Nat} {L:List Int} {me ke:List (Int×Bool)} (h0:m.Ok lo W0) (hmy:∀r x,m.get r=some x->x.2.Mays)
 (us:US m W0 g2 g7 g8 g9 gm gk A c L L L me ke W) (base:Nat) (AM:Option Addr) (cm:Nat) (M:List Int) (hM:W.ownsRow base 22 1 (.slice AM M.length cm) M.length (zak M)) (hne:∀q,(Value.slice AM M.length cm).ownBlock=some q->(Value.slice A L.length c).ownBlock≠some q)
 (hall:∀r∈M,(m.get r).isSome=true) (hlen:L.length<=1000000/\M.length<=1000000) (hnd:∀L':List Int,(∀r∈L',(m.get r).isSome=true)->L'.Nodup->L'.length<=1000000) (hLn:L.Nodup) (hLa:∀r∈L,(m.get r).isSome=true):
 Calls Tryz.prog 94 #[.slice AM M.length cm,.pointer (some ⟨g8,0,none⟩),.pointer (some ⟨g7,0,none⟩),.pointer (some ⟨g2,0,none⟩),.pointer (some ⟨g9,0,none⟩)] W λe w'=>e= .returned (.tuple #[])/\∃A' c' a5 a4,US m W0 g2 g7 g8 g9 gm gk A' c' (zd6 L M) (zd6 L M) (zd6 L M) a5 a4 w'/\AFr g7 gm gk (.slice A L.length c) W w' (.slice A' (zd6 L M).length c'):=by
 have e6:=zaa (λ(w':World) (f:Fr No W0 w')=>h0.no f);have g5:=zaa us;have d5:=zaa hM;have g4:=zaa hne;have b1:=zaa hall;have h9:=zaa hmy;have g3:=zaa hnd;have e7:=zaa hLn;have e8:=zaa hLa;obtain⟨i1,i2⟩:=hlen;clear h0 us hM hne hall hmy hnd hLn hLa;go_enter Tryz.func94,Tryz.ntmps94;go_wp2_with fail;go_loopw [12] (λi wr=>∃(j:Nat) (A':Option Addr) (c':Nat) (a5 a4:List (Int×Bool)),j<=M.length/\i= .int .i64 j/\Hid (US m W0 g2 g7 g8 g9 gm gk A' c' (zd6 L (M.take j)) (zd6 L (M.take j)) (zd6 L (M.take j)) a5 a4 wr)/\Hid (wr.ownsRow base 22 1 (.slice AM M.length cm) M.length (zak M))/\Hid (∀q,(Value.slice AM M.length cm).ownBlock=some q->(Value.slice A' (zd6 L (M.take j)).length c').ownBlock≠some q)/\Hid (AFr g7 gm gk (.slice A L.length c) W wr (.slice A' (zd6 L (M.take j)).length c'))) (λi _=>M.length - (intOf i).toNat)
 case atStart=>exact⟨0,A,c,me,ke,Nat.zero_le _,rfl,g5,d5,g4,zaa ⟨Fr.refl _ _,λq h=>.inl h⟩⟩
 case round=>
  obtain⟨j,A',c',a5,a4,hj,rfl,HU,a6,HN,b3⟩:=hrel;by_cases hlt:j<M.length
  case neg=>
   obtain rfl:M.length=j:=o_;go_wp2;go_end0
   have h1:=HU.out;have h2:=b3.out;rw[List.take_length]at h1 h2;exact⟨rfl,A',c',a5,a4,h1,h2⟩
  obtain⟨gM,cM,d0,b6,c2⟩:=a6.out.form o_;have f1:AM=some ⟨gM,0,none⟩:=by
   simp only[Value.slice.injEq,true_and]at d0;exact d0.1
  subst f1;have hx:wr.cell? ⟨gM,j,none⟩=some (.int .i64 M[j]):=by
   have:=World.ownsRow.cells a6.out (g:=gM) rfl j (.int .i64 M[j]) (by simp[zak,hlt]);rwa [zbi,Nat.zero_add]at this
  have f0:=zaa (b1.out _ (List.getElem_mem hlt));have c4:Hid (zd6 L (M.take (j+1))=if M[j]∈zd6 L (M.take j)then zd6 L (M.take j)else zd6 L (M.take j)++[M[j]]):=zaa (by rw[List.take_succ_eq_append_getElem hlt,zj3]);have e1:=zd4 L (M.take j) e7.out;have e2:∀r∈zd6 L (M.take j),(m.get r).isSome=true:=λr hr=>by
   rcases(zbx L (M.take j) r).1 hr with h|h
   .exact e8.out r h
   .exact b1.out r (List.mem_of_mem_take h)
  have i6:=g3.out _ e2 e1;have i5:=d5;generalize M[j]=r at*;generalize zd6 L (M.take j)=L1 at*;obtain⟨L2,c9⟩:∃L2,zd6 L (M.take (j+1))=L2:=⟨_,rfl⟩;have a0:=zaa c9;rw[c9]at c4;clear c9;obtain⟨q,hq⟩:∃q:Bool,q=true↔r∈L1:=by
   by_cases h:r∈L1
   .exact⟨true,by simp[h]⟩
   .exact⟨false,by simp[h]⟩
  have HQ:=zaa hq;have e9:=zhi HU.out.met r (HU.out.hm r) hq;have z8:wr.cell? ⟨g8,0,none⟩=some (.map (some gm)):=HU.out.b8.cell 0;have g1:=HU.out.b8.lt;clear d0 b6 e1 e2 hq;cases q
  case true=>
   have c7:L2=L1:=c4.out.trans (if_pos (HQ.out.1 (by first|exact trivial|rfl)));subst c7;go_wp2_with fail;go_roundw
   case rel=>exact⟨j+1,A',c',a5,a4,hlt,by go_num,by rw[a0.out];exact HU,a6,by rw[a0.out];exact HN,by rw[a0.out];exact b3⟩
   case measure=>simp[intOf];omega
  case false=>
   have c7:L2=L1++[r]:=c4.out.trans (if_neg λh=>by have:=HQ.out.2 h;cases this);subst c7;obtain⟨w2,hu,a2,f2⟩:=HU.out.putM r;have e3:=zaa a2;have a7:=zaa (HU.out.rowK a6.out HN.out (f2.mono λi _ e=>.inr (.inr (.inl e))));have d8:=zaa (f2.mono (S':=λi=>(Value.slice A' L1.length c').ownBlock=some i\/i=g7\/i=gm\/i=gk) λi _ e=>.inr (.inr (.inl e)));have z7:w2.cell? ⟨g7,0,none⟩=some (.slice A' L1.length c'):=a2.b7.cell 0;have h5:=a2.b7.frozen 0;have f6:=a2.b7.lt;have z2:w2.cell? ⟨g2,0,none⟩=some (.pointer (some ⟨m.wb,0,none⟩)):=a2.b2.cell 0;have b4:=a2.b2.lt;clear a2 f2;go_upto_region 5 with(fail);clear e9 hu z8 g1 hx c2;have c3:=(Fr.refl No w2).alloc (.cells #[.int .i64 r] 22);have a1:=zaa (e3.out.no c3);have c8:=zaa (zaf a7.out c3 λ_ _ h=>h);have e4:=zaa ((Blk.new w2 22 #[.int .i64 r]).lies (cs:=[.int .i64 r]) (by simp[Value.oneCell']));clear c3;go_upto_region 6 with(first|(at_builtin;refine zbf _ r_ _ _ zgc r_ W0.heap.size _ L1.length _ r_ a1.out.row w2.heap.size (w2.heap.size+1) (some ⟨w2.heap.size,0,none⟩) 1 1 _ r_ e4.out o_ o_ a1.out.fr.size ?_;intro A5 c5 w5 hk;have HK:=zaa hk;have y7:=(a1.out.b7.fr hk.fr λe=>zag a1.out.row a1.out.b7 d_ e rfl);have f4:w5.cell? ⟨g7,0,none⟩=some (.slice A' L1.length c'):=y7.cell 0;have h6:=y7.frozen 0;have h3:=y7.lt;clear hk y7));try simp only[Act.put,lp_]
   obtain⟨e5,f5⟩:=a1.out.app HK.out;have a8:=zaa (a1.out.rowK c8.out HN.out f5);have d3:Hid (∀q,(Value.slice (some ⟨gM,0,none⟩) M.length cm).ownBlock=some q->(Value.slice A5 (L1++[r]).length c5).ownBlock≠some q):=zaa λq hq e=>by
    rw[List.length_append]at e;rcases HK.out.2.2 q e with h|h
    .exact HN.out q hq h
    .have:=(zaj c8.out q hq).2;omega
   have h4:=zaa ((d8.out.alloc (.cells #[.int .i64 r] 22)).trans f5);have d7:Hid (∀q,(Value.slice A5 (L1++[r]).length c5).ownBlock=some q->(Value.slice A' L1.length c').ownBlock=some q\/wr.heap.size<=q):=zaa λq e=>by
    rw[List.length_append]at e;rcases HK.out.2.2 q e with h|h
    .exact .inl h
    .have:=(d8.out.alloc (.cells #[.int .i64 r] 22)).size;exact .inr o_
   have a3:=zaa e5;clear e5 f5 f4 h6 h3 z7 h5 f6 z2 b4 a1 c8 e4 HK a7 a6 e3;generalize World.setCell w5 _ _=w6 at*;obtain⟨x,hx⟩:=Option.isSome_iff_exists.1 f0.out;have HX:=zaa hx;have HW:=zaa (zgg (e6.out w6 a3.out.fr) hx (h9.out r x hx));have z2:w6.cell? ⟨g2,0,none⟩=some (.pointer (some ⟨m.wb,0,none⟩)):=a3.out.b2.cell 0;have b4:=a3.out.b2.lt;have i4:=((e6.out w6 a3.out.fr).st _ (Gm.get_mem hx)).inn.fit;clear hx;go_wp2_with fail;refine HW.out.mono ?_;rintro e w7 ⟨y,d4,rfl,-,f7⟩;have g6:y.kind=x.2.kind:=congrArg TgV.kind d4;have g0:y.ofr=x.2.ofr:=congrArg TgV.ofr d4;have c1:=zaa (f7.alloc (.cells Tg.zero.cells.toArray 138));have c6:=zaa (Blk.new w7 138 Tg.zero.cells.toArray);have d9:=zaa f7;rw[zal]at c1;clear f7 d4 z2 b4;go_upto_region 7 with(refine wpList_store_row r_ 138 (.tmp 8) (.tmp 29) r_ w7.heap.size y.cells.toArray r_ r_ _ _ c6.out (zam.trans (by rw[zae])) (by rw[zae,zae]) (zaq y) ?_);rw[<-zal]at*;have f8:Fr No w6 (World.setRow (w7.alloc (.cells Tg.zero.cells.toArray 138)) w7.heap.size y.cells.toArray):=c1.out.trans' (zb0 _ w7.heap.size y.cells.toArray) λi hi h=>by have h':i=w7.heap.size:=h;have:=d9.out.size;omega
   have b0:=zaa (a3.out.no f8);have a9:=zaa (zaf a8.out f8 λ_ _ h=>h);have b5:=zaa (zbn (us:=y.cells.toArray) c6.out);have d6:=zaa (h4.out.trans (f8.mono λ_ _ h=>h.elim));clear f8 c1 c6 d9 HW a3 a8;generalize f3:World.setRow _ _ _=w8 at*;have hg:=b5.out.lt;generalize w7.heap.size=g at*;obtain⟨c0,-,h8,-,-,-⟩:=b5.out.tg;rw[g6]at c0;rw[g0]at h8;clear f3 b5;by_cases k6:x.2.kind=6
   .obtain⟨w9,i0,e0,f9⟩:=b0.out.putK HX.out k6;have d2:=zaa e0;have d1:=zaa (b0.out.rowK a9.out d3.out (f9.mono λi _ e=>.inr (.inr (.inr e))));have z9:w8.cell? ⟨g9,0,none⟩=some (.map (some gk)):=b0.out.b9.cell 0;have i7:=b0.out.b9.lt;rw[k6]at c0;have h7:=zaa (d6.out.trans (f9.mono λi _ e=>.inr (.inr (.inr e))));clear e0 f9;generalize x.2.ofr=xo at*;go_wp2_with fail;go_roundw
    case rel=>exact⟨j+1,A5,c5,_,_,hlt,by go_num,by rw[a0.out];exact d2,d1,by rw[a0.out];exact d3,by rw[a0.out];exact zaa (b3.out.step h7.out d7.out)⟩
    case measure=>simp[intOf];omega
   .have i3:(x.2.kind==6)=false:=by simpa using k6
    have d2:=zaa (b0.out.skipK HX.out k6);generalize x.2.kind=kd at*;go_wp2_with fail;go_roundw
    case rel=>exact⟨j+1,A5,c5,_,_,hlt,by go_num,by rw[a0.out];exact d2,a9,by rw[a0.out];exact d3,by rw[a0.out];exact zaa (b3.out.step d6.out d7.out)⟩
    case measure=>simp[intOf];omega
section
variable {m:Gm} {lo:Nat} {W:World}
theorem zfs {w:World} {base:Nat} {A:Option Addr} {cap:Nat} {L:List Int} (h:w.ownsRow base 22 1 (.slice A L.length cap) L.length (L.map λr=>Value.int .i64 r)) {j:Nat} (hj:j<L.length):∃g,A=some ⟨g,0,none⟩/\g<w.heap.size/\w.cell? ⟨g,j,none⟩=some (.int .i64 L[j]):=by
 obtain⟨g,c,hA,a0,a1⟩:=h.form o_;simp only[Value.slice.injEq,true_and]at hA;obtain⟨rfl,rfl⟩:=hA;have:=World.ownsRow.cells h (g:=g) rfl j (.int .i64 L[j]) (by simp[hj]);rw[zbi,Nat.zero_add]at this;exact⟨g,rfl,(zaj h g rfl).2,this⟩
def zhj (m:Gm) (L:List Int):Int:=if L.all λr=>(m.get r).isSome then 0 else 5
theorem zf5 (h:m.Ok lo W) (t:T) (hi:Nat) (ht:t.In W 0 hi) (hhi:hi<=W.heap.size):
 Calls Tryz.prog 87 #[.pointer (some ⟨m.wb,0,none⟩),t.val] W λe w'=>e= .returned (.int .i64 (zhj m t.v.refs))/\Fr No W w':=by
 have hR:=λW' (f:Fr No W W')=>zdv t W' 0 hi (ht.no f hhi) (Nat.le_trans hhi f.size);have a7:=zc1 t.v;obtain⟨k,n,s,A,cap,l,r⟩:=t;rw[T.val_mk]at*;generalize (T.mk k n s A cap l r).v.refs=L at*;have a5:=zaa h;have HR:=zaa hR;have a3:=(Fr.refl No W).alloc (.cells #[.int .u8 k,.int .i64 n,.string s,.slice A l.length cap,.int .i64 r] 28);have a4:=zaa a3;clear h hR ht hhi a3;go_enter Tryz.func87,Tryz.ntmps87;go_wp2_with fail;generalize World.alloc W _=W0 at*;refine(HR.out W0 a4.out).mono ?_;rintro e w1 ⟨v,rfl,a0,f1⟩;obtain⟨A1,c1,rfl⟩:=za8 a0;have a2:=zaa a0;have a1:=zaa (a4.out.trans f1);clear a0 f1;go_wp2_with fail;go_loopw [10] (λi wr=>∃j:Nat,j<=L.length/\i= .int .i64 j/\wr=w1/\Hid (∀r∈L.take j,(m.get r).isSome=true)) (λi _=>L.length - (intOf i).toNat)
 case atStart=>exact⟨0,Nat.zero_le _,rfl,rfl,zaa λr hr=>by simp at hr⟩
 case round=>
  obtain⟨j,hj,rfl,rfl,HA⟩:=hrel;by_cases hlt:j<L.length
  .obtain⟨b,rfl,a6,e0⟩:=zfs a2.out hlt;have hI:=zf9 (a5.out.no a1.out) L[j];obtain⟨q,hq⟩:∃q,(m.get L[j]).isSome=q:=⟨_,rfl⟩;have HQ:=zaa hq;rw[hq]at hI;have HI:=zaa hI;have HJ:=zaa (List.getElem_mem hlt);have HT:=zaa (List.take_succ_eq_append_getElem hlt);generalize L[j]=u at*;clear hI hq;go_wp2_with fail;refine HI.out.mono ?_;rintro e w2 ⟨rfl,rfl⟩;cases q with
   |true=>
    go_wp2;go_roundw
    case rel=>exact⟨j+1,hlt,by go_num,trivial,zaa λr hr=>by
     rw[HT.out]at hr;rcases List.mem_append.1 hr with hr|hr
     .exact HA.out r hr
     .simp only[List.mem_singleton]at hr;rw[hr];exact HQ.out⟩
    case measure=>simp[intOf];omega
   |false=>
    go_wp2;go_ret;have e5:zhj m L=5:=by
     unfold zhj;refine if_neg λhall=>?_;have:=List.all_eq_true.1 hall u HJ.out;rw[HQ.out]at this;cases this
    rw[e5];exact⟨rfl,a1.out⟩
  .obtain rfl:L.length=j:=o_;go_wp2;go_ret;have e0:zhj m L=0:=by
    unfold zhj;refine if_pos ?_;have:=HA.out;rw[List.take_length]at this;exact List.all_eq_true.2 this
   rw[e0];exact⟨rfl,a1.out⟩
end
theorem zsq (p:Option Addr) (cap:Nat) (w:World):Calls Tryz.prog 218 #[.slice p 0 cap,.int .i64 0,.int .i64 0] w λe w'=>e= .returned (.tuple #[])/\w'=w:=by
 go_enter Tryz.func218,Tryz.ntmps218;go_wp2_with fail;refine wp_loop_rounds 1 ?_;rw[rounds_succ];go_wp2;go_end0
 exact⟨rfl,rfl⟩
theorem zsr (p:Option Addr) (cap:Nat) (w:World):Calls Tryz.prog 166 #[.slice p 0 cap,.int .i64 0,.int .i64 0,.int .i64 0] w λe w'=>e= .returned (.tuple #[])/\w'=w:=by
 have H:=zsq p cap w;go_enter Tryz.func166,Tryz.ntmps166;go_wp2_with fail;refine wp_loop_rounds 1 ?_;rw[rounds_succ];go_wp2_with fail;refine H.mono ?_;rintro e w' ⟨rfl,rfl⟩;go_wp2;refine bodyPost_ret (results_none rfl _ _ _) rfl ?_;exact⟨rfl,rfl⟩
theorem zv1 (w:World):Calls Tryz.prog 228 #[.int .u64 0] w λe w'=>e= .returned (.int .i64 0)/\w'=w:=by
 go_enter Tryz.func228,Tryz.ntmps228;go_wp2;go_ret;exact⟨by kernel_rfl,rfl⟩
theorem zyr (w:World):Calls Tryz.prog 167 #[.int .u64 0] w λe w'=>e= .returned (.int .i64 0)/\w'=w:=by
 have H:=zv1 w;go_enter Tryz.func167,Tryz.ntmps167;go_wp2_with fail;refine H.mono ?_;rintro e w' ⟨rfl,rfl⟩;go_wp2;go_ret;exact⟨rfl,rfl⟩
theorem zp4 (p:Option Addr) (cap:Nat) (w:World):Calls Tryz.prog 96 #[.slice p 0 cap] w λe w'=>e= .returned (.tuple #[])/\w'=w:=by
 have H:=zyr w;have H2:=zsr p cap w;go_enter Tryz.func96,Tryz.ntmps96;go_wp2_with fail;refine H.mono ?_;rintro e w' ⟨rfl,rfl⟩;go_wp2_with fail;refine H2.mono ?_;rintro e w' ⟨rfl,rfl⟩;go_wp2;go_end0
 exact⟨rfl,rfl⟩
section
variable {m:Gm} {W W0 W':World} {g2 g7 g8 g9 gm gk gO:Nat} {A A':Option Addr} {c c':Nat} {L L' Lm Lk L0:List Int} {me ke me' ke' oe:List (Int×Bool)} {r:Int}
structure OS (m:Gm) (W:World) (g2 g7 g8 g9 gm gk gO:Nat) (L0:List Int) (A:Option Addr) (c:Nat) (L:List Int) (me ke oe:List (Int×Bool)) (wr:World):Prop where
 us:US m W g2 g7 g8 g9 gm gk A c L L L me ke wr
 om:zea Value.bool wr gO oe
 nd:L.Nodup
 al:∀r∈L,(m.get r).isSome=true
 un:∀r∈L,Unl m L0 r
 ba:∀r∈L0,r∈L
 ho:∀r,(zd7 oe r=some true↔r∈oe.map Prod.fst)/\zd7 oe r≠some false
 ol:∀r∈oe.map Prod.fst,r∈L
 cl:∀b∈oe.map Prod.fst,∀x,m.get b=some x->∀q∈x.2.v.v.refs,q∈L
 g0:W.heap.size<=gO/\gO≠gm/\gO≠gk
theorem US.frO (h:US m W0 g2 g7 g8 g9 gm gk A c L Lm Lk me ke W) {oe:List (Int×Bool)} (om:zea Value.bool W gO oe) (h0:W0.heap.size<=gO) (hm:gO≠gm) (hk:gO≠gk) (f:Fr (λi=>i=gO) W W'):US m W0 g2 g7 g8 g9 gm gk A c L Lm Lk me ke W':=
 ⟨h.fr.trans' f λi hi e=>by have e':i=gO:=e;omega,h.b2.fr f (h.b2.nemap om),h.b7.fr f (h.b7.nemap om),h.b8.fr f (h.b8.nemap om),h.b9.fr f (h.b9.nemap om),h.met.fr f (Ne.symm hm),h.keys.fr f (Ne.symm hk),zaf h.row f λq hq e=>by
  obtain⟨cs,hc⟩:=zao h.row hq;exact hc.nemap om e,h.g0,h.ne,h.hm,h.hk⟩
theorem OS.no (h:OS m W g2 g7 g8 g9 gm gk gO L0 A c L me ke oe W') {w:World} (f:Fr No W' w):OS m W g2 g7 g8 g9 gm gk gO L0 A c L me ke oe w:=
 ⟨h.us.no f,h.om.fr f λh=>h,h.nd,h.al,h.un,h.ba,h.ho,h.ol,h.cl,h.g0⟩
theorem zsv {m:Gm} {r:Int} (h:(m.get r).isSome=true):r∈m.th.map Prod.fst:=by
 obtain⟨x,hx⟩:=Option.isSome_iff_exists.1 h;exact List.mem_map.2 ⟨_,Gm.get_mem hx,rfl⟩
theorem zk5 {m:Gm} {L:List Int} (h:∀r∈L,(m.get r).isSome=true) (hn:L.Nodup):L.length<=m.th.length:=by
 have:=zen hn λr hr=>zsv (h r hr);simpa using this
theorem OS.len (h:OS m W g2 g7 g8 g9 gm gk gO L0 A c L me ke oe W'):oe.length<=m.th.length:=by
 have:=zk5 (λr hr=>h.al r (h.ol r hr)) h.om.nodup;simpa using this
theorem OS.done (h:OS m W g2 g7 g8 g9 gm gk gO L0 A c L me ke oe W') (hc:∀b∈L,∀x,m.get b=some x->x.2.kind=7->zhh m L x.2.ofr->b∈oe.map Prod.fst):∀r,r∈L↔Unl m L0 r:=λ_r=>
 zxj h.ba h.un λb hb o ho x y hx kx hy ky e q hq=>h.cl b (hc b hb x hx kx ⟨o,ho,y,hy,ky,e⟩) x hx q hq
theorem OS.opened (h:OS m W g2 g7 g8 g9 gm gk gO L0 A c L me ke oe W') {x:Nat×Tg} (hr:r∈L) (hx:m.get r=some x) (kx:x.2.kind=7) (hk:zhh m L x.2.ofr) (hn:r∉oe.map Prod.fst) (hin:∀q∈x.2.v.v.refs,(m.get q).isSome=true) {w1 w2:World}
 (f1:Fr (λi=>i=gO) W' w1) (om1:zea Value.bool w1 gO (zh0 oe r true)) (us:US m W g2 g7 g8 g9 gm gk A' c' (zd6 L x.2.v.v.refs) (zd6 L x.2.v.v.refs) (zd6 L x.2.v.v.refs) me' ke' w2) (f2:AFr g7 gm gk (.slice A L.length c) w1 w2 (.slice A' (zd6 L x.2.v.v.refs).length c')):
 OS m W g2 g7 g8 g9 gm gk gO L0 A' c' (zd6 L x.2.v.v.refs) me' ke' (zh0 oe r true) w2:=by
 have a1:=h.us.frO h.om h.g0.1 h.g0.2.1 h.g0.2.2 f1;have a0:(zh0 oe r true).map Prod.fst=oe.map Prod.fst++[r]:=by rw[zez,if_neg hn]
 refine⟨us,om1.fr f2.1 ?_,zd4 _ _ h.nd,λq hq=>?_,λq hq=>?_,λq hq=>(zbx _ _ _).2 (.inl (h.ba q hq)),λq=>?_,λq hq=>?_,λb hb y hy q hq=>?_,h.g0⟩
 .rintro(e|e|e|e)
  .obtain⟨cs,hc⟩:=zao a1.row e;exact hc.nemap om1 rfl
  .exact a1.b7.nemap om1 e.symm
  .exact h.g0.2.1 e
  .exact h.g0.2.2 e
 .rcases(zbx _ _ _).1 hq with hq|hq
  .exact h.al q hq
  .exact hin q hq
 .rcases(zbx _ _ _).1 hq with hq|hq
  .exact h.un q hq
  .obtain⟨o,ho,y,hy,ky,e⟩:=hk;exact .box (h.un r hr) hx kx (h.un o ho) hy ky e hq
 .rw[zjp h.om.nodup,a0];by_cases e:q=r
  .rw[if_pos e,e];simp
  .rw[if_neg e];refine⟨(h.ho q).1.trans ?_,(h.ho q).2⟩;rw[List.mem_append,List.mem_singleton];exact⟨λh=>.inl h,λh=>h.resolve_right e⟩
 .rw[a0]at hq;rcases List.mem_append.1 hq with hq|hq
  .exact(zbx _ _ _).2 (.inl (h.ol q hq))
  .simp only[List.mem_singleton]at hq;rw[hq];exact(zbx _ _ _).2 (.inl hr)
 .rw[a0]at hb;rcases List.mem_append.1 hb with hb|hb
  .exact(zbx _ _ _).2 (.inl (h.cl b hb y hy q hq))
  .simp only[List.mem_singleton]at hb;subst hb;rw[hx]at hy;injection hy with hy
   subst hy;exact(zbx _ _ _).2 (.inr hq)
def opN (g:Nat) (w:World):Nat:=match w.heap[g]? with
 |some (.map es _)=>es.size
 |_=>0
theorem zea.opN {w:World} {B:Nat} {l:List (Int×Bool)} (h:zea Value.bool w B l):opN B w=l.length:=by
 obtain⟨es,cl,hm,hs,-,-⟩:=h;unfold Proofs.YtlejelbefmkakaaGreat.opN;rw[hm];have:=hs.1;simpa using this
theorem US.start {w4:World} (h2:Blk w4 g2 31 #[.pointer (some ⟨m.wb,0,none⟩)]) (f:Fr No W w4) (hg:W.heap.size<=g2) {w5:World} (hw:((((((w4.alloc (.cells #[.slice none 0 0] 54)).alloc (.map #[] 0)).alloc (.cells #[.map (some (w4.heap.size+1))] 102)).alloc (.map #[] 0)).alloc (.cells #[.map (some (w4.heap.size+1+1+1))] 102)).alloc (.map #[] 0))=w5):
 US m W g2 w4.heap.size (w4.heap.size+1+1) (w4.heap.size+1+1+1+1) (w4.heap.size+1) (w4.heap.size+1+1+1) none 0 [] [] [] [] [] w5/\zea Value.bool w5 (w4.heap.size+1+1+1+1+1) []:=by
 subst hw;have hs:=f.size;have f1:∀(w:World) (o:Obj),Fr No w (w.alloc o):=λw o=>(Fr.refl No w).alloc o;have s1:∀(w:World) (o:Obj),(w.alloc o).heap.size=w.heap.size+1:=λw o=>by simp
 have fa:=((((((f.alloc (.cells #[.slice none 0 0] 54)).alloc (.map #[] 0)).alloc (.cells #[.map (some (w4.heap.size+1))] 102)).alloc (.map #[] 0)).alloc (.cells #[.map (some (w4.heap.size+1+1+1))] 102)).alloc (.map #[] 0));generalize h5:w4.alloc (.cells #[.slice none 0 0] 54)=w5 at*;have b7:Blk w5 w4.heap.size 54 #[.slice none 0 0]:=by rw[<-h5];exact Blk.new _ _ _
 have z5:w5.heap.size=w4.heap.size+1:=by rw[<-h5];exact s1 _ _
 have a3:Blk w5 g2 31 #[.pointer (some ⟨m.wb,0,none⟩)]:=by rw[<-h5];exact h2.alloc _
 have e1:w5.heap.size=w4.heap.size+1:=z5;have m6:zea Value.bool (w5.alloc (.map #[] 0)) (w4.heap.size+1) []:=by rw[<-e1];exact zea.made w5
 generalize h6:w5.alloc (.map #[] 0)=w6 at*;have z6:w6.heap.size=w4.heap.size+1+1:=by rw[<-h6,s1,z5]
 have f6:Fr No w5 w6:=by rw[<-h6];exact f1 _ _
 generalize h7:w6.alloc (.cells #[.map (some (w4.heap.size+1))] 102)=w7 at*;have b8:Blk w7 (w4.heap.size+1+1) 102 #[.map (some (w4.heap.size+1))]:=by rw[<-h7];exact Blk.new' _ _ _ z6
 have z7:w7.heap.size=w4.heap.size+1+1+1:=by rw[<-h7,s1,z6]
 have f7:Fr No w6 w7:=by rw[<-h7];exact f1 _ _
 have m8:zea Value.bool (w7.alloc (.map #[] 0)) (w4.heap.size+1+1+1) []:=by rw[<-z7];exact zea.made w7
 generalize h8:w7.alloc (.map #[] 0)=w8 at*;have z8:w8.heap.size=w4.heap.size+1+1+1+1:=by rw[<-h8,s1,z7]
 have f8:Fr No w7 w8:=by rw[<-h8];exact f1 _ _
 generalize h9:w8.alloc (.cells #[.map (some (w4.heap.size+1+1+1))] 102)=w9 at*;have b9:Blk w9 (w4.heap.size+1+1+1+1) 102 #[.map (some (w4.heap.size+1+1+1))]:=by rw[<-h9];exact Blk.new' _ _ _ z8
 have z9:w9.heap.size=w4.heap.size+1+1+1+1+1:=by rw[<-h9,s1,z8]
 have f9:Fr No w8 w9:=by rw[<-h9];exact f1 _ _
 have a1:zea Value.bool (w9.alloc (.map #[] 0)) (w4.heap.size+1+1+1+1+1) []:=by rw[<-z9];exact zea.made w9
 generalize a2:w9.alloc (.map #[] 0)=w10 at*;have a0:Fr No w9 w10:=by rw[<-a2];exact f1 _ _
 have g9:=f9.trans a0;have g8:=f8.trans g9;have g7:=f7.trans g8;have g6:=f6.trans g7;refine⟨⟨fa,a3.fr g6 λh=>h,b7.fr g6 λh=>h,b8.fr g8 λh=>h,b9.fr a0 λh=>h,m6.fr g7 λh=>h,m8.fr g9 λh=>h,World.ownsRow_nil _ _ _ _,⟨by omega,by omega,by omega,by omega,by omega,by omega⟩,⟨by omega,by omega⟩,λr=>⟨by simp[zd7],by simp[zd7]⟩,λk=>⟨⟨by simp[zd7],λ⟨o,ho,_⟩=>by cases ho⟩,by simp[zd7]⟩⟩,a1⟩
end
theorem zyt {w:World} {base:Nat} {A:Option Addr} {c:Nat} {L:List Int} (HSORT:Hid SortRefs) (h:w.ownsRow base 22 1 (.slice A L.length c) L.length (zak L)) (hl:L.length<=1000000) (hn:L.Nodup):
 Calls Tryz.prog 96 #[.slice A L.length c] w λe w'=>e= .returned (.tuple #[])/\∃K:List Int,w'.ownsRow base 22 1 (.slice A L.length c) K.length (zak K)/\K.Pairwise (· < ·)/\(∀r,r∈K↔r∈L)/\Fr (λi=>(Value.slice A L.length c).ownBlock=some i) w w':=by
 by_cases h0:L=[]
 .subst h0;refine(zp4 A c w).mono ?_;rintro e w' ⟨rfl,rfl⟩;exact⟨rfl,[],h,by simp,by simp,Fr.refl _ _⟩
 .have hp:0<L.length:=List.length_pos_iff.2 h0;obtain⟨g,c2,hv,-,-⟩:=h.form hp;simp only[Value.slice.injEq,true_and]at hv;obtain⟨rfl,rfl⟩:=hv;refine(HSORT.out g c L w (zj1 h).1 (zj1 h).2 o_).mono ?_;rintro e w' ⟨rfl,n,os,rfl⟩;refine⟨rfl,_,znh (n:=n) (os:=os) h (List.Perm.refl L),?_,λr=>(List.mergeSort_perm L _).mem_iff,?_⟩
  .have hs:(L.mergeSort λx y=>decide (x<=y)).Pairwise (λa b=>decide (a<=b)=true):=List.pairwise_mergeSort (λa b c h1 h2=>by simp at*;omega) (λa b=>by simp;omega) L;have hd:(L.mergeSort λx y=>decide (x<=y)).Nodup:=(List.mergeSort_perm L _).nodup_iff.2 hn;have a0:=List.nodup_iff_pairwise_ne.1 hd;exact(hs.and a0).imp λ⟨h1,h2⟩=>by
    simp at h1;omega
  .exact(zja (grownBy_sortedI (w:=w) (g:=g) (n:=n) (os:=os) (L.mergeSort λx y=>decide (x<=y)).toArray)).mono λi _ e=>by
    simp only[Value.ownBlock];exact e.symm
theorem Blk.tgv {w:World} {g:Nat} {t:TypeId} {x:Tg} (h:Blk w g t x.cells.toArray) {k n:Int} {s:ByteArray} {A:Option Addr} {cap:Nat} {l:List T} {r:Int} (hv:x.v=T.mk k n s A cap l r):
 w.cell? ⟨g,2,none⟩=some (.int .u8 k)/\w.cell? ⟨g,3,none⟩=some (.int .i64 n)/\w.cell? ⟨g,4,none⟩=some (.string s)/\w.cell? ⟨g,5,none⟩=some (.slice A l.length cap)/\w.cell? ⟨g,6,none⟩=some (.int .i64 r):=by
 have e:∀i,w.cell? ⟨g,i,none⟩=x.cells[i]? :=λi=>(h.cell i).trans s_;obtain⟨a0,a1,v,VA,vc,vs,n2,a2,a3,a4,a5,a6,CA,cc,a8,NA,nc,a7⟩:=x;simp only at hv;subst hv;exact⟨e 2,e 3,e 4,e 5,e 6⟩
theorem zp7 (P:Prop):∃q:Bool,q=true↔P:=by
 by_cases h:P
 .exact⟨true,by simp[h]⟩
 .exact⟨false,by simp[h]⟩
def zv3 (m:Gm) (may:Bool) (A:List Int) (W:World) (e:Ending) (w':World):Prop:=
 (may=false/\e= .returned (.tuple #[.slice none 0 0,.int .i64 2])/\Fr No W w')\/
 (may=true/\(¬∀r∈A,(m.get r).isSome=true)/\e= .returned (.tuple #[.slice none 0 0,.int .i64 5])/\Fr No W w')\/
 (may=true/\(∀r∈A,(m.get r).isSome=true)/\∃(v:Value) (L:List Int),e= .returned (.tuple #[v,.int .i64 0])/\w'.ownsRow W.heap.size 22 1 v L.length (zak L)/\L.Pairwise (· < ·)/\(∀r,r∈L↔Unl m A r)/\Fr No W w')
theorem zj5 {m:Gm} {lo:Nat} {W:World} (h:m.Ok lo W) (hmy:∀r x,m.get r=some x->x.2.Mays) (HSORT:Hid SortRefs) (t:T) (hi:Nat) (ht:t.In W 0 hi) (hhi:hi<=W.heap.size)
 (hin:∀b x,m.get b=some x->∀q∈x.2.v.v.refs,(m.get q).isSome=true):
 Calls Tryz.prog 25 #[.pointer (some ⟨m.wb,0,none⟩),t.val] W (zv3 m t.v.may t.v.refs W):=by
 have hM:=λW' (f:Fr No W W')=>zca t W' 0 hi (ht.no f hhi) (Nat.le_trans hhi f.size);have hR:=λW' (f:Fr No W W')=>zdv t W' 0 hi (ht.no f hhi) (Nat.le_trans hhi f.size);have hS:=λW' (f:Fr No W W')=>zf5 (h.no f) t hi (ht.no f hhi) (Nat.le_trans hhi f.size);have n9:=zc1 t.v;obtain⟨k,n,s,A,cap,l,r⟩:=t;rw[T.val_mk]at*;generalize (T.mk k n s A cap l r).v.refs=L0 at*;generalize (T.mk k n s A cap l r).v.may=mb at*;have h7:=((Fr.refl No W).alloc (.cells #[.pointer (some ⟨m.wb,0,none⟩)] 31)).alloc (.cells #[.int .u8 k,.int .i64 n,.string s,.slice A l.length cap,.int .i64 r] 28);have b8:=zaa h7;have j2:=zaa (zlj (h.no h7));have e8:=(Blk.new W 31 #[.pointer (some ⟨m.wb,0,none⟩)]).fr ((Fr.refl No (W.alloc (.cells #[.pointer (some ⟨m.wb,0,none⟩)] 31))).alloc (.cells #[.int .u8 k,.int .i64 n,.string s,.slice A l.length cap,.int .i64 r] 28)) λh=>h;have i2:=Blk.new (W.alloc (.cells #[.pointer (some ⟨m.wb,0,none⟩)] 31)) 28 #[.int .u8 k,.int .i64 n,.string s,.slice A l.length cap,.int .i64 r];have e6:=zaa h;have HM:=zaa hM;have HR:=zaa hR;have HS:=zaa hS;have i5:=zaa hmy;have l1:=zaa hin;have z1:(W.alloc (.cells #[.pointer (some ⟨m.wb,0,none⟩)] 31)).heap.size=W.heap.size+1:=s_;clear h hM hR hS hmy hin ht h7;go_enter Tryz.func25,Tryz.ntmps25;have z2:=e8.cell 0;simp only[List.getElem?_toArray,List.getElem?_cons_zero]at z2;have q2:=e8.lt;go_wp2_with fail;go_step3;go_wp2_with fail;rw[z1]at i2;generalize World.alloc (World.alloc W _) _=W2 at*;have i8:=zaa e8;have a9:=zaa i2;clear e8 i2 z1 z2;have q3:W.heap.size+1<W2.heap.size:=a9.out.lt;have y0:=a9.out.cell 0;have y1:=a9.out.cell 1;have y2:=a9.out.cell 2;have y3:=a9.out.cell 3;have y4:=a9.out.cell 4;simp only[List.getElem?_toArray,List.getElem?_cons_zero,List.getElem?_cons_succ]at y0 y1 y2 y3 y4;refine j2.out.mono ?_;rintro e w3 ⟨rfl,rfl⟩;go_wp2_with fail;refine(HM.out _ b8.out).mono ?_;rintro e w3 ⟨rfl,f3⟩;have e9:=zaa (b8.out.trans f3);have b3:=zaa (i8.out.fr f3 λh=>h);have a1:=zaa (a9.out.fr f3 λh=>h);clear f3 y0 y1 y2 y3 y4 q3 q2;cases mb with
 |false=>
  go_wp2;rw[Exit.noGoto_ret];exact bodyPost_ret (v:=.tuple #[.slice none 0 0,.int .i64 2]) (by simp[results,Tryz.results25,go_sem, *]) rfl (.inl ⟨rfl,rfl,e9.out⟩)
 |true=>
 have q3:W.heap.size+1<w3.heap.size:=a1.out.lt;have q2:W.heap.size<w3.heap.size:=o_;have z2:=b3.out.cell 0;have y0:=a1.out.cell 0;have y1:=a1.out.cell 1;have y2:=a1.out.cell 2;have y3:=a1.out.cell 3;have y4:=a1.out.cell 4;simp only[List.getElem?_toArray,List.getElem?_cons_zero,List.getElem?_cons_succ]at z2 y0 y1 y2 y3 y4;go_wp2_with fail;refine(HS.out _ e9.out).mono ?_;rintro e w4 ⟨rfl,f4⟩;have c3:=zaa (e9.out.trans f4);have e4:=zaa (b3.out.fr f4 λh=>h);have d0:=zaa (a1.out.fr f4 λh=>h);clear f4 z2 y0 y1 y2 y3 y4 q3 q2;by_cases a4:∀r∈L0,(m.get r).isSome=true
 case neg=>
  have e5:zhj m L0=5:=by
   unfold zhj;exact if_neg λh=>a4 (List.all_eq_true.1 h)
  rw[e5];have l5:=zaa a4;clear a4;go_wp2;rw[Exit.noGoto_ret];exact bodyPost_ret (v:=.tuple #[.slice none 0 0,.int .i64 5]) (by simp[results,Tryz.results25,go_sem, *]) rfl (.inr (.inl ⟨rfl,l5.out,rfl,c3.out⟩))
 have e0:zhj m L0=0:=by
  unfold zhj;exact if_pos (List.all_eq_true.2 a4)
 rw[e0];have b6:=zaa a4;clear a4 e0;have m5:=@run_makeMap Tryz.prog;go_upto_region 13 with(fail);clear m5;have f2:=zaa (((((((Fr.refl No w4).alloc (.cells #[.slice none 0 0] 54)).alloc (.map #[] 0)).alloc (.cells #[.map (some (w4.heap.size+1))] 102)).alloc (.map #[] 0)).alloc (.cells #[.map (some (w4.heap.size+1+1+1))] 102)).alloc (.map #[] 0));obtain⟨k3,j7⟩:=US.start e4.out c3.out (Nat.le_refl _) rfl;have k1:=zaa k3;have k0:=zaa j7;have g4:Hid (W.heap.size<=w4.heap.size+1+1+1+1+1/\w4.heap.size+1+1+1+1+1≠w4.heap.size+1/\w4.heap.size+1+1+1+1+1≠w4.heap.size+1+1+1):=zaa (by have:=c3.out.size;omega);clear k3 j7;generalize World.alloc (World.alloc (World.alloc (World.alloc (World.alloc (World.alloc w4 _) _) _) _) _) _=w5 at*;have a3:=zaa (d0.out.fr f2.out λh=>h);have d8:=zaa (c3.out.trans f2.out);have q3:W.heap.size+1<w5.heap.size:=a3.out.lt;have y0:=a3.out.cell 0;have y1:=a3.out.cell 1;have y2:=a3.out.cell 2;have y3:=a3.out.cell 3;have y4:=a3.out.cell 4;simp only[List.getElem?_toArray,List.getElem?_cons_zero,List.getElem?_cons_succ]at y0 y1 y2 y3 y4;have o1:=zaa c3.out.size;clear f2 d0 e4 c3 e9 b8 i8 a9 b3 a1 j2 HM HS;generalize w4.heap.size+1+1+1+1+1=gO at*;generalize w4.heap.size+1+1+1+1=g9 at*;generalize w4.heap.size+1+1+1=gk at*;generalize w4.heap.size+1+1=g8 at*;generalize w4.heap.size+1=gm at*;generalize w4.heap.size=g7 at*;go_wp2_with fail;refine(HR.out _ d8.out).mono ?_;rintro e w6 ⟨v,rfl,a0,f6⟩;obtain⟨A1,c1,rfl⟩:=za8 a0;have a8:=zaa a0;have b1:=zaa (k1.out.no f6);have b5:=zaa (k0.out.fr f6 λh=>h);clear a0 f6 y0 y1 y2 y3 y4 q3;go_wp2_with fail;have l0:∀L':List Int,(∀r∈L',(m.get r).isSome=true)->L'.Nodup->L'.length<=1000000:=λL' h1 h2=>Nat.le_trans (zk5 h1 h2) e6.out.len;have h0:=zaa l0;clear l0;refine(zty e6.out i5.out b1.out w5.heap.size A1 c1 L0 a8.out (λq _ e=>by cases e) b6.out ⟨by simp,by omega⟩ h0.out s_ s_).mono ?_;rintro e w7 ⟨rfl,A2,c2,me,ke,j4,f7⟩;have a6:OS m W W.heap.size g7 g8 g9 gm gk gO L0 A2 c2 (zd6 [] L0) me ke [] w7:=by
  refine⟨j4,b5.out.fr f7.1 ?_,zd4 _ _ s_,λr hr=>?_,λr hr=>?_,λr hr=>(zbx _ _ _).2 (.inr hr),λr=>⟨by simp[zd7],by simp[zd7]⟩,λr hr=>(by cases hr),λr hr=>(by cases hr),g4.out⟩
  .rintro(e|e|e|e)
   .cases e
   .exact b1.out.b7.nemap b5.out e.symm
   .exact g4.out.2.1 e
   .exact g4.out.2.2 e
  .rcases(zbx _ _ _).1 hr with hr|hr
   .cases hr
   .exact b6.out r hr
  .rcases(zbx _ _ _).1 hr with hr|hr
   .cases hr
   .exact .base hr
 have j0:Hid (∃A c L me ke oe,OS m W W.heap.size g7 g8 g9 gm gk gO L0 A c L me ke oe w7):=zaa ⟨_,_,_,_,_,_,a6⟩;clear a6 j4 f7 k1 k0 b1 b5 a8 d8 a3 HR A2 c2 me ke;go_wp2_with fail;go_step3;go_wp2_with fail;go_loopw [13] (λ_ wr=>Hid (∃A c L me ke oe,OS m W W.heap.size g7 g8 g9 gm gk gO L0 A c L me ke oe wr)) (λ_ wr=>m.th.length - opN gO wr)
 case atStart=>exact j0
 case round=>
  obtain⟨wo,rfl⟩:∃wo:World,wo=wr:=⟨_,rfl⟩;obtain⟨A5,c5,L,me,ke,oe,a6⟩:=hrel.out;clear hrel j0;have HO:=zaa a6;have hL:=h0.out _ a6.al a6.nd;have z7:wo.cell? ⟨g7,0,none⟩=some (.slice A5 L.length c5):=a6.us.b7.cell 0;have q7:=a6.us.b7.lt;have n2:Hid (opN gO wo=oe.length):=zaa a6.om.opN;clear a6;go_upto_region 14 with(fail);go_wp2_with fail;go_loopw [38] (λi wr=>∃j:Nat,j<=L.length/\i= .int .i64 j/\Hid (Fr No wo wr)/\Hid (∀b∈L.take j,∀x,m.get b=some x->x.2.kind=7->zhh m L x.2.ofr->b∈oe.map Prod.fst)) (λi _=>L.length - (intOf i).toNat)
  case atStart=>exact⟨0,Nat.zero_le _,rfl,zaa (Fr.refl No wo),zaa λb hb=>by simp at hb⟩
  case round=>
   obtain⟨j,hj,rfl,HF,HD⟩:=hrel;by_cases hlt:j<L.length
   case neg=>
    obtain rfl:L.length=j:=o_;have n3:wr.cell? ⟨g7,0,none⟩=some (.slice A5 L.length c5):=(HF.out.cell q7 λh=>h).trans z7;have l2:g7<wr.heap.size:=Nat.lt_of_lt_of_le q7 HF.out.size;have a7:=zaa (HO.out.no HF.out);have k9:=zaa HD.out;clear hlt hj HD HF z7 q7 HO;go_wp2_with fail;refine(zyt HSORT a7.out.us.row hL a7.out.nd).mono ?_;rintro e w8 ⟨rfl,K,hK,i7,l3,f8⟩;have HK:=zaa hK;have m0:=zaa i7;have l9:Hid (∀r,r∈K↔Unl m L0 r):=zaa λr=>(l3 r).trans (a7.out.done (by have:=k9.out;rw[List.take_length]at this;exact this) r);have m2:Hid (Fr No W w8):=zaa (a7.out.us.fr.trans' f8 λi hi e=>by have:=(zaj a7.out.us.row i e).1;omega);have z8:w8.cell? ⟨g7,0,none⟩=some (.slice A5 L.length c5):=(a7.out.us.b7.fr f8 λe=>zag a7.out.us.row a7.out.us.b7 d_ e rfl).cell 0;have q8:g7<w8.heap.size:=Nat.lt_of_lt_of_le l2 f8.size;clear hK i7 l3 f8 n3 l2 a7 k9;go_wp2_with fail;rw[Exit.noGoto_ret];refine bodyPost_ret (v:=.tuple #[.slice A5 L.length c5,.int .i64 0]) (by simp[results,Tryz.results25,go_sem, *]) rfl ?_;exact .inr (.inr ⟨rfl,b6.out,_,K,rfl,HK.out,m0.out,l9.out,m2.out⟩)
   have b0:=zaa (HO.out.no HF.out);obtain⟨gA,rfl,g1,hx⟩:=zfs b0.out.us.row hlt;have d7:=zaa (List.getElem_mem hlt);have HT:=zaa (List.take_succ_eq_append_getElem hlt);have n0:=zaa b0.out.om.lt;obtain⟨x,e2⟩:=Option.isSome_iff_exists.1 (b0.out.al _ d7.out);generalize L[j]=rr at*;have d1:=zaa e2;have HW:=zaa (zgg (e6.out.no b0.out.us.fr) e2 (i5.out rr x e2));have o2:=((e6.out.st _ (Gm.get_mem e2))).inn.fit;have z2:wr.cell? ⟨W.heap.size,0,none⟩=some (.pointer (some ⟨m.wb,0,none⟩)):=b0.out.us.b2.cell 0;have q2:=b0.out.us.b2.lt;have i9:=zaa HF.out;have n4:Hid (oe.length<=m.th.length):=zaa HO.out.len;clear e2 z7 q7 HF HO;go_wp2_with fail;refine HW.out.mono ?_;rintro e w7 ⟨y,f0,rfl,k5,f7⟩;have h5:y.kind=x.2.kind:=congrArg TgV.kind f0;have g2:y.ofr=x.2.ofr:=congrArg TgV.ofr f0;have e7:y.v.v=x.2.v.v:=congrArg TgV.v f0;have b8:=zaa (f7.alloc (.cells Tg.zero.cells.toArray 138));have h6:=zaa (Blk.new w7 138 Tg.zero.cells.toArray);have g6:=zaa f7;have k8:=zaa k5.inn.v;rw[zal]at b8;clear f7 f0 z2 q2 k5 hx g1;go_upto_region 18 with(refine wpList_store_row r_ 138 (.tmp 14) (.tmp 46) r_ w7.heap.size y.cells.toArray r_ r_ _ _ h6.out (zam.trans (by rw[zae])) (by rw[zae,zae]) (zaq y) ?_);rw[<-zal]at*;have d9:Fr No w7 (World.setRow (w7.alloc (.cells Tg.zero.cells.toArray 138)) w7.heap.size y.cells.toArray):=((Fr.refl No w7).alloc _).trans' (zb0 _ w7.heap.size y.cells.toArray) λi hi h=>by have h':i=w7.heap.size:=h;omega
   have a2:=zaa (b0.out.no (g6.out.trans d9));have h9:=zaa (i9.out.trans (g6.out.trans d9));have n1:=zaa (k8.out.no d9 (Nat.le_refl _));have j1:=zaa d9.size;have c6:=zaa (zbn (us:=y.cells.toArray) h6.out);clear d9 b8 h6 g6 HW k8 i9 b0;generalize l7:World.setRow _ _ _=w8 at*;have hg:=c6.out.lt;generalize w7.heap.size=hi8 at*;have c0:=c6.out.tg.1;have f1:=c6.out.tg.2.2.1;rw[h5]at c0;rw[g2]at f1;clear l7;by_cases k7:x.2.kind=7
   case neg=>
    have m6:(x.2.kind==7)=false:=by simpa using k7
    have i4:=zaa k7;clear k7;obtain⟨kd,k2⟩:∃kd,x.2.kind=kd:=⟨_,rfl⟩;rw[k2]at c0 m6;clear k2 f1 h5 g2 e7;go_wp2_with fail;go_roundw
    case rel=>exact⟨j+1,hlt,by go_num,h9,zaa λb hb z hz kz hk=>by
     rw[HT.out]at hb;rcases List.mem_append.1 hb with hb|hb
     .exact HD.out b hb z hz kz hk
     .simp only[List.mem_singleton]at hb;subst hb;rw[d1.out]at hz;injection hz with hz
      subst hz;exact absurd kz i4.out⟩
    case measure=>simp[intOf];omega
   rw[k7]at c0;have i4:=zaa k7;clear k7 h5 g2;obtain⟨q1,h8⟩:∃q:Bool,q=true↔zhh m L x.2.ofr:=zp7 _;have j3:=zaa h8;have e3:=zhi a2.out.us.keys x.2.ofr (a2.out.us.hk x.2.ofr) h8;have z9:w8.cell? ⟨g9,0,none⟩=some (.map (some gk)):=a2.out.us.b9.cell 0;have q9:=a2.out.us.b9.lt;obtain⟨xo,j6⟩:∃xo,x.2.ofr=xo:=⟨_,rfl⟩;rw[j6]at e3 f1;clear h8 j6;cases q1 with
   |false=>
    go_wp2_with fail;go_roundw
    case rel=>exact⟨j+1,hlt,by go_num,h9,zaa λb hb z hz kz hk=>by
     rw[HT.out]at hb;rcases List.mem_append.1 hb with hb|hb
     .exact HD.out b hb z hz kz hk
     .simp only[List.mem_singleton]at hb;subst hb;rw[d1.out]at hz;injection hz with hz
      subst hz;have:=j3.out.2 hk;cases this⟩
    case measure=>simp[intOf];omega
   |true=>
   obtain⟨q3,i3⟩:∃q:Bool,q=true↔rr∈oe.map Prod.fst:=zp7 _;have i6:=zaa i3;have f5:=zhi a2.out.om rr (a2.out.ho rr) i3;clear i3;cases q3 with
   |true=>
    go_wp2_with fail;go_roundw
    case rel=>exact⟨j+1,hlt,by go_num,h9,zaa λb hb z hz kz hk=>by
     rw[HT.out]at hb;rcases List.mem_append.1 hb with hb|hb
     .exact HD.out b hb z hz kz hk
     .simp only[List.mem_singleton]at hb;subst hb;exact i6.out.1 (by first|exact trivial|rfl)⟩
    case measure=>simp[intOf];omega
   |false=>
   obtain⟨w9,hu,j9,f9⟩:=zij (t:=102) (enc:=Value.bool) a2.out.om Tryz.underlying22 Tryz.underlying102 rr true;have i0:=c6.out.fr f9 (c6.out.nemap a2.out.om);have m1:=zaa j9;have m9:=zaa f9;have l4:=zaa (a2.out.us.frO a2.out.om a2.out.g0.1 a2.out.g0.2.1 a2.out.g0.2.2 f9);have j8:Hid (y.v.In w9 wr.heap.size hi8):=zaa (n1.out.fr f9 j1.out λi h1 h2 e=>by have e':i=gO:=e;have:=n0.out;omega);have m8:Hid (hi8<=w9.heap.size):=zaa (Nat.le_trans j1.out f9.size);rcases hyv:y.v with⟨k6,n6,s6,A6,i1,l6,r6⟩;obtain⟨d2,d3,d4,d5,d6⟩:=i0.tgv hyv;have l8:=i0.lt;rw[hyv]at j8 e7;have m3:=zaa e7;clear j9 f9 i0 hyv e7;go_wp2_with fail;refine(zdv (T.mk k6 n6 s6 A6 i1 l6 r6) w9 wr.heap.size hi8 j8.out m8.out).mono ?_;rintro e n7 ⟨v,rfl,a0,g5⟩;rw[m3.out]at a0;obtain⟨A7,c7,rfl⟩:=za8 a0;have a8:=zaa a0;have g3:=zaa (l4.out.no g5);have c9:=zaa g5;have m4:Hid (∀q,(Value.slice A7 x.2.v.v.refs.length c7).ownBlock=some q->(Value.slice (some ⟨gA,0,none⟩) L.length c5).ownBlock≠some q):=zaa λq h1 h2=>by
    have:=(zaj a0 q h1).1;have:=(zaj l4.out.row q h2).2;omega
   have m7:=zc1 x.2.v.v;clear a0 g5 d2 d3 d4 d5 d6 l8 hu c0 f1 e3 f5 z9 q9;go_wp2_with fail;refine(zty e6.out i5.out g3.out w9.heap.size A7 c7 x.2.v.v.refs a8.out m4.out (l1.out rr x d1.out) ⟨hL,by omega⟩ h0.out a2.out.nd a2.out.al).mono ?_;rintro e o0 ⟨rfl,A8,c8,n5,n8,c4,k4⟩;have e1:=zaa c4;have b4:=zaa k4;have j5:Hid (rr∉oe.map Prod.fst):=zaa λh=>by
    have:=i6.out.2 h;cases this
   have a5:=zaa (a2.out.opened d7.out d1.out i4.out (j3.out.1 (by first|exact trivial|rfl)) j5.out (l1.out rr x d1.out) m9.out m1.out e1.out ⟨(c9.out.mono λ_ _ h=>h.elim).trans b4.out.1,λq hq=>(b4.out.2 q hq).imp id λh=>Nat.le_trans c9.out.size h⟩);clear c4 k4 e1 b4 m7;go_wp2_with fail;go_roundw
   case rel=>exact zaa ⟨_,_,_,_,_,_,a5.out⟩
   case measure=>
    have h1:=a5.out.om.opN;have h2:=n2.out;have h3:=a5.out.len;have h4:(zh0 oe rr true).length=oe.length+1:=by
     have:=congrArg List.length (zez (l:=oe) (r:=rr) (v:=true));rw[if_neg j5.out]at this;simpa using this
    omega
structure ApT (w0:World) (A:Option Addr) (c:Nat) (l:List T) (wr:World):Prop where
 row:wr.ownsRow w0.heap.size 28 5 (.slice A l.length c) l.length (zai l)
 inn:∀x∈l,x.In wr w0.heap.size wr.heap.size
 far:∀x∈l,∀b∈x.blocks,(Value.slice A l.length c).ownBlock≠some b
 fr:Fr No w0 wr
 td:∀x∈l,∀b∈x.blocks,∃cs,Blk wr b 28 cs
section
variable {w0 wr w2 w3:World} {A A':Option Addr} {c c':Nat} {l:List T} {y:T}
theorem ApT.start (f:Fr No w0 wr):ApT w0 none 0 [] wr:=⟨World.ownsRow_nil _ _ _ _,by simp,by simp,f,by simp⟩
theorem ApT.no (h:ApT w0 A c l wr) (f:Fr No wr w2):ApT w0 A c l w2:=
 ⟨zaf h.row f λ_ _ h=>h,λx hx=>T.In.more (Nat.le_refl _) f.size x ((h.inn x hx).no f (Nat.le_refl _)),h.far,h.fr.trans f,λx hx b hb=>(h.td x hx b hb).imp λ_ k=>k.fr f λh=>h⟩
theorem ApT.add (h:ApT w0 A c l wr) (f:Fr No wr w2) (hy:y.In w2 wr.heap.size w2.heap.size) (hyt:∀b∈y.blocks,∃cs,Blk w2 b 28 cs) (hk:zmq w2 w0.heap.size 28 5 l.length 1 (.slice A l.length c) (zai l) y.cells A' c' w3):ApT w0 A' c' (l++[y]) w3:=by
 have h2:=h.no f;have hs:=f.size;have hlt:=λg hg=>zaj h.row g hg;have a2:=hk.2.2;have a1:=hk.fr.size;have h0:=h.fr.size;refine⟨?_,λx hx=>?_,λx hx b hb hg=>?_,h2.fr.trans' hk.fr λi hi hv=>?_,λx hx b hb=>?_⟩
 .have:=hk.1;rwa [List.length_append,zcp]
 .rcases List.mem_append.1 hx with hx|hx
  .exact T.In.more (Nat.le_refl _) a1 x ((h2.inn x hx).frT hk.fr (Nat.le_refl _) λb hb hv=>h.far x hx b hb hv)
  .simp only[List.mem_singleton]at hx;subst hx;exact T.In.more h0 a1 _ (hy.frT hk.fr (Nat.le_refl _) λb hb hv=>by have:=(T.In.blocks _ hy b hb).1;have:=(hlt b hv).2;omega)
 .rw[List.length_append]at hg;rcases a2 b hg with a0|a0
  .rcases List.mem_append.1 hx with hx|hx
   .exact h.far x hx b hb a0
   .simp only[List.mem_singleton]at hx;subst hx;have:=(T.In.blocks _ hy b hb).1;have:=(hlt b a0).2;omega
  .rcases List.mem_append.1 hx with hx|hx
   .have:=(T.In.blocks _ (h2.inn x hx) b hb).2;omega
   .simp only[List.mem_singleton]at hx;subst hx;have:=(T.In.blocks _ hy b hb).2;omega
 .have:=(hlt i hv).1;omega
 .rcases List.mem_append.1 hx with hx|hx
  .exact(h2.td x hx b hb).imp λ_ k=>k.fr hk.fr λhv=>h.far x hx b hb hv
  .simp only[List.mem_singleton]at hx;subst hx;exact(hyt b hb).imp λ_ k=>k.fr hk.fr λhv=>by have:=(T.In.blocks _ hy b hb).1;have:=(hlt b hv).2;omega
theorem ApT.row_td (h:ApT w0 A c l wr):∀b∈(T.row A c l).blocks,∃cs,Blk wr b 28 cs:=by
 intro b hb;unfold T.row at hb;rw[T.blocks_mk]at hb;rcases List.mem_append.1 hb with hb|hb
 .cases l with
  |nil=>simp at hb
  |cons x l=>
   rcases h.row.2 with⟨h0,h1⟩|⟨g,a1,a2,h1,-,hg,-⟩
   .simp at h1
   .simp only[Value.slice.injEq,true_and]at h1;obtain⟨rfl,-⟩:=h1;simp at hb;subst hb;exact⟨a2,hg⟩
 .obtain⟨z,hz,a0⟩:=List.mem_flatten.1 hb;obtain⟨x,hx,rfl⟩:=List.mem_map.1 hz;exact h.td x hx b a0
theorem ApT.row_in (h:ApT w0 A c l wr) (hl:l.length*64<=140737488351232):(T.row A c l).In wr w0.heap.size wr.heap.size:=zgm h.row h.inn hl (Nat.le_refl _) (Nat.le_refl _)
end
def OwV (v:V) (w:World) (e:Ending) (w':World):Prop:=∃t:T,e= .returned t.val/\t.v=v/\t.In w' w.heap.size w'.heap.size/\(∀b∈t.blocks,∃cs,Blk w' b 28 cs)/\Fr No w w'
theorem zb3 {α β:Type} (f:α->β) {l:List α} {j:Nat} (h:j<l.length):(l.take (j+1)).map f=(l.take j).map f++[f l[j]]:=by
 rw[List.take_add_one,List.getElem?_eq_getElem h,List.map_append];rfl
theorem zfe (t:T):∀(w:World) (lo hi:Nat),t.In w lo hi->hi<=w.heap.size->Calls Tryz.prog 233 #[t.val] w (OwV t.v w):=by
 induction t using T.ind with
 |h k n s A cap l r ih=>
  intro w lo hi ht hh;rw[T.val_mk,T.v_mk];have b9:=(T.in_mk.1 ht).1;have a9:=b9.len1;have b4:=(Blk.new w 28 #[.int .u8 k,.int .i64 n,.string s,.slice A l.length cap,.int .i64 r]).alloc (.cells #[.int .u8 0,.int .i64 0,.string ⟨#[]⟩,.slice none 0 0,.int .i64 0] 28);have b8:=Blk.new' (w.alloc (.cells #[.int .u8 k,.int .i64 n,.string s,.slice A l.length cap,.int .i64 r] 28)) 28 #[.int .u8 0,.int .i64 0,.string ⟨#[]⟩,.slice none 0 0,.int .i64 0] (g:=w.heap.size+1) s_;have c7:=((Fr.refl No w).alloc (.cells #[.int .u8 k,.int .i64 n,.string s,.slice A l.length cap,.int .i64 r] 28)).alloc (.cells #[.int .u8 0,.int .i64 0,.string ⟨#[]⟩,.slice none 0 0,.int .i64 0] 28);have c8:w.heap.size+2<=((w.alloc (.cells #[.int .u8 k,.int .i64 n,.string s,.slice A l.length cap,.int .i64 r] 28)).alloc (.cells #[.int .u8 0,.int .i64 0,.string ⟨#[]⟩,.slice none 0 0,.int .i64 0] 28)).heap.size:=s_;have f1:=zaa b4;have f0:=zaa b8;have c1:=zaa c7;have d8:=zaa c8;have HT:=zaa ht;have c9:=zaa ih;have b5:=zaa b9;clear b4 b8 c7 c8 ht ih b9;go_enter Tryz.func233,Tryz.ntmps233;go_wp2_with fail;generalize World.alloc (World.alloc w _) _=W0 at*;go_loopw [3,4] (λv i wr=>∃(A':Option Addr) (c':Nat) (l':List T),l'.length<=l.length/\i= .int .i64 l'.length/\v= .slice A' l'.length c'/\Hid (l'.map T.v=(l.take l'.length).map T.v)/\ApT W0 A' c' l' wr) (λ_ i _=>l.length - (intOf i).toNat)
  case atStart=>exact⟨none,0,[],Nat.zero_le _,rfl,rfl,zaa s_,ApT.start (Fr.refl _ _)⟩
  case round=>
   obtain⟨A3,c3,l3,hj,rfl,rfl,b1,inv⟩:=hrel;have a2:=f1.out.fr inv.fr λh=>h;have h3:wr.cell? ⟨w.heap.size,3,none⟩=some (.slice A l.length cap):=a2.cell 3;have hq:=a2.lt;by_cases hlt:l3.length<l.length
   .have b3:=c1.out.trans inv.fr;obtain⟨b,o,k1,n1,s1,A1,e5,l1,r1,rfl,b4,b8,hx,d5,e0,e1,e2,e3,e4⟩:=T.elem (HT.out.no b3 hh) hlt;have IH:=c9.out l[l3.length] (List.getElem_mem hlt) wr lo hi (by rw[hx];exact d5) (by have:=b3.size;omega);have c4:=zb3 T.v hlt;have e8:=zaa c4;generalize l[l3.length]=tj at*;rw[hx,T.val_mk]at IH;have HX:=zaa hx;have b0:=zaa inv;have f6:=zaa a2;have b6:=zaa IH;have g0:b<wr.heap.size:=by have:=b3.size;omega
    have d9:l3.length<=2199023255488:=o_;clear hx IH c4 inv a2 b3 d5 c9;go_wp2_with fail;refine b6.out.mono ?_;rintro e w2 ⟨y,rfl,c6,a7,a8,f2⟩;obtain⟨k2,n2,s2,A2,a1,l2,r2⟩:=y;have a5:=(Fr.refl No w2).alloc (.cells #[.int .u8 k2,.int .i64 n2,.string s2,.slice A2 l2.length a1,.int .i64 r2] 28);have f5:=zaa f2;have e7:=zaa (f2.trans a5);have e6:=zaa (T.In.more (Nat.le_refl _) a5.size _ (a7.no a5 (Nat.le_refl _)));have d6:=zaa c6;have f4:=zaa (λb hb=>(a8 b hb).imp λ_ (k:Blk _ _ _ _)=>k.fr a5 λh=>h);have d7:=zaa (b0.out.no (f2.trans a5));have f3:=zaa ((Blk.new w2 28 #[.int .u8 k2,.int .i64 n2,.string s2,.slice A2 l2.length a1,.int .i64 r2]).lies (cs:=(T.mk k2 n2 s2 A2 a1 l2 r2).cells) (cells_one _));have e9:=zaa (show W0.heap.size<=(w2.alloc (.cells #[.int .u8 k2,.int .i64 n2,.string s2,.slice A2 l2.length a1,.int .i64 r2] 28)).heap.size by have:=b0.out.fr.size;have:=(f2.trans a5).size;omega);clear f2 a5 c6 a7 a8;rw[T.val_mk];go_wp2_with (at_builtin;refine zbf _ r_ _ _ zda r_ W0.heap.size _ l3.length _ r_ d7.out.row w2.heap.size (w2.heap.size+1) (some ⟨w2.heap.size,0,none⟩) 1 1 _ r_ f3.out o_ o_ e9.out ?_;intro A5 c5 w5 hk;have HK:=zaa hk;clear hk);go_roundw
    case rel=>
     refine⟨A5,c5,l3++[T.mk k2 n2 s2 A2 a1 l2 r2],by simp;omega,by simp,by simp,zaa ?_,b0.out.add e7.out e6.out f4.out HK.out⟩;rw[List.length_append,List.map_append,b1.out];show _=(l.take (l3.length+1)).map T.v;rw[e8.out];simp[d6.out,HX.out]
    case measure=>simp[intOf];omega
   .have b7:l3.length=l.length:=o_;have b0:=zaa inv;have a3:=f0.out.fr inv.fr λh=>h;have e0:wr.cell? ⟨w.heap.size,0,none⟩=some (.int .u8 k):=a2.cell 0;have e1:wr.cell? ⟨w.heap.size,1,none⟩=some (.int .i64 n):=a2.cell 1;have e2:wr.cell? ⟨w.heap.size,2,none⟩=some (.string s):=a2.cell 2;have e4:wr.cell? ⟨w.heap.size,4,none⟩=some (.int .i64 r):=a2.cell 4;have ez:=a2.frozen;have d0:wr.cell? ⟨w.heap.size+1,0,none⟩=some (.int .u8 0):=a3.cell 0;have d1:wr.cell? ⟨w.heap.size+1,1,none⟩=some (.int .i64 0):=a3.cell 1;have d2:wr.cell? ⟨w.heap.size+1,2,none⟩=some (.string ⟨#[]⟩):=a3.cell 2;have d3:wr.cell? ⟨w.heap.size+1,3,none⟩=some (.slice none 0 0):=a3.cell 3;have d4:wr.cell? ⟨w.heap.size+1,4,none⟩=some (.int .i64 0):=a3.cell 4;have dz:=a3.frozen;have dq:=a3.lt;clear inv a2 a3;go_wp2;refine bodyPost_ret (v:=.agg #[.int .u8 k,.int .i64 n,.string s,.slice A3 l3.length c3,.int .i64 r]) (by simp[results,Tryz.results233,go_sem, *]) rfl ?_;generalize hW:World.setCell _ _ _=W;have b2:Fr (λi=>i=w.heap.size\/i=w.heap.size+1) wr W:=by
     rw[<-hW];repeat(first|with_reducible exact Fr.refl _ wr|with_reducible refine Fr.set ?_ s_ _)
    have inv:=b0.out;have hz:=d8.out;have hs:=inv.fr.size;have a0:=b5.out;have a4:=inv.row_in (by rw[b7];exact a9);have a6:=a4.frT b2 (Nat.le_refl _) λb hb hS=>by have:=(T.In.blocks _ a4 b hb).1;omega
    have c2:=T.in_mk.1 (T.In.more (show w.heap.size<=W0.heap.size by omega) b2.size _ a6);refine⟨T.mk k n s A3 c3 l3 r,rfl,by rw[T.v_mk];have:=b1.out;rw[b7,List.take_length]at this;rw[this],T.in_mk.2 ⟨⟨a0.k0,a0.k1,a0.n0,a0.n1,a0.s1,by rw[b7];exact a9,c2.1.cap1,a0.r0,a0.r1⟩,c2.2⟩,λb hb=>?_,(c1.out.trans inv.fr).trans' b2 λi hi hS=>by omega⟩;have c0:b∈(T.row A3 c3 l3).blocks:=by
     unfold T.row;rw[T.blocks_mk]at hb ⊢;exact hb
    exact(inv.row_td b c0).imp λ_ q=>q.fr b2 λhS=>by have:=(T.In.blocks _ a4 b c0).1;omega
theorem ze8 {w:World} {base c:Nat} {A:Option Addr} {L:List Int} (h:w.ownsRow base 22 1 (.slice A L.length c) L.length (zak L)) (hl:L.length<=1000000) (hr:∀r∈L,-9223372036854775808<=r/\r<=9223372036854775807):Ints w base w.heap.size A c L:=by
 refine⟨by omega,?_,λhn=>?_,hr⟩
 .rcases h.2 with⟨h0,h1⟩|⟨g,a0,a1,h1,-,-,h2,-⟩
  .simp only[Value.slice.injEq]at h0;omega
  .simp only[Value.slice.injEq]at h1;omega
 .obtain⟨g,rfl,hg,-⟩:=zfs h (j:=0) (List.length_pos_iff.2 hn);refine⟨g,0,rfl,(zaj h g rfl).1,hg,λi x hx=>?_⟩;obtain⟨hi,rfl⟩:=List.getElem?_eq_some_iff.1 hx;obtain⟨g',e,-,hc⟩:=zfs h (j:=i) hi;cases e;rw[Nat.zero_add];exact hc
def hV (r:Int):V:=.mk 4 0 ⟨#[]⟩ [] r
def lV (L:List Int):V:=.mk 3 0 ⟨#[]⟩ (L.map hV) 0
theorem zp8 (r:Int):(hV r).size=1:=by unfold hV;rw[V.size_mk];rfl
theorem ztz (r:Int):(hV r).dep=0:=by unfold hV;rw[V.dep_mk];rfl
theorem zv4 (r:Int):(hV r).ok=decide (1<=r):=by
 unfold hV;rw[V.ok_mk];simp[fok]
theorem zxm (r:Int):(hV r).rf=[r]:=by unfold hV;rw[V.rf_mk];rfl
theorem zt0 {r:Int} (h:1<=r):(hV r).may=true:=by
 unfold V.may V.fits;rw[zv4,zp8,ztz];simp[h]
theorem zv5 {r:Int} (h:1<=r):(hV r).refs=[r]:=by rw[zfn (zt0 h),zxm]
theorem zp9:∀L:List Int,((L.map hV).map V.size).sum=L.length
 |[]=>rfl
 |r::L=>by
  simp only[List.map_cons,List.sum_cons,List.length_cons,zp8];have:=zp9 L;omega
theorem zmf:∀L:List Int,top ((L.map hV).map V.dep)=0
 |[]=>rfl
 |r::L=>by
  simp only[List.map_cons,top,ztz];rw[zmf L];rfl
theorem zyu (L:List Int):(lV L).rf=L:=by
 unfold lV;rw[V.rf_mk,if_neg d_];induction L with
 |nil=>rfl
 |cons r L ih=>
  simp only[List.map_cons,List.flatten_cons,zxm,ih];rfl
theorem zxn (L:List Int):(lV L).may=true↔(∀r∈L,1<=r)/\L.length<=511:=by
 unfold V.may V.fits lV;rw[V.ok_mk,V.size_mk,V.dep_mk,zp9,if_pos rfl,zmf];simp only[Bool.and_eq_true,decide_eq_true_eq,List.all_eq_true,List.mem_map];constructor
 .rintro⟨⟨⟨-,h1⟩,h2⟩,-⟩;refine⟨λr hr=>?_,by omega⟩;have:=h1 _ ⟨r,hr,rfl⟩;rw[zv4]at this;simpa using this
 .rintro⟨h1,h2⟩;refine⟨⟨⟨by simp[fok],?_⟩,by omega⟩,by omega⟩;rintro _ ⟨r,hr,rfl⟩;rw[zv4];simpa using h1 r hr
theorem zqa {L:List Int} (h:(lV L).may=true):(lV L).refs=L:=by rw[zfn h,zyu]
theorem zmg (r:Int) (w:World):Calls Tryz.prog 113 #[.int .i64 r] w λe w'=>e= .returned (.agg #[.int .u8 4,.int .i64 0,.string ⟨#[]⟩,.slice none 0 0,.int .i64 r])/\Fr No w w':=by
 go_enter Tryz.func113,Tryz.ntmps113;go_wp2;refine bodyPost_ret (v:=.agg #[.int .u8 4,.int .i64 0,.string ⟨#[]⟩,.slice none 0 0,.int .i64 r]) (by simp[results,Tryz.results113,go_sem, *]) rfl ?_;refine⟨rfl,?_⟩;repeat(first|with_reducible exact Fr.refl _ w|with_reducible refine Fr.alloc ?_ _|with_reducible refine Fr.setNew ?_ (by first|(simp;done)|(simp;omega)) _)
theorem zsw {w:World} {A:Option Addr} {c lo hi:Nat} {L:List Int} (h:Ints w lo hi A c L) (hh:hi<=w.heap.size) (r:Int):
 Calls Tryz.prog 43 #[.slice A L.length c,.int .i64 r] w λe w'=>e= .returned (.bool (decide (r∈L)))/\w'=w:=by
 have HR:=zaa h;have hl:=h.len;clear h;go_enter Tryz.func43,Tryz.ntmps43;go_wp2_with fail;go_loopw [5] (λi wr=>∃j:Nat,j<=L.length/\i= .int .i64 j/\wr=w/\Hid (r∉L.take j)) (λi _=>L.length - (intOf i).toNat)
 case atStart=>exact⟨0,Nat.zero_le _,rfl,rfl,zaa s_⟩
 case round=>
  obtain⟨j,hj,rfl,rfl,HN⟩:=hrel;by_cases hlt:j<L.length
  .obtain⟨g,o,rfl,-,a0,hx⟩:=HR.out.elem hlt;have hg:g<wr.heap.size:=o_;have HT:=zaa (List.take_succ_eq_append_getElem hlt);have HM:=zaa (List.getElem_mem hlt);generalize L[j]=q at*;by_cases he:q=r
   .subst he;go_wp2_with fail;have e1:decide (q∈L)=true:=decide_eq_true HM.out;rw[e1];go_ret;exact⟨rfl,rfl⟩
   .have a1:(q==r)=false:=by simpa using he
    have HE:=zaa he;clear he;go_wp2_with fail;go_roundw
    case rel=>exact⟨j+1,hlt,by go_num,trivial,zaa (by
     rw[HT.out,List.mem_append,List.mem_singleton];rintro(h|h)
     .exact HN.out h
     .exact HE.out h.symm)⟩
    case measure=>simp[intOf];omega
  .obtain rfl:L.length=j:=o_;have e1:decide (r∈L)=false:=decide_eq_false (by have:=HN.out;rwa [List.take_length]at this);go_wp2;rw[e1];go_ret;exact⟨rfl,rfl⟩
end Go.Proofs.YtlejelbefmkakaaGreat

/- Texts joined: Ubz, Hf7, U9, Ob, H0. -/
import Derived.Test.YtlejelbefmkakaaGreatJn1
import Derived.Test.YtlejelbefmkakaaGreatJn4
import Derived.Test.YtlejelbefmkakaaGreatJn28
import Derived.Test.YtlejelbefmkakaaGreatJn44
import Derived.Test.YtlejelbefmkakaaGreatRows
import Derived.JoinedCond
import Derived.ProofKit
import Derived.OpenShut
import Derived.ChangeOld
set_option maxRecDepth 100000
namespace Go.Proofs.YtlejelbefmkakaaGreat
open Go.RowKit
theorem znj (PA:Option Addr) (pc:Nat) (ps:List Int) (CA:Option Addr) (cc:Nat) (cuts:List Int) (TA:Option Addr) (tc:Nat) (ths:List (Int×Tg)) (last:Int) (MA:Option Addr) (mc:Nat) (made:List Int) (XA:Option Addr) (xc:Nat) (xs:List Int) (YA:Option Addr) (yc:Nat) (ys:List Int) (W:World)
 (hp:Ints W 0 W.heap.size PA pc ps) (hc:Ints W 0 W.heap.size CA cc cuts) (ht:EnRow W 0 W.heap.size TA tc ths) (hm:Ints W 0 W.heap.size MA mc made) (hla: -9223372036854775808<=last/\last<=9223372036854775807) (hS:∀x∈ths,(x.2.code.map G.ssz).sum<=1099511627776)
 (hx:Ints W 0 W.heap.size XA xc xs) (hy:Ints W 0 W.heap.size YA yc ys):
 Calls Tryz.prog 6 #[.agg #[.slice PA ps.length pc,.slice CA cuts.length cc,.slice TA ths.length tc,.int .i64 last,.slice MA made.length mc],.slice XA xs.length xc,.slice YA ys.length yc] W λe w'=>e= .returned (.bool true)/\Fr No W w':=
 zni (zaa zsp) (zaa zxt) PA pc ps CA cc cuts TA tc ths last MA mc made XA xc xs YA yc ys W hp hc ht hm hla hS hx hy
end Go.Proofs.YtlejelbefmkakaaGreat
namespace Go.Proofs.YtlejelbefmkakaaGreat
open Go.Joins Go.ChangeShapes Go.WideShapes Go.RowKit Go.Deep
theorem zg6 {t:TypeId} (hf:flat t=[.int .i64]) {l:List G} (h:∀x∈l,Ty t x):∃ns:List Int,ns.length=l.length/\∀(A:Option Addr) (cap:Nat) (w:World) (lo hi:Nat),l.length*8<=140737488351232->l.length<=cap->(G.row A l).In w lo hi->Ints w lo hi A cap ns:=by
 have a1:∀i,i<l.length->∃n:Int,∃x,l[i]? =some x/\x= .mk [.int .i64 n] []/\ -9223372036854775808<=n/\n<=9223372036854775807:=λi hi=>by
  have hm:=List.getElem_mem hi;obtain⟨n,h1,h2⟩:=zw1 hf (h _ hm);exact⟨n,l[i],List.getElem?_eq_getElem hi,h1,zbz h2⟩
 obtain⟨ns,a0,hq⟩:=zbr l.length a1;refine⟨ns,a0,λA cap w lo hi hl hc hin=>?_⟩;obtain⟨h1,h2⟩:=G.row_in.1 hin;refine⟨by rw[a0];exact hl,by rw[a0];exact hc,λhne=>?_,λx hx=>?_⟩
 .obtain⟨b,o,rfl,a2,a3,a4⟩:=h1 (by rintro rfl;simp at a0;exact hne a0);refine⟨b,o,rfl,a2,a3,λi x hx=>?_⟩;obtain⟨y,hy,e,-⟩:=hq i x hx;have:=a4 i y hy 0 (.int .i64 x) (by rw[e];rfl);rw[e]at this;simpa[G.c]using this
 .obtain⟨i,hi',rfl⟩:=List.mem_iff_getElem.1 hx;obtain⟨y,hy,-,h3⟩:=hq i _ (List.getElem?_eq_getElem hi');exact h3
section
variable {H:Type} {enc:TypeId×Value->H}
def zvc (W:World) (v:Value) (PA:Option Addr) (pc:Nat) (ps:List Int) (CA:Option Addr) (cc:Nat) (cuts:List Int) (TA:Option Addr) (tc:Nat) (ths:List (Int×Tg)) (last:Int) (MA:Option Addr) (mc:Nat) (made:List Int):Prop:=
 v= .agg #[.slice PA ps.length pc,.slice CA cuts.length cc,.slice TA ths.length tc,.int .i64 last,.slice MA made.length mc]/\
 Ints W 0 W.heap.size PA pc ps/\Ints W 0 W.heap.size CA cc cuts/\EnRow W 0 W.heap.size TA tc ths/\Ints W 0 W.heap.size MA mc made/\ -9223372036854775808<=last/\last<=9223372036854775807
end
section
variable {H:Type} {enc:TypeId×Value->H}
theorem zj2 {ty el:TypeId} (hty:Tryz.prog.underlying ty=some (.slice el)) (hel0:Tryz.prog.underlying el=some (.int .i64)) (hcells:Tryz.prog.cellsOf el=1) (hbytes:Tryz.prog.bytesOf el=8)
 {W:World} {b0:Nat} {v:Value} {d:DataW H} {p:List MemPlace} (hv:Value.okWide Tryz.prog W .any b0 ty v) (h:DataW.Trod enc Tryz.prog W 0 (λ_=>true) true ty v d p) (hw:∀m∈d.weights Tryz.prog ty,m<=reachBytes):
 ∃A cap l,v= .slice A l.length cap/\Ints W 0 W.heap.size A cap l:=by
 obtain⟨A,a4,cap,rfl⟩:=okWide_slice hty hv;obtain⟨b6,hf⟩:=h;have b4:Value.cells (.slice A a4 cap)=#[.slice A a4 cap]:=rfl;rw[b4]at hf;rcases DataW.trod_slice hty hf with⟨e3,-⟩|⟨a,b3,b1,a0,rest,n',rfl,e3,e5,-,a6,b8,b2,a8,b9,-⟩
 .simp at e3;obtain⟨rfl,rfl,rfl⟩:=e3;exact⟨none,0,[],rfl,by simp,Nat.le_refl _,λh=>absurd rfl h,by simp⟩
 .simp at e3;obtain⟨rfl,rfl,rfl⟩:=e3;simp only[Prod.mk.injEq]at e5;obtain⟨rfl,-⟩:=e5;have a3:a4*8<=140737488351232:=by
   have:=hw ((a0.length+rest.length)*8) (by rw[DataW.weights,hty];simp[hbytes]);rw[zik,b2]at this;omega
  rw[hcells]at a8;have a5:∀i,i<a4->∃x:Int,W.cell? (a.add i)=some (.int .i64 x)/\ -9223372036854775808<=x/\x<=9223372036854775807:=by
   intro i hi;have h1:=a8 i hi;rw[Nat.mul_one]at h1;have h2:a0[i]? =some (a0[i]'o_):=List.getElem?_eq_getElem o_;rw[h2]at h1;obtain⟨c0,hc,b7⟩:=Option.bind_eq_some_iff.1 h1;obtain⟨r,rfl,-,wr⟩:=DataW.trod_int hel0 b7;obtain⟨-,-,a1⟩:=World.cells?_some hc;have a7:=a1 0 o_;refine⟨r,?_,zbz wr⟩;have e0:(a.add i).add 0=a.add i:=by unfold Addr.add;split<;>simp_all
   rw[e0]at a7;simpa using a7
  obtain⟨l,hl,hq⟩:=zbr a4 a5;subst hl;obtain⟨b,o,sp⟩:=a;refine⟨some ⟨b,o,sp⟩,cap,l,rfl,a3,a6,λhne=>?_,λx hx=>?_⟩
  .have b5:0<l.length:=List.length_pos_iff.2 hne;obtain⟨a9,-⟩:=hq 0 _ (List.getElem?_eq_getElem b5);have a2:sp=none:=by simpa[Addr.add]using World.cell?_spot a9
   subst a2;have hlt:=zo2 a9;refine⟨b,o,rfl,Nat.zero_le _,by simpa[Addr.add]using hlt,λi x hx=>?_⟩;have:=(hq i x hx).1;rw[zbi]at this;exact this
  .obtain⟨i,hi,rfl⟩:=List.mem_iff_getElem.1 hx;exact(hq i _ (List.getElem?_eq_getElem hi)).2
end
def zqu (s:List (Option Addr×List G)):Nat:=(s.map λx=>(x.2.map G.esz).sum).sum
theorem G.esz_mk (c:List Value) (s:List (Option Addr×List G)):(G.mk c s).esz=1+zqu s:=by
 rw[G.esz,zqu];congr 2
 rw[<-List.attach_map_val (l:=s) (f:=λx=>(x.2.map G.esz).sum)];refine List.map_congr_left λx _=>?_;rw[List.attach_map_val]
theorem zku (s t:List (Option Addr×List G)):zqu (s++t)=zqu s+zqu t:=by simp[zqu]
theorem zfl {α:Type} {f g:α->Nat}:∀(l:List α),(∀x∈l,f x<=g x)->(l.map f).sum<=(l.map g).sum
 |[],_=>Nat.le_refl _
 |x::l,h=>by
  simp only[List.map_cons,List.sum_cons];have h1:=h x s_;have h2:=zfl l λy hy=>h y (List.mem_cons_of_mem _ hy);omega
theorem zkv {α:Type} {f:α->Nat} {l:List α} {x:α} (h:x∈l):f x<=(l.map f).sum:=by
 induction l with
 |nil=>cases h
 |cons y l ih=>
  simp only[List.map_cons,List.sum_cons];rcases List.mem_cons.1 h with rfl|h
  .omega
  .have:=ih h;omega
theorem zo3 {α:Type} {f g:α->Nat} {p:Nat->Prop} [DecidablePred p]:∀(l:List α) (k:Nat),(∀x∈l,f x<=g x)->((l.zipIdx k).map λs=>if p s.2 then f s.1 else 0).sum<=(l.map g).sum
 |[],_,_=>Nat.le_refl _
 |x::l,k,h=>by
  simp only[List.zipIdx_cons,List.map_cons,List.sum_cons];have h1:=h x s_;have h2:=zo3 (p:=p) l (k+1) λy hy=>h y (List.mem_cons_of_mem _ hy);split<;>omega
theorem G.ssz_le (g:G):g.ssz<=g.esz:=by
 induction g using G.ind with
 |h c subs ih=>
  rw[G.ssz,G.esz];refine Nat.add_le_add_left (zo3 (p:=λi=>2<=i/\i<=4) (f:=λs:{x // x∈subs}=>(s.1.2.attach.map λx=>G.ssz x.1).sum) (g:=λs:{x // x∈subs}=>(s.1.2.attach.map λx=>G.esz x.1).sum) subs.attach 0 λs _=>?_) 1;refine zfl _ λx _=>?_;exact ih s.1.1 s.1.2 s.2 x.1 x.2
theorem zr2 {g x:G} {A:Option Addr} {l:List G} (h:(A,l)∈g.subs) (hx:x∈l):x.esz+1<=g.esz:=by
 obtain⟨c,s⟩:=g;rw[G.esz_mk];have h1:x.esz<=(l.map G.esz).sum:=zkv hx;have h2:(l.map G.esz).sum<=zqu s:=zkv (f:=λx:Option Addr×List G=>(x.2.map G.esz).sum) h;omega
theorem zo4 {g:G} {A:Option Addr} {l:List G} (h:(A,l)∈g.subs):(l.map G.ssz).sum<=g.esz:=by
 obtain⟨c,s⟩:=g;rw[G.esz_mk];have h1:(l.map G.ssz).sum<=(l.map G.esz).sum:=zfl _ λx _=>x.ssz_le;have h2:(l.map G.esz).sum<=zqu s:=zkv (f:=λx:Option Addr×List G=>(x.2.map G.esz).sum) h;omega
section
variable {H:Type}
theorem zil (d:DataW H):1<=Rows.uptoBulk d:=by
 cases d with
 |lit l=>cases l<;>simp[Rows.uptoBulk]
 |_=>simp[Rows.uptoBulk]
theorem zlz:∀l:List (DataW H),Rows.uptoBulkAll l=(l.map Rows.uptoBulk).sum
 |[]=>rfl
 |d::l=>by rw[Rows.uptoBulkAll,zlz l];rfl
end
section
variable {H:Type} {enc:TypeId×Value->H} {P:Program} {W:World} {flat:TypeId->List Fd}
def zl0 (W:World) (flat:TypeId->List Fd) (fs:List Fd) (cs:List Value) (n:Nat):Prop:=
 ∃subs,zbm fs cs subs/\(∀(i:Nat) (e:TypeId) (A:Option Addr) (l:List G) (x:G),(sls fs)[i]? =some e->subs[i]? =some (A,l)->x∈l->HasTy flat e x)/\
  (∀A l,(A,l)∈subs->(l≠[]->∃b o,A=some ⟨b,o,none⟩/\0<=b/\b<W.heap.size/\∀i x,l[i]? =some x->∀j u,x.c[j]? =some u->W.cell? ⟨b,o+i*x.c.length+j,none⟩=some u)/\∀x∈l,G.In W 0 W.heap.size x)/\zqu subs<=n
theorem zl0.append {f1 f2:List Fd} {c1 c2:List Value} {n1 n2:Nat} (h1:zl0 W flat f1 c1 n1) (h2:zl0 W flat f2 c2 n2):zl0 W flat (f1++f2) (c1++c2) (n1+n2):=by
 obtain⟨s1,a1,b1,d1,z1⟩:=h1;obtain⟨s2,a2,b2,d2,z2⟩:=h2;refine⟨s1++s2,a1.append a2,λi e A l x he hs hx=>?_,λA l h=>?_,by rw[zku];omega⟩
 .rw[zcb]at he;have hl:=a1.subs.2;rcases Nat.lt_or_ge i s1.length with hi|hi
  .rw[List.getElem?_append_left hi]at hs;rw[List.getElem?_append_left o_]at he;exact b1 i e A l x he hs hx
  .rw[List.getElem?_append_right hi]at hs;rw[List.getElem?_append_right o_,<-hl]at he;exact b2 _ e A l x he hs hx
 .rcases List.mem_append.1 h with h|h
  .exact d1 A l h
  .exact d2 A l h
theorem zl0.tree {t:TypeId} {cs:List Value} {n:Nat} (h:zl0 W flat (flat t) cs n):∃g:G,cs=g.c/\HasTy flat t g/\g.In W 0 W.heap.size/\g.esz<=n+1:=by
 obtain⟨a0,a,b,d,z⟩:=h;exact⟨.mk cs a0,rfl,.mk t cs a0 a b,G.in_mk.2 d,by rw[G.esz_mk];omega⟩
theorem zl0.le {fs:List Fd} {cs:List Value} {n n':Nat} (h:zl0 W flat fs cs n) (hn:n<=n'):zl0 W flat fs cs n':=by
 obtain⟨a0,a,b,d,z⟩:=h;exact⟨a0,a,b,d,by omega⟩
theorem ztm {f:DataW H->Nat} {e:G->Nat}:∀(l:List G) (ds:List (DataW H)),l.length=ds.length->(∀(i:Nat) (x:G),l[i]? =some x->∃d,ds[i]? =some d/\e x<=f d)->(l.map e).sum<=(ds.map f).sum
 |[],ds,_,_=>by simp
 |x::l,[],h,_=>by simp at h
 |x::l,d::ds,h,hq=>by
  obtain⟨d',h1,h2⟩:=hq 0 x rfl;simp only[List.getElem?_cons_zero,Option.some.injEq]at h1;subst h1;have h3:=ztm l ds (by simpa using h) λi x hi=>hq (i+1) x (by simpa using hi);simp only[List.map_cons,List.sum_cons];omega
theorem zf3 {S:TypeId->Prop} {rec:TypeId->Option (List Fd)} {R:TypeId->List Value->DataW H×List MemPlace->Prop} (hrec:∀t fl cs x,rec t=some fl->(∀e∈sls fl,S e)->R t cs x->(∀m∈x.1.weights P t,m<=reachBytes)->zl0 W flat fl cs (Rows.uptoBulk x.1 - 1)):
 ∀(fs:List Field) (o:Nat) (fl:List Fd) (cs:List Value) (xs:List (DataW H×List MemPlace)),zhz rec P o fs=some fl->(∀e∈sls fl,S e)->xs.length=fs.length->cs.length=o+fl.length->
  (∀(i:Nat) (f:Field) x,fs[i]? =some f->xs[i]? =some x->R f.type ((cs.drop f.offset).take (P.cellsOf f.type)) x)->(∀m∈DataW.weightsEach P (fs.map (·.type)) (xs.map (·.1)),m<=reachBytes)->
  zl0 W flat fl (cs.drop o) (Rows.uptoBulkAll (xs.map (·.1)))
 |[],o,fl,cs,xs,h,_,_,hl,_,_=>by
  simp only[zhz,Option.some.injEq]at h;subst h;rw[List.drop_eq_nil_of_le (by simp at hl;omega)];exact⟨[],⟨rfl,rfl⟩,by simp,by simp,Nat.zero_le _⟩
 |f::fs,o,fl,cs,[],h,_,hx,_,_,_=>by simp at hx
 |f::fs,o,fl,cs,x::xs,h,hsl,hx,hl,hR,hw=>by
  unfold zhz at h;cases hf:rec f.type with
  |none=>rw[hf]at h;cases h
  |some f1=>
   rw[hf]at h;simp only at h;split at h
   .rename_i hc;obtain⟨rest,hr,rfl⟩:=Option.map_eq_some_iff.1 h;have h0:=hR 0 f x rfl rfl;rw[hc.1,hc.2]at h0;have a0:∀m∈x.1.weights P f.type,m<=reachBytes:=λm hm=>hw m (by
     rw[List.map_cons,List.map_cons,DataW.weightsEach];exact List.mem_append_left _ hm)
    have h1:=hrec f.type f1 _ x hf (λe he=>hsl e (by rw[zcb];exact List.mem_append_left _ he)) h0 a0;have h2:=zf3 hrec fs (o+f1.length) rest cs xs hr (λe he=>hsl e (by rw[zcb];exact List.mem_append_right _ he)) (by simpa using hx) (by simp at hl;omega) (λi f' x' hf' hx'=>hR (i+1) f' x' (by simpa using hf') (by simpa using hx')) (λm hm=>hw m (by
     rw[List.map_cons,List.map_cons,DataW.weightsEach];exact List.mem_append_right _ hm))
    have e:cs.drop o=(cs.drop o).take f1.length++cs.drop (o+f1.length):=by
     rw[<-List.drop_drop,List.take_append_drop]
    rw[e];have hb:=zil x.1;exact(h1.append h2).le (by rw[List.map_cons,Rows.uptoBulkAll];omega)
   .cases h
theorem zm7 {S:TypeId->Prop} (hS:∀t,S t->zci P 6 t=some (flat t)) (hK:∀t,S t->∀e∈sls (flat t),S e) (hC:∀t,S t->P.cellsOf t=(flat t).length/\0<(flat t).length) (fuel:Nat):
 ∀(n:Nat) (t:TypeId) (fl:List Fd),(∀e∈sls fl,S e)->zci P n t=some fl->∀(cs:List Value) (x:DataW H×List MemPlace),DataW.trod enc P W 0 (λ_=>true) true fuel t cs=some x->(∀m∈x.1.weights P t,m<=reachBytes)->zl0 W flat fl cs (Rows.uptoBulk x.1 - 1):=by
 induction fuel using Nat.strongRecOn with
 |ind fuel IH=>
  intro n;cases n with
  |zero=>intro t fl _ h;cases h
  |succ n=>
   intro t fl hsl h cs x hx hw;unfold zci at h;split at h
   .rename_i k hu;simp only[Option.some.injEq]at h;subst h;obtain⟨m,rfl,rfl,b9⟩:=DataW.trod_int hu hx;exact⟨[],⟨⟨m,rfl,b9⟩,rfl,rfl⟩,by simp,by simp,Nat.zero_le _⟩
   .rename_i hu;simp only[Option.some.injEq]at h;subst h;obtain⟨b,rfl,rfl⟩:=DataW.trod_bool hu hx;exact⟨[],⟨⟨b,rfl⟩,rfl,rfl⟩,by simp,by simp,Nat.zero_le _⟩
   .rename_i hu;simp only[Option.some.injEq]at h;subst h;obtain⟨s,rfl,rfl,-⟩:=DataW.trod_string hu hx;have hs:s.size<=140737488351232:=by
     have:=hw s.data.toList.length (by rw[DataW.weights];simp);rw[zik,Array.length_toList]at this;exact this
    exact⟨[],⟨⟨s,rfl,hs⟩,rfl,rfl⟩,by simp,by simp,Nat.zero_le _⟩
   .rename_i e hu;simp only[Option.some.injEq]at h;subst h;have a7:S e:=hsl e (by simp[sls]);rcases DataW.trod_slice hu hx with⟨rfl,rfl⟩|⟨a,b0,cap,a0,rest,n',rfl,rfl,rfl,-,a9,c6,b8,c0,c8,-⟩
    .refine⟨[(none,[])],⟨⟨0,rfl,Nat.le_refl _,by simp⟩,rfl,rfl⟩,λi e' A l x _ hs hx'=>?_,λA l h=>?_,Nat.zero_le _⟩
     .cases i with
      |zero=>simp at hs;obtain⟨rfl,rfl⟩:=hs;simp at hx'
      |succ i=>simp at hs
     .simp at h;obtain⟨rfl,rfl⟩:=h;exact⟨λh=>absurd rfl h,by simp⟩
    .have a3:b0*P.bytesOf e<=140737488351232:=by
      have:=hw ((a0.length+rest.length)*P.bytesOf e) (by rw[zew hu];simp);rw[zik,b8]at this;exact Nat.le_trans (Nat.mul_le_mul_right _ (Nat.le_add_right _ _)) this
     have a4:=hC e a7;have a8:∀i,i<b0->∃g:G,(∀j u,g.c[j]? =some u->W.cell? ((a.add (i*P.cellsOf e)).add j)=some u)/\HasTy flat e g/\g.In W 0 W.heap.size/\∃d:DataW H,(a0.map (·.1))[i]? =some d/\g.esz<=Rows.uptoBulk d:=by
      intro i hi;have h1:=c0 i hi;have h2:a0[i]? =some (a0[i]'o_):=List.getElem?_eq_getElem o_;rw[h2]at h1;obtain⟨c1,hc,c4⟩:=Option.bind_eq_some_iff.1 h1;obtain⟨g,rfl,b5,c3,hz⟩:=zl0.tree (IH n' o_ 6 e (flat e) (hK e a7) (hS e a7) c1 _ c4 (λm hm=>hw m (by
       rw[zew hu];refine List.mem_cons_of_mem _ (List.mem_append_left _ ?_);exact zd8 (List.mem_map_of_mem (List.getElem_mem _)) hm)))
      obtain⟨-,b3,a1⟩:=World.cells?_some hc;have hb:=zil (a0[i]'o_).1;have c7:g.esz<=Rows.uptoBulk (a0[i]'o_).1 - 1+1:=hz;have c5:g.esz<=Rows.uptoBulk (a0[i]'o_).1:=o_;refine⟨g,λj u hu=>?_,b5,c3,_,by rw[List.getElem?_map,h2];rfl,c5⟩;have hj:j<g.c.length:=(List.getElem?_eq_some_iff.1 hu).1;rw[a1 j (by rw[a4.1,<-zas b5];exact hj),hu]
     obtain⟨l,hl,hq⟩:=zbr b0 a8;subst hl;obtain⟨b,o,sp⟩:=a;have c9:(l.map G.esz).sum<=Rows.uptoBulkAll (a0.map (·.1)):=by
      rw[zlz];exact ztm _ _ (by rw[List.length_map];omega) λi x hi=>(hq i x hi).2.2.2
     refine⟨[(some ⟨b,o,sp⟩,l)],⟨⟨cap,rfl,a9,a3⟩,rfl,rfl⟩,λi e' A l' x he hs hx'=>?_,λA l' h=>?_,by simp only[zqu,List.map_cons,List.map_nil,List.sum_cons,List.sum_nil,Rows.uptoBulk];omega⟩
     .cases i with
      |zero=>
       simp[sls]at hs he;obtain⟨rfl,rfl⟩:=hs;subst he;obtain⟨k,hk,rfl⟩:=List.mem_iff_getElem.1 hx';exact(hq k _ (List.getElem?_eq_getElem hk)).2.1
      |succ i=>simp at hs
     .simp at h;obtain⟨rfl,rfl⟩:=h;refine⟨λhne=>?_,λx hx'=>?_⟩
      .have c2:0<l'.length:=List.length_pos_iff.2 hne;obtain⟨b6,a6,-,-⟩:=hq 0 _ (List.getElem?_eq_getElem c2);have a5:0<(l'[0]).c.length:=by rw[zas a6];exact a4.2
       have b4:=b6 0 _ (List.getElem?_eq_getElem a5);have a2:sp=none:=by simpa[Addr.add]using World.cell?_spot b4
       subst a2;have hlt:=zo2 b4;refine⟨b,o,rfl,Nat.zero_le _,by simpa[Addr.add]using hlt,λi x hx j u hu=>?_⟩;have b2:=hq i x hx;have:=b2.1 j u hu;rw[zbi,zbi,a4.1,<-zas b2.2.1]at this;exact this
      .obtain⟨k,hk,rfl⟩:=List.mem_iff_getElem.1 hx';exact(hq k _ (List.getElem?_eq_getElem hk)).2.2.1
   .rename_i fs hu;cases hff:zhz (zci P n) P 0 fs.toList with
    |none=>rw[hff]at h;cases h
    |some fl'=>
     rw[hff]at h;simp only at h;split at h
     .rename_i b3;simp only[Option.some.injEq]at h;subst h;obtain⟨xs,n',rfl,rfl,b1,b7,hg⟩:=DataW.trod_struct hu hx;have:=zf3 (H:=H) (P:=P) (W:=W) (flat:=flat) (S:=S) (rec:=zci P n) (R:=λt cs x=>DataW.trod enc P W 0 (λ_=>true) true n' t cs=some x)
       (λt fl cs x h1 h5 h2 h3=>IH n' o_ n t fl h5 h1 cs x h2 h3)
       fs.toList 0 fl' cs xs hff hsl (by simpa using b7) (by rw[b1,b3];simp) (λi f x hf hx'=>by rw[hg i f (by simpa using hf)];exact hx') (λm hm=>hw m (by rw[zhq hu];exact hm))
      rw[List.drop_zero]at this;exact this.le (by rw[Rows.uptoBulk];omega)
     .cases h
   .cases h
end
theorem zo5 {g:G} (h:Ty 140 g):∃(r:Int) (x:Tg),g.c= .int .i64 r::x.cells/\ -9223372036854775808<=r/\r<=9223372036854775807/\(∀(w:World) (lo hi:Nat),g.In w lo hi->x.In w lo hi)/\∃A,(A,x.code)∈g.subs:=by
 obtain⟨c,s⟩:=g;have h0:=h.fits;rw[zdz]at h0;obtain⟨b4,c,rfl,w0,h0⟩:=h0.inv_int;obtain⟨kind,c,rfl,w1,h0⟩:=h0.inv_int;obtain⟨home,c,rfl,w2,h0⟩:=h0.inv_int;obtain⟨k,c,rfl,w3,h0⟩:=h0.inv_int;obtain⟨n,c,rfl,w4,h0⟩:=h0.inv_int;obtain⟨b,c,rfl,w5,h0⟩:=h0.inv_str;obtain⟨A,l,cap,c,s,rfl,rfl,w6,w7,h0⟩:=h0.inv_sl;obtain⟨r,c,rfl,w8,h0⟩:=h0.inv_int;obtain⟨VA,vl,vc,c,s,rfl,rfl,w9,a8,h0⟩:=h0.inv_sl;obtain⟨n1,c,rfl,b7,h0⟩:=h0.inv_int;obtain⟨lost,c,rfl,c0,h0⟩:=h0.inv_int;obtain⟨ofr,c,rfl,a4,h0⟩:=h0.inv_int;obtain⟨byr,c,rfl,a7,h0⟩:=h0.inv_int;obtain⟨set,c,rfl,b1,h0⟩:=h0.inv_int;obtain⟨full,c,e1,h1⟩:=h0.inv_bool;subst e1;replace h0:=h1;obtain⟨CA,cl,cc,c,s,rfl,rfl,b2,a6,h0⟩:=h0.inv_sl;obtain⟨NA,nl,nc,c,s,rfl,rfl,a9,b0,h0⟩:=h0.inv_sl;obtain⟨rfl,rfl⟩:=h0.inv_nil;have hs:sls (flat 140)=[28,28,311,260]:=by rw[zdz];rfl
 have a3:=h.kids 0 _ (by rw[hs];rfl) rfl;have b6:=h.kids 1 _ (by rw[hs];rfl) rfl;have a5:=h.kids 2 _ (by rw[hs];rfl) rfl;have b3:=h.kids 3 _ (by rw[hs];rfl) rfl;have hv:Ty 28 (.mk [.int .u8 k,.int .i64 n,.string b,.slice A l.length cap,.int .i64 r] [(A,l)]):=by
  refine .mk _ _ _ ?_ λi e A' l' x he hs hx=>?_
  .rw[zc2];exact⟨⟨k,rfl,w3⟩,⟨n,rfl,w4⟩,⟨b,rfl,w5⟩,⟨cap,rfl,w6,w7⟩,⟨r,rfl,w8⟩,rfl,rfl⟩
  .rw[zc2]at he;cases i with
   |zero=>
    simp[sls]at he hs;obtain⟨rfl,rfl⟩:=hs;subst he;exact a3 x hx
   |succ i=>simp at hs
 obtain⟨t,ht,b5⟩:=zol _ hv;obtain⟨ts,a1,a0⟩:=zu3 b6;obtain⟨ns,b9,a2⟩:=zry b3;refine⟨b4,⟨kind,home,t,VA,vc,ts,n1,lost,ofr,byr,set,full,CA,cc,cl,NA,nc,ns⟩,?_,(zbz w0).1,(zbz w0).2,λw lo hi hi'=>?_,CA,by simp[G.subs]⟩
 .have b8:t.cells=[.int .u8 k,.int .i64 n,.string b,.slice A l.length cap,.int .i64 r]:=ht.symm;simp[G.c,Tg.cells,b8,a1,b9]
 .have hr:=G.in_rows.1 hi';refine⟨⟨zfk w1,zbz w2,zbz b7,zbz c0,zbz a4,zbz a7,zfk b1⟩,b5 w lo hi (G.in_rows.2 λA' l' hm=>?_),?_,⟨a6,b2,a5,hr _ _ s_⟩,a2 NA nc w lo hi b0 a9 (hr _ _ s_)⟩
  .simp at hm;obtain⟨rfl,rfl⟩:=hm;exact hr _ _ s_
  .obtain⟨q1,q2⟩:=a0 VA [] [(VA,vl)] w lo hi s_ (hr VA vl s_);refine T.in_mk.2 ⟨⟨by decide,by decide,by decide,by decide,by decide,by rw[a1];exact a8,by rw[a1];exact w9,by decide,by decide⟩,q1,q2⟩
theorem zim {l:List G} (h:∀x∈l,Ty 140 x):∃ths:List (Int×Tg),ths.length=l.length/\(∀z∈ths,∃x∈l,(z.2.code.map G.ssz).sum<=x.esz)/\∀(A:Option Addr) (cap:Nat) (w:World) (lo hi:Nat),l.length*200<=140737488351232->l.length<=cap->(G.row A l).In w lo hi->EnRow w lo hi A cap ths:=by
 have a1:∀i,i<l.length->∃z:Int×Tg,∃x,l[i]? =some x/\x.c= .int .i64 z.1::z.2.cells/\(-9223372036854775808<=z.1/\z.1<=9223372036854775807)/\(∀(w:World) (lo hi:Nat),x.In w lo hi->z.2.In w lo hi)/\(z.2.code.map G.ssz).sum<=x.esz:=λi hi=>by
  have hm:=List.getElem_mem hi;obtain⟨r,x,h1,h2,h3,h4,A,h5⟩:=zo5 (h _ hm);exact⟨(r,x),l[i],List.getElem?_eq_getElem hi,h1,⟨h2,h3⟩,h4,zo4 h5⟩
 obtain⟨ts,a0,hq⟩:=zbr l.length a1;refine⟨ts,a0,λz hz=>?_,λA cap w lo hi hl hc hin=>?_⟩
 .obtain⟨i,hi,rfl⟩:=List.mem_iff_getElem.1 hz;obtain⟨y,hy,-,-,-,h5⟩:=hq i _ (List.getElem?_eq_getElem hi);exact⟨y,List.mem_of_getElem? hy,h5⟩
 obtain⟨h1,h2⟩:=G.row_in.1 hin;refine⟨by rw[a0];exact hc,by rw[a0];exact hl,λhne=>?_,λx hx=>?_⟩
 .obtain⟨b,o,rfl,a4,a6,a7⟩:=h1 (by rintro rfl;simp at a0;exact hne a0);refine⟨b,o,rfl,a4,a6,λi x hx j u hu=>?_⟩;obtain⟨y,hy,e,-,-,-⟩:=hq i x hx;have:=a7 i y hy j u (by rw[e];exact hu);rw[e]at this;have a2:(Value.int .i64 x.1::x.2.cells).length=17:=by
   obtain⟨kind,home,⟨k,n,s,A,cap,l,r⟩,VA,vc,vs,n1,lost,ofr,byr,set,full,CA,cc,a5,NA,nc,a3⟩:=x.2;rfl
  rwa [a2]at this
 .obtain⟨i,hi',rfl⟩:=List.mem_iff_getElem.1 hx;obtain⟨y,hy,-,h3,h4,-⟩:=hq i _ (List.getElem?_eq_getElem hi');exact⟨h3,h4 w lo hi (h2 y (List.mem_of_getElem? hy))⟩
section
variable {H:Type} {enc:TypeId×Value->H}
theorem zkw {W:World} {b0:Nat} {v:Value} {d:DataW H} {p:List MemPlace} (hv:Value.okWide Tryz.prog W .any b0 71 v) (h:DataW.Trod enc Tryz.prog W 0 (λ_=>true) true 71 v d p) (hw:∀m∈d.weights Tryz.prog 71,m<=reachBytes):
 ∃PA pc ps CA cc a0 TA tc ths last MA mc made,zvc W v PA pc ps CA cc a0 TA tc ths last MA mc made/\∀x∈ths,(x.2.code.map G.ssz).sum<=Rows.uptoBulk d:=by
 obtain⟨cs,rfl,b1⟩:=okWide_struct Tryz.underlying71 hv;obtain⟨a2,hf⟩:=h;have ho:=zm7 (S:=Met) zrw zm5 zok a2 6 71 (flat 71) (by
  rw[zfj];intro e he;simp[sls]at he;rcases he with rfl|rfl|rfl|rfl<;>simp[Met]) zig _ _ hf hw
 obtain⟨g,hg,a1,a7,hz⟩:=zl0.tree ho;obtain⟨cs⟩:=cs;have a9:cs=g.c:=hg;obtain⟨c,s⟩:=g;have h0:=Ty.fits a1;rw[zfj]at h0;obtain⟨PA,pl,pc,c,s,rfl,rfl,w1,w2,h0⟩:=h0.inv_sl;obtain⟨CA,cl,cc,c,s,rfl,rfl,w3,w4,h0⟩:=h0.inv_sl;obtain⟨TA,tl,tc,c,s,rfl,rfl,w5,w6,h0⟩:=h0.inv_sl;obtain⟨last,c,rfl,w7,h0⟩:=h0.inv_int;obtain⟨MA,ml,mc,c,s,rfl,rfl,w8,w9,h0⟩:=h0.inv_sl;obtain⟨rfl,rfl⟩:=h0.inv_nil;have hs:sls (flat 71)=[23,3,140,3]:=by rw[zfj];rfl
 have k0:=Ty.kids a1 0 _ (by rw[hs];rfl) rfl;have k1:=Ty.kids a1 1 _ (by rw[hs];rfl) rfl;have k2:=Ty.kids a1 2 _ (by rw[hs];rfl) rfl;have k3:=Ty.kids a1 3 _ (by rw[hs];rfl) rfl;obtain⟨ps,a8,ip⟩:=zg6 zg0 k0;obtain⟨a0,a4,ic⟩:=zg6 zge k1;obtain⟨ths,a6,a3,it⟩:=zim k2;obtain⟨made,a5,im⟩:=zg6 zge k3;have hr:=G.in_rows.1 a7;refine⟨PA,pc,ps,CA,cc,a0,TA,tc,ths,last,MA,mc,made,⟨?_,ip PA pc W _ _ w2 w1 (hr _ _ s_),ic CA cc W _ _ w4 w3 (hr _ _ s_),it TA tc W _ _ w6 w5 (hr _ _ s_),im MA mc W _ _ w9 w8 (hr _ _ s_),zbz w7⟩,λx hx=>?_⟩
 .rw[a9,a8,a4,a6,a5];rfl
 .obtain⟨y,hy,h1⟩:=a3 x hx;have h2:y.esz+1<=Rows.uptoBulk d - 1+1:=Nat.le_trans (zr2 (A:=TA) (l:=tl) (by simp[G.subs]) hy) hz;have h3:=zil d;omega
end
section
variable {H:Type} {enc:TypeId×Value->H}
theorem zcl {a:Assume} {C:Checked} {os:Os} {f:FuncId} {fn:Func} {s:OpenSpec} {k:(H:Type)->List (DataW H)->Bool} (hk:s.cond=some k) {F:Stop.Interp} {conds:List PathCond} {apart fresh handsOn again:Bool}
 (own:ownKnob C.prog.godebug=none) (started:os.Started) (noInit:C.prog.inits.idxOf? f=none) (hfn:C.prog.funcs[f]? =some fn)
 (witness:∃(w:World) (tape:Tape) (i:Input),w.os=os/\(w.forCall tape i).Shaped C.prog/\i.vars=[]/\Input.okWide C.prog (w.forCall tape i) .any w.heap.size f i/\
  s.pre6 enc C.prog fn conds apart (w.forCall tape i).memory i.args/\a.holds C.prog (lone (Frame.enter C.prog f i.args .normal) [] (w.forCall tape i)))
 (contract:∀(W:World) (base:Nat) (args:Array Value) (ds gs:List (DataW H)) (a0:List MemPlace),
  (∀(j:Nat) t v,fn.params[j]? =some t->args[j]? =some v->Value.okWide C.prog W .any base t v)->
  DataW.Whole enc C.prog fn.params.toList s.vars apart W args.toList ds gs a0->k H (ds++gs)=true->
  (DataW.weightsEach C.prog (fn.params.toList++s.bare.plain.varTypes C.prog) (ds++gs)).all (· <=reachBytes)=true->
  Calls C.prog f args W λe W'=>∃v,e= .returned v/\(s.at F).post enc C.prog fn apart fresh handsOn again W args v W'):
 ReturnsInHanded a C os f .any (s.pre6 enc C.prog fn conds apart) ((s.at F).post enc C.prog fn apart fresh handsOn again):=by
 refine returnsInHanded_of_calls own started noInit witness ?_;intro w tape i _ _ _ hok hpre hholds;obtain⟨_,_,_,a5,a1,_,_,_,_,a2⟩:=hok;have e:a5=fn:=Option.some.inj (a1.symm.trans hfn);subst e;obtain⟨ds,gs,a0,hw,-,a4⟩:=(OpenSpec.pre_some hk conds apart _ _).1 hpre.1;have a3:=DataW.Whole.of_heap (w':=w.forCall tape i) r_ hw;refine(contract (w.forCall tape i) w.heap.size i.args ds gs a0 a2 a3 a4 (hpre.2.weights hw)).mono λe W' ⟨v,he,hp⟩=>?_;subst he;exact ChangeSpec.post_blind hp
end
end Go.Proofs.YtlejelbefmkakaaGreat
namespace Go.Proofs.YtlejelbefmkakaaGreat
theorem zya:ownKnob Tryz.prog.godebug=none:=k_
theorem zii:laidOutB Tryz.prog=true:=k_
end Go.Proofs.YtlejelbefmkakaaGreat

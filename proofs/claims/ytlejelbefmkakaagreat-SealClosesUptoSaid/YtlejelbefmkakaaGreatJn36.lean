/- Texts joined: Qs, Qs2. -/
import Derived.Test.YtlejelbefmkakaaGreatJn1
import Derived.Tactics2
namespace Go.Proofs.YtlejelbefmkakaaGreat
open Go.RowKit
def tl3 (_ _:Unit) (R:List Oper):List Oper:=R
def du (d:Option Tmp):Oper:={dst:=d,op:=.assign (.const undef),type:=0,pos:="",after:=#[],guard:=none}
def zd2 (a:Act) (o:Oper):Option Value:=
 match o.op with
 | .move x=>some (a.eval x)
 | .assign x=>some (a.eval x)
 | .pick c x y=>match a.eval c with
  | .bool b=>some (if b=true then a.eval x else a.eval y)
  |_=>none
 |_=>none
def zo7 (ops:Array Oper):List Oper->Act->Option Act
 |[],a=>some a
 |o::r,a=>if Region.wanted o (yielded ops a.tmps)=true then(zd2 a o).bind λv=>zo7 ops r (a.put o.dst v)else zo7 ops r (a.put o.dst undef)
theorem zkx {P:Program} {o:Oper} {a:Act} {w:World} {v:Value} {K:Act->World->Prop} {Q:Exit->Act->World->Prop} (h:zd2 a o=some v) (hK:K (a.put o.dst v) w):o.wp P a w K Q:=by
 unfold zd2 at h;split at h
 .rename_i x ho;simp only[Option.some.injEq]at h;subst h;unfold Oper.wp;simp[execOp,ho];exact hK
 .rename_i x ho;simp only[Option.some.injEq]at h;subst h;unfold Oper.wp;simp[execOp,ho];exact hK
 .rename_i c x y ho;split at h
  .rename_i b hb;simp only[Option.some.injEq]at h;subst h;unfold Oper.wp;simp[execOp,ho,hb,asBool];exact hK
  .cases h
 .cases h
theorem zbd {P:Program} {fn:Func} {R:Ending->World->Prop} {a:Act} {w:World} {t:Tmp} {v:Value} (hf:fn.results=#[.tmp t]) (h1:a.tmps.getD t undef=v) (h2:a.defers=[]) (hR:R (.returned v) w):Code.ret.wp P (bodyPost P fn R) a w:=
 wp_ret (bodyPost_ret (v:=v) (by rw[results_tmp hf,h1]) h2 hR)
structure Sl (a:Act) (t:Nat) (v:Value):Prop where
 eq:a.tmps[t]?.getD undef=v
 lt:t<a.tmps.size
theorem Sl.eval {a:Act} {t:Nat} {v:Value} (h:Sl a t v):a.eval (.tmp t)=v:=by
 show a.tmps.getD t undef=v;rw[Array.getD_eq_getD_getElem?];exact h.eq
theorem Sl.at_ {a:Act} {t:Nat} {v:Value} (h:Sl a t v):a.tmps[t]? =some v:=by
 have h1:=h.eq;rw[Array.getElem?_eq_getElem h.lt]at h1 ⊢;exact congrArg _ h1
theorem ze2 (a:Act) (d:Option Tmp) (u:Value):(a.put d u).tmps.size=a.tmps.size:=by
 cases d<;>simp[Act.put]
theorem zfm (a:Act) (d:Option Tmp) (u:Value):(a.put d u).defers=a.defers:=by
 cases d<;>rfl
theorem Sl.ne {a:Act} {t d:Nat} {v u:Value} (h:Sl a t v) (hd:d≠t):Sl (a.put (some d) u) t v:=by
 refine⟨?_,by rw[ze2];exact h.lt⟩;have:=h.eq;simp only[Act.put];rw[Array.getElem?_setIfInBounds_ne hd];exact this
theorem Sl.new {a:Act} {d:Nat} {u:Value} (h:d<a.tmps.size):Sl (a.put (some d) u) d u:=by
 refine⟨?_,by rw[ze2];exact h⟩;simp only[Act.put];rw[Array.getElem?_setIfInBounds_self_of_lt h];rfl
theorem zm9 {P:Program} {ops:Array Oper} {Q:Exit->Act->World->Prop} {o:Oper} {rest:List Oper} {a:Act} {w:World} {v:Value} (hw:Region.wanted o (yielded ops a.tmps)=true) (hr:(execOp a.eval o).run P w= .ok (.value v) w) (h:wpList P ops Q rest (a.put o.dst v) w):wpList P ops Q (o::rest) a w:=by
 refine wpList_step λK hK=>?_;rw[if_pos hw];unfold Oper.wp;rw[hr];exact hK _ _ h
abbrev Kn:=List (Nat×Value)
def Kn.get (k:Kn) (t:Nat):Option Value:=(k.find? λx=>x.1==t).map Prod.snd
def Kn.set (k:Kn) (d:Option Tmp) (b:Option Value):Kn:=
 match d,b with
 |none,_=>k
 |some d,some b=>(d,b)::k.filter λx=>x.1 !=d
 |some d,none=>k.filter λx=>x.1 !=d
def Kn.opd (k:Kn):Operand->Option Value
 | .tmp t=>k.get t
 | .const v=>some v
 |_=>none
def zjr:Value->Option Bool
 | .bool b=>some b
 |_=>none
theorem zo8 {v:Value} {b:Bool} (h:zjr v=some b):v= .bool b:=by
 unfold zjr at h;split at h
 .injection h with h;rw[h]
 .cases h
def Kn.want (k:Kn) (ops:Array Oper) (o:Oper):Option Bool:=
 match o.guard with
 |none=>some true
 |some (j,b)=>(((ops[j]?).bind (·.dst)).bind k.get).map λv=>zjr v==some b
def zna (n:Nat):Option Tmp->Bool
 |some d=>decide (d<n)
 |none=>true
def zdr (n:Nat) (ops:Array Oper):List Oper->Kn->Option Kn
 |[],k=>some k
 |o::r,k=>
  if zna n o.dst=true then
   (k.want ops o).bind λwd=>if wd=true then
    match o.op with
    | .move x=>(k.opd x).bind λb=>zdr n ops r (k.set o.dst (some b))
    | .assign x=>(k.opd x).bind λb=>zdr n ops r (k.set o.dst (some b))
    | .pick c x y=>((k.opd c).bind zjr).bind λb=>((if b=true then k.opd x else k.opd y)).bind λb'=>zdr n ops r (k.set o.dst (some b'))
    |_=>none
   else zdr n ops r (k.set o.dst (some undef))
  else none
def Kn.Ok (k:Kn) (a:Act):Prop:=∀t b,(t,b)∈k->Sl a t b
theorem Kn.get_mem {k:Kn} {t:Nat} {b:Value} (h:k.get t=some b):(t,b)∈k:=by
 unfold Kn.get at h;obtain⟨x,hx,rfl⟩:=Option.map_eq_some_iff.1 h;have h1:=List.find?_some hx;have h2:=List.mem_of_find?_eq_some hx;have:x.1=t:=by simpa using h1
 rw[<-this];exact h2
theorem Kn.Ok.get {k:Kn} {a:Act} (h:k.Ok a) (t:Nat) {b:Value} (hx:k.get t=some b):a.tmps[t]?.getD undef=b:=(h _ _ (Kn.get_mem hx)).eq
theorem Kn.Ok.opd {k:Kn} {a:Act} (h:k.Ok a) {x:Operand} {b:Value} (hx:k.opd x=some b):a.eval x=b:=by
 unfold Kn.opd at hx;split at hx
 .exact(h _ _ (Kn.get_mem hx)).eval
 .injection hx with hx
 .cases hx
theorem Kn.Ok.set {k:Kn} {a:Act} (h:k.Ok a) {d:Option Tmp} {b:Option Value} {v:Value} (hv:∀c,b=some c->v=c) (hd:∀t,d=some t->t<a.tmps.size):(k.set d b).Ok (a.put d v):=by
 intro t c hm;cases d with
 |none=>exact h t c hm
 |some d=>
  cases b with
  |none=>
   simp only[Kn.set,List.mem_filter,bne_iff_ne,ne_eq]at hm;exact(h t c hm.1).ne λe=>hm.2 e.symm
  |some b=>
   simp only[Kn.set,List.mem_cons,List.mem_filter,bne_iff_ne,ne_eq,Prod.mk.injEq]at hm;rcases hm with⟨rfl,rfl⟩|hm
   .rw[hv _ rfl];exact Sl.new (hd _ rfl)
   .exact(h t c hm.1).ne λe=>hm.2 e.symm
theorem Kn.Ok.want {k:Kn} {a:Act} (h:k.Ok a) {ops:Array Oper} {o:Oper} {wd:Bool} (hw:k.want ops o=some wd):Region.wanted o (yielded ops a.tmps)=wd:=by
 unfold Kn.want at hw;split at hw
 .rename_i hg;injection hw with hw
  subst hw;simp[Region.wanted,hg]
 .rename_i j b hg;obtain⟨v,hv,rfl⟩:=Option.map_eq_some_iff.1 hw;obtain⟨s,hs,hk⟩:=Option.bind_eq_some_iff.1 hv;have h1:=(h _ _ (Kn.get_mem hk)).at_;have hy:yielded ops a.tmps j=zjr v:=by
   unfold yielded;rw[hs];simp only[Option.bind_some,h1];cases v<;>rfl
  simp[Region.wanted,hg,hy]
theorem zo9 {n:Nat} {d:Option Tmp} {a:Act} (hd:zna n d=true) (hn:a.tmps.size=n):∀t,d=some t->t<a.tmps.size:=λt ht=>by
 rw[ht]at hd;rw[hn];simpa[zna]using hd
theorem zeb {P:Program} {ops:Array Oper} {Q:Exit->Act->World->Prop} {w:World} {n:Nat} {l2:List Oper}:∀{l:List Oper} {a:Act} {k k':Kn},zdr n ops l k=some k'->k.Ok a->a.tmps.size=n->(∀a':Act,k'.Ok a'->a'.tmps.size=n->a'.defers=a.defers->wpList P ops Q l2 a' w)->wpList P ops Q (l++l2) a w
 |[],a,k,k',h,hk,hn,hq=>by
  simp only[zdr,Option.some.injEq]at h;subst h;exact hq a hk hn rfl
 |o::r,a,k,k',h,hk,hn,hq=>by
  simp only[zdr]at h;by_cases hd:zna n o.dst=true
  .rw[if_pos hd]at h;have a3:=zo9 hd hn;obtain⟨wd,a4,h⟩:=Option.bind_eq_some_iff.1 h;have hw:=hk.want a4;have a0:∀(v:Value) (b:Option Value),(∀c,b=some c->v=c)->zdr n ops r (k.set o.dst b)=some k'->wpList P ops Q (r++l2) (a.put o.dst v) w:=λv b hv h=>
    zeb h (hk.set hv a3) (by rw[ze2];exact hn) λa' h1 h2 h3=>hq a' h1 h2 (by rw[h3,zfm])
   show wpList P ops Q (o::(r++l2)) a w;refine wpList_step λK hK=>?_;cases wd with
   |false=>
    rw[if_neg (by rw[hw];decide)];exact hK _ _ (a0 undef (some undef) (λc hc=>by injection hc) (by simpa using h))
   |true=>
    rw[if_pos hw];simp only[if_true]at h;split at h
    .rename_i x ho;obtain⟨b,hb,h⟩:=Option.bind_eq_some_iff.1 h;exact zkx (v:=b) (by simp only[zd2,ho,hk.opd hb]) (hK _ _ (a0 _ (some b) (λc hc=>by injection hc) h))
    .rename_i x ho;obtain⟨b,hb,h⟩:=Option.bind_eq_some_iff.1 h;exact zkx (v:=b) (by simp only[zd2,ho,hk.opd hb]) (hK _ _ (a0 _ (some b) (λc hc=>by injection hc) h))
    .rename_i c x y ho;obtain⟨b,hb,h⟩:=Option.bind_eq_some_iff.1 h;obtain⟨v0,a5,a2⟩:=Option.bind_eq_some_iff.1 hb;obtain rfl:=zo8 a2;obtain⟨b',a1,h⟩:=Option.bind_eq_some_iff.1 h;refine zkx (v:=b') ?_ (hK _ _ (a0 _ (some b') (λc hc=>by injection hc) h));simp only[zd2,ho,hk.opd a5];cases b
     .rw[if_neg d_]at a1 ⊢;rw[hk.opd a1]
     .rw[if_pos rfl]at a1 ⊢;rw[hk.opd a1]
    .cases h
  .rw[if_neg hd]at h;cases h
theorem zav {P:Program} {ops:Array Oper} {Q:Exit->Act->World->Prop} {w:World} {n:Nat} {l:List Oper} {a:Act} {k:Kn} (t:Nat) (v:Value) (h:(zdr n ops l k).bind (λk'=>k'.get t)=some v) (hk:k.Ok a) (hn:a.tmps.size=n) (hq:∀a':Act,a'.tmps.getD t undef=v->a'.defers=a.defers->Q .normal a' w):wpList P ops Q l a w:=by
 obtain⟨k',h1,h2⟩:=Option.bind_eq_some_iff.1 h;have:=zeb (P:=P) (Q:=Q) (w:=w) (l2:=[]) h1 hk hn λa' e1 e2 e3=>wpList_nil (hq a' (by
  rw[Array.getD_eq_getD_getElem?];exact e1.get t h2) e3)
 rwa [List.append_nil]at this
theorem zad {P:Program} {ops:Array Oper} {Q:Exit->Act->World->Prop} {w:World} {n:Nat} {o:Oper} {rest:List Oper} {a:Act} {k:Kn} {v:Value} (hk:k.Ok a) (hn:a.tmps.size=n) (hw:k.want ops o=some true) (hd:zna n o.dst=true) (hr:(execOp a.eval o).run P w= .ok (.value v) w)
 (h:∀a':Act,(k.set o.dst (some v)).Ok a'->a'.tmps.size=n->a'.defers=a.defers->wpList P ops Q rest a' w):wpList P ops Q (o::rest) a w:=
 zm9 (hk.want hw) hr (h _ (hk.set (λc hc=>by injection hc) (zo9 hd hn)) (by rw[ze2];exact hn) (zfm _ _ _))
theorem zky {P:Program} {ops:Array Oper} {Q:Exit->Act->World->Prop} {w:World} {n:Nat} {l:List Oper} {a:Act} {k:Kn} (m:Nat) (k':Kn) (h:zdr n ops (l.take m) k=some k') (hk:k.Ok a) (hn:a.tmps.size=n) (hq:∀a':Act,k'.Ok a'->a'.tmps.size=n->a'.defers=a.defers->wpList P ops Q (l.drop m) a' w):wpList P ops Q l a w:=by
 have:=zeb (P:=P) (Q:=Q) (w:=w) (l2:=l.drop m) h hk hn hq;rwa [List.take_append_drop]at this
theorem znb {P:Program} {ops:Array Oper} {Q:Exit->Act->World->Prop} {w:World} {l:List Oper} {a:Act} (h:∀a',a'=a->wpList P ops Q l a' w):wpList P ops Q l a w:=h a rfl
theorem zjs {P:Program} {ops:Array Oper} {Q:Exit->Act->World->Prop} {w:World} {n:Nat} {o:Oper} {rest:List Oper} {a:Act} {k:Kn} {f:FuncId} {args:Array Value} (hk:k.Ok a) (hn:a.tmps.size=n) (hw:k.want ops o=some true) (hd:zna n o.dst=true) (hr:(execOp a.eval o).run P w= .ok (.enter f args) w)
 (hc:Calls P f args w λe w'=>∃v,e= .returned v/\∀a':Act,(k.set o.dst (some v)).Ok a'->a'.tmps.size=n->a'.defers=a.defers->wpList P ops Q rest a' w'):wpList P ops Q (o::rest) a w:=by
 refine wpList_step λK hK=>?_;rw[if_pos (hk.want hw)];unfold Oper.wp;rw[hr,Oper.upon_enter];refine hc.mono ?_;rintro e w' ⟨v,rfl,h⟩;exact hK _ _ (h _ (hk.set (λc hc=>by injection hc) (zo9 hd hn)) (by rw[ze2];exact hn) (zfm _ _ _))
def Kn.pickS (k:Kn):List Nat->Option Kn
 |[]=>some []
 |t::ts=>(k.get t).bind λv=>(k.pickS ts).map λr=>(t,v)::r
theorem Kn.Ok.pickS {k:Kn} {a:Act} (h:k.Ok a):∀{ts:List Nat} {k2:Kn},k.pickS ts=some k2->k2.Ok a
 |[],k2,e=>by
  simp only[Kn.pickS,Option.some.injEq]at e;subst e;intro t b hm;cases hm
 |t::ts,k2,e=>by
  simp only[Kn.pickS]at e;obtain⟨v,hv,e⟩:=Option.bind_eq_some_iff.1 e;obtain⟨r,hr,rfl⟩:=Option.map_eq_some_iff.1 e;intro t' b hm;rcases List.mem_cons.1 hm with hm|hm
  .injection hm with h1 h2
   subst h1 h2;exact h _ _ (Kn.get_mem hv)
  .exact h.pickS hr _ _ hm
theorem zau {P:Program} {ops:Array Oper} {Q:Exit->Act->World->Prop} {w:World} {n:Nat} {l:List Oper} {a:Act} {k:Kn} (m:Nat) (ts:List Nat) (k2:Kn) (h:(zdr n ops (l.take m) k).bind (λk'=>k'.pickS ts)=some k2) (hk:k.Ok a) (hn:a.tmps.size=n) (hq:∀a':Act,k2.Ok a'->a'.tmps.size=n->a'.defers=a.defers->wpList P ops Q (l.drop m) a' w):wpList P ops Q l a w:=by
 obtain⟨k',h1,h2⟩:=Option.bind_eq_some_iff.1 h;exact zky m k' h1 hk hn λa' e1 e2 e3=>hq a' (e1.pickS h2) e2 e3
end Go.Proofs.YtlejelbefmkakaaGreat

/- Texts joined: Wo17, Wg4, Wg12, Gf3, Gf4, Gf5, Gq2, Gq3, Gq4. -/
import Derived.Test.YtlejelbefmkakaaGreatJn1
import Derived.Test.YtlejelbefmkakaaGreatJn2
import Derived.Test.YtlejelbefmkakaaGreatJn4
import Derived.Test.YtlejelbefmkakaaGreatJn5
import Derived.Test.YtlejelbefmkakaaGreatJn9
import Derived.WalkMore
set_option maxHeartbeats 4000000
set_option maxRecDepth 100000
namespace Go.Proofs.YtlejelbefmkakaaGreat
open Go.RowKit
def zix (x:Th) (W:World) (e:Ending) (w':World):Prop:=
 ∃t':T,e= .returned (.tuple #[Th.val ⟨x.kind,x.home,t',x.n,x.lost,x.ofr,x.byr,x.set,x.full⟩,.int .i64 0])/\t'.v=x.v.v/\t'.Sh w' W.heap.size w'.heap.size/\Fr No W w'
theorem zla {m:Wm} {lo:Nat} {W:World} (h:m.Ok lo W) {r:Int} {x:Nat×Th} (hg:m.get r=some x) (hm:x.2.v.v.may=true):
 Calls Tryz.prog 89 #[.pointer (some ⟨m.wb,0,none⟩),.int .i64 r] W (zix x.2 W):=by
 have a4:=(Fr.refl No W).alloc (.cells (zat 0 0 0 0 ⟨#[]⟩ none 0 0 0 0 0 0 0 0 false) 138);have h0:=h.no a4;have hN:=zh6 h0;have hI:=zqg h0 r;have hl:=zcq h0 r;have hx:=Wm.get_mem hg;have a8:=h0.box x hx;have c0:=zgn h0;have q0:=h0.blk.lt;have a2:=(h.vals x hx).inn;have a6:(m.get r).isSome=true:=by rw[hg];rfl
 rw[a6]at hI;rw[hg]at hl;have a5:=Blk.new W 138 (zat 0 0 0 0 ⟨#[]⟩ none 0 0 0 0 0 0 0 0 false);obtain⟨gx,kind,home,⟨k,n,s,A,cap,l,r1⟩,n1,lost,ofr,byr,set,full⟩:=x;have a1:Blk (W.alloc (.cells (zat 0 0 0 0 ⟨#[]⟩ none 0 0 0 0 0 0 0 0 false) 138)) gx 138 (zat kind home k n s A l.length cap r1 n1 lost ofr byr set full):=a8;have hO:=λW' (f:Fr No W W')=>zfd kind home k n s A cap l r1 n1 lost ofr byr set full W' W.heap.size (T.In.more (Nat.zero_le _) (Nat.le_refl _) _ (a2.no f (Nat.le_refl _))) f.size hm;simp only[Option.map_some]at hl;unfold zix;simp only;generalize (T.mk k n s A cap l r1).v=u at*;unfold zat at a1 a4 a5 hO hN hI hl c0 q0;obtain⟨d0,d1,d2,d3,d4,d5,d6,d7,d8,d9,b2,b4,c1,b8,b1,b0⟩:=a1.cells16;have dq:=a1.lt;have HN:=zaa hN;have HI:=zaa hI;have HO:=zaa hO;have a7:=zaa a4;have b5:=zaa a5;clear hN hI hO a4 a5 h0 hx a8 a1 a2 a6 h hg hm;go_enter Tryz.func89,Tryz.ntmps89;go_wp2_with fail;generalize b6:World.alloc W _=W0 at*;refine HN.out.mono ?_;rintro e w' ⟨rfl,rfl⟩;go_wp2_with fail;refine HI.out.mono ?_;rintro e w' ⟨rfl,rfl⟩;go_wp2_with fail;refine(HO.out w' a7.out).mono ?_;rintro e w1 ⟨⟨k2,n2,s2,A2,a0,l2,r2⟩,rfl,hv,a2,f1⟩;have a3:(Th.val ⟨kind,home,T.mk k2 n2 s2 A2 a0 l2 r2,n1,lost,ofr,byr,set,full⟩)= .agg (zat kind home k2 n2 s2 A2 l2.length a0 r2 n1 lost ofr byr set full):=rfl;rw[a3];have hb:=b5.out.fr f1 λh=>h;obtain⟨e0,e1,e2,e3,e4,e5,e6,e7,e8,e9,c7,c5,c2,c3,c6,c4⟩:=hb.cells16;have ez:=hb.frozen;have c9:=hb.lt;have HV:=zaa hv;have a9:=zaa a2;have b7:=zaa f1;unfold zat;clear hb hv a2 f1 d0 d1 d2 d3 d4 d5 d6 d7 d8 d9 b2 b4 c1 b8 b1 b0 dq a3 c0 q0 hl;go_wp2_with fail;refine bodyPost_ret (v:=.tuple #[.agg (zat kind home k2 n2 s2 A2 l2.length a0 r2 n1 lost ofr byr set full),.int .i64 0]) (by simp[results,Tryz.results89,zat,go_sem, *]) rfl ?_;generalize b3:World.setCell _ _ _=We;have fe:Fr (λi=>i=W.heap.size) w1 We:=by
  rw[<-b3];repeat(first|with_reducible exact Fr.refl _ w1|with_reducible refine Fr.set ?_ s_ _)
 have c8:W.heap.size+1<=w'.heap.size:=by rw[<-b6];simp
 have b9:∀b∈(T.mk k2 n2 s2 A2 a0 l2 r2).blocks,w'.heap.size<=b:=λb hb=>(T.In.blocks _ a9.out.inn b hb).1;refine⟨T.mk k2 n2 s2 A2 a0 l2 r2,rfl,HV.out,((a9.out.fr fe λb hb h=>by have:=b9 b hb;omega).more o_ fe.size),(a7.out.trans b7.out).trans' fe λi hi h=>by omega⟩
def Wm.put (m:Wm) (i:Nat) (x:Th):Wm:={m with th:=m.th.set i ((m.th.getD i (0,x)).1,x)}
section
variable {m:Wm} {lo:Nat} {W:World} {i g:Nat} {x x':Th}
end
inductive Way (m:Wm):Int->List Int->Prop where
 |none {r:Int} (h:m.get r= .none):Way m r []
 |base {r:Int} {y:Nat×Th} (h:m.get r=some y) (hk:y.2.kind≠14/\y.2.kind≠15/\y.2.kind≠16):Way m r [r]
 |wrap {r:Int} {y:Nat×Th} {l:List Int} (h:m.get r=some y) (hk:y.2.kind=14\/y.2.kind=15\/y.2.kind=16) (hl:Way m y.2.ofr l):Way m r (r::l)
def zzp:Value->Nat
 | .slice _ n _=>n
 |_=>0
def zzi (k:Int):Bool:=decide (k=14\/k=15\/k=16)
inductive Gm.Hgt (m:Gm):Int->Nat->Prop
 |base {r:Int} {x:Nat×Tg} (h:m.get r=some x) (hk:x.2.kind≠14/\x.2.kind≠15/\x.2.kind≠16):Gm.Hgt m r 0
 |wrap {r:Int} {x:Nat×Tg} {n:Nat} (h:m.get r=some x) (hk:x.2.kind=14\/x.2.kind=15\/x.2.kind=16) (hl:Gm.Hgt m x.2.ofr n):Gm.Hgt m r (n+1)
theorem Gm.Hgt.uniq {m:Gm} {r:Int} {a:Nat} (h:m.Hgt r a):∀{b:Nat},m.Hgt r b->a=b:=by
 induction h with
 |base h hk=>
  intro b hb;cases hb with
  |base h' _=>rfl
  |wrap h' hk' _=>rw[h]at h';cases h';rcases hk' with e|e|e<;>simp[e]at hk
 |wrap h hk hl ih=>
  intro b hb;cases hb with
  |base h' hk'=>rw[h]at h';cases h';rcases hk with e|e|e<;>simp[e]at hk'
  |wrap h' hk' hl'=>rw[h]at h';cases h';rw[ih hl']
theorem Gm.Abl.hgt {m:Gm} {r:Int} {a:Nat} (h:m.Abl r a):∃n,m.Hgt r n:=by
 induction h with
 |base h hk=>exact⟨0,.base h hk⟩
 |facet h hk hs ha ih=>obtain⟨n,hn⟩:=ih;exact⟨n+1,.wrap h (.inl hk) hn⟩
 |pass h hk ha ih=>obtain⟨n,hn⟩:=ih;exact⟨n+1,.wrap h (.inr hk) hn⟩
noncomputable def Gm.hgt (m:Gm) (r:Int):Nat:=Classical.epsilon (m.Hgt r)
theorem Gm.hgt_eq {m:Gm} {r:Int} {n:Nat} (h:m.Hgt r n):m.hgt r=n:=(Classical.epsilon_spec (⟨n,h⟩:∃n,m.Hgt r n)).uniq h
theorem zct {W:World} {b:Nat} {x:Tg} {t:TypeId} (h:Blk W b t x.cells.toArray):W.cell? ⟨b,0,none⟩=some (.int .u8 x.kind)/\W.cell? ⟨b,1,none⟩=some (.int .i64 x.home)/\W.cell? ⟨b,10,none⟩=some (.int .i64 x.ofr)/\W.cell? ⟨b,11,none⟩=some (.int .i64 x.byr)/\W.cell? ⟨b,12,none⟩=some (.int .u8 x.set)/\W.cell? ⟨b,13,none⟩=some (.bool x.full):=by
 obtain⟨kind,home,⟨k,n,s,A,cap,l,r⟩,VA,vc,vs,n1,lost,ofr,byr,set,full,CA,cc,a1,NA,nc,a0⟩:=x;exact⟨h.cell 0,h.cell 1,h.cell 10,h.cell 11,h.cell 12,h.cell 13⟩
theorem zba {m:Gm} {lo:Nat} {W:World} (h:m.Ok lo W):W.cell? ⟨m.wb,2,none⟩=some (.map (some m.M)):=by
 have c0:=h.blk.cell 2;simpa only[Gm.cells,List.getElem?_toArray,List.getElem?_cons_zero,List.getElem?_cons_succ]using c0
theorem ztg {m:Gm} {lo:Nat} {W:World} (h:m.Ok lo W) {r:Int} {a:Nat} (ha:m.Abl r a):Calls Tryz.prog 79 #[.pointer (some ⟨m.wb,0,none⟩),.int .i64 r] W λe w'=>e= .returned (.int .u8 (a:Int))/\Fr No W w':=by
 have b0:=zaa h;have HA:=zaa ha;clear h ha;go_enter Tryz.func79,Tryz.ntmps79;go_wp2_with fail;go_step3;go_wp2_with fail;go_step3;go_wp2_with fail;go_loopw [1,5] (λx sv wr=>∃(rr:Int) (s b:Nat),x= .int .i64 rr/\sv= .int .u8 (s:Int)/\s<64/\m.Abl rr b/\s&&&b=a/\Fr No W wr) (λx _ _=>m.hgt (intOf x))
 case atStart=>exact⟨r,63,a,rfl,rfl,by decide,HA.out,zkh HA.out.lt,Fr.refl _ _⟩
 case round=>
  obtain⟨rr,s,b,rfl,rfl,hs,a8,a2,f⟩:=hrel;have a0:=b0.out.no f;have hI:=zf9 a0 rr;have hl:=zbt a0 rr;have x2:=zba a0;have xq:=a0.blk.lt;have HF:=zaa f;cases a8 with
  |base hg hk=>
   rename_i y;obtain⟨d0,-,-,-,-,-⟩:=zct (a0.box _ (Gm.get_mem hg));have dq:=(a0.box _ (Gm.get_mem hg)).lt;rw[hg]at hI hl;simp only[Option.map_some]at hl;have hc:=λW'=>zx3 y.2.kind W';have b8:(y.2.kind==14)=false:=by simpa using hk.1
   have b5:(y.2.kind==15)=false:=by simpa using hk.2.1
   have b6:(y.2.kind==16)=false:=by simpa using hk.2.2
   have HI:=zaa hI;have HC:=zaa hc;have hlt:=zn0 y.2.kind;have b1:=zaa hlt;have a3:=zaa a2;have HS:=zaa hs;generalize canN y.2.kind=cn at*;generalize y.2.kind=kd at*;clear a0 hI hc f hk hg hlt a2 hs;go_wp2_with fail;refine HI.out.mono ?_;rintro e w' ⟨rfl,rfl⟩;go_wp2_with fail;refine(HC.out w').mono ?_;rintro e w1 ⟨rfl,f1⟩;have hb:=Blk.new w1 24 #[.int .u8 (s:Int),.int .u8 (cn:Int)];have hm:=zn3 HS.out (Nat.lt_trans b1.out d_) (hb.cell 0) (hb.cell 1) hb.lt;have HM:=zaa hm;have a6:=zaa ((HF.out.trans f1).alloc (.cells #[.int .u8 (s:Int),.int .u8 (cn:Int)] 24));clear hb hm f1;go_wp2_with fail;refine HM.out.mono ?_;rintro e w2 ⟨rfl,rfl⟩;go_wp2;rw[Exit.noGoto_ret];go_ret;refine⟨?_,a6.out⟩;rw[<-a3.out];rfl
  |facet hg hk hst ha'=>
   rename_i y t b';obtain⟨d0,-,a7,-,b3,-⟩:=zct (a0.box _ (Gm.get_mem hg));have dq:=(a0.box _ (Gm.get_mem hg)).lt;rw[hk]at d0;rw[hst]at b3;rw[hg]at hI hl;simp only[Option.map_some]at hl;have HI:=zaa hI;have a9:=zaa a0;have HG:=zaa hg;have HK:=zaa hk;have a5:=zaa ha';have a3:=zaa a2;have HS:=zaa hs;have ht:t<256:=by
    have:=(a0.st _ (Gm.get_mem hg)).inn.fit.set;simp only at this;rw[hst]at this;omega
   clear a0 hI f hk hg ha' a2 hs;go_wp2_with fail;refine HI.out.mono ?_;rintro e w' ⟨rfl,rfl⟩;have hb:=Blk.new w' 24 #[.int .u8 (s:Int),.int .u8 (t:Int)];have hm:=zn3 HS.out ht (hb.cell 0) (hb.cell 1) hb.lt;have a4:=(Fr.refl No w').alloc (.cells #[.int .u8 (s:Int),.int .u8 (t:Int)] 24);have b7:=(a4.cell dq λh=>h).trans a7;have b4:=Nat.lt_of_lt_of_le dq a4.size;have HM:=zaa hm;have a6:=zaa (HF.out.trans a4);clear hb hm a4;go_wp2_with fail;refine HM.out.mono ?_;rintro e w2 ⟨rfl,rfl⟩;go_wp2;go_roundw
   case rel=>
    exact⟨y.2.ofr,s&&&t,b',rfl,rfl,zwp HS.out,a5.out,by rw[Nat.and_assoc];exact a3.out,a6.out⟩
   case measure=>
    obtain⟨n,hn⟩:=a5.out.hgt;have e1:=Gm.hgt_eq hn;have e2:=Gm.hgt_eq (Gm.Hgt.wrap HG.out (.inl HK.out) hn);simp[intOf,e1,e2]
  |pass hg hk ha'=>
   rename_i y;obtain⟨d0,-,a7,-,-,-⟩:=zct (a0.box _ (Gm.get_mem hg));have dq:=(a0.box _ (Gm.get_mem hg)).lt;rw[hg]at hI hl;simp only[Option.map_some]at hl;have HI:=zaa hI;have HG:=zaa hg;have HK:=zaa hk;have a5:=zaa ha';have a3:=zaa a2;have HS:=zaa hs;have a1:m.hgt y.2.ofr<m.hgt rr:=by
    obtain⟨n,hn⟩:=ha'.hgt;rw[Gm.hgt_eq hn,Gm.hgt_eq (Gm.Hgt.wrap hg (.inr hk) hn)];omega
   have b2:=zaa a1;clear a0 hI f hg ha' a2 hs a1;rcases hk with hk|hk;all_goals
    rw[hk]at d0;clear hk;go_wp2_with fail;refine HI.out.mono ?_;rintro e w' ⟨rfl,rfl⟩;go_wp2;go_roundw
    case rel=>exact⟨y.2.ofr,s,b,rfl,rfl,HS.out,a5.out,a3.out,HF.out⟩
    case measure=>
     have:=b2.out;simpa[intOf]using this
theorem zn4 (a s b t:Int) (w:World):(Op.equal 254 (.agg #[.int .i64 a,.int .u8 s]) (.agg #[.int .i64 b,.int .u8 t])).run Tryz.prog w= .ok (decide (a=b/\s=t)) w:=by
 by_cases h1:a=b
 .subst h1;by_cases h2:s=t
  .subst h2;simp[Op.equal,Op.maxDepth,go_sem]
  .have e2:(s==t)=false:=by simpa using h2
   simp[Op.equal,Op.maxDepth,go_sem,h2,e2]
 .have e1:(a==b)=false:=by simpa using h1
  simp[Op.equal,Op.maxDepth,go_sem,h1,e1]
theorem zff (e:Bool) (a s:Int) (w:World):(Instr.checkKey e 10000 254 (.agg #[.int .i64 a,.int .u8 s])).run Tryz.prog w= .ok () w:=by
 have:∀d,(Instr.checkKey e (d+2) 254 (.agg #[.int .i64 a,.int .u8 s])).run Tryz.prog w= .ok () w:=λd=>by simp[Instr.checkKey,go_sem]
 exact this 9998
theorem zjb {a s:Int} {w:World}:∀{es:List MapEntry} {i:Nat},(∀e∈es,∃b t:Int,e.key= .agg #[.int .i64 b,.int .u8 t]/\¬(a=b/\s=t))->(Instr.findAsking 254 (.agg #[.int .i64 a,.int .u8 s]) es i).run Tryz.prog w= .ok none w
 |[],_,_=>rfl
 |e::es,i,h=>by
  obtain⟨b,t,hk,a0⟩:=h e s_;unfold Instr.findAsking;simp only[Sem.run_bind,hk,zn4,Result.andThen_ok,decide_eq_false a0,Bool.false_eq_true,if_false];exact zjb λe he=>h e (by simp[he])
theorem zjc {a s:Int} {w:World}:∀{es:List MapEntry} {i j:Nat} {e:MapEntry},es[j]? =some e->e.key= .agg #[.int .i64 a,.int .u8 s]->(∀k e',k<j->es[k]? =some e'->∃b t:Int,e'.key= .agg #[.int .i64 b,.int .u8 t]/\¬(a=b/\s=t))->
 (Instr.findAsking 254 (.agg #[.int .i64 a,.int .u8 s]) es i).run Tryz.prog w= .ok (some (i+j,e.val)) w
 |[],_,j,e,h,_,_=>by simp at h
 |e0::es,i,0,e,h,hk,_=>by
  simp at h;subst h;unfold Instr.findAsking;simp[Sem.run_bind,hk,zn4]
 |e0::es,i,j+1,e,h,hk,hb=>by
  obtain⟨b,t,a0,a1⟩:=hb 0 e0 o_ rfl;unfold Instr.findAsking;simp only[Sem.run_bind,a0,zn4,Result.andThen_ok,decide_eq_false a1,Bool.false_eq_true,if_false];have:=zjc (w:=w) (i:=i+1) (j:=j) (e:=e) (es:=es) (by simpa using h) hk (λk e' hk' he'=>hb (k+1) e' o_ (by simpa using he'));rw[show i+(j+1)=i+1+j from by omega];exact this
theorem zgu:∃fs,Tryz.prog.underlying 254=some (.struct fs):=⟨_,Tryz.underlying254⟩
theorem zze {a s:Int} {fs:Array Field}:∀{es:List MapEntry},Instr.findNow (.struct fs) (.agg #[.int .i64 a,.int .u8 s]) es 0=if es=[]then some none else none
 |[]=>rfl
 |e::es=>by
  unfold Instr.findNow;simp[Instr.sameNow]
theorem zhu {a s:Int} {w:World} {es:List MapEntry} (h:∀e∈es,∃b t:Int,e.key= .agg #[.int .i64 b,.int .u8 t]/\¬(a=b/\s=t)):(Instr.findKey 254 (.agg #[.int .i64 a,.int .u8 s]) es).run Tryz.prog w= .ok none w:=by
 unfold Instr.findKey;obtain⟨fs,a0⟩:=zgu;simp only[Sem.run_bind,run_underlying a0,Result.andThen_ok,zze];by_cases he:es=[]
 .subst he;rfl
 .rw[if_neg he];exact zjb h
theorem zmt {a s:Int} {w:World} {es:List MapEntry} {j:Nat} {e:MapEntry} (hj:es[j]? =some e) (hk:e.key= .agg #[.int .i64 a,.int .u8 s]) (hb:∀k e',k<j->es[k]? =some e'->∃b t:Int,e'.key= .agg #[.int .i64 b,.int .u8 t]/\¬(a=b/\s=t)):
 (Instr.findKey 254 (.agg #[.int .i64 a,.int .u8 s]) es).run Tryz.prog w= .ok (some (j,e.val)) w:=by
 unfold Instr.findKey;obtain⟨fs,a0⟩:=zgu;simp only[Sem.run_bind,run_underlying a0,Result.andThen_ok,zze];have he:es≠[]:=by rintro rfl;simp at hj
 rw[if_neg he];have:=zjc (w:=w) (i:=0) hj hk hb;simpa using this
def Gm.fget (m:Gm) (t s:Int):Option Int:=(m.fac.find? λf=>f.1==t&&f.2.1==s).map λf=>f.2.2
theorem Gm.fget_none {m:Gm} {t s:Int} (h:m.fget t s=none):∀x∈m.fac,¬(t=x.1/\s=x.2.1):=by
 unfold Gm.fget at h;rw[Option.map_eq_none_iff,List.find?_eq_none]at h;rintro x hx ⟨rfl,rfl⟩;exact h x hx s_
theorem Gm.fget_some {m:Gm} {t s r:Int} (h:m.fget t s=some r):∃j,m.fac[j]? =some (t,s,r)/\∀(k:Nat) (x:Int×Int×Int),k<j->m.fac[k]? =some x->¬(t=x.1/\s=x.2.1):=by
 have h:=(show(m.fac.find? λf=>f.1==t&&f.2.1==s).map (λf=>f.2.2)=some r from h);obtain⟨f,hf,rfl⟩:=Option.map_eq_some_iff.1 h;obtain⟨hp,l1,l2,hl,a0⟩:=List.find?_eq_some_iff_append.1 hf;obtain⟨a,b,c⟩:=f;have a1:a=t/\b=s:=by simpa using hp
 obtain⟨rfl,rfl⟩:=a1;refine⟨l1.length,by rw[hl];simp,λk x hk hx=>?_⟩;rw[hl,List.getElem?_append_left hk]at hx;have:=a0 x (List.mem_of_getElem? hx);rintro⟨h1,h2⟩;simp[h1,h2]at this
theorem zki {es:List MapEntry} {l:List (Int×Int×Int)} (h:zmi es l) {k:Nat} {e:MapEntry} (he:es[k]? =some e):∃x,l[k]? =some x/\e.key= .agg #[.int .i64 x.1,.int .u8 x.2.1]/\e.val= .int .i64 x.2.2:=by
 have hk:k<l.length:=by rw[<-h.1];exact(List.getElem?_eq_some_iff.1 he).1
 exact⟨l[k],List.getElem?_eq_getElem hk,h.2 k e _ he (List.getElem?_eq_getElem hk)⟩
def Gm.findV (m:Gm) (t s:Int):Value:=match m.fget t s with
 |some r=>.tuple #[.int .i64 r,.bool true]
 |none=>.tuple #[.int .i64 0,.bool false]
theorem zlk {m:Gm} {lo:Nat} {W:World} (h:m.Ok lo W) (t s:Int):(Instr.lookup 35 (.map (some m.F)) (.agg #[.int .i64 t,.int .u8 s]) true).run Tryz.prog W= .ok (m.findV t s) W:=by
 obtain⟨es,cl,hm,he,-⟩:=h.facets;have hz:(zeroValue 22).run Tryz.prog W= .ok (.int .i64 0) W:=r_;unfold Gm.findV Instr.lookup;cases hg:m.fget t s with
 |none=>
  have hn:=Gm.fget_none hg;have hf:=zhu (w:=W) (a:=t) (s:=s) (es:=es.toList) λe hme=>by
   obtain⟨i,hi,rfl⟩:=List.mem_iff_getElem.1 hme;obtain⟨x,hx,hk,-⟩:=zki he (List.getElem?_eq_getElem hi);exact⟨_,_,hk,hn x (List.mem_of_getElem? hx)⟩
  simp[run_underlying Tryz.underlying35,zef hm,zff,hf,Result.andThen,hz]
 |some r=>
  obtain⟨j,hj,hb⟩:=Gm.fget_some hg;have a0:j<es.toList.length:=by rw[he.1];exact(List.getElem?_eq_some_iff.1 hj).1
  obtain⟨hk,hv⟩:=he.2 j _ _ (List.getElem?_eq_getElem a0) hj;have hf:=zmt (w:=W) (a:=t) (s:=s) (es:=es.toList) (List.getElem?_eq_getElem a0) hk λk e' hkj hek=>by
   obtain⟨x,hx,a1,-⟩:=zki he hek;exact⟨_,_,a1,hb k x hkj hx⟩
  simp[run_underlying Tryz.underlying35,zef hm,zff,hf,Result.andThen];simpa using hv
theorem zgv {m:Gm} {lo:Nat} {W:World} (h:m.Ok lo W):W.cell? ⟨m.wb,3,none⟩=some (.map (some m.F)):=by
 have c0:=h.blk.cell 3;simpa only[Gm.cells,List.getElem?_toArray,List.getElem?_cons_zero,List.getElem?_cons_succ]using c0
section
variable {m:Gm} {lo:Nat} {W:World}
theorem Gm.Ok.others (h:m.Ok lo W):∀i,((Value.slice m.P m.par.length m.pc).ownBlock=some i\/(Value.slice m.C m.cut.length m.cc).ownBlock=some i\/(Value.slice m.D m.made.length m.dc).ownBlock=some i\/∃x∈m.th,i=x.2.1\/x.2.2.Has i)->i≠m.wb/\i≠m.M/\i≠m.F:=by
 obtain⟨es,cl,hm,-⟩:=h.things;obtain⟨ef,cf,hf,-⟩:=h.facets;rintro i (hi|hi|hi|⟨x,hx,rfl|hi⟩)
 .obtain⟨cs,hb⟩:=zao h.par hi;exact⟨Blk.ne_ hb h.blk d_,zap hm hb,zap hf hb⟩
 .obtain⟨cs,hb⟩:=zao h.cut hi;exact⟨Blk.ne_ hb h.blk d_,zap hm hb,zap hf hb⟩
 .obtain⟨cs,hb⟩:=zao h.made hi;exact⟨Blk.ne_ hb h.blk d_,zap hm hb,zap hf hb⟩
 .have hb:=h.box x hx;exact⟨Blk.ne_ hb h.blk d_,zap hm hb,zap hf hb⟩
 .obtain⟨e,cs,he,hb⟩:=(h.st x hx).ty hi;refine⟨?_,zap hm hb,zap hf hb⟩;rcases he with rfl|rfl|rfl|rfl|rfl<;>exact Blk.ne_ hb h.blk d_
theorem Gm.Ok.wbs (h:m.Ok lo W):m.wb≠m.M/\m.wb≠m.F:=by
 obtain⟨es,cl,hm,-⟩:=h.things;obtain⟨ef,cf,hf,-⟩:=h.facets;exact⟨zap hm h.blk,zap hf h.blk⟩
theorem zll {es:Array MapEntry} {cl:Nat} {k v:Value} (h:Stm es.toList cl):Stm (es.push {key:=k,val:=v,born:=cl}).toList (cl+1):=by
 refine⟨λy hy=>?_,?_⟩
 .simp only[Array.toList_push,List.mem_append,List.mem_singleton]at hy;rcases hy with hy|rfl
  .have:=h.1 y hy;omega
  .exact Nat.lt_succ_self _
 .simp only[Array.toList_push,List.map_append,List.map_cons,List.map_nil];refine List.nodup_append.2 ⟨h.2,by simp,λa ha b' hb'=>?_⟩;simp only[List.mem_singleton]at hb';subst hb';obtain⟨y,hy,rfl⟩:=List.mem_map.1 ha;have:=h.1 y hy;omega
theorem zuj (h:m.Ok lo W) {t s r:Int} {W2:World} (f:Fr (λi=>i=m.F) W W2) (hn:m.fget t s=none) (hlen:m.fac.length<1000000) {es:Array MapEntry} {cl:Nat} (hm0:W.heap[m.F]? =some (.map es cl))
 (hm:W2.heap[m.F]? =some (.map (es.push {key:=.agg #[.int .i64 t,.int .u8 s],val:=.int .i64 r,born:=cl}) (cl+1))):
 ({m with fac:=m.fac++[(t,s,r)]}:Gm).Ok lo W2:=by
 obtain⟨a4,a3,a0,he,a2⟩:=h.facets;rw[hm0]at a0;injection a0 with a0
 injection a0 with e1 e2
 subst e1 e2;obtain⟨et,ct,ht,a1⟩:=h.things;have ho:=h.others;have hs:∀i,((Value.slice m.P m.par.length m.pc).ownBlock=some i\/(Value.slice m.C m.cut.length m.cc).ownBlock=some i\/(Value.slice m.D m.made.length m.dc).ownBlock=some i\/∃x∈m.th,i=x.2.1\/x.2.2.Has i)->¬(i=m.F):=λi hi=>(ho i hi).2.2;refine⟨h.blk.fr f h.wbs.2,⟨et,ct,(f.block _ (zah ht) h.mf).trans ht,a1⟩,⟨_,_,hm,⟨by simp[he.1],λi e y hei hyi=>?_⟩,zll a2⟩,zaf h.par f λq hq=>hs q (.inl hq),zaf h.cut f λq hq=>hs q (.inr (.inl hq)),zaf h.made f λq hq=>hs q (.inr (.inr (.inl hq))),
  λy hy=>(h.box y hy).fr f (hs _ (.inr (.inr (.inr ⟨y,hy,.inl rfl⟩)))),λy hy=>(h.st y hy).fr f λb hb=>hs b (.inr (.inr (.inr ⟨y,hy,.inr hb⟩))),h.lo0,h.mf,h.keys,h.dist,h.len,?_,by simp;omega,h.sides⟩
 .simp only[Array.toList_push]at hei;rcases Nat.lt_trichotomy i m.fac.length with hi|rfl|hi
  .rw[List.getElem?_append_left (by rw[he.1];exact hi)]at hei;simp only[List.getElem?_append_left hi]at hyi;exact he.2 i e y hei hyi
  .rw[<-he.1,List.getElem?_append_right (Nat.le_refl _),Nat.sub_self]at hei;simp at hei hyi;subst hei hyi;exact⟨rfl,rfl⟩
  .simp only at hyi;rw[List.getElem?_eq_none so_]at hyi;cases hyi
 .rw[List.map_append];refine List.nodup_append.2 ⟨h.fkeys,by simp,λa ha b' hb'=>?_⟩;simp only[List.map_cons,List.map_nil,List.mem_singleton]at hb';subst hb';obtain⟨y,hy,rfl⟩:=List.mem_map.1 ha;intro hh;simp only[Prod.mk.injEq]at hh;exact Gm.fget_none hn y hy ⟨hh.1.symm,hh.2.symm⟩
theorem zmu {w:World} {es:Array MapEntry} {cl:Nat} (t s r:Int) (_h:m.Ok lo W) (hn:m.fget t s=none) (hm0:w.heap[m.F]? =some (.map es cl)) (he:zmi es.toList m.fac):
 (Instr.mapUpdate 35 (.map (some m.F)) (.agg #[.int .i64 t,.int .u8 s]) (.int .i64 r)).run Tryz.prog w= .ok () (w.putObj m.F (.map (es.push {key:=.agg #[.int .i64 t,.int .u8 s],val:=.int .i64 r,born:=cl}) (cl+1))):=by
 have hf:=zhu (w:=w) (a:=t) (s:=s) (es:=es.toList) λe hme=>by
  obtain⟨i,hi,rfl⟩:=List.mem_iff_getElem.1 hme;obtain⟨x,hx,hk,-⟩:=zki he (List.getElem?_eq_getElem hi);exact⟨_,_,hk,Gm.fget_none hn x (List.mem_of_getElem? hx)⟩
 unfold Instr.mapUpdate;simp only[Sem.run_bind,run_underlying Tryz.underlying35,Result.andThen_ok,zef hm0,zff,hf,zk8 _ hm0]
theorem zuk (h:m.Ok lo W) {r t s:Int} {x:Nat×Tg} (hg:m.get r=some x) (hk:x.2.kind=14) (ht:x.2.ofr=t) (hs:x.2.set=s) (hn:m.fget t s=none) (hlen:m.fac.length<1000000):
 Calls Tryz.prog 193 #[.pointer (some ⟨m.wb,0,none⟩),.int .i64 r] W λe w'=>(∃v,e= .returned v)/\({m with fac:=m.fac++[(t,s,r)]}:Gm).Ok lo w'/\Fr (λi=>i=m.F) W w':=by
 obtain⟨es,cl,a1,he,a2⟩:=h.facets;obtain⟨d0,-,a3,-,a4,-⟩:=zct (h.box _ (Gm.get_mem hg));rw[hk]at d0;rw[ht]at a3;rw[hs]at a4;have dq:=(h.box _ (Gm.get_mem hg)).lt;have hl:=zbt h r;rw[hg]at hl;simp only[Option.map_some]at hl;have c2:=zba h;have c3:=zgv h;have cq:=h.blk.lt;have hu:=zmu (w:=W.drew) t s r h hn a1 he;have a0:({m with fac:=m.fac++[(t,s,r)]}:Gm).Ok lo (W.drew.putObj m.F (.map (es.push {key:=.agg #[.int .i64 t,.int .u8 s],val:=.int .i64 r,born:=cl}) (cl+1)))/\Fr (λi=>i=m.F) W (W.drew.putObj m.F (.map (es.push {key:=.agg #[.int .i64 t,.int .u8 s],val:=.int .i64 r,born:=cl}) (cl+1))):=by
  have f:Fr (λi=>i=m.F) W (W.drew.putObj m.F (.map (es.push {key:=.agg #[.int .i64 t,.int .u8 s],val:=.int .i64 r,born:=cl}) (cl+1))):=((Fr.refl _ W).drew).trans (zhp _ _ _);refine⟨zuj h f hn hlen a1 ?_,f⟩;have hlt:m.F<W.drew.heap.size:=zah a1;show(W.drew.heap.setIfInBounds m.F _)[m.F]? =_;rw[Array.getElem?_setIfInBounds,if_pos rfl,if_pos hlt]
 have HF:=zaa a0;clear a0 h hg hn hlen a2 he a1 hk ht hs;go_enter Tryz.func193,Tryz.ntmps193;go_upto_region 2 with(fail);go_region
 all_goals
  go_simp;go_wp2_with fail;go_end0
  exact⟨⟨_,rfl⟩,HF.out.1,HF.out.2⟩
end
structure RI (M cl rI:Nat) (es:Array MapEntry) (v:List Nat) (wr:World):Prop where
 it:wr.heap[rI]? =some (.mapIter (some M) cl v.toArray cl)
 mp:wr.heap[M]? =some (.map es cl)
def zlr (es:Array MapEntry) (v:List Nat) (i:Nat):Prop:=∃e,es.toList[i]? =some e/\e.born∈v
section
variable {M cl rI:Nat} {es:Array MapEntry} {v:List Nat} {wr w':World} {S:Nat->Prop} {th:List (Int×Nat×Tg)}
theorem RI.fr (h:RI M cl rI es v wr) (f:Fr S wr w') (h1:¬S rI) (h2:¬S M):RI M cl rI es v w':=
 ⟨(f.block _ (zah h.it) h1).trans h.it,(f.block _ (zah h.mp) h2).trans h.mp⟩
theorem zem {i:Nat}:¬zlr es [] i:=λ⟨_,_,h⟩=>by simp at h
theorem zrs {i j b:Nat} {e:MapEntry} (hst:Stm es.toList cl) (he:es.toList[i]? =some e) (hb:e.born=b):zlr es (v++[b]) j↔j=i\/zlr es v j:=by
 constructor
 .rintro⟨e',a0,hm⟩;rcases List.mem_append.1 hm with hm|hm
  .exact .inr ⟨e',a0,hm⟩
  .left
   simp only[List.mem_singleton]at hm;obtain⟨hi,rfl⟩:=List.getElem?_eq_some_iff.1 he;obtain⟨hj,rfl⟩:=List.getElem?_eq_some_iff.1 a0;have hn:=hst.2;refine(List.getElem_inj (h₀:=by simpa using hj) (h₁:=by simpa using hi) hn).1 ?_;simp only[List.getElem_map];rw[hm,hb]
 .rintro(rfl|⟨e',a0,hm⟩)
  .exact⟨e,he,by simp[hb]⟩
  .exact⟨e',a0,List.mem_append_left _ hm⟩
theorem zgy (h:RI M cl rI es v wr) (hes:zti es.toList th) (hst:Stm es.toList cl) (ty:TypeId):
 ((∀(i:Nat) (x:Int×Nat×Tg),th[i]? =some x->zlr es v i)/\(Instr.next (.pointer (some ⟨rI,0,none⟩)) false ty).run Tryz.prog wr= .ok (.tuple #[.bool false]) wr)\/
 ∃(i b:Nat) (x:Int×Nat×Tg) (W3:World),th[i]? =some x/\¬zlr es v i/\(∀j,zlr es (v++[b]) j↔j=i\/zlr es v j)/\
  (Instr.next (.pointer (some ⟨rI,0,none⟩)) false ty).run Tryz.prog wr= .ok (.tuple #[.bool true,.int .i64 x.1,.pointer (some ⟨x.2.1,0,none⟩)]) W3/\
  (Instr.entry (.pointer (some ⟨rI,0,none⟩))).run Tryz.prog W3= .ok (.tuple #[.int .i64 x.1,.pointer (some ⟨x.2.1,0,none⟩)]) W3/\
  Fr (λi=>i=rI) wr W3/\RI M cl rI es (v++[b]) W3/\(leftOf es (W3.iterSeen rI)).size<(leftOf es (wr.iterSeen rI)).size:=by
 have a2:=run_next_at (P:=Tryz.prog) wr ty rI M cl cl v.toArray es cl h.it h.mp hst.1 (Nat.le_refl _);rcases a2 with⟨h0,a2⟩|⟨e,he,w3,b0,a2⟩
 .refine .inl ⟨λi x hx=>?_,a2⟩;have hi:i<es.toList.length:=by rw[hes.1];exact(List.getElem?_eq_some_iff.1 hx).1
  refine⟨es.toList[i],List.getElem?_eq_getElem hi,?_⟩;by_cases hc:v.toArray.contains es.toList[i].born=true
  .simpa using hc
  .exfalso;have:es.toList[i]∈(leftOf es v.toArray):=by
    unfold leftOf;refine Array.mem_filter.2 ⟨Array.mem_toList_iff.1 (List.getElem_mem hi),by simpa using hc⟩
   have hz:leftOf es v.toArray=#[]:=Array.eq_empty_of_size_eq_zero h0;rw[hz]at this;simp at this
 .right
  obtain⟨b1,b7⟩:=mem_left he;have a7:=left_shrinks es _ e he;obtain⟨i,hi,b5⟩:=List.mem_iff_getElem.1 b1;have b2:i<th.length:=by rw[<-hes.1];exact hi
  have a1:es.toList[i]? =some e:=by rw[<-b5];exact List.getElem?_eq_getElem hi
  obtain⟨a5,a8⟩:=hes.2 i e th[i] a1 (List.getElem?_eq_getElem b2);have b3:=zah h.it;have b4:=zah h.mp;have b8:M≠rI:=by
   rintro rfl;have:=h.it;rw[h.mp]at this;cases this
  have F3:Fr (λi=>i=rI) wr (ChangeMaps.setBlock w3 rI (.mapIter (some M) cl (v.toArray.push e.born) cl)):=by
   rcases b0 with rfl|rfl
   .exact zdj _ _ _
   .exact((Fr.refl _ wr).drew).trans (zdj _ _ _)
  have a0:(ChangeMaps.setBlock w3 rI (.mapIter (some M) cl (v.toArray.push e.born) cl)).heap[rI]? =some (.mapIter (some M) cl (v.toArray.push e.born) cl):=by
   rcases b0 with rfl|rfl
   .exact zdk _ b3
   .exact zdk _ b3
  have a9:(ChangeMaps.setBlock w3 rI (.mapIter (some M) cl (v.toArray.push e.born) cl)).heap[M]? =some (.map es cl):=(F3.block _ b4 b8).trans h.mp;have a3:=run_entry_at (P:=Tryz.prog) (ChangeMaps.setBlock w3 rI (.mapIter (some M) cl (v.toArray.push e.born) cl)) rI M cl _ es cl e a0 a9 b1 hst.2;rw[a5,a8]at a2 a3;have a6:¬zlr es v i:=by
   rintro⟨e',a4,b6⟩;rw[a1]at a4;injection a4 with a4
   subst a4;simp[b6]at b7
  refine⟨i,e.born,th[i],_,List.getElem?_eq_getElem b2,a6,λj=>zrs hst a1 rfl,a2,?_,F3,⟨by simpa using a0,a9⟩,?_⟩
  .exact a3
  .rw[zaw a0,zaw h.it];exact a7
end
def Gm.oth (m:Gm) (r k o:Int):Prop:=∃x∈m.th,x.1≠r/\x.2.2.kind=k/\x.2.2.ofr=o
structure OtI (m:Gm) (W:World) (r k o:Int) (cl rI:Nat) (es:Array MapEntry) (v:List Nat) (wr:World):Prop where
 ri:RI m.M cl rI es v wr
 fr:Fr No W wr
 r0:W.heap.size<=rI
 no:∀(i:Nat) (x:Int×Nat×Tg),m.th[i]? =some x->zlr es v i->¬(x.1≠r/\x.2.2.kind=k/\x.2.2.ofr=o)
def zzl (m:Gm) (W:World) (r k o:Int) (e:Ending) (w':World):Prop:=∃q:Bool,e= .returned (.bool q)/\(q=true↔m.oth r k o)/\Fr No W w'
theorem zuq {m:Gm} {lo:Nat} {W:World} (h:m.Ok lo W) (r k o:Int):
 Calls Tryz.prog 215 #[.pointer (some ⟨m.wb,0,none⟩),.int .i64 r,.int .u8 k,.int .i64 o] W (zzl m W r k o):=by
 obtain⟨es,cl,hm,b5,b1⟩:=h.things;have c0:=zba h;have q0:=h.blk.lt;have b7:=run_range_map (P:=Tryz.prog) W 34 22 185 m.M es cl Tryz.underlying34 hm;have hM:=zah hm;have a1:Hid (OtI m W r k o cl W.heap.size es [] (W.alloc (.mapIter (some m.M) cl #[] cl))):=zaa ⟨⟨World.alloc_heap_new _ _,(Below.heap_alloc _ _ _ hM).trans hm⟩,(Fr.refl No W).alloc _,Nat.le_refl _,λi x _ hs=>absurd hs zem⟩;have c2:=zaa b5;have d2:=zaa b1;have c4:=zaa h;clear b5 b1 h;generalize d4:W.heap.size=rI at*;go_enter Tryz.func215,Tryz.ntmps215;go_wp2_with fail;go_loopw [8] (λ_ wr=>∃v,OtI m W r k o cl rI es v wr) (λ_ wr=>(leftOf es (wr.iterSeen rI)).size)
 case atStart=>exact⟨[],a1.out⟩
 case round=>
  obtain⟨v,inv⟩:=hrel;rcases zgy inv.ri c2.out d2.out 0 with⟨a2,b3⟩|⟨i,b,x,W3,hx,c8,a0,b3,a8,F3,b4,b0⟩
  .have HI:Hid (¬m.oth r k o):=zaa (by
    rintro⟨x,hx,hq⟩;obtain⟨i,hi,rfl⟩:=List.mem_iff_getElem.1 hx;exact inv.no i _ (List.getElem?_eq_getElem hi) (a2 i _ (List.getElem?_eq_getElem hi)) hq)
   have HF:=zaa inv.fr;clear inv a2 b7 a1;go_wp2;go_ret;exact⟨false,rfl,⟨nofun,λh=>absurd h HI.out⟩,HF.out⟩
  .have a7:x∈m.th:=List.mem_of_getElem? hx;have a3:Fr No W W3:=inv.fr.trans' F3 λq hq h=>by have h':q=rI:=h;have:=inv.r0;omega
   have bx:=(c4.out.box _ a7).fr a3 λh=>h;obtain⟨d0,-,b2,-,-,-⟩:=zct bx;have dq:=bx.lt;have c6:=zaa inv.no;have c5:=zaa inv.r0;have HX:=zaa hx;have b9:=zaa a7;have c7:=zaa a0;have b6:=zaa a3;have c3:=zaa b4;have a6:=zaa b0;obtain⟨rx,gx,y⟩:=x;simp only at d0 b2 dq b3 a8;have c9:∃kd,y.kind=kd:=⟨_,rfl⟩;have c1:∃oo,y.ofr=oo:=⟨_,rfl⟩;obtain⟨kd,a5⟩:=c9;obtain⟨oo,a9⟩:=c1;rw[a5]at d0;rw[a9]at b2;have HK:=zaa a5;have HO:=zaa a9;clear inv hx c8 a0 F3 a3 b4 b0 a7 bx b7 a1 a5 a9;have b8:¬(rx≠r/\kd=k/\oo=o)->OtI m W r k o cl rI es (v++[b]) W3:=λhq=>⟨c3.out,b6.out,c5.out,λj z hz hs=>by
    rcases(c7.out j).1 hs with rfl|hs
    .have:=HX.out;rw[this]at hz;injection hz with hz
     subst hz;rw[HK.out,HO.out];exact hq
    .exact c6.out j z hz hs⟩
   have a4:=zaa b8;clear b8;by_cases hr:rx=r
   .subst hr;have e1:(rx !=rx)=false:=s_;go_wp2_with fail;go_roundw
    case rel=>exact⟨v++[b],a4.out s_⟩
    case measure=>exact a6.out
   .have e1:(rx !=r)=true:=by simpa using hr
    have HR:=zaa hr;by_cases hk:kd=k
    .subst hk;by_cases ho:oo=o
     .subst ho;have HY:Hid (m.oth r kd oo):=zaa ⟨_,b9.out,hr,HK.out,HO.out⟩;clear hr;go_wp2_with fail;go_ret;exact⟨true,rfl,⟨λ_=>HY.out,λ_=>rfl⟩,b6.out⟩
     .have e2:(oo==o)=false:=by simpa using ho
      have d1:=zaa ho;clear ho hr;go_wp2_with fail;go_roundw
      case rel=>exact⟨v++[b],a4.out λh=>d1.out h.2.2⟩
      case measure=>exact a6.out
    .have e2:(kd==k)=false:=by simpa using hk
     have d3:=zaa hk;clear hk hr;go_wp2_with fail;go_roundw
     case rel=>exact⟨v++[b],a4.out λh=>d3.out h.2.1⟩
     case measure=>exact a6.out
def Gm.othB (m:Gm) (r k o:Int):Bool:=m.th.any λx=>x.1 !=r&&(x.2.2.kind==k&&x.2.2.ofr==o)
theorem Gm.othB_iff {m:Gm} {r k o:Int}:m.othB r k o=true↔m.oth r k o:=by
 unfold Gm.othB Gm.oth;rw[List.any_eq_true];constructor
 .rintro⟨x,hx,h⟩;simp only[Bool.and_eq_true,bne_iff_ne,ne_eq,beq_iff_eq]at h;exact⟨x,hx,h.1,h.2.1,h.2.2⟩
 .rintro⟨x,hx,h1,h2,h3⟩;exact⟨x,hx,by simp[h1,h2,h3]⟩
theorem zls {m:Gm} {lo:Nat} {W:World} (h:m.Ok lo W) (r k o:Int):
 Calls Tryz.prog 215 #[.pointer (some ⟨m.wb,0,none⟩),.int .i64 r,.int .u8 k,.int .i64 o] W λe w'=>e= .returned (.bool (m.othB r k o))/\Fr No W w':=by
 refine(zuq h r k o).mono ?_;rintro e w' ⟨q,rfl,hq,f⟩;refine⟨?_,f⟩;have:q=m.othB r k o:=by
  rw[Bool.eq_iff_iff,hq,Gm.othB_iff]
 rw[this]
def Gm.hkB (m:Gm) (r k home:Int):Bool:=match m.get r with
 |some y=>y.2.kind==k&&y.2.home==home
 |none=>false
section
variable {m:Gm} {lo:Nat} {W:World}
theorem zfi (h:m.Ok lo W) {g gx:Nat} (hb:Blk W g 31 #[.pointer (some ⟨m.wb,0,none⟩)]) {r k home:Int} (hk0:k≠0) (hxc:W.cell? ⟨gx,1,none⟩=some (.int .i64 home)) (hgx:gx<W.heap.size):
 Calls Tryz.prog 214 #[.int .i64 r,.int .u8 k,.pointer (some ⟨g,0,none⟩),.pointer (some ⟨gx,0,none⟩)] W λe w'=>e= .returned (.bool (m.hkB r k home))/\Fr No W w':=by
 have b0:∀q:ClN W,q.w.cell? ⟨g,0,none⟩=some (.pointer (some ⟨m.wb,0,none⟩)):=λq=>(hb.fr q.fr λh=>h).cell 0;have bx:∀q:ClN W,q.w.cell? ⟨gx,1,none⟩=some (.int .i64 home):=λq=>(q.fr.cell hgx λh=>h).trans hxc;have c0:∀q:ClN W,q.w.cell? ⟨m.wb,2,none⟩=some (.map (some m.M)):=λq=>zba (h.no q.fr);have a0:Nonempty (ClN W):=⟨⟨W,Fr.refl No W⟩⟩;have HK:Hid (∀q:ClN W,Calls Tryz.prog 44 #[.pointer (some ⟨m.wb,0,none⟩),.int .i64 r] q.w λe a1=>e= .returned (.int .u8 (m.kind r))/\∃q':ClN W,a1=q'.w):=zaa λq=>by
  refine(zd9 (h.no q.fr) r).mono ?_;rintro e a1 ⟨rfl,rfl⟩;exact⟨rfl,q,rfl⟩
 by_cases hk:m.kind r=k
 .obtain⟨x,hg⟩:∃x,m.get r=some x:=by
   cases hg:m.get r with
   |none=>unfold Gm.kind at hk;rw[hg]at hk;exact absurd hk.symm hk0
   |some x=>exact⟨x,rfl⟩
  have hx:=Gm.get_mem hg;have a2:x.2.kind=k:=by unfold Gm.kind at hk;rw[hg]at hk;exact hk
  have hl:∀q:ClN W,(Instr.lookup 34 (.map (some m.M)) (.int .i64 r) false).run Tryz.prog q.w= .ok (.pointer (some ⟨x.1,0,none⟩)) q.w:=λq=>by
   have:=zbt (h.no q.fr) r;rw[hg]at this;exact this
  have d1:∀q:ClN W,q.w.cell? ⟨x.1,1,none⟩=some (.int .i64 x.2.home):=λq=>(zct ((h.no q.fr).box _ hx)).2.1;have hv:m.hkB r k home=(x.2.home==home):=by unfold Gm.hkB;rw[hg];simp[a2]
  rw[hk]at HK;rw[hv];generalize x.2.home=hm at*;clear h hb hg hk hxc hgx hx a2 hv hk0;go_enter Tryz.func214,Tryz.ntmps214;go_wp2_with fail;refine zab (λW'=>∃q:ClN W,W'=q.w) k_ k_ ⟨⟨_,(Fr.refl No W).drew⟩,rfl⟩ ?_;repeat(go_big_quiet_step ((go_at_call 44;exact HK.out _)))
  refine wpQuiet_nil ?_;rintro Wc ⟨⟨_,f3⟩,rfl⟩;clear b0 bx c0 hl d1 HK a0;go_wp2_with fail;go_ret;exact⟨rfl,f3⟩
 .have hv:m.hkB r k home=false:=by
   unfold Gm.hkB;unfold Gm.kind at hk;cases hg:m.get r with
   |none=>rfl
   |some x=>rw[hg]at hk;simp at hk;simp[hk]
  have e0:(m.kind r==k)=false:=by simpa using hk
  rw[hv];generalize m.kind r=kd at*;clear h hb hk hxc hgx hv hk0;go_enter Tryz.func214,Tryz.ntmps214;go_wp2_with fail;refine zab (λW'=>∃q:ClN W,W'=q.w) k_ k_ ⟨⟨_,(Fr.refl No W).drew⟩,rfl⟩ ?_;repeat(go_big_quiet_step ((go_at_call 44;exact HK.out _)))
  refine wpQuiet_nil ?_;rintro Wc ⟨⟨_,f3⟩,rfl⟩;clear b0 bx c0 HK a0;go_wp2_with fail;go_ret;exact⟨rfl,f3⟩
end
end Go.Proofs.YtlejelbefmkakaaGreat

/- Texts joined: Wo18, X4, B3, M. -/
import Derived.Test.YtlejelbefmkakaaGreatJn1
import Derived.Test.YtlejelbefmkakaaGreatJn10
import Derived.Deep.RegionHeld3
import Derived.Deep.AppendLies
import Derived.Deep.RegionLaw
set_option maxHeartbeats 8000000
set_option maxRecDepth 100000
namespace Go.Proofs.YtlejelbefmkakaaGreat
open Go.RowKit
def zqv (b:Int):T:=.mk 4 0 ⟨#[]⟩ none 0 [] b
theorem zml (b:Int):(zqv b).val= .agg #[.int .u8 4,.int .i64 0,.string ⟨#[]⟩,.slice none 0 0,.int .i64 b]:=rfl
theorem zqj (b:Int):(zqv b).v= .mk 4 0 ⟨#[]⟩ [] b:=by rw[zqv,T.v_mk];rfl
theorem zqk {b:Int} (h0:1<=b) (h1:b<=9223372036854775807) (w:World) (lo hi:Nat):(zqv b).In w lo hi:=
 T.in_mk.2 ⟨⟨by decide,by decide,by decide,by decide,by decide,by decide,Nat.le_refl _,by omega,h1⟩,λh=>absurd rfl h,by simp⟩
theorem ziy {b:Int} (h0:1<=b):(zqv b).v.may=true:=by
 rw[zqj];simp[V.may,V.fits,V.ok_mk,V.size_mk,V.dep_mk,fok];omega
theorem zj8 {b:Int} (h0:1<=b):(zqv b).v.refs=[b]:=by
 unfold V.refs;rw[if_pos (ziy h0),zqj,V.walk_mk];simp[zb1,zbg]
theorem zql {m:Wm} {r:Int} {x:Nat×Th} (h:m.get r=some x):1<=r/\r<=(m.th.length:Int):=by
 have:=Wm.get_is (m:=m) (r:=r);rw[h]at this;simpa using this.symm
def zqm (xb xo:Th) (W:World) (e:Ending) (w':World):Prop:=
 (xb.ofr=xo.ofr->∃t':T,e= .returned (.tuple #[t'.val,.int .i64 0])/\t'.v=xb.v.v/\t'.Sh w' W.heap.size w'.heap.size)/\
 (xb.ofr≠xo.ofr->e= .returned (.tuple #[T.zero.val,.int .i64 91]))/\Fr No W w'
theorem zqn {m:Wm} {lo:Nat} {W:World} (h:m.Ok lo W) {o b:Int} {xo xb:Nat×Th} (hgo:m.get o=some xo) (hko:xo.2.kind=6) (hmo:xo.2.v.v.may=true) (hgb:m.get b=some xb) (hkb:xb.2.kind=7) (hmb:xb.2.v.v.may=true):
 Calls Tryz.prog 20 #[.pointer (some ⟨m.wb,0,none⟩),.int .i64 o,(zqv b).val] W (zqm xb.2 xo.2 W):=by
 obtain⟨a9,g0⟩:=zql hgb;have g2:=h.len;have c6:=λW' lo' hi=>zqk (b:=b) a9 o_ W' lo' hi;have hM:=λW' (_:Fr No W W')=>zca (zqv b) W' 0 W'.heap.size (c6 _ _ _) (Nat.le_refl _);have hR:=λW' (f:Fr No W W')=>zj7 (h.no f) (zqv b) W'.heap.size (c6 _ _ _) (Nat.le_refl _) (by rw[zj8 a9];simp) (by rw[zj8 a9];simp[Wm.are,hgb]);have hI:=λW' (f:Fr No W W')=>zqg (h.no f) o;have c4:=λW' (f:Fr No W W')=>zmk (h.no f) o;have b5:=λW' (f:Fr No W W')=>zmk (h.no f) b;have b0:=λW' (f:Fr No W W')=>zla (h.no f) hgb hmb;have b3:=λW' (f:Fr No W W')=>zla (h.no f) hgo hmo;have e1:(m.get o).isSome=true:=by rw[hgo];rfl
 have e2:m.kind o=6:=by unfold Wm.kind;rw[hgo,<-hko];rfl
 have e3:m.kind b=7:=by unfold Wm.kind;rw[hgb,<-hkb];rfl
 rw[e1]at hI;rw[e2]at c4;rw[e3]at b5;rw[ziy a9]at hM;rw[zml]at hM hR ⊢;unfold zix at b0 b3;obtain⟨gb,⟨kb,hb,vb,nb,lb,ob,yb,sb,fb⟩⟩:=xb;obtain⟨go,⟨ko,ho,vo,no,lo',oo,yo,so,fo⟩⟩:=xo;simp only at b0 b3;unfold zqm;simp only;have f1:=zaa λW' (f:Fr No W W')=>zhm (h.no f);have HM:=zaa hM;have HR:=zaa hR;have HI:=zaa hI;have e9:=zaa c4;have e8:=zaa b5;have c9:=zaa b0;have c7:=zaa b3;have h5:=(Blk.new W 28 #[.int .u8 4,.int .i64 0,.string ⟨#[]⟩,.slice none 0 0,.int .i64 b]).alloc (.cells #[.int .u8 0,.int .i64 0,.string ⟨#[]⟩,.slice none 0 0,.int .i64 0] 28);have h6:=Blk.new' (W.alloc (.cells #[.int .u8 4,.int .i64 0,.string ⟨#[]⟩,.slice none 0 0,.int .i64 b] 28)) 28 #[.int .u8 0,.int .i64 0,.string ⟨#[]⟩,.slice none 0 0,.int .i64 0] (g:=W.heap.size+1) s_;have e6:=((Fr.refl No W).alloc (.cells #[.int .u8 4,.int .i64 0,.string ⟨#[]⟩,.slice none 0 0,.int .i64 b] 28)).alloc (.cells #[.int .u8 0,.int .i64 0,.string ⟨#[]⟩,.slice none 0 0,.int .i64 0] 28);obtain⟨e0,g4,f9,f4,e4,ef⟩:=h5.cells5;have a8:=h5.lt;have HB:=zaa h5;have a3:=zaa h6;have HF:=zaa e6;clear c6 hM hR hI c4 b5 b0 b3 e1 e2 e3 h5 h6 e6 h hgo hko hmo hgb hkb hmb a9 g0 g2;go_enter Tryz.func20,Tryz.ntmps20;go_wp2_with fail;generalize e5:World.alloc (World.alloc W _) _=W0 at*;refine(f1.out W0 HF.out).mono ?_;rintro e w' ⟨rfl,rfl⟩;go_wp2_with fail;refine(HM.out w' HF.out).mono ?_;rintro e w1 ⟨rfl,ff⟩;have a1:=HB.out.fr ff λh=>h;replace a3:=zaa (a3.out.fr ff λh=>h);replace HB:=zaa a1;have a0:=zaa (HF.out.trans ff);have f0:W.heap.size+2<=w'.heap.size:=by rw[<-e5];simp
 have b2:=zaa (Nat.le_trans f0 ff.size);clear e0 g4 f9 f4 e4 ef a8 ff f0 e5 HF;obtain⟨e0,e1,e2,e3,e4,ef⟩:=a1.cells5;have a8:=a1.lt;clear a1;go_wp2_with fail;refine(HI.out w1 a0.out).mono ?_;rintro e w2 ⟨rfl,rfl⟩;go_wp2_with fail;refine(HR.out w2 a0.out).mono ?_;rintro e w3 ⟨rfl,ff⟩;have a1:=HB.out.fr ff λh=>h;replace a3:=zaa (a3.out.fr ff λh=>h);replace HB:=zaa a1;replace a0:=zaa (a0.out.trans ff);replace b2:=zaa (Nat.le_trans b2.out ff.size);clear e0 e1 e2 e3 e4 ef a8 ff;obtain⟨e0,e1,e2,e3,e4,ef⟩:=a1.cells5;have a8:=a1.lt;clear a1;go_wp2_with fail;refine(e9.out w3 a0.out).mono ?_;rintro e w4 ⟨rfl,rfl⟩;go_wp2_with fail;refine(e8.out w4 a0.out).mono ?_;rintro e w5 ⟨rfl,rfl⟩;go_wp2_with fail;refine(c9.out w5 a0.out).mono ?_;rintro e w6 ⟨⟨k1,n1,s1,A1,c1,l1,r1⟩,rfl,c8,a5,f6⟩;have a4:(Th.val ⟨kb,hb,T.mk k1 n1 s1 A1 c1 l1 r1,nb,lb,ob,yb,sb,fb⟩)= .agg (zat kb hb k1 n1 s1 A1 l1.length c1 r1 nb lb ob yb sb fb):=rfl;rw[a4];unfold zat;have fx:=f6.alloc (.cells (zat kb hb k1 n1 s1 A1 l1.length c1 r1 nb lb ob yb sb fb) 138);have b9:=Blk.new w6 138 (zat kb hb k1 n1 s1 A1 l1.length c1 r1 nb lb ob yb sb fb);unfold zat at fx b9;have f5:=zaa f6.size;have a6:=zaa (a5.no ((Fr.refl No w6).alloc (.cells (zat kb hb k1 n1 s1 A1 l1.length c1 r1 nb lb ob yb sb fb) 138)));unfold zat at a6;have f7:=zaa c8;replace a3:=zaa (a3.out.fr fx λh=>h);have f2:=zaa b9;have c3:=zaa (a0.out.trans fx);have g8:=zaa (Nat.le_trans b2.out fx.size);have g5:=zaa a0.out.size;clear e0 e1 e2 e3 e4 ef a8 a4 c8 a5 f6 fx b9 HB a0 HM HR HI e9 e8 f1 c9;go_wp2_with fail;generalize h0:w6.heap.size=g9 at*;have g7:Hid (g9<=(w6.alloc (.cells #[.int .u8 kb,.int .i64 hb,.int .u8 k1,.int .i64 n1,.string s1,.slice A1 l1.length c1,.int .i64 r1,.slice none 0 0,.int .i64 nb,.int .i64 lb,.int .i64 ob,.int .i64 yb,.int .u8 sb,.bool fb,.slice none 0 0,.slice none 0 0] 138)).heap.size):=zaa so_;generalize World.alloc w6 _=w7 at*;refine(c7.out w7 c3.out).mono ?_;rintro e w8 ⟨⟨k2,n2,s2,A2,c2,l2,r2⟩,rfl,g3,c5,f8⟩;have a2:(Th.val ⟨ko,ho,T.mk k2 n2 s2 A2 c2 l2 r2,no,lo',oo,yo,so,fo⟩)= .agg (zat ko ho k2 n2 s2 A2 l2.length c2 r2 no lo' oo yo so fo):=rfl;rw[a2];unfold zat;have fx:=f8.alloc (.cells (zat ko ho k2 n2 s2 A2 l2.length c2 r2 no lo' oo yo so fo) 138);have b4:=Blk.new w8 138 (zat ko ho k2 n2 s2 A2 l2.length c2 r2 no lo' oo yo so fo);unfold zat at fx b4;have b9:=f2.out.fr fx λh=>h;have b6:=a3.out.fr fx λh=>h;have a7:=zaa (a6.out.no fx);have e7:=zaa (c3.out.trans fx);have c0:=zaa fx;have h1:=zaa (Nat.le_trans g8.out fx.size);obtain⟨d0,d1,d2,d3,d4,d5,d6,d7,d8,d9,h4,h7,i3,i1,h3,h2⟩:=b9.cells16;have dq:=b9.lt;have f3:=b4.cell 10;have pq:=b4.lt;obtain⟨z0,z1,z2,z3,z4,zf⟩:=b6.cells5;have zq:=b6.lt;simp only[List.getElem?_toArray,List.getElem?_cons_zero,List.getElem?_cons_succ]at f3;clear a2 g3 c5 f8 fx b4 b9 b6 a3 f2 c3 c7;by_cases b1:ob=oo
 .have g1:(ob !=oo)=false:=by simp[b1]
  go_wp2_with fail;refine bodyPost_ret (v:=.tuple #[.agg #[.int .u8 k1,.int .i64 n1,.string s1,.slice A1 l1.length c1,.int .i64 r1],.int .i64 0]) (by simp[results,Tryz.results20,go_sem, *]) rfl ?_;generalize World.alloc w8 _=w9 at*;generalize b7:World.setCell _ _ _=We;have fe:Fr (λi=>i=W.heap.size+1) w9 We:=by
   rw[<-b7];repeat(first|with_reducible exact Fr.refl _ w9|with_reducible refine Fr.set ?_ s_ _)
  have b8:Fr No W We:=e7.out.trans' fe λi hi h=>by omega
  have g6:∀b∈(T.mk k1 n1 s1 A1 c1 l1 r1).blocks,W.heap.size+2<=b:=λb hb=>by have:=(T.In.blocks _ a7.out.inn b hb).1;have:=b2.out;omega
  have i0:=g5.out;have i2:=fe.size;refine⟨λ_=>⟨T.mk k1 n1 s1 A1 c1 l1 r1,rfl,f7.out,(a7.out.fr fe λb hb h=>by have:=g6 b hb;omega).more o_ ?_⟩,λh=>absurd b1 h,b8⟩;have h8:=c0.out.size;have h9:=g7.out;omega
 .have g1:(ob !=oo)=true:=by simp[b1]
  go_wp2_with fail;refine bodyPost_ret (v:=.tuple #[.agg #[.int .u8 0,.int .i64 0,.string ⟨#[]⟩,.slice none 0 0,.int .i64 0],.int .i64 91]) (by simp[results,Tryz.results20,go_sem, *]) rfl ?_;generalize World.alloc w8 _=w9 at*;generalize b7:World.setCell _ _ _=We;have fe:Fr (λi=>i=W.heap.size+1) w9 We:=by
   rw[<-b7];repeat(first|with_reducible exact Fr.refl _ w9|with_reducible refine Fr.set ?_ s_ _)
  have b8:Fr No W We:=e7.out.trans' fe λi hi h=>by omega
  exact⟨λh=>absurd h b1,λ_=>rfl,b8⟩
def zkb (ps:List (Value->Prop)) (m:Value):Prop:=
 match ps with
 |[p,q]=>∃x y,m= .iface 276 (.agg #[x,y])/\p x/\q y
 |_=>∃A len cap,m= .iface 279 (.agg #[.slice A len cap])
def zkc (k n:Int) (s:ByteArray) (ps:List (Value->Prop)) (r:Int) (m:Value):Prop:=
 if k=1 then m= .iface 272 (.int .i64 n)
 else if k=2 then m= .iface 273 (.string s)
 else if k=4 then m= .iface 274 (.int .i64 r)
 else if k=3 then zkb ps m
 else m= .iface 281 (.agg #[])
def zlf:V->Value->Prop
 | .mk k n s l r=>zkc k n s (l.map zlf) r
termination_by v=>v
theorem zcy (k n:Int) (s:ByteArray) (l:List V) (r:Int):zlf (.mk k n s l r)=zkc k n s (l.map zlf) r:=by rw[zlf]
theorem zc8 {ps:List (Value->Prop)} {m:Value} (h:ps.length≠2):zkb ps m=∃A len cap,m= .iface 279 (.agg #[.slice A len cap]):=by
 match ps,h with
 |[],_=>rfl
 |[p],_=>rfl
 |[p,q],h=>simp at h
 |p::q::x::ps,_=>rfl
theorem zkc.iface {k n:Int} {s:ByteArray} {ps:List (Value->Prop)} {r:Int} {m:Value} (h:zkc k n s ps r m):∃ty x,m= .iface ty x:=by
 unfold zkc at h;by_cases h1:k=1
 .rw[if_pos h1]at h;exact⟨_,_,h⟩
 rw[if_neg h1]at h;by_cases h2:k=2
 .rw[if_pos h2]at h;exact⟨_,_,h⟩
 rw[if_neg h2]at h;by_cases h4:k=4
 .rw[if_pos h4]at h;exact⟨_,_,h⟩
 rw[if_neg h4]at h;by_cases h3:k=3
 .rw[if_pos h3]at h;by_cases hl:ps.length=2
  .obtain⟨p,q,rfl⟩:∃p q,ps=[p,q]:=by
    match ps,hl with
    |[p,q],_=>exact⟨p,q,rfl⟩
   obtain⟨x,y,h,_⟩:=h;exact⟨_,_,h⟩
  .rw[zc8 hl]at h;obtain⟨A,le,ca,h⟩:=h;exact⟨_,_,h⟩
 .rw[if_neg h3]at h;exact⟨_,_,h⟩
theorem zlf.iface {v:V} {m:Value} (h:zlf v m):∃ty x,m= .iface ty x:=by
 cases v with
 |mk k n s l r=>rw[zcy]at h;exact zkc.iface h
def zzd (v:V) (w:World) (e:Ending) (w':World):Prop:=∃m,e= .returned m/\zlf v m/\Fr No w w'
theorem Fr.grownNo {a w:World} (h:Fr No a w):a.grownBy w none:=⟨h.os,h.tape,h.output,h.size,λk hk _=>h.block k hk (λh=>h)⟩
theorem zwj {a w:World} {base:Nat} {e:TypeId} {size:Nat} {v:Value} {n:Nat} {xs:List Value} (h:a.ownsRow base e size v n xs) (hf:Fr No a w):w.ownsRow base e size v n xs:=
 h.kept hf.grownNo (by cases v.ownBlock<;>simp)
theorem znm {W0 w2:World} {g base j:Nat} {v m:Value} {xs:List Value} (hb:Blk W0 g 279 #[v]) (ho:W0.ownsRow base 49 1 v j xs) (fr:Fr No W0.drew w2):
 (w2.alloc (.cells #[m] 49)).ownsRow base 49 1 v j xs/\(w2.alloc (.cells #[m] 49)).cell? ⟨g,0,none⟩=some v/\(w2.alloc (.cells #[m] 49)).frozen? ⟨g,0,none⟩=false/\w2.cell? ⟨g,0,none⟩=some v/\W0.heap.size<=w2.heap.size/\g<w2.heap.size:=by
 have h1:Blk w2 g 279 #[v]:=Blk.fr (a:=W0.drew) hb fr (λh=>h);have h2:=h1.alloc (.cells #[m] 49);exact⟨(zwj (a:=W0.drew) ho fr).alloc _,h2.cell 0,h2.frozen 0,h1.cell 0,fr.size,h1.lt⟩
theorem znn {W w3:World} {g:Nat} {v:Value} (hg:W.grownBy w3 v.ownBlock) (hc:W.cell? ⟨g,0,none⟩=some v) (hf:W.frozen? ⟨g,0,none⟩=false) (hlt:g<W.heap.size) (hne:some g≠v.ownBlock):
 w3.cell? ⟨g,0,none⟩=some v/\w3.frozen? ⟨g,0,none⟩=false:=
 ⟨(hg.cell_far ⟨g,0,none⟩ hlt hne).trans hc,(hg.frozen_far ⟨g,0,none⟩ hlt hne).trans hf⟩
structure MarkInv (w:World) (X:Array Value) (j:Nat) (wr:World):Prop where
 fr:Fr No w wr
 big:w.heap.size+2<=wr.heap.size
 row:∃v xs,Blk wr (w.heap.size+1) 279 #[v]/\wr.ownsRow (w.heap.size+2) 49 1 v j xs
theorem zqt:(Tryz.prog.info? 49).map (λi=>(i.zero,i.size,i.bytes))=some (some .nilIface,1,16):=k_
theorem at2 {α:Type} {l:List α} (h:l.length=2):∃a b,l=[a,b]:=by
 match l,h with
 |[a,b],_=>exact⟨a,b,rfl⟩
theorem ztb (t:T):∀(w:World) (lo hi:Nat),t.In w lo hi->hi<=w.heap.size->Calls Tryz.prog 163 #[t.val] w (zzd t.v w):=by
 induction t using T.ind with
 |h k n s A cap l r ih=>
  intro w lo hi ht hh;rw[T.val_mk];have g1:=(T.in_mk.1 ht).1;have e8:=g1.len1;by_cases h3:k=3
  .subst h3;by_cases b7:l.length=2
   .obtain⟨x1,x2,rfl⟩:=at2 b7;obtain⟨b,o,k1,n1,s1,A1,a0,l1,r1,rfl,d4,g0,rfl,b1,e0,e1,e2,e3,e4⟩:=T.elem ht (j:=0) s_;obtain⟨b',o',k2,n2,s2,A2,b9,l2,r2,d1,d7,f8,rfl,a5,f0,f1,f2,f3,f4⟩:=T.elem ht (j:=1) s_;simp only[Option.some.injEq,Addr.mk.injEq,and_true]at d1;obtain⟨rfl,rfl⟩:=d1;have d2:=ih _ (by simp:T.mk k1 n1 s1 A1 a0 l1 r1∈_);have d0:=ih _ (by simp:T.mk k2 n2 s2 A2 b9 l2 r2∈_);rw[T.val_mk]at d2 d0;simp only[Nat.zero_mul,Nat.add_zero,Nat.one_mul]at e0 e1 e2 e3 e4 f0 f1 f2 f3 f4;have e7:b<w.heap.size:=o_;have e6:b<=w.heap.size:=o_;clear ih b7;go_enter Tryz.func163,Tryz.ntmps163;go_wp2_with fail;have b0:=(Fr.refl No w).alloc (.cells #[.int .u8 3,.int .i64 n,.string s,.slice (some ⟨b,o,none⟩) 2 cap,.int .i64 r] 28);obtain⟨c0,c1,c2,c3,c4,cf⟩:=(Blk.new w 28 #[.int .u8 3,.int .i64 n,.string s,.slice (some ⟨b,o,none⟩) 2 cap,.int .i64 r]).cells5;have b6:=b1.no b0 hh;have b5:=a5.no b0 hh;rw[<-b0.cells _ _ e7]at e0 e1 e2 e3 e4 f0 f1 f2 f3 f4;have a7:(w.alloc (.cells #[.int .u8 3,.int .i64 n,.string s,.slice (some ⟨b,o,none⟩) 2 cap,.int .i64 r] 28)).heap.size=w.heap.size+1:=s_;generalize w.alloc (.cells #[.int .u8 3,.int .i64 n,.string s,.slice (some ⟨b,o,none⟩) 2 cap,.int .i64 r] 28)=W0 at*;have c9:b<W0.heap.size:=o_;have g6:w.heap.size<W0.heap.size:=o_;have HF:=zaa b0;have HZ:=zaa a7;clear b0 a7 b1 a5 ht;have a3:hi<=W0.heap.size:=by have:=HZ.out;omega
    go_region_held3 (λw'=>(∀c i,c<W0.heap.size->w'.cell? ⟨c,i,none⟩=W0.cell? ⟨c,i,none⟩)/\Fr No W0 w')
     (first|exact⟨λ_ _ _=>rfl,Fr.drew (Fr.refl No W0)⟩|(have hq:Fr No W0 _:=(‹_/\Fr No W0 _›).2.trans ‹Fr No _ _›;exact⟨hq.cells,hq⟩))
     (first
      |(go_at_call 163;have a9:=(‹_/\Fr No W0 _›).2;((with_reducible refine(d2 _ lo hi ?_ ?_).mono ?_);(exact b6.no a9 a3);(exact Nat.le_trans a3 a9.size);rintro e w2 ⟨m1,rfl,b2,b3⟩;obtain⟨c5,y1,rfl⟩:=b2.iface))
      |(go_at_call 163;have a9:=(‹_/\Fr No W0 _›).2;((with_reducible refine(d0 _ lo hi ?_ ?_).mono ?_);(exact b5.no a9 a3);(exact Nat.le_trans a3 a9.size);rintro e w3 ⟨m2,rfl,c8,f5⟩;obtain⟨g4,y2,rfl⟩:=c8.iface)))
    go_wp2;go_ret;refine⟨_,rfl,?_,?_⟩
    .rw[T.v_mk,zcy];exact⟨_,_,rfl,b2,c8⟩
    .exact HF.out.trans (‹Fr No W0 w2›.trans f5)
   .have d5:((l.length:Int)==2)=false:=so_;obtain⟨i0,e5,d8,f7,d3⟩:=info_parts zqt;go_enter Tryz.func163,Tryz.ntmps163;go_wp2_with fail;go_loopw [44] (λi wr=>∃j:Nat,j<=l.length/\i= .int .i64 j/\MarkInv w #[] j wr) (λi _=>l.length - (intOf i).toNat)
    case atStart=>
     exact⟨0,Nat.zero_le _,rfl,((Fr.refl No w).alloc _).alloc _,by simp,_,[],Blk.new' (w.alloc _) 279 _ s_,World.ownsRow_nil _ _ _ _⟩
    case round=>
     obtain⟨j,hj,rfl,inv⟩:=hrel;have fr:=inv.fr;have g3:=inv.big;obtain⟨v,xs,b4,a2⟩:=inv.row;by_cases hlt:j<l.length
     .obtain⟨b,o,k1,n1,s1,A1,a0,l1,r1,rfl,d4,g0,hx,b1,e0,e1,e2,e3,e4⟩:=T.elem (ht.no fr hh) hlt;have IH:=ih l[j] (List.getElem_mem hlt);rw[hx,T.val_mk]at IH;have HX:=zaa hx;have g7:=Nat.le_of_lt hlt;clear hx ih inv;have HT:=zaa ht;clear ht;go_wp2_with fail;have a1:=b4.alloc (.cells #[.int .u8 k1,.int .i64 n1,.string s1,.slice A1 l1.length a0,.int .i64 r1] 28);have a4:=a2.alloc (.cells #[.int .u8 k1,.int .i64 n1,.string s1,.slice A1 l1.length a0,.int .i64 r1] 28);obtain⟨x0,x1,x2,x3,x4,xf⟩:=(Blk.new wr 28 #[.int .u8 k1,.int .i64 n1,.string s1,.slice A1 l1.length a0,.int .i64 r1]).cells5;have c7:=(Fr.refl No wr).alloc (.cells #[.int .u8 k1,.int .i64 n1,.string s1,.slice A1 l1.length a0,.int .i64 r1] 28);have c6:=b1.no c7 o_;have a6:(wr.alloc (.cells #[.int .u8 k1,.int .i64 n1,.string s1,.slice A1 l1.length a0,.int .i64 r1] 28)).heap.size=wr.heap.size+1:=s_;generalize wr.alloc (.cells #[.int .u8 k1,.int .i64 n1,.string s1,.slice A1 l1.length a0,.int .i64 r1] 28)=W0 at*;have c0:=a1.cell 0;simp only[List.getElem?_toArray,List.getElem?_cons_zero]at c0;have g2:¬v.ownBlock=some (w.heap.size+1):=λh=>by have:=a2.lt _ h;omega
      have g5:¬v.ownBlock=some wr.heap.size:=λh=>by have:=a2.lt _ h;omega
      have h5:w.heap.size+1<W0.heap.size:=o_;have g9:wr.heap.size<W0.heap.size:=o_;have a3:hi<=W0.heap.size:=o_;have HF:=zaa c7;have HZ:=zaa a6;have HB:=zaa a1;have g8:=zaa b4;have HO:=zaa a2;have f9:=zaa a4;have f0:=a1.frozen 0;have a8:some (w.heap.size+1)≠v.ownBlock:=Ne.symm g2;clear c7 a6 a1 b1 e0 e1 e2 e3 e4 b4 a2 a4;go_region_law (first
       |((refine step_append_lies _ r_ _ _ _ r_ (w.heap.size+2) 49 i0 _ 1 16 Tryz.underlying277 e5 d8 f7 d3 rfl o_ v j xs r_ b8 ⟨w2.heap.size,0,none⟩ 1 1 [.iface c5 y1] r_ r_ (cell_one_new _ _ _) (by simp[Value.oneCell']) o_ (by unfold maxLen;omega) o_ so_ _ rfl ?_);intro g cp w3 hown3 hgrow hat hlt3;obtain⟨c3,f3⟩:=znn hgrow d9 d6 so_ a8)
       |(go_simp;go_at_call 163;(with_reducible refine(IH _ lo hi ?_ ?_).mono ?_);(exact c6.no ((Fr.refl No W0).drew) a3);(exact a3);rintro e w2 ⟨m1,rfl,b2,b3⟩;obtain⟨c5,y1,rfl⟩:=b2.iface;obtain⟨b8,d9,d6,c2,e9,f6⟩:=znm (m:=.iface c5 y1) HB.out f9.out b3))
      all_goals
       go_wp2;go_roundw
       case rel=>
        have c9:Blk w3 (w.heap.size+1) 279 #[v]:=(hgrow.block (w.heap.size+1) so_ a8).trans ((Blk.fr (a:=W0.drew) HB.out b3 (λh=>h)).alloc _);have hF:Fr No w w3:=(((((fr.thenNo HF.out).drew).thenNo b3).alloc _).grown hgrow (λc hc hlt=>by have:=HO.out.lt c hc;omega));exact⟨j+1,hlt,by go_num,hF.setNew s_ _,Nat.le_trans o_ (show w2.heap.size<=_ by have:=hgrow.size;simp at this ⊢;omega),_,_,c9.set_ 0 _,ownsRow_setCell_below hown3 s_ _⟩
       case measure=>simp[intOf];omega
     .obtain rfl:l.length=j:=o_;have c0:=b4.cell 0;simp only[List.getElem?_toArray,List.getElem?_cons_zero]at c0;obtain⟨A',n',c',rfl⟩:∃A' n' c',v= .slice A' n' c':=by
       rcases a2.2 with⟨rfl,_⟩|⟨g,cp,h0,rfl,_⟩
       .exact⟨_,_,_,rfl⟩
       .exact⟨_,_,_,rfl⟩
      have HI:=zaa inv;have HO:=zaa a2;clear inv a2 ih;go_wp2;go_ret;refine⟨_,rfl,?_,HI.out.fr⟩;rw[T.v_mk,zcy];show zkb _ _;rw[zc8 (by simpa using b7)];exact⟨_,_,_,rfl⟩
  .by_cases h1:k=1
   .subst h1;go_enter Tryz.func163,Tryz.ntmps163;go_wp2;go_ret;exact⟨_,rfl,by rw[T.v_mk,zcy];rfl,(Fr.refl No w).alloc _⟩
   have k1:(k==1)=false:=by simp;exact h1
   by_cases h2:k=2
   .subst h2;go_enter Tryz.func163,Tryz.ntmps163;go_wp2;go_ret;exact⟨_,rfl,by rw[T.v_mk,zcy];rfl,(Fr.refl No w).alloc _⟩
   have k2:(k==2)=false:=by simp;exact h2
   by_cases h4:k=4
   .subst h4;go_enter Tryz.func163,Tryz.ntmps163;go_wp2;go_ret;exact⟨_,rfl,by rw[T.v_mk,zcy];rfl,(Fr.refl No w).alloc _⟩
   have k4:(k==4)=false:=by simp;exact h4
   have k3:(k==3)=false:=by simp;exact h3
   go_enter Tryz.func163,Tryz.ntmps163;go_wp2;go_ret;exact⟨_,rfl,by rw[T.v_mk,zcy,zkc,if_neg h1,if_neg h2,if_neg h4,if_neg h3];rfl,(Fr.refl No w).alloc _⟩
def OfP (v:V) (w:World) (e:Ending) (w':World):Prop:=
 (v.may=true->∃m,e= .returned (.tuple #[m,.int .i64 0])/\zlf v m/\Fr No w w')/\(v.may=false->e= .returned (.tuple #[.nilIface,.int .i64 2])/\Fr No w w')
theorem zwk (t:T) (w:World) (lo hi:Nat) (ht:t.In w lo hi) (hh:hi<=w.heap.size):Calls Tryz.prog 92 #[t.val] w (OfP t.v w):=by
 have hM:=λw' h h'=>zca t w' lo hi h h';have hO:=λw' h h'=>ztb t w' lo hi h h';cases t with
 |mk k n s A cap l r=>
  rw[T.val_mk]at*;cases hm:(T.mk k n s A cap l r).v.may
  .rw[hm]at hM;have HM:=zaa hm;clear hm hO;go_enter Tryz.func92,Tryz.ntmps92;go_wp2_with fail;refine(hM _ (ht.no (((Fr.refl No w).alloc _)) hh) so_).mono ?_;rintro e w2 ⟨rfl,a0⟩;go_wp2;go_ret2;exact⟨λh=>(by rw[HM.out]at h;cases h),λ_=>⟨rfl,((Fr.refl No w).alloc _).trans a0⟩⟩
  .rw[hm]at hM;have HM:=zaa hm;clear hm;go_enter Tryz.func92,Tryz.ntmps92;go_wp2_with fail;refine(hM _ (ht.no (((Fr.refl No w).alloc _)) hh) so_).mono ?_;rintro e w2 ⟨rfl,a0⟩;have b0:=((Blk.new' w 28 #[.int .u8 k,.int .i64 n,.string s,.slice A l.length cap,.int .i64 r] (g:=w.heap.size) rfl)).fr a0 (λh=>h);obtain⟨c0,c1,c2,c3,c4,cf⟩:=b0.cells5;have a1:Fr No w w2:=((Fr.refl No w).alloc _).trans a0;have a3:=ht.no a1 hh;have a5:hi<=w2.heap.size:=Nat.le_trans hh a1.size;clear b0 ht;go_wp2_with fail;refine(hO _ a3 a5).mono ?_;rintro e w3 ⟨m,rfl,a2,a4⟩;obtain⟨ty,y,rfl⟩:=a2.iface;go_wp2;go_ret2;exact⟨λ_=>⟨_,rfl,a2,a1.trans a4⟩,λh=>by rw[HM.out]at h;cases h⟩
def shp (k:Int) (len:Nat):Int:=if k=3 then(if len=2 then 3 else 5)else if k=1 then 1 else if k=2 then 2 else if k=4 then 4 else 0
def zh1 (k n:Int) (s:ByteArray) (r n':Int) (s':ByteArray) (r':Int):Bool:=
 if k=1 then n==n' else if k=2 then s.toList==s'.toList else if k=4 then r==r' else true
def zoy (ps:List (V->Nat)) (l:List V):Nat:=
 match ps,l with
 |[f,g],[a,b]=>if f a=1 then g b else f a
 |_,_=>2
def zr1 (k n:Int) (s:ByteArray) (ps:List (V->Nat)) (r:Int):V->Nat
 | .mk k' n' s' l' r'=>
  if shp k ps.length=shp k' l'.length then
   (if k=3 then zoy ps l' else if zh1 k n s r n' s' r'=true then 1 else 0)
  else 0
def V.cmp:V->V->Nat
 | .mk k n s l r=>zr1 k n s (l.map V.cmp) r
termination_by v=>v
theorem V.cmp_mk (k n:Int) (s:ByteArray) (l:List V) (r:Int):(V.mk k n s l r).cmp=zr1 k n s (l.map V.cmp) r:=by rw[V.cmp]
def zoz (res:Result Bool) (c:Nat) (w:World):Prop:=
 (c=0/\res= .ok false w)\/(c=1/\res= .ok true w)\/(c=2/\∃s,res= .halt (.panic (.iface 10 (.string s))) w)
theorem zkt (w:World):(typeStr 279).run Tryz.prog w= .ok "brand.row" w:=k_
theorem ze0 (m:String) (w:World):(runtimePanic (α:=Bool) (.error m)).run Tryz.prog w= .halt (.panic (.iface 10 (strVal m))) w:=by
 have h:Tryz.prog.rt.errorString=10:=k_;simp[runtimePanic,run_program,goPanic]
theorem ze1 (t:TypeId) (b:Bool) (h:(Tryz.prog.info? t).map (·.comparable)=some b):∃i,Tryz.prog.info? t=some i/\i.comparable=b:=by
 cases hi:Tryz.prog.info? t with
 |none=>rw[hi]at h;cases h
 |some i=>rw[hi]at h;exact⟨i,rfl,by simpa using h⟩
theorem zw3:(Tryz.prog.info? 272).map (·.comparable)=some true:=k_
theorem zw4:(Tryz.prog.info? 273).map (·.comparable)=some true:=k_
theorem zw5:(Tryz.prog.info? 274).map (·.comparable)=some true:=k_
theorem zw6:(Tryz.prog.info? 276).map (·.comparable)=some true:=k_
theorem zw7:(Tryz.prog.info? 279).map (·.comparable)=some false:=k_
theorem zw8:(Tryz.prog.info? 281).map (·.comparable)=some true:=k_
theorem zo0:Tryz.prog.holdsPacked Tryz.prog.depth 279=false:=k_
theorem zyc:∃ms,Tryz.prog.underlying 49=some (.interface ms):=⟨_,Tryz.underlying49⟩
theorem zo1 {d:Nat} {a b:TypeId} {x y:Value} {w:World} (h:a≠b):(Op.equalIn (d+1) 49 (.iface a x) (.iface b y)).run Tryz.prog w= .ok false w:=by
 obtain⟨ms,a0⟩:=zyc;simp[Op.equalIn,run_underlying a0,h]
theorem zg9 {d:Nat} {a:TypeId} {x y:Value} {w:World} (h:(Tryz.prog.info? a).map (·.comparable)=some true):
 (Op.equalIn (d+1) 49 (.iface a x) (.iface a y)).run Tryz.prog w=(Op.equalIn d a x y).run Tryz.prog w:=by
 obtain⟨ms,a0⟩:=zyc;obtain⟨i,hi,hc⟩:=ze1 a true h;simp[Op.equalIn,run_underlying a0,typeInfo,hi,hc]
theorem zvd {d:Nat} {x y:Value} {w:World}:∃s,(Op.equalIn (d+1) 49 (.iface 279 x) (.iface 279 y)).run Tryz.prog w= .halt (.panic (.iface 10 (.string s))) w:=by
 obtain⟨ms,a0⟩:=zyc;obtain⟨i,hi,hc⟩:=ze1 279 false zw7;obtain⟨s,hs⟩:∃s,strVal ("comparing uncomparable type "++"brand.row")= .string s:=⟨_,rfl⟩;refine⟨s,?_⟩;rw[<-hs];simp[Op.equalIn,run_underlying a0,typeInfo,hi,hc,run_program,zo0,zkt,ze0]
def mty (c:Int):TypeId:=if c=1 then 272 else if c=2 then 273 else if c=4 then 274 else if c=3 then 276 else if c=5 then 279 else 281
theorem zw9 {c c':Int} (hc:c=0\/c=1\/c=2\/c=3\/c=4\/c=5) (hc':c'=0\/c'=1\/c'=2\/c'=3\/c'=4\/c'=5) (h:c≠c'):mty c≠mty c':=by
 rcases hc with rfl|rfl|rfl|rfl|rfl|rfl<;>rcases hc' with rfl|rfl|rfl|rfl|rfl|rfl<;>simp_all [mty]
theorem zjq (k:Int) (len:Nat):shp k len=0\/shp k len=1\/shp k len=2\/shp k len=3\/shp k len=4\/shp k len=5:=by
 unfold shp;by_cases h3:k=3
 .by_cases h2:len=2<;>simp[h3,h2]
 by_cases h1:k=1
 .simp[h1]
 by_cases h2:k=2
 .simp[h2]
 by_cases h4:k=4
 .simp[h4]
 .simp[h1,h2,h3,h4]
theorem zkc.ty {k n:Int} {s:ByteArray} {ps:List (Value->Prop)} {r:Int} {m:Value} (h:zkc k n s ps r m):∃x,m= .iface (mty (shp k ps.length)) x:=by
 unfold zkc at h;by_cases h1:k=1
 .rw[if_pos h1]at h;subst h1;exact⟨_,h⟩
 rw[if_neg h1]at h;by_cases h2:k=2
 .rw[if_pos h2]at h;subst h2;exact⟨_,h⟩
 rw[if_neg h2]at h;by_cases h4:k=4
 .rw[if_pos h4]at h;subst h4;exact⟨_,h⟩
 rw[if_neg h4]at h;by_cases h3:k=3
 .rw[if_pos h3]at h;subst h3;by_cases hl:ps.length=2
  .obtain⟨p,q,rfl⟩:∃p q,ps=[p,q]:=at2 hl;obtain⟨x,y,h,_⟩:=h;exact⟨_,h⟩
  .rw[zc8 hl]at h;obtain⟨A,le,ca,h⟩:=h;have:mty (shp 3 ps.length)=279:=by simp[shp,hl,mty]
   rw[this];exact⟨_,h⟩
 .rw[if_neg h3]at h;have:mty (shp k ps.length)=281:=by simp[shp,h1,h2,h3,h4,mty]
  rw[this];exact⟨_,h⟩
theorem zve {d:Nat} {x y x' y':Value} {w:World} {c1 c2:Nat} (hx:∃t v,x= .iface t v) (hy:∃t v,y= .iface t v) (hx':∃t v,x'= .iface t v) (hy':∃t v,y'= .iface t v)
 (h1:zoz ((Op.equalIn d 49 x x').run Tryz.prog w) c1 w) (h2:zoz ((Op.equalIn d 49 y y').run Tryz.prog w) c2 w):
 zoz ((Op.equalIn (d+1) 276 (.agg #[x,y]) (.agg #[x',y'])).run Tryz.prog w) (if c1=1 then c2 else c1) w:=by
 obtain⟨t1,v1,rfl⟩:=hx;obtain⟨t2,v2,rfl⟩:=hy;obtain⟨t3,v3,rfl⟩:=hx';obtain⟨t4,v4,rfl⟩:=hy';have e:(Op.equalIn (d+1) 276 (.agg #[.iface t1 v1,.iface t2 v2]) (.agg #[.iface t3 v3,.iface t4 v4])).run Tryz.prog w=
  ((Sem.run Tryz.prog (Op.equalIn d 49 (Value.iface t1 v1) (Value.iface t3 v3)) w).andThen λa w'=>
   if a=false then Result.ok false w'
   else
    (Sem.run Tryz.prog (Op.equalIn d 49 (Value.iface t2 v2) (Value.iface t4 v4)) w').andThen λa w'=>
     if a=false then Result.ok false w' else Result.ok true w'):=by simp[go_sem]
 rw[e];rcases h1 with⟨rfl,h1⟩|⟨rfl,h1⟩|⟨rfl,s,h1⟩
 .rw[h1];exact .inl ⟨rfl,rfl⟩
 .rw[h1];simp only[Result.andThen_ok,if_pos];rcases h2 with⟨rfl,h2⟩|⟨rfl,h2⟩|⟨rfl,s,h2⟩
  .simp[h2];exact .inl ⟨rfl,rfl⟩
  .simp[h2];exact .inr (.inl ⟨rfl,rfl⟩)
  .simp[h2];exact .inr (.inr ⟨rfl,s,rfl⟩)
 .rw[h1];exact .inr (.inr ⟨rfl,s,rfl⟩)
theorem zd1 {b:Bool} {w:World} {res:Result Bool} (h:res= .ok b w):zoz res (if b=true then 1 else 0) w:=by
 cases b
 .exact .inl ⟨rfl,h⟩
 .exact .inr (.inl ⟨rfl,h⟩)
theorem zxa (u:V):∀(v:V) (d:Nat) (m1 m2:Value) (w:World),2*u.dep+2<=d->zlf u m1->zlf v m2->zoz ((Op.equalIn d 49 m1 m2).run Tryz.prog w) (u.cmp v) w:=by
 induction u using V.ind with
 |h k n s l r ih=>
  intro v d m1 m2 w hd h1 h2;cases v with
  |mk k' n' s' l' r'=>
   rw[zcy]at h1 h2;rw[V.cmp_mk,zr1];simp only[List.length_map];obtain⟨d,rfl⟩:∃e,d=e+2:=⟨d - 2,by omega⟩;by_cases hs:shp k l.length=shp k' l'.length
   .rw[if_pos hs];by_cases h3:k=3
    .subst h3;rw[if_pos rfl];have a5:k'=3/\(l.length=2↔l'.length=2):=by
      unfold shp at hs;by_cases hl:l.length=2<;>by_cases a0:k'=3<;>by_cases a1:l'.length=2<;>simp[hl,a0,a1]at hs ⊢ <;>(repeat' split at hs)<;>omega
     obtain⟨rfl,a3⟩:=a5;have e1:zkb (l.map zlf) m1:=by simpa[zkc]using h1
     have e2:zkb (l'.map zlf) m2:=by simpa[zkc]using h2
     by_cases hl:l.length=2
     .obtain⟨a,b,rfl⟩:=at2 hl;obtain⟨a',b',rfl⟩:=at2 (a3.1 hl);obtain⟨x,y,rfl,hx,hy⟩:=e1;obtain⟨x',y',rfl,a4,a2⟩:=e2;rw[zg9 zw6];have a7:a.dep<=top [a.dep,b.dep]:=zhk s_;have a6:b.dep<=top [a.dep,b.dep]:=zhk s_;rw[V.dep_mk,if_pos rfl]at hd;simp only[List.map_cons,List.map_nil]at hd;have g:=zve hx.iface hy.iface a4.iface a2.iface (ih a s_ a' d x x' w o_ hx a4) (ih b s_ b' d y y' w o_ hy a2);exact g
     .rw[zc8 (by simpa using hl)]at e1;rw[zc8 (by simpa using λh=>hl (a3.2 h))]at e2;obtain⟨A1,n1,c1,rfl⟩:=e1;obtain⟨A2,n2,c2,rfl⟩:=e2;have hp:zoy (l.map V.cmp) l'=2:=by
       match l,hl with
       |[],_=>rfl
       |[a],_=>rfl
       |[a,b],hl=>simp at hl
       |a::b::c::l,_=>rfl
      rw[hp];obtain⟨s,hs⟩:=zvd (d:=d+1) (x:=.agg #[.slice A1 n1 c1]) (y:=.agg #[.slice A2 n2 c2]) (w:=w);exact .inr (.inr ⟨rfl,s,hs⟩)
    .rw[if_neg h3];unfold zkc at h1 h2;by_cases k1:k=1
     .subst k1;have e:k'=1:=by
       unfold shp at hs;by_cases a0:k'=3<;>by_cases a1:l'.length=2<;>simp[a0,a1]at hs ⊢ <;>(repeat' split at hs)<;>omega
      subst e;simp at h1 h2;subst h1 h2;rw[zg9 zw3];refine zd1 ?_;simp[go_sem,zh1]
     by_cases k2:k=2
     .subst k2;have e:k'=2:=by
       unfold shp at hs;by_cases a0:k'=3<;>by_cases a1:l'.length=2<;>simp[a0,a1]at hs ⊢ <;>(repeat' split at hs)<;>omega
      subst e;simp at h1 h2;subst h1 h2;rw[zg9 zw4];refine zd1 ?_;simp[go_sem,zh1]
     by_cases k4:k=4
     .subst k4;have e:k'=4:=by
       unfold shp at hs;by_cases a0:k'=3<;>by_cases a1:l'.length=2<;>simp[a0,a1]at hs ⊢ <;>(repeat' split at hs)<;>omega
      subst e;simp at h1 h2;subst h1 h2;rw[zg9 zw5];refine zd1 ?_;simp[go_sem,zh1]
     have e:k'≠1/\k'≠2/\k'≠4/\k'≠3:=by
      unfold shp at hs;by_cases a0:k'=3<;>by_cases a1:l'.length=2<;>simp[h3,k1,k2,k4,a0,a1]at hs ⊢ <;>(repeat' split at hs)<;>omega
     obtain⟨e1,e2,e4,e3⟩:=e;rw[if_neg k1,if_neg k2,if_neg k4,if_neg h3]at h1;rw[if_neg e1,if_neg e2,if_neg e4,if_neg e3]at h2;subst h1 h2;rw[zg9 zw8];refine zd1 ?_;simp[go_sem,zh1,k1,k2,k4]
   .rw[if_neg hs];obtain⟨x,rfl⟩:=h1.ty;obtain⟨y,rfl⟩:=h2.ty;simp only[List.length_map];exact .inl ⟨rfl,zo1 (zw9 (zjq _ _) (zjq _ _) hs)⟩
end Go.Proofs.YtlejelbefmkakaaGreat

/- Texts joined: Re7, Re8, Re10, Re11. -/
import Derived.Test.YtlejelbefmkakaaGreatJn1
import Derived.Test.YtlejelbefmkakaaGreatJn11
import Derived.Test.YtlejelbefmkakaaGreatJn26
import Derived.Test.YtlejelbefmkakaaGreatJn28
import Derived.Test.YtlejelbefmkakaaGreatJn29
import Derived.Test.YtlejelbefmkakaaGreatJn30
import Derived.Test.YtlejelbefmkakaaGreatJn41
set_option maxHeartbeats 16000000
set_option maxRecDepth 100000
namespace Go.Proofs.YtlejelbefmkakaaGreat
open Go.RowKit
theorem zpp:zmp 136 260 6 80:=zdn (z:=.agg #[.string ⟨#[]⟩,.int .u8 0,.int .i64 0,.string ⟨#[]⟩,.slice none 0 0,.int .i64 0]) k_ Tryz.underlying136 rfl o_
theorem znf (l:List Nm) (y:Nm):zbq (l++[y])=zbq l++zbj y:=by simp[zbq]
structure ApN (w0:World) (A:Option Addr) (c:Nat) (l:List Nm) (wr:World):Prop where
 row:wr.ownsRow w0.heap.size 260 6 (.slice A l.length c) l.length (zbq l)
 inn:∀x∈l,x.1.size<=140737488351232/\x.2.In wr w0.heap.size wr.heap.size
 td:∀x∈l,∀b∈x.2.blocks,∃cs,Blk wr b 28 cs
 fr:Fr No w0 wr
section
variable {w0 wr w2 w3:World} {A A':Option Addr} {c c':Nat} {l:List Nm} {y:Nm}
theorem ApN.start (f:Fr No w0 wr):ApN w0 none 0 [] wr:=⟨World.ownsRow_nil _ _ _ _,by simp,by simp,f⟩
theorem ApN.no (h:ApN w0 A c l wr) (f:Fr No wr w2):ApN w0 A c l w2:=
 ⟨zaf h.row f λ_ _ h=>h,λx hx=>⟨(h.inn x hx).1,T.In.more (Nat.le_refl _) f.size _ ((h.inn x hx).2.no f (Nat.le_refl _))⟩,λx hx b hb=>(h.td x hx b hb).imp λ_ k=>k.fr f λh=>h,h.fr.trans f⟩
theorem ApN.add (h:ApN w0 A c l wr) (f:Fr No wr w2) (hs:y.1.size<=140737488351232) (hy:y.2.In w2 wr.heap.size w2.heap.size) (hyt:∀b∈y.2.blocks,∃cs,Blk w2 b 28 cs) (hk:zmq w2 w0.heap.size 260 6 l.length 1 (.slice A l.length c) (zbq l) (zbj y) A' c' w3):ApN w0 A' c' (l++[y]) w3:=by
 have h2:=h.no f;have a2:=hk.fr.size;have h0:=h.fr.size;have a0:∀x∈l++[y],x.1.size<=140737488351232/\x.2.In w2 w0.heap.size w2.heap.size/\∀b∈x.2.blocks,∃cs,Blk w2 b 28 cs:=λx hx=>by
  rcases List.mem_append.1 hx with hx|hx
  .exact⟨(h2.inn x hx).1,(h2.inn x hx).2,h2.td x hx⟩
  .simp only[List.mem_singleton]at hx;subst hx;exact⟨hs,T.In.more h0 (Nat.le_refl _) _ hy,hyt⟩
 have a1:∀x∈l++[y],∀b∈x.2.blocks,¬(Value.slice A l.length c).ownBlock=some b:=λx hx b hb e=>by
  obtain⟨cs,hc⟩:=(a0 x hx).2.2 b hb;exact zag h2.row hc d_ e rfl
 refine⟨?_,λx hx=>⟨(a0 x hx).1,T.In.more (Nat.le_refl _) a2 _ ((a0 x hx).2.1.frT hk.fr (Nat.le_refl _) (a1 x hx))⟩,λx hx b hb=>((a0 x hx).2.2 b hb).imp λ_ k=>k.fr hk.fr (a1 x hx b hb),h2.fr.trans' hk.fr λi hi hv=>by have:=(zaj h.row i hv).1;omega⟩;have:=hk.1;rwa [List.length_append,znf]
theorem ApN.nm (h:ApN w0 A c l wr) (hl:l.length*80<=140737488351232):NmRow wr w0.heap.size wr.heap.size A c l:=by
 refine⟨hl,zcf h.row,λhne=>?_,h.inn⟩;obtain⟨g,c',hA,a0,a1⟩:=h.row.form (List.length_pos_iff.2 hne);simp only[Value.slice.injEq,true_and]at hA;obtain⟨rfl,rfl⟩:=hA;refine⟨g,0,rfl,a0,a1,λi x hx j u hu=>?_⟩;have:=World.ownsRow.cells h.row (g:=g) rfl (i*6+j) u (zey _ _ _ _ _ hx hu);rwa [zbi,<-Nat.add_assoc]at this
end
section
variable {wr:World} {lo:Nat} {kind home n1 lost ofr byr set:Int} {full:Bool} {t:T} {A:Option Addr} {c:Nat} {l:List T} {CA NA:Option Addr} {cc nc:Nat} {code:List G} {ns:List Nm}
theorem zyh (hf:Tg.Fit ⟨kind,home,t,none,0,[],n1,lost,ofr,byr,set,full,none,0,[],none,0,[]⟩) (hv:t.In wr lo wr.heap.size) (htd:∀b∈t.blocks,∃cs,Blk wr b 28 cs):
 Tg.St wr lo ⟨kind,home,t,none,0,[],n1,lost,ofr,byr,set,full,none,0,[],none,0,[]⟩:=by
 refine⟨⟨hf,hv,T.in_mk.2 ⟨⟨by decide,by decide,by decide,by decide,by decide,(by show 0*64<=140737488351232;decide),Nat.le_refl _,by decide,by decide⟩,λh=>absurd rfl h,by simp⟩,⟨by simp,by simp,by simp,G.row_in.2 ⟨by simp,by simp⟩⟩,⟨by simp,by simp,by simp,by simp⟩⟩,?_,?_,?_,by simp⟩
 .rintro b (hb|hb)
  .exact htd b hb
  .unfold T.row at hb;rw[T.blocks_mk]at hb;simp at hb
 .intro b hb;rcases G.row_has hb with⟨a,h0,-⟩|⟨x,hx,-⟩
  .cases h0
  .cases hx
 .rintro b ⟨a,h0,-⟩;cases h0
theorem zxd (h:Tg.St wr lo ⟨kind,home,t,none,0,[],n1,lost,ofr,byr,set,full,none,0,[],none,0,[]⟩) (hin:(T.row A c l).In wr lo wr.heap.size) (htd:∀b∈(T.row A c l).blocks,∃cs,Blk wr b 28 cs):
 Tg.St wr lo ⟨kind,home,t,A,c,l,n1,lost,ofr,byr,set,full,none,0,[],none,0,[]⟩:=by
 obtain⟨⟨hf,hv,-,a0,hn⟩,tv,tc,tn,tm⟩:=h;refine⟨⟨⟨hf.kind,hf.home,hf.n,hf.lost,hf.ofr,hf.byr,hf.set⟩,hv,hin,a0,hn⟩,?_,tc,tn,tm⟩;rintro b (hb|hb)
 .exact tv b (.inl hb)
 .exact htd b hb
theorem zxe (h:Tg.St wr lo ⟨kind,home,t,A,c,l,n1,lost,ofr,byr,set,full,CA,cc,code,none,0,[]⟩) (hn:NmRow wr lo wr.heap.size NA nc ns) (tn:∀a,NA=some a->∃cs,Blk wr a.block 260 cs) (tm:∀y∈ns,∀b∈y.2.blocks,∃cs,Blk wr b 28 cs):
 Tg.St wr lo ⟨kind,home,t,A,c,l,n1,lost,ofr,byr,set,full,CA,cc,code,NA,nc,ns⟩:=by
 obtain⟨⟨hf,hv,a1,a0,-⟩,tv,tc,-,-⟩:=h;refine⟨⟨⟨hf.kind,hf.home,hf.n,hf.lost,hf.ofr,hf.byr,hf.set⟩,hv,a1,a0,hn⟩,tv,tc,?_,tm⟩;rintro b ⟨a,h0,-,rfl⟩;exact tn a h0
theorem Tg.St.no {x:Tg} {w w':World} (h:x.St w lo) (f:Fr No w w'):x.St w' lo:=h.fr f λ_ _ h=>h
theorem Tg.St.off {x:Tg} {w w':World} {g:Nat} {ty:TypeId} {cs:Array Value} (h:x.St w lo) (hb:Blk w g ty cs) (ht:ty≠28/\ty≠308/\ty≠311/\ty≠260/\ty≠9) (f:Fr (λi=>i=g) w w'):x.St w' lo:=
 h.fr f λ_ hx e=>zis h hb ht hx e
end
theorem NmRow.elem {w:World} {lo hi:Nat} {A:Option Addr} {cap:Nat} {l:List Nm} (h:NmRow w lo hi A cap l) {j:Nat} (hj:j<l.length):
 ∃b o nm k1 n1 s1 A1 a0 l1 r1,A=some ⟨b,o,none⟩/\lo<=b/\b<hi/\l[j]=(nm,T.mk k1 n1 s1 A1 a0 l1 r1)/\nm.size<=140737488351232/\(T.mk k1 n1 s1 A1 a0 l1 r1).In w lo hi/\w.cell? ⟨b,o+j*6,none⟩=some (.string nm)/\
  w.cell? ⟨b,o+j*6+1,none⟩=some (.int .u8 k1)/\w.cell? ⟨b,o+j*6+1+1,none⟩=some (.int .i64 n1)/\w.cell? ⟨b,o+j*6+1+2,none⟩=some (.string s1)/\
  w.cell? ⟨b,o+j*6+1+3,none⟩=some (.slice A1 l1.length a0)/\w.cell? ⟨b,o+j*6+1+4,none⟩=some (.int .i64 r1):=by
 obtain⟨b,o,hA,h0,h1,hc⟩:=h.at_ (by rintro rfl;simp at hj);obtain⟨hs,a2⟩:=h.inn _ (List.getElem_mem hj);have a1:=hc j _ (List.getElem?_eq_getElem hj);generalize l[j]=y at*;obtain⟨nm,k1,n1,s1,A1,a0,l1,r1⟩:=y;exact⟨b,o,nm,k1,n1,s1,A1,a0,l1,r1,hA,h0,h1,rfl,hs,a2,a1 0 _ rfl,a1 1 _ rfl,a1 2 _ rfl,a1 3 _ rfl,a1 4 _ rfl,a1 5 _ rfl⟩
theorem Fr.offO {w w1 w2:World} {g:Nat} (h:Fr No w w1) (hg:w.heap.size<=g) (f:Fr (λi=>i=g) w1 w2):Fr No w w2:=h.trans' f λi hi e=>by have e':i=g:=e;omega
theorem zsd (x:Tg) (w:World) (lo hi:Nat) (hx:x.In w lo hi) (hh:hi<=w.heap.size) (hvl:x.vs.length<=1000000) (hnl:x.names.length<=1000000):
 Calls Tryz.prog 176 #[x.val] w (zm6 x w):=by
 obtain⟨kind,home,⟨k,n,s,A,cap,l,r⟩,VA,vc,vs,n1,lost,ofr,byr,set,full,CA,cc,a2,NA,nc,a0⟩:=x;have HX:=zaa hx;have c5:=zaa hh;have hO:=λW' (f:Fr No w W')=>zfe (T.mk k n s A cap l r) W' lo hi (hx.v.no f hh) (Nat.le_trans hh f.size);rw[T.val_mk]at hO;have HO:=zaa hO;have n7:=zaa (λW' (f:Fr No w W')=>znz a2 W' lo hi CA cc (hx.code.no f hh) (Nat.le_trans hh f.size));have f6:(Tg.val ⟨kind,home,T.mk k n s A cap l r,VA,vc,vs,n1,lost,ofr,byr,set,full,CA,cc,a2,NA,nc,a0⟩)= .agg #[.int .u8 kind,.int .i64 home,.int .u8 k,.int .i64 n,.string s,.slice A l.length cap,.int .i64 r,.slice VA vs.length vc,.int .i64 n1,.int .i64 lost,.int .i64 ofr,.int .i64 byr,.int .u8 set,.bool full,.slice CA a2.length cc,.slice NA a0.length nc]:=rfl;rw[f6];have hb:=(Blk.new w 138 #[.int .u8 kind,.int .i64 home,.int .u8 k,.int .i64 n,.string s,.slice A l.length cap,.int .i64 r,.slice VA vs.length vc,.int .i64 n1,.int .i64 lost,.int .i64 ofr,.int .i64 byr,.int .u8 set,.bool full,.slice CA a2.length cc,.slice NA a0.length nc]).alloc (.cells #[.int .u8 0,.int .i64 0,.int .u8 0,.int .i64 0,.string ⟨#[]⟩,.slice none 0 0,.int .i64 0,.slice none 0 0,.int .i64 0,.int .i64 0,.int .i64 0,.int .i64 0,.int .u8 0,.bool false,.slice none 0 0,.slice none 0 0] 138);have hr:=Blk.new' (w.alloc (.cells #[.int .u8 kind,.int .i64 home,.int .u8 k,.int .i64 n,.string s,.slice A l.length cap,.int .i64 r,.slice VA vs.length vc,.int .i64 n1,.int .i64 lost,.int .i64 ofr,.int .i64 byr,.int .u8 set,.bool full,.slice CA a2.length cc,.slice NA a0.length nc] 138)) 138 #[.int .u8 0,.int .i64 0,.int .u8 0,.int .i64 0,.string ⟨#[]⟩,.slice none 0 0,.int .i64 0,.slice none 0 0,.int .i64 0,.int .i64 0,.int .i64 0,.int .i64 0,.int .u8 0,.bool false,.slice none 0 0,.slice none 0 0] (g:=w.heap.size+1) s_;have hf:=((Fr.refl No w).alloc (.cells #[.int .u8 kind,.int .i64 home,.int .u8 k,.int .i64 n,.string s,.slice A l.length cap,.int .i64 r,.slice VA vs.length vc,.int .i64 n1,.int .i64 lost,.int .i64 ofr,.int .i64 byr,.int .u8 set,.bool full,.slice CA a2.length cc,.slice NA a0.length nc] 138)).alloc (.cells #[.int .u8 0,.int .i64 0,.int .u8 0,.int .i64 0,.string ⟨#[]⟩,.slice none 0 0,.int .i64 0,.slice none 0 0,.int .i64 0,.int .i64 0,.int .i64 0,.int .i64 0,.int .u8 0,.bool false,.slice none 0 0,.slice none 0 0] 138);have k8:((w.alloc (.cells #[.int .u8 kind,.int .i64 home,.int .u8 k,.int .i64 n,.string s,.slice A l.length cap,.int .i64 r,.slice VA vs.length vc,.int .i64 n1,.int .i64 lost,.int .i64 ofr,.int .i64 byr,.int .u8 set,.bool full,.slice CA a2.length cc,.slice NA a0.length nc] 138)).alloc (.cells #[.int .u8 0,.int .i64 0,.int .u8 0,.int .i64 0,.string ⟨#[]⟩,.slice none 0 0,.int .i64 0,.slice none 0 0,.int .i64 0,.int .i64 0,.int .i64 0,.int .i64 0,.int .u8 0,.bool false,.slice none 0 0,.slice none 0 0] 138)).heap.size=w.heap.size+2:=s_;have HB:=zaa hb;have HR:=zaa hr;have HF:=zaa hf;have o0:=zaa k8;have a4:=zaa hx.fit;obtain⟨d0,d1,d2,d3,d4,d5,d6,d7,d8,d9,b4,b5,b8,b6,b1,b0⟩:=hb.cells16;have dq:=hb.lt;have dz:=hb.frozen;have m8:vs.length<=1000000:=hvl;have n0:a0.length<=1000000:=hnl;clear hx hh hO f6 hb hr hf k8 hvl hnl;obtain⟨Q0,i8⟩:∃Q0,zm6 ⟨kind,home,T.mk k n s A cap l r,VA,vc,vs,n1,lost,ofr,byr,set,full,CA,cc,a2,NA,nc,a0⟩ w=Q0:=⟨_,rfl⟩;rw[i8];have HQ:=zaa i8;clear i8;go_enter Tryz.func176,Tryz.ntmps176;go_upto_region 1 with(fail);generalize World.alloc (World.alloc w _) _=W0 at*;go_wp2_with fail;refine(HO.out W0 HF.out).mono ?_;rintro e w1 ⟨⟨k1,n2,s1,A1,c1,l1,r1⟩,rfl,j4,c2,f7,f1⟩;rw[T.val_mk];have f0:=zaa (HB.out.fr f1 λh=>h);have n4:=zaa j4;have g2:=zaa c2;have j0:=zaa (zyh (kind:=kind) (home:=home) (n1:=n1) (lost:=lost) (ofr:=ofr) (byr:=byr) (set:=set) (full:=full) ⟨a4.out.kind,a4.out.home,a4.out.n,a4.out.lost,a4.out.ofr,a4.out.byr,a4.out.set⟩ (T.In.more (show w.heap.size<=W0.heap.size by have:=o0.out;omega) (Nat.le_refl _) _ c2) f7);have k6:=zaa (HF.out.trans f1);have j9:=zaa (HR.out.fr f1 λh=>h);clear d0 d1 d2 d3 d4 d5 d6 d7 d8 d9 b4 b5 b8 b6 b1 b0 dq dz f1 j4 c2 f7;obtain⟨d0,d1,d2,d3,d4,d5,d6,d7,d8,d9,b4,b5,b8,b6,b1,b0⟩:=f0.out.cells16;have dq:=f0.out.lt;have dz:=f0.out.frozen;go_upto_region 2 with(fail);generalize a5:World.setCell _ _ _=W1;have h0:=((((f0.out.set_ 2 (.int .u8 k1)).set_ 3 (.int .i64 n2)).set_ 4 (.string s1)).set_ 5 (.slice A1 l1.length c1)).set_ 6 (.int .i64 r1);simp only[List.setIfInBounds_toArray,List.set_cons_zero,List.set_cons_succ]at h0;rw[a5]at h0;have h5:Fr (λi=>i=w.heap.size) w1 W1:=by
  rw[<-a5];repeat(first|with_reducible exact Fr.refl _ w1|with_reducible refine Fr.set ?_ s_ _)
 have m2:=zaa (j0.out.off f0.out d_ h5);have c4:=zaa (k6.out.offO (Nat.le_refl _) h5);have k2:=zaa (j9.out.fr h5 o_);have j1:=zaa h0;clear a5 h0 h5 d0 d1 d2 d3 d4 d5 d6 d7 d8 d9 b4 b5 b8 b6 b1 b0 dq dz j0 k6 j9 f0 g2;go_wp2_with fail;go_loopw [3,4] (λv i wr=>∃(A':Option Addr) (c':Nat) (l':List T),l'.length<=vs.length/\i= .int .i64 l'.length/\v= .slice A' l'.length c'/\Hid (l'.map T.v=(vs.take l'.length).map T.v)/\ApT W1 A' c' l' wr) (λ_ i _=>vs.length - (intOf i).toNat)
 case atStart=>exact⟨none,0,[],Nat.zero_le _,rfl,rfl,zaa s_,ApT.start (Fr.refl _ _)⟩
 case round=>
  obtain⟨A3,c3,l3,hj,rfl,rfl,a6,inv⟩:=hrel;have a8:=j1.out.fr inv.fr λh=>h;by_cases hlt:l3.length<vs.length
  .have f3:=c4.out.trans inv.fr;obtain⟨b,o,k3,n3,s3,A4,b9,l4,r4,rfl,m6,o5,e6,g3,e0,e1,e2,e3,e4⟩:=T.elem (HX.out.vs.no f3 c5.out) hlt;have hV:=zfe vs[l3.length] wr lo hi (by rw[e6];exact g3) (by have:=f3.size;have:=c5.out;omega);have i2:=zaa (zb3 T.v hlt);generalize vs[l3.length]=tj at*;rw[e6,T.val_mk]at hV;have i4:=zaa e6;have b7:=zaa inv;have i7:=zaa hV;have g0:b<wr.heap.size:=by have:=f3.size;have:=c5.out;omega
   have h3:wr.cell? ⟨w.heap.size,7,none⟩=some (.slice (some ⟨b,o,none⟩) vs.length vc):=a8.cell 7;have hq:=a8.lt;clear e6 hV inv a8 f3 g3;go_wp2_with fail;refine i7.out.mono ?_;rintro e w2 ⟨y,rfl,f9,a9,b2,f2⟩;obtain⟨k5,n5,s5,A5,a1,l5,r5⟩:=y;have a7:=(Fr.refl No w2).alloc (.cells #[.int .u8 k5,.int .i64 n5,.string s5,.slice A5 l5.length a1,.int .i64 r5] 28);have e8:=zaa (f2.trans a7);have n6:=zaa (T.In.more (Nat.le_refl _) a7.size _ (a9.no a7 (Nat.le_refl _)));have m5:=zaa f9;have o4:=zaa (λb hb=>(b2 b hb).imp λ_ (k:Blk _ _ _ _)=>k.fr a7 λh=>h);have h8:=zaa (b7.out.no (f2.trans a7));have i6:=zaa ((Blk.new w2 28 #[.int .u8 k5,.int .i64 n5,.string s5,.slice A5 l5.length a1,.int .i64 r5]).lies (cs:=(T.mk k5 n5 s5 A5 a1 l5 r5).cells) (cells_one _));have i3:=zaa (show W1.heap.size<=(w2.alloc (.cells #[.int .u8 k5,.int .i64 n5,.string s5,.slice A5 l5.length a1,.int .i64 r5] 28)).heap.size by have:=b7.out.fr.size;have:=(f2.trans a7).size;omega);clear f2 a7 f9 a9 b2;rw[T.val_mk];go_wp2_with (at_builtin;refine zbf _ r_ _ _ zda r_ W1.heap.size _ l3.length _ r_ h8.out.row w2.heap.size (w2.heap.size+1) (some ⟨w2.heap.size,0,none⟩) 1 1 _ r_ i6.out o_ o_ i3.out ?_;intro A6 c6 w6 hk;have HK:=zaa hk;clear hk);go_roundw
   case rel=>
    refine⟨A6,c6,l3++[T.mk k5 n5 s5 A5 a1 l5 r5],by simp;omega,by simp,by simp,zaa ?_,b7.out.add e8.out n6.out o4.out HK.out⟩;rw[List.length_append,List.map_append,a6.out];show _=(vs.take (l3.length+1)).map T.v;rw[i2.out];simp[m5.out,i4.out]
   case measure=>simp[intOf];omega
  .have c8:l3.length=vs.length:=o_;have hm:=a6.out;rw[c8,List.take_length]at hm;have o6:=zaa hm;have m9:=inv.fr.size;have j6:=c4.out.size;have b3:=inv.row_in o_;have j3:=zaa (zxd (m2.out.no inv.fr) (T.In.more j6 (Nat.le_refl _) _ b3) inv.row_td);have l0:=zaa (c4.out.trans inv.fr);have k7:=zaa (k2.out.fr inv.fr λh=>h);have e7:=zaa a8;have o8:=zaa c8;clear inv a8 b3 hm a6 m2 c4 k2 j1 c8;obtain⟨d0,d1,d2,d3,d4,d5,d6,d7,d8,d9,b4,b5,b8,b6,b1,b0⟩:=e7.out.cells16;have dq:=e7.out.lt;have dz:=e7.out.frozen;go_upto_region 8 with(fail);generalize a5:World.setCell _ _ _=W4;have g5:=e7.out.set_ 7 (.slice A3 l3.length c3);simp only[List.setIfInBounds_toArray,List.set_cons_zero,List.set_cons_succ]at g5;rw[a5]at g5;have h4:Fr (λi=>i=w.heap.size) wr W4:=by
    rw[<-a5];repeat(first|with_reducible exact Fr.refl _ wr|with_reducible refine Fr.set ?_ s_ _)
   have j2:=zaa (j3.out.off e7.out d_ h4);have h1:=zaa (l0.out.offO (Nat.le_refl _) h4);have k4:=zaa (k7.out.fr h4 o_);have f8:=zaa g5;clear a5 g5 h4 d0 d1 d2 d3 d4 d5 d6 d7 d8 d9 b4 b5 b8 b6 b1 b0 dq dz j3 l0 k7 e7 j6 m9 hlt hj;obtain⟨d0,d1,d2,d3,d4,d5,d6,d7,d8,d9,b4,b5,b8,b6,b1,b0⟩:=f8.out.cells16;have dq:=f8.out.lt;have dz:=f8.out.frozen;go_wp2_with fail;refine(n7.out W4 h1.out).mono ?_;rintro e w5 ⟨A6,c6,l6,rfl,q1,q2,q3,q4,q5,q6,f5⟩;have o2:=f5.size;have l9:=zaa (zom (cc:=c6) (j2.out.no f5) (by rw[q1];exact HX.out.code.len1) (by rw[q1];exact q2) q3 (G.In.more h1.out.size (Nat.le_refl _) _ q5) q6);have i9:=zaa (h1.out.trans f5);have l8:=zaa (k4.out.fr f5 λh=>h);have f4:=zaa (f8.out.fr f5 λh=>h);have m4:=zaa (And.intro q1 q4);clear q1 q2 q3 q4 q5 q6 f5 o2 j2 h1 k4 f8 d0 d1 d2 d3 d4 d5 d6 d7 d8 d9 b4 b5 b8 b6 b1 b0 dq dz;obtain⟨d0,d1,d2,d3,d4,d5,d6,d7,d8,d9,b4,b5,b8,b6,b1,b0⟩:=f4.out.cells16;have dq:=f4.out.lt;have dz:=f4.out.frozen;go_upto_region 9 with(fail);generalize a5:World.setCell _ _ _=W6;have g7:=f4.out.set_ 14 (.slice A6 a2.length c6);simp only[List.setIfInBounds_toArray,List.set_cons_zero,List.set_cons_succ]at g7;rw[a5]at g7;have g8:Fr (λi=>i=w.heap.size) w5 W6:=by
    rw[<-a5];repeat(first|with_reducible exact Fr.refl _ w5|with_reducible refine Fr.set ?_ s_ _)
   have m3:=zaa (l9.out.off f4.out d_ g8);have c0:=zaa (i9.out.offO (Nat.le_refl _) g8);have l2:=zaa (l8.out.fr g8 o_);have h2:=zaa g7;clear a5 g7 g8 d0 d1 d2 d3 d4 d5 d6 d7 d8 d9 b4 b5 b8 b6 b1 b0 dq dz l9 i9 l8 f4;go_wp2_with fail;go_loopw [5,6] (λv i wr=>∃(A':Option Addr) (c':Nat) (l':List Nm),l'.length<=a0.length/\i= .int .i64 l'.length/\v= .slice A' l'.length c'/\Hid ((l'.map λz=>(z.1,z.2.v))=(a0.take l'.length).map λz=>(z.1,z.2.v))/\ApN W6 A' c' l' wr) (λ_ i _=>a0.length - (intOf i).toNat)
   case atStart=>exact⟨none,0,[],Nat.zero_le _,rfl,rfl,zaa s_,ApN.start (Fr.refl _ _)⟩
   case round=>
    obtain⟨A7,c7,a3,hj,rfl,rfl,a6,inv⟩:=hrel;have a8:=h2.out.fr inv.fr λh=>h;by_cases hlt:a3.length<a0.length
    .have f3:=c0.out.trans inv.fr;obtain⟨b,o,nm,k3,n3,s3,A4,b9,l4,r4,k0,m6,o5,e6,g1,g3,e0,e1,e2,e3,e4,e5⟩:=NmRow.elem (HX.out.names.fr c0.out c5.out λ_ _ _ h=>h) hlt;have i5:NA=some ⟨b,o,none⟩:=k0;subst i5;have hV:=λW' (f:Fr No W6 W')=>zfe (T.mk k3 n3 s3 A4 b9 l4 r4) W' lo hi (g3.no f (by have:=c0.out.size;have:=c5.out;omega)) (by have:=c0.out.size;have:=f.size;have:=c5.out;omega);rw[T.val_mk]at hV;have i2:=zaa (zb3 (λz:Nm=>(z.1,z.2.v)) hlt);have g0:b<W6.heap.size:=by have:=c0.out.size;have:=c5.out;omega
     have j8:W6.cell? ⟨w.heap.size,15,none⟩=some (.slice (some ⟨b,o,none⟩) a0.length nc):=h2.out.cell 15;have h9:=h2.out.lt;have h3:wr.cell? ⟨w.heap.size,15,none⟩=some (.slice (some ⟨b,o,none⟩) a0.length nc):=a8.cell 15;have hq:=a8.lt;have g9:Hid (∀w':World,Fr No W6 w'->(λw'=>w'.cell? ⟨w.heap.size,15,none⟩=some (.slice (some ⟨b,o,none⟩) a0.length nc)/\w.heap.size<w'.heap.size/\b<w'.heap.size/\w'.cell? ⟨b,o+a3.length*6,none⟩=some (.string nm)/\w'.cell? ⟨b,o+a3.length*6+1,none⟩=some (.int .u8 k3)/\w'.cell? ⟨b,o+a3.length*6+1+1,none⟩=some (.int .i64 n3)/\w'.cell? ⟨b,o+a3.length*6+1+2,none⟩=some (.string s3)/\w'.cell? ⟨b,o+a3.length*6+1+3,none⟩=some (.slice A4 l4.length b9)/\w'.cell? ⟨b,o+a3.length*6+1+4,none⟩=some (.int .i64 r4)) w'):=zaa λw' f=>⟨(f.cell h9 λh=>h).trans j8,Nat.lt_of_lt_of_le h9 f.size,Nat.lt_of_lt_of_le g0 f.size,(f.cell g0 λh=>h).trans e0,(f.cell g0 λh=>h).trans e1,(f.cell g0 λh=>h).trans e2,(f.cell g0 λh=>h).trans e3,(f.cell g0 λh=>h).trans e4,(f.cell g0 λh=>h).trans e5⟩;have i4:=zaa e6;have o7:=zaa g1;have b7:=zaa inv;have i7:=zaa hV;clear e6 hV inv a8 f3 g3 j8 h9 e0 e1 e2 e3 e4 e5 k0 g1;go_upto_region 13 with(fail);clear h3 hq g0;refine wp_region_held_drew (S:=λw'=>w'.cell? ⟨w.heap.size,15,none⟩=some (.slice (some ⟨b,o,none⟩) a0.length nc)/\w.heap.size<w'.heap.size/\b<w'.heap.size/\w'.cell? ⟨b,o+a3.length*6,none⟩=some (.string nm)/\w'.cell? ⟨b,o+a3.length*6+1,none⟩=some (.int .u8 k3)/\w'.cell? ⟨b,o+a3.length*6+1+1,none⟩=some (.int .i64 n3)/\w'.cell? ⟨b,o+a3.length*6+1+2,none⟩=some (.string s3)/\w'.cell? ⟨b,o+a3.length*6+1+3,none⟩=some (.slice A4 l4.length b9)/\w'.cell? ⟨b,o+a3.length*6+1+4,none⟩=some (.int .i64 r4)) k_ ?_ (λhHeld=>?_)
     .exact g9.out _ (b7.out.fr.trans ((Fr.refl No wr).drew))
     refine t_ 0 ?_;try simp only[Act.put,lp_]
     refine t_ 1 ?_;try simp only[Act.put,lp_]
     refine t_ 2 ?_;try simp only[Act.put,lp_]
     refine t_ 3 ?_;try simp only[Act.put,lp_]
     refine t_ 4 ?_;try simp only[Act.put,lp_]
     refine t_ 5 ?_;try simp only[Act.put,lp_]
     refine t_ 6 ?_;try simp only[Act.put,lp_]
     refine t_ 7 ?_;try simp only[Act.put,lp_]
     refine t_ 8 ?_;try simp only[Act.put,lp_]
     refine t_ 9 ?_;try simp only[Act.put,lp_]
     refine t_ 10 ?_;try simp only[Act.put,lp_]
     refine t_ 11 ?_;try simp only[Act.put,lp_]
     refine t_ 12 ?_;try simp only[Act.put,lp_]
     refine wpAnyH_ready (rs:=[13]) k_ s_ ?_;refine AllReadyH.cons rfl (λK hK=>?_) AllReadyH.nil
     .go_simp;refine i7.out _ (b7.out.fr.trans ((Fr.refl No wr).drew)) |>.mono ?_;rintro e w2 ⟨y,rfl,f9,a9,b2,f2⟩;obtain⟨k5,n5,s5,A5,a1,l5,r5⟩:=y;rw[T.val_mk];have m0:=zaa (And.intro f9 (And.intro a9 b2));have c4:=zaa (((Fr.refl No wr).drew).trans f2);clear f9 a9 b2 f2;refine hK.out _ _ ?_ (λhHeld2=>?_)
      .exact g9.out _ (b7.out.fr.trans c4.out)
      clear hK K hHeld;have hHeld:=hHeld2;clear hHeld2;try simp only[Act.put,lp_]
      refine t_ 14 ?_;try simp only[Act.put,lp_]
      refine wpAnyH_ready (rs:=[15]) k_ s_ ?_;refine AllReadyH.cons rfl (λK hK=>?_) AllReadyH.nil
      .go_simp;have e8:=zaa (c4.out.alloc (.cells #[.string nm,.int .u8 k5,.int .i64 n5,.string s5,.slice A5 l5.length a1,.int .i64 r5] 260));have i0:=zaa ((Fr.refl No w2).alloc (.cells #[.string nm,.int .u8 k5,.int .i64 n5,.string s5,.slice A5 l5.length a1,.int .i64 r5] 260));refine hK.out _ _ ?_ (λhHeld2=>?_)
       .exact g9.out _ (b7.out.fr.trans e8.out)
       clear hK K hHeld;have hHeld:=hHeld2;clear hHeld2;try simp only[Act.put,lp_]
       refine wpAnyH_ready (rs:=[16]) k_ s_ ?_;refine AllReadyH.cons rfl (λK hK=>?_) AllReadyH.nil
       .have i6:=zaa ((Blk.new w2 260 #[.string nm,.int .u8 k5,.int .i64 n5,.string s5,.slice A5 l5.length a1,.int .i64 r5]).lies (cs:=zbj (nm,T.mk k5 n5 s5 A5 a1 l5 r5)) (zg1 _));have h8:=zaa (b7.out.no e8.out);have n8:W6.heap.size<=(w2.alloc (.cells #[.string nm,.int .u8 k5,.int .i64 n5,.string s5,.slice A5 l5.length a1,.int .i64 r5] 260)).heap.size:=Nat.le_trans b7.out.fr.size e8.out.size;refine zcn r_ _ _ zpp r_ W6.heap.size _ a3.length _ r_ h8.out.row w2.heap.size (w2.heap.size+1) (some ⟨w2.heap.size,0,none⟩) 1 1 _ r_ i6.out o_ o_ n8 ?_;intro A9 c9 w7 hk;have hy:=m0.out;have a7:=i0.out;have g4:=zaa (b7.out.add (y:=(nm,T.mk k5 n5 s5 A5 a1 l5 r5)) e8.out o7.out (T.In.more (Nat.le_refl _) a7.size _ (hy.2.1.no a7 (Nat.le_refl _))) (λb hb=>(hy.2.2 b hb).imp λ_ (k:Blk _ _ _ _)=>k.fr a7 λh=>h) hk);clear hk hy a7;refine hK.out _ _ ?_ (λhHeld2=>?_)
        .exact g9.out _ g4.out.fr
        clear hK K hHeld;have hHeld:=hHeld2;clear hHeld2;try simp only[Act.put,lp_]
        refine t_ 17 ?_;try simp only[Act.put]
        refine wpAnyH_done k_ ?_ _;clear hHeld;go_wp2_with fail;go_roundw
        case rel=>
         refine⟨A9,c9,a3++[(nm,T.mk k5 n5 s5 A5 a1 l5 r5)],by simp;omega,by simp,by simp,zaa ?_,g4.out⟩;rw[List.length_append,List.map_append,a6.out];show _=(a0.take (a3.length+1)).map λz=>(z.1,z.2.v);rw[i2.out];simp[m0.out.1,i4.out]
        case measure=>simp[intOf];omega
    .have c8:a3.length=a0.length:=o_;have hm:=a6.out;rw[c8,List.take_length]at hm;have b3:=inv.nm o_;have j7:=zaa (zxe (m3.out.no inv.fr) (b3.more c0.out.size (Nat.le_refl _)) (λa ha=>zkr inv.row ha) inv.td);have m1:=zaa (c0.out.trans inv.fr);have k9:=zaa (l2.out.fr inv.fr λh=>h);have e9:=zaa a8;have o9:=zaa c8;have n9:=zaa hm;clear inv a8 b3 hm a6 m3 c0 l2 h2 c8;obtain⟨d0,d1,d2,d3,d4,d5,d6,d7,d8,d9,b4,b5,b8,b6,b1,b0⟩:=e9.out.cells16;have dq:=e9.out.lt;have dz:=e9.out.frozen;go_upto_region 15 with(fail);generalize a5:World.setCell _ _ _=W8;have g6:=e9.out.set_ 15 (.slice A7 a3.length c7);simp only[List.setIfInBounds_toArray,List.set_cons_zero,List.set_cons_succ]at g6;rw[a5]at g6;have h6:Fr (λi=>i=w.heap.size) wr W8:=by
      rw[<-a5];repeat(first|with_reducible exact Fr.refl _ wr|with_reducible refine Fr.set ?_ s_ _)
     have m7:=zaa (j7.out.off e9.out d_ h6);have o3:=zaa (m1.out.offO (Nat.le_refl _) h6);have h7:=zaa (k9.out.fr h6 o_);have j5:=zaa g6;clear a5 g6 h6 d0 d1 d2 d3 d4 d5 d6 d7 d8 d9 b4 b5 b8 b6 b1 b0 dq dz j7 m1 k9 e9;obtain⟨y,hy⟩:∃y:Tg,y=⟨kind,home,T.mk k1 n2 s1 A1 c1 l1 r1,A3,c3,l3,n1,lost,ofr,byr,set,full,A6,c6,l6,A7,c7,a3⟩:=⟨_,rfl⟩;have l7:y.cells.toArray=#[.int .u8 kind,.int .i64 home,.int .u8 k1,.int .i64 n2,.string s1,.slice A1 l1.length c1,.int .i64 r1,.slice A3 l3.length c3,.int .i64 n1,.int .i64 lost,.int .i64 ofr,.int .i64 byr,.int .u8 set,.bool full,.slice A6 a2.length c6,.slice A7 a3.length c7]:=by rw[hy,<-m4.out.1];rfl
     have i1:=j5.out;rw[<-l7]at i1;have o1:=zaa i1;have HY:=zaa hy;clear i1 l7 j5;go_wp2_with (first|(refine wpList_load_row r_ _ (.tmp 1) r_ w.heap.size r_ _ _ _ _ o1.out Tryz.underlying138 r_ (zam.trans (by rw[zae])) ?_)|(refine wpList_store_row r_ 138 (.tmp 2) (.tmp 59) r_ (w.heap.size+1) y.cells.toArray r_ r_ _ _ h7.out (zam.trans (by rw[zae])) (by rw[zae];rfl) (zaq y) ?_));refine bodyPost_ret (results_cell_row rfl _ _ (w.heap.size+1) _ y.cells.toArray _ _ rfl (zbn (us:=y.cells.toArray) h7.out) Tryz.underlying138 r_ (zam.trans (by rw[zae]))) rfl ?_;rw[<-HQ.out];have hS:y.St W8 w.heap.size:=by rw[HY.out];exact m7.out
     refine⟨y,rfl,by rw[HY.out];exact⟨rfl,rfl,rfl,rfl,rfl,rfl,rfl,rfl⟩,by rw[HY.out];exact n4.out,by rw[HY.out];exact o6.out,by rw[HY.out];exact m4.out.2,by rw[HY.out];exact n9.out,hS.off h7.out d_ (zb0 _ _ _),o3.out.offO o_ (zb0 _ _ _)⟩
structure Rw where
 wb:Nat
 P:Option Addr
 pc:Nat
 par:List Int
 C:Option Addr
 cc:Nat
 cut:List Bool
 TA:Option Addr
 tc:Nat
 ths:List (Int×Tg)
 last:Int
 D:Option Addr
 dc:Nat
 made:List Int
def Rw.cells (m:Rw):Array Value:=#[.slice m.P m.par.length m.pc,.slice m.C m.cut.length m.cc,.slice m.TA m.ths.length m.tc,.int .i64 m.last,.slice m.D m.made.length m.dc]
def zhb (l:List Bool):List Value:=l.map λb=>Value.bool b
structure Rw.Ok (m:Rw) (lo:Nat) (W:World):Prop where
 blk:Blk W m.wb 208 m.cells
 par:W.ownsRow lo 3 1 (.slice m.P m.par.length m.pc) m.par.length (zak m.par)
 cut:W.ownsRow lo 4 1 (.slice m.C m.cut.length m.cc) m.cut.length (zhb m.cut)
 th:W.ownsRow lo 140 17 (.slice m.TA m.ths.length m.tc) m.ths.length (zcw m.ths)
 made:W.ownsRow lo 3 1 (.slice m.D m.made.length m.dc) m.made.length (zak m.made)
 st:∀x∈m.ths,x.2.St W lo
 rng:∀x∈m.ths,-9223372036854775808<=x.1/\x.1<=9223372036854775807
 lo0:lo<=m.wb
 len:m.ths.length<=1000000
 sep:∀q,(Value.slice m.P m.par.length m.pc).ownBlock=some q->(Value.slice m.D m.made.length m.dc).ownBlock≠some q
theorem Rw.Ok.no {m:Rw} {lo:Nat} {W W':World} (h:m.Ok lo W) (f:Fr No W W'):m.Ok lo W':=
 ⟨h.blk.fr f λh=>h,zaf h.par f λ_ _ h=>h,zaf h.cut f λ_ _ h=>h,zaf h.th f λ_ _ h=>h,zaf h.made f λ_ _ h=>h,λx hx=>(h.st x hx).no f,h.rng,h.lo0,h.len,h.sep⟩
theorem Rw.Ok.rt {m:Rw} {lo:Nat} {W:World} (h:m.Ok lo W):RwT W m.wb lo W.heap.size m.TA m.tc m.ths:=
 ⟨h.blk.cell 2,h.blk.lt,EnRow.own h.th (Nat.le_refl _) (by have:=h.len;omega) (λx hx=>(h.st x hx).inn) h.rng,Nat.le_refl _⟩
theorem zl6:zmp 36 3 1 8:=zdn (z:=.int .i64 0) k_ Tryz.underlying36 rfl o_
theorem zio:zmp 69 140 17 200:=zdn (z:=.agg (zc9 (0,Tg.zero)).toArray) k_ Tryz.underlying69 rfl o_
section
variable {m:Rw} {lo:Nat} {W w5:World}
theorem Rw.Ok.addP (h:m.Ok lo W) {p:Int} {A':Option Addr} {c':Nat} (hk:zmq W lo 3 1 m.par.length 1 (.slice m.P m.par.length m.pc) (zak m.par) [.int .i64 p] A' c' w5):
 ({m with P:=A',pc:=c',par:=m.par++[p]}:Rw).Ok lo (w5.setCell ⟨m.wb,0,none⟩ (.slice A' (m.par.length+1) c'))/\Fr (λi=>lo<=i) W (w5.setCell ⟨m.wb,0,none⟩ (.slice A' (m.par.length+1) c')):=by
 have e:(m.par++[p]).length=m.par.length+1:=s_;have f1:Fr (λi=>(Value.slice m.P m.par.length m.pc).ownBlock=some i) W w5:=hk.fr;have f2:Fr (λi=>i=m.wb) w5 (w5.setCell ⟨m.wb,0,none⟩ (.slice A' (m.par.length+1) c')):=(Fr.refl (λi=>i=m.wb) w5).set (λ_=>rfl) _;have a0:=h.blk.fr f1 λe=>zag h.par h.blk d_ e rfl;have a4:=a0.set_ 0 (.slice A' (m.par.length+1) c');have a1:=hk.1;have a2:∀x∈m.ths,x.2.St w5 lo:=λx hx=>(h.st x hx).fr f1 λb hb e=>by
  obtain⟨cs,hc⟩:=zao h.par e;exact zis (h.st x hx) hc d_ hb rfl
 have hC:=zaf h.cut f1 λq hq e=>zcj h.cut h.par d_ hq e;have hT:=zaf h.th f1 λq hq e=>zcj h.th h.par d_ hq e;have hD:=zaf h.made f1 λq hq e=>h.sep q e hq;refine⟨⟨?_,?_,zaf hC f2 λq hq e=>zag hC a0 d_ hq e,zaf hT f2 λq hq e=>zag hT a0 d_ hq e,zaf hD f2 λq hq e=>zag hD a0 d_ hq e,λx hx=>(a2 x hx).off a0 d_ f2,h.rng,h.lo0,h.len,λq hq hqD=>?_⟩,(f1.mono λi hi e=>(zaj h.par i e).1).trans' f2 λi hi e=>by have:=h.lo0;have e':i=m.wb:=e;omega⟩
 .have:({m with P:=A',pc:=c',par:=m.par++[p]}:Rw).cells=m.cells.setIfInBounds 0 (.slice A' (m.par.length+1) c'):=by
   unfold Rw.cells;rw[e];rfl
  rw[this];exact a4
 .show World.ownsRow _ _ _ _ (.slice A' (m.par++[p]).length c') (m.par++[p]).length (zak (m.par++[p]));rw[e,show zak (m.par++[p])=zak m.par++[.int .i64 p] by simp[zak]];exact zaf a1 f2 λq hq e=>zag a1 a0 d_ hq e
 .have a3:(Value.slice A' (m.par.length+1) c').ownBlock=some q:=by
   rw[<-e];exact hq
  rcases hk.2.2 q a3 with h1|h1
  .exact h.sep q h1 hqD
  .have:=(zaj h.made q hqD).2;omega
theorem Rw.Ok.addT (h:m.Ok lo W) {x:Int×Tg} (hx:x.2.St W lo) (hr: -9223372036854775808<=x.1/\x.1<=9223372036854775807) (hl:m.ths.length<1000000) {A':Option Addr} {c':Nat} (hk:zmq W lo 140 17 m.ths.length 1 (.slice m.TA m.ths.length m.tc) (zcw m.ths) (zc9 x) A' c' w5):
 ({m with TA:=A',tc:=c',ths:=m.ths++[x]}:Rw).Ok lo (w5.setCell ⟨m.wb,2,none⟩ (.slice A' (m.ths.length+1) c'))/\Fr (λi=>(Value.slice m.TA m.ths.length m.tc).ownBlock=some i\/i=m.wb) W (w5.setCell ⟨m.wb,2,none⟩ (.slice A' (m.ths.length+1) c')):=by
 have e:(m.ths++[x]).length=m.ths.length+1:=s_;have f1:Fr (λi=>(Value.slice m.TA m.ths.length m.tc).ownBlock=some i) W w5:=hk.fr;have f2:Fr (λi=>i=m.wb) w5 (w5.setCell ⟨m.wb,2,none⟩ (.slice A' (m.ths.length+1) c')):=(Fr.refl (λi=>i=m.wb) w5).set (λ_=>rfl) _;have a0:=h.blk.fr f1 λe=>zag h.th h.blk d_ e rfl;have a3:=a0.set_ 2 (.slice A' (m.ths.length+1) c');have a2:=hk.1;have a1:∀y:Int×Tg,y.2.St W lo->y.2.St (w5.setCell ⟨m.wb,2,none⟩ (.slice A' (m.ths.length+1) c')) lo:=λy hy=>(hy.fr f1 λb hb e=>by
  obtain⟨cs,hc⟩:=zao h.th e;exact zis hy hc d_ hb rfl).off a0 d_ f2
 have hP:=zaf h.par f1 λq hq e=>zcj h.par h.th d_ hq e;have hC:=zaf h.cut f1 λq hq e=>zcj h.cut h.th d_ hq e;have hD:=zaf h.made f1 λq hq e=>zcj h.made h.th d_ hq e;refine⟨⟨?_,zaf hP f2 λq hq e=>zag hP a0 d_ hq e,zaf hC f2 λq hq e=>zag hC a0 d_ hq e,?_,zaf hD f2 λq hq e=>zag hD a0 d_ hq e,λy hy=>?_,λy hy=>?_,h.lo0,by show(m.ths++[x]).length<=1000000;omega,h.sep⟩,(f1.mono λi hi e=>.inl e).trans' f2 λi hi e=>.inr e⟩
 .have:({m with TA:=A',tc:=c',ths:=m.ths++[x]}:Rw).cells=m.cells.setIfInBounds 2 (.slice A' (m.ths.length+1) c'):=by
   unfold Rw.cells;rw[e];rfl
  rw[this];exact a3
 .show World.ownsRow _ _ _ _ (.slice A' (m.ths++[x]).length c') (m.ths++[x]).length (zcw (m.ths++[x]));rw[e,zir,show zcw [x]=zc9 x by simp[zcw]];exact zaf a2 f2 λq hq e=>zag a2 a0 d_ hq e
 .rcases List.mem_append.1 hy with hy|hy
  .exact a1 y (h.st y hy)
  .simp only[List.mem_singleton]at hy;subst hy;exact a1 y hx
 .rcases List.mem_append.1 hy with hy|hy
  .exact h.rng y hy
  .simp only[List.mem_singleton]at hy;subst hy;exact hr
end
theorem zto {W Wn:World} {g1 g2 g3 k:Nat} (h1:Wn.heap[g1]? =some (.cells (madeCells #[.int .i64 0] (k+1)) 3 (0,0))) (h2:Wn.heap[g2]? =some (.cells (madeCells #[.bool false] k) 4 (0,0)))
 (h3:Blk Wn g3 208 #[.slice none 0 0,.slice (some ⟨g2,0,none⟩) k k,.slice none 0 0,.int .i64 0,.slice (some ⟨g1,0,none⟩) (k+1) (k+1)]) (l1:W.heap.size<=g1) (l2:W.heap.size<=g2) (l3:W.heap.size<=g3) (hk:k<16):
 (⟨g3,none,0,[],some ⟨g2,0,none⟩,k,List.replicate k false,none,0,[],0,some ⟨g1,0,none⟩,k+1,List.replicate (k+1) 0⟩:Rw).Ok W.heap.size Wn:=by
 refine⟨?_,World.ownsRow_nil _ _ _ _,?_,World.ownsRow_nil _ _ _ _,?_,by simp,by simp,l3,by simp,λq hq=>by cases hq⟩
 .unfold Rw.cells;simpa using h3
 .have:=zel h2 l2 o_;simpa[zhb]using this
 .have:=zel h1 l1 o_;simpa[zak]using this
def zye (ps:List Int) (W:World) (e:Ending) (w':World):Prop:=
 (¬zgx ps/\e= .returned (.tuple #[.pointer none,.int .i64 71])/\Fr No W w')\/
 (zgx ps/\∃m:Rw,e= .returned (.tuple #[.pointer (some ⟨m.wb,0,none⟩),.int .i64 0])/\m.Ok W.heap.size w'/\(m.par=ps/\m.cut=List.replicate ps.length false/\m.ths=[]/\m.last=0/\m.made=List.replicate (ps.length+1) 0)/\Fr No W w')
theorem zsa (A:Option Addr) (cap:Nat) (ps:List Int) (W:World) (lo hi:Nat) (hp:Ints W lo hi A cap ps) (hh:hi<=W.heap.size):Calls Tryz.prog 174 #[.slice A ps.length cap] W (zye ps W):=by
 have e1:=hp.cap;have e2:=hp.len;have HP:=zaa hp;have HH:=zaa hh;clear hp hh;by_cases c1:ps.length<16
 case neg=>
  have d4:16<=ps.length:=o_;go_enter Tryz.func174,Tryz.ntmps174;go_wp2;go_ret2;exact .inl ⟨λh=>c1 h.1,rfl,Fr.refl _ _⟩
 have d9:=zlq ps.length o_;have d5:∀w:World,(Instr.makeSlice 36 (.int .i64 ((ps.length:Int)+1)) (.int .i64 ((ps.length:Int)+1))).run Tryz.prog w= .ok (.slice (some ⟨w.heap.size,0,none⟩) (ps.length+1) (ps.length+1)) (w.alloc (.cells (madeCells #[.int .i64 0] (ps.length+1)) 3)):=λw=>by
  have:=zie (ps.length+1) o_ w;rwa [show(((ps.length+1:Nat)):Int)=(ps.length:Int)+1 by omega]at this
 have d6:decide ((16:Int)<=(ps.length:Int))=false:=so_;go_enter Tryz.func174,Tryz.ntmps174;go_upto_region 3 with(fail);go_cut [4]from 9 to 17 (λv wc=>∃m:Rw,v= .pointer (some ⟨m.wb,0,none⟩)/\m.Ok W.heap.size wc/\(m.par=[]/\m.cut=List.replicate ps.length false/\m.ths=[]/\m.last=0/\m.made=List.replicate (ps.length+1) 0)/\Fr No W wc)
 case first=>
  go_region
  .go_wp2_with fail;go_meet
   case rel=>
    exact⟨_,rfl,zto (g1:=W.heap.size) (g2:=W.heap.size+1) (g3:=W.heap.size+1+1) (((Blk.new W _ _).alloc _).alloc _).drew ((Blk.new' (W.alloc _) _ _ s_).alloc _).drew (Blk.new' ((W.alloc _).alloc _) _ _ s_).drew o_ o_ o_ c1,⟨rfl,rfl,rfl,rfl,rfl⟩,((((Fr.refl No W).alloc _).alloc _).alloc _).drew⟩
  .go_wp2_with fail;go_meet
   case rel=>
    exact⟨_,rfl,zto (g1:=W.heap.size+1) (g2:=W.heap.size) (g3:=W.heap.size+1+1) ((Blk.new' (W.alloc _) _ _ s_).alloc _).drew (((Blk.new W _ _).alloc _).alloc _).drew (Blk.new' ((W.alloc _).alloc _) _ _ s_).drew o_ o_ o_ c1,⟨rfl,rfl,rfl,rfl,rfl⟩,((((Fr.refl No W).alloc _).alloc _).alloc _).drew⟩
 case rest=>
  obtain⟨m0,rfl,b3,b7,d2⟩:=hcut;have c4:=zaa b3;have b5:=zaa b7;have d8:=zaa d2;clear b3 b7 d2 d9 d5;go_wp2_with fail;go_loopw [5] (λi wr=>∃(j:Nat) (m:Rw),j<=ps.length/\i= .int .i64 j/\m.Ok W.heap.size wr/\(m.par=ps.take j/\m.cut=List.replicate ps.length false/\m.ths=[]/\m.last=0/\m.made=List.replicate (ps.length+1) 0)/\Hid (m.wb=m0.wb)/\Fr No W wr/\Hid (∀i p,i<j->ps[i]? =some p->0<=p/\p<=(i:Int))) (λi _=>ps.length - (intOf i).toNat)
  case atStart=>exact⟨0,m0,Nat.zero_le _,rfl,c4.out,⟨by rw[b5.out.1];rfl,b5.out.2⟩,zaa rfl,d8.out,zaa λi p hi=>by omega⟩
  case round=>
   obtain⟨j,m,hj,rfl,c8,c9,e3,fr,b0⟩:=hrel;rw[<-e3.out];have a6:=zaa c8;have a8:=zaa c9;have a9:=zaa fr;by_cases hlt:j<ps.length
   case neg=>
    obtain rfl:ps.length=j:=o_;clear c8 c9 fr;go_wp2;go_ret2;refine .inr ⟨⟨c1,λi p hp=>b0.out i p (List.getElem?_eq_some_iff.1 hp).1 hp⟩,m,rfl,a6.out,⟨by rw[a8.out.1,List.take_length],a8.out.2⟩,a9.out⟩
   obtain⟨b,o,rfl,d7,e0,hc⟩:=(HP.out.il.no fr HH.out).at_ (by rintro rfl;simp at hlt);have c7:wr.cell? ⟨b,o+j,none⟩=some (.int .i64 ps[j]):=hc j _ (List.getElem?_eq_getElem hlt);have c0:b<wr.heap.size:=by have:=fr.size;have:=HH.out;omega
   have b2:=zaa c0;have b1:=zaa (show b<W.heap.size by have:=HH.out;omega);have c2:Hid (0<=ps[j]/\ps[j]<=(j:Int)->∀i p,i<j+1->ps[i]? =some p->0<=p/\p<=(i:Int)):=zaa λhg i p hi hp=>by
    by_cases e5:i=j
    .subst e5;rw[List.getElem?_eq_getElem hlt]at hp;injection hp with hp
     rw[<-hp];exact hg
    .exact b0.out i p o_ hp
   have b6:Hid (¬(0<=ps[j]/\ps[j]<=(j:Int))->¬zgx ps):=zaa λhn h=>hn (h.2 j _ (List.getElem?_eq_getElem hlt));have d3:=zaa (show ps.take (j+1)=ps.take j++[ps[j]] by rw[List.take_add_one,List.getElem?_eq_getElem hlt];rfl);generalize ps[j]=p at*;have b8:=zaa c7;have b9:=zaa hlt;clear c8 c9 fr hc d7 e0 b0;by_cases h0:p<0
   .have d0:decide (p<0)=true:=by simpa using h0
    have HQ:=zaa (b6.out o_);clear b6 c2 h0;go_wp2;go_ret2;exact .inl ⟨HQ.out,rfl,a9.out⟩
   have d0:decide (p<0)=false:=by simpa using h0
   by_cases h1:(j:Int)<p
   .have d1:decide ((j:Int)<p)=true:=by simpa using h1
    have HQ:=zaa (b6.out o_);clear b6 c2 h0 h1;go_wp2;go_ret2;exact .inl ⟨HQ.out,rfl,a9.out⟩
   have d1:decide ((j:Int)<p)=false:=by simpa using h1
   have b0:=zaa (c2.out o_);have e4:m.par.length<=16:=by rw[a8.out.1,List.length_take];omega
   have e6:=zaa e4;clear b6 c2 h0 h1;have z0:wr.cell? ⟨m.wb,0,none⟩=some (.slice m.P m.par.length m.pc):=a6.out.blk.cell 0;have zf:=a6.out.blk.frozen 0;have zq:=a6.out.blk.lt;have c3:Hid (∀w':World,Fr No wr w'->(λw'=>m.wb<w'.heap.size/\b<w'.heap.size/\w'.cell? ⟨b,o+j,none⟩=some (.int .i64 p)) w'):=zaa λw' f=>⟨Nat.lt_of_lt_of_le zq f.size,Nat.lt_of_lt_of_le c0 f.size,(f.cell c0 λh=>h).trans c7⟩;go_upto_region 9 with(fail);clear c7 c0 d0 d1;refine wp_region_held_drew (S:=λw'=>m.wb<w'.heap.size/\b<w'.heap.size/\w'.cell? ⟨b,o+j,none⟩=some (.int .i64 p)) k_ ?_ (λhHeld=>?_)
   .exact c3.out _ ((Fr.refl No wr).drew)
   refine t_ 0 ?_;try simp only[Act.put,lp_]
   refine t_ 1 ?_;try simp only[Act.put,lp_]
   refine t_ 2 ?_;try simp only[Act.put,lp_]
   refine t_ 3 ?_;try simp only[Act.put,lp_]
   refine t_ 5 ?_;try simp only[Act.put,lp_]
   refine t_ 6 ?_;try simp only[Act.put,lp_]
   refine t_ 7 ?_;try simp only[Act.put,lp_]
   refine t_ 8 ?_;try simp only[Act.put,lp_]
   refine wpAnyH_ready (rs:=[4,9]) k_ s_ ?_;refine AllReadyH.cons rfl (λK hK=>?_) (AllReadyH.cons rfl (λK hK=>?_) AllReadyH.nil)
   .go_simp;refine hK.out _ _ ?_ (λhHeld2=>?_)
    .assumption
    clear hK K hHeld;have hHeld:=hHeld2;clear hHeld2;try simp only[Act.put,lp_]
    refine wpAnyH_ready (rs:=[9]) k_ s_ ?_;refine AllReadyH.cons rfl (λK hK=>?_) AllReadyH.nil
    .go_simp;have a1:=zaa (((Fr.refl No wr).drew).alloc (.cells #[.int .i64 p] 3));refine hK.out _ _ ?_ (λhHeld2=>?_)
     .exact c3.out _ a1.out
     clear hK K hHeld;have hHeld:=hHeld2;clear hHeld2;try simp only[Act.put,lp_]
     refine wpAnyH_ready (rs:=[10]) k_ s_ ?_;refine AllReadyH.cons rfl (λK hK=>?_) AllReadyH.nil
     .have c6:=zaa ((Blk.new wr.drew 3 #[.int .i64 p]).lies (cs:=[.int .i64 p]) (by simp[Value.oneCell']));have a4:=zaa (a6.out.no a1.out);refine zcn r_ _ _ zl6 r_ W.heap.size _ m.par.length _ r_ a4.out.par wr.heap.size (wr.heap.size+1) (some ⟨wr.heap.size,0,none⟩) 1 1 _ r_ c6.out o_ o_ (Nat.le_trans a9.out.size a1.out.size) ?_;intro A5 c5 w5 hk;have HK:=zaa hk;have b4:=a4.out.blk.fr hk.fr λe=>zag a4.out.par a4.out.blk d_ e rfl;have a5:Fr (λi=>W.heap.size<=i) wr w5:=(a1.out.no).trans' hk.fr λi hi e=>(zaj a6.out.par i e).1;have a7:=zaa b4;have a0:=zaa a5;clear hk b4 a5;have y0:w5.cell? ⟨m.wb,0,none⟩=some (.slice m.P m.par.length m.pc):=a7.out.cell 0;have yf:=a7.out.frozen 0;have yq:=a7.out.lt;have yb:=Nat.lt_of_lt_of_le b2.out a0.out.size;refine hK.out _ _ ?_ (λhHeld2=>?_)
      .exact⟨yq,yb,(a0.out.cell b2.out (by have:=b1.out;omega)).trans b8.out⟩
      clear hK K hHeld;have hHeld:=hHeld2;clear hHeld2;try simp only[Act.put,lp_]
      refine t_ 11 ?_;try simp only[Act.put]
      refine t_ 12 ?_;try simp only[Act.put]
      refine wpAnyH_ready (rs:=[13]) k_ s_ ?_;refine AllReadyH.cons rfl (λK hK=>?_) AllReadyH.nil
      .go_simp;refine hK.out _ _ ?_ (λhHeld2=>?_)
       .exact⟨by simpa using yq,by simpa using yb,((((Fr.refl (λi=>i=m.wb) w5).set (p:=⟨m.wb,0,none⟩) (λ_=>rfl) _).cell yb (by have:=b1.out;have:=a6.out.lo0;omega)).trans (a0.out.cell b2.out (by have:=b1.out;omega))).trans b8.out⟩
       clear hK K hHeld;have hHeld:=hHeld2;clear hHeld2;try simp only[Act.put,lp_]
       refine wpAnyH_done k_ ?_ _;clear hHeld;have a2:=a4.out.addP (p:=p) HK.out;have a3:=zaa a2;clear a2;generalize World.setCell w5 _ _=w6 at*;go_wp2_with fail;go_roundw
       case rel=>
        refine⟨j+1,{m with P:=A5,pc:=c5,par:=m.par++[p]},b9.out,by go_num,a3.out.1,⟨?_,a8.out.2⟩,zaa rfl,a9.out.trans' ((a1.out.no).trans' a3.out.2 λi _ h=>h) λi hi h=>by omega,b0.out⟩;show m.par++[p]=ps.take (j+1);rw[a8.out.1,d3.out]
       case measure=>have:=b9.out;simp[intOf];omega
   .go_simp;have a1:=zaa (((Fr.refl No wr).drew).alloc (.cells #[.int .i64 p] 3));refine hK.out _ _ ?_ (λhHeld2=>?_)
    .exact c3.out _ a1.out
    clear hK K hHeld;have hHeld:=hHeld2;clear hHeld2;try simp only[Act.put,lp_]
    refine wpAnyH_ready (rs:=[4]) k_ s_ ?_;refine AllReadyH.cons rfl (λK hK=>?_) AllReadyH.nil
    .go_simp;refine hK.out _ _ ?_ (λhHeld2=>?_)
     .assumption
     clear hK K hHeld;have hHeld:=hHeld2;clear hHeld2;try simp only[Act.put,lp_]
     refine wpAnyH_ready (rs:=[10]) k_ s_ ?_;refine AllReadyH.cons rfl (λK hK=>?_) AllReadyH.nil
     .have c6:=zaa ((Blk.new wr.drew 3 #[.int .i64 p]).lies (cs:=[.int .i64 p]) (by simp[Value.oneCell']));have a4:=zaa (a6.out.no a1.out);refine zcn r_ _ _ zl6 r_ W.heap.size _ m.par.length _ r_ a4.out.par wr.heap.size (wr.heap.size+1) (some ⟨wr.heap.size,0,none⟩) 1 1 _ r_ c6.out o_ o_ (Nat.le_trans a9.out.size a1.out.size) ?_;intro A5 c5 w5 hk;have HK:=zaa hk;have b4:=a4.out.blk.fr hk.fr λe=>zag a4.out.par a4.out.blk d_ e rfl;have a5:Fr (λi=>W.heap.size<=i) wr w5:=(a1.out.no).trans' hk.fr λi hi e=>(zaj a6.out.par i e).1;have a7:=zaa b4;have a0:=zaa a5;clear hk b4 a5;have y0:w5.cell? ⟨m.wb,0,none⟩=some (.slice m.P m.par.length m.pc):=a7.out.cell 0;have yf:=a7.out.frozen 0;have yq:=a7.out.lt;have yb:=Nat.lt_of_lt_of_le b2.out a0.out.size;refine hK.out _ _ ?_ (λhHeld2=>?_)
      .exact⟨yq,yb,(a0.out.cell b2.out (by have:=b1.out;omega)).trans b8.out⟩
      clear hK K hHeld;have hHeld:=hHeld2;clear hHeld2;try simp only[Act.put,lp_]
      refine t_ 11 ?_;try simp only[Act.put]
      refine t_ 12 ?_;try simp only[Act.put]
      refine wpAnyH_ready (rs:=[13]) k_ s_ ?_;refine AllReadyH.cons rfl (λK hK=>?_) AllReadyH.nil
      .go_simp;refine hK.out _ _ ?_ (λhHeld2=>?_)
       .exact⟨by simpa using yq,by simpa using yb,((((Fr.refl (λi=>i=m.wb) w5).set (p:=⟨m.wb,0,none⟩) (λ_=>rfl) _).cell yb (by have:=b1.out;have:=a6.out.lo0;omega)).trans (a0.out.cell b2.out (by have:=b1.out;omega))).trans b8.out⟩
       clear hK K hHeld;have hHeld:=hHeld2;clear hHeld2;try simp only[Act.put,lp_]
       refine wpAnyH_done k_ ?_ _;clear hHeld;have a2:=a4.out.addP (p:=p) HK.out;have a3:=zaa a2;clear a2;generalize World.setCell w5 _ _=w6 at*;go_wp2_with fail;go_roundw
       case rel=>
        refine⟨j+1,{m with P:=A5,pc:=c5,par:=m.par++[p]},b9.out,by go_num,a3.out.1,⟨?_,a8.out.2⟩,zaa rfl,a9.out.trans' ((a1.out.no).trans' a3.out.2 λi _ h=>h) λi hi h=>by omega,b0.out⟩;show m.par++[p]=ps.take (j+1);rw[a8.out.1,d3.out]
       case measure=>have:=b9.out;simp[intOf];omega
section
variable {m:Rw} {lo g:Nat} {W W':World}
theorem Rw.Ok.setC (h:m.Ok lo W) (hC:m.C=some ⟨g,0,none⟩) (i:Nat):({m with cut:=m.cut.set i true}:Rw).Ok lo (W.setCell ⟨g,i,none⟩ (.bool true))/\Fr (λj=>j=g) W (W.setCell ⟨g,i,none⟩ (.bool true)):=by
 have hcut:=h.cut;rw[hC]at hcut;have a0:=zet (i:=i) (u:=.bool true) hcut;obtain⟨cs,hb⟩:=zao hcut rfl;have f:Fr (λj=>j=g) W (W.setCell ⟨g,i,none⟩ (.bool true)):=(Fr.refl (λj=>j=g) W).set (λ_=>rfl) _;refine⟨⟨?_,zaf h.par f λq hq e=>zag h.par hb d_ hq e,?_,zaf h.th f λq hq e=>zag h.th hb d_ hq e,zaf h.made f λq hq e=>zag h.made hb d_ hq e,λx hx=>(h.st x hx).off hb d_ f,h.rng,h.lo0,h.len,h.sep⟩,f⟩
 .have:=h.blk.fr f λe=>Blk.ne_ h.blk hb d_ e;simpa[Rw.cells]using this
 .show World.ownsRow _ _ _ _ (.slice m.C (m.cut.set i true).length m.cc) (m.cut.set i true).length (zhb (m.cut.set i true));rw[hC];simpa[zhb,List.map_set]using a0
theorem Rw.Ok.setD (h:m.Ok lo W) (hD:m.D=some ⟨g,0,none⟩) (i:Nat) (v:Int):({m with made:=m.made.set i v}:Rw).Ok lo (W.setCell ⟨g,i,none⟩ (.int .i64 v))/\Fr (λj=>j=g) W (W.setCell ⟨g,i,none⟩ (.int .i64 v)):=by
 have a0:=h.made;rw[hD]at a0;have a2:=zet (i:=i) (u:=.int .i64 v) a0;obtain⟨cs,hb⟩:=zao a0 rfl;have f:Fr (λj=>j=g) W (W.setCell ⟨g,i,none⟩ (.int .i64 v)):=(Fr.refl (λj=>j=g) W).set (λ_=>rfl) _;have a1:∀q,(Value.slice m.P m.par.length m.pc).ownBlock=some q->q≠g:=λq hq e=>h.sep q hq (by rw[hD,e];rfl);refine⟨⟨?_,zaf h.par f λq hq e=>a1 q hq e,zaf h.cut f λq hq e=>zag h.cut hb d_ hq e,zaf h.th f λq hq e=>zag h.th hb d_ hq e,?_,λx hx=>(h.st x hx).off hb d_ f,h.rng,h.lo0,h.len,λq hq hqD=>?_⟩,f⟩
 .have:=h.blk.fr f λe=>Blk.ne_ h.blk hb d_ e;simpa[Rw.cells]using this
 .show World.ownsRow _ _ _ _ (.slice m.D (m.made.set i v).length m.dc) (m.made.set i v).length (zak (m.made.set i v));rw[hD];simpa[zak,List.map_set]using a2
 .refine h.sep q hq ?_;simpa using hqD
theorem Rw.Ok.setL (h:m.Ok lo W) (v:Int):({m with last:=v}:Rw).Ok lo (W.setCell ⟨m.wb,3,none⟩ (.int .i64 v))/\Fr (λj=>j=m.wb) W (W.setCell ⟨m.wb,3,none⟩ (.int .i64 v)):=by
 have f:Fr (λj=>j=m.wb) W (W.setCell ⟨m.wb,3,none⟩ (.int .i64 v)):=(Fr.refl (λj=>j=m.wb) W).set (λ_=>rfl) _;have hb:=h.blk;refine⟨⟨?_,zaf h.par f λq hq e=>zag h.par hb d_ hq e,zaf h.cut f λq hq e=>zag h.cut hb d_ hq e,zaf h.th f λq hq e=>zag h.th hb d_ hq e,zaf h.made f λq hq e=>zag h.made hb d_ hq e,λx hx=>(h.st x hx).off hb d_ f,h.rng,h.lo0,h.len,h.sep⟩,f⟩;have:=h.blk.set_ 3 (.int .i64 v);simpa[Rw.cells]using this
theorem Rw.Ok.offI (h:m.Ok lo W) {cs:Array Value} (hb:Blk W g 3 cs) (hP:(Value.slice m.P m.par.length m.pc).ownBlock≠some g) (hD:(Value.slice m.D m.made.length m.dc).ownBlock≠some g) (f:Fr (λi=>i=g) W W'):m.Ok lo W':=
 ⟨h.blk.fr f λe=>Blk.ne_ h.blk hb d_ e,zaf h.par f λq hq e=>hP (by have e':q=g:=e;rw[<-e'];exact hq),zaf h.cut f λq hq e=>zag h.cut hb d_ hq e,zaf h.th f λq hq e=>zag h.th hb d_ hq e,zaf h.made f λq hq e=>hD (by have e':q=g:=e;rw[<-e'];exact hq),λx hx=>(h.st x hx).off hb d_ f,h.rng,h.lo0,h.len,h.sep⟩
theorem Rw.Ok.madeAt (h:m.Ok lo W) {i:Nat} (hi:i<m.made.length):∃g,m.D=some ⟨g,0,none⟩/\lo<=g/\g<W.heap.size/\W.cell? ⟨g,i,none⟩=some (.int .i64 m.made[i])/\W.frozen? ⟨g,i,none⟩=false:=by
 obtain⟨g,c,hA,h0,h1⟩:=h.made.form o_;simp only[Value.slice.injEq,true_and]at hA;have h2:=World.ownsRow.cells h.made (g:=g) (by rw[hA.1];rfl) i (.int .i64 m.made[i]) (by simp[zak,hi]);rw[zbi,Nat.zero_add]at h2;exact⟨g,hA.1,h0,h1,h2,World.ownsRow.frozenAt (by have:=h.made;rwa [hA.1]at this) i⟩
theorem Rw.Ok.cutAt (h:m.Ok lo W) {i:Nat} (hi:i<m.cut.length):∃g,m.C=some ⟨g,0,none⟩/\lo<=g/\g<W.heap.size/\W.cell? ⟨g,i,none⟩=some (.bool m.cut[i])/\W.frozen? ⟨g,i,none⟩=false:=by
 obtain⟨g,c,hA,h0,h1⟩:=h.cut.form o_;simp only[Value.slice.injEq,true_and]at hA;have h2:=World.ownsRow.cells h.cut (g:=g) (by rw[hA.1];rfl) i (.bool m.cut[i]) (by simp[zhb,hi]);rw[zbi,Nat.zero_add]at h2;exact⟨g,hA.1,h0,h1,h2,World.ownsRow.frozenAt (by have:=h.cut;rwa [hA.1]at this) i⟩
end
end Go.Proofs.YtlejelbefmkakaaGreat

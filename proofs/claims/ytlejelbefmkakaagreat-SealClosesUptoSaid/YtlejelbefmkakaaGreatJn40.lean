/- Texts joined: Re3, Ec2. -/
import Derived.Test.YtlejelbefmkakaaGreatJn1
import Derived.Test.YtlejelbefmkakaaGreatJn11
import Derived.Test.YtlejelbefmkakaaGreatJn30
set_option maxHeartbeats 8000000
set_option maxRecDepth 100000
namespace Go.Proofs.YtlejelbefmkakaaGreat
open Go.RowKit
theorem zyg {wb lo hi:Nat} {TA:Option Addr} {tc:Nat} {ths:List (Int×Tg)} {w:World} (h:RwT w wb lo hi TA tc ths) (hl:ths.length<=1000000) (r:Int):
 Calls Tryz.prog 177 #[.pointer (some ⟨wb,0,none⟩),.int .i64 r] w (zi6 (zga ths (ths.length+1) r) w):=by
 have HH:=zaa h;have c2:=h.c2;have hlt:=h.lt;clear h;go_enter Tryz.func177,Tryz.ntmps177;go_wp2_with fail;go_loopw [1,5,6] (λq v i wr=>∃(j:Nat) (L:List Int) (r':Int),j<=ths.length+1/\L.length=j/\i= .int .i64 j/\q= .int .i64 r'/\Hid (zga ths (ths.length+1) r=L++zga ths (ths.length+1 - j) r')/\wr.ownsRow w.heap.size 22 1 v L.length (zak L)/\Fr No w wr) (λ_ _ i _=>ths.length+1 - (intOf i).toNat)
 case atStart=>exact⟨0,[],r,Nat.zero_le _,rfl,rfl,rfl,zaa s_,World.ownsRow_nil _ _ _ _,Fr.refl _ _⟩
 case round=>
  obtain⟨j,L,r',hj,b4,rfl,rfl,HW,b2,fr⟩:=hrel;have d2:=(fr.cell hlt λh=>h).trans c2;have e0:=Nat.lt_of_lt_of_le hlt fr.size;have HO:=zaa b2;have a6:=zaa fr;have c4:=zaa b4;by_cases e1:j<=ths.length
  case neg=>
   obtain rfl:j=ths.length+1:=o_;clear b2 fr b4;go_wp2;go_ret;have hw:=HW.out;rw[Nat.sub_self,show zga ths 0 r'=[]from rfl,List.append_nil]at hw;rw[hw];exact⟨_,rfl,HO.out,a6.out⟩
  have HA:=zaa (ztn (HH.out.no fr) r');have b5:=((HH.out.no fr).fit r').kind;clear b2 fr b4;have d9:L.length<=1000001:=by have:=c4.out;omega
  have d4:∀x,zcz ths r'=some x->atT ths r'=x:=λx hx=>by unfold atT;rw[hx];rfl
  have c9:=zaa d4;clear d4;generalize atT ths r'=x at*;obtain⟨T',hT⟩:∃T',zcz ths r'=T':=⟨_,rfl⟩;have b1:=zaa hT;rw[hT]at HA c9;clear hT;go_wp2_with fail;refine HA.out.mono ?_;rintro e w1 ⟨rfl,f1⟩;have b3:=zaa (f1.alloc (.cells Tg.zero.cells.toArray 138));have a8:=zaa (Blk.new w1 138 Tg.zero.cells.toArray);have d1:=zaa f1;rw[zal]at b3;clear f1;go_upto_region 6 with(refine wpList_store_row r_ 138 (.tmp 7) (.tmp 22) r_ w1.heap.size x.cells.toArray r_ r_ _ _ a8.out (zam.trans (by rw[zae])) (by rw[zae,zae]) (zaq x) ?_);rw[<-zal]at*;have a3:=zaa (b3.out.trans' (zb0 _ w1.heap.size x.cells.toArray) λi hi h=>by have h':i=w1.heap.size:=h;have:=d1.out.size;omega);have a0:=zaa (zbn (us:=x.cells.toArray) a8.out);generalize d8:World.setRow _ _ _=W1 at*;have hg:=a0.out.lt;generalize w1.heap.size=g at*;obtain⟨c0,-,d5,-,-,-⟩:=a0.out.tg;have a4:=zaa (zaf HO.out a3.out λ_ _ h=>h);clear d8 b3 a8 d1 HO;cases T' with
  |none=>
   clear c0 d5;go_wp2;go_ret;have hw:=HW.out;rw[zpe b1.out,List.append_nil]at hw;rw[hw];exact⟨_,rfl,a4.out,a6.out.trans a3.out⟩
  |some y=>
   obtain rfl:x=y:=c9.out y rfl;have b8:=zaa (λW'=>za9 x.kind W');obtain⟨q,hq⟩:∃q,zb8 x.kind=q:=⟨_,rfl⟩;rw[hq]at b8;have HQ:=zaa hq;clear hq;obtain⟨kd,b7⟩:∃kd,x.kind=kd:=⟨_,rfl⟩;obtain⟨o,a2⟩:∃o,x.ofr=o:=⟨_,rfl⟩;rw[b7]at b8 HQ b5;have b9:=zaa b7;have c7:=zaa a2;clear b7 a2;have hz:w.heap.size<=W1.heap.size:=by have:=a6.out.size;have:=a3.out.size;omega
   have HZ:=zaa hz;clear hz;go_upto_region 8 with(fail);have c8:=zaa ((Blk.new W1 22 #[.int .i64 r']).lies (cs:=[.int .i64 r']) (by simp[Value.oneCell']));have a7:=zaa ((Fr.refl No W1).alloc (.cells #[.int .i64 r'] 22));have d7:=zaa (zaf a4.out a7.out λ_ _ h=>h);have d6:=zaa (Nat.le_trans HZ.out a7.out.size);go_upto_region 9 with(at_builtin;refine zbf _ r_ _ _ zgc r_ w.heap.size _ L.length _ r_ d7.out W1.heap.size (W1.heap.size+1) (some ⟨W1.heap.size,0,none⟩) 1 1 _ r_ c8.out o_ o_ d6.out ?_;intro A5 c5 w5 hk;have HK:=zaa hk;clear hk);have b0:Fr (λi=>u5.ownBlock=some i) W1 w5:=(a7.out.no).trans' HK.out.fr λi hi h=>h;have b6:=a0.out.fr b0 λh=>zag a4.out a0.out d_ h rfl;obtain⟨d0,-,c6,-,-,-⟩:=b6.tg;rw[b9.out]at d0;rw[c7.out]at c6;have dg:=b6.lt;have d3:Fr No w w5:=(a6.out.trans a3.out).trans' b0 λi hi h=>by have:=(zaj a4.out i h).1;omega
   have c3:=zaa d3;have a5:=zaa HK.out.1;clear b0 b6 d3 c0 d5 HK c8 a7 d7 a4 HZ d6 a0 a3 hg;go_wp2_with fail;refine(b8.out w5).mono ?_;rintro e w6 ⟨rfl,rfl⟩;have a1:w6.ownsRow w.heap.size 22 1 (.slice A5 (L.length+1) c5) (L++[r']).length (zak (L++[r'])):=by
    have:=a5.out;rw[List.length_append];simpa[zak]using this
   have c1:=zaa a1;clear a1 a5;obtain⟨m,hm⟩:∃m,ths.length+1 - j=m+1:=⟨ths.length - j,by omega⟩;have hw:=HW.out;rw[hm]at hw;cases q
   case false=>
    rw[zju b1.out (by rw[b9.out];exact HQ.out)]at hw;have a9:=zaa hw;clear hw d0 c6 dg hm;go_wp2;go_ret;rw[a9.out];refine⟨_,rfl,?_,c3.out⟩;have:=c1.out;rw[List.length_append]at this ⊢;exact this
   case true=>
    rw[zjv b1.out (by rw[b9.out];exact HQ.out),c7.out]at hw;have a9:=zaa hw;clear hw;go_wp2_with fail;go_roundw
    case rel=>
     refine⟨j+1,L++[r'],o,by omega,by rw[List.length_append,c4.out];rfl,by go_num,rfl,zaa ?_,c1.out,c3.out⟩;rw[a9.out,show ths.length+1 - (j+1)=m by omega];simp
    case measure=>simp[intOf];omega
theorem znw:zmp 306 308 4 56:=zdn (z:=.agg #[.int .u8 0,.int .i64 0,.string ⟨#[]⟩,.slice none 0 0]) k_ Tryz.underlying306 rfl o_
structure ApG (e:TypeId) (size:Nat) (w0:World) (A:Option Addr) (c:Nat) (l:List G) (wr:World):Prop where
 row:wr.ownsRow w0.heap.size e size (.slice A l.length c) l.length (za6 l)
 ty:∀x∈l,Ty e x
 inn:∀x∈l,x.In wr w0.heap.size wr.heap.size
 far:∀x∈l,∀b,x.Has b->(Value.slice A l.length c).ownBlock≠some b
 fr:Fr No w0 wr
 td:∀x∈l,x.Td wr
section
variable {w0 wr w2 w3:World} {A A':Option Addr} {c c':Nat} {l:List G} {y:G} {e:TypeId} {size:Nat}
theorem ApG.start (f:Fr No w0 wr):ApG e size w0 none 0 [] wr:=⟨World.ownsRow_nil _ _ _ _,by simp,by simp,by simp,f,by simp⟩
theorem ApG.no (h:ApG e size w0 A c l wr) (f:Fr No wr w2):ApG e size w0 A c l w2:=
 ⟨zaf h.row f λ_ _ h=>h,h.ty,λx hx=>G.In.more (Nat.le_refl _) f.size x ((h.inn x hx).no f (Nat.le_refl _)),h.far,h.fr.trans f,λx hx=>(h.td x hx).fr f λ_ _ h=>h⟩
theorem ApG.add (h:ApG e size w0 A c l wr) (f:Fr No wr w2) (ht:Ty e y) (hy:y.In w2 wr.heap.size w2.heap.size) (hyd:y.Td w2) (hk:zmq w2 w0.heap.size e size l.length 1 (.slice A l.length c) (za6 l) y.c A' c' w3):ApG e size w0 A' c' (l++[y]) w3:=by
 have h2:=h.no f;have hs:=f.size;have hlt:=λg hg=>zaj h.row g hg;have a2:=hk.2.2;have a1:=hk.fr.size;have h0:=h.fr.size;refine⟨?_,λx hx=>?_,λx hx=>?_,λx hx b hb hg=>?_,h2.fr.trans' hk.fr λi hi hv=>?_,λx hx=>?_⟩
 .have:=hk.1;rwa [List.length_append,zkg]
 .rcases List.mem_append.1 hx with hx|hx
  .exact h.ty x hx
  .simp only[List.mem_singleton]at hx;subst hx;exact ht
 .rcases List.mem_append.1 hx with hx|hx
  .exact G.In.more (Nat.le_refl _) a1 x ((h2.inn x hx).frH hk.fr (Nat.le_refl _) λb hb hv=>h.far x hx b hb hv)
  .simp only[List.mem_singleton]at hx;subst hx;exact G.In.more h0 a1 _ (hy.frH hk.fr (Nat.le_refl _) λb hb hv=>by have:=(G.In.has hb hy).1;have:=(hlt b hv).2;omega)
 .rw[List.length_append]at hg;rcases a2 b hg with a0|a0
  .rcases List.mem_append.1 hx with hx|hx
   .exact h.far x hx b hb a0
   .simp only[List.mem_singleton]at hx;subst hx;have:=(G.In.has hb hy).1;have:=(hlt b a0).2;omega
  .rcases List.mem_append.1 hx with hx|hx
   .have:=(G.In.has hb (h2.inn x hx)).2;omega
   .simp only[List.mem_singleton]at hx;subst hx;have:=(G.In.has hb hy).2;omega
 .have:=(hlt i hv).1;omega
 .rcases List.mem_append.1 hx with hx|hx
  .exact(h2.td x hx).fr hk.fr λb hb hv=>h.far x hx b hb hv
  .simp only[List.mem_singleton]at hx;subst hx;exact hyd.fr hk.fr λb hb hv=>by have:=(G.In.has hb hy).1;have:=(hlt b hv).2;omega
theorem ApG.row_in (h:ApG e size w0 A c l wr) (hs:0<size) (hc:∀x∈l,x.c.length=size):(G.row A l).In wr w0.heap.size wr.heap.size:=
 zdd hs h.row hc h.inn (Nat.le_refl _) (Nat.le_refl _)
end
def OwG (t:TypeId) (g:G) (w:World) (e:Ending) (w':World):Prop:=∃y:G,e= .returned (.agg y.c.toArray)/\Ty t y/\y.er=g.er/\y.In w' w.heap.size w'.heap.size/\y.Td w'/\Fr No w w'
theorem zi8 (g:G):∀(w:World) (lo hi:Nat),Ty 308 g->g.In w lo hi->hi<=w.heap.size->Calls Tryz.prog 268 #[.agg g.c.toArray] w (OwG 308 g w):=by
 induction g using G.ind with
 |h c subs ih=>
  intro w lo hi hty hin hh;obtain⟨k,n,s,A,cap,l,e,c0,hk⟩:=za3 hty;injection e with e1 e2
  subst e1 e2;have f5:=c0.len1;have c1:=(Blk.new w 308 #[.int .u8 k,.int .i64 n,.string s,.slice A l.length cap]).alloc (.cells #[.int .u8 0,.int .i64 0,.string ⟨#[]⟩,.slice none 0 0] 308);have d6:=Blk.new' (w.alloc (.cells #[.int .u8 k,.int .i64 n,.string s,.slice A l.length cap] 308)) 308 #[.int .u8 0,.int .i64 0,.string ⟨#[]⟩,.slice none 0 0] (g:=w.heap.size+1) s_;have c9:=((Fr.refl No w).alloc (.cells #[.int .u8 k,.int .i64 n,.string s,.slice A l.length cap] 308)).alloc (.cells #[.int .u8 0,.int .i64 0,.string ⟨#[]⟩,.slice none 0 0] 308);have d4:w.heap.size+2<=((w.alloc (.cells #[.int .u8 k,.int .i64 n,.string s,.slice A l.length cap] 308)).alloc (.cells #[.int .u8 0,.int .i64 0,.string ⟨#[]⟩,.slice none 0 0] 308)).heap.size:=s_;have f1:=zaa c1;have f0:=zaa d6;have c6:=zaa c9;have d9:=zaa d4;have f8:=zaa (G.in_rows.1 hin A l s_);have e7:=zaa hk;have d5:=zaa λ(x:G) (hx:x∈l)=>ih A l s_ x hx;have b5:=zaa c0;have e6:=zaa (G.er_mk [.int .u8 k,.int .i64 n,.string s,.slice A l.length cap] [(A,l)]);clear c1 d6 c9 d4 hin ih c0 hty hk;show Calls Tryz.prog 268 #[.agg #[.int .u8 k,.int .i64 n,.string s,.slice A l.length cap]] w _;go_enter Tryz.func268,Tryz.ntmps268;go_wp2_with fail;generalize World.alloc (World.alloc w _) _=W0 at*;go_loopw [3,4] (λv i wr=>∃(A':Option Addr) (c':Nat) (l':List G),l'.length<=l.length/\i= .int .i64 l'.length/\v= .slice A' l'.length c'/\Hid (l'.map G.er=(l.take l'.length).map G.er)/\ApG 308 4 W0 A' c' l' wr) (λ_ i _=>l.length - (intOf i).toNat)
  case atStart=>exact⟨none,0,[],Nat.zero_le _,rfl,rfl,zaa s_,ApG.start (Fr.refl _ _)⟩
  case round=>
   obtain⟨A3,c3,l3,hj,rfl,rfl,b2,inv⟩:=hrel;have a2:=f1.out.fr inv.fr λh=>h;have h3:wr.cell? ⟨w.heap.size,3,none⟩=some (.slice A l.length cap):=a2.cell 3;have hq:=a2.lt;by_cases hlt:l3.length<l.length
   .have b9:=c6.out.trans inv.fr;have f6:=Nat.le_trans hh b9.size;obtain⟨b,o,rfl,g4,g3,a9,a7⟩:=G.row_at (f8.out.no b9 hh) hlt;have b7:=e7.out _ (List.getElem_mem hlt);have IH:=d5.out l[l3.length] (List.getElem_mem hlt) wr lo hi b7 a9 f6;have c7:=zb3 G.er hlt;have e8:=zaa c7;obtain⟨k1,n1,s1,A1,a4,l1,hx,-,-⟩:=za3 b7;generalize l[l3.length]=tj at*;rw[hx]at a7 IH;replace IH:Calls Tryz.prog 268 #[.agg #[.int .u8 k1,.int .i64 n1,.string s1,.slice A1 l1.length a4]] wr (OwG 308 (G.mk [.int .u8 k1,.int .i64 n1,.string s1,.slice A1 l1.length a4] [(A1,l1)]) wr):=IH;have x0:wr.cell? ⟨b,o+l3.length*4,none⟩=some (.int .u8 k1):=a7 0 _ rfl;have x1:wr.cell? ⟨b,o+l3.length*4+1,none⟩=some (.int .i64 n1):=a7 1 _ rfl;have x2:wr.cell? ⟨b,o+l3.length*4+2,none⟩=some (.string s1):=a7 2 _ rfl;have x3:wr.cell? ⟨b,o+l3.length*4+3,none⟩=some (.slice A1 l1.length a4):=a7 3 _ rfl;have HX:=zaa hx;have b1:=zaa inv;have b6:=zaa IH;have g0:b<wr.heap.size:=o_;clear hx IH c7 inv a2 b9 a9 d5 a7 b7;go_wp2_with fail;refine b6.out.mono ?_;rintro e w2 ⟨y,he,b4,c8,b0,c4,f2⟩;obtain⟨k2,n2,s2,A2,a0,l2,rfl,-,-⟩:=za3 b4;obtain rfl:e= .returned (.agg #[.int .u8 k2,.int .i64 n2,.string s2,.slice A2 l2.length a0]):=he;have a6:=(Fr.refl No w2).alloc (.cells #[.int .u8 k2,.int .i64 n2,.string s2,.slice A2 l2.length a0] 308);have g2:=zaa f2;have e5:=zaa (f2.trans a6);have e3:=zaa (G.In.more (Nat.le_refl _) a6.size _ (b0.no a6 (Nat.le_refl _)));have d7:=zaa c8;have f7:=zaa b4;have f4:=zaa (c4.fr a6 λ_ _ h=>h);have d8:=zaa (b1.out.no (f2.trans a6));have f3:=zaa ((Blk.new w2 308 #[.int .u8 k2,.int .i64 n2,.string s2,.slice A2 l2.length a0]).lies (cs:=(G.mk [.int .u8 k2,.int .i64 n2,.string s2,.slice A2 l2.length a0] [(A2,l2)]).c) (zjn b4));have e9:=zaa (show W0.heap.size<=(w2.alloc (.cells #[.int .u8 k2,.int .i64 n2,.string s2,.slice A2 l2.length a0] 308)).heap.size by have:=b1.out.fr.size;have:=(f2.trans a6).size;omega);clear f2 a6 c8 b0 b4 c4;go_wp2_with (at_builtin;refine zbf _ r_ _ _ znw r_ W0.heap.size _ l3.length _ r_ d8.out.row w2.heap.size (w2.heap.size+1) (some ⟨w2.heap.size,0,none⟩) 1 1 _ r_ f3.out o_ o_ e9.out ?_;intro A5 c5 w5 hk;have HK:=zaa hk;clear hk);go_roundw
    case rel=>
     refine⟨A5,c5,l3++[G.mk [.int .u8 k2,.int .i64 n2,.string s2,.slice A2 l2.length a0] [(A2,l2)]],by simp;omega,by simp,by simp,zaa ?_,b1.out.add e5.out f7.out e3.out f4.out HK.out⟩;rw[List.length_append,List.map_append,b2.out];show _=(l.take (l3.length+1)).map G.er;rw[e8.out];simp[d7.out,HX.out]
    case measure=>simp[intOf];omega
   .have b8:l3.length=l.length:=o_;have b1:=zaa inv;have a3:=f0.out.fr inv.fr λh=>h;have e0:wr.cell? ⟨w.heap.size,0,none⟩=some (.int .u8 k):=a2.cell 0;have e1:wr.cell? ⟨w.heap.size,1,none⟩=some (.int .i64 n):=a2.cell 1;have e2:wr.cell? ⟨w.heap.size,2,none⟩=some (.string s):=a2.cell 2;have ez:=a2.frozen;have d0:wr.cell? ⟨w.heap.size+1,0,none⟩=some (.int .u8 0):=a3.cell 0;have d1:wr.cell? ⟨w.heap.size+1,1,none⟩=some (.int .i64 0):=a3.cell 1;have d2:wr.cell? ⟨w.heap.size+1,2,none⟩=some (.string ⟨#[]⟩):=a3.cell 2;have d3:wr.cell? ⟨w.heap.size+1,3,none⟩=some (.slice none 0 0):=a3.cell 3;have dz:=a3.frozen;have dq:=a3.lt;clear inv a2 a3;go_wp2;refine bodyPost_ret (v:=.agg #[.int .u8 k,.int .i64 n,.string s,.slice A3 l3.length c3]) (by simp[results,Tryz.results268,go_sem, *]) rfl ?_;generalize hW:World.setCell _ _ _=W;have b3:Fr (λi=>i=w.heap.size\/i=w.heap.size+1) wr W:=by
     rw[<-hW];repeat(first|with_reducible exact Fr.refl _ wr|with_reducible refine Fr.set ?_ s_ _)
    have inv:=b1.out;have hz:=d9.out;have hs:=inv.fr.size;have a1:=b5.out;have f9:∀x∈l3,x.c.length=4:=λx hx=>(zas (inv.ty x hx)).trans (by rw[za0];rfl);have a5:=inv.row_in o_ f9;have a8:=a5.frH b3 (Nat.le_refl _) λb hb hS=>by have:=(G.In.has hb a5).1;omega
    refine⟨G.mk [.int .u8 k,.int .i64 n,.string s,.slice A3 l3.length c3] [(A3,l3)],rfl,?_,?_,?_,?_,(c6.out.trans inv.fr).trans' b3 λi hi hS=>by omega⟩
    .refine .mk _ _ _ ?_ λi e e4 c2 x he hs hx=>?_
     .rw[za0];exact⟨⟨k,rfl,zce a1.k0 a1.k1⟩,⟨n,rfl,zcs a1.n0 a1.n1⟩,⟨s,rfl,a1.s1⟩,⟨c3,rfl,zcf inv.row,by rw[b8];exact a1.len1⟩,rfl,rfl⟩
     .rw[za0]at he;cases i with
      |zero=>
       simp[sls]at he hs;obtain⟨rfl,rfl⟩:=hs;subst he;exact inv.ty x hx
      |succ i=>simp at hs
    .have hm:=b2.out;rw[b8,List.take_length]at hm;rw[G.er_mk,e6.out];simp[erV,hm,b8]
    .refine G.in_rows.2 λA'' c2 hm=>?_;simp at hm;obtain⟨rfl,rfl⟩:=hm;exact G.In.more o_ b3.size _ a8
    .have hT:=(row_td (l:=l3) (.inr (.inl rfl)) inv.row rfl inv.td).fr b3 (λb hb hS=>by have:=(G.In.has hb a5).1;omega);intro b hbb;obtain⟨e4,c2,hm,g1⟩:=G.mk_has.1 hbb;simp at hm;obtain⟨rfl,rfl⟩:=hm;exact hT b g1
end Go.Proofs.YtlejelbefmkakaaGreat

/- Texts joined: Wo13, Wo15, Wo16. -/
import Derived.Test.YtlejelbefmkakaaGreatJn1
import Derived.Test.YtlejelbefmkakaaGreatJn7
import Derived.Test.YtlejelbefmkakaaGreatJn8
set_option maxHeartbeats 8000000
set_option maxRecDepth 100000
namespace Go.Proofs.YtlejelbefmkakaaGreat
open Go.RowKit
theorem zyy {m:Wm} {lo:Nat} {W:World} (h:m.Ok lo W) (hlo:lo<=W.heap.size) (home:Nat) (hs:home<m.made.length) (h512:m.made[home]<512) (hlen:m.th.length<100000) (ofr:Int) {x:Nat×Th} (hg:m.get ofr=some x) (hk5:x.2.kind=5) (hxh:x.2.home=(home:Int)) (hno:∀x∈m.th,¬(x.2.kind=6/\x.2.ofr=ofr)):
 Calls Tryz.prog 85 #[.pointer (some ⟨m.wb,0,none⟩),.agg (zat 6 (home:Int) 0 0 ⟨#[]⟩ none 0 0 0 0 0 ofr 0 0 false)] W (ziv m 6 home T.zero.v 0 0 ofr 0 0 false home lo W):=by
 have ht:=λW':World=>(T.zero_ow W' 0 W'.heap.size).inn;have c6:T.zero.v.may=true:=by rw[T.zero_v,zd5]
 have hF:=λW' (f:Fr No W W')=>zy4 (h.no f) home ofr hs;have hN:=λW' (f:Fr No W W')=>zle (h.no f) 6 (home:Int) 0 0 ⟨#[]⟩ none 0 [] 0 0 0 ofr 0 0 false W'.heap.size (ht W') (Nat.le_refl _) (by show T.zero.v.refs.length<=_;rw[T.zero_v,zfa];simp);have hO:=λW' (f:Fr No W W')=>zfd 6 (home:Int) 0 0 ⟨#[]⟩ none 0 [] 0 0 0 ofr 0 0 false W' W'.heap.size (ht W') (Nat.le_refl _) c6;have c8:m.are (T.mk 0 0 ⟨#[]⟩ none 0 [] 0).v.refs=true:=by show m.are T.zero.v.refs=true;rw[T.zero_v,zfa];rfl
 rw[c8]at hN;simp only[List.length_nil]at hN hO;have hT:=λW' (f:Fr No W W')=>zy9 (h.no f) (home:Int) 0 0 ⟨#[]⟩ none 0 0 0 0 0 ofr 0 0 false hg hk5 hxh hno;have hI:=λW' (f:Fr No W W')=>zqg (h.no f) ofr;have c9:(m.get ofr).isSome=true:=by rw[hg];rfl
 rw[c9]at hI;have b2:=Blk.new W 138 (zat 6 (home:Int) 0 0 ⟨#[]⟩ none 0 0 0 0 0 ofr 0 0 false);have c5:=(Fr.refl No W).alloc (.cells (zat 6 (home:Int) 0 0 ⟨#[]⟩ none 0 0 0 0 0 ofr 0 0 false) 138);have b6:=zaa h;have HF:=zaa hF;have HN:=zaa hN;have HO:=zaa hO;have HT:=zaa hT;have HI:=zaa hI;have HB:=zaa b2;have a0:=zaa c5;unfold zat at HF HN HO HT HB a0 b2 ⊢;obtain⟨d0,d1,d2,d3,d4,d5,d6,d7,d8,d9,a6,a7,a9,a8,a4,a3⟩:=b2.cells16;have dq:=b2.lt;clear hF hN hO hT b2 c5 h hI c9 hg hk5 hxh ht c6 c8 hno;go_enter Tryz.func85,Tryz.ntmps85;go_wp2_with fail;generalize World.alloc W _=W0 at*;refine(zh6 (b6.out.no a0.out)).mono ?_;rintro e w' ⟨rfl,rfl⟩;go_wp2_with fail;refine(HF.out w' a0.out).mono ?_;rintro e w1 ⟨rfl,ff⟩;have hb:=HB.out.fr ff λh=>h;replace HB:=zaa hb;replace a0:=zaa (a0.out.trans ff);clear d0 d1 d2 d3 d4 d5 d6 d7 d8 d9 a6 a7 a9 a8 a4 a3 dq ff;obtain⟨d0,d1,d2,d3,d4,d5,d6,d7,d8,d9,a6,a7,a9,a8,a4,a3⟩:=hb.cells16;have dq:=hb.lt;clear hb;go_wp2_with fail;refine(HN.out w1 a0.out).mono ?_;rintro e w2 ⟨rfl,ff⟩;have hb:=HB.out.fr ff λh=>h;replace HB:=zaa hb;replace a0:=zaa (a0.out.trans ff);clear d0 d1 d2 d3 d4 d5 d6 d7 d8 d9 a6 a7 a9 a8 a4 a3 dq ff;obtain⟨d0,d1,d2,d3,d4,d5,d6,d7,d8,d9,a6,a7,a9,a8,a4,a3⟩:=hb.cells16;have dq:=hb.lt;clear hb;go_wp2_with fail;refine(zzb w2).mono ?_;rintro e w3 ⟨rfl,rfl⟩;go_wp2_with fail;refine(HI.out w3 a0.out).mono ?_;rintro e w4 ⟨rfl,rfl⟩;go_wp2_with fail;refine(by5 6 s_ w4).mono ?_;rintro e w5 ⟨rfl,rfl⟩;go_wp2_with fail;refine(HT.out w5 a0.out).mono ?_;rintro e w6 ⟨rfl,ff⟩;have hb:=HB.out.fr ff λh=>h;replace HB:=zaa hb;replace a0:=zaa (a0.out.trans ff);clear d0 d1 d2 d3 d4 d5 d6 d7 d8 d9 a6 a7 a9 a8 a4 a3 dq ff;obtain⟨d0,d1,d2,d3,d4,d5,d6,d7,d8,d9,a6,a7,a9,a8,a4,a3⟩:=hb.cells16;have dq:=hb.lt;clear hb;go_wp2_with fail;have a1:=b6.out.no a0.out;have hz:0<m.made.length:=o_;obtain⟨gD,c,b5,f1,f0⟩:=a1.made.form hz;simp only[Value.slice.injEq,true_and]at b5;have b1:w6.cell? ⟨gD,home,none⟩=some (.int .i64 (m.made[home]:Int)):=by
  have:=World.ownsRow.cells a1.made (g:=gD) (by rw[b5.1];rfl) home (.int .i64 (m.made[home]:Int)) (by simp[hs]);rwa [zbi,Nat.zero_add]at this
 have x5:w6.cell? ⟨m.wb,5,none⟩=some (.slice m.D m.made.length m.dc):=by
  have:=a1.blk.cell 5;simpa[Wm.cells]using this
 rw[b5.1]at x5;have xq:=a1.blk.lt;have c1:decide ((m.made[home]:Int)≥512)=false:=so_;generalize e9:m.made[home]=mv at*;clear a1 hz b5;go_region
 all_goals
  go_simp;go_wp2_with fail;have b0:=zaa a0.out.drew;refine(HO.out w6.drew b0.out).mono ?_;rintro e w8 ⟨⟨k9,n9,s9,A9,a2,l9,r9⟩,rfl,c2,a5,f9⟩;have hb:=HB.out.fr (((Fr.refl No w6).drew).trans f9) λh=>h;have e5:=a0.out.size;have c7:=zwa ((b6.out.no b0.out).no f9) (by have:=f9.size;have:=b0.out.size;omega) 6 k9 n9 s9 A9 a2 l9 r9 0 0 ofr 0 0 false home hs (by rw[e9];exact h512) d_ hlen (a5.more (by have:=b0.out.size;omega) (Nat.le_refl _));have b3:(Th.val ⟨6,(home:Int),T.mk k9 n9 s9 A9 a2 l9 r9,0,0,ofr,0,0,false⟩)= .agg (zat 6 (home:Int) k9 n9 s9 A9 l9.length a2 r9 0 0 ofr 0 0 false):=rfl;rw[b3];have e3:∀b∈(T.mk k9 n9 s9 A9 a2 l9 r9).blocks,W.heap.size<=b:=λb hb=>by have:=(T.In.blocks _ a5.inn b hb).1;have:=b0.out.size;omega
  have c3:=zaa c7;have e7:=zaa c2;have e8:=zaa e3;have e1:=zaa (b0.out.trans f9);have c4:w8.cell? ⟨W.heap.size,0,none⟩=some (.int .u8 6):=hb.cell 0;have e6:=zaa hb;unfold zat at c3 ⊢;clear d0 d1 d2 d3 d4 d5 d6 d7 d8 d9 a6 a7 a9 a8 a4 a3 dq b1 x5 xq c1 c2 a5 f9 c7 b3 e3 hb e5 c4;go_wp2_with fail;refine c3.out.mono ?_;rintro e w9 ⟨rfl,b4,b8⟩;have e0:¬m.B W.heap.size:=λhb=>by have:=(b6.out.lt _ hb).2;omega
  have c0:=e6.out.fr b8 e0;have c4:w9.cell? ⟨W.heap.size,0,none⟩=some (.int .u8 6):=c0.cell 0;have f2:=c0.lt;have b7:=zaa b4;have b9:=zaa (e1.out.no.trans b8);have e2:=e1.out.size;have e4:=zaa e2;clear b4 b8 e0 c0 e2;go_wp2_with fail;go_ret2;exact⟨rfl,_,_,e7.out,e4.out,e8.out,b7.out,b9.out⟩
section
variable {m:Wm} {lo:Nat} {W:World}
theorem ziw {g s i B:Nat} {x:Th} (hg:B<=g) (hv:∀b∈x.v.blocks,B<=b) (hi:(m.add g x s).B i) (hlt:i<B):m.B i:=by
 rcases hi with hi|hi|hi|hi|⟨y,hy,hi⟩
 .exact .inl hi
 .exact .inr (.inl hi)
 .exact .inr (.inr (.inl hi))
 .refine .inr (.inr (.inr (.inl ?_)));simpa[Wm.add]using hi
 .rcases List.mem_append.1 hy with hy|hy
  .exact .inr (.inr (.inr (.inr ⟨y,hy,hi⟩)))
  .simp only[List.mem_singleton]at hy;subst hy;rcases hi with hi|hi
   .simp only at hi;omega
   .have:=hv i hi;omega
theorem zeg (g s:Nat) (x:Th):(m.add g x s).th.length=m.th.length+1:=by simp[Wm.add]
theorem zfb (g s:Nat) (x:Th):(m.add g x s).made.length=m.made.length:=by simp[Wm.add]
theorem zeh {g s:Nat} {x:Th} (hs:s<m.made.length):(m.add g x s).made[s]'(by rw[zfb];exact hs)=m.made[s]+1:=by
 simp[Wm.add,List.getD_eq_getElem?_getD,hs]
theorem zdi (g s:Nat) (x:Th):(m.add g x s).get ((m.th.length:Int)+1)=some (g,x):=by
 unfold Wm.get Wm.at_;rw[zeg,if_pos o_];simp[Wm.add]
theorem zcx {g s:Nat} {x:Th} {r:Int} {y:Nat×Th} (h:m.get r=some y):(m.add g x s).get r=some y:=by
 unfold Wm.get Wm.at_ at h ⊢;rw[zeg];split at h
 .rename_i hr;rw[if_pos o_];simp only[Option.bind_some]at h ⊢;show(m.th++[(g,x)])[(r - 1).toNat]? =some y;rw[List.getElem?_append_left o_];exact h
 .cases h
def zwb (m:Wm) (home lo:Nat) (W:World) (e:Ending) (w':World):Prop:=
 e= .returned (.tuple #[.int .i64 ((m.th.length:Int)+1),.int .i64 ((m.th.length:Int)+1+1),.int .i64 0])/\∃(g1 g2:Nat) (t1 t2:T),t1.v=V.zero/\t2.v=V.zero/\
  ((m.add g1 ⟨5,home,t1,0,0,0,0,0,false⟩ home).add g2 ⟨6,home,t2,0,0,(m.th.length:Int)+1,0,0,false⟩ home).Ok lo w'/\Fr m.B W w'/\
  ∀i,((m.add g1 ⟨5,home,t1,0,0,0,0,0,false⟩ home).add g2 ⟨6,home,t2,0,0,(m.th.length:Int)+1,0,0,false⟩ home).B i->i<W.heap.size->m.B i
theorem zqi (h:m.Ok lo W) (hlo:lo<=W.heap.size) (home:Nat) (hs:home<m.made.length) (h512:m.made[home]+2<=512) (hlen:m.th.length+2<100000) (hof:∀x∈m.th,x.2.ofr<=(m.th.length:Int)):
 Calls Tryz.prog 18 #[.pointer (some ⟨m.wb,0,none⟩),.int .i64 (home:Int)] W (zwb m home lo W):=by
 have b7:=zaa (zhm h);have HS:=zaa (zk9 h);have HM:=zaa (zxp h hs);have a4:=zyx h hlo home hs o_ o_;unfold zat at a4;have b2:=zaa a4;have h0:decide ((home:Int)<0)=false:=s_;have h1:decide ((home:Int)≥(m.made.length:Int))=false:=so_;have hw:IntKind.i64.wrap ((m.made[home]:Int)+2)=(m.made[home]:Int)+2:=IntWalk.i64_in _ o_;have h2:decide (512<(m.made[home]:Int)+2)=false:=so_;clear a4;go_enter Tryz.func18,Tryz.ntmps18;go_wp2_with fail;refine b7.out.mono ?_;rintro e w' ⟨rfl,rfl⟩;go_wp2_with fail;refine HS.out.mono ?_;rintro e w' ⟨rfl,rfl⟩;go_wp2_with fail;refine HM.out.mono ?_;rintro e w' ⟨rfl,rfl⟩;go_wp2_with fail;refine b2.out.mono ?_;rintro e w1 ⟨rfl,g1,t1,b8,a6,a7,a2,f1⟩;have a0:=zyy a2 (Nat.le_trans hlo f1.size) home (by rw[zfb];exact hs) (by rw[zeh hs];omega) (by rw[zeg];omega) ((m.th.length:Int)+1) (zdi _ _ _) rfl rfl (λy hy hh=>by
  rcases List.mem_append.1 hy with hy|hy
  .have:=hof y hy;omega
  .simp only[List.mem_singleton]at hy;subst hy;have:=hh.1;simp at this)
 have b3:(m.add g1 ⟨5,home,t1,0,0,0,0,0,false⟩ home).wb=m.wb:=rfl;rw[b3]at a0;unfold zat ziv at a0;rw[zeg]at a0;have a9:=zaa a0;clear a0 h0 h1 h2 hw b2 HM HS b7;go_wp2_with fail;refine a9.out.mono ?_;rintro e w2 ⟨rfl,g2,t2,b4,b0,b5,a1,f2⟩;have b1:Fr m.B w' w2:=f1.trans' f2 λi hi hb=>ziw a6 a7 hb hi;have a3:∀i,((m.add g1 ⟨5,home,t1,0,0,0,0,0,false⟩ home).add g2 ⟨6,home,t2,0,0,(m.th.length:Int)+1,0,0,false⟩ home).B i->i<w'.heap.size->m.B i:=λi hi hlt=>
  ziw a6 a7 (ziw b0 b5 hi (Nat.lt_of_lt_of_le hlt f1.size)) hlt
 have c0:=zaa b1;have a8:=zaa a3;have a5:=zaa a1;have b9:=zaa b8;have c1:=zaa b4;clear b1 a3 a1 b8 b4 a6 a7 b0 b5 a2 f1 f2 b3 hof;have b6:((m.th.length+1:Nat):Int)+1=(m.th.length:Int)+1+1:=o_;go_wp2_with fail;refine bodyPost_ret (v:=.tuple #[.int .i64 ((m.th.length:Int)+1),.int .i64 ((m.th.length:Int)+1+1),.int .i64 0]) (by simp[results,Tryz.results18,go_sem, *]) rfl ?_;exact⟨rfl,g1,g2,t1,t2,b9.out.trans T.zero_v,c1.out.trans T.zero_v,a5.out,c0.out,a8.out⟩
end
section
variable {m:Wm} {lo:Nat} {W:World}
theorem zj7 (h:m.Ok lo W) (t:T) (hi:Nat) (ht:t.In W 0 hi) (hhi:hi<=W.heap.size) (hln:t.v.refs.length<=140737488351232) (hare:m.are t.v.refs=true):
 Calls Tryz.prog 87 #[.pointer (some ⟨m.wb,0,none⟩),t.val] W λe w'=>e= .returned (.int .i64 0)/\Fr No W w':=by
 have hR:=λW' (f:Fr No W W')=>zdv t W' 0 hi (ht.no f hhi) (Nat.le_trans hhi f.size);obtain⟨k,n,s,A,cap,l,r⟩:=t;rw[T.val_mk]at*;generalize (T.mk k n s A cap l r).v.refs=L at*;have a5:=zaa h;have HR:=zaa hR;have HA:=zaa hare;have a3:=(Fr.refl No W).alloc (.cells #[.int .u8 k,.int .i64 n,.string s,.slice A l.length cap,.int .i64 r] 28);have a4:=zaa a3;clear h hR hare ht hhi a3;go_enter Tryz.func87,Tryz.ntmps87;go_wp2_with fail;generalize World.alloc W _=W0 at*;refine(HR.out W0 a4.out).mono ?_;rintro e w1 ⟨v,rfl,a0,f1⟩;obtain⟨A1,c1,rfl⟩:=za8 a0;have a1:=zaa a0;have a2:=zaa (a4.out.trans f1);clear a0 f1;go_wp2_with fail;go_loopw [10] (λi wr=>∃j:Nat,j<=L.length/\i= .int .i64 j/\wr=w1) (λi _=>L.length - (intOf i).toNat)
 case atStart=>exact⟨0,Nat.zero_le _,rfl,rfl⟩
 case round=>
  obtain⟨j,hj,rfl,rfl⟩:=hrel;by_cases hlt:j<L.length
  .obtain⟨b,rfl,a6,e0⟩:=row_at a1.out hlt;have hI:=zqg (a5.out.no a2.out) L[j];have hy:(m.get L[j]).isSome=true:=List.all_eq_true.1 HA.out _ (List.getElem_mem hlt);rw[hy]at hI;have HI:=zaa hI;generalize L[j]=u at*;clear hI hy;go_wp2_with fail;refine HI.out.mono ?_;rintro e w2 ⟨rfl,rfl⟩;go_wp2;go_roundw
   case rel=>exact⟨j+1,hlt,by go_num,trivial⟩
   case measure=>simp[intOf];omega
  .obtain rfl:L.length=j:=o_;go_wp2;go_ret;exact⟨rfl,a2.out⟩
def zwc (m:Wm) (home r:Int) (v:V) (s lo:Nat) (W:World) (e:Ending) (w':World):Prop:=
 e= .returned (.tuple #[.int .i64 ((m.th.length:Int)+1),.int .i64 0])/\∃(g:Nat) (t':T),t'.v=v/\(m.add g ⟨7,home,t',0,0,r,0,0,false⟩ s).Ok lo w'/\Fr m.B W w'/\∀i,(m.add g ⟨7,home,t',0,0,r,0,0,false⟩ s).B i->i<W.heap.size->m.B i
theorem zwd (h:m.Ok lo W) (hlo:lo<=W.heap.size) (home:Nat) (hs:home<m.made.length) (h512:m.made[home]<512) (hlen:m.th.length<100000) {sr:Int} {x:Nat×Th} (hg:m.get sr=some x) (hk5:x.2.kind=5) (hxh:x.2.home=(home:Int))
 (t:T) (hi:Nat) (ht:t.In W 0 hi) (hhi:hi<=W.heap.size) (hm:t.v.may=true) (hln:t.v.refs.length<=140737488351232) (hare:m.are t.v.refs=true):
 Calls Tryz.prog 19 #[.pointer (some ⟨m.wb,0,none⟩),.int .i64 sr,t.val] W (zwc m home sr t.v home lo W):=by
 have hM:=λW' (f:Fr No W W')=>zca t W' 0 hi (ht.no f hhi) (Nat.le_trans hhi f.size);have hR:=λW' (f:Fr No W W')=>zj7 (h.no f) t hi (ht.no f hhi) (Nat.le_trans hhi f.size) hln hare;have hI:=λW' (f:Fr No W W')=>zqg (h.no f) sr;have hK:=λW' (f:Fr No W W')=>zmk (h.no f) sr;have hH:=λW' (f:Fr No W W')=>zxo (h.no f) hg (by rw[hk5];decide);have a8:(m.get sr).isSome=true:=by rw[hg];rfl
 have a9:m.kind sr=5:=by unfold Wm.kind;rw[hg,<-hk5];rfl
 rw[a8]at hI;rw[a9]at hK;rw[hxh]at hH;rw[hm]at hM;obtain⟨k,n,s,A,cap,l,r⟩:=t;have a4:=λW' (f:Fr No W W')=>zyz (h.no f) (Nat.le_trans hlo f.size) home k n s A cap l r hs h512 hlen hi (ht.no f hhi) (Nat.le_trans hhi f.size) hm hln hare sr hg hk5 hxh;unfold zat at a4;rw[T.val_mk]at*;generalize (T.mk k n s A cap l r).v=u at*;have b4:=zaa λW' (f:Fr No W W')=>zhm (h.no f);have HM:=zaa hM;have HR:=zaa hR;have HI:=zaa hI;have HK:=zaa hK;have HH:=zaa hH;have b3:=zaa a4;have a2:=Blk.new W 28 #[.int .u8 k,.int .i64 n,.string s,.slice A l.length cap,.int .i64 r];have a6:=(Fr.refl No W).alloc (.cells #[.int .u8 k,.int .i64 n,.string s,.slice A l.length cap,.int .i64 r] 28);obtain⟨e0,e1,e2,e3,e4,ef⟩:=a2.cells5;have a0:=a2.lt;have HB:=zaa a2;have HF:=zaa a6;clear hM hR hI hK hH a4 a2 a6 a8 a9 h ht hhi hm hln hare hg hk5 hxh;go_enter Tryz.func19,Tryz.ntmps19;go_wp2_with fail;generalize World.alloc W _=W0 at*;refine(b4.out W0 HF.out).mono ?_;rintro e w' ⟨rfl,rfl⟩;go_wp2_with fail;refine(HM.out w' HF.out).mono ?_;rintro e w1 ⟨rfl,ff⟩;have hb:=HB.out.fr ff λh=>h;replace HB:=zaa hb;replace HF:=zaa (HF.out.trans ff);clear e0 e1 e2 e3 e4 ef a0 ff;obtain⟨e0,e1,e2,e3,e4,ef⟩:=hb.cells5;have a0:=hb.lt;clear hb;go_wp2_with fail;refine(HI.out w1 HF.out).mono ?_;rintro e w2 ⟨rfl,rfl⟩;go_wp2_with fail;refine(HR.out w2 HF.out).mono ?_;rintro e w3 ⟨rfl,ff⟩;have hb:=HB.out.fr ff λh=>h;replace HB:=zaa hb;replace HF:=zaa (HF.out.trans ff);clear e0 e1 e2 e3 e4 ef a0 ff;obtain⟨e0,e1,e2,e3,e4,ef⟩:=hb.cells5;have a0:=hb.lt;clear hb;go_wp2_with fail;refine(HK.out w3 HF.out).mono ?_;rintro e w4 ⟨rfl,rfl⟩;go_wp2_with fail;refine(HH.out w4 HF.out).mono ?_;rintro e w5 ⟨rfl,rfl⟩;go_wp2_with fail;refine(b3.out w5 HF.out).mono ?_;rintro e w6 ⟨rfl,g,t',hv,hg,a7,b0,fr⟩;have b1:=HF.out.size;have a1:∀i,(m.add g ⟨7,(home:Int),t',0,0,sr,0,0,false⟩ home).B i->i<W.heap.size->m.B i:=λi hi hlt=>ziw (B:=W.heap.size) o_ (λb hb=>by have:=a7 b hb;omega) hi hlt;have a5:=zaa a1;have a3:=zaa b0;have HV:=zaa hv;have b2:=zaa (HF.out.no.trans fr);clear a1 b0 hv fr a7 hg b1 e0 e1 e2 e3 e4 ef a0;go_wp2_with fail;go_ret2;exact⟨rfl,g,t',HV.out,a3.out,b2.out,a5.out⟩
end
end Go.Proofs.YtlejelbefmkakaaGreat

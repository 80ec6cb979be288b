/- Texts joined: Gk, Gk2. -/
import Derived.Test.YtlejelbefmkakaaGreatJn1
import Derived.Test.YtlejelbefmkakaaGreatJn12
import Derived.Test.YtlejelbefmkakaaGreatJn21
import Derived.Test.YtlejelbefmkakaaGreatJn22
import Derived.Deep.Cut
import Derived.Deep.CutRange
set_option maxHeartbeats 16000000
set_option maxRecDepth 100000
namespace Go.Proofs.YtlejelbefmkakaaGreat
open Go.RowKit
def SmP (L p:Nat) (l:List G) (w:World) (e:Ending) (w':World):Prop:=
 ∃b:Bool,e= .returned (.bool b)/\Fr (· =L) w w'/\(b=true↔(p+(l.map G.ssz).sum<=512/\∀x∈l,x.sok=true))/\(b=true->LitPre L (p+(l.map G.ssz).sum) w')
def zth (g:G):Prop:=∀(A:Option Addr) (l:List G),(A,l)∈g.subs->∀(w:World) (lo hi L p cap:Nat),CdRow w lo hi A cap l->hi<=L->LitPre L p w->Calls Tryz.prog 210 #[.slice A l.length cap,.pointer (some ⟨L,0,none⟩)] w (SmP L p l w)
structure SmI (L p:Nat) (l:List G) (w:World) (j:Nat) (wr:World):Prop where
 fr:Fr (· =L) w wr
 pre:LitPre L (p+ssT l j) wr
 ok:∀x∈l.take j,x.sok=true
theorem zrp (l:List G):ssT l 0=0:=by simp[ssT]
theorem zn8 {l:List G} {x:G} {p j:Nat} (hx:x∈l) (hj:ssT l (j+1)=ssT l j+x.ssz) (h:¬(p+ssT l j+x.ssz<=512/\x.sok=true)):(false=true↔(p+(l.map G.ssz).sum<=512/\∀x∈l,x.sok=true)):=by
 refine⟨nofun,λ⟨h1,h2⟩=>absurd ⟨?_,h2 x hx⟩ h⟩;have:=zlx l (j+1);omega
def SmR (L p:Nat) (op:Int) (nm sc:ByteArray) (ab wh k1 n1:Int) (s1:ByteArray) (A1:Option Addr) (m1 z1:Nat) (k2 n2:Int) (s2:ByteArray) (A2:Option Addr) (m2 z2:Nat) (A3:Option Addr) (m3 z3:Nat) (A4:Option Addr) (m4 z4:Nat) (A5:Option Addr) (m5 z5:Nat) (A6:Option Addr) (m6 z6:Nat) (wr:World) (b6 b7 b8:Value) (wx:World):Prop:=
 ∃g6 g7 g8:Nat,(b6= .pointer (some ⟨g6,0,none⟩)/\b7= .pointer (some ⟨g7,0,none⟩)/\b8= .pointer (some ⟨g8,0,none⟩))/\Blk wx g6 311 (stC op nm sc ab wh k1 n1 s1 A1 m1 z1 k2 n2 s2 A2 m2 z2 A3 m3 z3 A4 m4 z4 A5 m5 z5 A6 m6 z6).toArray/\Blk wx g7 3 #[.int .i64 0]/\Blk wx g8 3 #[.int .i64 0]/\
  (wx.cell? ⟨L,0,none⟩=some (.int .i64 ((p:Int)+1))/\wx.frozen? ⟨L,0,none⟩=false)/\Fr (· =L) wr wx/\(wr.heap.size<=g6/\wr.heap.size<=g7/\wr.heap.size<=g8/\g6≠g7/\g6≠g8/\g7≠g8)
theorem zjf (l:List G) (hC:∀x∈l,zth x) (w:World) (lo hi L p:Nat) (A:Option Addr) (cap:Nat) (hrow:CdRow w lo hi A cap l) (hL:hi<=L) (hp:LitPre L p w):Calls Tryz.prog 210 #[.slice A l.length cap,.pointer (some ⟨L,0,none⟩)] w (SmP L p l w):=by
 have i6:=hrow.ty;have n7:=hrow.len1;have o6:hi<=w.heap.size:=by have:=hp.lt;omega
 have o0:=zaa (λ(w':World) (f:Fr (· =L) w w')=>hrow.inn.fr f o6 λi h0 h1 h=>by have h':i=L:=h;omega);have m7:=zaa (show SmI L p l w 0 w from⟨Fr.refl _ w,by rw[zrp];exact hp,by simp⟩);have i4:=zaa i6;have o4:=zaa hC;clear hrow hp hC i6;go_enter Tryz.func210,Tryz.ntmps210;go_wp2_with fail;go_loopw [11] (λi wr=>∃j:Nat,j<=l.length/\i= .int .i64 j/\SmI L p l w j wr) (λi _=>l.length - (intOf i).toNat)
 case atStart=>exact⟨0,Nat.zero_le _,rfl,m7.out⟩
 case round=>
  obtain⟨j,hj,rfl,inv⟩:=hrel;by_cases hlt:j<l.length
  case neg=>
   obtain rfl:l.length=j:=o_;have HI:=zaa inv;clear inv;go_wp2;go_ret;have inv:=HI.out;have e4:=inv.pre;rw[zon]at e4;refine⟨true,rfl,inv.fr,⟨λ_=>⟨e4.le,λx hx=>inv.ok x (by rw[List.take_of_length_le (Nat.le_refl _)];exact hx)⟩,λ_=>rfl⟩,λ_=>e4⟩
  have a4:=List.getElem_mem hlt;obtain⟨gr,o,rfl,p3,q6,c2,d9⟩:=G.row_at (o0.out wr inv.fr) hlt;have d1:=o4.out _ a4;have a8:=zlw l j hlt;have k0:l.take (j+1)=l.take j++[l[j]]:=by rw[List.take_succ_eq_append_getElem hlt]
  obtain⟨op,nm,sc,ab,wh,k1,n1,s1,A1,l1,z1,k2,n2,s2,A2,l2,z2,A3,l3,z3,A4,l4,z4,A5,l5,z5,A6,l6,z6,hx,b5,j0,j4,j8,j7,j9,i3,i8,l0⟩:=zkp (i4.out _ a4);have h7:l[j].c.length=17:=(zas (i4.out _ a4)).trans (by rw[zbl];rfl);rw[h7]at d9;have b3:=G.sok_six op nm sc ab wh k1 n1 s1 A1 l1.length z1 k2 n2 s2 A2 l2.length z2 A3 l3.length z3 A4 l4.length z4 A5 l5.length z5 A6 l6.length z6 l1 l2 l3 l4 l5 l6;have e8:=G.ssz_six (stC op nm sc ab wh k1 n1 s1 A1 l1.length z1 k2 n2 s2 A2 l2.length z2 A3 l3.length z3 A4 l4.length z4 A5 l5.length z5 A6 l6.length z6) A1 A2 A3 A4 A5 A6 l1 l2 l3 l4 l5 l6;have g2:=zn8 (p:=p) a4 a8;have d7:=zlx l (j+1);rw[<-hx]at b3 e8;have m3:=zaa k0;generalize p7:l[j]=x at*;subst hx;have a3:=G.in_rows.1 c2;have a6:=inv.pre;have e3:=a6.le;have hE:=λ(W':World) (f:Fr (· =L) wr W') (g:Nat) (hg:wr.heap.size<=g) (hb:Blk W' g 3 #[.int .i64 0])=>zhv (.mk [.int .u8 k1,.int .i64 n1,.string s1,.slice A1 l1.length z1] [(A1,l1)]) (zic j0 j8) W' lo hi g 0 16 (G.in_rows.2 (by intro A' l' hm;simp at hm;obtain⟨rfl,rfl⟩:=hm;exact(a3 _ _ s_).fr f (by have:=a6.lt;omega) λi h0 h1 h=>by have h':i=L:=h;omega)) (by have:=a6.lt;omega) ⟨hb.cell 0,hb.frozen 0,hb.lt,by omega⟩ o_;have j1:=λ(W':World) (f:Fr (· =L) wr W') (g:Nat) (hg:wr.heap.size<=g) (hb:Blk W' g 3 #[.int .i64 0])=>zhv (.mk [.int .u8 k2,.int .i64 n2,.string s2,.slice A2 l2.length z2] [(A2,l2)]) (zic j4 j7) W' lo hi g 0 16 (G.in_rows.2 (by intro A' l' hm;simp at hm;obtain⟨rfl,rfl⟩:=hm;exact(a3 _ _ s_).fr f (by have:=a6.lt;omega) λi h0 h1 h=>by have h':i=L:=h;omega)) (by have:=a6.lt;omega) ⟨hb.cell 0,hb.frozen 0,hb.lt,by omega⟩ o_;have d2:=λ(A':Option Addr) (l':List G) (hm:(A',l')∈[(A1,l1),(A2,l2),(A3,l3),(A4,l4),(A5,l5),(A6,l6)]) (W':World) (f:Fr (· =L) wr W')=>(a3 A' l' hm).fr f (by have:=a6.lt;omega) λi h0 h1 h=>by have h':i=L:=h;omega
  have i2:=λ(W':World) (f:Fr (· =L) wr W') (q:Nat) (hq:LitPre L q W')=>d1 A3 l3 (by simp[G.subs]) W' lo hi L q z3 ⟨b5.th1.1,b5.th1.2,j9,d2 A3 l3 s_ W' f⟩ hL hq;have j6:=λ(W':World) (f:Fr (· =L) wr W') (q:Nat) (hq:LitPre L q W')=>d1 A4 l4 (by simp[G.subs]) W' lo hi L q z4 ⟨b5.el1.1,b5.el1.2,i3,d2 A4 l4 s_ W' f⟩ hL hq;have j5:=λ(W':World) (f:Fr (· =L) wr W') (q:Nat) (hq:LitPre L q W')=>d1 A5 l5 (by simp[G.subs]) W' lo hi L q z5 ⟨b5.co1.1,b5.co1.2,i8,d2 A5 l5 s_ W' f⟩ hL hq;have a1:∀i u,(stC op nm sc ab wh k1 n1 s1 A1 l1.length z1 k2 n2 s2 A2 l2.length z2 A3 l3.length z3 A4 l4.length z4 A5 l5.length z5 A6 l6.length z6)[i]? =some u->wr.cell? ⟨gr,o+j*17+i,none⟩=some u:=d9;unfold stC at a1;have x0:wr.cell? ⟨gr,o+j*17,none⟩=some (.int .u8 op):=a1 0 _ rfl;have x1:wr.cell? ⟨gr,o+j*17+1,none⟩=some (.string nm):=a1 1 _ rfl;have x2:wr.cell? ⟨gr,o+j*17+2,none⟩=some (.string sc):=a1 2 _ rfl;have x3:wr.cell? ⟨gr,o+j*17+3,none⟩=some (.int .u8 ab):=a1 3 _ rfl;have x4:wr.cell? ⟨gr,o+j*17+4,none⟩=some (.int .u8 wh):=a1 4 _ rfl;have x5:wr.cell? ⟨gr,o+j*17+5,none⟩=some (.int .u8 k1):=a1 5 _ rfl;have x6:wr.cell? ⟨gr,o+j*17+6,none⟩=some (.int .i64 n1):=a1 6 _ rfl;have x7:wr.cell? ⟨gr,o+j*17+7,none⟩=some (.string s1):=a1 7 _ rfl;have x8:wr.cell? ⟨gr,o+j*17+8,none⟩=some (.slice A1 l1.length z1):=a1 8 _ rfl;have x9:wr.cell? ⟨gr,o+j*17+9,none⟩=some (.int .u8 k2):=a1 9 _ rfl;have m4:wr.cell? ⟨gr,o+j*17+10,none⟩=some (.int .i64 n2):=a1 10 _ rfl;have k9:wr.cell? ⟨gr,o+j*17+11,none⟩=some (.string s2):=a1 11 _ rfl;have o9:wr.cell? ⟨gr,o+j*17+12,none⟩=some (.slice A2 l2.length z2):=a1 12 _ rfl;have m1:wr.cell? ⟨gr,o+j*17+13,none⟩=some (.slice A3 l3.length z3):=a1 13 _ rfl;have o3:wr.cell? ⟨gr,o+j*17+14,none⟩=some (.slice A4 l4.length z4):=a1 14 _ rfl;have m9:wr.cell? ⟨gr,o+j*17+15,none⟩=some (.slice A5 l5.length z5):=a1 15 _ rfl;have m5:wr.cell? ⟨gr,o+j*17+16,none⟩=some (.slice A6 l6.length z6):=a1 16 _ rfl;obtain⟨q,hq⟩:∃q:Nat,p+ssT l j=q:=⟨_,rfl⟩;rw[hq]at a6 e3 g2;have c0:=a6.cell;have cf:=a6.free;have cq:=a6.lt;have q5:gr<wr.heap.size:=o_;have q3:gr≠L:=o_;have hw:IntKind.i64.wrap ((q:Int)+1)=(q:Int)+1:=IntWalk.i64_in _ o_;have HE:=zaa hE;have m2:=zaa j1;have n9:=zaa i2;have k6:=zaa j6;have k4:=zaa j5;have b0:=zaa b3;have c5:=zaa e8;have b7:=zaa g2;have a9:=zaa inv;have o1:=zaa a8;have k7:=zaa a4;have HQ:=zaa hq;clear a1 d9 a3 d2 i2 j6 j5 hE j1 c2 d1 b3 e8 g2 inv a8 a4 d7 b5 j0 j4 j8 j7 j9 i3 i8 l0 a6 h7 k0 hq;go_upto_region 3 with(fail);go_cut [6]from 12 to 60 (λb6 wx=>b6= .pointer (some ⟨wr.heap.size,0,none⟩)/\wx=wr.alloc (.cells #[.int .u8 op,.string nm,.string sc,.int .u8 ab,.int .u8 wh,.int .u8 k1,.int .i64 n1,.string s1,.slice A1 l1.length z1,.int .u8 k2,.int .i64 n2,.string s2,.slice A2 l2.length z2,.slice A3 l3.length z3,.slice A4 l4.length z4,.slice A5 l5.length z5,.slice A6 l6.length z6] 311))
  case first=>as_aux_lemma=>
   go_wp2_with fail;go_meet
   case rel=>exact⟨rfl,rfl⟩
  obtain⟨rfl,rfl⟩:=hcut;have i9:=Blk.new wr 311 #[.int .u8 op,.string nm,.string sc,.int .u8 ab,.int .u8 wh,.int .u8 k1,.int .i64 n1,.string s1,.slice A1 l1.length z1,.int .u8 k2,.int .i64 n2,.string s2,.slice A2 l2.length z2,.slice A3 l3.length z3,.slice A4 l4.length z4,.slice A5 l5.length z5,.slice A6 l6.length z6];have c4:=(Fr.refl No wr).alloc (.cells #[.int .u8 op,.string nm,.string sc,.int .u8 ab,.int .u8 wh,.int .u8 k1,.int .i64 n1,.string s1,.slice A1 l1.length z1,.int .u8 k2,.int .i64 n2,.string s2,.slice A2 l2.length z2,.slice A3 l3.length z3,.slice A4 l4.length z4,.slice A5 l5.length z5,.slice A6 l6.length z6] 311);have d0:(wr.alloc (.cells #[.int .u8 op,.string nm,.string sc,.int .u8 ab,.int .u8 wh,.int .u8 k1,.int .i64 n1,.string s1,.slice A1 l1.length z1,.int .u8 k2,.int .i64 n2,.string s2,.slice A2 l2.length z2,.slice A3 l3.length z3,.slice A4 l4.length z4,.slice A5 l5.length z5,.slice A6 l6.length z6] 311)).heap.size=wr.heap.size+1:=s_;have c0:=(c4.cell cq λh=>h).trans c0;have cf:=(c4.frozen cq λh=>h).trans cf;have cq:=Nat.lt_of_lt_of_le cq c4.size;have j3:L≠wr.heap.size:=by have:=a9.out.pre.lt;omega
  have p2:wr.heap.size=wr.heap.size:=rfl;clear x0 x1 x2 x3 x4 x5 x6 x7 x8 x9 m4 k9 o9 m1 o3 m9 m5;generalize p5:wr.heap.size=gb at*;generalize q0:World.alloc wr _=Wa at*;go_upto_region 6 with(fail);obtain⟨W5,d5⟩:∃W5,((Wa.setCell ⟨L,0,none⟩ (.int .i64 ((q:Int)+1))).alloc (.cells #[.int .i64 0] 3)).alloc (.cells #[.int .i64 0] 3)=W5:=⟨_,rfl⟩;have fs:Fr (· =L) Wa (Wa.setCell ⟨L,0,none⟩ (.int .i64 ((q:Int)+1))):=(Fr.refl (· =L) Wa).set (λ_=>rfl) _;have a0:=((i9.fr fs λh=>j3 h.symm).alloc (.cells #[.int .i64 0] 3)).alloc (.cells #[.int .i64 0] 3);have hz:(Wa.setCell ⟨L,0,none⟩ (.int .i64 ((q:Int)+1))).heap.size=gb+1:=by rw[<-d0];simp[World.setCell]
  have d6:=(Blk.new' (Wa.setCell ⟨L,0,none⟩ (.int .i64 ((q:Int)+1))) 3 #[.int .i64 0] (g:=gb+1) (by rw[hz])).alloc (.cells #[.int .i64 0] 3);have b1:=Blk.new' ((Wa.setCell ⟨L,0,none⟩ (.int .i64 ((q:Int)+1))).alloc (.cells #[.int .i64 0] 3)) 3 #[.int .i64 0] (g:=gb+1+1) (by simp[hz]);have f5:=(c4.no.trans fs).trans (((Fr.refl No (Wa.setCell ⟨L,0,none⟩ (.int .i64 ((q:Int)+1)))).alloc (.cells #[.int .i64 0] 3)).alloc (.cells #[.int .i64 0] 3)).no;have e0:(((Wa.setCell ⟨L,0,none⟩ (.int .i64 ((q:Int)+1))).alloc (.cells #[.int .i64 0] 3)).alloc (.cells #[.int .i64 0] 3)).cell? ⟨L,0,none⟩=some (.int .i64 ((q:Int)+1)):=by
   have:(Wa.setCell ⟨L,0,none⟩ (.int .i64 ((q:Int)+1))).cell? ⟨L,0,none⟩=some (.int .i64 ((q:Int)+1)):=by simp[go_sem, *]
   exact((((Fr.refl No _).alloc _).alloc _).cell (by rw[hz];have:=d0;omega) λh=>h).trans this
  have ef:(((Wa.setCell ⟨L,0,none⟩ (.int .i64 ((q:Int)+1))).alloc (.cells #[.int .i64 0] 3)).alloc (.cells #[.int .i64 0] 3)).frozen? ⟨L,0,none⟩=false:=by
   have:(Wa.setCell ⟨L,0,none⟩ (.int .i64 ((q:Int)+1))).frozen? ⟨L,0,none⟩=false:=by simp[go_sem,cf]
   exact((((Fr.refl No _).alloc _).alloc _).frozen (by rw[hz];have:=d0;omega) λh=>h).trans this
  rw[d5]at a0 d6 b1 f5 e0 ef;rw[d5];have g7:L<gb:=by have:=a9.out.pre.lt;omega
  have o5:L<W5.heap.size:=by have:=f5.size;omega
  have n8:=zaa a0;have m6:=zaa d6;have l8:=zaa b1;have g5:=zaa f5;have m8:=zaa (And.intro e0 (And.intro ef o5));have b2:=zaa g7;have i0:=zaa (a9.out.fr.trans f5);have v5:W5.cell? ⟨gb,5,none⟩=some (.int .u8 k1):=a0.cell 5;have v6:W5.cell? ⟨gb,6,none⟩=some (.int .i64 n1):=a0.cell 6;have v7:W5.cell? ⟨gb,7,none⟩=some (.string s1):=a0.cell 7;have v8:W5.cell? ⟨gb,8,none⟩=some (.slice A1 l1.length z1):=a0.cell 8;have v9:W5.cell? ⟨gb,9,none⟩=some (.int .u8 k2):=a0.cell 9;have o2:W5.cell? ⟨gb,10,none⟩=some (.int .i64 n2):=a0.cell 10;have o8:W5.cell? ⟨gb,11,none⟩=some (.string s2):=a0.cell 11;have m0:W5.cell? ⟨gb,12,none⟩=some (.slice A2 l2.length z2):=a0.cell 12;have j2:W5.cell? ⟨gb,13,none⟩=some (.slice A3 l3.length z3):=a0.cell 13;have g0:W5.cell? ⟨gb,14,none⟩=some (.slice A4 l4.length z4):=a0.cell 14;have d4:W5.cell? ⟨gb,15,none⟩=some (.slice A5 l5.length z5):=a0.cell 15;have i7:W5.cell? ⟨gb,16,none⟩=some (.slice A6 l6.length z6):=a0.cell 16;have c1:=a0.lt;have n6:=b1.lt;clear d5 fs hz i9 c4 d0 c0 cf cq a0 d6 b1 f5 ef g7 j3;obtain⟨q1,e7⟩:∃q1,(G.mk [.int .u8 k1,.int .i64 n1,.string s1,.slice A1 l1.length z1] [(A1,l1)]).eok 512 16=q1:=⟨_,rfl⟩;obtain⟨q2,e1⟩:∃q2,(G.mk [.int .u8 k2,.int .i64 n2,.string s2,.slice A2 l2.length z2] [(A2,l2)]).eok 512 16=q2:=⟨_,rfl⟩;have b3:=b0.out;rw[e7,e1]at b3;have b0:=zaa b3;have k8:=zaa e7;have n0:=zaa e1;clear b3 e7 e1;by_cases d3:512<q+1
  .have hd:decide ((q:Int)+1 > 512)=true:=so_;have a2:=b7.out λh=>by have:=c5.out;have:=h.1;omega
   have a7:=zaa a2;clear a2 d3;go_wp2;go_ret;exact⟨false,rfl,i0.out,a7.out,nofun⟩
  have hd:decide ((q:Int)+1 > 512)=false:=so_;by_cases e2:64<l6.length
  .have o7:decide ((l6.length:Int) > 64)=true:=so_;have a2:=b7.out λh=>by
    have h2:=h.2;rw[b0.out]at h2;simp at h2;omega
   have a7:=zaa a2;clear a2 d3 e2;go_wp2;go_ret;exact⟨false,rfl,i0.out,a7.out,nofun⟩
  have o7:decide ((l6.length:Int) > 64)=false:=so_;have n4:=zaa d3;have n5:=zaa e2;clear d3 e2;go_wp2_with fail;refine(HE.out W5 g5.out (gb+1) o_ m6.out).mono ?_;rintro e w6 ⟨he,f6,-⟩;have he:e= .returned (.bool q1):=by rw[he,<-k8.out]
  subst he;have a0:=n8.out.fr f6 o_;have b1:=l8.out.fr f6 o_;have a5:=m8.out;have e6:=(f6.cell a5.2.2 (by have:=b2.out;omega)).trans a5.1;have b9:=(f6.frozen a5.2.2 (by have:=b2.out;omega)).trans a5.2.1;have c6:=Nat.lt_of_lt_of_le a5.2.2 f6.size;have g4:Fr (· =L) wr w6:=g5.out.trans' f6 λi hi h=>by have h':i=gb+1:=h;omega
  have k5:=zaa (And.intro e6 (And.intro b9 c6));have f0:=zaa a0;have b4:=zaa b1;have f1:=zaa g4;have v9:w6.cell? ⟨gb,9,none⟩=some (.int .u8 k2):=a0.cell 9;have o2:w6.cell? ⟨gb,10,none⟩=some (.int .i64 n2):=a0.cell 10;have o8:w6.cell? ⟨gb,11,none⟩=some (.string s2):=a0.cell 11;have m0:w6.cell? ⟨gb,12,none⟩=some (.slice A2 l2.length z2):=a0.cell 12;have j2:w6.cell? ⟨gb,13,none⟩=some (.slice A3 l3.length z3):=a0.cell 13;have g0:w6.cell? ⟨gb,14,none⟩=some (.slice A4 l4.length z4):=a0.cell 14;have d4:w6.cell? ⟨gb,15,none⟩=some (.slice A5 l5.length z5):=a0.cell 15;have i7:w6.cell? ⟨gb,16,none⟩=some (.slice A6 l6.length z6):=a0.cell 16;have c1:=a0.lt;have n6:=b1.lt;clear a0 b1 a5 e6 b9 c6 g4 f6;cases q1 with
  |false=>
   have a2:=b7.out λh=>by
    have h2:=h.2;rw[b0.out]at h2;simp at h2
   have a7:=zaa a2;clear a2;go_wp2;go_ret;exact⟨false,rfl,a9.out.fr.trans f1.out,a7.out,nofun⟩
  |true=>
  go_wp2_with fail;refine(m2.out w6 f1.out (gb+1+1) o_ b4.out).mono ?_;rintro e w7 ⟨he,f7,-⟩;have he:e= .returned (.bool q2):=by rw[he,<-n0.out]
  subst he;have a0:=f0.out.fr f7 o_;have a5:=k5.out;have e6:=(f7.cell a5.2.2 (by have:=b2.out;omega)).trans a5.1;have b9:=(f7.frozen a5.2.2 (by have:=b2.out;omega)).trans a5.2.1;have c6:=Nat.lt_of_lt_of_le a5.2.2 f7.size;have i1:Fr (· =L) wr w7:=f1.out.trans' f7 λi hi h=>by have h':i=gb+1+1:=h;omega
  have f4:=zaa (And.intro e6 (And.intro b9 c6));have g3:=zaa a0;have g1:=zaa i1;have j2:w7.cell? ⟨gb,13,none⟩=some (.slice A3 l3.length z3):=a0.cell 13;have g0:w7.cell? ⟨gb,14,none⟩=some (.slice A4 l4.length z4):=a0.cell 14;have d4:w7.cell? ⟨gb,15,none⟩=some (.slice A5 l5.length z5):=a0.cell 15;have i7:w7.cell? ⟨gb,16,none⟩=some (.slice A6 l6.length z6):=a0.cell 16;have c1:=a0.lt;clear a0 a5 e6 b9 c6 i1 f7;cases q2 with
  |false=>
   have a2:=b7.out λh=>by
    have h2:=h.2;rw[b0.out]at h2;simp at h2
   have a7:=zaa a2;clear a2;go_wp2;go_ret;exact⟨false,rfl,a9.out.fr.trans g1.out,a7.out,nofun⟩
  |true=>
  have b8:LitPre L (q+1) w7:=⟨f4.out.1,f4.out.2.1,f4.out.2.2,by have:=n4.out;omega⟩;have n3:=zaa b8;clear b8;go_wp2_with fail;refine(n9.out w7 g1.out _ n3.out).mono ?_;rintro e w8 ⟨c8,rfl,f8,h8,p8⟩;have a0:=g3.out.fr f8 (by have:=b2.out;omega);have b4:=zaa a0;have e9:=zaa (g1.out.trans f8);have g6:=zaa h8;have l7:=zaa p8;have g0:w8.cell? ⟨gb,14,none⟩=some (.slice A4 l4.length z4):=a0.cell 14;have d4:w8.cell? ⟨gb,15,none⟩=some (.slice A5 l5.length z5):=a0.cell 15;have c1:=a0.lt;clear a0 f8 h8 p8;cases c8 with
  |false=>
   have a2:=b7.out λh=>by
    have h2:=h.2;rw[b0.out]at h2;simp only[Bool.and_eq_true,List.all_eq_true,decide_eq_true_eq]at h2;have:=g6.out.2 ⟨by have:=c5.out;have:=h.1;omega,h2.2.1⟩;cases this
   have a7:=zaa a2;clear a2;go_wp2;go_ret;exact⟨false,rfl,a9.out.fr.trans e9.out,a7.out,nofun⟩
  |true=>
  go_wp2_with fail;refine(k6.out w8 e9.out _ (l7.out trivial)).mono ?_;rintro e w9 ⟨c9,rfl,f9,h9,p9⟩;have a0:=b4.out.fr f9 (by have:=b2.out;omega);have e5:=zaa a0;have f2:=zaa (e9.out.trans f9);have g9:=zaa h9;have l9:=zaa p9;have d4:w9.cell? ⟨gb,15,none⟩=some (.slice A5 l5.length z5):=a0.cell 15;have c1:=a0.lt;clear a0 f9 h9 p9;cases c9 with
  |false=>
   have a2:=b7.out λh=>by
    have h2:=h.2;rw[b0.out]at h2;simp only[Bool.and_eq_true,List.all_eq_true,decide_eq_true_eq]at h2;have:=g9.out.2 ⟨by have:=c5.out;have:=h.1;omega,h2.2.2.1⟩;cases this
   have a7:=zaa a2;clear a2;go_wp2;go_ret;exact⟨false,rfl,a9.out.fr.trans f2.out,a7.out,nofun⟩
  |true=>
  go_wp2_with fail;refine(k4.out w9 f2.out _ (l9.out trivial)).mono ?_;rintro e q4 ⟨p0,rfl,d8,i5,g8⟩;have a0:=e5.out.fr d8 (by have:=b2.out;omega);have k3:=zaa a0;have c3:=zaa (f2.out.trans d8);have c7:=zaa i5;have f3:=zaa g8;have c1:=a0.lt;clear a0 d8 i5 g8;cases p0 with
  |false=>
   have a2:=b7.out λh=>by
    have h2:=h.2;rw[b0.out]at h2;simp only[Bool.and_eq_true,List.all_eq_true,decide_eq_true_eq]at h2;have:=c7.out.2 ⟨by have:=c5.out;have:=h.1;omega,h2.2.2.2⟩;cases this
   have a7:=zaa a2;clear a2;go_wp2;go_ret;exact⟨false,rfl,a9.out.fr.trans c3.out,a7.out,nofun⟩
  |true=>
  go_wp2_with fail;go_roundw
  case rel=>
   have a6:=f3.out trivial;have p1:=o1.out;have p6:=HQ.out;have p4:=c5.out;refine⟨j+1,hlt,by go_num,a9.out.fr.trans c3.out,?_,λy hy=>?_⟩
   .have e:p+ssT l (j+1)=q+1+(l3.map G.ssz).sum+(l4.map G.ssz).sum+(l5.map G.ssz).sum:=o_;rw[e];exact a6
   .rw[m3.out]at hy;rcases List.mem_append.1 hy with hy|hy
    .exact a9.out.ok y hy
    .simp only[List.mem_singleton]at hy;subst hy;rw[b0.out];have h3:=(g6.out.1 trivial).2;have h4:=(g9.out.1 trivial).2;have h5:=(c7.out.1 trivial).2;have h6:=n5.out;simp only[Bool.and_eq_true,List.all_eq_true,decide_eq_true_eq];exact⟨⟨by omega,trivial,trivial⟩,h3,h4,h5⟩
  case measure=>simp[intOf];omega
theorem zwr (g:G):zth g:=by
 induction g using G.ind with
 |h c subs ih=>
  intro A l hm w lo hi L p cap hrow hL hp;exact zjf l (λx hx=>ih A l hm x hx) w lo hi L p A cap hrow hL hp
theorem zn9 (l:List G) (w:World) (lo hi L p:Nat) (A:Option Addr) (cap:Nat) (hrow:CdRow w lo hi A cap l) (hL:hi<=L) (hp:LitPre L p w):Calls Tryz.prog 210 #[.slice A l.length cap,.pointer (some ⟨L,0,none⟩)] w (SmP L p l w):=
 zjf l (λx _=>zwr x) w lo hi L p A cap hrow hL hp
def Tg.bar (x:Tg):Tg:=
 if x.kind=1 then⟨x.kind,x.home,x.v,none,0,[],0,0,0,0,0,false,none,0,[],none,0,[]⟩else
 if x.kind=2\/x.kind=4 then⟨x.kind,x.home,T.zero,x.VA,x.vc,x.vs,0,0,0,0,0,false,none,0,[],none,0,[]⟩else
 if x.kind=3 then⟨x.kind,x.home,T.zero,none,0,[],x.n,0,0,0,0,false,none,0,[],none,0,[]⟩else
 if x.kind=6\/x.kind=11 then⟨x.kind,x.home,T.zero,none,0,[],0,0,x.ofr,0,0,false,none,0,[],none,0,[]⟩else
 if x.kind=7 then⟨x.kind,x.home,x.v,none,0,[],0,0,x.ofr,0,0,false,none,0,[],none,0,[]⟩else
 if x.kind=8 then⟨x.kind,x.home,T.zero,none,0,[],x.n,x.lost,0,0,0,false,none,0,[],none,0,[]⟩else
 if x.kind=9 then⟨x.kind,x.home,T.zero,none,0,[],x.n,0,x.ofr,0,0,false,none,0,[],none,0,[]⟩else
 if x.kind=10 then⟨x.kind,x.home,x.v,none,0,[],0,0,0,0,0,x.full,none,0,[],none,0,[]⟩else
 if x.kind=12 then⟨x.kind,x.home,T.zero,none,0,[],0,0,0,0,0,false,x.CA,x.cc,x.code,x.NA,x.nc,x.names⟩else
 if x.kind=13 then⟨x.kind,x.home,T.zero,none,0,[],0,0,x.ofr,0,0,x.full,none,0,[],none,0,[]⟩else
 if x.kind=15\/x.kind=16 then⟨x.kind,x.home,T.zero,none,0,[],0,0,x.ofr,x.byr,0,false,none,0,[],none,0,[]⟩else
 if x.kind=14 then⟨x.kind,0,T.zero,none,0,[],0,0,x.ofr,0,x.set,false,none,0,[],none,0,[]⟩else
 ⟨x.kind,x.home,T.zero,none,0,[],0,0,0,0,0,false,none,0,[],none,0,[]⟩
theorem zws {c:Prop} [Decidable c] {a b:Tg} {a' b':Array Value} (h1:a.cells.toArray=a') (h2:b.cells.toArray=b'):(if c then a else b).cells.toArray=if c then a' else b':=by
 split
 .exact h1
 .exact h2
theorem zoa (kind home k n:Int) (s:ByteArray) (A:Option Addr) (cap:Nat) (l:List T) (r:Int) (VA:Option Addr) (vc:Nat) (vs:List T) (n1 lost ofr byr set:Int) (full:Bool) (CA:Option Addr) (cc:Nat) (code:List G) (NA:Option Addr) (nc:Nat) (names:List Nm):
 (Tg.bar ⟨kind,home,T.mk k n s A cap l r,VA,vc,vs,n1,lost,ofr,byr,set,full,CA,cc,code,NA,nc,names⟩).cells.toArray=zbv kind home k n s A l.length cap r VA vs.length vc n1 lost ofr byr set full CA code.length cc NA names.length nc:=by
 unfold Tg.bar zbv;dsimp only;repeat(refine zws rfl ?_)
 rfl
def Tg.Bad1 (x b:Tg):Prop:=x.kind=0\/16<x.kind\/x.n≠b.n\/x.lost≠b.lost\/x.ofr≠b.ofr\/x.byr≠b.byr\/x.set≠b.set\/x.full≠b.full\/x.home≠b.home
def Tg.Bad2 (x b:Tg):Prop:=x.vs.length≠b.vs.length\/x.code.length≠b.code.length\/x.names.length≠b.names.length\/(zb7 b.v.v=true/\zb7 x.v.v=false)
def Tg.Bad3 (sides:Nat) (x:Tg):Prop:=(x.kind≠14/\¬(0<=x.home/\x.home<(sides:Int)))\/x.v.v.may=false
def Tg.Bad4 (x:Tg):Prop:=(ofV (x.vs.map T.v)).2≠0\/64<x.names.length
def Tg.Bad5 (x:Tg):Prop:=∃y∈x.names,y.2.v.may=false
def Tg.Last (x:Tg):Prop:=
 ((x.kind=3\/x.kind=8\/x.kind=9)->0<=x.n/\x.n<=9007199254740992/\0<=x.lost/\x.lost<=x.n)/\
 (x.kind=10->x.full=true\/zb7 x.v.v=true)/\
 (x.kind=12->(x.code.map G.ssz).sum<=512/\∀y∈x.code,y.sok=true)/\
 (x.kind=14->x.set<=63)
def Tg.Form (sides:Nat) (x:Tg):Prop:=¬x.Bad1 x.bar/\¬x.Bad2 x.bar/\¬x.Bad3 sides/\¬x.Bad4/\¬x.Bad5/\x.Last
theorem Tg.Form.may {sides:Nat} {x:Tg} (h:x.Form sides):x.v.v.may=true:=by
 have:=h.2.2.1;cases hm:x.v.v.may with
 |true=>rfl
 |false=>exact absurd (.inr hm) this
theorem Tg.Form.mays {sides:Nat} {x:Tg} (h:x.Form sides):∀y∈x.names,y.2.v.may=true:=by
 intro y hy;have:=h.2.2.2.2.1;cases hm:y.2.v.may with
 |true=>rfl
 |false=>exact absurd ⟨y,hy,hm⟩ this
end Go.Proofs.YtlejelbefmkakaaGreat

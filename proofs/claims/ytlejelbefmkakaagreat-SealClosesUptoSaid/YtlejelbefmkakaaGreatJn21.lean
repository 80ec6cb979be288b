/- Texts joined: Gd, Gl, I0, I2. -/
import Derived.Test.YtlejelbefmkakaaGreatJn1
import Derived.Test.YtlejelbefmkakaaGreatJn11
import Derived.Test.YtlejelbefmkakaaGreatJn15
import Derived.Test.YtlejelbefmkakaaGreatJn16
import Derived.Test.YtlejelbefmkakaaGreatJn17
import Derived.Test.YtlejelbefmkakaaGreatJn18
import Derived.Test.YtlejelbefmkakaaGreatJn19
import Derived.Test.YtlejelbefmkakaaGreatJn20
import Derived.Deep.RegionHeld3
set_option maxHeartbeats 4000000
set_option maxRecDepth 100000
namespace Go.Proofs.YtlejelbefmkakaaGreat
open Go.RowKit
theorem zrg (kind home k n:Int) (s:ByteArray) (A:Option Addr) (len cap:Nat) (r:Int) (VA:Option Addr) (vl vc:Nat) (n1 lost ofr byr set:Int) (full:Bool) (CA:Option Addr) (cl cc:Nat) (NA:Option Addr) (nl nc:Nat) (W:World):
 Calls Tryz.prog 207 #[.agg (c16 kind home k n s A len cap r VA vl vc n1 lost ofr byr set full CA cl cc NA nl nc)] W λe w'=>e= .returned (.agg (zbv kind home k n s A len cap r VA vl vc n1 lost ofr byr set full CA cl cc NA nl nc))/\Fr No W w':=by
 by_cases a4:kind=1\/kind=2\/kind=4\/kind=3
 .exact zrh kind home k n s A len cap r VA vl vc n1 lost ofr byr set full CA cl cc NA nl nc W a4
 by_cases a1:kind=6\/kind=11\/kind=7
 .exact zri kind home k n s A len cap r VA vl vc n1 lost ofr byr set full CA cl cc NA nl nc W a1
 by_cases a0:kind=8\/kind=9
 .exact zrj kind home k n s A len cap r VA vl vc n1 lost ofr byr set full CA cl cc NA nl nc W a0
 by_cases a3:kind=10\/kind=12
 .exact zrk kind home k n s A len cap r VA vl vc n1 lost ofr byr set full CA cl cc NA nl nc W a3
 by_cases a2:kind=13\/kind=15
 .exact zrl kind home k n s A len cap r VA vl vc n1 lost ofr byr set full CA cl cc NA nl nc W a2
 refine zrm kind home k n s A len cap r VA vl vc n1 lost ofr byr set full CA cl cc NA nl nc W ?_;omega
structure LitPre (L p:Nat) (w:World):Prop where
 cell:w.cell? ⟨L,0,none⟩=some (.int .i64 (p:Int))
 free:w.frozen? ⟨L,0,none⟩=false
 lt:L<w.heap.size
 le:p<=512
def zwt (g:G):Prop:=∀(w:World) (lo hi L p d:Nat),g.In w lo hi->hi<=L->LitPre L p w->d<=16->Calls Tryz.prog 256 #[.agg g.c.toArray,.pointer (some ⟨L,0,none⟩),.int .i64 (d:Int)] w (zx8 L p d g w)
theorem LitPre.no {L p:Nat} {w w':World} (h:LitPre L p w) (f:Fr No w w'):LitPre L p w':=⟨(f.cell h.lt λh=>h).trans h.cell,(f.frozen h.lt λh=>h).trans h.free,Nat.lt_of_lt_of_le h.lt f.size,h.le⟩
theorem G.eok_iff {g:G} {p d:Nat}:g.eok p d=true↔g.esz<=p/\g.edp<=d:=by simp[G.eok]
theorem zob {g:G} (hC:zwt g) (hty:Ty 308 g) (w:World) (lo hi L p d b1 b2:Nat) (hin:g.In w lo hi) (hL:hi<=L) (hp:LitPre L p w) (hd:d<=15)
 (h1:Blk w b1 210 #[.pointer (some ⟨L,0,none⟩)]) (h2:Blk w b2 3 #[.int .i64 ((d:Int)+1)]):
 Calls Tryz.prog 277 #[.agg g.c.toArray,.pointer (some ⟨b1,0,none⟩),.pointer (some ⟨b2,0,none⟩)] w λe w'=>e= .returned (.bool (!g.eok (512 - p) d))/\Fr (· =L) w w'/\(g.eok (512 - p) d=true->w'.cell? ⟨L,0,none⟩=some (.int .i64 ((p+g.esz:Nat):Int))/\w'.frozen? ⟨L,0,none⟩=false):=by
 obtain⟨k,n,s,A,cap,l,rfl,-,-⟩:=za3 hty;have hf:=(Fr.refl No w).alloc (.cells #[.int .u8 k,.int .i64 n,.string s,.slice A l.length cap] 308);have hb:=Blk.new w 308 #[.int .u8 k,.int .i64 n,.string s,.slice A l.length cap];have a0:hi<=w.heap.size:=by have:=hp.lt;omega
 have hc:=hC _ lo hi L p d (hin.no hf a0) hL (hp.no hf) o_;unfold zx8 at hc;generalize (G.mk [.int .u8 k,.int .i64 n,.string s,.slice A l.length cap] [(A,l)]).eok (512 - p) d=q at*;generalize hz:(G.mk [.int .u8 k,.int .i64 n,.string s,.slice A l.length cap] [(A,l)]).esz=z at*;have c0:w.cell? ⟨b1,0,none⟩=some (.pointer (some ⟨L,0,none⟩)):=h1.cell 0;have q0:=h1.lt;have c1:w.cell? ⟨b2,0,none⟩=some (.int .i64 ((d:Int)+1)):=h2.cell 0;have q1:=h2.lt;have hw:IntKind.i64.wrap ((d:Int)+1 - 1)=(d:Int):=by rw[show(d:Int)+1 - 1=(d:Int) by omega];exact IntWalk.i64_in _ o_
 have HC:=zaa hc;have HF:=zaa hf;clear hc hf hb h1 h2 hp hin hC hty;show Calls Tryz.prog 277 #[.agg #[.int .u8 k,.int .i64 n,.string s,.slice A l.length cap],.pointer (some ⟨b1,0,none⟩),.pointer (some ⟨b2,0,none⟩)] w _;go_enter Tryz.func277,Tryz.ntmps277;go_wp2_with fail;refine HC.out.mono ?_;rintro e w' ⟨rfl,f,hy⟩;go_wp2;go_ret;exact⟨rfl,HF.out.no.trans f,hy⟩
theorem zrq (l:List G):esT l 0=0:=by simp[esT]
structure LitI (L q d:Nat) (l:List G) (w:World) (j:Nat) (wr:World):Prop where
 fr:Fr (· =L) w wr
 pre:LitPre L (q+esT l j) wr
 dp:∀x∈l.take j,x.edp<=d
theorem zrr {l:List G} (hC:∀x∈l,zwt x) (hty:∀x∈l,Ty 308 x) (w:World) (lo hi L q d b1 b2:Nat) (A:Option Addr) (cap:Nat) (hin:(G.row A l).In w lo hi) (hL:hi<=L) (hp:LitPre L q w) (hd:d<=15)
 (h1:Blk w b1 210 #[.pointer (some ⟨L,0,none⟩)]) (h2:Blk w b2 3 #[.int .i64 ((d:Int)+1)]) (hne:b1≠L/\b2≠L) (hlen:l.length*56<=140737488351232):
 Calls Tryz.prog 284 #[.slice A l.length cap,.func (.func 277) #[] #[.pointer (some ⟨b1,0,none⟩),.pointer (some ⟨b2,0,none⟩)]] w λe w'=>Fr (· =L) w w'/\∃z:Int,e= .returned (.int .i64 z)/\
  ((0<=z/\¬(q+(l.map G.esz).sum<=512/\∀x∈l,x.edp<=d))\/(z= -1/\(∀x∈l,x.edp<=d)/\LitPre L (q+(l.map G.esz).sum) w')):=by
 have b0:LitI L q d l w 0 w:=⟨Fr.refl _ w,by rw[zrq];exact hp,by simp⟩;have c6:=zaa b0;have HC:=zaa λ(x:G) (hx:x∈l) (w':World) (f:Fr (· =L) w w') (p:Nat) (hp':LitPre L p w')=>zob (hC x hx) (hty x hx) w' lo hi L p d b1 b2 (((G.row_in.1 hin).2 x hx).fr f (by have:=hp.lt;omega) λi h0 h1 h=>by have h':i=L:=h;omega) hL hp' hd (h1.fr f hne.1) (h2.fr f hne.2);have HR:=zaa λ(w':World) (f:Fr (· =L) w w')=>hin.fr f (by have:=hp.lt;omega) λi h0 h1 h=>by have h':i=L:=h;omega
 have c5:=zaa hty;clear b0 hC hty hin hp h1 h2;go_enter Tryz.func284,Tryz.ntmps284;go_wp2_with fail;go_loopw [8] (λi wr=>∃j:Nat,j<=l.length/\i= .int .i64 j/\LitI L q d l w j wr) (λi _=>l.length - (intOf i).toNat)
 case atStart=>exact⟨0,Nat.zero_le _,rfl,c6.out⟩
 case round=>
  obtain⟨j,hj,rfl,inv⟩:=hrel;by_cases hlt:j<l.length
  .obtain⟨b,o,rfl,c7,c9,-,a5⟩:=G.row_at (HR.out wr inv.fr) hlt;have hc:=HC.out l[j] (List.getElem_mem hlt) wr inv.fr _ inv.pre;have b5:=zrz l j hlt;have b6:=zw2 l (j+1);have b7:l.take (j+1)=l.take j++[l[j]]:=by rw[List.take_succ_eq_append_getElem hlt]
   have a6:l[j]∈l:=List.getElem_mem hlt;obtain⟨k1,n1,s1,A1,a1,l1,hx,-,-⟩:=za3 (c5.out _ (List.getElem_mem hlt));generalize l[j]=y at*;subst hx;have x0:wr.cell? ⟨b,o+j*4,none⟩=some (.int .u8 k1):=a5 0 _ rfl;have x1:wr.cell? ⟨b,o+j*4+1,none⟩=some (.int .i64 n1):=a5 1 _ rfl;have x2:wr.cell? ⟨b,o+j*4+2,none⟩=some (.string s1):=a5 2 _ rfl;have x3:wr.cell? ⟨b,o+j*4+3,none⟩=some (.slice A1 l1.length a1):=a5 3 _ rfl;have c8:b<wr.heap.size:=by have:=inv.pre.lt;omega
   have a3:Calls Tryz.prog 277 #[.agg #[.int .u8 k1,.int .i64 n1,.string s1,.slice A1 l1.length a1],.pointer (some ⟨b1,0,none⟩),.pointer (some ⟨b2,0,none⟩)] wr _:=hc;clear hc;have a0:=G.eok_iff (g:=G.mk [.int .u8 k1,.int .i64 n1,.string s1,.slice A1 l1.length a1] [(A1,l1)]) (p:=512 - (q+esT l j)) (d:=d);generalize c1:G.mk [.int .u8 k1,.int .i64 n1,.string s1,.slice A1 l1.length a1] [(A1,l1)]=y at*;have d0:=inv.pre.le;have a7:=zaa inv;have c3:=zaa b7;have a9:=zaa a6;have b4:=zaa b5;have c2:=zaa b6;clear a5 inv b7 a6 b5 b6 c1;cases hq:y.eok (512 - (q+esT l j)) d with
   |false=>
    rw[hq]at a3 a0;have a8:=zaa a3;have b8:¬(q+(l.map G.esz).sum<=512/\∀x∈l,x.edp<=d):=λ⟨g1,g2⟩=>by
     have:=g2 y a9.out;have h1:=b4.out;have h2:=c2.out;have h3:=a0.2 ⟨by omega,this⟩;cases h3
    have c4:=zaa b8;clear a3 a0 b8 hq;go_wp2_with fail;refine a8.out.mono ?_;rintro e w2 ⟨rfl,f2,-⟩;go_wp2;go_ret;exact⟨a7.out.fr.trans f2,_,rfl,.inl ⟨by omega,c4.out⟩⟩
   |true=>
    rw[hq]at a3 a0;have a8:=zaa a3;have a4:=a0.1 rfl;have HY:=zaa a4;clear a3 a0 a4 hq;go_wp2_with fail;refine a8.out.mono ?_;rintro e w2 ⟨rfl,f2,b9⟩;have b3:=zaa f2;have c0:=zaa (b9 s_);clear f2 b9;go_wp2;go_roundw
    case rel=>
     have h1:=b4.out;have h2:=HY.out;have h3:=c0.out;have a2:=a7.out;refine⟨j+1,hlt,by go_num,a2.fr.trans b3.out,⟨?_,h3.2,Nat.lt_of_lt_of_le a2.pre.lt b3.out.size,by omega⟩,λx hx=>?_⟩
     .rw[h3.1,h1,Nat.add_assoc]
     .rw[c3.out]at hx;rcases List.mem_append.1 hx with hx|hx
      .exact a2.dp x hx
      .simp at hx;subst hx;exact h2.2
    case measure=>simp[intOf];omega
  .obtain rfl:l.length=j:=o_;have a7:=zaa inv;clear inv;go_wp2;go_ret;have a2:=a7.out;refine⟨a2.fr,-1,rfl,.inr ⟨rfl,λx hx=>a2.dp x (by rw[List.take_of_length_le (Nat.le_refl _)];exact hx),?_⟩⟩;have:=a2.pre;rwa [zvb]at this
theorem zkj {l:List G} (hC:∀x∈l,zwt x) (hty:∀x∈l,Ty 308 x) (w:World) (lo hi L q d b1 b2:Nat) (A:Option Addr) (cap:Nat) (hin:(G.row A l).In w lo hi) (hL:hi<=L) (hp:LitPre L q w) (hd:d<=15)
 (h1:Blk w b1 210 #[.pointer (some ⟨L,0,none⟩)]) (h2:Blk w b2 3 #[.int .i64 ((d:Int)+1)]) (hne:b1≠L/\b2≠L) (hlen:l.length*56<=140737488351232):
 Calls Tryz.prog 276 #[.slice A l.length cap,.func (.func 277) #[] #[.pointer (some ⟨b1,0,none⟩),.pointer (some ⟨b2,0,none⟩)]] w λe w'=>Fr (· =L) w w'/\∃c:Bool,e= .returned (.bool c)/\
  ((c=true/\¬(q+(l.map G.esz).sum<=512/\∀x∈l,x.edp<=d))\/(c=false/\(∀x∈l,x.edp<=d)/\LitPre L (q+(l.map G.esz).sum) w')):=by
 have HI:=zaa (zrr hC hty w lo hi L q d b1 b2 A cap hin hL hp hd h1 h2 hne hlen);clear hC hty hin hp h1 h2;go_enter Tryz.func276,Tryz.ntmps276;go_wp2_with fail;refine HI.out.mono ?_;rintro e w2 ⟨f2,z,rfl,hz⟩;rcases hz with⟨h0,a0⟩|⟨rfl,hy⟩
 .have a1:decide ((0:Int)<=z)=true:=by simpa using h0
  have HN:=zaa a0;have HF:=zaa f2;clear a0 f2;go_wp2;go_ret;exact⟨HF.out,true,rfl,.inl ⟨rfl,HN.out⟩⟩
 .have HY:=zaa hy;have HF:=zaa f2;clear hy f2;go_wp2;go_ret;exact⟨HF.out,false,rfl,.inr ⟨rfl,HY.out⟩⟩
theorem zhv (g:G):Ty 308 g->zwt g:=by
 induction g using G.ind with
 |h c subs ih=>
  intro hty w lo hi L p d hin hL hp hd;obtain⟨k,n,s,A,cap,l,e,e8,hk⟩:=za3 hty;injection e with e1 e2
  subst e1 e2;have hC:∀x∈l,zwt x:=λx hx=>ih A l s_ x hx (hk x hx);have a8:=G.in_rows.1 hin A l s_;have c3:=G.esz_one [.int .u8 k,.int .i64 n,.string s,.slice A l.length cap] A l;have b4:=G.edp_one k [.int .i64 n,.string s,.slice A l.length cap] A l;have c5:=e8.len1;have g4:=hp.le;have hw:IntKind.i64.wrap ((p:Int)+1)=(p:Int)+1:=IntWalk.i64_in _ o_;unfold zx8;have a3:=G.eok_iff (g:=G.mk [.int .u8 k,.int .i64 n,.string s,.slice A l.length cap] [(A,l)]) (p:=512 - p) (d:=d);generalize hq:(G.mk [.int .u8 k,.int .i64 n,.string s,.slice A l.length cap] [(A,l)]).eok (512 - p) d=q at*;generalize hz:(G.mk [.int .u8 k,.int .i64 n,.string s,.slice A l.length cap] [(A,l)]).esz=z at*;rw[c3,b4]at a3;have c8:=((Blk.new w 308 #[.int .u8 k,.int .i64 n,.string s,.slice A l.length cap]).alloc (.cells #[.pointer (some ⟨L,0,none⟩)] 210)).alloc (.cells #[.int .i64 (d:Int)] 3);have e7:=(Blk.new' (w.alloc (.cells #[.int .u8 k,.int .i64 n,.string s,.slice A l.length cap] 308)) 210 #[.pointer (some ⟨L,0,none⟩)] (g:=w.heap.size+1) s_).alloc (.cells #[.int .i64 (d:Int)] 3);have d6:=Blk.new' ((w.alloc (.cells #[.int .u8 k,.int .i64 n,.string s,.slice A l.length cap] 308)).alloc (.cells #[.pointer (some ⟨L,0,none⟩)] 210)) 3 #[.int .i64 (d:Int)] (g:=w.heap.size+1+1) s_;have hf:=(((Fr.refl No w).alloc (.cells #[.int .u8 k,.int .i64 n,.string s,.slice A l.length cap] 308)).alloc (.cells #[.pointer (some ⟨L,0,none⟩)] 210)).alloc (.cells #[.int .i64 (d:Int)] 3);have d2:=hp.no hf;have g3:=hp.lt;have g0:L<=w.heap.size:=o_;have d9:=a8.no hf o_;have d8:=zaa c8;have b7:=zaa e7;have c9:=zaa d6;have HF:=zaa hf;have HP:=zaa hp;have HR:=zaa d9;have HC:=zaa hC;have d7:=zaa hk;have b8:=zaa d2;have a1:=zaa a3;have d1:=zaa c3;clear c8 e7 d6 hf hp d9 hC hk a8 hin hty ih c3 b4 a3 hq hz e8 d2;show Calls Tryz.prog 256 #[.agg #[.int .u8 k,.int .i64 n,.string s,.slice A l.length cap],.pointer (some ⟨L,0,none⟩),.int .i64 (d:Int)] w _;go_enter Tryz.func256,Tryz.ntmps256;go_upto_region 1 with(fail);generalize f1:World.alloc (World.alloc (World.alloc w _) _) _=W0 at*;have c0:=b8.out.cell;have cf:=b8.out.free;have cq:=b8.out.lt;have c1:W0.cell? ⟨w.heap.size+1,0,none⟩=some (.pointer (some ⟨L,0,none⟩)):=b7.out.cell 0;have q1:=b7.out.lt;go_upto_region 2 with(fail);have fs:Fr (· =L) W0 (W0.setCell ⟨L,0,none⟩ (.int .i64 ((p:Int)+1))):=(Fr.refl (· =L) W0).set (λ_=>rfl) _;have e3:Fr (· =L) w (W0.setCell ⟨L,0,none⟩ (.int .i64 ((p:Int)+1))):=HF.out.no.trans fs;have e0:(W0.setCell ⟨L,0,none⟩ (.int .i64 ((p:Int)+1))).cell? ⟨L,0,none⟩=some (.int .i64 ((p:Int)+1)):=by simp[go_sem, *]
  have ef:(W0.setCell ⟨L,0,none⟩ (.int .i64 ((p:Int)+1))).frozen? ⟨L,0,none⟩=false:=by simp[go_sem,cf]
  have f6:L<(W0.setCell ⟨L,0,none⟩ (.int .i64 ((p:Int)+1))).heap.size:=Nat.lt_of_lt_of_le cq fs.size;have b0:=d8.out.fr fs o_;have b1:=b7.out.fr fs o_;have b2:=c9.out.fr fs o_;have d5:=HR.out.fr fs (by have:=HF.out.size;omega) λi h0 h1 h=>by have h':i=L:=h;omega
  generalize World.setCell W0 _ _=W1 at*;have a0:=zaa e3;have e4:=zaa d5;have a7:=zaa b1;have a9:=zaa b2;have E:=zaa (And.intro e0 (And.intro ef f6));have d0:W1.cell? ⟨w.heap.size,0,none⟩=some (.int .u8 k):=b0.cell 0;have d3:W1.cell? ⟨w.heap.size,3,none⟩=some (.slice A l.length cap):=b0.cell 3;have dq:=b0.lt;have g1:W1.cell? ⟨w.heap.size+1,0,none⟩=some (.pointer (some ⟨L,0,none⟩)):=b1.cell 0;have f8:=b1.lt;have f9:W1.cell? ⟨w.heap.size+1+1,0,none⟩=some (.int .i64 (d:Int)):=b2.cell 0;have g2:=b2.lt;clear c0 cf cq c1 q1 fs e3 b0 b1 b2 d5 ef f1;by_cases b6:p=512
  .have hd:decide ((p:Int)+1 > 512)=true:=so_;have b3:q=false:=by
    cases q with
    |false=>rfl
    |true=>have:=(a1.out.1 rfl).1;omega
   subst b3;clear b6;go_wp2;go_ret;exact⟨rfl,a0.out,λh=>by cases h⟩
  .have hd:decide ((p:Int)+1 > 512)=false:=so_;by_cases b5:k≠3/\l=[]
   .obtain⟨a6,rfl⟩:=b5;have a2:(k !=3)=true:=by simp[a6]
    have c7:q=true:=a1.out.2 ⟨by simp;omega,by simp[a6]⟩;have f3:z=1:=by have:=d1.out;simpa using this
    subst c7 f3;clear b6;go_wp2;go_ret;exact⟨rfl,a0.out,E.out.1,E.out.2.1⟩
   .have a2:((k !=3)=false)\/((k !=3)=true/\((l.length:Int)==0)=false):=by
     by_cases a6:k=3
     .exact .inl (by simp[a6])
     .exact .inr ⟨by simp[a6],by have:l≠[]:=λh=>b5 ⟨a6,h⟩;have:=List.length_pos_iff.2 this;simp;omega⟩
    have b4:(if k≠3/\l=[]then 0 else 1+top (l.map G.edp))=1+top (l.map G.edp):=if_neg b5;have c6:=a1.out;rw[b4]at c6;have c2:=zaa c6;clear b4 c6 b5 a1;by_cases b9:d=0
    .have f5:((d:Int)==0)=true:=by simp[b9]
     have b3:q=false:=by
      cases q with
      |false=>rfl
      |true=>have:=(c2.out.1 rfl).2;omega
     subst b3;clear b6 b9;rcases a2 with a2|⟨a2,e9⟩;all_goals
      go_wp2;go_ret;first
       |exact⟨rfl,a0.out,λh=>by cases h⟩
       |exact a0.out
    .obtain⟨d',rfl⟩:∃d',d=d'+1:=⟨d - 1,by omega⟩;have f5:(((d'+1:Nat):Int)==0)=false:=so_;have d4:=zkj HC.out d7.out W1 lo hi L (p+1) d' (w.heap.size+1) (w.heap.size+1+1) A cap e4.out hL ⟨by rw[E.out.1];simp,E.out.2.1,E.out.2.2,by omega⟩ o_ a7.out (by have:=a9.out;simpa using this) o_ c5;have f7:=zaa d4;clear d4 b6 b9 HC d7 e4 a7 a9 HR d8 b7 c9 HP b8;rcases a2 with a2|⟨a2,e9⟩;all_goals
      go_wp2_with fail;refine f7.out.mono ?_;rintro e w2 ⟨f2,cc,rfl,hz⟩;rcases hz with⟨rfl,e5⟩|⟨rfl,e6,a4⟩
      .have b3:q=false:=by
        cases q with
        |false=>rfl
        |true=>
         have h1:=c2.out.1 rfl;exact absurd ⟨by omega,λx hx=>by have:=zhk (List.mem_map_of_mem (f:=G.edp) hx);omega⟩ e5
       subst b3;have a5:=zaa f2;clear e5 f2;go_wp2;go_ret;first
        |exact⟨rfl,a0.out.trans a5.out,λh=>by cases h⟩
        |exact a0.out.trans a5.out
      .have c4:top (l.map G.edp)<=d':=zmh λy hy=>by
        obtain⟨x,hx,rfl⟩:=List.mem_map.1 hy;exact e6 x hx
       have f0:=a4.le;have c7:q=true:=c2.out.2 ⟨by omega,by omega⟩;subst c7;have a5:=zaa f2;have f4:=zaa a4;clear a4 f2 e6 c4 f0;go_wp2;go_ret;have h1:=f4.out;have h2:=d1.out;have e:p+1+(l.map G.esz).sum=p+z:=o_;rw[e]at h1;have h3:=h1.cell;have h4:=h1.free;first
        |exact⟨rfl,a0.out.trans a5.out,λ_=>⟨h3,h4⟩⟩
        |exact⟨rfl,a0.out.trans a5.out,by simpa using h3,h4⟩
        |exact⟨a0.out.trans a5.out,by simpa using h3,h4⟩
end Go.Proofs.YtlejelbefmkakaaGreat
namespace Go.Proofs.YtlejelbefmkakaaGreat
section
variable {P:Program} {ops:Array Oper} {Q:Exit->Act->World->Prop} {md:Region.Mode}
def upd (f:Nat->Bool) (i:Nat):Nat->Bool:=λj=>j==i||f j
def unl (l:List Bool):Nat:=(l.filter λb=> !b).length
theorem zop:∀(l:List Bool) (i:Nat),l[i]? =some false->unl (l.set i true)+1=unl l
 |[],_,h=>by simp at h
 |b::l,0,h=>by simp at h;subst h;simp[unl]
 |b::l,i+1,h=>by
  have:=zop l i (by simpa using h);cases b<;>simp[unl]at this ⊢ <;>omega
theorem zly:∀(l:List Bool) (i:Nat),unl l=0->l[i]? =some false->False
 |[],_,_,h=>by simp at h
 |b::l,0,hz,h=>by simp at h;subst h;simp[unl]at hz
 |b::l,i+1,hz,h=>by
  refine zly l i ?_ (by simpa using h);cases b<;>simp[unl]at hz ⊢;exact hz
theorem zoq {listed:Array Bool} (hfw:(List.range ops.size).all (λi=>((ops[i]?).map λo=>o.after.all λe=> !Region.binds md e||decide (e.on<i)).getD true)=true) (h:Region.ready md ops listed=[]) (hs:listed.size=ops.size):
 ∀i,i<ops.size->listed.getD i false=true:=by
 intro i;induction i using Nat.strongRecOn with
 |ind i ih=>
  intro hi;cases hl:listed.getD i false with
  |true=>rfl
  |false=>
   exfalso;have a0:i<listed.size:=o_;have hm:i∈Region.ready md ops listed:=by
    rw[mem_ready];refine⟨?_,ops[i],Array.getElem?_eq_getElem hi,λe he hbd=>?_⟩
    .simp only[Array.getD,a0,dif_pos]at hl ⊢;exact hl
    .have h1:=List.all_eq_true.1 hfw i (List.mem_range.2 hi);rw[Array.getElem?_eq_getElem hi]at h1;simp only[Option.map_some,Option.getD_some,Array.all_eq_true_iff_forall_mem]at h1;have h2:e.on<i:=by have:=h1 e he;rw[hbd]at this;simpa using this
     exact ih e.on h2 o_
   rw[h]at hm;cases hm
theorem zor (I:(Nat->Bool)->Act->World->Prop) (hfw:(List.range ops.size).all (λi=>((ops[i]?).map λo=>o.after.all λe=> !Region.binds md e||decide (e.on<i)).getD true)=true)
 (hstep:∀(i:Nat) (o:Oper) (f:Nat->Bool) (a:Act) (w:World),ops[i]? =some o->f i=false->(∀e∈o.after,Region.binds md e=true->f e.on=true)->I f a w->
  ∀K':Act->World->Prop,Shut (∀a w,I (upd f i) a w->K' a w)->if Region.wanted o (yielded ops a.tmps)=true then Oper.wp P o a w K' Q else K' (a.put o.dst undef) w)
 (hend:∀(f:Nat->Bool) (a:Act) (w:World),(∀i,i<ops.size->f i=true)->I f a w->Q .normal a w):
 ∀(fuel:Nat) (listed:Array Bool) (a:Act) (w:World),listed.size=ops.size->unl listed.toList<=fuel->I (λj=>listed.getD j false) a w->wpAny P md ops Q fuel listed a w:=by
 have a1:∀(listed:Array Bool) (a:Act) (w:World),listed.size=ops.size->I (λj=>listed.getD j false) a w->Region.ready md ops listed=[]->Q .normal a w:=λlisted a w hs hI hr=>
  hend _ a w (zoq hfw hr hs) hI
 intro fuel;induction fuel with
 |zero=>
  intro listed a w hs hu hI;have hr:Region.ready md ops listed=[]:=by
   refine List.eq_nil_iff_forall_not_mem.2 λj hj=>?_;obtain⟨h1,o,ho,-⟩:=mem_ready.1 hj;have a6:=(Array.getElem?_eq_some_iff.1 ho).1;refine zly listed.toList j o_ ?_;have a4:j<listed.size:=o_;simp only[Array.getD,a4,dif_pos]at h1;rw[Array.getElem?_toList,Array.getElem?_eq_getElem a4];exact congrArg some h1
  exact⟨hr,a1 listed a w hs hI hr⟩
 |succ fuel ih=>
  intro listed a w hs hu hI;refine⟨a1 listed a w hs hI,λi hi=>?_⟩;obtain⟨h1,o,ho,hd⟩:=mem_ready.1 hi;have a5:=(Array.getElem?_eq_some_iff.1 ho).1;have a2:i<listed.size:=o_;have a0:listed[i]? =some false:=by
   simp only[Array.getD,a2,dif_pos]at h1;rw[Array.getElem?_eq_getElem a2];exact congrArg some h1
  have hf:listed.getD i false=false:=by
   simp only[Array.getD,a2,dif_pos]at h1 ⊢;exact h1
  refine wpOp_step ho λK' hK=>hstep i o _ a w ho hf (λe he hb=>hd e he hb) hI K' λa' w' hI'=>hK a' w' ?_;refine ih (listed.setIfInBounds i true) a' w' (by simpa using hs) ?_ ?_
  .have:=zop listed.toList i (by rw[Array.getElem?_toList];exact a0);rw[Array.toList_setIfInBounds];omega
  .have he:(λj=>(listed.setIfInBounds i true).getD j false)=upd (λj=>listed.getD j false) i:=by
    funext j
    simp only[upd,Array.getD_eq_getD_getElem?,Array.getElem?_setIfInBounds];by_cases a3:i=j
    .subst a3;simp[a2]
    .have:¬j=i:=λh=>a3 h.symm;simp[a3,this]
   rw[he];exact hI'
theorem zbb {id:Nat} {a0:Act} {w0:World} (I:Act->(Nat->Bool)->Act->World->Prop) (hm:P.follows .mixedOrders=true) (hfw:(List.range ops.size).all (λi=>((ops[i]?).map λo=>o.after.all λe=> !Region.binds .any e||decide (e.on<i)).getD true)=true)
 (hst:I a0 (λ_=>false) a0 w0.drew)
 (hstep:∀(i:Nat) (o:Oper) (f:Nat->Bool) (a:Act) (w:World),ops[i]? =some o->f i=false->(∀e∈o.after,Region.binds .any e=true->f e.on=true)->I a0 f a w->
  ∀K':Act->World->Prop,Shut (∀a w,I a0 (upd f i) a w->K' a w)->if Region.wanted o (yielded ops a.tmps)=true then Oper.wp P o a w K' Q else K' (a.put o.dst undef) w)
 (hend:∀(f:Nat->Bool) (a:Act) (w:World),(∀i,i<ops.size->f i=true)->I a0 f a w->Q .normal a w):(Code.region id ops true).wp P Q a0 w0:=by
 refine wp_region_any hm (zor (I a0) hfw hstep hend _ _ _ _ s_ ?_ ?_)
 .have:∀n,unl (List.replicate n false)=n:=λn=>by
   induction n with
   |zero=>rfl
   |succ n ih=>simp only[unl,List.replicate_succ]at ih ⊢;simp
  rw[Array.toList_replicate,this];exact Nat.le_refl _
 .have he:(λj=>(Array.replicate ops.size false).getD j false)=λ_=>false:=by
   funext j
   simp only[Array.getD_eq_getD_getElem?,Array.getElem?_replicate];split<;>rfl
  rw[he];exact hst
end
structure RcS (β:Type) where
 cs:Nat->Bool
 ss:Nat->Bool
 dep:Nat->Nat->Bool
 E:(Nat->β)->Nat->Value
 P:Nat->β->Nat->World->Prop
 M:(Nat->Bool)->(Nat->β)->World->World
structure RcS.Ok {β:Type} (S:RcS β):Prop where
 hE:∀(r r':Nat->β) (j:Nat),(∀c,S.cs c=true->(S.dep j c=true\/c=j)->r c=r' c)->S.E r j=S.E r' j
 hP:∀c b lo (w w':World),S.P c b lo w->Fr No w w'->S.P c b lo w'
 hM0:∀f r w,(∀i,S.ss i=true->f i=false)->S.M f r w=w
 hMq:∀f i r w,S.ss i=false->S.M (upd f i) r w=S.M f r w
 hw:∀s c,S.ss s=true->S.cs c=true->S.dep s c=true
structure RcI {β:Type} (S:RcS β) (w0:World) (f:Nat->Bool) (xs:List Value) (r:Nat->β) (w:World):Prop where
 x:∀i,f i=true->S.ss i=false->xs.getD i undef=S.E r i
 d:∀j c,S.dep j c=true->f j=true->f c=true
 m:∃w3,Fr No w0 w3/\(∀c,S.cs c=true->f c=true->S.P c (r c) w0.heap.size w3)/\w=S.M f r w3
theorem zac {md:Region.Mode} {o:Oper} {f:Nat->Bool} (hd:∀e∈o.after,Region.binds md e=true->f e.on=true) {c:Nat} (h:(o.after.toList.any λe=>Region.binds md e&&e.on==c)=true):f c=true:=by
 rw[List.any_eq_true]at h;obtain⟨e,he,h1⟩:=h;have he:=Array.mem_toList_iff.1 he;rw[Bool.and_eq_true]at h1;have h2:e.on=c:=by simpa using h1.2
 rw[<-h2];exact hd e he h1.1
theorem zos {x:List Value} {i:Nat} {u:Value} (h:i<x.length):(x.set i u).getD i undef=u:=by simp[List.getD_eq_getElem?_getD,h]
theorem zot {x:List Value} {i j:Nat} {u:Value} (h:j≠i):(x.set i u).getD j undef=x.getD j undef:=by
 rw[List.getD_eq_getElem?_getD,List.getD_eq_getElem?_getD,List.getElem?_set_ne (λe=>h e.symm)]
section
variable {β:Type} {S:RcS β} {w0 w:World} {f:Nat->Bool} {xs:List Value} {r:Nat->β}
theorem zco {i j:Nat} (h:upd f i j=true):j=i\/f j=true:=by simp[upd]at h;exact h
theorem RcI.begin (hS:S.Ok) (w0:World) (xs:List Value) (r:Nat->β):RcI S w0 (λ_=>false) xs r w0.drew:=
 ⟨nofun,nofun,w0.drew,(Fr.refl _ w0).drew,nofun,(hS.hM0 _ _ _ λ_ _=>rfl).symm⟩
theorem RcI.fr (hS:S.Ok) (h:RcI S w0 f xs r w) (hn:∀i,S.ss i=true->f i=false):Fr No w0 w:=by
 obtain⟨w3,h1,-,rfl⟩:=h.m;rw[hS.hM0 _ _ _ hn];exact h1
theorem RcI.none (h:RcI S w0 f xs r w) {i:Nat} (hf:f i=false) (hw:∀s,S.ss s=true->S.dep s i=true):∀s,S.ss s=true->f s=false:=λs hs=>by
 cases q:f s with
 |false=>rfl
 |true=>rw[h.d s i (hw s hs) q]at hf;cases hf
theorem RcI.quiet (hS:S.Ok) (h:RcI S w0 f xs r w) {i:Nat} (hc:S.cs i=false) (hs:S.ss i=false) (hx:i<xs.length) (hd:∀c,S.dep i c=true->f c=true):RcI S w0 (upd f i) (xs.set i (S.E r i)) r w:=by
 refine⟨λj hj hjs=>?_,λj c hjc hj=>?_,?_⟩
 .by_cases a1:j=i
  .subst a1;exact zos hx
  .rw[zot a1];exact h.x j ((zco hj).resolve_left a1) hjs
 .rcases zco hj with rfl|hj
  .have:=hd c hjc;simp[upd,this]
  .have:=h.d j c hjc hj;simp[upd,this]
 .obtain⟨w3,h1,h2,h3⟩:=h.m;refine⟨w3,h1,λc hcs a0=>?_,by rw[hS.hMq _ _ _ _ hs];exact h3⟩;rcases zco a0 with rfl|a0
  .rw[hc]at hcs;cases hcs
  .exact h2 c hcs a0
theorem RcI.call (hS:S.Ok) (h:RcI S w0 f xs r w) {i:Nat} (hf:f i=false) (hc:S.cs i=true) (hs:S.ss i=false) (hx:i<xs.length) (hd:∀c,S.dep i c=true->f c=true) {b:β} {w':World} (fw:Fr No w w') (hP:S.P i b w0.heap.size w'):
 RcI S w0 (upd f i) (xs.set i (S.E (λc=>if c=i then b else r c) i)) (λc=>if c=i then b else r c) w':=by
 have hn:=h.none hf λs hss=>hS.hw s i hss hc;refine⟨λj hj hjs=>?_,λj c hjc hj=>?_,?_⟩
 .by_cases a1:j=i
  .subst a1;exact zos hx
  .have a4:=(zco hj).resolve_left a1;rw[zot a1,h.x j a4 hjs];refine hS.hE _ _ j λc _ a0=>?_;have:c≠i:=λe=>by
    subst e;rcases a0 with a0|a0
    .rw[h.d j c a0 a4]at hf;cases hf
    .exact a1 a0.symm
   simp[this]
 .rcases zco hj with rfl|hj
  .have:=hd c hjc;simp[upd,this]
  .have:=h.d j c hjc hj;simp[upd,this]
 .obtain⟨w3,h1,h2,h3⟩:=h.m;have h4:w=w3:=by rw[h3,hS.hM0 _ _ _ hn]
  subst h4;refine⟨w',h1.trans fw,λc hcs hfc=>?_,?_⟩
  .by_cases a3:c=i
   .subst a3;simp;exact hP
   .have a2:=(zco hfc).resolve_left a3;simp only[if_neg a3];exact hS.hP _ _ _ _ _ (h2 c hcs a2) fw
  .rw[hS.hMq _ _ _ _ hs,hS.hM0 _ _ _ hn]
theorem RcI.store (h:RcI S w0 f xs r w) {i:Nat} (hs:S.ss i=true) (hc:S.cs i=false) (hd:∀c,S.dep i c=true->f c=true) {w':World} (hM:∀w3,w=S.M f r w3->w'=S.M (upd f i) r w3):RcI S w0 (upd f i) xs r w':=by
 refine⟨λj hj hjs=>?_,λj c hjc hj=>?_,?_⟩
 .by_cases a1:j=i
  .subst a1;rw[hs]at hjs;cases hjs
  .exact h.x j ((zco hj).resolve_left a1) hjs
 .rcases zco hj with rfl|hj
  .have:=hd c hjc;simp[upd,this]
  .have:=h.d j c hjc hj;simp[upd,this]
 .obtain⟨w3,h1,h2,h3⟩:=h.m;refine⟨w3,h1,λc hcs a0=>?_,hM w3 h3⟩;rcases zco a0 with rfl|a0
  .rw[hc]at hcs;cases hcs
  .exact h2 c hcs a0
end
end Go.Proofs.YtlejelbefmkakaaGreat

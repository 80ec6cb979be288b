/- Texts joined: Gd1. -/
import Derived.Test.YtlejelbefmkakaaGreatJn1
import Derived.Test.YtlejelbefmkakaaGreatJn14
import Derived.Deep.Cut
import Derived.Deep.CutRange
import Derived.Deep.CutBlock
set_option maxHeartbeats 16000000
set_option maxRecDepth 100000
namespace Go.Proofs.YtlejelbefmkakaaGreat
open Go.RowKit
theorem zrh (kind home k n:Int) (s:ByteArray) (A:Option Addr) (len cap:Nat) (r:Int) (VA:Option Addr) (vl vc:Nat) (n1 lost ofr byr set:Int) (full:Bool) (CA:Option Addr) (cl cc:Nat) (NA:Option Addr) (nl nc:Nat) (W:World) (hk:kind=1\/kind=2\/kind=4\/kind=3):
 Calls Tryz.prog 207 #[.agg (c16 kind home k n s A len cap r VA vl vc n1 lost ofr byr set full CA cl cc NA nl nc)] W λe w'=>e= .returned (.agg (zbv kind home k n s A len cap r VA vl vc n1 lost ofr byr set full CA cl cc NA nl nc))/\Fr No W w':=by
 obtain⟨R,hR⟩:∃R,zbv kind home k n s A len cap r VA vl vc n1 lost ofr byr set full CA cl cc NA nl nc=R:=⟨_,rfl⟩;rw[hR];have HR:=zaa hR;clear hR;have c3:=((Blk.new W 138 (c16 kind home k n s A len cap r VA vl vc n1 lost ofr byr set full CA cl cc NA nl nc)).alloc (.cells (c16 0 0 0 0 ⟨#[]⟩ none 0 0 0 none 0 0 0 0 0 0 0 false none 0 0 none 0 0) 138)).alloc (.cells (c16 kind home 0 0 ⟨#[]⟩ none 0 0 0 none 0 0 0 0 0 0 0 false none 0 0 none 0 0) 138);have c1:=(Blk.new' (W.alloc (.cells (c16 kind home k n s A len cap r VA vl vc n1 lost ofr byr set full CA cl cc NA nl nc) 138)) 138 (c16 0 0 0 0 ⟨#[]⟩ none 0 0 0 none 0 0 0 0 0 0 0 false none 0 0 none 0 0) (g:=W.heap.size+1) s_).alloc (.cells (c16 kind home 0 0 ⟨#[]⟩ none 0 0 0 none 0 0 0 0 0 0 0 false none 0 0 none 0 0) 138);have e0:=Blk.new' ((W.alloc (.cells (c16 kind home k n s A len cap r VA vl vc n1 lost ofr byr set full CA cl cc NA nl nc) 138)).alloc (.cells (c16 0 0 0 0 ⟨#[]⟩ none 0 0 0 none 0 0 0 0 0 0 0 false none 0 0 none 0 0) 138)) 138 (c16 kind home 0 0 ⟨#[]⟩ none 0 0 0 none 0 0 0 0 0 0 0 false none 0 0 none 0 0) (g:=W.heap.size+1+1) s_;have e3:=(((Fr.refl No W).alloc (.cells (c16 kind home k n s A len cap r VA vl vc n1 lost ofr byr set full CA cl cc NA nl nc) 138)).alloc (.cells (c16 0 0 0 0 ⟨#[]⟩ none 0 0 0 none 0 0 0 0 0 0 0 false none 0 0 none 0 0) 138)).alloc (.cells (c16 kind home 0 0 ⟨#[]⟩ none 0 0 0 none 0 0 0 0 0 0 0 false none 0 0 none 0 0) 138);unfold c16 at c3 c1 e0 e3 ⊢;have e2:=zaa c3;have e1:=zaa c1;have c0:=zaa e0;have e8:=zaa e3;clear c3 c1 e0 e3;go_enter Tryz.func207,Tryz.ntmps207;go_upto_block 0 with(fail);generalize h3:World.alloc (World.alloc (World.alloc W _) _) _=W0 at*;obtain⟨d0,d1,d2,d3,d4,d5,d6,d7,d8,d9,f4,f7,g2,g0,f3,f2,dz,dq⟩:=e2.out.c16s;go_cut []from 11 to 98 (λwx=>Blk wx (W.heap.size+1+1) 138 R/\Fr (λi=>i=W.heap.size+1+1) W0 wx)
 case first=>
  obtain⟨b0,b1,b2,b3,b4,b5,b6,b7,b8,b9,g4,h7,g3,i0,h8,g7,bz,bq⟩:=c0.out.c16s;clear e2 e1 e8;by_cases f8:kind=1
  case pos=>
   subst f8;have a0:c16 1 home k n s A len cap r none 0 0 0 0 0 0 0 false none 0 0 none 0 0=R:=by rw[<-HR.out];simp[zbv]
   subst a0;clear HR;go_wp2_with fail;all_goals
    go_meet;refine⟨zcr (Blk.set_ (Blk.set_ (Blk.set_ (Blk.set_ (Blk.set_ (c0.out) _ _) _ _) _ _) _ _) _ _) (by simp only[List.setIfInBounds_toArray,List.set_cons_zero,List.set_cons_succ,c16]),?_⟩;repeat(first|with_reducible exact Fr.refl _ W0|with_reducible refine Fr.drew ?_ |with_reducible refine Fr.set ?_ s_ _)
  by_cases f1:kind=2
  case pos=>
   subst f1;have a0:c16 2 home 0 0 ⟨#[]⟩ none 0 0 0 VA vl vc 0 0 0 0 0 false none 0 0 none 0 0=R:=by rw[<-HR.out];simp[zbv]
   subst a0;clear HR;go_wp2_with fail;all_goals
    go_meet;refine⟨zcr (Blk.set_ (c0.out) _ _) (by simp only[List.setIfInBounds_toArray,List.set_cons_zero,List.set_cons_succ,c16]),?_⟩;repeat(first|with_reducible exact Fr.refl _ W0|with_reducible refine Fr.drew ?_ |with_reducible refine Fr.set ?_ s_ _)
  by_cases f5:kind=4
  case pos=>
   subst f5;have a0:c16 4 home 0 0 ⟨#[]⟩ none 0 0 0 VA vl vc 0 0 0 0 0 false none 0 0 none 0 0=R:=by rw[<-HR.out];simp[zbv]
   subst a0;clear HR;go_wp2_with fail;all_goals
    go_meet;refine⟨zcr (Blk.set_ (c0.out) _ _) (by simp only[List.setIfInBounds_toArray,List.set_cons_zero,List.set_cons_succ,c16]),?_⟩;repeat(first|with_reducible exact Fr.refl _ W0|with_reducible refine Fr.drew ?_ |with_reducible refine Fr.set ?_ s_ _)
  by_cases g1:kind=3
  case pos=>
   subst g1;have a0:c16 3 home 0 0 ⟨#[]⟩ none 0 0 0 none 0 0 n1 0 0 0 0 false none 0 0 none 0 0=R:=by rw[<-HR.out];simp[zbv]
   subst a0;clear HR;go_wp2_with fail;all_goals
    go_meet;refine⟨zcr (Blk.set_ (c0.out) _ _) (by simp only[List.setIfInBounds_toArray,List.set_cons_zero,List.set_cons_succ,c16]),?_⟩;repeat(first|with_reducible exact Fr.refl _ W0|with_reducible refine Fr.drew ?_ |with_reducible refine Fr.set ?_ s_ _)
  exact absurd hk (by simp[*])
 case rest=>
  obtain⟨e9,e7⟩:=hcut;have c1:=e1.out.fr e7 s_;have f9:=zaa e7;obtain⟨a3,a4,qk,qn,qs,qA,a7,a6,qr,c9,c2,e6,c8,a1,a9,a5,a8,a2,c5,c4,c7,e4,e5,c6,f0⟩:∃a3 a4 qk qn qs qA a7 a6 qr c9 c2 e6 c8 a1 a9 a5 a8 a2 c5 c4 c7 e4 e5 c6,R=c16 a3 a4 qk qn qs qA a7 a6 qr c9 c2 e6 c8 a1 a9 a5 a8 a2 c5 c4 c7 e4 e5 c6:=by
   rw[<-HR.out];exact zdx _ _ _ _ _ _ _ _ _ _ _ _ _ _ _ _ _ _ _ _ _ _ _ _
  unfold c16 at f0;subst f0;obtain⟨x0,x1,x2,x3,x4,x5,x6,x7,x8,x9,h4,g8,i1,h2,h9,h5,xz,xq⟩:=e9.c16s;obtain⟨y0,y1,y2,y3,y4,y5,y6,y7,y8,y9,h6,g9,h0,h1,g6,g5,yz,yq⟩:=c1.c16s;clear HR e2 e1 c0 e9 c1 e7 d0 d1 d2 d3 d4 d5 d6 d7 d8 d9 f4 f7 g2 g0 f3 f2 dz dq;go_wp2_with fail;refine bodyPost_ret (v:=.agg (c16 a3 a4 qk qn qs qA a7 a6 qr c9 c2 e6 c8 a1 a9 a5 a8 a2 c5 c4 c7 e4 e5 c6)) (by simp[results,Tryz.results207,c16,go_sem, *]) rfl ⟨rfl,?_⟩;generalize f6:World.setCell _ _ _=We;have fe:Fr (λi=>i=W.heap.size+1) wc We:=by
   rw[<-f6];repeat(first|with_reducible exact Fr.refl _ wc|with_reducible refine Fr.set ?_ s_ _)
  exact(e8.out.trans' f9.out λi hi h=>by have h':i=W.heap.size+1+1:=h;omega).trans' fe λi hi h=>by have h':i=W.heap.size+1:=h;omega
end Go.Proofs.YtlejelbefmkakaaGreat

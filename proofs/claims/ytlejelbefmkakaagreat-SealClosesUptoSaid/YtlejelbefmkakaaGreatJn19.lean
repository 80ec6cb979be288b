/- Texts joined: Gd5. -/
import Derived.Test.YtlejelbefmkakaaGreatJn1
import Derived.Test.YtlejelbefmkakaaGreatJn14
import Derived.Deep.Cut
import Derived.Deep.CutRange
import Derived.Deep.CutBlock
set_option maxHeartbeats 16000000
set_option maxRecDepth 100000
namespace Go.Proofs.YtlejelbefmkakaaGreat
open Go.RowKit
theorem zrl (kind home k n:Int) (s:ByteArray) (A:Option Addr) (len cap:Nat) (r:Int) (VA:Option Addr) (vl vc:Nat) (n1 lost ofr byr set:Int) (full:Bool) (CA:Option Addr) (cl cc:Nat) (NA:Option Addr) (nl nc:Nat) (W:World) (hk:kind=13\/kind=15):
 Calls Tryz.prog 207 #[.agg (c16 kind home k n s A len cap r VA vl vc n1 lost ofr byr set full CA cl cc NA nl nc)] W λe w'=>e= .returned (.agg (zbv kind home k n s A len cap r VA vl vc n1 lost ofr byr set full CA cl cc NA nl nc))/\Fr No W w':=by
 obtain⟨R,hR⟩:∃R,zbv kind home k n s A len cap r VA vl vc n1 lost ofr byr set full CA cl cc NA nl nc=R:=⟨_,rfl⟩;rw[hR];have HR:=zaa hR;clear hR;have c3:=((Blk.new W 138 (c16 kind home k n s A len cap r VA vl vc n1 lost ofr byr set full CA cl cc NA nl nc)).alloc (.cells (c16 0 0 0 0 ⟨#[]⟩ none 0 0 0 none 0 0 0 0 0 0 0 false none 0 0 none 0 0) 138)).alloc (.cells (c16 kind home 0 0 ⟨#[]⟩ none 0 0 0 none 0 0 0 0 0 0 0 false none 0 0 none 0 0) 138);have c0:=(Blk.new' (W.alloc (.cells (c16 kind home k n s A len cap r VA vl vc n1 lost ofr byr set full CA cl cc NA nl nc) 138)) 138 (c16 0 0 0 0 ⟨#[]⟩ none 0 0 0 none 0 0 0 0 0 0 0 false none 0 0 none 0 0) (g:=W.heap.size+1) s_).alloc (.cells (c16 kind home 0 0 ⟨#[]⟩ none 0 0 0 none 0 0 0 0 0 0 0 false none 0 0 none 0 0) 138);have e0:=Blk.new' ((W.alloc (.cells (c16 kind home k n s A len cap r VA vl vc n1 lost ofr byr set full CA cl cc NA nl nc) 138)).alloc (.cells (c16 0 0 0 0 ⟨#[]⟩ none 0 0 0 none 0 0 0 0 0 0 0 false none 0 0 none 0 0) 138)) 138 (c16 kind home 0 0 ⟨#[]⟩ none 0 0 0 none 0 0 0 0 0 0 0 false none 0 0 none 0 0) (g:=W.heap.size+1+1) s_;have e5:=(((Fr.refl No W).alloc (.cells (c16 kind home k n s A len cap r VA vl vc n1 lost ofr byr set full CA cl cc NA nl nc) 138)).alloc (.cells (c16 0 0 0 0 ⟨#[]⟩ none 0 0 0 none 0 0 0 0 0 0 0 false none 0 0 none 0 0) 138)).alloc (.cells (c16 kind home 0 0 ⟨#[]⟩ none 0 0 0 none 0 0 0 0 0 0 0 false none 0 0 none 0 0) 138);unfold c16 at c3 c0 e0 e5 ⊢;have e3:=zaa c3;have e2:=zaa c0;have c1:=zaa e0;have f0:=zaa e5;clear c3 c0 e0 e5;go_enter Tryz.func207,Tryz.ntmps207;go_upto_block 0 with(fail);generalize h1:World.alloc (World.alloc (World.alloc W _) _) _=W0 at*;obtain⟨d0,d1,d2,d3,d4,d5,d6,d7,d8,d9,f5,f7,g0,f9,f4,f3,dz,dq⟩:=e3.out.c16s;go_cut []from 11 to 98 (λwx=>Blk wx (W.heap.size+1+1) 138 R/\Fr (λi=>i=W.heap.size+1+1) W0 wx)
 case first=>
  obtain⟨b0,b1,b2,b3,b4,b5,b6,b7,b8,b9,g2,h5,g1,h8,h6,g5,bz,bq⟩:=c1.out.c16s;clear e3 e2 f0;by_cases e4:kind=13
  case pos=>
   subst e4;have a7:c16 13 home 0 0 ⟨#[]⟩ none 0 0 0 none 0 0 0 0 ofr 0 0 full none 0 0 none 0 0=R:=by rw[<-HR.out];simp[zbv]
   subst a7;clear HR;go_wp2_with fail;go_region
   all_goals go_simp
   all_goals try go_wp2_with fail
   all_goals
    go_meet;refine⟨zcr (Blk.drew (Blk.set_ (Blk.set_ (c1.out) _ _) _ _)) (by simp only[List.setIfInBounds_toArray,List.set_cons_zero,List.set_cons_succ,c16]),?_⟩;repeat(first|with_reducible exact Fr.refl _ W0|with_reducible refine Fr.drew ?_ |with_reducible refine Fr.set ?_ s_ _)
  by_cases e1:kind=15
  case pos=>
   subst e1;have a7:c16 15 home 0 0 ⟨#[]⟩ none 0 0 0 none 0 0 0 0 ofr byr 0 false none 0 0 none 0 0=R:=by rw[<-HR.out];simp[zbv]
   subst a7;clear HR;go_wp2_with fail;go_region
   all_goals go_simp
   all_goals try go_wp2_with fail
   all_goals
    go_meet;refine⟨zcr (Blk.drew (Blk.set_ (Blk.set_ (c1.out) _ _) _ _)) (by simp only[List.setIfInBounds_toArray,List.set_cons_zero,List.set_cons_succ,c16]),?_⟩;repeat(first|with_reducible exact Fr.refl _ W0|with_reducible refine Fr.drew ?_ |with_reducible refine Fr.set ?_ s_ _)
  exact absurd hk (by simp[*])
 case rest=>
  obtain⟨f1,e9⟩:=hcut;have c0:=e2.out.fr e9 s_;have f8:=zaa e9;obtain⟨a2,a3,qk,qn,qs,qA,a6,a5,qr,c9,c2,e8,c8,a0,a9,a4,a8,a1,c5,c4,c7,e6,e7,c6,f2⟩:∃a2 a3 qk qn qs qA a6 a5 qr c9 c2 e8 c8 a0 a9 a4 a8 a1 c5 c4 c7 e6 e7 c6,R=c16 a2 a3 qk qn qs qA a6 a5 qr c9 c2 e8 c8 a0 a9 a4 a8 a1 c5 c4 c7 e6 e7 c6:=by
   rw[<-HR.out];exact zdx _ _ _ _ _ _ _ _ _ _ _ _ _ _ _ _ _ _ _ _ _ _ _ _
  unfold c16 at f2;subst f2;obtain⟨x0,x1,x2,x3,x4,x5,x6,x7,x8,x9,h2,g6,h9,h0,h7,h3,xz,xq⟩:=f1.c16s;obtain⟨y0,y1,y2,y3,y4,y5,y6,y7,y8,y9,h4,g7,g8,g9,g4,g3,yz,yq⟩:=c0.c16s;clear HR e3 e2 c1 f1 c0 e9 d0 d1 d2 d3 d4 d5 d6 d7 d8 d9 f5 f7 g0 f9 f4 f3 dz dq;go_wp2_with fail;refine bodyPost_ret (v:=.agg (c16 a2 a3 qk qn qs qA a6 a5 qr c9 c2 e8 c8 a0 a9 a4 a8 a1 c5 c4 c7 e6 e7 c6)) (by simp[results,Tryz.results207,c16,go_sem, *]) rfl ⟨rfl,?_⟩;generalize f6:World.setCell _ _ _=We;have fe:Fr (λi=>i=W.heap.size+1) wc We:=by
   rw[<-f6];repeat(first|with_reducible exact Fr.refl _ wc|with_reducible refine Fr.set ?_ s_ _)
  exact(f0.out.trans' f8.out λi hi h=>by have h':i=W.heap.size+1+1:=h;omega).trans' fe λi hi h=>by have h':i=W.heap.size+1:=h;omega
end Go.Proofs.YtlejelbefmkakaaGreat

/- Texts joined: Ub8, Ub9, Ub10, Ub11, Hf2, Hf3. -/
import Derived.Test.YtlejelbefmkakaaGreatJn1
import Derived.Test.YtlejelbefmkakaaGreatJn29
import Derived.Test.YtlejelbefmkakaaGreatJn30
set_option maxHeartbeats 16000000
set_option maxRecDepth 100000
namespace Go.Proofs.YtlejelbefmkakaaGreat
open Go.RowKit
def hT (r:Int):T:=.mk 4 0 ⟨#[]⟩ none 0 [] r
theorem zyv (r:Int):(hT r).v=hV r:=by unfold hT hV;rw[T.v_mk];rfl
theorem zv6 (r:Int) (h: -9223372036854775808<=r/\r<=9223372036854775807) (w:World) (lo hi:Nat):(hT r).In w lo hi:=T.in_mk.2 ⟨⟨by decide,by decide,by decide,by decide,by decide,by decide,by decide,h.1,h.2⟩,λh=>absurd rfl h,by simp⟩
def zyw (L:List Int) (w:World) (e:Ending) (w':World):Prop:=∃(A:Option Addr) (c:Nat),e= .returned (T.mk 3 0 ⟨#[]⟩ A c (L.map hT) 0).val/\(T.mk 3 0 ⟨#[]⟩ A c (L.map hT) 0).In w' w.heap.size w'.heap.size/\Fr No w w'
theorem zqb {w:World} {A:Option Addr} {c lo hi:Nat} {L:List Int} (h:Ints w lo hi A c L) (hh:hi<=w.heap.size) (hl:L.length<=1000000):
 Calls Tryz.prog 42 #[.slice A L.length c] w (zyw L w):=by
 have HR:=zaa h;have HI:=zaa h.rng;have d6:=(Blk.new w 28 #[.int .u8 0,.int .i64 0,.string ⟨#[]⟩,.slice none 0 0,.int .i64 0]).alloc (.cells #[.int .u8 3,.int .i64 0,.string ⟨#[]⟩,.slice none 0 0,.int .i64 0] 28);have c9:=Blk.new' (w.alloc (.cells #[.int .u8 0,.int .i64 0,.string ⟨#[]⟩,.slice none 0 0,.int .i64 0] 28)) 28 #[.int .u8 3,.int .i64 0,.string ⟨#[]⟩,.slice none 0 0,.int .i64 0] (g:=w.heap.size+1) s_;have d8:=((Fr.refl No w).alloc (.cells #[.int .u8 0,.int .i64 0,.string ⟨#[]⟩,.slice none 0 0,.int .i64 0] 28)).alloc (.cells #[.int .u8 3,.int .i64 0,.string ⟨#[]⟩,.slice none 0 0,.int .i64 0] 28);have d9:w.heap.size+2<=((w.alloc (.cells #[.int .u8 0,.int .i64 0,.string ⟨#[]⟩,.slice none 0 0,.int .i64 0] 28)).alloc (.cells #[.int .u8 3,.int .i64 0,.string ⟨#[]⟩,.slice none 0 0,.int .i64 0] 28)).heap.size:=s_;have e7:=zaa d6;have e6:=zaa c9;have e5:=zaa d8;have e9:=zaa d9;clear h d6 c9 d8 d9;go_enter Tryz.func42,Tryz.ntmps42;go_wp2_with fail;generalize World.alloc (World.alloc w _) _=W0 at*;go_loopw [4] (λi wr=>∃(j:Nat) (A3:Option Addr) (c3:Nat),j<=L.length/\i= .int .i64 j/\Hid (wr.ownsRow (w.heap.size+2) 28 5 (.slice A3 j c3) j (zai ((L.take j).map hT)))/\Hid (Blk wr (w.heap.size+1) 28 #[.int .u8 3,.int .i64 0,.string ⟨#[]⟩,.slice A3 j c3,.int .i64 0])/\Hid (Blk wr w.heap.size 28 #[.int .u8 0,.int .i64 0,.string ⟨#[]⟩,.slice none 0 0,.int .i64 0])/\Hid (Fr No w wr)) (λi _=>L.length - (intOf i).toNat)
 case atStart=>exact⟨0,none,0,Nat.zero_le _,rfl,zaa (World.ownsRow_nil _ _ _ _),e6,e7,e5⟩
 case round=>
  obtain⟨j,A3,c3,hj,rfl,a9,a2,a5,b0⟩:=hrel;by_cases hlt:j<L.length
  case neg=>
   obtain rfl:L.length=j:=o_;have e0:wr.cell? ⟨w.heap.size+1,0,none⟩=some (.int .u8 3):=a2.out.cell 0;have e1:wr.cell? ⟨w.heap.size+1,1,none⟩=some (.int .i64 0):=a2.out.cell 1;have e2:wr.cell? ⟨w.heap.size+1,2,none⟩=some (.string ⟨#[]⟩):=a2.out.cell 2;have e3:wr.cell? ⟨w.heap.size+1,3,none⟩=some (.slice A3 L.length c3):=a2.out.cell 3;have e4:wr.cell? ⟨w.heap.size+1,4,none⟩=some (.int .i64 0):=a2.out.cell 4;have f0:=a2.out.lt;have d0:wr.cell? ⟨w.heap.size,0,none⟩=some (.int .u8 0):=a5.out.cell 0;have d1:wr.cell? ⟨w.heap.size,1,none⟩=some (.int .i64 0):=a5.out.cell 1;have d2:wr.cell? ⟨w.heap.size,2,none⟩=some (.string ⟨#[]⟩):=a5.out.cell 2;have d3:wr.cell? ⟨w.heap.size,3,none⟩=some (.slice none 0 0):=a5.out.cell 3;have d4:wr.cell? ⟨w.heap.size,4,none⟩=some (.int .i64 0):=a5.out.cell 4;have dz:=a5.out.frozen;have dq:=a5.out.lt;go_wp2;refine bodyPost_ret (v:=.agg #[.int .u8 3,.int .i64 0,.string ⟨#[]⟩,.slice A3 L.length c3,.int .i64 0]) (by simp[results,Tryz.results42,go_sem, *]) rfl ?_;generalize hW:World.setCell _ _ _=W;have d7:Fr (λi=>i=w.heap.size) wr W:=by
    rw[<-hW];repeat(first|with_reducible exact Fr.refl _ wr|with_reducible refine Fr.set ?_ s_ _)
   have a8:=a9.out;have c8:(L.map hT).length=L.length:=s_;rw[List.take_length,<-c8]at a8;have c0:=zaf a8 d7 λq hq e=>by have:=(zaj a8 q hq).1;omega
   have e8:=zgm c0 (λx hx=>by
    obtain⟨r,hr,rfl⟩:=List.mem_map.1 hx;exact zv6 r (HI.out r hr) W (w.heap.size+2) W.heap.size) (by rw[c8];omega) (Nat.le_refl _) (Nat.le_refl _)
   have c2:=T.In.more (show w.heap.size<=w.heap.size+2 by omega) (Nat.le_refl _) _ e8;have c6:=T.in_mk.1 c2;refine⟨A3,c3,by rw[T.val_mk,c8],T.in_mk.2 ⟨⟨by decide,by decide,by decide,by decide,by decide,c6.1.len1,c6.1.cap1,by decide,by decide⟩,c6.2⟩,b0.out.trans' d7 λi hi h=>by have h':i=w.heap.size:=h;omega⟩
  obtain⟨b,o,rfl,-,c9,c4⟩:=(HR.out.no b0.out hh).elem hlt;have c1:b<wr.heap.size:=by have:=b0.out.size;omega
  have a7:Hid (b<w.heap.size):=zaa o_;have c7:=zaa (show L.take (j+1)=L.take j++[L[j]] by rw[List.take_add_one,List.getElem?_eq_getElem hlt];rfl);generalize L[j]=r at*;have b3:=zaa c4;have a6:=zaa c1;have b2:=zaa hlt;have d5:Hid (w.heap.size+2<=wr.heap.size):=zaa (by have:=a2.out.lt;omega);have z3:wr.cell? ⟨w.heap.size+1,3,none⟩=some (.slice A3 j c3):=a2.out.cell 3;have zq:=a2.out.lt;have b1:Hid (∀w':World,Fr No wr w'->(λw'=>w.heap.size+1<w'.heap.size/\b<w'.heap.size/\w'.cell? ⟨b,o+j,none⟩=some (.int .i64 r)) w'):=zaa λw' f=>⟨Nat.lt_of_lt_of_le zq f.size,Nat.lt_of_lt_of_le c1 f.size,(f.cell c1 λh=>h).trans c4⟩;go_upto_region 5 with(fail);clear c4 c1;refine wp_region_held_drew (S:=λw'=>w.heap.size+1<w'.heap.size/\b<w'.heap.size/\w'.cell? ⟨b,o+j,none⟩=some (.int .i64 r)) k_ ?_ (λhHeld=>?_)
  .exact b1.out _ ((Fr.refl No wr).drew)
  refine t_ 0 ?_;try simp only[Act.put,lp_]
  refine t_ 2 ?_;try simp only[Act.put,lp_]
  refine t_ 3 ?_;try simp only[Act.put,lp_]
  refine t_ 4 ?_;try simp only[Act.put,lp_]
  refine t_ 5 ?_;try simp only[Act.put,lp_]
  refine wpAnyH_ready (rs:=[1,6]) k_ s_ ?_;refine AllReadyH.cons rfl (λK hK=>?_) (AllReadyH.cons rfl (λK hK=>?_) AllReadyH.nil)
  .go_simp;refine hK.out _ _ ?_ (λhHeld2=>?_)
   .assumption
   clear hK K hHeld;have hHeld:=hHeld2;clear hHeld2;try simp only[Act.put,lp_]
   refine wpAnyH_ready (rs:=[6]) k_ s_ ?_;refine AllReadyH.cons rfl (λK hK=>?_) AllReadyH.nil
   .go_simp;refine(zmg r _).mono ?_;rintro e w2 ⟨rfl,f2⟩;have a4:=zaa (((Fr.refl No wr).drew).trans f2);clear f2;have d3:w2.cell? ⟨w.heap.size+1,3,none⟩=some (.slice A3 j c3):=(a4.out.cell zq λh=>h).trans z3;have dq:w.heap.size+1<w2.heap.size:=Nat.lt_of_lt_of_le zq a4.out.size;refine hK.out _ _ ?_ (λhHeld2=>?_)
    .exact b1.out _ a4.out
    clear hK K hHeld;have hHeld:=hHeld2;clear hHeld2;try simp only[Act.put,lp_]
    refine wpAnyH_ready (rs:=[7]) k_ s_ ?_;refine AllReadyH.cons rfl (λK hK=>?_) AllReadyH.nil
    .go_simp;have a3:=zaa (a4.out.alloc (.cells #[.int .u8 4,.int .i64 0,.string ⟨#[]⟩,.slice none 0 0,.int .i64 r] 28));refine hK.out _ _ ?_ (λhHeld2=>?_)
     .exact b1.out _ a3.out
     clear hK K hHeld;have hHeld:=hHeld2;clear hHeld2;try simp only[Act.put,lp_]
     refine wpAnyH_ready (rs:=[8]) k_ s_ ?_;refine AllReadyH.cons rfl (λK hK=>?_) AllReadyH.nil
     .have b5:=zaa ((Blk.new w2 28 #[.int .u8 4,.int .i64 0,.string ⟨#[]⟩,.slice none 0 0,.int .i64 r]).lies (cs:=(hT r).cells) (cells_one _));have b6:=zaa (zaf a9.out a3.out λ_ _ h=>h);refine zcn r_ _ _ zda r_ (w.heap.size+2) _ j _ r_ b6.out w2.heap.size (w2.heap.size+1) (some ⟨w2.heap.size,0,none⟩) 1 1 _ r_ b5.out o_ o_ (by have:=a3.out.size;have:=d5.out;omega) ?_;intro A5 c5 w5 hk;have HK:=zaa hk;have a1:Fr (λi=>w.heap.size+2<=i) wr w5:=(a3.out.no).trans' hk.fr λi hi e=>(zaj a9.out i e).1;have a0:=zaa a1;clear hk a1;have y3:w5.cell? ⟨w.heap.size+1,3,none⟩=some (.slice A3 j c3):=(a0.out.cell zq o_).trans z3;have yf:w5.frozen? ⟨w.heap.size+1,3,none⟩=false:=(a2.out.fr a0.out o_).frozen 3;have yq:w.heap.size+1<w5.heap.size:=Nat.lt_of_lt_of_le zq a0.out.size;have yb:=Nat.lt_of_lt_of_le a6.out a0.out.size;refine hK.out _ _ ?_ (λhHeld2=>?_)
      .exact⟨yq,yb,(a0.out.cell a6.out (by have:=a7.out;omega)).trans b3.out⟩
      clear hK K hHeld;have hHeld:=hHeld2;clear hHeld2;try simp only[Act.put,lp_]
      refine t_ 9 ?_;try simp only[Act.put]
      refine wpAnyH_ready (rs:=[10]) k_ s_ ?_;refine AllReadyH.cons rfl (λK hK=>?_) AllReadyH.nil
      .go_simp;refine hK.out _ _ ?_ (λhHeld2=>?_)
       .exact⟨by simpa using yq,by simpa using yb,((((Fr.refl (λi=>i=w.heap.size+1) w5).set (p:=⟨w.heap.size+1,3,none⟩) (λ_=>rfl) _).cell yb (by have:=a7.out;omega)).trans (a0.out.cell a6.out (by have:=a7.out;omega))).trans b3.out⟩
       clear hK K hHeld;have hHeld:=hHeld2;clear hHeld2;try simp only[Act.put,lp_]
       refine wpAnyH_done k_ ?_ _;clear hHeld;have f6:Fr (λi=>i=w.heap.size+1) w5 (World.setCell w5 ⟨w.heap.size+1,3,none⟩ (.slice A5 (j+1) c5)):=(Fr.refl (λi=>i=w.heap.size+1) w5).set (λ_=>rfl) _;have b8:=zaa ((a2.out.fr a0.out o_).set_ 3 (.slice A5 (j+1) c5));have b4:=zaa ((a5.out.fr a0.out o_).fr f6 o_);have b9:=zaa (zaf HK.out.1 f6 λq hq e=>by have:=(zaj HK.out.1 q hq).1;omega);have b7:=zaa ((b0.out.trans' a0.out λi hi h=>by omega).trans' f6 λi hi h=>by omega);clear f6;generalize World.setCell w5 _ _=w6 at*;go_wp2_with fail;go_roundw
       case rel=>
        refine⟨j+1,A5,c5,b2.out,by go_num,zaa ?_,b8,b4,b7⟩;rw[c7.out,List.map_append,List.map_cons,List.map_nil,zcp];exact b9.out
       case measure=>have:=b2.out;simp[intOf];omega
  .go_simp;refine(zmg r _).mono ?_;rintro e w2 ⟨rfl,f2⟩;have a4:=zaa (((Fr.refl No wr).drew).trans f2);clear f2;have d3:w2.cell? ⟨w.heap.size+1,3,none⟩=some (.slice A3 j c3):=(a4.out.cell zq λh=>h).trans z3;have dq:w.heap.size+1<w2.heap.size:=Nat.lt_of_lt_of_le zq a4.out.size;refine hK.out _ _ ?_ (λhHeld2=>?_)
   .exact b1.out _ a4.out
   clear hK K hHeld;have hHeld:=hHeld2;clear hHeld2;try simp only[Act.put,lp_]
   refine wpAnyH_ready (rs:=[1,7]) k_ s_ ?_;refine AllReadyH.cons rfl (λK hK=>?_) (AllReadyH.cons rfl (λK hK=>?_) AllReadyH.nil)
   .go_simp;refine hK.out _ _ ?_ (λhHeld2=>?_)
    .assumption
    clear hK K hHeld;have hHeld:=hHeld2;clear hHeld2;try simp only[Act.put,lp_]
    refine wpAnyH_ready (rs:=[7]) k_ s_ ?_;refine AllReadyH.cons rfl (λK hK=>?_) AllReadyH.nil
    .go_simp;have a3:=zaa (a4.out.alloc (.cells #[.int .u8 4,.int .i64 0,.string ⟨#[]⟩,.slice none 0 0,.int .i64 r] 28));refine hK.out _ _ ?_ (λhHeld2=>?_)
     .exact b1.out _ a3.out
     clear hK K hHeld;have hHeld:=hHeld2;clear hHeld2;try simp only[Act.put,lp_]
     refine wpAnyH_ready (rs:=[8]) k_ s_ ?_;refine AllReadyH.cons rfl (λK hK=>?_) AllReadyH.nil
     .have b5:=zaa ((Blk.new w2 28 #[.int .u8 4,.int .i64 0,.string ⟨#[]⟩,.slice none 0 0,.int .i64 r]).lies (cs:=(hT r).cells) (cells_one _));have b6:=zaa (zaf a9.out a3.out λ_ _ h=>h);refine zcn r_ _ _ zda r_ (w.heap.size+2) _ j _ r_ b6.out w2.heap.size (w2.heap.size+1) (some ⟨w2.heap.size,0,none⟩) 1 1 _ r_ b5.out o_ o_ (by have:=a3.out.size;have:=d5.out;omega) ?_;intro A5 c5 w5 hk;have HK:=zaa hk;have a1:Fr (λi=>w.heap.size+2<=i) wr w5:=(a3.out.no).trans' hk.fr λi hi e=>(zaj a9.out i e).1;have a0:=zaa a1;clear hk a1;have y3:w5.cell? ⟨w.heap.size+1,3,none⟩=some (.slice A3 j c3):=(a0.out.cell zq o_).trans z3;have yf:w5.frozen? ⟨w.heap.size+1,3,none⟩=false:=(a2.out.fr a0.out o_).frozen 3;have yq:w.heap.size+1<w5.heap.size:=Nat.lt_of_lt_of_le zq a0.out.size;have yb:=Nat.lt_of_lt_of_le a6.out a0.out.size;refine hK.out _ _ ?_ (λhHeld2=>?_)
      .exact⟨yq,yb,(a0.out.cell a6.out (by have:=a7.out;omega)).trans b3.out⟩
      clear hK K hHeld;have hHeld:=hHeld2;clear hHeld2;try simp only[Act.put,lp_]
      refine t_ 9 ?_;try simp only[Act.put]
      refine wpAnyH_ready (rs:=[10]) k_ s_ ?_;refine AllReadyH.cons rfl (λK hK=>?_) AllReadyH.nil
      .go_simp;refine hK.out _ _ ?_ (λhHeld2=>?_)
       .exact⟨by simpa using yq,by simpa using yb,((((Fr.refl (λi=>i=w.heap.size+1) w5).set (p:=⟨w.heap.size+1,3,none⟩) (λ_=>rfl) _).cell yb (by have:=a7.out;omega)).trans (a0.out.cell a6.out (by have:=a7.out;omega))).trans b3.out⟩
       clear hK K hHeld;have hHeld:=hHeld2;clear hHeld2;try simp only[Act.put,lp_]
       refine wpAnyH_done k_ ?_ _;clear hHeld;have f6:Fr (λi=>i=w.heap.size+1) w5 (World.setCell w5 ⟨w.heap.size+1,3,none⟩ (.slice A5 (j+1) c5)):=(Fr.refl (λi=>i=w.heap.size+1) w5).set (λ_=>rfl) _;have b8:=zaa ((a2.out.fr a0.out o_).set_ 3 (.slice A5 (j+1) c5));have b4:=zaa ((a5.out.fr a0.out o_).fr f6 o_);have b9:=zaa (zaf HK.out.1 f6 λq hq e=>by have:=(zaj HK.out.1 q hq).1;omega);have b7:=zaa ((b0.out.trans' a0.out λi hi h=>by omega).trans' f6 λi hi h=>by omega);clear f6;generalize World.setCell w5 _ _=w6 at*;go_wp2_with fail;go_roundw
       case rel=>
        refine⟨j+1,A5,c5,b2.out,by go_num,zaa ?_,b8,b4,b7⟩;rw[c7.out,List.map_append,List.map_cons,List.map_nil,zcp];exact b9.out
       case measure=>have:=b2.out;simp[intOf];omega
   .go_simp;have a3:=zaa (a4.out.alloc (.cells #[.int .u8 4,.int .i64 0,.string ⟨#[]⟩,.slice none 0 0,.int .i64 r] 28));refine hK.out _ _ ?_ (λhHeld2=>?_)
    .exact b1.out _ a3.out
    clear hK K hHeld;have hHeld:=hHeld2;clear hHeld2;try simp only[Act.put,lp_]
    refine wpAnyH_ready (rs:=[1]) k_ s_ ?_;refine AllReadyH.cons rfl (λK hK=>?_) AllReadyH.nil
    .go_simp;refine hK.out _ _ ?_ (λhHeld2=>?_)
     .assumption
     clear hK K hHeld;have hHeld:=hHeld2;clear hHeld2;try simp only[Act.put,lp_]
     refine wpAnyH_ready (rs:=[8]) k_ s_ ?_;refine AllReadyH.cons rfl (λK hK=>?_) AllReadyH.nil
     .have b5:=zaa ((Blk.new w2 28 #[.int .u8 4,.int .i64 0,.string ⟨#[]⟩,.slice none 0 0,.int .i64 r]).lies (cs:=(hT r).cells) (cells_one _));have b6:=zaa (zaf a9.out a3.out λ_ _ h=>h);refine zcn r_ _ _ zda r_ (w.heap.size+2) _ j _ r_ b6.out w2.heap.size (w2.heap.size+1) (some ⟨w2.heap.size,0,none⟩) 1 1 _ r_ b5.out o_ o_ (by have:=a3.out.size;have:=d5.out;omega) ?_;intro A5 c5 w5 hk;have HK:=zaa hk;have a1:Fr (λi=>w.heap.size+2<=i) wr w5:=(a3.out.no).trans' hk.fr λi hi e=>(zaj a9.out i e).1;have a0:=zaa a1;clear hk a1;have y3:w5.cell? ⟨w.heap.size+1,3,none⟩=some (.slice A3 j c3):=(a0.out.cell zq o_).trans z3;have yf:w5.frozen? ⟨w.heap.size+1,3,none⟩=false:=(a2.out.fr a0.out o_).frozen 3;have yq:w.heap.size+1<w5.heap.size:=Nat.lt_of_lt_of_le zq a0.out.size;have yb:=Nat.lt_of_lt_of_le a6.out a0.out.size;refine hK.out _ _ ?_ (λhHeld2=>?_)
      .exact⟨yq,yb,(a0.out.cell a6.out (by have:=a7.out;omega)).trans b3.out⟩
      clear hK K hHeld;have hHeld:=hHeld2;clear hHeld2;try simp only[Act.put,lp_]
      refine t_ 9 ?_;try simp only[Act.put]
      refine wpAnyH_ready (rs:=[10]) k_ s_ ?_;refine AllReadyH.cons rfl (λK hK=>?_) AllReadyH.nil
      .go_simp;refine hK.out _ _ ?_ (λhHeld2=>?_)
       .exact⟨by simpa using yq,by simpa using yb,((((Fr.refl (λi=>i=w.heap.size+1) w5).set (p:=⟨w.heap.size+1,3,none⟩) (λ_=>rfl) _).cell yb (by have:=a7.out;omega)).trans (a0.out.cell a6.out (by have:=a7.out;omega))).trans b3.out⟩
       clear hK K hHeld;have hHeld:=hHeld2;clear hHeld2;try simp only[Act.put,lp_]
       refine wpAnyH_done k_ ?_ _;clear hHeld;have f6:Fr (λi=>i=w.heap.size+1) w5 (World.setCell w5 ⟨w.heap.size+1,3,none⟩ (.slice A5 (j+1) c5)):=(Fr.refl (λi=>i=w.heap.size+1) w5).set (λ_=>rfl) _;have b8:=zaa ((a2.out.fr a0.out o_).set_ 3 (.slice A5 (j+1) c5));have b4:=zaa ((a5.out.fr a0.out o_).fr f6 o_);have b9:=zaa (zaf HK.out.1 f6 λq hq e=>by have:=(zaj HK.out.1 q hq).1;omega);have b7:=zaa ((b0.out.trans' a0.out λi hi h=>by omega).trans' f6 λi hi h=>by omega);clear f6;generalize World.setCell w5 _ _=w6 at*;go_wp2_with fail;go_roundw
       case rel=>
        refine⟨j+1,A5,c5,b2.out,by go_num,zaa ?_,b8,b4,b7⟩;rw[c7.out,List.map_append,List.map_cons,List.map_nil,zcp];exact b9.out
       case measure=>have:=b2.out;simp[intOf];omega
def zit (m:Gm) (o b:Int):Prop:=∃x y,m.get b=some x/\x.2.kind=7/\m.get o=some y/\y.2.kind=6/\x.2.ofr=y.2.ofr
def zt1 (m:Gm) (o b:Int) (W:World) (e:Ending) (w':World):Prop:=∃(t:T) (n:Int),e= .returned (.tuple #[t.val,.int .i64 n])/\Fr No W w'/\t.In w' W.heap.size w'.heap.size/\((n=0/\zit m o b/\∀x,m.get b=some x->t.v=x.2.v.v)\/(n≠0/\¬zit m o b))
theorem zv7 (w:World) (lo hi:Nat):(T.mk 0 0 ⟨#[]⟩ none 0 [] 0).In w lo hi:=T.in_mk.2 ⟨⟨by decide,by decide,by decide,by decide,by decide,by decide,by decide,by decide,by decide⟩,λh=>absurd rfl h,by simp⟩
theorem zsx {m:Gm} {lo:Nat} {W:World} (h:m.Ok lo W) (hmy:∀r x,m.get r=some x->x.2.Mays) {o b:Int} (ho:(m.get o).isSome=true) (hb:(m.get b).isSome=true) (hb1:1<=b/\b<=9223372036854775807):
 Calls Tryz.prog 20 #[.pointer (some ⟨m.wb,0,none⟩),.int .i64 o,.agg #[.int .u8 4,.int .i64 0,.string ⟨#[]⟩,.slice none 0 0,.int .i64 b]] W (zt1 m o b W):=by
 have hM:=λW' (_:Fr No W W')=>zca (hT b) W' 0 W'.heap.size (zv6 b ⟨by omega,hb1.2⟩ _ _ _) (Nat.le_refl _);have hR:=λW' (f:Fr No W W')=>zf5 (h.no f) (hT b) W'.heap.size (zv6 b ⟨by omega,hb1.2⟩ _ _ _) (Nat.le_refl _);have hI:=λW' (f:Fr No W W')=>zf9 (h.no f) o;have d7:=λW' (f:Fr No W W')=>zd9 (h.no f) o;have c8:=λW' (f:Fr No W W')=>zd9 (h.no f) b;have f3:=λW' (f:Fr No W W')=>zlj (h.no f);rw[ho]at hI;rw[zyv,zt0 hb1.1]at hM;rw[zyv,zv5 hb1.1,show zhj m [b]=0 by simp[zhj,hb]]at hR;rw[show(hT b).val= .agg #[.int .u8 4,.int .i64 0,.string ⟨#[]⟩,.slice none 0 0,.int .i64 b]from rfl]at hM hR;obtain⟨xb,a8⟩:=Option.isSome_iff_exists.1 hb;obtain⟨xo,a9⟩:=Option.isSome_iff_exists.1 ho;have f1:m.kind b=xb.2.kind:=by unfold Gm.kind;rw[a8];rfl
 have g4:m.kind o=xo.2.kind:=by unfold Gm.kind;rw[a9];rfl
 rw[f1]at c8;rw[g4]at d7;have d5:=zaa a8;have g1:=zaa a9;have f0:=zaa λW' (f:Fr No W W')=>zgg (h.no f) a8 (hmy b xb a8);have e5:=zaa λW' (f:Fr No W W')=>zgg (h.no f) a9 (hmy o xo a9);have g5:=zaa f3;have HM:=zaa hM;have HR:=zaa hR;have HI:=zaa hI;have f8:=zaa d7;have f6:=zaa c8;have h5:=(Blk.new W 28 #[.int .u8 4,.int .i64 0,.string ⟨#[]⟩,.slice none 0 0,.int .i64 b]).alloc (.cells #[.int .u8 0,.int .i64 0,.string ⟨#[]⟩,.slice none 0 0,.int .i64 0] 28);have h6:=Blk.new' (W.alloc (.cells #[.int .u8 4,.int .i64 0,.string ⟨#[]⟩,.slice none 0 0,.int .i64 b] 28)) 28 #[.int .u8 0,.int .i64 0,.string ⟨#[]⟩,.slice none 0 0,.int .i64 0] (g:=W.heap.size+1) s_;have f5:=((Fr.refl No W).alloc (.cells #[.int .u8 4,.int .i64 0,.string ⟨#[]⟩,.slice none 0 0,.int .i64 b] 28)).alloc (.cells #[.int .u8 0,.int .i64 0,.string ⟨#[]⟩,.slice none 0 0,.int .i64 0] 28);have g0:W.heap.size+2<=((W.alloc (.cells #[.int .u8 4,.int .i64 0,.string ⟨#[]⟩,.slice none 0 0,.int .i64 b] 28)).alloc (.cells #[.int .u8 0,.int .i64 0,.string ⟨#[]⟩,.slice none 0 0,.int .i64 0] 28)).heap.size:=s_;obtain⟨e0,e1,e2,e3,e4,ef⟩:=h5.cells5;have c3:=h5.lt;have HB:=zaa h5;have a0:=zaa h6;have HF:=zaa f5;have a4:=zaa g0;have i2:=(h.st _ (Gm.get_mem a8)).inn.fit;have i9:=(h.st _ (Gm.get_mem a9)).inn.fit;clear hM hR hI d7 c8 h5 h6 f5 g0 h a9 a8 f1 g4 hmy f3 ho hb hb1;go_enter Tryz.func20,Tryz.ntmps20;go_wp2_with fail;generalize h8:World.alloc (World.alloc W _) _=W0 at*;refine(g5.out W0 HF.out).mono ?_;rintro e w' ⟨rfl,rfl⟩;go_wp2_with fail;refine(HM.out w' HF.out).mono ?_;rintro e w1 ⟨rfl,ff⟩;have a2:=HB.out.fr ff λh=>h;replace a0:=zaa (a0.out.fr ff λh=>h);replace HB:=zaa a2;have a1:=zaa (HF.out.trans ff);replace a4:=zaa (Nat.le_trans a4.out ff.size);clear e0 e1 e2 e3 e4 ef c3 ff h8 HF;obtain⟨e0,e1,e2,e3,e4,ef⟩:=a2.cells5;have c3:=a2.lt;clear a2;go_wp2_with fail;refine(HI.out w1 a1.out).mono ?_;rintro e w2 ⟨rfl,rfl⟩;go_wp2_with fail;refine(HR.out w2 a1.out).mono ?_;rintro e w3 ⟨rfl,ff⟩;have a2:=HB.out.fr ff λh=>h;replace a0:=zaa (a0.out.fr ff λh=>h);replace HB:=zaa a2;replace a1:=zaa (a1.out.trans ff);replace a4:=zaa (Nat.le_trans a4.out ff.size);clear e0 e1 e2 e3 e4 ef c3 ff;obtain⟨e0,e1,e2,e3,e4,ef⟩:=a2.cells5;have c3:=a2.lt;clear a2;go_wp2_with fail;refine(f8.out w3 a1.out).mono ?_;rintro e w4 ⟨rfl,rfl⟩;have c5:Hid (∀x y,m.get b=some x->m.get o=some y->x=xb/\y=xo):=zaa λx y h1 h2=>by
  rw[d5.out]at h1;rw[g1.out]at h2;injection h1 with h1
  injection h2 with h2
  exact⟨h1.symm,h2.symm⟩
 by_cases ko:xo.2.kind=6
 case neg=>
  have j1:(xo.2.kind==6)=false:=by simpa using ko
  have c0:Hid (¬zit m o b):=zaa λ⟨x,y,h1,_,h2,h3,_⟩=>ko (by rw[<-(c5.out x y h1 h2).2];exact h3);obtain⟨d0,d1,d2,d3,d4,df⟩:=a0.out.cells5;have dq:=a0.out.lt;clear ko;generalize xo.2.kind=kd at*;go_wp2;refine bodyPost_ret (v:=.tuple #[.agg #[.int .u8 0,.int .i64 0,.string ⟨#[]⟩,.slice none 0 0,.int .i64 0],.int .i64 90]) (by simp[results,Tryz.results20,go_sem, *]) rfl ?_;generalize hW:World.setCell _ _ _=W';have a3:Fr (λi=>i=W.heap.size+1) w4 W':=by
   rw[<-hW];repeat(first|with_reducible exact Fr.refl _ w4|with_reducible refine Fr.set ?_ s_ _)
  exact⟨T.mk 0 0 ⟨#[]⟩ none 0 [] 0,90,rfl,a1.out.trans' a3 λi hi h=>by have h':i=W.heap.size+1:=h;omega,zv7 _ _ _,.inr ⟨by decide,c0.out⟩⟩
 have i0:=zaa ko;rw[ko];clear ko;go_wp2_with fail;refine(f6.out w4 a1.out).mono ?_;rintro e w5 ⟨rfl,rfl⟩;by_cases kb:xb.2.kind=7
 case neg=>
  have i7:(xb.2.kind==7)=false:=by simpa using kb
  have c0:Hid (¬zit m o b):=zaa λ⟨x,y,h1,h3,h2,_,_⟩=>kb (by rw[<-(c5.out x y h1 h2).1];exact h3);obtain⟨d0,d1,d2,d3,d4,df⟩:=a0.out.cells5;have dq:=a0.out.lt;clear kb;generalize xb.2.kind=kd at*;go_wp2;refine bodyPost_ret (v:=.tuple #[.agg #[.int .u8 0,.int .i64 0,.string ⟨#[]⟩,.slice none 0 0,.int .i64 0],.int .i64 91]) (by simp[results,Tryz.results20,go_sem, *]) rfl ?_;generalize hW:World.setCell _ _ _=W';have a3:Fr (λi=>i=W.heap.size+1) w5 W':=by
   rw[<-hW];repeat(first|with_reducible exact Fr.refl _ w5|with_reducible refine Fr.set ?_ s_ _)
  exact⟨T.mk 0 0 ⟨#[]⟩ none 0 [] 0,91,rfl,a1.out.trans' a3 λi hi h=>by have h':i=W.heap.size+1:=h;omega,zv7 _ _ _,.inr ⟨by decide,c0.out⟩⟩
 have h7:=zaa kb;rw[kb];clear kb;go_wp2_with fail;refine(f0.out w5 a1.out).mono ?_;rintro e w7 ⟨y,b7,rfl,b0,f7⟩;have e7:y.ofr=xb.2.ofr:=congrArg TgV.ofr b7;have c7:y.v.v=xb.2.v.v:=congrArg TgV.v b7;have b9:=zaa (f7.alloc (.cells Tg.zero.cells.toArray 138));have a6:=zaa (Blk.new w7 138 Tg.zero.cells.toArray);have a5:=zaa f7;have f4:=zaa b0.inn.v;have i3:=zaa b0.inn.fit;rw[zal]at b9;clear f7 b7 b0;go_upto_region 15 with(refine wpList_store_row r_ 138 (.tmp 9) (.tmp 57) r_ w7.heap.size y.cells.toArray r_ r_ _ _ a6.out (zam.trans (by rw[zae])) (by rw[zae,zae]) (zaq y) ?_);rw[<-zal]at*;have c2:Fr No w7 (World.setRow (w7.alloc (.cells Tg.zero.cells.toArray 138)) w7.heap.size y.cells.toArray):=((Fr.refl No w7).alloc _).trans' (zb0 _ w7.heap.size y.cells.toArray) λi hi h=>by have h':i=w7.heap.size:=h;omega
 have d6:=zaa (a1.out.trans (a5.out.trans c2));have g2:=zaa (f4.out.no c2 (Nat.le_refl _));have i1:=zaa (Nat.le_trans a4.out a5.out.size);have e6:=zaa c2.size;have h9:=zaa a4.out;have e8:=zaa (zbn (us:=y.cells.toArray) a6.out);replace a0:=zaa (a0.out.fr (a5.out.trans c2) λh=>h);clear c2 b9 a6 a5 f0 f4 a1 f8 f6 HR HI HM g5 HB a4 e0 e1 e2 e3 e4 ef c3;generalize c6:World.setRow _ _ _=w8 at*;clear c6;go_wp2_with fail;refine(e5.out w8 d6.out).mono ?_;rintro e w9 ⟨z,b7,rfl,b0,f9⟩;have g6:z.ofr=xo.2.ofr:=congrArg TgV.ofr b7;have b9:=zaa (f9.alloc (.cells Tg.zero.cells.toArray 138));have a6:=zaa (Blk.new w9 138 Tg.zero.cells.toArray);have a5:=zaa f9;have i6:=zaa b0.inn.fit;rw[zal]at b9;clear f9 b7 b0;go_upto_region 16 with(refine wpList_store_row r_ 138 (.tmp 11) (.tmp 63) r_ w9.heap.size z.cells.toArray r_ r_ _ _ a6.out (zam.trans (by rw[zae])) (by rw[zae,zae]) (zaq z) ?_);rw[<-zal]at*;have a7:Fr No w8 (World.setRow (w9.alloc (.cells Tg.zero.cells.toArray 138)) w9.heap.size z.cells.toArray):=a5.out.trans (((Fr.refl No w9).alloc _).trans' (zb0 _ w9.heap.size z.cells.toArray) λi hi h=>by have h':i=w9.heap.size:=h;omega);have b8:=zaa (d6.out.trans a7);have c4:=zaa (g2.out.no a7 e6.out);have d8:=zaa (Nat.le_trans e6.out a7.size);have c9:=zaa (e8.out.fr a7 λh=>h);have g3:=zaa (zbn (us:=z.cells.toArray) a6.out);replace a0:=zaa (a0.out.fr a7 λh=>h);clear a7 b9 a6 a5 e5 g2 d6 e8;generalize c6:World.setRow _ _ _=w10 at*;clear c6;have i8:=c9.out.lt;have j0:=g3.out.lt;have d9:=c9.out.tg.2.2.1;have e9:=g3.out.tg.2.2.1;rw[e7]at d9;rw[g6]at e9;obtain⟨d0,d1,d2,d3,d4,df⟩:=a0.out.cells5;have dq:=a0.out.lt;generalize w9.heap.size=gz at*;generalize w7.heap.size=gy at*;clear e7 g6;by_cases b1:xb.2.ofr=xo.2.ofr
 case neg=>
  have g7:(xb.2.ofr==xo.2.ofr)=false:=by simpa using b1
  have c0:Hid (¬zit m o b):=zaa λ⟨x,y,h1,h3,h2,_,h4⟩=>b1 (by rw[(c5.out x y h1 h2).1,(c5.out x y h1 h2).2]at h4;exact h4);clear b1;generalize xb.2.ofr=q1 at*;generalize xo.2.ofr=q2 at*;go_wp2;refine bodyPost_ret (v:=.tuple #[.agg #[.int .u8 0,.int .i64 0,.string ⟨#[]⟩,.slice none 0 0,.int .i64 0],.int .i64 91]) (by simp[results,Tryz.results20,go_sem, *]) rfl ?_;generalize hW:World.setCell _ _ _=W';have a3:Fr (λi=>i=W.heap.size+1) w10 W':=by
   rw[<-hW];repeat(first|with_reducible exact Fr.refl _ w10|with_reducible refine Fr.set ?_ s_ _)
  exact⟨T.mk 0 0 ⟨#[]⟩ none 0 [] 0,91,rfl,b8.out.trans' a3 λi hi h=>by have h':i=W.heap.size+1:=h;omega,zv7 _ _ _,.inr ⟨by decide,c0.out⟩⟩
 have h0:=zaa b1;rw[b1]at d9;clear b1;obtain⟨q2,f2⟩:∃q,xo.2.ofr=q:=⟨_,rfl⟩;rw[f2]at d9 e9;clear f2;rcases hyv:y.v with⟨k1,n1,s1,A1,c1,l1,r1⟩;obtain⟨b2,b3,b4,b5,b6⟩:=c9.out.tgv hyv;rw[hyv]at c4 c7;have g9:=zaa c7;clear c7 hyv;go_wp2;refine bodyPost_ret (v:=.tuple #[.agg #[.int .u8 k1,.int .i64 n1,.string s1,.slice A1 l1.length c1,.int .i64 r1],.int .i64 0]) (by simp[results,Tryz.results20,go_sem, *]) rfl ?_;generalize hW:World.setCell _ _ _=W';have a3:Fr (λi=>i=W.heap.size+1) w10 W':=by
  rw[<-hW];repeat(first|with_reducible exact Fr.refl _ w10|with_reducible refine Fr.set ?_ s_ _)
 have i4:=h9.out;have g8:=d8.out;have i5:=a3.size;refine⟨T.mk k1 n1 s1 A1 c1 l1 r1,0,rfl,b8.out.trans' a3 λi hi h=>by have h':i=W.heap.size+1:=h;omega,T.In.more o_ o_ _ (c4.out.fr a3 g8 λi h1 h2 h=>by have h':i=W.heap.size+1:=h;omega),.inl ⟨rfl,⟨xb,xo,d5.out,h7.out,g1.out,i0.out,?_⟩,λx hx=>?_⟩⟩
 .exact h0.out
 .rw[g9.out];rw[d5.out]at hx;injection hx with hx
  rw[hx]
theorem zhf (q:Int) (t:T):∀(w:World) (lo hi:Nat),t.v.ok=true->t.In w lo hi->hi<=w.heap.size->Calls Tryz.prog 114 #[t.val,.int .i64 q] w λe w'=>e= .returned (.bool (decide (q∈t.v.rf)))/\Fr No w w':=by
 induction t using T.ind with
 |h k n s A cap l r ih=>
  intro w lo hi hok ht hh;rw[T.val_mk,T.v_mk]at*;have a0:=hok;rw[V.ok_mk,Bool.and_eq_true]at a0;have a7:k=4->l=[]:=λh=>List.eq_nil_of_length_eq_zero (by have:=ziu o_ a0.1;simpa using this);have a2:∀x∈l,x.v.ok=true:=λx hx=>List.all_eq_true.1 a0.2 _ (List.mem_map_of_mem hx);have a6:=(T.in_mk.1 ht).1;have c9:=a6.len1;have a8:=Blk.new w 28 #[.int .u8 k,.int .i64 n,.string s,.slice A l.length cap,.int .i64 r];have a1:=zaa ((Fr.refl No w).alloc (.cells #[.int .u8 k,.int .i64 n,.string s,.slice A l.length cap,.int .i64 r] 28));have b1:=zaa a8;have HT:=zaa ht;have c8:=zaa ih;have b4:=zaa a2;have a5:Hid ((V.mk k n s (l.map T.v) r).rf=if k=4 then[r]else((l.map T.v).map V.rf).flatten):=zaa (V.rf_mk _ _ _ _ _);generalize (V.mk k n s (l.map T.v) r).rf=RF at*;have d0:=a6.k0;have d2:=a6.k1;obtain⟨R0,b5⟩:∃R,decide (q∈RF)=R:=⟨_,rfl⟩;rw[b5];have a4:=zaa b5;clear a8 ht ih a6 hok a0 a2 b5;go_enter Tryz.func114,Tryz.ntmps114;go_upto_region 1 with(fail);generalize World.alloc w _=W0 at*;obtain⟨e0,e1,e2,e3,e4,ef⟩:=b1.out.cells5;have b8:=b1.out.lt;have b3:k=4/\r=q\/¬(k=4/\r=q):=Classical.em _;rcases b3 with hm|hm
  .obtain⟨rfl,rfl⟩:=hm;have er:R0=true:=a4.out.symm.trans (decide_eq_true (by rw[a5.out,if_pos rfl];simp));have d1:(r==r)=true:=s_;subst er;go_wp2;go_ret;exact⟨rfl,a1.out⟩
  by_cases h4:k=4
  .subst h4;obtain rfl:=a7 rfl;have hr:(r==q)=false:=by
    have:r≠q:=λh=>hm ⟨rfl,h⟩;simpa using this
   have er:R0=false:=a4.out.symm.trans (decide_eq_false (by
    rw[a5.out,if_pos rfl];intro h;simp only[List.mem_singleton]at h;exact hm ⟨rfl,h.symm⟩))
   subst er;clear hm a7;go_wp2_with fail;refine wp_loop_rounds 1 ?_;rw[rounds_succ];go_wp2;go_ret;exact⟨rfl,a1.out⟩
  .have c7:(k==4)=false:=by simpa using h4
   have a3:Hid (RF=((l.map T.v).map V.rf).flatten):=zaa (by rw[a5.out,if_neg h4]);clear hm a7 h4 a5;go_wp2_with fail;clear c7 e0 e1 e2 e3 e4 ef b8;go_loopw [5] (λi wr=>∃j:Nat,j<=l.length/\i= .int .i64 j/\Hid (Fr No W0 wr)/\Hid (∀x∈l.take j,q∉x.v.rf)) (λi _=>l.length - (intOf i).toNat)
   case atStart=>exact⟨0,Nat.zero_le _,rfl,zaa (Fr.refl _ _),zaa s_⟩
   case round=>
    obtain⟨j,hj,rfl,HF,HN⟩:=hrel;have a9:=b1.out.fr HF.out λh=>h;obtain⟨e0,e1,e2,e3,e4,ef⟩:=a9.cells5;have b8:=a9.lt;clear a9;by_cases hlt:j<l.length
    .have b6:=HT.out.no (a1.out.trans HF.out) hh;obtain⟨b,o,k1,n1,s1,A1,c5,l1,r1,rfl,a8,d3,hx,b9,c0,c1,c2,c3,c4⟩:=T.elem b6 hlt;have b2:=a1.out.trans HF.out;have IH:=c8.out l[j] (List.getElem_mem hlt) wr lo hi (b4.out _ (List.getElem_mem hlt)) (by rw[hx];exact b9) (by have:=b2.size;omega);have g0:b<wr.heap.size:=by have:=b2.size;omega
     have HM:=zaa (List.getElem_mem hlt);have c6:=zaa (List.take_succ_eq_append_getElem hlt);generalize l[j]=tj at*;rw[hx,T.val_mk,<-hx]at IH;obtain⟨d,hd⟩:∃d,decide (q∈tj.v.rf)=d:=⟨_,rfl⟩;rw[hd]at IH;have b0:=zaa IH;have HD:=zaa hd;clear IH hx b9 b2 b6 hd;go_wp2_with fail;refine b0.out.mono ?_;rintro e w2 ⟨rfl,f2⟩;have b7:=zaa (HF.out.trans f2);clear f2;cases d with
     |true=>
      have er:R0=true:=a4.out.symm.trans (decide_eq_true (by
       rw[a3.out];exact List.mem_flatten.2 ⟨_,List.mem_map_of_mem (List.mem_map_of_mem HM.out),of_decide_eq_true HD.out⟩))
      subst er;go_wp2;go_ret;exact⟨rfl,a1.out.trans b7.out⟩
     |false=>
      go_wp2;go_roundw
      case rel=>exact⟨j+1,hlt,by go_num,b7,zaa λx hx=>by
       rw[c6.out]at hx;rcases List.mem_append.1 hx with hx|hx
       .exact HN.out x hx
       .simp only[List.mem_singleton]at hx;rw[hx];exact of_decide_eq_false HD.out⟩
      case measure=>simp[intOf];omega
    .obtain rfl:l.length=j:=o_;have er:R0=false:=a4.out.symm.trans (decide_eq_false (by
      rw[a3.out];intro h;obtain⟨z,hz,hq⟩:=List.mem_flatten.1 h;obtain⟨v,hv,rfl⟩:=List.mem_map.1 hz;obtain⟨x,hx,rfl⟩:=List.mem_map.1 hv;exact HN.out x (by rw[List.take_length];exact hx) hq))
     subst er;go_wp2;go_ret;exact⟨rfl,a1.out.trans HF.out⟩
def zk4 (m:Gm) (q b o:Int):Prop:=zit m o b/\∃x,m.get b=some x/\q∈x.2.v.v.rf
theorem zxk {m:Gm} {lo:Nat} {W:World} (h:m.Ok lo W) (hmy:∀r x,m.get r=some x->x.2.Mays) {A:Option Addr} {c:Nat} {L:List Int} (base:Nat) (hrow:W.ownsRow base 22 1 (.slice A L.length c) L.length (zak L)) (hl:L.length<=1000000) (hall:∀r∈L,(m.get r).isSome=true) (hrng:∀r∈L,1<=r/\r<=9223372036854775807) (q:Int):
 Calls Tryz.prog 45 #[.pointer (some ⟨m.wb,0,none⟩),.slice A L.length c,.int .i64 q] W λe w'=>∃d:Bool,e= .returned (.bool d)/\((∃b∈L,∃o∈L,zk4 m q b o)->d=true)/\Fr No W w':=by
 have g5:=zaa h;have g1:=zaa hmy;have e5:=zaa hrow;have e0:=zaa hall;have e4:=zaa hrng;clear h hmy hrow hall hrng;go_enter Tryz.func45,Tryz.ntmps45;go_wp2_with fail;go_loopw [7] (λv wr=>∃i:Nat,i<=L.length/\v= .int .i64 i/\Hid (Fr No W wr)/\Hid (∀b∈L.take i,∀o∈L,¬zk4 m q b o)) (λv _=>L.length - (intOf v).toNat)
 case atStart=>exact⟨0,Nat.zero_le _,rfl,zaa (Fr.refl _ _),zaa s_⟩
 case round=>
  obtain⟨i,hi,rfl,HF,HN⟩:=hrel;by_cases hlt:i<L.length
  case neg=>
   obtain rfl:L.length=i:=o_;go_wp2;go_ret;refine⟨false,rfl,λ⟨b,hb,o,ho,hp⟩=>absurd hp (HN.out b (by rw[List.take_length];exact hb) o ho),HF.out⟩
  obtain⟨wo,rfl⟩:∃wo:World,wo=wr:=⟨_,rfl⟩;obtain⟨b,e2⟩:∃b,L[i]=b:=⟨_,rfl⟩;have g4:=zaa e2;have f7:Hid (b∈L):=zaa (by rw[<-e2];exact List.getElem_mem hlt);have g3:Hid (L.take (i+1)=L.take i++[b]):=zaa (by rw[<-e2];exact List.take_succ_eq_append_getElem hlt);clear e2;go_wp2_with fail;go_loopw [8] (λv wr=>∃k:Nat,k<=L.length/\v= .int .i64 k/\Hid (Fr No W wr)/\Hid (∀o∈L.take k,¬zk4 m q b o)) (λv _=>L.length - (intOf v).toNat)
  case atStart=>exact⟨0,Nat.zero_le _,rfl,HF,zaa s_⟩
  case round=>
   obtain⟨k,hk,rfl,b5,d5⟩:=hrel;by_cases b4:k<L.length
   case neg=>
    obtain rfl:L.length=k:=o_;go_wp2;go_roundw
    case rel=>exact⟨i+1,hlt,by go_num,b5,zaa λb' c9 o ho=>by
     rw[g3.out]at c9;rcases List.mem_append.1 c9 with c9|c9
     .exact HN.out b' c9 o ho
     .simp only[List.mem_singleton]at c9;rw[c9];have:=d5.out;rw[List.take_length]at this;exact this o ho⟩
    case measure=>simp[intOf];omega
   have g2:=zaa (List.getElem_mem b4);have d6:=zaa (List.take_succ_eq_append_getElem b4);have f9:=zaa (zaf e5.out b5.out λ_ _ h=>h);obtain⟨ga,hA,e1,f5⟩:=zfs f9.out b4;obtain⟨g6,e8,-,e7⟩:=zfs f9.out hlt;subst hA;obtain rfl:ga=g6:=by
    simp only[Option.some.injEq,Addr.mk.injEq,and_true]at e8;exact e8
   clear e8;rw[g4.out]at e7;generalize L[k]=o at*;have f1:=e0.out o g2.out;have f4:=e0.out b f7.out;have f0:=e4.out b f7.out;have e9:Hid (∀W' (f:Fr No wr W'),Calls Tryz.prog 20 #[.pointer (some ⟨m.wb,0,none⟩),.int .i64 o,.agg #[.int .u8 4,.int .i64 0,.string ⟨#[]⟩,.slice none 0 0,.int .i64 b]] W' (zt1 m o b W')):=zaa λW' f=>zsx (g5.out.no (b5.out.trans f)) g1.out f1 f4 f0;have a5:Hid (∀w':World,Fr No wr w'->(λw'=>ga<w'.heap.size/\w'.cell? ⟨ga,k,none⟩=some (.int .i64 o)/\w'.cell? ⟨ga,i,none⟩=some (.int .i64 b)) w'):=zaa λw' f=>⟨Nat.lt_of_lt_of_le e1 f.size,(f.cell e1 λh=>h).trans f5,(f.cell e1 λh=>h).trans e7⟩;have e6:Hid (∀x,m.get b=some x->x.2.v.v.ok=true):=zaa λx hx=>zlg (g1.out b x hx).v;clear f1 f4 f0;go_upto_region 7 with(fail);clear f5 e7 e1;refine wp_region_held_drew (S:=λw'=>ga<w'.heap.size/\w'.cell? ⟨ga,k,none⟩=some (.int .i64 o)/\w'.cell? ⟨ga,i,none⟩=some (.int .i64 b)) k_ ?_ (λhHeld=>?_)
   .exact a5.out _ ((Fr.refl No wr).drew)
   refine t_ 0 ?_;try simp only[Act.put,lp_]
   refine t_ 1 ?_;try simp only[Act.put,lp_]
   refine t_ 2 ?_;try simp only[Act.put,lp_]
   refine t_ 3 ?_;try simp only[Act.put,lp_]
   refine t_ 4 ?_;try simp only[Act.put,lp_]
   refine t_ 5 ?_;try simp only[Act.put,lp_]
   refine t_ 6 ?_;try simp only[Act.put,lp_]
   refine t_ 7 ?_;try simp only[Act.put,lp_]
   refine t_ 8 ?_;try simp only[Act.put,lp_]
   refine wpAnyH_ready (rs:=[9,14]) k_ s_ ?_;refine AllReadyH.cons rfl (λK hK=>?_) (AllReadyH.cons rfl (λK hK=>?_) AllReadyH.nil)
   .go_simp;refine(zmg b _).mono ?_;rintro e w2 ⟨rfl,f2⟩;have a9:=zaa (((Fr.refl No wr).drew).trans f2);clear f2;refine hK.out _ _ ?_ (λhHeld2=>?_)
    .exact a5.out _ a9.out
    clear hK K hHeld;have hHeld:=hHeld2;clear hHeld2;try simp only[Act.put,lp_]
    refine wpAnyH_ready (rs:=[10,14]) k_ s_ ?_;refine AllReadyH.cons rfl (λK hK=>?_) (AllReadyH.cons rfl (λK hK=>?_) AllReadyH.nil)
    .go_simp;refine(e9.out _ a9.out).mono ?_;rintro e w3 ⟨⟨k1,n1,s1,A1,c1,l1,r1⟩,n,rfl,f3,c8,b8⟩;rw[T.val_mk];have b7:=zaa (a9.out.trans f3);have a4:=zaa c8;have b9:=zaa b8;have b6:=zaa (Nat.le_refl w3.heap.size);have d9:=zaa (a9.out).size;clear f3 c8 b8;refine hK.out _ _ ?_ (λhHeld2=>?_)
     .exact a5.out _ b7.out
     clear hK K hHeld;have hHeld:=hHeld2;clear hHeld2;try simp only[Act.put,lp_]
     refine t_ 11 ?_;try simp only[Act.put,lp_]
     refine t_ 12 ?_;try simp only[Act.put,lp_]
     refine t_ 13 ?_;try simp only[Act.put,lp_]
     refine wpAnyH_ready (rs:=[14]) k_ s_ ?_;refine AllReadyH.cons rfl (λK hK=>?_) AllReadyH.nil
     .go_simp;have b3:=zaa (b7.out.alloc (.cells #[.int .u8 0,.int .i64 0,.string ⟨#[]⟩,.slice none 0 0,.int .i64 0] 28));have a2:=zaa (Blk.new w3 28 #[.int .u8 0,.int .i64 0,.string ⟨#[]⟩,.slice none 0 0,.int .i64 0]);have c5:Hid (wr.heap.size<=w3.heap.size):=zaa b7.out.size;replace a4:=zaa (a4.out.no ((Fr.refl No w3).alloc (.cells #[.int .u8 0,.int .i64 0,.string ⟨#[]⟩,.slice none 0 0,.int .i64 0] 28)) (Nat.le_refl _));replace b6:Hid (w3.heap.size<=(w3.alloc (.cells #[.int .u8 0,.int .i64 0,.string ⟨#[]⟩,.slice none 0 0,.int .i64 0] 28)).heap.size):=zaa ((Fr.refl No w3).alloc (.cells #[.int .u8 0,.int .i64 0,.string ⟨#[]⟩,.slice none 0 0,.int .i64 0] 28)).size;generalize World.alloc w3 _=wa at*;refine hK.out _ _ ?_ (λhHeld2=>?_)
      .exact a5.out _ b3.out
      clear hK K hHeld;have hHeld:=hHeld2;clear hHeld2;try simp only[Act.put,lp_]
      refine wpAnyH_ready (rs:=[15]) k_ s_ ?_;refine AllReadyH.cons rfl (λK hK=>?_) AllReadyH.nil
      .obtain⟨d0,d1,d2,d3,d4,df⟩:=a2.out.cells5;have dq:=a2.out.lt;go_simp;have a7:=((((a2.out.set_ 0 (.int .u8 k1)).set_ 1 (.int .i64 n1)).set_ 2 (.string s1)).set_ 3 (.slice A1 l1.length c1)).set_ 4 (.int .i64 r1);have a3:Fr (λi=>i=w3.heap.size) wa _:=(((((Fr.refl (λi=>i=w3.heap.size) wa).set (p:=⟨w3.heap.size,0,none⟩) (λ_=>rfl) (.int .u8 k1)).set (p:=⟨w3.heap.size,1,none⟩) (λ_=>rfl) (.int .i64 n1)).set (p:=⟨w3.heap.size,2,none⟩) (λ_=>rfl) (.string s1)).set (p:=⟨w3.heap.size,3,none⟩) (λ_=>rfl) (.slice A1 l1.length c1)).set (p:=⟨w3.heap.size,4,none⟩) (λ_=>rfl) (.int .i64 r1);simp only[List.setIfInBounds_toArray,List.set_cons_zero,List.set_cons_succ]at a7;generalize World.setCell _ _ _=w5 at*;have a1:=zaa a7;have a6:Hid (Fr No wr w5):=zaa (b3.out.trans' a3 λi hi h=>by have h':i=w3.heap.size:=h;have:=c5.out;have e:wr.drew.heap.size=wr.heap.size:=rfl;omega);have b2:Hid ((T.mk k1 n1 s1 A1 c1 l1 r1).In w5 0 w3.heap.size):=zaa (T.In.keepT _ (T.In.more (Nat.zero_le _) (Nat.le_refl _) _ a4.out) λb0 hb0 o0=>a3.cell (by have:=(T.In.blocks _ a4.out b0 hb0).2;have:=b6.out;omega) (by have h1:=T.In.blocks _ a4.out b0 hb0;have:=d9.out;have:=c5.out;have e:wr.drew.heap.size=wr.heap.size:=rfl;intro h2;have h3:b0=w3.heap.size:=h2;omega));have d7:=zaa (Nat.le_trans b6.out a3.size);clear a7 a3 d0 d1 d2 d3 d4 df dq;refine hK.out _ _ ?_ (λhHeld2=>?_)
       .exact a5.out _ a6.out
       clear hK K hHeld;have hHeld:=hHeld2;clear hHeld2;try simp only[Act.put,lp_]
       refine t_ 16 ?_;try simp only[Act.put,lp_]
       refine wpAnyH_done k_ ?_ _;clear hHeld;have c0:w5.cell? ⟨w3.heap.size,0,none⟩=some (.int .u8 k1):=a1.out.cell 0;have f8:w5.cell? ⟨w3.heap.size,1,none⟩=some (.int .i64 n1):=a1.out.cell 1;have c2:w5.cell? ⟨w3.heap.size,2,none⟩=some (.string s1):=a1.out.cell 2;have c3:w5.cell? ⟨w3.heap.size,3,none⟩=some (.slice A1 l1.length c1):=a1.out.cell 3;have c4:w5.cell? ⟨w3.heap.size,4,none⟩=some (.int .i64 r1):=a1.out.cell 4;have cq:=a1.out.lt;by_cases hn:n=0
       case neg=>
        have g0:(n==0)=false:=by simpa using hn
        have d8:Hid (¬zk4 m q b o):=zaa λhp=>by
         rcases b9.out with⟨h1,_⟩|⟨_,h2⟩
         .exact hn h1
         .exact h2 hp.1
        clear hn;go_wp2_with fail;go_roundw
        case rel=>exact⟨k+1,b4,by go_num,zaa (b5.out.trans a6.out),zaa λo' a0=>by
         rw[d6.out]at a0;rcases List.mem_append.1 a0 with a0|a0
         .exact d5.out o' a0
         .simp only[List.mem_singleton]at a0;rw[a0];exact d8.out⟩
        case measure=>simp[intOf];omega
       subst hn;have c6:Hid (zit m o b/\∀x,m.get b=some x->(T.mk k1 n1 s1 A1 c1 l1 r1).v=x.2.v.v):=zaa (by
        rcases b9.out with⟨_,h1,h2⟩|⟨h1,_⟩
        .exact⟨h1,h2⟩
        .exact absurd rfl h1)
       have a8:Hid ((T.mk k1 n1 s1 A1 c1 l1 r1).v.ok=true):=zaa (by
        obtain⟨⟨x,y,hx,_⟩,h2⟩:=c6.out;rw[h2 x hx];exact e6.out x hx)
       have b1:=zaa (zhf q (T.mk k1 n1 s1 A1 c1 l1 r1) w5 0 w3.heap.size a8.out b2.out d7.out);rw[T.val_mk]at b1;obtain⟨d,hd⟩:∃d,decide (q∈(T.mk k1 n1 s1 A1 c1 l1 r1).v.rf)=d:=⟨_,rfl⟩;rw[hd]at b1;have HD:=zaa hd;clear hd;go_wp2_with fail;refine b1.out.mono ?_;rintro e w6 ⟨rfl,f6⟩;have c7:=zaa (b5.out.trans (a6.out.trans f6));clear f6;cases d with
       |true=>
        go_wp2;go_ret;exact⟨true,rfl,λ_=>rfl,c7.out⟩
       |false=>
        go_wp2;go_roundw
        case rel=>exact⟨k+1,b4,by go_num,c7,zaa λo' a0=>by
         rw[d6.out]at a0;rcases List.mem_append.1 a0 with a0|a0
         .exact d5.out o' a0
         .simp only[List.mem_singleton]at a0;rw[a0];rintro⟨-,x,hx,hq⟩;rw[<-c6.out.2 x hx]at hq;exact of_decide_eq_false HD.out hq⟩
        case measure=>simp[intOf];omega
    .go_simp;have b3:=zaa (a9.out.alloc (.cells #[.int .u8 0,.int .i64 0,.string ⟨#[]⟩,.slice none 0 0,.int .i64 0] 28));have a2:=zaa (Blk.new w2 28 #[.int .u8 0,.int .i64 0,.string ⟨#[]⟩,.slice none 0 0,.int .i64 0]);have c5:Hid (wr.heap.size<=w2.heap.size):=zaa a9.out.size;generalize World.alloc w2 _=wa at*;refine hK.out _ _ ?_ (λhHeld2=>?_)
     .exact a5.out _ b3.out
     clear hK K hHeld;have hHeld:=hHeld2;clear hHeld2;try simp only[Act.put,lp_]
     refine wpAnyH_ready (rs:=[10]) k_ s_ ?_;refine AllReadyH.cons rfl (λK hK=>?_) AllReadyH.nil
     .go_simp;refine(e9.out _ b3.out).mono ?_;rintro e w3 ⟨⟨k1,n1,s1,A1,c1,l1,r1⟩,n,rfl,f3,c8,b8⟩;rw[T.val_mk];have b7:=zaa (b3.out.trans f3);have a4:=zaa c8;have b9:=zaa b8;have b6:=zaa (Nat.le_refl w3.heap.size);have d9:=zaa (b3.out).size;have e3:=zaa a2.out.lt;replace a2:=zaa (a2.out.fr f3 λh=>h);clear f3 c8 b8;refine hK.out _ _ ?_ (λhHeld2=>?_)
      .exact a5.out _ b7.out
      clear hK K hHeld;have hHeld:=hHeld2;clear hHeld2;try simp only[Act.put,lp_]
      refine t_ 11 ?_;try simp only[Act.put,lp_]
      refine t_ 12 ?_;try simp only[Act.put,lp_]
      refine t_ 13 ?_;try simp only[Act.put,lp_]
      refine wpAnyH_ready (rs:=[15]) k_ s_ ?_;refine AllReadyH.cons rfl (λK hK=>?_) AllReadyH.nil
      .obtain⟨d0,d1,d2,d3,d4,df⟩:=a2.out.cells5;have dq:=a2.out.lt;go_simp;have a7:=((((a2.out.set_ 0 (.int .u8 k1)).set_ 1 (.int .i64 n1)).set_ 2 (.string s1)).set_ 3 (.slice A1 l1.length c1)).set_ 4 (.int .i64 r1);have a3:Fr (λi=>i=w2.heap.size) w3 _:=(((((Fr.refl (λi=>i=w2.heap.size) w3).set (p:=⟨w2.heap.size,0,none⟩) (λ_=>rfl) (.int .u8 k1)).set (p:=⟨w2.heap.size,1,none⟩) (λ_=>rfl) (.int .i64 n1)).set (p:=⟨w2.heap.size,2,none⟩) (λ_=>rfl) (.string s1)).set (p:=⟨w2.heap.size,3,none⟩) (λ_=>rfl) (.slice A1 l1.length c1)).set (p:=⟨w2.heap.size,4,none⟩) (λ_=>rfl) (.int .i64 r1);simp only[List.setIfInBounds_toArray,List.set_cons_zero,List.set_cons_succ]at a7;generalize World.setCell _ _ _=w5 at*;have a1:=zaa a7;have a6:Hid (Fr No wr w5):=zaa (b7.out.trans' a3 λi hi h=>by have h':i=w2.heap.size:=h;have:=c5.out;have e:wr.drew.heap.size=wr.heap.size:=rfl;omega);have b2:Hid ((T.mk k1 n1 s1 A1 c1 l1 r1).In w5 0 w3.heap.size):=zaa (T.In.keepT _ (T.In.more (Nat.zero_le _) (Nat.le_refl _) _ a4.out) λb0 hb0 o0=>a3.cell (by have:=(T.In.blocks _ a4.out b0 hb0).2;have:=b6.out;omega) (by have:=e3.out;have h1:=T.In.blocks _ a4.out b0 hb0;have:=d9.out;have:=c5.out;have e:wr.drew.heap.size=wr.heap.size:=rfl;intro h2;have h3:b0=w2.heap.size:=h2;omega));have d7:=zaa (Nat.le_trans b6.out a3.size);clear a7 a3 d0 d1 d2 d3 d4 df dq;refine hK.out _ _ ?_ (λhHeld2=>?_)
       .exact a5.out _ a6.out
       clear hK K hHeld;have hHeld:=hHeld2;clear hHeld2;try simp only[Act.put,lp_]
       refine t_ 16 ?_;try simp only[Act.put,lp_]
       refine wpAnyH_done k_ ?_ _;clear hHeld;have c0:w5.cell? ⟨w2.heap.size,0,none⟩=some (.int .u8 k1):=a1.out.cell 0;have f8:w5.cell? ⟨w2.heap.size,1,none⟩=some (.int .i64 n1):=a1.out.cell 1;have c2:w5.cell? ⟨w2.heap.size,2,none⟩=some (.string s1):=a1.out.cell 2;have c3:w5.cell? ⟨w2.heap.size,3,none⟩=some (.slice A1 l1.length c1):=a1.out.cell 3;have c4:w5.cell? ⟨w2.heap.size,4,none⟩=some (.int .i64 r1):=a1.out.cell 4;have cq:=a1.out.lt;by_cases hn:n=0
       case neg=>
        have g0:(n==0)=false:=by simpa using hn
        have d8:Hid (¬zk4 m q b o):=zaa λhp=>by
         rcases b9.out with⟨h1,_⟩|⟨_,h2⟩
         .exact hn h1
         .exact h2 hp.1
        clear hn;go_wp2_with fail;go_roundw
        case rel=>exact⟨k+1,b4,by go_num,zaa (b5.out.trans a6.out),zaa λo' a0=>by
         rw[d6.out]at a0;rcases List.mem_append.1 a0 with a0|a0
         .exact d5.out o' a0
         .simp only[List.mem_singleton]at a0;rw[a0];exact d8.out⟩
        case measure=>simp[intOf];omega
       subst hn;have c6:Hid (zit m o b/\∀x,m.get b=some x->(T.mk k1 n1 s1 A1 c1 l1 r1).v=x.2.v.v):=zaa (by
        rcases b9.out with⟨_,h1,h2⟩|⟨h1,_⟩
        .exact⟨h1,h2⟩
        .exact absurd rfl h1)
       have a8:Hid ((T.mk k1 n1 s1 A1 c1 l1 r1).v.ok=true):=zaa (by
        obtain⟨⟨x,y,hx,_⟩,h2⟩:=c6.out;rw[h2 x hx];exact e6.out x hx)
       have b1:=zaa (zhf q (T.mk k1 n1 s1 A1 c1 l1 r1) w5 0 w3.heap.size a8.out b2.out d7.out);rw[T.val_mk]at b1;obtain⟨d,hd⟩:∃d,decide (q∈(T.mk k1 n1 s1 A1 c1 l1 r1).v.rf)=d:=⟨_,rfl⟩;rw[hd]at b1;have HD:=zaa hd;clear hd;go_wp2_with fail;refine b1.out.mono ?_;rintro e w6 ⟨rfl,f6⟩;have c7:=zaa (b5.out.trans (a6.out.trans f6));clear f6;cases d with
       |true=>
        go_wp2;go_ret;exact⟨true,rfl,λ_=>rfl,c7.out⟩
       |false=>
        go_wp2;go_roundw
        case rel=>exact⟨k+1,b4,by go_num,c7,zaa λo' a0=>by
         rw[d6.out]at a0;rcases List.mem_append.1 a0 with a0|a0
         .exact d5.out o' a0
         .simp only[List.mem_singleton]at a0;rw[a0];rintro⟨-,x,hx,hq⟩;rw[<-c6.out.2 x hx]at hq;exact of_decide_eq_false HD.out hq⟩
        case measure=>simp[intOf];omega
   .go_simp;have b3:=zaa (((Fr.refl No wr).alloc (.cells #[.int .u8 0,.int .i64 0,.string ⟨#[]⟩,.slice none 0 0,.int .i64 0] 28)).drew);have a2:=zaa ((Blk.new wr 28 #[.int .u8 0,.int .i64 0,.string ⟨#[]⟩,.slice none 0 0,.int .i64 0]).drew);have c5:=zaa (Nat.le_refl wr.heap.size);generalize World.drew (World.alloc wr _)=wa at*;refine hK.out _ _ ?_ (λhHeld2=>?_)
    .exact a5.out _ b3.out
    clear hK K hHeld;have hHeld:=hHeld2;clear hHeld2;try simp only[Act.put,lp_]
    refine wpAnyH_ready (rs:=[9]) k_ s_ ?_;refine AllReadyH.cons rfl (λK hK=>?_) AllReadyH.nil
    .go_simp;refine(zmg b _).mono ?_;rintro e w2 ⟨rfl,f2⟩;have a9:=zaa (b3.out.trans f2);replace a2:=zaa (a2.out.fr f2 λh=>h);clear f2;refine hK.out _ _ ?_ (λhHeld2=>?_)
     .exact a5.out _ a9.out
     clear hK K hHeld;have hHeld:=hHeld2;clear hHeld2;try simp only[Act.put,lp_]
     refine wpAnyH_ready (rs:=[10]) k_ s_ ?_;refine AllReadyH.cons rfl (λK hK=>?_) AllReadyH.nil
     .go_simp;refine(e9.out _ a9.out).mono ?_;rintro e w3 ⟨⟨k1,n1,s1,A1,c1,l1,r1⟩,n,rfl,f3,c8,b8⟩;rw[T.val_mk];have b7:=zaa (a9.out.trans f3);have a4:=zaa c8;have b9:=zaa b8;have b6:=zaa (Nat.le_refl w3.heap.size);have d9:=zaa (a9.out).size;have e3:=zaa a2.out.lt;replace a2:=zaa (a2.out.fr f3 λh=>h);clear f3 c8 b8;refine hK.out _ _ ?_ (λhHeld2=>?_)
      .exact a5.out _ b7.out
      clear hK K hHeld;have hHeld:=hHeld2;clear hHeld2;try simp only[Act.put,lp_]
      refine t_ 11 ?_;try simp only[Act.put,lp_]
      refine t_ 12 ?_;try simp only[Act.put,lp_]
      refine t_ 13 ?_;try simp only[Act.put,lp_]
      refine wpAnyH_ready (rs:=[15]) k_ s_ ?_;refine AllReadyH.cons rfl (λK hK=>?_) AllReadyH.nil
      .obtain⟨d0,d1,d2,d3,d4,df⟩:=a2.out.cells5;have dq:=a2.out.lt;go_simp;have a7:=((((a2.out.set_ 0 (.int .u8 k1)).set_ 1 (.int .i64 n1)).set_ 2 (.string s1)).set_ 3 (.slice A1 l1.length c1)).set_ 4 (.int .i64 r1);have a3:Fr (λi=>i=wr.heap.size) w3 _:=(((((Fr.refl (λi=>i=wr.heap.size) w3).set (p:=⟨wr.heap.size,0,none⟩) (λ_=>rfl) (.int .u8 k1)).set (p:=⟨wr.heap.size,1,none⟩) (λ_=>rfl) (.int .i64 n1)).set (p:=⟨wr.heap.size,2,none⟩) (λ_=>rfl) (.string s1)).set (p:=⟨wr.heap.size,3,none⟩) (λ_=>rfl) (.slice A1 l1.length c1)).set (p:=⟨wr.heap.size,4,none⟩) (λ_=>rfl) (.int .i64 r1);simp only[List.setIfInBounds_toArray,List.set_cons_zero,List.set_cons_succ]at a7;generalize World.setCell _ _ _=w5 at*;have a1:=zaa a7;have a6:Hid (Fr No wr w5):=zaa (b7.out.trans' a3 λi hi h=>by have h':i=wr.heap.size:=h;have:=c5.out;have e:wr.drew.heap.size=wr.heap.size:=rfl;omega);have b2:Hid ((T.mk k1 n1 s1 A1 c1 l1 r1).In w5 0 w3.heap.size):=zaa (T.In.keepT _ (T.In.more (Nat.zero_le _) (Nat.le_refl _) _ a4.out) λb0 hb0 o0=>a3.cell (by have:=(T.In.blocks _ a4.out b0 hb0).2;have:=b6.out;omega) (by have:=e3.out;have h1:=T.In.blocks _ a4.out b0 hb0;have:=d9.out;have:=c5.out;have e:wr.drew.heap.size=wr.heap.size:=rfl;intro h2;have h3:b0=wr.heap.size:=h2;omega));have d7:=zaa (Nat.le_trans b6.out a3.size);clear a7 a3 d0 d1 d2 d3 d4 df dq;refine hK.out _ _ ?_ (λhHeld2=>?_)
       .exact a5.out _ a6.out
       clear hK K hHeld;have hHeld:=hHeld2;clear hHeld2;try simp only[Act.put,lp_]
       refine t_ 16 ?_;try simp only[Act.put,lp_]
       refine wpAnyH_done k_ ?_ _;clear hHeld;have c0:w5.cell? ⟨wr.heap.size,0,none⟩=some (.int .u8 k1):=a1.out.cell 0;have f8:w5.cell? ⟨wr.heap.size,1,none⟩=some (.int .i64 n1):=a1.out.cell 1;have c2:w5.cell? ⟨wr.heap.size,2,none⟩=some (.string s1):=a1.out.cell 2;have c3:w5.cell? ⟨wr.heap.size,3,none⟩=some (.slice A1 l1.length c1):=a1.out.cell 3;have c4:w5.cell? ⟨wr.heap.size,4,none⟩=some (.int .i64 r1):=a1.out.cell 4;have cq:=a1.out.lt;by_cases hn:n=0
       case neg=>
        have g0:(n==0)=false:=by simpa using hn
        have d8:Hid (¬zk4 m q b o):=zaa λhp=>by
         rcases b9.out with⟨h1,_⟩|⟨_,h2⟩
         .exact hn h1
         .exact h2 hp.1
        clear hn;go_wp2_with fail;go_roundw
        case rel=>exact⟨k+1,b4,by go_num,zaa (b5.out.trans a6.out),zaa λo' a0=>by
         rw[d6.out]at a0;rcases List.mem_append.1 a0 with a0|a0
         .exact d5.out o' a0
         .simp only[List.mem_singleton]at a0;rw[a0];exact d8.out⟩
        case measure=>simp[intOf];omega
       subst hn;have c6:Hid (zit m o b/\∀x,m.get b=some x->(T.mk k1 n1 s1 A1 c1 l1 r1).v=x.2.v.v):=zaa (by
        rcases b9.out with⟨_,h1,h2⟩|⟨h1,_⟩
        .exact⟨h1,h2⟩
        .exact absurd rfl h1)
       have a8:Hid ((T.mk k1 n1 s1 A1 c1 l1 r1).v.ok=true):=zaa (by
        obtain⟨⟨x,y,hx,_⟩,h2⟩:=c6.out;rw[h2 x hx];exact e6.out x hx)
       have b1:=zaa (zhf q (T.mk k1 n1 s1 A1 c1 l1 r1) w5 0 w3.heap.size a8.out b2.out d7.out);rw[T.val_mk]at b1;obtain⟨d,hd⟩:∃d,decide (q∈(T.mk k1 n1 s1 A1 c1 l1 r1).v.rf)=d:=⟨_,rfl⟩;rw[hd]at b1;have HD:=zaa hd;clear hd;go_wp2_with fail;refine b1.out.mono ?_;rintro e w6 ⟨rfl,f6⟩;have c7:=zaa (b5.out.trans (a6.out.trans f6));clear f6;cases d with
       |true=>
        go_wp2;go_ret;exact⟨true,rfl,λ_=>rfl,c7.out⟩
       |false=>
        go_wp2;go_roundw
        case rel=>exact⟨k+1,b4,by go_num,c7,zaa λo' a0=>by
         rw[d6.out]at a0;rcases List.mem_append.1 a0 with a0|a0
         .exact d5.out o' a0
         .simp only[List.mem_singleton]at a0;rw[a0];rintro⟨-,x,hx,hq⟩;rw[<-c6.out.2 x hx]at hq;exact of_decide_eq_false HD.out hq⟩
        case measure=>simp[intOf];omega
structure FW (m:Gm) (lo n:Nat) (W:World):Prop where
 ok:m.Ok lo W
 lo1:lo<=W.heap.size
 fs:m.Fs
 mays:∀x∈m.th,x.2.2.Mays
 bnd:m.last<=600000+(n:Int)/\m.th.length<=600000+n/\m.fac.length<=600000+n
section
variable {m m':Gm} {lo n:Nat} {W W':World} {r q t:Int} {a b c s:Nat}
def zzu (m:Gm) (lo n:Nat) (t:Int) (c:Nat) (W:World) (e:Ending) (w':World):Prop:=
 ∃(q:Int) (m':Gm) (y:Nat×Tg),e= .returned (.tuple #[.int .i64 q,.int .i64 0])/\m.Ext m'/\FW m' lo (n+1) w'/\m'.get q=some y/\m'.root q=t/\m'.Abl q c/\Fr (λi=>lo<=i) W w'/\Fr m.B W w'
end
def zzv (S:List Nat):Nat:=S.foldl (λa b=>a&&&b) 63
section
variable {m m':Gm} {lo n:Nat} {W W':World} {r q t:Int} {a b c s:Nat}
end
end Go.Proofs.YtlejelbefmkakaaGreat

/- Texts joined: P11, Wo3, E5, R0, E7, E8, E9, Wo5, Wo6. -/
import Derived.Test.YtlejelbefmkakaaGreatJn1
import Derived.Test.YtlejelbefmkakaaGreatJn2
import Derived.Test.YtlejelbefmkakaaGreatJn3
import Derived.Deep.RegionHeld3
import Derived.Deep.RegionLawGrows
import Derived.Deep.AppendLies
import Derived.LoopN
import Derived.Deep.Quiet
import Derived.BigQuiet
set_option maxHeartbeats 4000000
set_option maxRecDepth 100000
namespace Go.Proofs.YtlejelbefmkakaaGreat
open Go.RowKit
theorem zr5 (t:T) (w:World) (lo hi:Nat) (ht:t.In w lo hi) (hh:hi<=w.heap.size):Calls Tryz.prog 275 #[t.val] w λe w'=>e= .returned (.bool (!t.v.may))/\Fr No w w':=by
 have IH:=λw' h h'=>zca t w' lo hi h h';cases t with
 |mk k n s A cap l r=>
  rw[T.val_mk]at*;generalize (T.mk k n s A cap l r).v.may=z at*;cases z;all_goals
   go_enter Tryz.func275,Tryz.ntmps275;go_wp2_with fail;refine(IH _ (ht.no ((Fr.refl No w).alloc _) hh) so_).mono ?_;rintro e w2 ⟨rfl,a0⟩;go_wp2;go_ret;exact⟨rfl,((Fr.refl No w).alloc _).trans a0⟩
theorem zm8 (A:Option Addr) (cap:Nat) (l:List T) (w:World) (lo hi:Nat) (ht:(T.row A cap l).In w lo hi) (hh:hi<=w.heap.size):
 Calls Tryz.prog 283 #[.slice A l.length cap,.func (.func 275) #[] #[]] w λe w'=>(∃z:Int,e= .returned (.int .i64 z)/\((0<=z/\(l.map T.v).all V.may=false)\/(z= -1/\(l.map T.v).all V.may=true)))/\Fr No w w':=by
 have b0:=(T.in_mk.1 ht).1.len1;have hB:=zr5;go_enter Tryz.func283,Tryz.ntmps283;go_wp2_with fail;go_loopw [8] (λi wr=>∃j:Nat,j<=l.length/\i= .int .i64 j/\Fr No w wr/\∀v∈(l.map T.v).take j,v.may=true) (λi _=>l.length - (intOf i).toNat)
 case atStart=>exact⟨0,Nat.zero_le _,rfl,Fr.refl _ _,by simp⟩
 case round=>
  obtain⟨j,hj,rfl,fr,a0⟩:=hrel;have HA:=zaa a0;have b3:=fr.size;clear a0;by_cases hlt:j<l.length
  .obtain⟨b,o,k1,n1,s1,A1,a3,l1,r1,rfl,b2,b4,hx,a6,e0,e1,e2,e3,e4⟩:=T.elem (ht.no fr hh) hlt;have hc:=hB l[j] wr lo hi (by rw[hx];exact a6) o_;have a7:j<(l.map T.v).length:=by simpa using hlt
   have a4:(l.map T.v)[j]=(T.mk k1 n1 s1 A1 a3 l1 r1).v:=by rw[List.getElem_map,hx]
   rw[hx,T.val_mk]at hc;generalize (T.mk k1 n1 s1 A1 a3 l1 r1).v=u at*;have g0:b<wr.heap.size:=o_;have a8:(l.map T.v).take (j+1)=(l.map T.v).take j++[u]:=by rw[List.take_succ_eq_append_getElem a7,a4]
   have a2:u∈l.map T.v:=by rw[<-a4];exact List.getElem_mem a7
   have HT:=zaa a8;have HM:=zaa a2;have HF:=zaa fr;clear hx a4 a8 a2 fr a6 hB ht;cases hm:u.may with
   |false=>
    rw[hm]at hc;have HC:=zaa hc;have a9:(l.map T.v).all V.may=false:=by
     rw[Bool.eq_false_iff];intro h;rw[List.all_eq_true.1 h u HM.out]at hm;cases hm
    have HN:=zaa a9;clear hc a9 hm;go_wp2_with fail;refine HC.out.mono ?_;rintro e w2 ⟨rfl,f2⟩;have a5:=zaa (HF.out.trans f2);clear f2;go_wp2;go_ret;exact⟨⟨_,rfl,.inl ⟨by omega,HN.out⟩⟩,a5.out⟩
   |true=>
    rw[hm]at hc;have HC:=zaa hc;have b1:=zaa hm;clear hc hm;go_wp2_with fail;refine HC.out.mono ?_;rintro e w2 ⟨rfl,f2⟩;have a5:=zaa (HF.out.trans f2);clear f2;go_wp2;go_roundw
    case rel=>
     refine⟨j+1,hlt,by go_num,a5.out,λv hv=>?_⟩;rw[HT.out]at hv;rcases List.mem_append.1 hv with hv|hv
     .exact HA.out v hv
     .simp at hv;subst hv;exact b1.out
    case measure=>simp[intOf];omega
  .obtain rfl:l.length=j:=o_;have a1:(l.map T.v).all V.may=true:=List.all_eq_true.2 λv hv=>HA.out v (by rw[List.take_of_length_le s_];exact hv);have HY:=zaa a1;have HF:=zaa fr;clear fr a1 ht hB;go_wp2;go_ret;exact⟨⟨-1,rfl,.inr ⟨rfl,HY.out⟩⟩,HF.out⟩
theorem zin (A:Option Addr) (cap:Nat) (l:List T) (w:World) (lo hi:Nat) (ht:(T.row A cap l).In w lo hi) (hh:hi<=w.heap.size):
 Calls Tryz.prog 274 #[.slice A l.length cap,.func (.func 275) #[] #[]] w λe w'=>e= .returned (.bool (!(l.map T.v).all V.may))/\Fr No w w':=by
 have hI:=zm8 A cap l w lo hi ht hh;generalize (l.map T.v).all V.may=q at*;clear ht;go_enter Tryz.func274,Tryz.ntmps274;go_wp2_with fail;refine hI.mono ?_;rintro e w2 ⟨⟨z,rfl,hz⟩,a0⟩;rcases hz with⟨h0,rfl⟩|⟨rfl,rfl⟩
 .have h1:decide ((0:Int)<=z)=true:=by simpa using h0
  go_wp2;go_ret;exact⟨rfl,a0⟩
 .go_wp2;go_ret;exact⟨rfl,a0⟩
theorem zr6 (A:Option Addr) (cap:Nat) (l:List T) (w:World) (lo hi:Nat) (ht:(T.row A cap l).In w lo hi) (hh:hi<=w.heap.size):
 Calls Tryz.prog 255 #[.slice A l.length cap] w λe w'=>e= .returned (.bool ((l.map T.v).all V.may))/\Fr No w w':=by
 have hI:=zin A cap l w lo hi ht hh;generalize (l.map T.v).all V.may=q at*;clear ht;cases q;all_goals
  go_enter Tryz.func255,Tryz.ntmps255;go_wp2_with fail;refine hI.mono ?_;rintro e w2 ⟨rfl,a0⟩;go_wp2;go_ret;exact⟨rfl,a0⟩
def ofV (l:List V):V×Int:=if l.all V.may=true then(if(V.mk 3 0 ⟨#[]⟩ l 0).may=true then(V.mk 3 0 ⟨#[]⟩ l 0,0)else(V.zero,4))else(V.zero,2)
theorem T.row_v (A:Option Addr) (cap:Nat) (l:List T):(T.row A cap l).v=V.mk 3 0 ⟨#[]⟩ (l.map T.v) 0:=by rw[T.row,T.v_mk]
def InE (v:V) (n:Int) (w:World) (e:Ending) (w':World):Prop:=
 ∃t':T,e= .returned (.tuple #[t'.val,.int .i64 n])/\t'.v=v/\t'.In w' w.heap.size w'.heap.size/\Fr No w w'
theorem zo6 (A:Option Addr) (cap:Nat) (l:List T) (w:World) (lo hi:Nat) (ht:(T.row A cap l).In w lo hi) (hh:hi<=w.heap.size):
 Calls Tryz.prog 209 #[.slice A l.length cap] w (zvf (ofV (l.map T.v)).1 (ofV (l.map T.v)).2 w):=by
 have hA:=λw' h h'=>zr6 A cap l w' lo hi h h';have hM:=λw' h h'=>zca (T.row A cap l) w' lo hi h h';have hO:=λw' h h'=>zl1 (T.row A cap l) w' lo hi h h';rw[T.row_v]at hM hO;have b1:(T.row A cap l).val= .agg #[.int .u8 3,.int .i64 0,.string ⟨#[]⟩,.slice A l.length cap,.int .i64 0]:=rfl;rw[b1]at hM hO;clear b1;have a1:=(Fr.refl No w).alloc (.cells #[.int .u8 0,.int .i64 0,.string ⟨#[]⟩,.slice none 0 0,.int .i64 0] 28);have a3:=Blk.new w 28 #[.int .u8 0,.int .i64 0,.string ⟨#[]⟩,.slice none 0 0,.int .i64 0];have a2:=ht.no a1 hh;have d6:w.heap.size<(w.alloc (.cells #[.int .u8 0,.int .i64 0,.string ⟨#[]⟩,.slice none 0 0,.int .i64 0] 28)).heap.size:=s_;clear ht;cases ha:(l.map T.v).all V.may with
 |false=>
  have e1:ofV (l.map T.v)=(V.zero,2):=by simp only[ofV];rw[ha];rfl
  rw[e1];rw[ha]at hA;clear ha e1 hM hO;go_enter Tryz.func209,Tryz.ntmps209;go_wp2_with fail;generalize World.alloc w _=w0 at*;refine(hA w0 a2 o_).mono ?_;rintro e w2 ⟨rfl,f2⟩;have a0:=a3.fr f2 λh=>h;obtain⟨d0,d1,d2,d3,d4,df⟩:=a0.cells5;have q0:=a0.lt;have HF:=zaa (a1.trans f2);clear hA a2 a3 a1 f2 a0;go_wp2;refine bodyPost_ret (v:=.tuple #[.agg #[.int .u8 0,.int .i64 0,.string ⟨#[]⟩,.slice none 0 0,.int .i64 0],.int .i64 2]) (by simp[results,Tryz.results209,go_sem, *]) rfl ?_;have a9:=HF.out;refine⟨T.zero,rfl,T.zero_v,T.zero_sh _ _ _,?_⟩;repeat(first|with_reducible exact a9|with_reducible refine Fr.setNew ?_ (Nat.le_refl _) _)
 |true=>
  rw[ha]at hA;cases hm:(V.mk 3 0 ⟨#[]⟩ (l.map T.v) 0).may with
  |false=>
   have e1:ofV (l.map T.v)=(V.zero,4):=by simp only[ofV];rw[ha,hm];rfl
   rw[e1];rw[hm]at hM;clear ha hm e1 hO;go_enter Tryz.func209,Tryz.ntmps209;go_wp2_with fail;generalize World.alloc w _=w0 at*;refine(hA w0 a2 o_).mono ?_;rintro e w2 ⟨rfl,f2⟩;have a0:=a3.fr f2 λh=>h;have a6:=a2.no f2 o_;have HF:=zaa (a1.trans f2);have c8:=(a1.trans f2).size;clear hA a2 a3 a1 f2;go_wp2_with fail;have f3:=(Fr.refl No w2).alloc (.cells #[.int .u8 3,.int .i64 0,.string ⟨#[]⟩,.slice A l.length cap,.int .i64 0] 28);have b5:=zaa (HF.out.trans f3);have b0:=a0.fr f3 λh=>h;have a5:=a6.no f3 o_;have c5:=f3.size;clear a0 a6 f3;generalize World.alloc w2 _=w3 at*;refine(hM w3 a5 o_).mono ?_;rintro e w4 ⟨rfl,f4⟩;have a4:=b0.fr f4 λh=>h;obtain⟨d0,d1,d2,d3,d4,df⟩:=a4.cells5;have q0:=a4.lt;have b4:=zaa (b5.out.trans f4);clear hM a5 b0 f4 a4;go_wp2;refine bodyPost_ret (v:=.tuple #[.agg #[.int .u8 0,.int .i64 0,.string ⟨#[]⟩,.slice none 0 0,.int .i64 0],.int .i64 4]) (by simp[results,Tryz.results209,go_sem, *]) rfl ?_;have a9:=b4.out;refine⟨T.zero,rfl,T.zero_v,T.zero_sh _ _ _,?_⟩;repeat(first|with_reducible exact a9|with_reducible refine Fr.setNew ?_ (Nat.le_refl _) _)
  |true=>
   have e1:ofV (l.map T.v)=(V.mk 3 0 ⟨#[]⟩ (l.map T.v) 0,0):=by simp only[ofV];rw[ha,hm];rfl
   rw[e1];rw[hm]at hM;generalize V.mk 3 0 ⟨#[]⟩ (l.map T.v) 0=u at*;clear ha hm e1;go_enter Tryz.func209,Tryz.ntmps209;go_wp2_with fail;generalize World.alloc w _=w0 at*;refine(hA w0 a2 o_).mono ?_;rintro e w2 ⟨rfl,f2⟩;have a0:=a3.fr f2 λh=>h;have a6:=a2.no f2 o_;have HF:=zaa (a1.trans f2);have c8:=(a1.trans f2).size;clear hA a2 a3 a1 f2;have c7:w.heap.size<w2.heap.size:=a0.lt;go_wp2_with fail;have f3:=(Fr.refl No w2).alloc (.cells #[.int .u8 3,.int .i64 0,.string ⟨#[]⟩,.slice A l.length cap,.int .i64 0] 28);have b5:=zaa (HF.out.trans f3);have b0:=a0.fr f3 λh=>h;have b7:=Blk.new w2 28 #[.int .u8 3,.int .i64 0,.string ⟨#[]⟩,.slice A l.length cap,.int .i64 0];have a5:=a6.no f3 o_;have c5:=f3.size;clear a0 a6 f3;generalize World.alloc w2 _=w3 at*;refine(hM w3 a5 o_).mono ?_;rintro e w4 ⟨rfl,f4⟩;have a4:=b0.fr f4 λh=>h;have b3:=b7.fr f4 λh=>h;have b6:=a5.no f4 o_;obtain⟨c0,c1,c2,c3,c4,-⟩:=b3.cells5;have qv:=b3.lt;have b4:=zaa (b5.out.trans f4);have d5:=f4.size;clear hM a5 b0 b7 f4 b3;go_wp2_with fail;refine(hO w4 b6 o_).mono ?_;rintro e w5 ⟨⟨k5,n5,s5,A5,a7,l5,r5⟩,rfl,b8,a8,f5⟩;rw[T.val_mk];have b2:=a4.fr f5 λh=>h;obtain⟨d0,d1,d2,d3,d4,df⟩:=b2.cells5;have q0:=b2.lt;have b9:=zaa (b4.out.trans f5);have HV:=zaa b8;have c6:=zaa a8;have c9:=f5.size;clear hO b6 a4 f5 b2 b8 a8 c0 c1 c2 c3 c4 qv;go_wp2;refine bodyPost_ret (v:=.tuple #[.agg #[.int .u8 k5,.int .i64 n5,.string s5,.slice A5 l5.length a7,.int .i64 r5],.int .i64 0]) (by simp[results,Tryz.results209,go_sem, *]) rfl ?_;have a9:=b9.out;refine⟨T.mk k5 n5 s5 A5 a7 l5 r5,rfl,HV.out,?_,?_⟩
   .refine(T.Sh.fr' (S:=(· =w.heap.size)) c6.out ?_ (λi h0 h1 h2=>by have h':i=w.heap.size:=h2;omega)).more o_ s_;repeat(first|with_reducible exact Fr.refl _ w5|with_reducible refine Fr.set ?_ s_ _)
   .repeat(first|with_reducible exact a9|with_reducible refine Fr.setNew ?_ (Nat.le_refl _) _)
theorem Blk.cells16 {w:World} {g:Nat} {t:TypeId} {x0 x1 x2 x3 x4 x5 x6 x7 x8 x9 x10 x11 x12 x13 x14 x15:Value} (h:Blk w g t #[x0,x1,x2,x3,x4,x5,x6,x7,x8,x9,x10,x11,x12,x13,x14,x15]):
 w.cell? ⟨g,0,none⟩=some x0/\w.cell? ⟨g,1,none⟩=some x1/\w.cell? ⟨g,2,none⟩=some x2/\w.cell? ⟨g,3,none⟩=some x3/\w.cell? ⟨g,4,none⟩=some x4/\w.cell? ⟨g,5,none⟩=some x5/\w.cell? ⟨g,6,none⟩=some x6/\w.cell? ⟨g,7,none⟩=some x7/\
 w.cell? ⟨g,8,none⟩=some x8/\w.cell? ⟨g,9,none⟩=some x9/\w.cell? ⟨g,10,none⟩=some x10/\w.cell? ⟨g,11,none⟩=some x11/\w.cell? ⟨g,12,none⟩=some x12/\w.cell? ⟨g,13,none⟩=some x13/\w.cell? ⟨g,14,none⟩=some x14/\w.cell? ⟨g,15,none⟩=some x15:=
 ⟨h.cell 0,h.cell 1,h.cell 2,h.cell 3,h.cell 4,h.cell 5,h.cell 6,h.cell 7,h.cell 8,h.cell 9,h.cell 10,h.cell 11,h.cell 12,h.cell 13,h.cell 14,h.cell 15⟩
def zb7:V->Bool
 | .mk k n s l r=>decide (k=0)&&decide (n=0)&&decide (s=⟨#[]⟩)&&decide (l.length=0)&&decide (r=0)
theorem zqp:(⟨#[]⟩:ByteArray).toList=[]:=by rw[ByteArray.toList_eq]
theorem zfc {a b:ByteArray} (h:a.toList=b.toList):a=b:=by
 obtain⟨⟨x⟩⟩:=a;obtain⟨⟨y⟩⟩:=b;rw[ByteArray.toList_eq,ByteArray.toList_eq]at h;simp at h;rw[h]
theorem zi1 (t:T) (W:World):Calls Tryz.prog 208 #[t.val] W λe w'=>e= .returned (.bool (zb7 t.v))/\Fr No W w':=by
 obtain⟨k,n,s,A,cap,l,r⟩:=t;rw[T.val_mk,T.v_mk];have hb:zb7 (.mk k n s (l.map T.v) r)=(decide (k=0)&&decide (n=0)&&decide (s=⟨#[]⟩)&&decide (l.length=0)&&decide (r=0)):=by simp[zb7]
 rw[hb];clear hb;have h0:=zqp;by_cases hk:k=0
 .by_cases hn:n=0
  .by_cases hs:s=⟨#[]⟩
   .by_cases hl:l.length=0
    .by_cases hr:r=0
     .subst hk hn hs hr;rw[hl];go_enter Tryz.func208,Tryz.ntmps208;go_wp2;go_ret;exact⟨rfl,(Fr.refl No W).alloc _⟩
     .have e1:(r==0)=false:=by simpa using hr
      subst hk hn hs;rw[hl];go_enter Tryz.func208,Tryz.ntmps208;go_wp2;go_ret;exact⟨by simp[hr],(Fr.refl No W).alloc _⟩
    .have e1:(l.length==0)=false:=by simpa using hl
     have e2:((l.length:Int)==0)=false:=by simpa using hl
     subst hk hn hs;go_enter Tryz.func208,Tryz.ntmps208;go_wp2;go_ret;exact⟨by simp[hl],(Fr.refl No W).alloc _⟩
   .have e1:(s.toList==[])=false:=by
     simp only[beq_eq_false_iff_ne,ne_eq];exact λh=>hs (zfc (by rw[h,h0]))
    subst hk hn;go_enter Tryz.func208,Tryz.ntmps208;go_wp2;go_ret;exact⟨by simp[hs],(Fr.refl No W).alloc _⟩
  .have e1:(n==0)=false:=by simpa using hn
   subst hk;go_enter Tryz.func208,Tryz.ntmps208;go_wp2;go_ret;exact⟨by simp[hn],(Fr.refl No W).alloc _⟩
 .have e1:(k==0)=false:=by simpa using hk
  go_enter Tryz.func208,Tryz.ntmps208;go_wp2;go_ret;exact⟨by simp[hk],(Fr.refl No W).alloc _⟩
theorem zlc (W:World):Calls Tryz.prog 209 #[.slice none 0 0] W λe w'=>(∃t:T,e= .returned (.tuple #[t.val,.int .i64 0]))/\Fr No W w':=by
 have a0:(T.row none 0 []).In W 0 0:=T.in_mk.2 ⟨⟨by decide,by decide,by decide,by decide,by decide,by decide,Nat.le_refl _,by decide,by decide⟩,λh=>absurd rfl h,by simp⟩;have h:=zo6 none 0 [] W 0 0 a0 (Nat.zero_le _);have he:(ofV (([]:List T).map T.v)).2=0:=by simp[ofV,V.may,V.fits,V.ok_mk,V.size_mk,V.dep_mk,fok,top]
 rw[he]at h;refine h.mono ?_;rintro e w' ⟨t',rfl,-,-,f⟩;exact⟨⟨t',rfl⟩,f⟩
theorem zd5:V.zero.may=true:=by simp[V.zero,V.may,V.fits,V.ok_mk,V.size_mk,V.dep_mk,fok,ByteArray.toList_eq]
theorem zmo (W:World):Calls Tryz.prog 86 #[T.zero.val] W λe w'=>e= .returned (.bool true)/\Fr No W w':=by
 have h:=zca T.zero W 0 0 (T.zero_ow _ _ _).inn (Nat.zero_le _);rw[T.zero_v,zd5]at h;exact h
theorem zlg {v:V} (h:v.may=true):v.ok=true:=by
 simp[V.may,V.fits]at h;exact h.1.1
structure Ints (w:World) (lo hi:Nat) (A:Option Addr) (cap:Nat) (p:List Int):Prop where
 len:p.length*8<=140737488351232
 cap:p.length<=cap
 at_:p≠[]->∃b o,A=some ⟨b,o,none⟩/\lo<=b/\b<hi/\∀i x,p[i]? =some x->w.cell? ⟨b,o+i,none⟩=some (.int .i64 x)
 rng:∀x∈p,-9223372036854775808<=x/\x<=9223372036854775807
theorem Ints.keep {w w':World} {lo hi:Nat} {A:Option Addr} {cap:Nat} {p:List Int} (h:Ints w lo hi A cap p) (hk:∀b o,lo<=b->b<hi->w'.cell? ⟨b,o,none⟩=w.cell? ⟨b,o,none⟩):Ints w' lo hi A cap p:=
 ⟨h.len,h.cap,λhne=>by
  obtain⟨b,o,hA,h0,h1,hc⟩:=h.at_ hne;exact⟨b,o,hA,h0,h1,λi x hx=>(hk b _ h0 h1).trans (hc i x hx)⟩,h.rng⟩
theorem Ints.fr {S:Nat->Prop} {w w':World} {lo hi:Nat} {A:Option Addr} {cap:Nat} {p:List Int} (h:Ints w lo hi A cap p) (hf:Fr S w w') (hh:hi<=w.heap.size) (hs:∀i,lo<=i->i<hi->¬S i):Ints w' lo hi A cap p:=
 h.keep λb _ h0 h1=>hf.cell o_ (hs b h0 h1)
theorem Ints.no {w w':World} {lo hi:Nat} {A:Option Addr} {cap:Nat} {p:List Int} (h:Ints w lo hi A cap p) (hf:Fr No w w') (hh:hi<=w.heap.size):Ints w' lo hi A cap p:=h.fr hf hh λ_ _ _ h=>h
theorem Ints.elem {w:World} {lo hi:Nat} {A:Option Addr} {cap:Nat} {p:List Int} (h:Ints w lo hi A cap p) {j:Nat} (hj:j<p.length):∃b o,A=some ⟨b,o,none⟩/\lo<=b/\b<hi/\w.cell? ⟨b,o+j,none⟩=some (.int .i64 p[j]):=by
 obtain⟨b,o,hA,h0,h1,hc⟩:=h.at_ (by rintro rfl;simp at hj);exact⟨b,o,hA,h0,h1,hc j _ (List.getElem?_eq_getElem hj)⟩
def V.list:V->List V
 | .mk _ _ _ l _=>l
def vAt:List Int->V->Option V
 |[],v=>some v
 |i::p,v=>if i<0 then none else(v.list[i.toNat]?).bind (vAt p)
def zzj (v:V) (p:List Int) (lo hi:Nat) (w:World) (e:Ending) (w':World):Prop:=
 Fr No w w'/\((∃t':T,e= .returned (.tuple #[t'.val,.bool true])/\vAt p v=some t'.v/\t'.In w' lo hi)\/(e= .returned (.tuple #[.agg #[.int .u8 0,.int .i64 0,.string ⟨#[]⟩,.slice none 0 0,.int .i64 0],.bool false])/\vAt p v=none))
structure FInv (v:V) (p:List Int) (lo hi:Nat) (w:World) (g:Nat) (j:Nat) (wr:World):Prop where
 fr:Fr No w wr
 z:Blk wr (g+1) 28 #[.int .u8 0,.int .i64 0,.string ⟨#[]⟩,.slice none 0 0,.int .i64 0]
 ex:∃k n s A cap l r,Blk wr g 28 #[.int .u8 k,.int .i64 n,.string s,.slice A (l:List T).length cap,.int .i64 r]/\(T.mk k n s A cap l r).In wr lo hi/\vAt p v=vAt (p.drop j) (T.mk k n s A cap l r).v
def zpa:List Nat->Nat
 |[]=>0
 |x::l=>max (x+1) (zpa l)
def V.ht:V->Nat
 | .mk _ _ _ l _=>zpa (l.map V.ht)
termination_by v=>v
theorem V.ht_mk (k n:Int) (s:ByteArray) (l:List V) (r:Int):(V.mk k n s l r).ht=zpa (l.map V.ht):=by rw[V.ht]
theorem zpb {l:List Nat} {x:Nat} (h:x∈l):x+1<=zpa l:=by
 induction l with
 |nil=>simp at h
 |cons y l ih=>
  rcases List.mem_cons.1 h with rfl|h
  .simp[zpa];omega
  .have:=ih h;simp[zpa];omega
theorem zkz {l:List Nat} {n:Nat} (h:∀x∈l,x+1<=n):zpa l<=n:=by
 induction l with
 |nil=>simp[zpa]
 |cons y l ih=>
  have h1:=h y s_;have h2:=ih λx hx=>h x (by simp[hx]);simp[zpa];omega
theorem ze3 {k n:Int} {s:ByteArray} {l:List V} {r:Int} {x:V} (h:x∈l):x.ht+1<=(V.mk k n s l r).ht:=by
 rw[V.ht_mk];exact zpb (List.mem_map_of_mem h)
theorem zha (v:V):v.dep<=v.ht+1:=by
 induction v using V.ind with
 |h k n s l r ih=>
  rw[V.dep_mk];by_cases h3:k=3
  .rw[if_pos h3];have:top (l.map V.dep)<=(V.mk k n s l r).ht:=zmh λd hd=>by
    obtain⟨x,hx,rfl⟩:=List.mem_map.1 hd;have h1:=ih x hx;have h2:=ze3 (k:=k) (n:=n) (s:=s) (r:=r) hx;omega
   omega
  .rw[if_neg h3];omega
theorem zjt (v:V):v.ok=true->v.ht<=v.dep:=by
 induction v using V.ind with
 |h k n s l r ih=>
  intro h;rw[V.ok_mk,Bool.and_eq_true]at h;rw[V.ht_mk,V.dep_mk];by_cases h3:k=3
  .rw[if_pos h3];refine zkz λx hx=>?_;obtain⟨y,hy,rfl⟩:=List.mem_map.1 hx;have h1:=ih y hy (List.all_eq_true.1 h.2 y hy);have h2:y.dep<=top (l.map V.dep):=zhk (List.mem_map_of_mem hy);omega
  .have:=List.eq_nil_of_length_eq_zero (ziu h3 h.1);subst this;simp[zpa]
def zcv (v:V) (d z:Nat):Prop:=1<=z/\z<=513+512*(17 - d)/\(z<=512->z=v.size/\v.ht+d<=16)/\(v.size<=512->v.ht+d<=16->z=v.size)
structure PInv (l:List V) (d j n:Nat):Prop where
 pos:1<=n
 le:n<=513+512*(17 - d)
 few:n<=512->n=1+zbu l j/\∀i (h:i<l.length),i<j->l[i].ht+(d+1)<=16
 same:1+zbu l j<=512->(∀i (h:i<l.length),i<j->l[i].ht+(d+1)<=16)->n=1+zbu l j
theorem PInv.zero (l:List V) (d:Nat):PInv l d 0 1:=
 ⟨by omega,by omega,λ_=>⟨by rw[zdh],λi h hi=>absurd hi o_⟩,λ_ _=>by rw[zdh]⟩
theorem PInv.succ {l:List V} {d j n z:Nat} (h:PInv l d j n) (hn:n<=512) (hj:j<l.length) (hz:zcv l[j] (d+1) z) (hd:d<=16):PInv l d (j+1) (n+z):=by
 obtain⟨z1,z2,z3,z4⟩:=hz;have h1:=h.pos;have h2:=zee l j hj;refine⟨by omega,by omega,λhs=>?_,λhs ha=>?_⟩
 .obtain⟨e1,e2⟩:=z3 o_;obtain⟨e3,e4⟩:=h.few hn;refine⟨by omega,λi hi hij=>?_⟩;rcases Nat.lt_or_ge i j with hlt|a0
  .exact e4 i hi hlt
  .obtain rfl:i=j:=o_;exact e2
 .have e1:=h.same o_ λi hi hij=>ha i hi o_;have e2:=z4 o_ (ha j hj o_);omega
theorem PInv.done {l:List V} {d n:Nat} {k m:Int} {s:ByteArray} {r:Int} (h:PInv l d l.length n) (hd:d<=16):zcv (V.mk k m s l r) d n:=by
 have a0:(V.mk k m s l r).size=1+zbu l l.length:=by rw[V.size_mk,zh4]
 refine⟨h.pos,h.le,λhn=>?_,λhs ht=>?_⟩
 .obtain⟨e1,e2⟩:=h.few hn;refine⟨by omega,?_⟩;have:(V.mk k m s l r).ht<=16 - d:=by
   rw[V.ht_mk];refine zkz λx hx=>?_;obtain⟨y,hy,rfl⟩:=List.mem_map.1 hx;obtain⟨i,hi,rfl⟩:=List.mem_iff_getElem.1 hy;have:=e2 i hi hi;omega
  omega
 .rw[a0];refine h.same o_ λi hi _=>?_;have:=ze3 (k:=k) (n:=m) (s:=s) (r:=r) (List.getElem_mem hi);omega
theorem PInv.over {l:List V} {d j n:Nat} {k m:Int} {s:ByteArray} {r:Int} (h:PInv l d j n) (hn:512<n):zcv (V.mk k m s l r) d n:=by
 refine⟨h.pos,h.le,λhn'=>absurd hn' o_,λhs ht=>?_⟩;exfalso;have a0:(V.mk k m s l r).size=1+(l.map V.size).sum:=V.size_mk _ _ _ _ _;have h1:=zj6 l j;have:=h.same o_ λi hi _=>by
  have:=ze3 (k:=k) (n:=m) (s:=s) (r:=r) (List.getElem_mem hi);omega
 omega
theorem zcv.deep (v:V):zcv v 17 513:=⟨by omega,by omega,λh=>absurd h o_,λ_ h=>absurd h o_⟩
theorem zvg {v:V} {z:Nat} (h:zcv v 0 z):v.may=(decide (z<=512)&&(decide (v.dep<=16)&&v.ok)):=by
 obtain⟨z1,z2,z3,z4⟩:=h;rw[Bool.eq_iff_iff];simp only[V.may,V.fits,Bool.and_eq_true,decide_eq_true_eq];constructor
 .rintro⟨⟨h1,h2⟩,h3⟩;have:=zjt v h1;have:=z4 h2 o_;exact⟨by omega,h3,h1⟩
 .rintro⟨h1,h2,h3⟩;have:=z3 h1;exact⟨⟨h3,by omega⟩,h2⟩
def zb1:List (List Int->List (List Int×V))->Nat->List Int->List (List Int×V)
 |[],_,_=>[]
 |f::fs,i,pl=>f (pl++[(i:Int)])++zb1 fs (i+1) pl
def V.walk:V->List Int->List (List Int×V)
 | .mk k n s l r=>λpl=>(pl,.mk k n s l r)::zb1 (l.map V.walk) 0 pl
termination_by v=>v
theorem V.walk_mk (k n:Int) (s:ByteArray) (l:List V) (r:Int) (pl:List Int):(V.mk k n s l r).walk pl=(pl,.mk k n s l r)::zb1 (l.map V.walk) 0 pl:=by rw[V.walk]
theorem zfu (fs gs:List (List Int->List (List Int×V))) (i:Nat) (pl:List Int):zb1 (fs++gs) i pl=zb1 fs i pl++zb1 gs (i+fs.length) pl:=by
 induction fs generalizing i with
 |nil=>simp[zb1]
 |cons f fs ih=>simp only[List.cons_append,zb1,ih,List.append_assoc,List.length_cons];rw[show i+1+fs.length=i+(fs.length+1) by omega]
theorem zhs (fs:List (List Int->List (List Int×V))) (pl:List Int) {j:Nat} (h:j<fs.length):zb1 (fs.take (j+1)) 0 pl=zb1 (fs.take j) 0 pl++fs[j] (pl++[(j:Int)]):=by
 rw[List.take_succ_eq_append_getElem h,zfu];simp[zb1,List.length_take,Nat.min_eq_left (Nat.le_of_lt h)]
theorem zfv (L:List V):∀(i:Nat) (pl:List Int),(∀v∈L,∀p,(v.walk p).length=v.size)->(zb1 (L.map V.walk) i pl).length=(L.map V.size).sum:=by
 induction L with
 |nil=>intro i pl _;rfl
 |cons v L ih=>
  intro i pl h;simp only[List.map_cons,zb1,List.length_append,List.sum_cons];rw[h v s_,ih (i+1) pl λu hu=>h u (by simp[hu])]
theorem zgo (v:V):∀p,(v.walk p).length=v.size:=by
 induction v using V.ind with
 |h k n s l r ih=>
  intro p;rw[V.walk_mk,V.size_mk,List.length_cons,zfv l 0 p ih];omega
structure Yields (N:Nat) (f:FuncId) (cp:Array Value) (J Jx:List (List Int×V)->(Nat->Prop)->World->Prop):Prop where
 enters:∀(args:Array Value) (w:World),(callFunc f args).run Tryz.prog w= .ok (.enter f args) w
 call:∀(pre:List (List Int×V)) (M:Nat->Prop) (W:World) (x:T) (lo hi:Nat) (A:Option Addr) (cap:Nat) (p:List Int) (lo' hi':Nat),pre.length<N->J pre M W->x.In W lo hi->hi<=W.heap.size->(∀i,lo<=i->i<hi->¬M i)->
  Ints W lo' hi' A cap p->hi'<=W.heap.size->(∀i,lo'<=i->i<hi'->¬M i)->Calls Tryz.prog f (#[.slice A p.length cap,x.val]++cp) W λe W'=>∃M':Nat->Prop,Fr M W W'/\(∀i,M' i->i<W.heap.size->M i)/\
   ((e= .returned (.bool true)/\J (pre++[(p,x.v)]) M' W')\/(e= .returned (.bool false)/\Jx (pre++[(p,x.v)]) M' W'))
 stay:∀(pre:List (List Int×V)) (M:Nat->Prop) (W W':World) (S:Nat->Prop),J pre M W->Fr S W W'->(∀i,i<W.heap.size->S i->¬M i)->J pre M W'
 lt:∀(pre:List (List Int×V)) (M:Nat->Prop) (W:World),J pre M W->∀i,M i->i<W.heap.size
theorem Yields.no {N:Nat} {f:FuncId} {cp:Array Value} {J Jx:List (List Int×V)->(Nat->Prop)->World->Prop} (y:Yields N f cp J Jx) {pre:List (List Int×V)} {M:Nat->Prop} {W W':World} (h:J pre M W) (hf:Fr No W W'):J pre M W':=
 y.stay pre M W W' No h hf λ_ _ h=>h.elim
def zmr (J Jx:List (List Int×V)->(Nat->Prop)->World->Prop) (pre:List (List Int×V)) (M:Nat->Prop) (L:List (List Int×V)) (W:World) (e:Ending) (W':World):Prop:=
 ∃M':Nat->Prop,Fr M W W'/\(∀i,M' i->i<W.heap.size->M i)/\((e= .returned (.bool true)/\J (pre++L) M' W')\/(e= .returned (.bool false)/\∃q,q<+:L/\Jx (pre++q) M' W'))
theorem zqw (A:Option Addr) (n cap:Nat) (hn:n<=cap) (hc:n<=9223372036854775807) (w:World):Calls Tryz.prog 217 #[.slice A n cap] w λe w'=>e= .returned (.slice A n n)/\w'=w:=by
 have h1:(n:Int)<=(cap:Int):=o_;have h2:(0:Int)<=(n:Int):=o_;go_enter Tryz.func217,Tryz.ntmps217;go_wp2;go_ret;exact⟨by first|rfl|simp,rfl⟩
def zqx (J Jx:List (List Int×V)->(Nat->Prop)->World->Prop) (pre:List (List Int×V)) (M:Nat->Prop) (L:List (List Int×V)) (W:World) (q:Bool) (W':World):Prop:=
 ∃M':Nat->Prop,Fr M W W'/\(∀i,M' i->i<W.heap.size->M i)/\(q=true->J (pre++L) M' W')/\(q=false->∃q,q<+:L/\Jx (pre++q) M' W')
theorem zmr.bool {J Jx:List (List Int×V)->(Nat->Prop)->World->Prop} {pre:List (List Int×V)} {M:Nat->Prop} {L:List (List Int×V)} {W:World} {e:Ending} {W':World} (h:zmr J Jx pre M L W e W'):∃q:Bool,e= .returned (.bool q)/\zqx J Jx pre M L W q W':=by
 obtain⟨M',h1,h2,⟨rfl,h3⟩|⟨rfl,h3⟩⟩:=h
 .exact⟨true,rfl,M',h1,h2,λ_=>h3,(λh=>by cases h)⟩
 .exact⟨false,rfl,M',h1,h2,(λh=>by cases h),λ_=>h3⟩
theorem Ints.old {w:World} {lo hi:Nat} {A:Option Addr} {cap:Nat} {p:List Int} (h:Ints w lo hi A cap p):∀b,A=some b->∀j u,(p.map λx=>Value.int .i64 x)[j]? =some u->w.cell? (b.add j)=some u:=by
 intro b hb j u hu;rw[List.getElem?_map]at hu;cases hx:p[j]? with
 |none=>rw[hx]at hu;cases hu
 |some x=>
  rw[hx]at hu;simp at hu;subst hu;obtain⟨b',o',hA,_,_,hc⟩:=h.at_ (by rintro rfl;simp at hx);rw[hA]at hb;injection hb with hb
  subst hb;have:(⟨b',o',none⟩:Addr).add j=⟨b',o'+j,none⟩:=by unfold Addr.add;split<;>simp_all
  rw[this];exact hc j x hx
theorem zi5 {w:World} {base g cap:Nat} {p:List Int} (h:w.ownsRow base 3 1 (.slice (some ⟨g,0,none⟩) p.length cap) p.length (p.map λx=>Value.int .i64 x)) (hl:p.length*8<=140737488351232) (hr:∀x∈p,-9223372036854775808<=x/\x<=9223372036854775807):
 Ints w g (g+1) (some ⟨g,0,none⟩) cap p:=by
 rcases h.2 with⟨hs,_⟩|⟨g',a2,a1,hs,hb,hg,hc,hm,a3,hx⟩
 .cases hs
 .simp at hs;obtain⟨rfl,rfl⟩:=hs;refine⟨hl,hc,λ_=>⟨g,0,rfl,Nat.le_refl _,by omega,λi x hi=>?_⟩,hr⟩;have a0:w.cell? ⟨g,0+i,none⟩=a1[0+i]? :=cell_of_row w g _ a1 3 (0,0) hg;rw[a0,Nat.zero_add];have h1:(p.map λx=>Value.int .i64 x)[i]? =some (.int .i64 x):=by rw[List.getElem?_map,hi];rfl
  rw[<-hx,List.getElem?_take]at h1;split at h1
  .simpa using h1
  .cases h1
theorem zxw {w:World} {g:Nat} {t:TypeId} {a b c d e:Value} (h:Blk w g t #[a,b,c,d,e]):w.cell? ⟨g,0,none⟩=some a/\w.cell? ⟨g,1,none⟩=some b/\w.cell? ⟨g,2,none⟩=some c/\w.cell? ⟨g,3,none⟩=some d/\w.cell? ⟨g,4,none⟩=some e:=
 ⟨h.cell 0,h.cell 1,h.cell 2,h.cell 3,h.cell 4⟩
structure WInv (J:List (List Int×V)->(Nat->Prop)->World->Prop) (pre:List (List Int×V)) (M:Nat->Prop) (W:World) (X:Array Value) (wr:World):Prop where
 fr:Fr M W wr
 box:Blk wr W.heap.size 28 X
 ex:∃M1:Nat->Prop,J pre M1 wr/\(∀i,M1 i->i<W.heap.size->M i)/\¬M1 W.heap.size
theorem zqy:(Tryz.prog.info? 3).map (λi=>(i.zero,i.size,i.bytes))=some (some (.int .i64 0),1,8):=k_
theorem znp {J Jx:List (List Int×V)->(Nat->Prop)->World->Prop} {PRE L:List (List Int×V)} {M M1:Nat->Prop} {W wr w4 w5:World} {X:Array Value} {q:Bool} (fr:Fr M W wr) (hb:Blk wr W.heap.size 28 X) (hs1:∀i,M1 i->i<W.heap.size->M i) (hn1:¬M1 W.heap.size)
 (f4:Fr No wr w4) (hq:zqx J Jx PRE M1 L w4 q w5):(q=true->WInv J (PRE++L) M W X w5)/\(q=false->∃M':Nat->Prop,Fr M W w5/\(∀i,M' i->i<W.heap.size->M i)/\∃q',q'<+:L/\Jx (PRE++q') M' w5):=by
 obtain⟨M5,f5,a0,h1,h2⟩:=hq;have a3:=fr.size;have a2:=f4.size;have hF:Fr M W w5:=(fr.thenNo f4).trans' f5 λi hi h=>hs1 i h hi;have a1:∀i,M5 i->i<W.heap.size->M i:=λi h hi=>hs1 i (a0 i h o_) hi;refine⟨λhq=>⟨hF,(hb.fr f4 λh=>h).fr f5 hn1,M5,h1 hq,a1,λh=>hn1 (a0 _ h (by have:=hb.lt;omega))⟩,λhq=>?_⟩;obtain⟨q',hp,hx⟩:=h2 hq;exact⟨M5,hF,a1,q',hp,hx⟩
theorem zqz {W w w':World} (h:Fr No W w) (hg:w.grownBy w' none):Fr No W w':=h.grown hg λk hk=>by cases hk
theorem znq {J Jx:List (List Int×V)->(Nat->Prop)->World->Prop} {PRE L:List (List Int×V)} {M1:Nat->Prop} {w4 w5:World} {q:Bool} {g:Nat} {X:Array Value} (hq:zqx J Jx PRE M1 L w4 q w5) (hb:Blk w4 g 28 X) (hn:¬M1 g):Blk w5 g 28 X:=by
 obtain⟨M5,f5,_⟩:=hq;exact hb.fr f5 hn
theorem zke {α:Type} {x:α} {L a b c:List α} {q:List α} (h1:L=x::(a++(b++c))) (hq:q<+:b):x::(a++q)<+:L:=by
 obtain⟨d,rfl⟩:=hq;exact⟨d++c,by rw[h1];simp⟩
theorem zq0 {N:Nat} {f:FuncId} {cp:Array Value} {J Jx:List (List Int×V)->(Nat->Prop)->World->Prop} (y:Yields N f cp J Jx) (t:T):∀(pre:List (List Int×V)) (M:Nat->Prop) (W:World) (lo hi:Nat) (A:Option Addr) (cap:Nat) (p:List Int) (lo' hi':Nat),J pre M W->t.In W lo hi->hi<=W.heap.size->(∀i,lo<=i->i<hi->¬M i)->
 Ints W lo' hi' A cap p->hi'<=W.heap.size->(∀i,lo'<=i->i<hi'->¬M i)->p.length+t.v.ht<=1000->pre.length+t.v.size<=N->Calls Tryz.prog 164 #[t.val,.slice A p.length cap,.func (.func f) #[] cp] W (zmr J Jx pre M (t.v.walk p) W):=by
 induction t using T.ind with
 |h k n s A1 cap1 l r ih=>
  intro pre M W lo hi A cap p lo' hi' hJ ht hh hM hp hh' hM' hbnd hN;have hY:=y.call pre M (W.alloc (.cells #[.int .u8 k,.int .i64 n,.string s,.slice A1 l.length cap1,.int .i64 r] 28)) (T.mk k n s A1 cap1 l r) lo hi A cap p lo' hi' (by have:=(T.mk k n s A1 cap1 l r).v.size_pos;omega) (y.no hJ ((Fr.refl No W).alloc _)) (ht.no ((Fr.refl No W).alloc _) hh) so_ hM
   (hp.no ((Fr.refl No W).alloc _) hh') so_ hM'
  rw[T.val_mk]at*;have hK:=Blk.new' W 28 #[.int .u8 k,.int .i64 n,.string s,.slice A1 l.length cap1,.int .i64 r] rfl;have d0:=(Fr.refl No W).alloc (.cells #[.int .u8 k,.int .i64 n,.string s,.slice A1 l.length cap1,.int .i64 r] 28);have c5:(T.mk k n s A1 cap1 l r).v.walk p=(p,(T.mk k n s A1 cap1 l r).v)::zb1 ((l.map T.v).map V.walk) 0 p:=by rw[T.v_mk,V.walk_mk]
  have hlt:=y.lt pre M W hJ;have h7:=y.enters;have HY:=zaa hY;have f7:=zaa hlt;clear hlt;clear hY;go_enter Tryz.func164,Tryz.ntmps164;go_wp2_with fail;refine HY.out.mono ?_;rintro e W2 ⟨M2,a4,a2,⟨rfl,e5⟩|⟨rfl,a8⟩⟩
  .have d4:¬M W.heap.size:=λh=>by have:=f7.out _ h;omega
   have b5:¬M2 W.heap.size:=λh=>d4 (a2 _ h s_);have b9:WInv J (pre++(p,(T.mk k n s A1 cap1 l r).v)::zb1 (((l.map T.v).map V.walk).take 0) 0 p) M W #[.int .u8 k,.int .i64 n,.string s,.slice A1 l.length cap1,.int .i64 r] W2:=
    ⟨(d0.no (S:=M)).trans a4,hK.fr a4 d4,M2,by simpa[zb1]using e5,λi h1 h2=>a2 i h1 so_,b5⟩
   have f8:=zaa b9;obtain⟨c0,c1,c2,c3,c4,cf⟩:=b9.box.cells5;have g6:=(T.in_mk.1 ht).1.len1;have q0:=b9.box.lt;have d6:=zaa c5;have f6:=zaa ht;clear b9 b5 hK e5 a4 a2 d0 hJ c5 ht;go_wp2_with fail;go_loopw [17] (λi wr=>∃j:Nat,j<=l.length/\i= .int .i64 j/\WInv J (pre++(p,(T.mk k n s A1 cap1 l r).v)::zb1 (((l.map T.v).map V.walk).take j) 0 p) M W #[.int .u8 k,.int .i64 n,.string s,.slice A1 l.length cap1,.int .i64 r] wr) (λi _=>l.length - (intOf i).toNat)
   case atStart=>exact⟨0,Nat.zero_le _,rfl,f8.out⟩
   case round=>
    obtain⟨j,hj,rfl,inv⟩:=hrel;by_cases hlt:j<l.length
    .obtain⟨fr,hb,M1,a7,a9,d3⟩:=inv;obtain⟨b,o,k1,n1,s1,A2,a1,l1,r1,rfl,h6,h9,hx,d9,e0,e1,e2,e3,e4⟩:=T.elem (f6.out.fr fr hh hM) hlt;have h8:=fr.size;have g0:b<wr.heap.size:=o_;have a6:=y.lt _ _ _ a7;have f9:(T.mk k1 n1 s1 A2 a1 l1 r1).v.ht+1<=(T.mk k n s (some ⟨b,o,none⟩) cap1 l r).v.ht:=by
      rw[<-hx,T.v_mk k n s];exact ze3 (List.mem_map_of_mem (List.getElem_mem hlt))
     have i1:p.length+1<=1000:=o_;have h5:(pre++(p,(T.mk k n s (some ⟨b,o,none⟩) cap1 l r).v)::zb1 (((l.map T.v).map V.walk).take j) 0 p).length+(T.mk k1 n1 s1 A2 a1 l1 r1).v.size<=N:=by
      have h1:(zb1 (((l.map T.v).map V.walk).take j) 0 p).length=(((l.map T.v).take j).map V.size).sum:=by
       rw[<-List.map_take];exact zfv _ 0 p λv _=>zgo v
      have h2:=zb6 ((l.map T.v).map V.size) j (by simpa using hlt);have h3:=zcc ((l.map T.v).map V.size) (j+1);rw[List.getElem_map,List.getElem_map,hx]at h2;rw[List.map_take]at h1;rw[T.v_mk k n s,V.size_mk]at hN;rw[List.length_append,List.length_cons,h1];omega
     have b4:=hp.cap;have b7:=(Fr.refl No wr).alloc (.cells #[.int .u8 k1,.int .i64 n1,.string s1,.slice A2 l1.length a1,.int .i64 r1] 28);have d8:∀w',Fr No (wr.alloc (.cells #[.int .u8 k1,.int .i64 n1,.string s1,.slice A2 l1.length a1,.int .i64 r1] 28)) w'->Ints w' lo' hi' A p.length p:=λw' f=>by
      have h:=hp.fr (fr.thenNo (b7.trans f)) hh' hM';exact⟨h.len,Nat.le_refl _,h.at_,h.rng⟩
     have a5:A=none->p.length=0/\p.length=0:=λhA=>by
      rcases List.eq_nil_or_concat p with rfl|⟨p',x,rfl⟩
      .simp
      .obtain⟨b',o',h,_⟩:=hp.at_ s_;rw[hA]at h;cases h
     have b0:∀(w4:World) (g4 a3:Nat),Fr No (wr.alloc (.cells #[.int .u8 k1,.int .i64 n1,.string s1,.slice A2 l1.length a1,.int .i64 r1] 28)) w4->Ints w4 g4 (g4+1) (some ⟨g4,0,none⟩) a3 (p++[(j:Int)])->wr.heap.size<=g4->g4<w4.heap.size->
      Calls Tryz.prog 164 #[.agg #[.int .u8 k1,.int .i64 n1,.string s1,.slice A2 l1.length a1,.int .i64 r1],.slice (some ⟨g4,0,none⟩) (p.length+1) a3,.func (.func f) #[] cp] w4 λe w5=>∃q:Bool,e= .returned (.bool q)/\
       zqx J Jx (pre++(p,(T.mk k n s (some ⟨b,o,none⟩) cap1 l r).v)::zb1 (((l.map T.v).map V.walk).take j) 0 p) M1 ((T.mk k1 n1 s1 A2 a1 l1 r1).v.walk (p++[(j:Int)])) w4 q w5:=by
      intro w4 g4 a3 f4 hi4 h0 h1;have c7:=b7.trans f4;have h:=ih l[j] (List.getElem_mem hlt) (pre++(p,(T.mk k n s (some ⟨b,o,none⟩) cap1 l r).v)::zb1 (((l.map T.v).map V.walk).take j) 0 p) M1 w4 lo hi (some ⟨g4,0,none⟩) a3 (p++[(j:Int)]) g4 (g4+1) (y.no a7 c7)
       (by rw[hx];exact d9.no c7 o_) (by have:=c7.size;omega) (λi q0 q1 q2=>hM i q0 q1 (a9 i q2 o_)) hi4 o_ (λi q0 q1 q2=>by have:=a6 i q2;omega) (by rw[List.length_append,hx];simp;omega) (by rw[hx];exact h5)
      rw[hx,T.val_mk,List.length_append]at h;exact h.mono λe w5 hw=>hw.bool
     have d5:=Blk.new wr 28 #[.int .u8 k1,.int .i64 n1,.string s1,.slice A2 l1.length a1,.int .i64 r1];obtain⟨i0,g5,g3,g8,e6⟩:=info_parts zqy;have b1:∀x∈p++[(j:Int)],-9223372036854775808<=x/\x<=9223372036854775807:=λx hx=>by
      rcases List.mem_append.1 hx with hx|hx
      .exact hp.rng x hx
      .simp at hx;omega
     have d2:=zaa b0;have f5:=zaa d8;have b8:=zaa d5;have b2:=zaa a5;have f0:=zaa fr;have HB:=zaa hb;have e7:=zaa a9;have g1:=zaa d3;have g7:=zaa b7;have c6:=zaa b1;have HX:=zaa hx;have d1:=zaa (λh=>by have:=a6 wr.heap.size h;omega:¬M1 wr.heap.size);have g9:=λw'=>zqw A p.length cap b4 o_ w';clear b0 d8 d5 a5 fr hb a9 d3 b7 d9 hx a7 a6 ih f9 b1;go_wp2_with fail;go_region_held3 (λw'=>w'.cell? ⟨wr.heap.size,0,none⟩=some (.int .u8 k1)/\w'.cell? ⟨wr.heap.size,1,none⟩=some (.int .i64 n1)/\w'.cell? ⟨wr.heap.size,2,none⟩=some (.string s1)/\w'.cell? ⟨wr.heap.size,3,none⟩=some (.slice A2 l1.length a1)/\w'.cell? ⟨wr.heap.size,4,none⟩=some (.int .i64 r1))
      (first|with_reducible exact zxw (Blk.drew b8.out)|with_reducible exact zxw (Blk.drew (Blk.alloc b8.out _))|with_reducible exact h4.out|with_reducible exact f2.out)
      (first
       |((refine step_append_grows rfl _ _ _ r_ 3 i0 _ 1 8 Tryz.underlying36 g5 g3 g8 e6 rfl o_ A p.length p.length (p.map λx=>Value.int .i64 x) r_ b2.out s_ (Ints.old (f5.out _ (by repeat(first|with_reducible exact Fr.refl No _|with_reducible refine Fr.drew ?_ |with_reducible refine Fr.alloc ?_ _)))) ⟨wr.heap.size+1,0,none⟩ 1 1 [.int .i64 (j:Int)] r_ r_ (World.news_of_block (Blk.new' _ 3 #[.int .i64 (j:Int)] s_)) (by simp[Value.oneCell']) o_ (by unfold maxLen;omega) o_ ?_);intro v4 w4 hown hgrow;obtain⟨g4,a3,rfl,d7,g2⟩:=hown.form o_;have b6:=zaa (zqz (W:=wr.alloc (.cells #[.int .u8 k1,.int .i64 n1,.string s1,.slice A2 l1.length a1,.int .i64 r1] 28)) (by repeat(first|with_reducible exact Fr.refl No _|with_reducible refine Fr.drew ?_ |with_reducible refine Fr.alloc ?_ _)) hgrow);have c8:=zaa (zi5 (p:=p++[(j:Int)]) (by simpa using hown) so_ c6.out);have b3:wr.heap.size<=g4:=(by simp at d7;omega);have f3:=zaa b3;have f2:=zaa (zxw (Blk.fr b8.out b6.out λh=>h));clear hown hgrow d7 b3)
       |(go_at_call 164;((with_reducible refine(d2.out w4 g4 a3 b6.out c8.out f3.out g2).mono ?_);rintro e w5 ⟨q,rfl,hq⟩;have HW:=zaa (znp f0.out HB.out e7.out g1.out (g7.out.trans b6.out) hq);have h4:=zaa (zxw (znq hq (Blk.fr b8.out b6.out λh=>h) d1.out));clear hq))
       |(go_at_call 217;(with_reducible refine(g9 _).mono ?_);rintro e wc ⟨rfl,rfl⟩))
     all_goals
      have hW:=HW.out;cases q with
      |true=>
       have e8:=zaa (hW.1 rfl);clear hW;go_wp2;go_roundw
       case rel=>
        refine⟨j+1,hlt,by go_num,?_⟩;have h:=e8.out;have c9:=HX.out;rw[zhs _ _ (by simpa using hlt),<-List.cons_append,<-List.append_assoc,List.getElem_map,List.getElem_map,c9];exact h
       case measure=>simp[intOf];omega
      |false=>
       have a0:zmr J Jx pre M ((T.mk k n s (some ⟨b,o,none⟩) cap1 l r).v.walk p) W (.returned (.bool false)) w5:=by
        obtain⟨M',f,hs,q',f1,e9⟩:=hW.2 rfl;have c9:=HX.out;refine⟨M',f,hs,.inr ⟨rfl,(p,(T.mk k n s (some ⟨b,o,none⟩) cap1 l r).v)::(zb1 (((l.map T.v).map V.walk).take j) 0 p++q'),?_,by simpa using e9⟩⟩;refine zke (b:=(T.mk k1 n1 s1 A2 a1 l1 r1).v.walk (p++[(j:Int)])) (c:=zb1 (((l.map T.v).map V.walk).drop (j+1)) (0+(((l.map T.v).map V.walk).take (j+1)).length) p) ?_ f1;rw[d6.out];congr 1
        have h1:=zhs ((l.map T.v).map V.walk) p (j:=j) (by simpa using hlt);rw[List.getElem_map,List.getElem_map,c9]at h1;rw[<-List.append_assoc,<-h1,<-zfu,List.take_append_drop]
       have HP:=zaa a0;clear a0 hW;go_wp2;go_ret;exact HP.out
    .obtain rfl:j=l.length:=o_;have a0:zmr J Jx pre M ((T.mk k n s A1 cap1 l r).v.walk p) W (.returned (.bool true)) wr:=by
      obtain⟨fr,hb,M1,a7,a9,_⟩:=inv;rw[List.take_of_length_le s_]at a7;exact⟨M1,fr,a9,.inl ⟨rfl,by rw[d6.out];exact a7⟩⟩
     have HP:=zaa a0;clear a0 inv ih;go_wp2;go_ret;exact HP.out
  .have a0:zmr J Jx pre M ((T.mk k n s A1 cap1 l r).v.walk p) W (.returned (.bool false)) W2:=
    ⟨M2,(d0.no (S:=M)).trans a4,λi h1 h2=>a2 i h1 so_,.inr ⟨rfl,[(p,(T.mk k n s A1 cap1 l r).v)],⟨zb1 ((l.map T.v).map V.walk) 0 p,by rw[c5];rfl⟩,a8⟩⟩
   have HP:=zaa a0;clear a0 a8 a4 a2 ih c5;go_wp2;go_ret;exact HP.out
def zbg:List (List Int×V)->List Int
 |[]=>[]
 |(_,.mk k _ _ _ r)::l=>if k=4 then r::zbg l else zbg l
theorem zdb (a b:List (List Int×V)):zbg (a++b)=zbg a++zbg b:=by
 induction a with
 |nil=>rfl
 |cons x a ih=>
  obtain⟨p,k,n,s,l,r⟩:=x;simp only[List.cons_append,zbg];split<;>simp[ih]
theorem zei (a:List (List Int×V)):(zbg a).length<=a.length:=by
 induction a with
 |nil=>simp[zbg]
 |cons x a ih=>
  obtain⟨p,k,n,s,l,r⟩:=x;simp only[zbg];split<;>simp<;>omega
theorem zh8:(Tryz.prog.info? 22).map (λi=>(i.zero,i.size,i.bytes))=some (some (.int .i64 0),1,8):=k_
def zh9 (g base:Nat) (pre:List (List Int×V)) (M:Nat->Prop) (W:World):Prop:=
 g<base/\base<=W.heap.size/\∃v,Blk W g 54 #[v]/\W.ownsRow base 22 1 v (zbg pre).length ((zbg pre).map λr=>Value.int .i64 r)/\∀i,M i↔(i=g\/v.ownBlock=some i)
theorem zgp {g base:Nat} {pre:List (List Int×V)} {M:Nat->Prop} {W W':World} {S:Nat->Prop} (h:zh9 g base pre M W) (hf:Fr S W W') (hs:∀i,i<W.heap.size->S i->¬M i):zh9 g base pre M W':=by
 obtain⟨h0,h1,v,hb,ho,hM⟩:=h;exact⟨h0,Nat.le_trans h1 hf.size,v,hb.fr hf (λh=>hs g hb.lt h ((hM g).2 (.inl rfl))),zaf ho hf (λi hi h=>hs i (zaj ho i hi).2 h ((hM i).2 (.inr hi))),hM⟩
theorem znr (g base:Nat) (pre:List (List Int×V)) (M:Nat->Prop) (W:World) (x:T) (A:Option Addr) (n cap:Nat) (p:List Int) (hJ:zh9 g base pre M W) (hp:pre.length<1000000):
 Calls Tryz.prog 165 #[.slice A n cap,x.val,.pointer (some ⟨g,0,none⟩)] W λe W'=>e= .returned (.bool true)/\∃M':Nat->Prop,Fr M W W'/\(∀i,M' i->i<W.heap.size->M i)/\zh9 g base (pre++[(p,x.v)]) M' W':=by
 obtain⟨h0,h1,v,hb,ho,hM⟩:=hJ;have b4:=zei pre;cases x with
 |mk k nn s A1 cap1 l r=>
  rw[T.val_mk];have a5:=(Fr.refl No W).alloc (.cells #[.int .u8 k,.int .i64 nn,.string s,.slice A1 l.length cap1,.int .i64 r] 28);have a1:=hb.alloc (.cells #[.int .u8 k,.int .i64 nn,.string s,.slice A1 l.length cap1,.int .i64 r] 28);have a6:=Blk.new W 28 #[.int .u8 k,.int .i64 nn,.string s,.slice A1 l.length cap1,.int .i64 r];have a4:=ho.alloc (.cells #[.int .u8 k,.int .i64 nn,.string s,.slice A1 l.length cap1,.int .i64 r] 28);have q0:=hb.lt;by_cases hk:k=4
  .subst hk;have hr:zbg (pre++[(p,(T.mk 4 nn s A1 cap1 l r).v)])=zbg pre++[r]:=by rw[zdb,T.v_mk];rfl
   obtain⟨i0,b3,b2,b1,b0⟩:=info_parts zh8;have a8:=zaj ho;have HR:=zaa hr;have b8:=zaa a8;have HM:=zaa hM;have HO:=zaa a4;have HB:=zaa hb;have HF:=zaa a5;have c0:=a1.cell 0;have f0:=a1.frozen 0;simp only[List.getElem?_toArray,List.getElem?_cons_zero]at c0;obtain⟨x0,x1,x2,x3,x4,xf⟩:=a6.cells5;have q1:=a6.lt;have q2:=a1.lt;generalize hL:zbg pre=L at*;have HL:=zaa hL;have a2:=a4.alloc (.cells #[.int .i64 r] 22);have a9:∀w1,((W.alloc (.cells #[.int .u8 4,.int .i64 nn,.string s,.slice A1 l.length cap1,.int .i64 r] 28)).alloc (.cells #[.int .i64 r] 22)).grownBy w1 v.ownBlock->Blk w1 g 54 #[v]:=λw1 hg=>
    (hg.block g so_ (λh=>by have:=a8 g h.symm;omega)).trans (a1.alloc (.cells #[.int .i64 r] 22))
   have b5:=zaa a9;clear hr a8 hM a4 hb a5 a1 a6 ho hL a9;go_enter Tryz.func165,Tryz.ntmps165;go_wp2_with (at_builtin;refine wpList_append_lies _ r_ _ _ _ r_ base 22 i0 _ 1 8 Tryz.underlying54 b3 b2 b1 b0 r_ o_ v L.length (L.map λr=>Value.int .i64 r) r_ a2 ⟨W.heap.size+1,0,none⟩ 1 1 [.int .i64 r] r_ r_ (World.news_of_block (Blk.new' _ 22 #[.int .i64 r] s_)) (by simp[Value.oneCell']) o_ (by unfold maxLen;omega) o_ so_ (W.heap.size+1+1) s_ ?_;intro g2 cap2 w1 hown1 hgrow hat hlt1;have a3:=b5.out w1 hgrow;have c1:=a3.cell 0;have f1:=a3.frozen 0;have q5:=a3.lt;have a7:=zaa a3;simp only[List.getElem?_toArray,List.getElem?_cons_zero]at c1;clear a3);go_ret;have fA:Fr M W ((W.alloc (.cells #[.int .u8 4,.int .i64 nn,.string s,.slice A1 l.length cap1,.int .i64 r] 28)).alloc (.cells #[.int .i64 r] 22)):=(HF.out.alloc _).no;have fB:Fr M W w1:=fA.grown hgrow λi hi hlt=>(HM.out i).2 (.inr hi);have fC:Fr M W (w1.setCell ⟨g,0,none⟩ (.slice (some ⟨g2,0,none⟩) (L.length+1) cap2)):=fB.set (λ_=>(HM.out g).2 (.inl rfl)) _;have b6:base<=g2:=(zaj hown1 g2 rfl).1;refine⟨rfl,λi=>i=g\/i=g2,fC,λi hi hlt=>?_,h0,Nat.le_trans h1 fC.size,.slice (some ⟨g2,0,none⟩) (L.length+1) cap2,a7.out.set_ 0 _,?_,λi=>?_⟩
   .rcases hi with rfl|rfl
    .exact(HM.out _).2 (.inl rfl)
    .rcases hat with h|h
     .exact(HM.out _).2 (.inr h)
     .omega
   .rw[HR.out,List.length_append,List.map_append];exact zaf hown1 ((Fr.refl (λi=>i=g) w1).set (λ_=>rfl) _) (λi hi h=>by simp[Value.ownBlock]at hi;have h':i=g:=h;omega)
   .simp[Value.ownBlock,eq_comm]
  .have b7:(k==4)=false:=by simpa using hk
   have hr:zbg (pre++[(p,(T.mk k nn s A1 cap1 l r).v)])=zbg pre:=by rw[zdb,T.v_mk];simp[zbg,hk]
   have a0:∃M':Nat->Prop,Fr M W (W.alloc (.cells #[.int .u8 k,.int .i64 nn,.string s,.slice A1 l.length cap1,.int .i64 r] 28))/\(∀i,M' i->i<W.heap.size->M i)/\zh9 g base (pre++[(p,(T.mk k nn s A1 cap1 l r).v)]) M' (W.alloc (.cells #[.int .u8 k,.int .i64 nn,.string s,.slice A1 l.length cap1,.int .i64 r] 28)):=by
    refine⟨M,a5.no,λi h _=>h,h0,Nat.le_trans h1 a5.size,v,a1,?_,hM⟩;rw[hr];exact a4
   have HP:=zaa a0;clear a0 hr hb a1 a6 ho a4 hM a5;go_enter Tryz.func165,Tryz.ntmps165;go_wp2;go_ret;exact⟨rfl,HP.out⟩
theorem zms {P:Program} {f:FuncId} {fn:Func} {c:Code} (hf:P.funcs[f]? =some fn) (hname:(fn.name=="runtime.NumGoroutine")=false) (hb:fn.body=some c):∀args w,(callFunc f args).run P w= .ok (.enter f args) w:=by
 intro args w;have h1:fn.name≠"runtime.NumGoroutine":=by simpa using hname
 simp[callFunc,hf,h1,hb,mark]
theorem zkf (g base:Nat):Yields 1000000 165 #[.pointer (some ⟨g,0,none⟩)] (zh9 g base) (λ_ _ _=>False) where
 enters:=zms Tryz.func165 k_ rfl
 call:=λpre M W x lo hi A cap p lo' hi' hl hJ _ _ _ _ _ _=>(znr g base pre M W x A p.length cap p hJ hl).mono λe W' ⟨he,M',h1,h2,h3⟩=>⟨M',h1,h2,.inl ⟨he,h3⟩⟩
 stay:=λpre M W W' S h hf hs=>zgp h hf hs
 lt:=λpre M W h i hi=>by
  obtain⟨h0,h1,v,hb,ho,hM⟩:=h;rcases(hM i).1 hi with rfl|h
  .exact hb.lt
  .exact(zaj ho i h).2
def V.refs (v:V):List Int:=if v.may=true then zbg (v.walk [])else[]
def zi6 (L:List Int) (w:World) (e:Ending) (w':World):Prop:=∃v,e= .returned v/\w'.ownsRow w.heap.size 22 1 v L.length (L.map λr=>Value.int .i64 r)/\Fr No w w'
theorem zq1 (w:World):Ints w 0 0 none 0 []:=⟨by simp,Nat.le_refl _,λh=>absurd rfl h,by simp⟩
theorem zdv (t:T) (w:World) (lo hi:Nat) (ht:t.In w lo hi) (hh:hi<=w.heap.size):Calls Tryz.prog 95 #[t.val] w (zi6 t.v.refs w):=by
 have hM:=λw' h h'=>zca t w' lo hi h h';have hW:=λpre M W hJ h h' h2 h3=>zq0 (zkf (w.heap.size+1) (w.heap.size+1+1)) t pre M W lo hi none 0 [] 0 0 hJ h h' h2 (zq1 W) (Nat.zero_le _) (λi h0 h1=>by omega) h3;have a1:zh9 (w.heap.size+1) (w.heap.size+1+1) [] (λi=>i=w.heap.size+1) ((w.alloc (.cells #[.int .u8 0] 28)).alloc (.cells #[.slice none 0 0] 54)):=⟨by omega,by simp,.slice none 0 0,Blk.new' (w.alloc _) 54 _ s_,World.ownsRow_nil _ _ _ _,λi=>by simp[Value.ownBlock]⟩;clear a1;cases t with
 |mk k n s A cap l r=>
  rw[T.val_mk]at*;have a1:zh9 (w.heap.size+1) (w.heap.size+1+1) [] (λi=>i=w.heap.size+1) ((w.alloc (.cells #[.int .u8 k,.int .i64 n,.string s,.slice A l.length cap,.int .i64 r] 28)).alloc (.cells #[.slice none 0 0] 54)):=⟨by omega,by simp,.slice none 0 0,Blk.new' (w.alloc _) 54 _ s_,World.ownsRow_nil _ _ _ _,λi=>by simp[Value.ownBlock]⟩;have a2:Fr No w ((w.alloc (.cells #[.int .u8 k,.int .i64 n,.string s,.slice A l.length cap,.int .i64 r] 28)).alloc (.cells #[.slice none 0 0] 54)):=((Fr.refl No w).alloc _).alloc _;have hK:Blk ((w.alloc (.cells #[.int .u8 k,.int .i64 n,.string s,.slice A l.length cap,.int .i64 r] 28)).alloc (.cells #[.slice none 0 0] 54)) w.heap.size 28 #[.int .u8 k,.int .i64 n,.string s,.slice A l.length cap,.int .i64 r]:=(Blk.new' w 28 _ rfl).alloc _;have b1:w.heap.size+1+1<=((w.alloc (.cells #[.int .u8 k,.int .i64 n,.string s,.slice A l.length cap,.int .i64 r] 28)).alloc (.cells #[.slice none 0 0] 54)).heap.size:=s_;have a4:=ht.no a2 hh;generalize hu:(T.mk k n s A cap l r).v=u at*;have HU:=zaa hu;clear hu ht;cases hm:u.may with
  |false=>
   have e1:u.refs=[]:=by simp[V.refs,hm]
   rw[e1];rw[hm]at hM;clear hm e1 hW;go_enter Tryz.func95,Tryz.ntmps95;go_wp2_with fail;generalize World.alloc _ (.cells #[.slice none 0 0] 54)=W0 at*;refine(hM _ a4 o_).mono ?_;rintro e w2 ⟨rfl,a0⟩;obtain⟨h0,h1,v,hb,ho,a5⟩:=zgp a1 a0 (λ_ _ h=>h.elim);have c0:=hb.cell 0;simp only[List.getElem?_toArray,List.getElem?_cons_zero]at c0;have q0:=hb.lt;have HO:=zaa ho;have HF:=zaa (a2.trans a0);clear a1 hK hM hb ho a5 a2 a0;go_wp2;go_ret;refine⟨v,rfl,?_,HF.out⟩;have h:=HO.out;exact⟨h.1,h.2.imp id λ⟨g,cp,cur,a,b,c⟩=>⟨g,cp,cur,a,by omega,c⟩⟩
  |true=>
   have e1:u.refs=zbg (u.walk []):=by simp[V.refs,hm]
   have a9:u.size<=512:=by simp[V.may,V.fits]at hm;omega
   have a8:u.ht<=16:=by
    have:=zjt u (zlg hm);simp[V.may,V.fits]at hm;omega
   rw[e1];rw[hm]at hM;clear hm e1;go_enter Tryz.func95,Tryz.ntmps95;go_wp2_with fail;generalize World.alloc _ (.cells #[.slice none 0 0] 54)=W0 at*;refine(hM _ a4 o_).mono ?_;rintro e w2 ⟨rfl,a0⟩;have a3:=zgp a1 a0 (λ_ _ h=>h.elim);obtain⟨k0,k1,k2,k3,k4,-⟩:=(hK.fr a0 λh=>h).cells5;have q1:=(hK.fr a0 λh=>h).lt;have b0:=a0.size;have hw:=hW [] _ w2 a3 (a4.no a0 o_) o_ (λi h0 h1 h2=>by have h':i=w.heap.size+1:=h2;omega) so_ so_;have HW:=zaa hw;have HF:=zaa (a2.trans a0);clear a1 a3 hK hM hW hw a2 a0;go_wp2_with fail;refine HW.out.mono ?_;rintro e w3 hq;obtain⟨M',f3,a6,rfl,hJ⟩:∃M':Nat->Prop,Fr (λi=>i=w.heap.size+1) w2 w3/\(∀i,M' i->i<w2.heap.size->i=w.heap.size+1)/\e= .returned (.bool true)/\zh9 (w.heap.size+1) (w.heap.size+1+1) (u.walk []) M' w3:=by
    obtain⟨M',h1,h2,⟨h3,h4⟩|⟨_,q,_,h⟩⟩:=hq
    .exact⟨M',h1,h2,h3,by simpa using h4⟩
    .exact h.elim
   obtain⟨h0,h1,v,hb,ho,a5⟩:=hJ;have c0:=hb.cell 0;simp only[List.getElem?_toArray,List.getElem?_cons_zero]at c0;have q0:=hb.lt;have HO:=zaa ho;have a7:=zaa (HF.out.trans' f3 (λi hi h=>by have h':i=w.heap.size+1:=h;omega));clear hb ho a5 f3 a6 hq k0 k1 k2 k3 k4;go_wp2;go_ret;refine⟨v,rfl,?_,a7.out⟩;have h:=HO.out;exact⟨h.1,h.2.imp id λ⟨g,cp,cur,a,b,c⟩=>⟨g,cp,cur,a,by omega,c⟩⟩
section
variable {m:Wm} {lo:Nat} {W:World}
def Wm.are (m:Wm) (L:List Int):Bool:=L.all λr=>(m.get r).isSome
theorem zs4 (h:m.Ok lo W) {g:Nat} (hb:Blk W g 31 #[.pointer (some ⟨m.wb,0,none⟩)]) (r:Int):Calls Tryz.prog 213 #[.int .i64 r,.pointer (some ⟨g,0,none⟩)] W λe w'=>e= .returned (.bool (!(m.get r).isSome))/\w'=W:=by
 have hI:=zqg h r;have c0:W.cell? ⟨g,0,none⟩=some (.pointer (some ⟨m.wb,0,none⟩)):=hb.cell 0;have q0:=hb.lt;clear h hb;generalize (m.get r).isSome=q at*;cases q;all_goals
  go_enter Tryz.func213,Tryz.ntmps213;go_wp2_with fail;refine hI.mono ?_;rintro e w2 ⟨rfl,rfl⟩;go_wp2;go_ret;exact⟨rfl,rfl⟩
theorem row_at {w:World} {base:Nat} {A:Option Addr} {cap:Nat} {L:List Int} (h:w.ownsRow base 22 1 (.slice A L.length cap) L.length (L.map λr=>Value.int .i64 r)) {j:Nat} (hj:j<L.length):∃g,A=some ⟨g,0,none⟩/\g<w.heap.size/\w.cell? ⟨g,j,none⟩=some (.int .i64 L[j]):=by
 obtain⟨g,c,hA,a1,a0⟩:=h.form o_;simp only[Value.slice.injEq,true_and]at hA;obtain⟨rfl,rfl⟩:=hA;have:=World.ownsRow.cells h (g:=g) rfl j (.int .i64 L[j]) (by simp[hj]);rw[zbi,Nat.zero_add]at this;exact⟨g,rfl,a0,this⟩
theorem zs5 (h:m.Ok lo W) {g base:Nat} (hb:Blk W g 31 #[.pointer (some ⟨m.wb,0,none⟩)]) (A:Option Addr) (cap:Nat) (L:List Int) (hr:W.ownsRow base 22 1 (.slice A L.length cap) L.length (L.map λr=>Value.int .i64 r)) (hlen:L.length<=140737488351232):
 Calls Tryz.prog 257 #[.slice A L.length cap,.func (.func 213) #[] #[.pointer (some ⟨g,0,none⟩)]] W λe w'=>(∃z:Int,e= .returned (.int .i64 z)/\((0<=z/\m.are L=false)\/(z= -1/\m.are L=true)))/\w'=W:=by
 have HB:=zaa (zs4 h hb);have HR:=zaa hr;clear h hb hr;go_enter Tryz.func257,Tryz.ntmps257;go_wp2_with fail;go_loopw [8] (λi wr=>∃j:Nat,j<=L.length/\i= .int .i64 j/\wr=W/\∀v∈L.take j,(m.get v).isSome=true) (λi _=>L.length - (intOf i).toNat)
 case atStart=>exact⟨0,Nat.zero_le _,rfl,rfl,by simp⟩
 case round=>
  obtain⟨j,hj,rfl,rfl,a0⟩:=hrel;have HA:=zaa a0;clear a0;by_cases hlt:j<L.length
  .obtain⟨b,rfl,a6,e0⟩:=row_at HR.out hlt;have hc:=HB.out L[j];have a3:L.take (j+1)=L.take j++[L[j]]:=by rw[List.take_succ_eq_append_getElem hlt]
   have a2:L[j]∈L:=List.getElem_mem hlt;generalize L[j]=u at*;have HT:=zaa a3;have HM:=zaa a2;clear a3 a2;cases hm:(m.get u).isSome with
   |false=>
    rw[hm]at hc;have HC:=zaa hc;have a4:m.are L=false:=by
     rw[Bool.eq_false_iff];intro h;have:=List.all_eq_true.1 h u HM.out;rw[hm]at this;cases this
    have HN:=zaa a4;clear hc a4 hm;go_wp2_with fail;refine HC.out.mono ?_;rintro e w2 ⟨rfl,rfl⟩;go_wp2;go_ret;exact⟨⟨_,rfl,.inl ⟨by omega,HN.out⟩⟩,rfl⟩
   |true=>
    rw[hm]at hc;have HC:=zaa hc;have a5:=zaa hm;clear hc hm;go_wp2_with fail;refine HC.out.mono ?_;rintro e w2 ⟨rfl,rfl⟩;go_wp2;go_roundw
    case rel=>
     refine⟨j+1,hlt,by go_num,trivial,λv hv=>?_⟩;rw[HT.out]at hv;rcases List.mem_append.1 hv with hv|hv
     .exact HA.out v hv
     .simp at hv;subst hv;exact a5.out
    case measure=>simp[intOf];omega
  .obtain rfl:L.length=j:=o_;have a1:m.are L=true:=List.all_eq_true.2 λv hv=>HA.out v (by rw[List.take_of_length_le (Nat.le_refl _)];exact hv);have HY:=zaa a1;clear a1;go_wp2;go_ret;exact⟨⟨-1,rfl,.inr ⟨rfl,HY.out⟩⟩,rfl⟩
theorem zld (h:m.Ok lo W) {g base:Nat} (hb:Blk W g 31 #[.pointer (some ⟨m.wb,0,none⟩)]) (A:Option Addr) (cap:Nat) (L:List Int) (hr:W.ownsRow base 22 1 (.slice A L.length cap) L.length (L.map λr=>Value.int .i64 r)) (hlen:L.length<=140737488351232):
 Calls Tryz.prog 211 #[.slice A L.length cap,.func (.func 213) #[] #[.pointer (some ⟨g,0,none⟩)]] W λe w'=>e= .returned (.bool (!m.are L))/\w'=W:=by
 have hI:=zs5 h hb A cap L hr hlen;generalize m.are L=q at*;clear h hb hr;go_enter Tryz.func211,Tryz.ntmps211;go_wp2_with fail;refine hI.mono ?_;rintro e w2 ⟨⟨z,rfl,hz⟩,rfl⟩;rcases hz with⟨h0,rfl⟩|⟨rfl,rfl⟩
 .have h1:decide ((0:Int)<=z)=true:=by simpa using h0
  go_wp2;go_ret;exact⟨rfl,rfl⟩
 .go_wp2;go_ret;exact⟨rfl,rfl⟩
end
theorem zxu (kind home k n:Int) (s:ByteArray) (A:Option Addr) (cap:Nat) (l:List T) (r n1 lost ofr byr set:Int) (full:Bool) (W:World) (hi:Nat) (ht:(T.mk k n s A cap l r).In W 0 hi) (hhi:hi<=W.heap.size):
 Calls Tryz.prog 212 #[.agg (zat kind home k n s A l.length cap r n1 lost ofr byr set full)] W (zi6 (T.mk k n s A cap l r).v.refs W):=by
 have hR:=zdv (T.mk k n s A cap l r) (W.alloc (.cells (zat kind home k n s A l.length cap r n1 lost ofr byr set full) 138)) 0 hi (ht.no ((Fr.refl No W).alloc _) hhi) so_;rw[T.val_mk]at hR;generalize (T.mk k n s A cap l r).v.refs=L at*;have a1:=Blk.new W 138 (zat kind home k n s A l.length cap r n1 lost ofr byr set full);have a2:=(Fr.refl No W).alloc (.cells (zat kind home k n s A l.length cap r n1 lost ofr byr set full) 138);unfold zat at hR a1 a2 ⊢;have HR:=zaa hR;have b1:=zaa a1;have a6:=zaa a2;obtain⟨d0,d1,d2,d3,d4,d5,d6,d7,d8,d9,a5,a7,a8,a9,a4,b0⟩:=a1.cells16;have dq:=a1.lt;clear ht hhi hR a1 a2;go_enter Tryz.func212,Tryz.ntmps212;go_wp2_with fail;generalize World.alloc W _=W0 at*;refine HR.out.mono ?_;rintro e w1 ⟨v,rfl,a0,f1⟩;have hb:=b1.out.fr f1 λh=>h;clear d0 d1 d2 d3 d4 d5 d6 d7 d8 d9 a5 a7 a8 a9 a4 b0 dq;obtain⟨d0,d1,d2,d3,d4,d5,d6,d7,d8,d9,a5,a7,a8,a9,a4,b0⟩:=hb.cells16;have dq:=hb.lt;have a3:=zaa a0;have b2:=zaa (a6.out.trans f1);have HS:=zaa a6.out.size;clear hb a0 f1;go_wp2_with fail;refine wp_loop_rounds 1 ?_;rw[rounds_succ];go_wp2_with fail;refine wp_loop_rounds 1 ?_;rw[rounds_succ];go_wp2_with fail;go_ret;exact⟨v,rfl,zbc a3.out HS.out,b2.out⟩
structure ClN (W:World) where
 w:World
 fr:Fr No W w
theorem zab {P:Program} {id:Nat} {Q:Exit->Act->World->Prop} {a:Act} {w:World} {l:List Oper} (C:World->Prop) (hm:P.follows .mixedOrders=true) (hB:Region.lexB .any l.toArray=true) (hC:C {w with drawn:=w.drawn+1})
 (h:wpQuiet P l.toArray C (λa'=>∀w',C w'->Q .normal a' w') l a):(Code.region id l.toArray true).wp P Q a w:=
 wp_region_quiet (C:=C) hm hB hC (by simpa using h)
section
variable {m:Wm} {lo:Nat} {W:World}
theorem zgn (h:m.Ok lo W):W.cell? ⟨m.wb,2,none⟩=some (.map (some m.M)):=by
 have c0:=h.blk.cell 2;simpa only[Wm.cells,List.getElem?_toArray,List.getElem?_cons_zero,List.getElem?_cons_succ]using c0
theorem zka (h:m.Ok lo W) {g gx:Nat} (hb:Blk W g 31 #[.pointer (some ⟨m.wb,0,none⟩)]) {r k home:Int} {x:Nat×Th} (hg:m.get r=some x) (hk:x.2.kind=k) (hh:x.2.home=home) (hxc:W.cell? ⟨gx,1,none⟩=some (.int .i64 home)) (hgx:gx<W.heap.size):
 Calls Tryz.prog 214 #[.int .i64 r,.int .u8 k,.pointer (some ⟨g,0,none⟩),.pointer (some ⟨gx,0,none⟩)] W λe w'=>e= .returned (.bool true)/\Fr No W w':=by
 have hx:=Wm.get_mem hg;have b0:∀q:ClN W,q.w.cell? ⟨g,0,none⟩=some (.pointer (some ⟨m.wb,0,none⟩)):=λq=>(hb.fr q.fr λh=>h).cell 0;have bx:∀q:ClN W,q.w.cell? ⟨gx,1,none⟩=some (.int .i64 home):=λq=>(q.fr.cell hgx λh=>h).trans hxc;have c0:∀q:ClN W,q.w.cell? ⟨m.wb,2,none⟩=some (.map (some m.M)):=λq=>zgn (h.no q.fr);have hl:∀q:ClN W,(Instr.lookup 34 (.map (some m.M)) (.int .i64 r) false).run Tryz.prog q.w= .ok (.pointer (some ⟨x.1,0,none⟩)) q.w:=λq=>by
  have:=zcq (h.no q.fr) r;rw[hg]at this;exact this
 have d1:∀q:ClN W,q.w.cell? ⟨x.1,1,none⟩=some (.int .i64 home):=λq=>by
  rw[<-hh];exact((h.no q.fr).box x hx).cell 1
 have HK:Hid (∀q:ClN W,Calls Tryz.prog 44 #[.pointer (some ⟨m.wb,0,none⟩),.int .i64 r] q.w λe a1=>e= .returned (.int .u8 k)/\∃q':ClN W,a1=q'.w):=zaa λq=>by
  refine(zmk (h.no q.fr) r).mono ?_;rintro e a1 ⟨rfl,rfl⟩;exact⟨by unfold Wm.kind;rw[hg,<-hk];rfl,q,rfl⟩
 clear h hb hg hk hh hxc hgx hx;go_enter Tryz.func214,Tryz.ntmps214;go_wp2_with fail;have a0:Nonempty (ClN W):=⟨⟨W,Fr.refl No W⟩⟩;refine zab (λW'=>∃q:ClN W,W'=q.w) k_ k_ ⟨⟨_,(Fr.refl No W).drew⟩,rfl⟩ ?_;repeat(go_big_quiet_step ((go_at_call 44;exact HK.out _)))
 refine wpQuiet_nil ?_;rintro Wc ⟨⟨_,f3⟩,rfl⟩;clear b0 bx c0 hl d1 HK a0;go_wp2_with fail;go_ret;exact⟨rfl,f3⟩
structure OI (W:World) (M cl rI:Nat) (v:List Nat) (wr:World):Prop where
 fr:Fr No W wr
 it:wr.heap[rI]? =some (.mapIter (some M) cl v.toArray cl)
 r0:W.heap.size<=rI
theorem zdj (W:World) (r:Nat) (o:Obj):Fr (λi=>i=r) W (ChangeMaps.setBlock W r o):=
 ⟨rfl,rfl,rfl,by simp[ChangeMaps.setBlock],λb hb hn=>by simp[ChangeMaps.setBlock,Array.getElem?_setIfInBounds];intro h;exact absurd h.symm hn⟩
theorem zdk {W:World} {r:Nat} (o:Obj) (h:r<W.heap.size):(ChangeMaps.setBlock W r o).heap[r]? =some o:=by
 simp[ChangeMaps.setBlock,h]
theorem zaw {W:World} {r:Nat} {m:Option Nat} {a c:Nat} {s:Array Nat} (h:W.heap[r]? =some (.mapIter m a s c)):W.iterSeen r=s:=by
 simp[World.iterSeen,h]
theorem zs6 (h:m.Ok lo W) {k of_:Int} (hno:∀x∈m.th,¬(x.2.kind=k/\x.2.ofr=of_)):
 Calls Tryz.prog 215 #[.pointer (some ⟨m.wb,0,none⟩),.int .i64 0,.int .u8 k,.int .i64 of_] W λe w'=>e= .returned (.bool false)/\Fr No W w':=by
 obtain⟨es,cl,hm,b9,b7⟩:=h.things;have c0:=zgn h;have q0:=h.blk.lt;have c5:=run_range_map (P:=Tryz.prog) W 34 22 185 m.M es cl Tryz.underlying34 hm;have hM:=zah hm;have a3:Hid (OI W m.M cl W.heap.size [] (W.alloc (.mapIter (some m.M) cl #[] cl))):=⟨(Fr.refl No W).alloc _,World.alloc_heap_new _ _,Nat.le_refl _⟩;have b8:=zaa b9;have c6:=zaa b7;have c8:=zaa h;clear b9 b7 h;generalize d1:W.heap.size=rI at*;go_enter Tryz.func215,Tryz.ntmps215;go_wp2_with fail;go_loopw [8] (λ_ wr=>∃v,OI W m.M cl rI v wr) (λ_ wr=>(leftOf es (wr.iterSeen rI)).size)
 case atStart=>exact⟨[],a3.out⟩
 case round=>
  obtain⟨v,inv⟩:=hrel;have a4:=run_next_at (P:=Tryz.prog) wr 0 rI m.M cl cl v.toArray es cl inv.it ((inv.fr.block m.M o_ (λh=>h)).trans hm) c6.out.1 (Nat.le_refl _);rcases a4 with⟨h0,a4⟩|⟨e,he,w3,b1,a4⟩
  .have HI:=zaa inv;clear inv h0 c5 a3;go_wp2;go_ret;exact⟨rfl,HI.out.fr⟩
  .obtain⟨b2,c9⟩:=mem_left he;have a6:=left_shrinks es _ e he;obtain⟨i,hi,c2⟩:=List.mem_iff_getElem.1 b2;have b4:i<m.th.length:=by rw[<-b8.out.1];exact hi
   obtain⟨a5,a8⟩:=b8.out.2 i e m.th[i] (by rw[<-c2];exact List.getElem?_eq_getElem hi) (List.getElem?_eq_getElem b4);have b3:m.th[i]∈m.th:=List.getElem_mem b4;have a0:=hno _ b3;have F3:Fr (λi=>i=rI) wr (ChangeMaps.setBlock w3 rI (.mapIter (some m.M) cl (v.toArray.push e.born) cl)):=by
    rcases b1 with rfl|rfl
    .exact zdj _ _ _
    .exact((Fr.refl _ wr).drew).trans (zdj _ _ _)
   have b5:=zah inv.it;have a2:(ChangeMaps.setBlock w3 rI (.mapIter (some m.M) cl (v.toArray.push e.born) cl)).heap[rI]? =some (.mapIter (some m.M) cl (v.toArray.push e.born) cl):=by
    rcases b1 with rfl|rfl
    .exact zdk _ b5
    .exact zdk _ b5
   generalize ChangeMaps.setBlock w3 rI _=W3 at*;have c7:=inv.r0;have a9:Fr No W W3:=inv.fr.trans' F3 λq hq h=>by have h':q=rI:=h;omega
   have b6:W3.heap[m.M]? =some (.map es cl):=(a9.block m.M o_ λh=>h).trans hm;have a7:=run_entry_at (P:=Tryz.prog) W3 rI m.M cl _ es cl e a2 b6 b2 c6.out.2;have bx:=(c8.out.box _ b3).fr a9 λh=>h;rw[a5,a8]at a4 a7;have c3:=zaa a6;have a1:=zaa a2;have b0:=zaa inv;have c4:=zaa a9;generalize m.th[i]=x at*;obtain⟨gx,kind,home,⟨k1,n1,s1,A1,c1,l1,r1⟩,n2,lost,ofr,byr,set,full⟩:=x;have d0:W3.cell? ⟨gx,0,none⟩=some (.int .u8 kind):=bx.cell 0;have d2:W3.cell? ⟨gx,10,none⟩=some (.int .i64 ofr):=bx.cell 10;have dq:gx<W3.heap.size:=bx.lt;simp only at a0 a4 a7;have d5:((i:Int)+1 !=0)=true:=so_;clear b2 c9 a6 hi c2 b4 a5 a8 b3 F3 b5 a2 c7 b6 bx inv he b1 c5 a3 a9;by_cases hk:kind=k
   .have d4:(ofr==of_)=false:=by
     have:ofr≠of_:=λh=>a0 ⟨hk,h⟩;simpa using this
    subst hk;clear a0;go_wp2_with fail;go_roundw
    case rel=>exact⟨v++[e.born],c4.out,by simpa using a1.out,b0.out.r0⟩
    case measure=>
     rw[zaw a1.out,zaw b0.out.it];exact c3.out
   .have d3:(kind==k)=false:=by simpa using hk
    clear a0 hk;go_wp2_with fail;go_roundw
    case rel=>exact⟨v++[e.born],c4.out,by simpa using a1.out,b0.out.r0⟩
    case measure=>
     rw[zaw a1.out,zaw b0.out.it];exact c3.out
end
end Go.Proofs.YtlejelbefmkakaaGreat

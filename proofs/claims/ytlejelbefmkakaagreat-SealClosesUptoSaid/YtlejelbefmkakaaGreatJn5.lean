/- Texts joined: Wo8, Wo9, Wo10, Wo11, Wo7. -/
import Derived.Test.YtlejelbefmkakaaGreatJn1
import Derived.Test.YtlejelbefmkakaaGreatJn4
import Derived.LoopN
set_option maxHeartbeats 4000000
set_option maxRecDepth 100000
namespace Go.Proofs.YtlejelbefmkakaaGreat
open Go.RowKit
section
variable {m:Wm} {lo:Nat} {W:World}
theorem zle (h:m.Ok lo W) (kind home k n:Int) (s:ByteArray) (A:Option Addr) (cap:Nat) (l:List T) (r n1 lost ofr byr set:Int) (full:Bool) (hi:Nat) (ht:(T.mk k n s A cap l r).In W 0 hi) (hhi:hi<=W.heap.size) (hln:(T.mk k n s A cap l r).v.refs.length<=140737488351232):
 Calls Tryz.prog 155 #[.pointer (some ⟨m.wb,0,none⟩),.agg (zat kind home k n s A l.length cap r n1 lost ofr byr set full)] W λe w'=>e= .returned (.bool (m.are (T.mk k n s A cap l r).v.refs))/\Fr No W w':=by
 have a5:=(Blk.new W 31 #[.pointer (some ⟨m.wb,0,none⟩)]).alloc (.cells (zat kind home k n s A l.length cap r n1 lost ofr byr set full) 138);have a2:=Blk.new' (W.alloc (.cells #[.pointer (some ⟨m.wb,0,none⟩)] 31)) 138 (zat kind home k n s A l.length cap r n1 lost ofr byr set full) (g:=W.heap.size+1) s_;have a4:=((Fr.refl No W).alloc (.cells #[.pointer (some ⟨m.wb,0,none⟩)] 31)).alloc (.cells (zat kind home k n s A l.length cap r n1 lost ofr byr set full) 138);have hH:=λW' (f:Fr No W W')=>zxu kind home k n s A cap l r n1 lost ofr byr set full W' hi (ht.no f hhi) (Nat.le_trans hhi f.size);generalize (T.mk k n s A cap l r).v.refs=L at*;have a3:=zaa a5;have a1:=zaa a4;have a9:=zaa h;unfold zat at a2 hH a1 a3 ⊢;have HH:=zaa hH;obtain⟨q,hq⟩:∃q,m.are L=q:=⟨_,rfl⟩;rw[hq];have HQ:=zaa hq;clear hq;obtain⟨d0,d1,d2,d3,d4,d5,d6,d7,d8,d9,a7,b0,b1,b2,a6,b3⟩:=a2.cells16;have dq:=a2.lt;clear ht hhi a5 a2 a4 hH h;go_enter Tryz.func155,Tryz.ntmps155;go_wp2_with fail;generalize World.alloc (World.alloc W _) _=W0 at*;refine(HH.out W0 a1.out).mono ?_;rintro e w1 ⟨v,rfl,a0,f1⟩;obtain⟨A1,c1,rfl⟩:=za8 a0;have hc:=zld ((a9.out.no a1.out).no f1) (a3.out.fr f1 λh=>h) A1 c1 L a0 hln;rw[HQ.out]at hc;have HC:=zaa hc;have a8:=zaa (a1.out.trans f1);clear d0 d1 d2 d3 d4 d5 d6 d7 d8 d9 a7 b0 b1 b2 a6 b3 dq a0 f1 hc HQ;cases q;all_goals
  go_wp2_with fail;refine HC.out.mono ?_;rintro e w2 ⟨rfl,rfl⟩;go_wp2;go_ret;exact⟨rfl,a8.out⟩
theorem zy7 (home k n:Int) (s:ByteArray) (A:Option Addr) (len cap:Nat) (r n1 lost ofr byr set:Int) (full:Bool) (b:Nat):
 Calls Tryz.prog 158 #[.pointer (some ⟨b,0,none⟩),.int .i64 0,.agg (zat 5 home k n s A len cap r n1 lost ofr byr set full)] W λe w'=>e= .returned (.bool true)/\Fr No W w':=by
 unfold zat;go_enter Tryz.func158,Tryz.ntmps158;go_wp2;go_ret;exact⟨rfl,((Fr.refl No W).alloc _).alloc _⟩
theorem zy8 (h:m.Ok lo W) (home k n:Int) (s:ByteArray) (A:Option Addr) (len cap:Nat) (r n1 lost ofr byr set:Int) (full:Bool) {x:Nat×Th} (hg:m.get ofr=some x) (hk:x.2.kind=5) (hh:x.2.home=home):
 Calls Tryz.prog 158 #[.pointer (some ⟨m.wb,0,none⟩),.int .i64 0,.agg (zat 7 home k n s A len cap r n1 lost ofr byr set full)] W λe w'=>e= .returned (.bool true)/\Fr No W w':=by
 have a2:=(Blk.new W 31 #[.pointer (some ⟨m.wb,0,none⟩)]).alloc (.cells (zat 7 home k n s A len cap r n1 lost ofr byr set full) 138);have a0:=Blk.new' (W.alloc (.cells #[.pointer (some ⟨m.wb,0,none⟩)] 31)) 138 (zat 7 home k n s A len cap r n1 lost ofr byr set full) (g:=W.heap.size+1) s_;have a1:=((Fr.refl No W).alloc (.cells #[.pointer (some ⟨m.wb,0,none⟩)] 31)).alloc (.cells (zat 7 home k n s A len cap r n1 lost ofr byr set full) 138);have hc:=zka (h.no a1) a2 hg hk hh (gx:=W.heap.size+1) (a0.cell 1) a0.lt;unfold zat at a0 hc ⊢;have HC:=zaa hc;have a3:=zaa a1;unfold zat at a3;obtain⟨d0,d1,d2,d3,d4,d5,d6,d7,d8,d9,a5,a6,a7,a8,a4,a9⟩:=a0.cells16;have dq:=a0.lt;clear a2 a0 a1 hc h hg hk hh;go_enter Tryz.func158,Tryz.ntmps158;go_wp2_with fail;generalize World.alloc (World.alloc W _) _=W0 at*;refine HC.out.mono ?_;rintro e w1 ⟨rfl,f1⟩;clear d0 d1 d2 d3 d4 d5 d6 d7 d8 d9 a5 a6 a7 a8 a4 a9 dq;go_wp2;go_ret;exact⟨rfl,a3.out.trans f1⟩
theorem zy9 (h:m.Ok lo W) (home k n:Int) (s:ByteArray) (A:Option Addr) (len cap:Nat) (r n1 lost ofr byr set:Int) (full:Bool) {x:Nat×Th} (hg:m.get ofr=some x) (hk:x.2.kind=5) (hh:x.2.home=home) (hno:∀x∈m.th,¬(x.2.kind=6/\x.2.ofr=ofr)):
 Calls Tryz.prog 158 #[.pointer (some ⟨m.wb,0,none⟩),.int .i64 0,.agg (zat 6 home k n s A len cap r n1 lost ofr byr set full)] W λe w'=>e= .returned (.bool true)/\Fr No W w':=by
 have a4:=(Blk.new W 31 #[.pointer (some ⟨m.wb,0,none⟩)]).alloc (.cells (zat 6 home k n s A len cap r n1 lost ofr byr set full) 138);have a0:=Blk.new' (W.alloc (.cells #[.pointer (some ⟨m.wb,0,none⟩)] 31)) 138 (zat 6 home k n s A len cap r n1 lost ofr byr set full) (g:=W.heap.size+1) s_;have a3:=((Fr.refl No W).alloc (.cells #[.pointer (some ⟨m.wb,0,none⟩)] 31)).alloc (.cells (zat 6 home k n s A len cap r n1 lost ofr byr set full) 138);have hc:=zka (h.no a3) a4 hg hk hh (gx:=W.heap.size+1) (a0.cell 1) a0.lt;have HN:=zaa λW' (f:Fr No W W')=>zs6 (h.no f) hno;unfold zat at a0 hc ⊢;have HC:=zaa hc;have b0:=zaa a4;have b3:=zaa a0;have b2:=zaa a3;unfold zat at b2 b0;obtain⟨d0,d1,d2,d3,d4,d5,d6,d7,d8,d9,a2,a5,a6,a7,a1,a9⟩:=a0.cells16;have dq:=a0.lt;clear a4 a0 a3 hc h hg hk hh hno;go_enter Tryz.func158,Tryz.ntmps158;go_wp2_with fail;generalize World.alloc (World.alloc W _) _=W0 at*;refine HC.out.mono ?_;rintro e w1 ⟨rfl,f1⟩;have hb:=b3.out.fr f1 λh=>h;have a8:=b0.out.fr f1 λh=>h;have b1:=zaa (b2.out.trans f1);clear d0 d1 d2 d3 d4 d5 d6 d7 d8 d9 a2 a5 a6 a7 a1 a9 dq f1;obtain⟨d0,d1,d2,d3,d4,d5,d6,d7,d8,d9,a2,a5,a6,a7,a1,a9⟩:=hb.cells16;have dq:=hb.lt;have e0:w1.cell? ⟨W.heap.size,0,none⟩=some (.pointer (some ⟨m.wb,0,none⟩)):=a8.cell 0;have b4:=a8.lt;clear hb a8;go_wp2_with fail;refine(HN.out w1 b1.out).mono ?_;rintro e w2 ⟨rfl,f2⟩;clear d0 d1 d2 d3 d4 d5 d6 d7 d8 d9 a2 a5 a6 a7 a1 a9 dq e0 b4;go_wp2;go_ret;exact⟨rfl,b1.out.trans f2⟩
end
theorem zza (W:World):Calls Tryz.prog 156 #[.int .u8 5] W λe w'=>e= .returned (.bool false)/\w'=W:=by
 have hw:Calls Tryz.prog 172 #[.int .u8 5] W λe w'=>e= .returned (.bool false)/\w'=W:=by
  go_enter Tryz.func172,Tryz.ntmps172;go_wp2;go_ret;exact⟨rfl,rfl⟩
 go_enter Tryz.func156,Tryz.ntmps156;go_wp2_with fail;refine hw.mono ?_;rintro e w' ⟨rfl,rfl⟩;go_wp2;go_ret;exact⟨rfl,rfl⟩
theorem zzb (W:World):Calls Tryz.prog 156 #[.int .u8 6] W λe w'=>e= .returned (.bool true)/\w'=W:=by
 go_enter Tryz.func156,Tryz.ntmps156;go_wp2;go_ret;exact⟨rfl,rfl⟩
theorem zzc (W:World):Calls Tryz.prog 156 #[.int .u8 7] W λe w'=>e= .returned (.bool true)/\w'=W:=by
 go_enter Tryz.func156,Tryz.ntmps156;go_wp2;go_ret;exact⟨rfl,rfl⟩
theorem by5 (k:Int) (hk:k=5\/k=6\/k=7) (W:World):Calls Tryz.prog 157 #[.int .u8 k] W λe w'=>e= .returned (.bool false)/\w'=W:=by
 rcases hk with rfl|rfl|rfl;all_goals
  go_enter Tryz.func157,Tryz.ntmps157;go_wp2;go_ret;exact⟨rfl,rfl⟩
def Wm.add (m:Wm) (g:Nat) (x:Th) (s:Nat):Wm:={m with th:=m.th++[(g,x)],made:=m.made.set s (m.made.getD s 0+1)}
theorem znk {m:Wm} {lo:Nat} {W:World} (_:m.Ok lo W):∀es cl,W.heap[m.M]? =some (.map es cl)->zt2 es.toList m.th->∀e∈es.toList,∃c:Int,e.key= .int .i64 c/\((m.th.length:Int)+1)≠c:=by
 intro es cl hm he e hem;obtain⟨i,hi,rfl⟩:=List.mem_iff_getElem.1 hem;have hi':i<m.th.length:=by rw[<-he.1];exact hi
 refine⟨_,(he.2 i _ _ (List.getElem?_eq_getElem hi) (List.getElem?_eq_getElem hi')).1,?_⟩;omega
theorem zhp (W:World) (r:Nat) (o:Obj):Fr (λi=>i=r) W (W.putObj r o):=
 ⟨rfl,rfl,rfl,by simp[World.putObj],λb hb hn=>by simp[World.putObj,Array.getElem?_setIfInBounds];intro h;exact absurd h.symm hn⟩
theorem zwi {W:World} {wb M g:Nat} {kind r:Int} (hl:(Instr.lookup 34 (.map (some M)) (.int .i64 r) false).run Tryz.prog W= .ok (.pointer (some ⟨g,0,none⟩)) W) (c0:W.cell? ⟨wb,2,none⟩=some (.map (some M))) (d0:W.cell? ⟨g,0,none⟩=some (.int .u8 kind)) (hk:kind≠14):
 Calls Tryz.prog 193 #[.pointer (some ⟨wb,0,none⟩),.int .i64 r] W λe w'=>(∃v,e= .returned v)/\w'=W:=by
 have a0:(kind==14)=false:=by simpa using hk
 clear hk;go_enter Tryz.func193,Tryz.ntmps193;go_wp2_with fail;go_end0
 exact⟨⟨_,rfl⟩,rfl⟩
theorem T.Sp.typed {w:World} {lo hi:Nat} (t:T):t.Sp w lo hi->∀b∈t.blocks,∃cs,Blk w b 28 cs:=by
 induction t using T.ind with
 |h k n s A cap l r ih=>
  rw[T.sp_mk,T.blocks_mk];rintro⟨h1,_,h3,h4⟩ b hb;rcases List.mem_append.1 hb with hb|hb
  .cases l with
   |nil=>simp at hb
   |cons x l=>
    obtain⟨ho,g,rfl,hg⟩:=h3 s_;simp at hb;subst hb;rcases ho.2 with⟨h,_⟩|⟨g,cap,a1,h,_,hh,_⟩
    .cases h
    .simp at h;obtain⟨rfl,-⟩:=h;exact⟨a1,hh⟩
  .obtain⟨bs,a0,hb⟩:=List.mem_flatten.1 hb;obtain⟨x,hx,rfl⟩:=List.mem_map.1 a0;exact ih x hx (h4 x hx) b hb
theorem zao {w:World} {base:Nat} {e:TypeId} {size:Nat} {v:Value} {n:Nat} {xs:List Value} (h:w.ownsRow base e size v n xs) {g:Nat} (hg:v.ownBlock=some g):∃cs,Blk w g e cs:=by
 rcases h.2 with⟨rfl,h0⟩|⟨g',a0,a1,rfl,hb,hh,_⟩
 .cases hg
 .simp[Value.ownBlock]at hg;subst hg;exact⟨a1,hh⟩
theorem zqh {w:World} {base e size g n cap i:Nat} {xs:List Value} {u:Value} (h:w.ownsRow base e size (.slice (some ⟨g,0,none⟩) n cap) n xs):(w.setCell ⟨g,i,none⟩ u).ownsRow base e size (.slice (some ⟨g,0,none⟩) n cap) n (xs.set i u):=by
 refine⟨by simp[h.1],?_⟩;rcases h.2 with⟨h1,_⟩|⟨g',a1,a0,h1,hb,hg,hc,hm,a2,hx⟩
 .cases h1
 .simp only[Value.slice.injEq,Option.some.injEq,Addr.mk.injEq,and_true,true_and]at h1;obtain⟨rfl,rfl⟩:=h1;refine .inr ⟨g,cap,a0.setIfInBounds i u,rfl,hb,?_,hc,hm,by simp[a2],?_⟩
  .have:Blk (w.setCell ⟨g,i,none⟩ u) g e (a0.setIfInBounds i u):=Blk.set_ hg i u;exact this
  .rw[<-hx,Array.toList_setIfInBounds,List.take_set]
theorem zap {w:World} {M g cl:Nat} {es:Array MapEntry} {t:TypeId} {cs:Array Value} (hm:w.heap[M]? =some (.map es cl)) (hb:Blk w g t cs):g≠M:=by
 rintro rfl;unfold Blk at hb;rw[hm]at hb;cases hb
section
variable {m:Wm} {lo:Nat} {W:World}
theorem Wm.Ok.apart (h:m.Ok lo W):m.wb≠m.M/\m.wb≠m.F/\(∀g,(Value.slice m.D m.made.length m.dc).ownBlock=some g->g≠m.wb/\g≠m.M)/\(∀x∈m.th,x.1≠m.wb/\x.1≠m.M/\∀b∈x.2.v.blocks,b≠m.wb/\b≠m.M)/\
 ∀g,(Value.slice m.D m.made.length m.dc).ownBlock=some g->g≠m.F/\∀x∈m.th,x.1≠g/\∀b∈x.2.v.blocks,b≠g:=by
 obtain⟨es,cl,hm,-⟩:=h.things;obtain⟨ef,cf,hf,-⟩:=h.facets;refine⟨zap hm h.blk,zap hf h.blk,λg hg=>?_,λx hx=>⟨Blk.ne_ (h.box x hx) h.blk d_,zap hm (h.box x hx),λb hb=>?_⟩,λg hg=>?_⟩
 .obtain⟨cs,hb⟩:=zao h.made hg;exact⟨Blk.ne_ hb h.blk d_,zap hm hb⟩
 .obtain⟨cs,a0⟩:=T.Sp.typed _ (h.vals x hx).sp b hb;exact⟨Blk.ne_ a0 h.blk d_,zap hm a0⟩
 .obtain⟨cs,hb⟩:=zao h.made hg;refine⟨zap hf hb,λx hx=>⟨Blk.ne_ (h.box x hx) hb d_,λb hbb=>?_⟩⟩;obtain⟨a1,a0⟩:=T.Sp.typed _ (h.vals x hx).sp b hbb;exact Blk.ne_ a0 hb d_
theorem zv8 (h:m.Ok lo W) {g:Nat} {x:Th} {W2:World} (f:Fr (λi=>i=m.wb\/i=m.M) W W2) (hg:W.heap.size<=g) (hlo:lo<=W.heap.size) (hx:Blk W2 g 138 x.cells.toArray) (hv:x.v.Sh W2 lo W2.heap.size) (hlen:m.th.length<100000)
 (hb:Blk W2 m.wb 38 ({m with th:=m.th++[(g,x)]}:Wm).cells) {es:Array MapEntry} {cl b:Nat} (hm0:W.heap[m.M]? =some (.map es cl)) (hm:W2.heap[m.M]? =some (.map (es.push {key:=.int .i64 ((m.th.length:Int)+1),val:=.pointer (some ⟨g,0,none⟩),born:=b}) (cl+1))) (hbc:b=cl):
 ({m with th:=m.th++[(g,x)]}:Wm).Ok lo W2:=by
 obtain⟨a9,a8,a0,he,a6⟩:=h.things;rw[hm0]at a0;injection a0 with a0
 injection a0 with e1 e2
 subst e1 e2 hbc;obtain⟨ef,cf,hf,a7⟩:=h.facets;obtain⟨a1,a2,a3,a4,a5⟩:=h.apart;refine⟨hb,⟨_,_,hm,⟨by simp[he.1],λi e y hei hyi=>?_⟩,?_,?_⟩,⟨ef,cf,(f.block _ (zah hf) λhh=>?_).trans hf,a7⟩,zaf h.made f λq hq hh=>?_,λy hy=>?_,λy hy=>?_,⟨h.lo0.1,h.lo0.2.1,h.lo0.2.2.1,λy hy=>?_⟩,h.mf,?_,by simp;omega,h.mades,h.sides⟩
 .simp only[Array.toList_push]at hei;rcases Nat.lt_trichotomy i m.th.length with hi|rfl|hi
  .rw[List.getElem?_append_left (by rw[he.1];exact hi)]at hei;simp only[List.getElem?_append_left hi]at hyi;exact he.2 i e y hei hyi
  .rw[<-he.1,List.getElem?_append_right (Nat.le_refl _),Nat.sub_self]at hei;simp at hei hyi;subst hei hyi;refine⟨?_,rfl⟩;have h1:=he.1;rw[Array.length_toList]at h1;rw[h1]
  .simp only at hyi;rw[List.getElem?_eq_none so_]at hyi;cases hyi
 .intro y hy;simp only[Array.toList_push,List.mem_append,List.mem_singleton]at hy;rcases hy with hy|rfl
  .have:=a6.1 y hy;omega
  .exact Nat.lt_succ_self _
 .simp only[Array.toList_push,List.map_append,List.map_cons,List.map_nil];refine List.nodup_append.2 ⟨a6.2,by simp,λa ha b' hb'=>?_⟩;simp only[List.mem_singleton]at hb';subst hb';obtain⟨y,hy,rfl⟩:=List.mem_map.1 ha;have:=a6.1 y hy;omega
 .rcases hh with hh|hh
  .exact a2 hh.symm
  .exact h.mf hh.symm
 .have:=a3 q hq;rcases hh with hh|hh
  .exact this.1 hh
  .exact this.2 hh
 .simp only[List.mem_append,List.mem_singleton]at hy;rcases hy with hy|rfl
  .exact(h.box y hy).fr f λhh=>by
    have:=a4 y hy;rcases hh with hh|hh
    .exact this.1 hh
    .exact this.2.1 hh
  .exact hx
 .simp only[List.mem_append,List.mem_singleton]at hy;rcases hy with hy|rfl
  .exact((h.vals y hy).fr f λb hb hh=>by
    have:=(a4 y hy).2.2 b hb;rcases hh with hh|hh
    .exact this.1 hh
    .exact this.2 hh).more (Nat.le_refl _) f.size
  .exact hv
 .simp only[List.mem_append,List.mem_singleton]at hy;rcases hy with hy|rfl
  .exact h.lo0.2.2.2 y hy
  .show lo<=g;omega
 .refine List.pairwise_append.2 ⟨h.dist,by simp,λa ha b' hb'=>?_⟩;simp only[List.mem_singleton]at hb';subst hb';have:=(h.box a ha).lt;show a.1≠g;omega
theorem zv9 (h:m.Ok lo W) {s g:Nat} (hs:s<m.made.length) (h512:m.made[s]<512) (hD:(Value.slice m.D m.made.length m.dc).ownBlock=some g):
 ({m with made:=m.made.set s (m.made[s]+1)}:Wm).Ok lo (W.setCell ⟨g,s,none⟩ (.int .i64 ((m.made[s]:Int)+1))):=by
 have f:Fr (λi=>i=g) W (W.setCell ⟨g,s,none⟩ (.int .i64 ((m.made[s]:Int)+1))):=(Fr.refl (λi=>i=g) W).set (λ_=>rfl) _;obtain⟨es,cl,hm,he⟩:=h.things;obtain⟨ef,cf,hf,a9⟩:=h.facets;obtain⟨a1,a2,a3,a4,a5⟩:=h.apart;have a8:=a3 g hD;have a7:=a5 g hD;have hz:0<m.made.length:=o_;obtain⟨g',c,a6,b2,b3⟩:=h.made.form hz;simp only[Value.slice.injEq,true_and]at a6;have b1:g'=g:=by
  rw[a6.1]at hD;simpa[Value.ownBlock]using hD
 subst b1;have b0:(W.setCell ⟨g',s,none⟩ (.int .i64 ((m.made[s]:Int)+1))).ownsRow lo 3 1 (.slice m.D m.made.length m.dc) m.made.length ((m.made.set s (m.made[s]+1)).map λ(n:Nat)=>Value.int .i64 (n:Int)):=by
  have h0:=h.made;rw[a6.1,a6.2]at h0 ⊢;have:=zqh (i:=s) (u:=.int .i64 ((m.made[s]:Int)+1)) h0;rw[List.map_set];exact this
 have a0:({m with made:=m.made.set s (m.made[s]+1)}:Wm).cells=m.cells:=by simp[Wm.cells]
 refine⟨by rw[a0];exact h.blk.fr f λhh=>a8.1 hh.symm,⟨es,cl,(f.block _ (zah hm) λhh=>a8.2 hh.symm).trans hm,he⟩,⟨ef,cf,(f.block _ (zah hf) λhh=>a7.1 hh.symm).trans hf,a9⟩,by simpa using b0,
  λy hy=>(h.box y hy).fr f λhh=>(a7.2 y hy).1 hh,λy hy=>((h.vals y hy).fr f λb hb hh=>(a7.2 y hy).2 b hb hh).more (Nat.le_refl _) f.size,h.lo0,h.mf,h.dist,h.len,λn hn=>?_,by simpa using h.sides⟩
 rcases List.mem_or_eq_of_mem_set hn with hn|rfl
 .exact h.mades n hn
 .omega
end
def zxq (m:Wm) (x:Th) (s lo:Nat) (W:World) (e:Ending) (w':World):Prop:=
 e= .returned (.int .i64 ((m.th.length:Int)+1))/\(m.add W.heap.size x s).Ok lo w'/\Fr m.B W w'
theorem zwa {m:Wm} {lo:Nat} {W:World} (h:m.Ok lo W) (hlo:lo<=W.heap.size) (kind k n:Int) (s:ByteArray) (A:Option Addr) (cap:Nat) (l:List T) (r n1 lost ofr byr set:Int) (full:Bool) (home:Nat) (hs:home<m.made.length) (h512:m.made[home]<512) (hk:kind≠14) (hlen:m.th.length<100000)
 (hv:(T.mk k n s A cap l r).Sh W lo W.heap.size):
 Calls Tryz.prog 159 #[.pointer (some ⟨m.wb,0,none⟩),.agg (zat kind (home:Int) k n s A l.length cap r n1 lost ofr byr set full)] W (zxq m ⟨kind,home,.mk k n s A cap l r,n1,lost,ofr,byr,set,full⟩ home lo W):=by
 obtain⟨es,cl,hm,d8,f0⟩:=h.things;have c3:=Blk.new W 138 (zat kind (home:Int) k n s A l.length cap r n1 lost ofr byr set full);have b9:=(Fr.refl No W).alloc (.cells (zat kind (home:Int) k n s A l.length cap r n1 lost ofr byr set full) 138);have a4:=h.blk.fr b9 λh=>h;have c4:=a4.cell 4;have z4:=a4.frozen 4;have q4:=a4.lt;simp only[Wm.cells,List.getElem?_toArray,List.getElem?_cons_zero,List.getElem?_cons_succ]at c4;have f7:IntKind.i64.wrap ((m.th.length:Int)+1)=(m.th.length:Int)+1:=IntWalk.i64_in _ o_;have a7:=zaa h;have b8:=zaa c3;have b5:=zaa b9;have c0:=zaa a4;have HM:=zaa hm;have e7:=zaa d8;have HV:=zaa hv;unfold zat at b8 b5 c0 c4 z4 q4 ⊢;clear c3 b9 a4 hm d8 f0 hv h;go_enter Tryz.func159,Tryz.ntmps159;go_upto_region 2 with(fail);have b3:=a7.out.apart;have f1:Fr (λi=>i=m.wb) W ((W.alloc (.cells #[.int .u8 kind,.int .i64 (home:Int),.int .u8 k,.int .i64 n,.string s,.slice A l.length cap,.int .i64 r,.slice none 0 0,.int .i64 n1,.int .i64 lost,.int .i64 ofr,.int .i64 byr,.int .u8 set,.bool full,.slice none 0 0,.slice none 0 0] 138)).setCell ⟨m.wb,4,none⟩ (.int .i64 ((m.th.length:Int)+1))):=(b5.out.no (S:=λi=>i=m.wb)).set (λ_=>rfl) _;have e3:=b8.out.far (p:=⟨m.wb,4,none⟩) (by have:=a7.out.blk.lt;simp;omega) (.int .i64 ((m.th.length:Int)+1));have hw:=c0.out.set_ 4 (.int .i64 ((m.th.length:Int)+1));generalize e6:World.setCell (World.alloc W _) _ _=W1 at*;have b4:W1.heap[m.M]? =some (.map es cl):=(f1.block _ (zah HM.out) λhh=>b3.1 hh.symm).trans HM.out;have hu:(Instr.mapUpdate 34 (.map (some m.M)) (.int .i64 ((m.th.length:Int)+1)) (.pointer (some ⟨W.heap.size,0,none⟩))).run Tryz.prog W1.drew= .ok () (W1.drew.putObj m.M (.map (es.push {key:=.int .i64 ((m.th.length:Int)+1),val:=.pointer (some ⟨W.heap.size,0,none⟩),born:=cl}) (cl+1))):=
  zft Tryz.underlying22 Tryz.underlying34 _ _ (show W1.drew.heap[m.M]? =some (.map es cl)from b4) (znk a7.out es cl HM.out e7.out)
 have c2:=hw.cell 2;have c5:=hw.cell 4;have q5:=hw.lt;simp only[Wm.cells,List.setIfInBounds_toArray,List.set_cons_zero,List.set_cons_succ,List.getElem?_toArray,List.getElem?_cons_zero,List.getElem?_cons_succ]at c2 c5;have d6:=zaa f1;have d4:=zaa e3;have e0:=zaa hw;have d7:=zaa b4;have d3:=zaa b3;clear c4 z4 q4 f1 e3 hw b4 b3 e6 b8 b5 c0;go_region
 all_goals
  go_simp;go_upto_region 3 with(fail);generalize b2:World.putObj W1.drew _ _=W2 at*;have f2:Fr (λi=>i=m.M) W1 W2:=by
   rw[<-b2];exact((Fr.refl _ W1).drew).trans (zhp _ _ _)
  have e2:=zah d7.out;have c7:W2.heap[m.M]? =some (.map (es.push {key:=.int .i64 ((m.th.length:Int)+1),val:=.pointer (some ⟨W.heap.size,0,none⟩),born:=cl}) (cl+1)):=by
   rw[<-b2];have b7:m.M<W1.drew.heap.size:=e2;show(W1.drew.heap.setIfInBounds m.M _)[m.M]? =_;rw[Array.getElem?_setIfInBounds,if_pos rfl,if_pos b7]
  have e1:W.heap.size≠m.M:=by have:=zah HM.out;omega
  have a3:=d4.out.fr f2 e1;have a8:=e0.out.fr f2 d3.out.1;have a5:Fr (λi=>i=m.wb\/i=m.M) W W2:=(d6.out.mono λi _ h=>.inl h).trans' f2 λi _ h=>.inr h;have d5:=(HV.out.fr a5 λb hb hh=>by
   have h1:=(T.In.blocks _ HV.out.inn b hb);obtain⟨cs,c6⟩:=T.Sp.typed _ HV.out.sp b hb;rcases hh with hh|hh
   .exact Blk.ne_ c6 a7.out.blk d_ hh
   .exact zap HM.out c6 hh).more (Nat.le_refl _) a5.size
  have a9:=zv8 (x:=⟨kind,home,.mk k n s A cap l r,n1,lost,ofr,byr,set,full⟩) a7.out a5 (Nat.le_refl _) hlo a3 d5 hlen (by simpa[Wm.cells]using a8) HM.out c7 rfl;have b1:=zcq a9 ((m.th.length:Int)+1);have a2:({m with th:=m.th++[(W.heap.size,⟨kind,home,.mk k n s A cap l r,n1,lost,ofr,byr,set,full⟩)]}:Wm).get ((m.th.length:Int)+1)=some (W.heap.size,⟨kind,home,.mk k n s A cap l r,n1,lost,ofr,byr,set,full⟩):=by
   unfold Wm.get Wm.at_;simp only[List.length_append,List.length_cons,List.length_nil];rw[if_pos o_];simp
  rw[a2]at b1;have d0:W2.cell? ⟨W.heap.size,0,none⟩=some (.int .u8 kind):=a3.cell 0;have d1:W2.cell? ⟨W.heap.size,1,none⟩=some (.int .i64 (home:Int)):=a3.cell 1;have dq:=a3.lt;have c8:=zwi b1 (zgn a9) d0 hk;have x4:W2.cell? ⟨m.wb,4,none⟩=some (.int .i64 ((m.th.length:Int)+1)):=by
   have:=a8.cell 4;simpa[Wm.cells]using this
  have x5:W2.cell? ⟨m.wb,5,none⟩=some (.slice m.D m.made.length m.dc):=by
   have:=a8.cell 5;simpa[Wm.cells]using this
  have xq:=a8.lt;have d9:=zaa c8;have a0:=zaa a9;have e8:=zaa a5;have f8:(kind !=14)=true:=by simpa using hk
  clear hu c2 c5 q5 b2 f2 e2 c7 e1 a3 a8 a5 d5 a9 b1 a2 c8 d4 e0 d7 d6 HV;go_wp2_with fail;refine d9.out.mono ?_;rintro e w' ⟨⟨v,rfl⟩,rfl⟩;have hz:0<m.made.length:=o_;obtain⟨gD,c,a1,g0,f9⟩:=a0.out.made.form hz;simp only[Value.slice.injEq,true_and]at a1;have c1:w'.cell? ⟨gD,home,none⟩=some (.int .i64 (m.made[home]:Int)):=by
   have:=World.ownsRow.cells a0.out.made (g:=gD) (by show(Value.slice m.D _ _).ownBlock=_;rw[a1.1];rfl) home (.int .i64 (m.made[home]:Int)) (by simp[hs]);rwa [zbi,Nat.zero_add]at this
  have f6:w'.frozen? ⟨gD,home,none⟩=false:=by
   obtain⟨cs,hb⟩:=zao a0.out.made (g:=gD) (by show(Value.slice m.D _ _).ownBlock=_;rw[a1.1];rfl);exact hb.frozen _
  have b0:(Value.slice m.D m.made.length m.dc).ownBlock=some gD:=by rw[a1.1];rfl
  rw[a1.1]at x5;have f5:IntKind.i64.wrap ((m.made[home]:Int)+1)=(m.made[home]:Int)+1:=IntWalk.i64_in _ o_;have e9:m.wb≠gD:=(d3.out.2.2.1 gD b0).1.symm;have c9:=zv9 a0.out hs h512 b0;have f3:=zaa c9;have e4:=zaa b0;generalize f4:m.made[home]=mv at*;clear hz a1 b0 c9 d9;go_upto_region 5 with(fail);go_region
  all_goals
   go_simp;go_upto_region 6 with(fail);have fD:Fr (λi=>i=gD) w' (w'.setCell ⟨gD,home,none⟩ (.int .i64 ((mv:Int)+1))).drew:=((Fr.refl (λi=>i=gD) w').set (λ_=>rfl) _).drew;have x6:(w'.setCell ⟨gD,home,none⟩ (.int .i64 ((mv:Int)+1))).drew.cell? ⟨m.wb,4,none⟩=some (.int .i64 ((m.th.length:Int)+1)):=(fD.cell xq e9).trans x4;have x7:m.wb<(w'.setCell ⟨gD,home,none⟩ (.int .i64 ((mv:Int)+1))).drew.heap.size:=Nat.lt_of_lt_of_le xq fD.size;have a6:(m.add W.heap.size ⟨kind,home,.mk k n s A cap l r,n1,lost,ofr,byr,set,full⟩ home).Ok lo (w'.setCell ⟨gD,home,none⟩ (.int .i64 ((mv:Int)+1))).drew:=by
    have hq:m.made.getD home 0=mv:=by rw[List.getD_eq_getElem?_getD,List.getElem?_eq_getElem hs,f4];rfl
    unfold Wm.add;rw[hq];exact f3.out.no ((Fr.refl No _).drew)
   have d2:Fr m.B W (w'.setCell ⟨gD,home,none⟩ (.int .i64 ((mv:Int)+1))).drew:=by
    refine(e8.out.mono λi _ h=>?_).trans' fD λi _ h=>?_
    .rcases h with rfl|rfl
     .exact .inl rfl
     .exact .inr (.inl rfl)
    .have h':i=gD:=h;subst h';exact .inr (.inr (.inr (.inl e4.out)))
   have b6:=zaa a6;have e5:=zaa d2;clear a6 d2 fD x4 x5 xq;generalize World.drew (World.setCell w' _ _)=W3 at*;go_wp2_with fail;go_ret;exact⟨rfl,b6.out,e5.out⟩
def zzq (v:V) (w:World) (e:Ending) (w':World):Prop:=∃t':T,e= .returned t'.val/\t'.v=v/\t'.Sh w' w.heap.size w'.heap.size/\Fr No w w'
theorem zy6 (t:T) (w:World) (lo hi:Nat) (ht:t.In w lo hi) (hh:hi<=w.heap.size) (hm:t.v.may=true):Calls Tryz.prog 199 #[t.val] w (zzq t.v w):=by
 have hO:=λw' h h'=>zl2 t w' lo hi h h';rw[if_pos hm,if_pos hm]at hO;clear hm;cases t with
 |mk k n s A cap l r=>
  rw[T.val_mk]at*;go_enter Tryz.func199,Tryz.ntmps199;go_wp2_with fail;refine(hO _ (ht.no (((Fr.refl No w).alloc _).alloc _) hh) so_).mono ?_;rintro e w2 ⟨t',rfl,hv,ow,a1⟩;have b1:=(Blk.new' (w.alloc (.cells #[.int .u8 k,.int .i64 n,.string s,.slice A l.length cap,.int .i64 r] 28)) 28 #[.int .u8 0,.int .i64 0,.string ⟨#[]⟩,.slice none 0 0,.int .i64 0] (g:=w.heap.size+1) s_).fr a1 (λh=>h);obtain⟨d0,d1,d2,d3,d4,df⟩:=b1.cells5;have hlt:=b1.lt;have hF:=zaa (((((Fr.refl No w).alloc _).alloc _)).trans a1);have a2:=a1.size;simp at a2;have HV:=zaa hv;have HO:=zaa ow;clear hv ow b1 hO;cases t' with
  |mk k2 n2 s2 A2 cap2 l2 r2=>
   rw[T.val_mk];go_wp2;refine bodyPost_ret (v:=.agg #[.int .u8 k2,.int .i64 n2,.string s2,.slice A2 l2.length cap2,.int .i64 r2]) (by simp[results,Tryz.results199,go_sem, *]) rfl ?_;have a3:=hF.out;have a0:=HO.out;simp only[World.size_alloc]at a0;refine⟨T.mk k2 n2 s2 A2 cap2 l2 r2,rfl,HV.out,?_,?_⟩
   .refine((a0.fr (S:=(· =w.heap.size+1)) ?_ (λb hb h=>?_)).more o_ ?_)
    .repeat(first|with_reducible exact Fr.refl _ w2|with_reducible refine Fr.alloc ?_ _|with_reducible refine Fr.set ?_ s_ _)
    .have:=(T.In.blocks _ a0.inn b hb).1;have h':b=w.heap.size+1:=h;omega
    .simp
   .repeat(first|with_reducible exact a3|with_reducible refine Fr.alloc ?_ _|with_reducible refine Fr.setNew ?_ s_ _)
theorem zs7 (W:World):Calls Tryz.prog 200 #[.slice none 0 0] W λe w'=>e= .returned (.slice none 0 0)/\w'=W:=by
 have hq:∀w:World,(binOp .eql 26 (.slice none 0 0) (.slice none 0 0)).run Tryz.prog w= .ok (.bool true) w:=λw=>by kernel_rfl
 go_enter Tryz.func200,Tryz.ntmps200;go_wp2;go_ret;exact⟨rfl,rfl⟩
theorem zs8 (W:World):Calls Tryz.prog 201 #[.slice none 0 0] W λe w'=>e= .returned (.slice none 0 0)/\w'=W:=by
 have hq:∀w:World,(binOp .eql 136 (.slice none 0 0) (.slice none 0 0)).run Tryz.prog w= .ok (.bool true) w:=λw=>by kernel_rfl
 go_enter Tryz.func201,Tryz.ntmps201;go_wp2;go_ret;exact⟨rfl,rfl⟩
theorem zs9 (W:World):Calls Tryz.prog 251 #[.slice none 0 0] W λe w'=>e= .returned (.slice none 0 0)/\w'=W:=by
 have hq:∀w:World,(binOp .eql 135 (.slice none 0 0) (.slice none 0 0)).run Tryz.prog w= .ok (.bool true) w:=λw=>by kernel_rfl
 go_enter Tryz.func251,Tryz.ntmps251;go_wp2;go_ret;exact⟨rfl,rfl⟩
theorem zqq (W:World):Calls Tryz.prog 202 #[.slice none 0 0] W λe w'=>e= .returned (.slice none 0 0)/\w'=W:=by
 have hC:=zs9 W;go_enter Tryz.func202,Tryz.ntmps202;go_wp2_with fail;refine hC.mono ?_;rintro e w' ⟨rfl,rfl⟩;clear hC;go_wp2_with fail;refine wp_loop_rounds 1 ?_;rw[rounds_succ];go_wp2_with fail;go_ret;exact⟨rfl,rfl⟩
theorem zwh (w:World) (g:Nat) (kind home k n:Int) (s:ByteArray) (A:Option Addr) (len cap:Nat) (r n1 lost ofr byr set:Int) (full:Bool) (k2 n2:Int) (s2:ByteArray) (A2:Option Addr) (len2 cap2:Nat) (r2:Int) (h:Blk w g 138 (zat kind home k n s A len cap r n1 lost ofr byr set full)):
 Blk (((((w.setCell ⟨g,2,none⟩ (.int .u8 k2)).setCell ⟨g,3,none⟩ (.int .i64 n2)).setCell ⟨g,4,none⟩ (.string s2)).setCell ⟨g,5,none⟩ (.slice A2 len2 cap2)).setCell ⟨g,6,none⟩ (.int .i64 r2)) g 138 (zat kind home k2 n2 s2 A2 len2 cap2 r2 n1 lost ofr byr set full)/\
 Fr (λi=>i=g) w (((((w.setCell ⟨g,2,none⟩ (.int .u8 k2)).setCell ⟨g,3,none⟩ (.int .i64 n2)).setCell ⟨g,4,none⟩ (.string s2)).setCell ⟨g,5,none⟩ (.slice A2 len2 cap2)).setCell ⟨g,6,none⟩ (.int .i64 r2)):=
 ⟨(by simpa only[zat,List.setIfInBounds_toArray,List.set_cons_zero,List.set_cons_succ]using((((h.set_ 2 (.int .u8 k2)).set_ 3 (.int .i64 n2)).set_ 4 (.string s2)).set_ 5 (.slice A2 len2 cap2)).set_ 6 (.int .i64 r2)),
  (((((Fr.refl (λi=>i=g) w).set (λ_=>rfl) _).set (λ_=>rfl) _).set (λ_=>rfl) _).set (λ_=>rfl) _).set (λ_=>rfl) _⟩
theorem zi2 (w:World) (g:Nat) (kind home k n:Int) (s:ByteArray) (A:Option Addr) (len cap:Nat) (r n1 lost ofr byr set:Int) (full:Bool) (i:Nat) (hi:i=7\/i=14\/i=15) (h:Blk w g 138 (zat kind home k n s A len cap r n1 lost ofr byr set full)):
 Blk (w.setCell ⟨g,i,none⟩ (.slice none 0 0)) g 138 (zat kind home k n s A len cap r n1 lost ofr byr set full)/\Fr (λj=>j=g) w (w.setCell ⟨g,i,none⟩ (.slice none 0 0)):=by
 refine⟨?_,(Fr.refl (λi=>i=g) w).set (λ_=>rfl) _⟩;have h':=h.set_ i (.slice none 0 0);rcases hi with rfl|rfl|rfl<;>simpa only[zat,List.setIfInBounds_toArray,List.set_cons_zero,List.set_cons_succ]using h'
def zzr (kind home:Int) (v:V) (n1 lost ofr byr set:Int) (full:Bool) (w:World) (e:Ending) (w':World):Prop:=
 ∃t':T,e= .returned (Th.val ⟨kind,home,t',n1,lost,ofr,byr,set,full⟩)/\t'.v=v/\t'.Sh w' w.heap.size w'.heap.size/\Fr No w w'
theorem zfd (kind home k n:Int) (s:ByteArray) (A:Option Addr) (cap:Nat) (l:List T) (r n1 lost ofr byr set:Int) (full:Bool) (W:World) (hi:Nat) (ht:(T.mk k n s A cap l r).In W 0 hi) (hhi:hi<=W.heap.size) (hm:(T.mk k n s A cap l r).v.may=true):
 Calls Tryz.prog 150 #[.agg (zat kind home k n s A l.length cap r n1 lost ofr byr set full)] W (zzr kind home (T.mk k n s A cap l r).v n1 lost ofr byr set full W):=by
 have hO:=λW' (f:Fr No W W')=>zy6 (T.mk k n s A cap l r) W' 0 hi (ht.no f hhi) (Nat.le_trans hhi f.size) hm;rw[T.val_mk]at hO;generalize (T.mk k n s A cap l r).v=u at*;have HO:=zaa hO;have b3:=(Blk.new W 138 (zat kind home k n s A l.length cap r n1 lost ofr byr set full)).alloc (.cells (zat 0 0 0 0 ⟨#[]⟩ none 0 0 0 0 0 0 0 0 false) 138);have c1:=Blk.new' (W.alloc (.cells (zat kind home k n s A l.length cap r n1 lost ofr byr set full) 138)) 138 (zat 0 0 0 0 ⟨#[]⟩ none 0 0 0 0 0 0 0 0 false) (g:=W.heap.size+1) s_;have b8:=((Fr.refl No W).alloc (.cells (zat kind home k n s A l.length cap r n1 lost ofr byr set full) 138)).alloc (.cells (zat 0 0 0 0 ⟨#[]⟩ none 0 0 0 0 0 0 0 0 false) 138);have b7:=zaa b3;have b6:=zaa c1;have b1:=zaa b8;have b2:=b3;unfold zat at b2 b1 b7 b6 ⊢;obtain⟨d0,d1,d2,d3,d4,d5,d6,d7,d8,d9,a5,a6,a8,a7,a4,a3⟩:=b2.cells16;have dq:=b2.lt;clear ht hhi hO b3 c1 b8 b2 hm;go_enter Tryz.func150,Tryz.ntmps150;go_wp2_with fail;generalize c3:World.alloc (World.alloc W _) _=W0 at*;refine(HO.out W0 b1.out).mono ?_;rintro e w1 ⟨⟨k2,n2,s2,A2,a0,l2,r2⟩,rfl,hv,sh,f1⟩;rw[T.val_mk];have hb:=b7.out.fr f1 λh=>h;have hz:=hb.frozen;have HV:=zaa hv;have b9:=zaa sh;have b4:=zaa f1;have a9:=zaa hb;clear d0 d1 d2 d3 d4 d5 d6 d7 d8 d9 a5 a6 a8 a7 a4 a3 dq hv sh f1;obtain⟨d0,d1,d2,d3,d4,d5,d6,d7,d8,d9,a5,a6,a8,a7,a4,a3⟩:=hb.cells16;have dq:=hb.lt;clear hb;go_upto_region 2 with(fail);have b5:=zwh w1 W.heap.size kind home k n s A l.length cap r n1 lost ofr byr set full k2 n2 s2 A2 l2.length a0 r2 a9.out;generalize World.setCell (World.setCell (World.setCell (World.setCell (World.setCell w1 _ _) _ _) _ _) _ _) _ _=w2 at*;have b0:=hz;clear hz;have a1:Hid (Fr (λi=>i=W.heap.size) w1 w1):=Fr.refl _ _;have hb:=b5.1;have hz:=hb.frozen;have a9:=zaa hb;have a1:=zaa (a1.out.trans b5.2);clear b5 b0 d0 d1 d2 d3 d4 d5 d6 d7 d8 d9 a5 a6 a8 a7 a4 a3 dq;have b0:=hz;clear hz;unfold zat at hb;obtain⟨d0,d1,d2,d3,d4,d5,d6,d7,d8,d9,a5,a6,a8,a7,a4,a3⟩:=hb.cells16;have dq:=hb.lt;clear hb;go_wp2_with fail;refine(zs7 w2).mono ?_;rintro e w' ⟨rfl,rfl⟩;go_upto_region 3 with(fail);have a2:=zi2 w' W.heap.size kind home k2 n2 s2 A2 l2.length a0 r2 n1 lost ofr byr set full 7 s_ a9.out;generalize World.setCell w' _ _=w3 at*;have hb:=a2.1;have hz:=hb.frozen;have a9:=zaa hb;have a1:=zaa (a1.out.trans a2.2);clear a2 b0 d0 d1 d2 d3 d4 d5 d6 d7 d8 d9 a5 a6 a8 a7 a4 a3 dq;have b0:=hz;clear hz;unfold zat at hb;obtain⟨d0,d1,d2,d3,d4,d5,d6,d7,d8,d9,a5,a6,a8,a7,a4,a3⟩:=hb.cells16;have dq:=hb.lt;clear hb;go_wp2_with fail;refine wp_loop_rounds 1 ?_;rw[rounds_succ];go_wp2_with fail;refine(zs8 w3).mono ?_;rintro e w' ⟨rfl,rfl⟩;go_upto_region 9 with(fail);have a2:=zi2 w' W.heap.size kind home k2 n2 s2 A2 l2.length a0 r2 n1 lost ofr byr set full 15 s_ a9.out;generalize World.setCell w' _ _=w4 at*;have hb:=a2.1;have hz:=hb.frozen;have a9:=zaa hb;have a1:=zaa (a1.out.trans a2.2);clear a2 b0 d0 d1 d2 d3 d4 d5 d6 d7 d8 d9 a5 a6 a8 a7 a4 a3 dq;have b0:=hz;clear hz;unfold zat at hb;obtain⟨d0,d1,d2,d3,d4,d5,d6,d7,d8,d9,a5,a6,a8,a7,a4,a3⟩:=hb.cells16;have dq:=hb.lt;clear hb;go_wp2_with fail;refine wp_loop_rounds 1 ?_;rw[rounds_succ];go_wp2_with fail;refine(zqq w4).mono ?_;rintro e w' ⟨rfl,rfl⟩;go_upto_region 15 with(fail);have a2:=zi2 w' W.heap.size kind home k2 n2 s2 A2 l2.length a0 r2 n1 lost ofr byr set full 14 s_ a9.out;generalize World.setCell w' _ _=w5 at*;have hb:=a2.1;have hz:=hb.frozen;have a9:=zaa hb;have a1:=zaa (a1.out.trans a2.2);clear a2 b0 d0 d1 d2 d3 d4 d5 d6 d7 d8 d9 a5 a6 a8 a7 a4 a3 dq;have b0:=hz;clear hz;unfold zat at hb;obtain⟨d0,d1,d2,d3,d4,d5,d6,d7,d8,d9,a5,a6,a8,a7,a4,a3⟩:=hb.cells16;have dq:=hb.lt;clear hb;have hr:=(b6.out.fr b4.out λh=>h).fr a1.out o_;obtain⟨e0,e1,e2,e3,e4,e5,e6,e7,e8,e9,f3,c9,c4,c7,f0,c8⟩:=hr.cells16;have ez:=hr.frozen;have f4:=hr.lt;clear hr;go_wp2_with fail;refine bodyPost_ret (v:=.agg (zat kind home k2 n2 s2 A2 l2.length a0 r2 n1 lost ofr byr set full)) (by simp[results,Tryz.results150,zat,go_sem, *]) rfl ?_;have f5:=b1.out.size;have f2:W.heap.size+2<=W0.heap.size:=by rw[<-c3];simp
 have c6:=b4.out.size;have c5:=a1.out.size;generalize c2:World.setCell _ _ _=We;have fe:Fr (λi=>i=W.heap.size+1) w5 We:=by
  rw[<-c2];repeat(first|with_reducible exact Fr.refl _ w5|with_reducible refine Fr.set ?_ s_ _)
 have c0:∀b∈(T.mk k2 n2 s2 A2 a0 l2 r2).blocks,W0.heap.size<=b:=λb hb=>(T.In.blocks _ b9.out.inn b hb).1;refine⟨T.mk k2 n2 s2 A2 a0 l2 r2,rfl,HV.out,(((b9.out.fr a1.out λb hb h=>by have:=c0 b hb;omega).fr fe λb hb h=>by have:=c0 b hb;omega).more o_ ?_),?_⟩
 .have:=fe.size;omega
 .exact((b1.out.trans b4.out).trans' a1.out λi hi h=>by omega).trans' fe λi hi h=>by omega
end Go.Proofs.YtlejelbefmkakaaGreat

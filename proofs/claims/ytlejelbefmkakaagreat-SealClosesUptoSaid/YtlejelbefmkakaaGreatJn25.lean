/- Texts joined: Gz, Gz2, Gown, Gv, Gu, Gv2, Gv2b. -/
import Derived.Test.YtlejelbefmkakaaGreatJn1
import Derived.Test.YtlejelbefmkakaaGreatJn2
import Derived.Test.YtlejelbefmkakaaGreatJn4
import Derived.Test.YtlejelbefmkakaaGreatJn11
import Derived.Test.YtlejelbefmkakaaGreatJn21
import Derived.Test.YtlejelbefmkakaaGreatJn22
import Derived.Deep.Cut
import Derived.Deep.CutRange
set_option maxHeartbeats 1000000
namespace Go.Proofs.YtlejelbefmkakaaGreat
open Go.RowKit
structure OwnTI (w:World) (base mid:Nat) (A:Option Addr) (cap:Nat) (l:List T) (j:Nat) (l':List T) (wr:World):Prop where
 len:l'.length=j
 vs:l'.map T.v=(l.take j).map T.v
 fr:Fr No w wr
 row:wr.ownsRow base 28 5 (.slice A l.length cap) l.length (zai (l'++l.drop j))
 gm:∀g,(Value.slice A l.length cap).ownBlock=some g->g<mid
 sp:∀x∈l',x.Sp wr mid wr.heap.size
 big:w.heap.size<=base/\base<=mid/\mid<=wr.heap.size
section
variable {w wr w2:World} {base mid:Nat} {A:Option Addr} {cap:Nat} {l l':List T} {j:Nat}
theorem OwnTI.no (h:OwnTI w base mid A cap l j l' wr) (f:Fr No wr w2):OwnTI w base mid A cap l j l' w2:=
 ⟨h.len,h.vs,h.fr.trans f,zaf h.row f λ_ _ h=>h,h.gm,λx hx=>T.Sp.more (Nat.le_refl _) f.size _ (T.Sp.fr f _ (λ_ _ h=>h) (h.sp x hx)),h.big.1,h.big.2.1,Nat.le_trans h.big.2.2 f.size⟩
theorem OwnTI.start (ho:wr.ownsRow base 28 5 (.slice A l.length cap) l.length (zai l)) (f:Fr No w wr) (hb:w.heap.size<=base) (hb2:base<=wr.heap.size):OwnTI w base wr.heap.size A cap l 0 [] wr:=
 ⟨rfl,by simp,f,by simpa using ho,λg hg=>(zaj ho g hg).2,by simp,hb,hb2,Nat.le_refl _⟩
theorem OwnTI.at_ (h:OwnTI w base mid A cap l j l' wr) (hj:j<l.length):∃g,A=some ⟨g,0,none⟩/\base<=g/\g<mid/\(∀i u,l[j].cells[i]? =some u->wr.cell? ⟨g,j*5+i,none⟩=some u)/\∀i,wr.frozen? ⟨g,i,none⟩=false:=by
 obtain⟨g,c,hA,a0,a1⟩:=h.row.form o_;simp only[Value.slice.injEq,true_and]at hA;obtain⟨rfl,rfl⟩:=hA;refine⟨g,rfl,a0,h.gm g rfl,λi u hu=>?_,λi=>World.ownsRow.frozenAt h.row i⟩;have hx:(l'++l.drop j)[j]? =some l[j]:=by
  rw[List.getElem?_append_right (by rw[h.len];exact Nat.le_refl _),h.len,Nat.sub_self,List.getElem?_drop];simp[hj]
 have:=World.ownsRow.cells h.row (g:=g) rfl _ _ (zbs _ _ _ _ _ hx hu);rwa [zbi,Nat.zero_add]at this
theorem zg4 (a b:List T):zai (a++b)=zai a++zai b:=by simp[zai]
theorem zhr {l1 l2:List T} {x y:T}:(zai (l1++x::l2)).take (l1.length*5)++y.cells++(zai (l1++x::l2)).drop (l1.length*5+y.cells.length)=zai (l1++[y]++l2):=by
 have h1:(zai l1).length=l1.length*5:=za7 l1;have hx:x.cells.length=5:=T.cells_length x;have hy:y.cells.length=5:=T.cells_length y;have e:zai (l1++x::l2)=zai l1++(x.cells++zai l2):=by rw[zg4];simp[zai]
 have e2:zai (l1++[y]++l2)=zai l1++(y.cells++zai l2):=by simp[zai]
 rw[e,e2,List.take_append_of_le_length o_,List.take_of_length_le o_,List.drop_append,List.drop_eq_nil_of_le o_,List.nil_append,h1,Nat.add_sub_cancel_left,hy];rw[List.drop_append_of_le_length o_,List.drop_eq_nil_of_le o_,List.nil_append,List.append_assoc]
theorem OwnTI.step {g:Nat} (h:OwnTI w base mid (some ⟨g,0,none⟩) cap l j l' wr) (hj:j<l.length) (f:Fr No wr w2) {y:T} (hv:y.v=l[j].v) (hy:y.Sp w2 wr.heap.size w2.heap.size):
 OwnTI w base mid (some ⟨g,0,none⟩) cap l (j+1) (l'++[y]) (setRow w2 g (j*5) y.cells):=by
 have a1:l.drop j=l[j]::l.drop (j+1):=List.drop_eq_getElem_cons hj;have h2:=h.no f;have a5:=h.gm g rfl;have a6:=(zaj h.row g rfl).1;have hb:=h.big;have fs:Fr (λi=>i=g) w2 (setRow w2 g (j*5) y.cells):=zbp (S:=λi=>i=g) (λ_=>rfl) _ _ _ (Fr.refl (λi=>i=g) w2);have a4:(zai (l'++l.drop j)).length=l.length*5:=h2.row.1;have a2:y.cells.length=5:=T.cells_length y;have a3:j*5+y.cells.length<=(zai (l'++l.drop j)).length:=by
  rw[a4,a2];omega
 have a0:=zdy y.cells (j*5) w2 _ h2.row a3;rw[a1]at a0;have e1:=zhr (l1:=l') (l2:=l.drop (j+1)) (x:=l[j]) (y:=y);rw[h.len]at e1;rw[e1]at a0;have a7:=f.size;refine⟨by simp[h.len],?_,h2.fr.trans' fs (λi hi h=>?_),a0,h.gm,λx hx=>?_,h.big.1,h.big.2.1,?_⟩
 .rw[List.map_append,h.vs,List.take_succ_eq_append_getElem hj,List.map_append];simp[hv]
 .have h':i=g:=h;omega
 .rcases List.mem_append.1 hx with hx|hx
  .exact T.Sp.more (Nat.le_refl _) fs.size _ (T.Sp.fr fs _ (λb hb' hi=>by have h':b=g:=hi;have:=(T.In.blocks _ (T.Sp.inn _ (h2.sp x hx)) b hb').1;omega) (h2.sp x hx))
  .simp at hx;subst hx;exact T.Sp.more o_ fs.size _ (T.Sp.fr fs _ (λb hb' hi=>by have h':b=g:=hi;have:=(T.In.blocks _ (T.Sp.inn _ hy) b hb').1;omega) hy)
 .have:=fs.size;omega
end
def zbq (l:List Nm):List Value:=l.flatMap zbj
theorem zf2 (l:List Nm):(zbq l).length=l.length*6:=by
 induction l with
 |nil=>simp[zbq]
 |cons x l ih=>
  simp only[zbq,List.flatMap_cons,List.length_append]at ih ⊢;rw[ih,zbw];simp only[List.length_cons];omega
theorem zey:∀(l:List Nm) (i c:Nat) (x:Nm) (u:Value),l[i]? =some x->(zbj x)[c]? =some u->(zbq l)[i*6+c]? =some u
 |[],i,c,x,u,h,_=>by simp at h
 |y::l,0,c,x,u,h,hu=>by
  simp at h;subst h;simp only[zbq,List.flatMap_cons,Nat.zero_mul,Nat.zero_add];rw[List.getElem?_append_left (List.getElem?_eq_some_iff.1 hu).1];exact hu
 |y::l,i+1,c,x,u,h,hu=>by
  simp only[List.getElem?_cons_succ]at h;have:=zey l i c x u h hu;simp only[zbq,List.flatMap_cons]at this ⊢;rw[List.getElem?_append_right (by rw[zbw];omega),zbw,show(i+1)*6+c - 6=i*6+c by omega];exact this
theorem zjo (a b:List Nm):zbq (a++b)=zbq a++zbq b:=by simp[zbq]
structure OwnNI (w:World) (base mid:Nat) (A:Option Addr) (cap:Nat) (l:List Nm) (j:Nat) (l':List Nm) (wr:World):Prop where
 len:l'.length=j
 vs:l'.map (λx=>(x.1,x.2.v))=(l.take j).map λx=>(x.1,x.2.v)
 fr:Fr No w wr
 row:wr.ownsRow base 260 6 (.slice A l.length cap) l.length (zbq (l'++l.drop j))
 gm:∀g,(Value.slice A l.length cap).ownBlock=some g->g<mid
 sp:∀x∈l',x.2.Sp wr mid wr.heap.size
 big:w.heap.size<=base/\base<=mid/\mid<=wr.heap.size
section
variable {w wr w2:World} {base mid:Nat} {A:Option Addr} {cap:Nat} {l l':List Nm} {j:Nat}
theorem OwnNI.no (h:OwnNI w base mid A cap l j l' wr) (f:Fr No wr w2):OwnNI w base mid A cap l j l' w2:=
 ⟨h.len,h.vs,h.fr.trans f,zaf h.row f λ_ _ h=>h,h.gm,λx hx=>T.Sp.more (Nat.le_refl _) f.size _ (T.Sp.fr f _ (λ_ _ h=>h) (h.sp x hx)),h.big.1,h.big.2.1,Nat.le_trans h.big.2.2 f.size⟩
theorem OwnNI.start (ho:wr.ownsRow base 260 6 (.slice A l.length cap) l.length (zbq l)) (f:Fr No w wr) (hb:w.heap.size<=base) (hb2:base<=wr.heap.size):OwnNI w base wr.heap.size A cap l 0 [] wr:=
 ⟨rfl,by simp,f,by simpa using ho,λg hg=>(zaj ho g hg).2,by simp,hb,hb2,Nat.le_refl _⟩
theorem OwnNI.at_ (h:OwnNI w base mid A cap l j l' wr) (hj:j<l.length):∃g,A=some ⟨g,0,none⟩/\base<=g/\g<mid/\(∀i u,(zbj l[j])[i]? =some u->wr.cell? ⟨g,j*6+i,none⟩=some u)/\∀i,wr.frozen? ⟨g,i,none⟩=false:=by
 obtain⟨g,c,hA,a0,a1⟩:=h.row.form o_;simp only[Value.slice.injEq,true_and]at hA;obtain⟨rfl,rfl⟩:=hA;refine⟨g,rfl,a0,h.gm g rfl,λi u hu=>?_,λi=>World.ownsRow.frozenAt h.row i⟩;have hx:(l'++l.drop j)[j]? =some l[j]:=by
  rw[List.getElem?_append_right (by rw[h.len];exact Nat.le_refl _),h.len,Nat.sub_self,List.getElem?_drop];simp[hj]
 have:=World.ownsRow.cells h.row (g:=g) rfl _ _ (zey _ _ _ _ _ hx hu);rwa [zbi,Nat.zero_add]at this
theorem zks {l1 l2:List Nm} {x:Nm} {y:T}:(zbq (l1++x::l2)).take (l1.length*6+1)++y.cells++(zbq (l1++x::l2)).drop (l1.length*6+1+y.cells.length)=zbq (l1++[(x.1,y)]++l2):=by
 have h1:(zbq l1).length=l1.length*6:=zf2 l1;have hx:x.2.cells.length=5:=T.cells_length x.2;have hy:y.cells.length=5:=T.cells_length y;have e:zbq (l1++x::l2)=(zbq l1++[.string x.1])++(x.2.cells++zbq l2):=by rw[zjo];simp[zbq,zbj]
 have e2:zbq (l1++[(x.1,y)]++l2)=(zbq l1++[.string x.1])++(y.cells++zbq l2):=by simp[zbq,zbj]
 have h3:(zbq l1++[Value.string x.1]).length=l1.length*6+1:=by simp[h1]
 rw[e,e2,List.take_append_of_le_length o_,List.take_of_length_le o_,List.drop_append,List.drop_eq_nil_of_le o_,List.nil_append,h3,Nat.add_sub_cancel_left,hy];rw[List.drop_append_of_le_length o_,List.drop_eq_nil_of_le o_,List.nil_append,List.append_assoc]
theorem OwnNI.step {g:Nat} (h:OwnNI w base mid (some ⟨g,0,none⟩) cap l j l' wr) (hj:j<l.length) (f:Fr No wr w2) {y:T} (hv:y.v=l[j].2.v) (hy:y.Sp w2 wr.heap.size w2.heap.size):
 OwnNI w base mid (some ⟨g,0,none⟩) cap l (j+1) (l'++[(l[j].1,y)]) (setRow w2 g (j*6+1) y.cells):=by
 have a1:l.drop j=l[j]::l.drop (j+1):=List.drop_eq_getElem_cons hj;have h2:=h.no f;have a5:=h.gm g rfl;have a6:=(zaj h.row g rfl).1;have hb:=h.big;have fs:Fr (λi=>i=g) w2 (setRow w2 g (j*6+1) y.cells):=zbp (S:=λi=>i=g) (λ_=>rfl) _ _ _ (Fr.refl (λi=>i=g) w2);have a4:(zbq (l'++l.drop j)).length=l.length*6:=h2.row.1;have a2:y.cells.length=5:=T.cells_length y;have a3:j*6+1+y.cells.length<=(zbq (l'++l.drop j)).length:=by
  rw[a4,a2];omega
 have a0:=zdy y.cells (j*6+1) w2 _ h2.row a3;rw[a1]at a0;have e1:=zks (l1:=l') (l2:=l.drop (j+1)) (x:=l[j]) (y:=y);rw[h.len]at e1;rw[e1]at a0;have a7:=f.size;refine⟨by simp[h.len],?_,h2.fr.trans' fs (λi hi h=>?_),a0,h.gm,λx hx=>?_,h.big.1,h.big.2.1,?_⟩
 .rw[List.map_append,h.vs,List.take_succ_eq_append_getElem hj,List.map_append];simp[hv]
 .have h':i=g:=h;omega
 .rcases List.mem_append.1 hx with hx|hx
  .exact T.Sp.more (Nat.le_refl _) fs.size _ (T.Sp.fr fs _ (λb hb' hi=>by have h':b=g:=hi;have:=(T.In.blocks _ (T.Sp.inn _ (h2.sp x hx)) b hb').1;omega) (h2.sp x hx))
  .simp at hx;subst hx;exact T.Sp.more o_ fs.size _ (T.Sp.fr fs _ (λb hb' hi=>by have h':b=g:=hi;have:=(T.In.blocks _ (T.Sp.inn _ hy) b hb').1;omega) hy)
 .have:=fs.size;omega
end
def zx5 (v:V) (w:World) (e:Ending) (w':World):Prop:=∃t':T,e= .returned t'.val/\t'.v=v/\t'.Sh w' w.heap.size w'.heap.size/\Fr No w w'
theorem zof (t:T) (w:World) (lo hi:Nat) (ht:t.In w lo hi) (hh:hi<=w.heap.size) (hm:t.v.may=true):Calls Tryz.prog 199 #[t.val] w (zx5 t.v w):=by
 have hO:=λw' h h'=>zl2 t w' lo hi h h';rw[if_pos hm,if_pos hm]at hO;clear hm;cases t with
 |mk k n s A cap l r=>
  rw[T.val_mk]at*;go_enter Tryz.func199,Tryz.ntmps199;go_wp2_with fail;refine(hO _ (ht.no (((Fr.refl No w).alloc _).alloc _) hh) so_).mono ?_;rintro e w2 ⟨t',rfl,hv,ow,a1⟩;have b1:=(Blk.new' (w.alloc (.cells #[.int .u8 k,.int .i64 n,.string s,.slice A l.length cap,.int .i64 r] 28)) 28 #[.int .u8 0,.int .i64 0,.string ⟨#[]⟩,.slice none 0 0,.int .i64 0] (g:=w.heap.size+1) s_).fr a1 (λh=>h);obtain⟨d0,d1,d2,d3,d4,df⟩:=b1.cells5;have hlt:=b1.lt;have hF:=zaa (((((Fr.refl No w).alloc _).alloc _)).trans a1);have a2:=a1.size;simp at a2;have HV:=zaa hv;have HO:=zaa ow;clear hv ow b1 hO;cases t' with
  |mk k2 n2 s2 A2 cap2 l2 r2=>
   rw[T.val_mk];go_wp2;refine bodyPost_ret (v:=.agg #[.int .u8 k2,.int .i64 n2,.string s2,.slice A2 l2.length cap2,.int .i64 r2]) (by simp[results,Tryz.results199,go_sem, *]) rfl ?_;have a3:=hF.out;have a0:=HO.out;simp only[World.size_alloc]at a0;refine⟨T.mk k2 n2 s2 A2 cap2 l2 r2,rfl,HV.out,?_,?_⟩
   .refine((a0.fr (S:=(· =w.heap.size+1)) ?_ (λb hb h=>?_)).more o_ ?_)
    .repeat(first|with_reducible exact Fr.refl _ w2|with_reducible refine Fr.alloc ?_ _|with_reducible refine Fr.set ?_ s_ _)
    .have:=(T.In.blocks _ a0.inn b hb).1;have h':b=w.heap.size+1:=h;omega
    .simp
   .repeat(first|with_reducible exact a3|with_reducible refine Fr.alloc ?_ _|with_reducible refine Fr.setNew ?_ s_ _)
def ow1 (ar:Value) (ad:Value) (g o:Nat) (ix:Value) (u:Value) (v:V):RcS T where
 cs i:=i==4
 ss i:=i==6
 dep j c:=if j=6 then decide (c<=5)else false
 E r i:=match i with
  |0=>ar
  |1=>ad
  |2=>ix
  |3=>u
  |4=>(r 4).val
  |5=>.pointer (some ⟨g,o,none⟩)
  |_=>undef
 P _ b lo w:=b.v=v/\b.Sp w lo w.heap.size
 M f r w:=if f 6=true then setRow w g o (r 4).cells else w
section
variable {ar ad ix u:Value} {g o:Nat} {v:V} {f:Nat->Bool} {r:Nat->T} {w w3:World}
theorem zdq:(ow1 ar ad g o ix u v).Ok:=by
 refine⟨λr r' j h=>?_,λc b lo w w' h f=>⟨h.1,T.Sp.more (Nat.le_refl _) f.size _ (T.Sp.fr f _ (λ_ _ h=>h) h.2)⟩,λf r w h=>?_,λf i r w h=>?_,λs c hs hc=>?_⟩
 .by_cases e4:j=4
  .subst e4;show T.val _=T.val _;rw[h 4 rfl (.inr rfl)]
  .unfold ow1;dsimp only;split<;>first|rfl|omega
 .simp[ow1,h 6 rfl]
 .simp[ow1]at h;simp[ow1,upd,Ne.symm h]
 .simp[ow1]at hs hc;subst hs;subst hc;rfl
theorem zih {i s:Nat} (hi:i<=5) (hs:(ow1 ar ad g o ix u v).ss s=true):(ow1 ar ad g o ix u v).dep s i=true:=by
 simp[ow1]at hs;subst hs;simp[ow1,hi]
theorem zu6 (h6:f 6=false) (h:w=(ow1 ar ad g o ix u v).M f r w3):setRow w g o (r 4).cells=(ow1 ar ad g o ix u v).M (upd f 6) r w3:=by
 subst h;simp[ow1,upd,h6]
end
theorem zkq {α:Type} (f:α->List Value) (k:Nat) (hk:0<k) (hf:∀x,(f x).length=k):∀(l:List α) (j:Nat) (u:Value),(l.flatMap f)[j]? =some u->∃x,l[j / k]? =some x/\(f x)[j % k]? =some u
 |[],j,u,h=>by simp at h
 |x::l,j,u,h=>by
  rw[List.flatMap_cons]at h;by_cases hj:j<k
  .rw[List.getElem?_append_left (by rw[hf];exact hj)]at h;refine⟨x,?_,?_⟩
   .rw[Nat.div_eq_of_lt hj];rfl
   .rw[Nat.mod_eq_of_lt hj];exact h
  .rw[List.getElem?_append_right (by rw[hf];omega),hf]at h;obtain⟨y,h1,h2⟩:=zkq f k hk hf l (j - k) u h;refine⟨y,?_,?_⟩
   .have:j / k=(j - k) / k+1:=by
     rw[<-Nat.add_div_right _ hk];congr 1
     omega
    rw[this];simpa using h1
   .have:j % k=(j - k) % k:=by
     rw[Nat.mod_eq_sub_mod o_]
    rw[this];exact h2
theorem T.cells_one (t:T):∀u∈t.cells,u.oneCell'=true:=by
 cases t;intro u hu;simp[T.cells]at hu;rcases hu with rfl|rfl|rfl|rfl|rfl<;>rfl
theorem zu4 {w:World} {b o:Nat} {t:T} (h:zxy w b o t) {c:Nat} {u:Value} (hu:t.cells[c]? =some u):w.cell? ⟨b,o+c,none⟩=some u:=h c u hu
theorem zrx {w:World} {lo hi:Nat} {A:Option Addr} {cap:Nat} {l:List T} (h:(T.row A cap l).In w lo hi):Lies w lo hi A l.length 5 (zai l):=by
 obtain⟨-,h1,-⟩:=T.in_mk.1 h;refine⟨za7 l,λu hu=>?_,λhn=>?_⟩
 .obtain⟨x,-,hx⟩:=List.mem_flatMap.1 hu;exact T.cells_one x u hx
 .obtain⟨b,o,hA,h2,h3,hc⟩:=h1 (λh=>hn (by rw[h];rfl));refine⟨b,o,hA,h2,h3,λj u hu=>?_⟩;obtain⟨x,hx,a0⟩:=zkq T.cells 5 o_ T.cells_length l j u hu;have:=zu4 (hc _ x hx) a0;have e:o+j / 5*5+j % 5=o+j:=o_;rwa [e]at this
theorem zg1 (x:Nm):∀u∈zbj x,u.oneCell'=true:=by
 intro u hu;rcases List.mem_cons.1 hu with rfl|hu
 .rfl
 .exact T.cells_one _ u hu
theorem zu5 {w:World} {lo hi:Nat} {A:Option Addr} {cap:Nat} {l:List Nm} (h:NmRow w lo hi A cap l):Lies w lo hi A l.length 6 (zbq l):=by
 refine⟨zf2 l,λu hu=>?_,λhn=>?_⟩
 .obtain⟨x,-,hx⟩:=List.mem_flatMap.1 hu;exact zg1 x u hx
 .obtain⟨b,o,hA,h2,h3,hc⟩:=h.at_ (λh=>hn (by rw[h];rfl));refine⟨b,o,hA,h2,h3,λj u hu=>?_⟩;obtain⟨x,hx,a0⟩:=zkq zbj 6 o_ zbw l j u hu;have:=hc _ x hx _ u a0;have e:o+j / 6*6+j % 6=o+j:=o_;rwa [e]at this
theorem OwnTI.row_in {w wr:World} {base mid:Nat} {A:Option Addr} {cap:Nat} {l l':List T} (h:OwnTI w base mid A cap l l.length l' wr) (hl:l.length*64<=140737488351232) (hc:l.length<=cap):(T.row A cap l').In wr base wr.heap.size:=by
 have a0:=h.len;have hb:=h.big;refine T.in_mk.2 ⟨?_,λhn=>?_,λx hx=>T.In.more hb.2.1 (Nat.le_refl _) _ (T.Sp.inn _ (h.sp x hx))⟩
 .rw[a0];exact⟨by decide,by decide,by decide,by decide,by decide,hl,hc,by decide,by decide⟩
 .have hr:=h.row;rw[List.drop_of_length_le (Nat.le_refl _),List.append_nil]at hr;obtain⟨g,c,hA,a1,a2⟩:=hr.form (by rw[<-a0];exact List.length_pos_iff.2 hn);simp only[Value.slice.injEq,true_and]at hA;obtain⟨rfl,-⟩:=hA;refine⟨g,0,rfl,a1,a2,λi x hx c u hu=>?_⟩;have:=World.ownsRow.cells hr (g:=g) rfl _ _ (zbs _ _ _ _ _ hx hu);rw[zbi]at this;rw[Nat.zero_add]at this ⊢;exact this
theorem OwnNI.row_in {w wr:World} {base mid:Nat} {A:Option Addr} {cap:Nat} {l l':List Nm} (h:OwnNI w base mid A cap l l.length l' wr) (hl:l.length*80<=140737488351232) (hc:l.length<=cap) (hs:∀x∈l,x.1.size<=140737488351232):NmRow wr base wr.heap.size A cap l':=by
 have a0:=h.len;have hb:=h.big;refine⟨by rw[a0];exact hl,by rw[a0];exact hc,λhn=>?_,λx hx=>⟨?_,T.In.more hb.2.1 (Nat.le_refl _) _ (T.Sp.inn _ (h.sp x hx))⟩⟩
 .have hr:=h.row;rw[List.drop_of_length_le (Nat.le_refl _),List.append_nil]at hr;obtain⟨g,c,hA,a1,a2⟩:=hr.form (by rw[<-a0];exact List.length_pos_iff.2 hn);simp only[Value.slice.injEq,true_and]at hA;obtain⟨rfl,-⟩:=hA;refine⟨g,0,rfl,a1,a2,λi x hx j u hu=>?_⟩;have:=World.ownsRow.cells hr (g:=g) rfl _ _ (zey _ _ _ _ _ hx hu);rw[zbi]at this;rw[Nat.zero_add]at this ⊢;exact this
 .have hv:=h.vs;rw[List.take_of_length_le (Nat.le_refl _)]at hv;obtain⟨i,hi,rfl⟩:=List.mem_iff_getElem.1 hx;have hi':i<l.length:=by rw[<-a0];exact hi
  have:=congrArg (λz:List (ByteArray×V)=>z[i]?) hv;simp[hi,hi']at this;rw[this.1];exact hs _ (List.getElem_mem hi')
def ow2 (ar ad ix bx:Value) (g o:Nat) (u:Value) (v:V):RcS T where
 cs i:=i==5
 ss i:=i==8
 dep j c:=if j=8 then decide (c<=7)else if j=7 then c==6 else false
 E r i:=match i with
  |0=>ar
  |1=>ad
  |2=>ix
  |3=>bx
  |4=>u
  |5=>(r 5).val
  |6=>.pointer (some ⟨g,o,none⟩)
  |7=>.pointer (some ⟨g,o+1,none⟩)
  |_=>undef
 P _ b lo w:=b.v=v/\b.Sp w lo w.heap.size
 M f r w:=if f 8=true then setRow w g (o+1) (r 5).cells else w
section
variable {ar ad ix bx u:Value} {g o:Nat} {v:V} {f:Nat->Bool} {r:Nat->T} {w w3:World}
theorem zc3:(ow2 ar ad ix bx g o u v).Ok:=by
 refine⟨λr r' j h=>?_,λc b lo w w' h f=>⟨h.1,T.Sp.more (Nat.le_refl _) f.size _ (T.Sp.fr f _ (λ_ _ h=>h) h.2)⟩,λf r w h=>?_,λf i r w h=>?_,λs c hs hc=>?_⟩
 .by_cases e4:j=5
  .subst e4;show T.val _=T.val _;rw[h 5 rfl (.inr rfl)]
  .unfold ow2;dsimp only;split<;>first|rfl|omega
 .simp[ow2,h 8 rfl]
 .simp[ow2]at h;simp[ow2,upd,Ne.symm h]
 .simp[ow2]at hs hc;subst hs;subst hc;rfl
theorem zg2 {i s:Nat} (hi:i<=7) (hs:(ow2 ar ad ix bx g o u v).ss s=true):(ow2 ar ad ix bx g o u v).dep s i=true:=by
 simp[ow2]at hs;subst hs;simp[ow2,hi]
theorem zu7 (h8:f 8=false) (h:w=(ow2 ar ad ix bx g o u v).M f r w3):setRow w g (o+1) (r 5).cells=(ow2 ar ad ix bx g o u v).M (upd f 8) r w3:=by
 subst h;simp[ow2,upd,h8]
end
def Rn1 (Wa:World) (ga o:Nat) (v:V) (wx:World):Prop:=∃(y:T) (w3:World),y.v=v/\Fr No Wa w3/\y.Sp w3 Wa.heap.size w3.heap.size/\wx=setRow w3 ga o y.cells
theorem T.Sp.td {w:World} {lo hi:Nat} (t:T):t.Sp w lo hi->∀b∈t.blocks,∃cs,Blk w b 28 cs:=by
 induction t using T.ind with
 |h k n s A cap l r ih=>
  rw[T.sp_mk,T.blocks_mk];rintro⟨-,h1,h2,h3⟩ b hb;rcases List.mem_append.1 hb with hb|hb
  .cases l with
   |nil=>simp at hb
   |cons x l=>
    obtain⟨hr,g,rfl,-⟩:=h2 s_;rcases hr.2 with⟨h0,-⟩|⟨g',a0,a2,h1,-,hg,-⟩
    .cases h0
    .simp only[Value.slice.injEq,Option.some.injEq,Addr.mk.injEq,and_true,true_and]at h1;obtain⟨rfl,-⟩:=h1;simp at hb;subst hb;exact⟨a2,hg⟩
  .obtain⟨z,hz,a1⟩:=List.mem_flatten.1 hb;obtain⟨x,hx,rfl⟩:=List.mem_map.1 hz;exact ih x hx (h3 x hx) b a1
theorem zkr {w:World} {base:Nat} {e:TypeId} {size n cap:Nat} {A:Option Addr} {xs:List Value} (h:w.ownsRow base e size (.slice A n cap) n xs) {a:Addr} (ha:A=some a):∃cs,Blk w a.block e cs:=by
 subst ha;rcases h.2 with⟨h0,-⟩|⟨g',a0,a1,h1,-,hg,-⟩
 .cases h0
 .simp only[Value.slice.injEq,Option.some.injEq,true_and]at h1;obtain⟨rfl,-⟩:=h1;exact⟨a1,hg⟩
theorem OwnTI.row_tdV {w wr:World} {base mid:Nat} {A:Option Addr} {cap:Nat} {l l':List T} {j:Nat} (h:OwnTI w base mid A cap l j l' wr):∀b∈(T.row A cap l').blocks,∃cs,Blk wr b 28 cs:=by
 intro b hb;unfold T.row at hb;rw[T.blocks_mk]at hb;rcases List.mem_append.1 hb with hb|hb
 .cases l' with
  |nil=>simp at hb
  |cons x l'=>
   cases A with
   |none=>simp at hb
   |some a=>
    simp at hb;subst hb;exact zkr h.row rfl
 .obtain⟨z,hz,a0⟩:=List.mem_flatten.1 hb;obtain⟨x,hx,rfl⟩:=List.mem_map.1 hz;exact T.Sp.td x (h.sp x hx) b a0
section
variable {w wr:World} {lo base mid:Nat} {kind home n1 lost ofr byr set:Int} {full:Bool} {t:T} {A:Option Addr} {c:Nat} {l l':List T}
theorem zu8 (hf:Tg.Fit ⟨kind,home,t,A,c,l',n1,lost,ofr,byr,set,full,none,0,[],none,0,[]⟩) (hv:t.Sp wr lo wr.heap.size) (h:OwnTI w base mid A c l l.length l' wr) (hb:lo<=base) (hl:l.length*64<=140737488351232) (hc:l.length<=c):
 Tg.St wr lo ⟨kind,home,t,A,c,l',n1,lost,ofr,byr,set,full,none,0,[],none,0,[]⟩:=by
 refine⟨⟨hf,T.Sp.inn _ hv,T.In.more hb (Nat.le_refl _) _ (h.row_in hl hc),⟨by simp,by simp,by simp,G.row_in.2 ⟨by simp,by simp⟩⟩,⟨by simp,by simp,by simp,by simp⟩⟩,?_,?_,?_,by simp⟩
 .rintro b (hb|hb)
  .exact T.Sp.td _ hv b hb
  .exact h.row_tdV b hb
 .intro b hb;rcases G.row_has hb with⟨a,h0,-⟩|⟨x,hx,-⟩
  .cases h0
  .simp at hx
 .rintro b ⟨a,h0,-⟩;cases h0
end
section
variable {w wr:World} {lo base mid:Nat} {kind home n1 lost ofr byr set:Int} {full:Bool} {t:T} {A CA NA:Option Addr} {c cc nc:Nat} {l:List T} {code:List G} {ns ns':List Nm}
theorem zu9 (h:Tg.St wr lo ⟨kind,home,t,A,c,l,n1,lost,ofr,byr,set,full,none,0,[],none,0,[]⟩) (hn:OwnNI w base mid NA nc ns ns.length ns' wr) (hb:lo<=base) (hl:ns.length*80<=140737488351232) (hc:ns.length<=nc) (hs:∀x∈ns,x.1.size<=140737488351232):
 Tg.St wr lo ⟨kind,home,t,A,c,l,n1,lost,ofr,byr,set,full,none,0,[],NA,nc,ns'⟩:=by
 obtain⟨⟨hf,hv,a1,a0,-⟩,tv,tc,-,-⟩:=h;refine⟨⟨⟨hf.kind,hf.home,hf.n,hf.lost,hf.ofr,hf.byr,hf.set⟩,hv,a1,a0,(hn.row_in hl hc hs).more hb (Nat.le_refl _)⟩,tv,tc,?_,?_⟩
 .rintro b ⟨a,h0,-,rfl⟩;exact zkr hn.row h0
 .intro y hy b hb;exact T.Sp.td _ (hn.sp y hy) b hb
theorem zom (h:Tg.St wr lo ⟨kind,home,t,A,c,l,n1,lost,ofr,byr,set,full,none,0,[],NA,nc,ns⟩) (hlen:code.length*256<=140737488351232) (hcap:code.length<=cc) (hty:∀x∈code,Ty 311 x) (hin:(G.row CA code).In wr lo wr.heap.size) (htd:(G.row CA code).Td wr):
 Tg.St wr lo ⟨kind,home,t,A,c,l,n1,lost,ofr,byr,set,full,CA,cc,code,NA,nc,ns⟩:=by
 obtain⟨⟨hf,hv,a0,-,hn⟩,tv,-,tn,tm⟩:=h;exact⟨⟨⟨hf.kind,hf.home,hf.n,hf.lost,hf.ofr,hf.byr,hf.set⟩,hv,a0,⟨hlen,hcap,hty,hin⟩,hn⟩,tv,htd,tn,tm⟩
theorem Tg.St.more {x:Tg} {lo':Nat} (h:x.St wr lo) (hl:lo'<=lo):x.St wr lo':=⟨h.inn.more hl (Nat.le_refl _),h.tdV,h.tdC,h.tdN,h.tdM⟩
end
end Go.Proofs.YtlejelbefmkakaaGreat

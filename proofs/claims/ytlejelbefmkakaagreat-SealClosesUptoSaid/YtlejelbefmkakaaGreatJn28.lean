/- Texts joined: Wo19, Wo21, Gp1, Wo20, Gp2, Gq9b, Tr2, Tr1, Gq9c, Gf7, Gf8. -/
import Derived.Test.YtlejelbefmkakaaGreatJn1
import Derived.Test.YtlejelbefmkakaaGreatJn2
import Derived.Test.YtlejelbefmkakaaGreatJn4
import Derived.Test.YtlejelbefmkakaaGreatJn10
import Derived.Test.YtlejelbefmkakaaGreatJn11
import Derived.Test.YtlejelbefmkakaaGreatJn12
import Derived.Test.YtlejelbefmkakaaGreatJn13
import Derived.Test.YtlejelbefmkakaaGreatJn21
import Derived.Test.YtlejelbefmkakaaGreatJn24
import Derived.Test.YtlejelbefmkakaaGreatJn26
import Derived.Test.YtlejelbefmkakaaGreatJn27
import Derived.Laws.OwnMore
import Derived.Deep.OwnRows
import Derived.Deep.Cut
import Derived.Deep.CutRange
import Derived.Sort.OwnSortedInts
import Derived.LoopN
set_option maxHeartbeats 8000000
set_option maxRecDepth 100000
namespace Go.Proofs.YtlejelbefmkakaaGreat
open Go.RowKit
def Th.pairOf (x:Th) (r:Int):Int:=if x.kind=5 then r else x.ofr
section
variable {m:Wm} {lo:Nat} {W:World}
theorem zxr (h:m.Ok lo W) {r:Int} {x:Nat×Th} (hg:m.get r=some x) (hk:x.2.kind=5\/x.2.kind=6\/x.2.kind=7) (hm:x.2.v.v.may=true):
 Calls Tryz.prog 91 #[.pointer (some ⟨m.wb,0,none⟩),.int .i64 r] W λe w'=>e= .returned (.tuple #[.int .i64 (x.2.pairOf r),.int .i64 0])/\Fr No W w':=by
 have hT:=zhm h;have hW:=zla h hg hm;unfold zix at hW;clear h hg hm;obtain⟨gx,⟨kind,home,v,n,lost,ofr,byr,set,full⟩⟩:=x;unfold Th.pairOf;simp only at hk hW ⊢;rcases hk with rfl|rfl|rfl;all_goals
  go_enter Tryz.func91,Tryz.ntmps91;go_wp2_with fail;refine hT.mono ?_;rintro e w' ⟨rfl,rfl⟩;clear hT;go_wp2_with fail;refine hW.mono ?_;rintro e w1 ⟨⟨k1,n1,s1,A1,c1,l1,r1⟩,rfl,-,-,f1⟩;have a0:∀kind:Int,(Th.val ⟨kind,home,T.mk k1 n1 s1 A1 c1 l1 r1,n,lost,ofr,byr,set,full⟩)= .agg (zat kind home k1 n1 s1 A1 l1.length c1 r1 n lost ofr byr set full):=λ_=>rfl;rw[a0];unfold zat;have a1:=zaa f1;clear f1 a0 hW;go_wp2_with fail;go_ret2;exact⟨rfl,a1.out.alloc _⟩
theorem zsy {a:Int} {v:Value} (h:zlf (.mk 4 0 ⟨#[]⟩ [] a) v):v= .iface 274 (.int .i64 a):=by
 rw[zcy]at h;simpa[zkc]using h
theorem zt3 (h:m.Ok lo W) {r:Int} {x:Nat×Th} (hg:m.get r=some x) (hk:x.2.kind=5\/x.2.kind=6\/x.2.kind=7) (hm:x.2.v.v.may=true) (hp0:1<=x.2.pairOf r) (hp1:x.2.pairOf r<=9223372036854775807):
 Calls Tryz.prog 22 #[.pointer (some ⟨m.wb,0,none⟩),.int .i64 r] W λe w'=>e= .returned (.tuple #[.iface 274 (.int .i64 (x.2.pairOf r)),.int .i64 0])/\Fr No W w':=by
 have hP:=zxr h hg hk hm;generalize x.2.pairOf r=a at*;have hO:=λW'=>zwk (zqv a) W' 0 W'.heap.size (zqk hp0 hp1 _ _ _) (Nat.le_refl _);rw[zml]at hO;have a0:=ziy hp0;have HO:Hid (∀W',Calls Tryz.prog 92 #[.agg #[.int .u8 4,.int .i64 0,.string ⟨#[]⟩,.slice none 0 0,.int .i64 a]] W' λe w'=>e= .returned (.tuple #[.iface 274 (.int .i64 a),.int .i64 0])/\Fr No W' w'):=zaa λW'=>by
  refine(hO W').mono ?_;rintro e w' ⟨h1,-⟩;obtain⟨v,rfl,hv,f⟩:=h1 a0;rw[zqj]at hv;rw[zsy hv];exact⟨rfl,f⟩
 clear hO a0 h hg hk hm hp0 hp1;go_enter Tryz.func22,Tryz.ntmps22;go_wp2_with fail;refine hP.mono ?_;rintro e w1 ⟨rfl,f1⟩;clear hP;go_wp2_with fail;refine(HO.out w1).mono ?_;rintro e w2 ⟨rfl,f2⟩;go_wp2_with fail;go_ret2;exact⟨rfl,f1.trans f2⟩
theorem zsz (a b:Int) (w:World):(binOp .eql 49 (.iface 274 (.int .i64 a)) (.iface 274 (.int .i64 b))).run Tryz.prog w= .ok (.bool (decide (a=b))) w:=by
 have i1:zlf (.mk 4 0 ⟨#[]⟩ [] a) (.iface 274 (.int .i64 a)):=by rw[zcy];simp[zkc]
 have i2:zlf (.mk 4 0 ⟨#[]⟩ [] b) (.iface 274 (.int .i64 b)):=by rw[zcy];simp[zkc]
 have h:=zxa (.mk 4 0 ⟨#[]⟩ [] a) (.mk 4 0 ⟨#[]⟩ [] b) 10000 _ _ w (by simp[V.dep_mk]) i1 i2;have e:(binOp .eql 49 (.iface 274 (.int .i64 a)) (.iface 274 (.int .i64 b))).run Tryz.prog w=((Op.equalIn 10000 49 (.iface 274 (.int .i64 a)) (.iface 274 (.int .i64 b))).run Tryz.prog w).andThen λb w'=>.ok (.bool b) w':=by
  simp[binOp,Op.equal];rfl
 rw[e];have hc:V.cmp (.mk 4 0 ⟨#[]⟩ [] a) (.mk 4 0 ⟨#[]⟩ [] b)=if a=b then 1 else 0:=by simp[V.cmp_mk,zr1,shp,zh1]
 rw[hc]at h;by_cases a0:a=b
 .rw[if_pos a0]at h;rcases h with⟨h,-⟩|⟨-,h⟩|⟨h,-⟩
  .cases h
  .rw[h];simp[Result.andThen,a0]
  .cases h
 .rw[if_neg a0]at h;rcases h with⟨-,h⟩|⟨h,-⟩|⟨h,-⟩
  .rw[h];simp[Result.andThen,a0]
  .cases h
  .cases h
theorem zxs (h:m.Ok lo W) {r q:Int} {x y:Nat×Th} (hg:m.get r=some x) (hk:x.2.kind=5\/x.2.kind=6\/x.2.kind=7) (hm:x.2.v.v.may=true) (hp0:1<=x.2.pairOf r) (hp1:x.2.pairOf r<=9223372036854775807)
 (hgq:m.get q=some y) (hkq:y.2.kind=5\/y.2.kind=6\/y.2.kind=7) (hmq:y.2.v.v.may=true) (hq0:1<=y.2.pairOf q) (hq1:y.2.pairOf q<=9223372036854775807):
 Calls Tryz.prog 23 #[.pointer (some ⟨m.wb,0,none⟩),.int .i64 r,.int .i64 q] W λe w'=>e= .returned (.tuple #[.bool (decide (x.2.pairOf r=y.2.pairOf q)),.int .i64 0])/\Fr No W w':=by
 have hT:=zhm h;have a1:=zqg h r;have a0:=zqg h q;have e1:(m.get r).isSome=true:=by rw[hg];rfl
 have e2:(m.get q).isSome=true:=by rw[hgq];rfl
 rw[e1]at a1;rw[e2]at a0;have a2:=zt3 h hg hk hm hp0 hp1;have a3:=zaa λW' (f:Fr No W W')=>zt3 (h.no f) hgq hkq hmq hq0 hq1;have a4:=zsz;generalize x.2.pairOf r=a at*;generalize y.2.pairOf q=b at*;clear h hg hk hm hp0 hp1 hgq hkq hmq hq0 hq1 e1 e2;go_enter Tryz.func23,Tryz.ntmps23;go_wp2_with fail;refine hT.mono ?_;rintro e w' ⟨rfl,rfl⟩;go_wp2_with fail;refine a1.mono ?_;rintro e w' ⟨rfl,rfl⟩;go_wp2_with fail;refine a0.mono ?_;rintro e w' ⟨rfl,rfl⟩;clear hT a1 a0;go_wp2_with fail;refine a2.mono ?_;rintro e w1 ⟨rfl,f1⟩;clear a2;go_wp2_with fail;refine(a3.out w1 f1).mono ?_;rintro e w2 ⟨rfl,f2⟩;go_wp2_with fail;go_ret2;exact⟨rfl,f1.trans f2⟩
end
def nE (g:Nat->Nat):Nat->Value
 |0=>.slice none 0 0
 |1=>.slice none 0 0
 |2=>.int .i64 1
 |3=>.slice (some ⟨g 3,0,none⟩) 1 1
 |4=>.int .i64 1
 |5=>.slice (some ⟨g 5,0,none⟩) 1 1
 |6=>.map (some (g 6))
 |7=>.map (some (g 7))
 |8=>.agg #[.slice none 0 0,.slice (some ⟨g 3,0,none⟩) 1 1,.map (some (g 6)),.map (some (g 7)),.int .i64 0,.slice (some ⟨g 5,0,none⟩) 1 1]
 |9=>.pointer (some ⟨g 9,0,none⟩)
 |10=>.pointer (some ⟨g 9,0,none⟩)
 |11=>.int .i64 0
 |_=>undef
def nB (g:Nat->Nat) (w:World):Nat->Prop
 |3=>w.heap[g 3]? =some (.cells #[.bool false] 4 (0,0))
 |5=>w.heap[g 5]? =some (.cells #[.int .i64 0] 3 (0,0))
 |6=>w.heap[g 6]? =some (.map #[] 0)
 |7=>w.heap[g 7]? =some (.map #[] 0)
 |9=>w.heap[g 9]? =some (.cells #[.slice none 0 0,.slice (some ⟨g 3,0,none⟩) 1 1,.map (some (g 6)),.map (some (g 7)),.int .i64 0,.slice (some ⟨g 5,0,none⟩) 1 1] 38 (0,0))
 |_=>True
structure NJ (W0:World) (f:Nat->Bool) (x:List Value) (g:Nat->Nat) (w:World):Prop where
 fr:Fr No W0 w
 x:∀j,f j=true->x.getD j undef=nE g j
 b:∀j,f j=true->nB g w j
 lo:∀j,f j=true->(j=3\/j=5\/j=6\/j=7\/j=9)->W0.heap.size<=g j/\g j<w.heap.size
 ne:f 6=true->f 7=true->g 6≠g 7
 c8:f 8=true->f 3=true/\f 5=true/\f 6=true/\f 7=true
 c9:f 9=true->f 8=true
 c10:f 10=true->f 9=true
theorem zb9 {f:Nat->Bool} {i j:Nat} (h:j≠i):upd f i j=f j:=by
 simp[upd,h]
theorem zh7 {f:Nat->Bool} {i:Nat}:upd f i i=true:=by simp[upd]
theorem NJ.begin (W0:World) (x:List Value):NJ W0 (λ_=>false) x (λ_=>0) W0.drew:=
 ⟨(Fr.refl No W0).drew,nofun,nofun,nofun,nofun,nofun,nofun,nofun⟩
theorem NJ.quiet {W0 w:World} {f:Nat->Bool} {x:List Value} {g:Nat->Nat} (h:NJ W0 f x g w) {i:Nat} (hi:i≠3/\i≠5/\i≠6/\i≠7/\i≠9) (hx:i<x.length) (h8:i=8->f 3=true/\f 5=true/\f 6=true/\f 7=true) (h10:i=10->f 9=true):NJ W0 (upd f i) (x.set i (nE g i)) g w:=by
 have hu:∀j,upd f i j=true->j=i\/f j=true:=λj hj=>by
  by_cases a0:j=i
  .exact .inl a0
  .exact .inr (by rwa [zb9 a0]at hj)
 have hk:∀j,f j=true->upd f i j=true:=λj hj=>by
  by_cases a0:j=i
  .rw[a0];exact zh7
  .rwa [zb9 a0]
 refine⟨h.fr,λj hj=>?_,λj hj=>?_,λj hj hjj=>?_,λh6 h7=>?_,λh8'=>?_,λh9'=>?_,λh10'=>?_⟩
 .rcases hu j hj with rfl|hj
  .simp[List.getD_eq_getElem?_getD,hx]
  .by_cases a0:j=i
   .subst a0;simp[List.getD_eq_getElem?_getD,hx]
   .rw[<-h.x j hj,List.getD_eq_getElem?_getD,List.getD_eq_getElem?_getD,List.getElem?_set_ne (λe=>a0 e.symm)]
 .rcases hu j hj with rfl|hj
  .unfold nB;split<;>first|trivial|omega
  .exact h.b j hj
 .rcases hu j hj with rfl|hj
  .omega
  .exact h.lo j hj hjj
 .rw[zb9 o_]at h6 h7;exact h.ne h6 h7
 .rcases hu 8 h8' with hh|hh
  .obtain⟨a,b,c,d⟩:=h8 hh.symm;exact⟨hk _ a,hk _ b,hk _ c,hk _ d⟩
  .obtain⟨a,b,c,d⟩:=h.c8 hh;exact⟨hk _ a,hk _ b,hk _ c,hk _ d⟩
 .rw[zb9 o_]at h9';exact hk _ (h.c9 h9')
 .rcases hu 10 h10' with hh|hh
  .exact hk _ (h10 hh.symm)
  .exact hk _ (h.c10 hh)
def zdm (g:Nat->Nat) (i b:Nat):Nat->Nat:=λj=>if j=i then b else g j
theorem zbo {g:Nat->Nat} {i b:Nat}:zdm g i b i=b:=by simp[zdm]
theorem za1 {g:Nat->Nat} {i b j:Nat} (h:j≠i):zdm g i b j=g j:=by simp[zdm,h]
theorem zmm {g:Nat->Nat} {w:World} {o:Obj} (j:Nat) (h:nB g w j) (hlt:(j=3\/j=5\/j=6\/j=7\/j=9)->g j<w.heap.size):nB g (w.alloc o) j:=by
 unfold nB at h ⊢;split
 .exact(Below.heap_alloc _ _ _ (hlt s_)).trans h
 .exact(Below.heap_alloc _ _ _ (hlt s_)).trans h
 .exact(Below.heap_alloc _ _ _ (hlt s_)).trans h
 .exact(Below.heap_alloc _ _ _ (hlt s_)).trans h
 .exact(Below.heap_alloc _ _ _ (hlt s_)).trans h
 .trivial
theorem NJ.make {W0 w:World} {f:Nat->Bool} {x:List Value} {g:Nat->Nat} (h:NJ W0 f x g w) {i:Nat} {o:Obj} (hi:i=3\/i=5\/i=6\/i=7) (hf:f i=false) (hx:i<x.length) (ho:nB (zdm g i w.heap.size) (w.alloc o) i):NJ W0 (upd f i) (x.set i (nE (zdm g i w.heap.size) i)) (zdm g i w.heap.size) (w.alloc o):=by
 have h8:f 8=false:=by
  cases h8:f 8 with
  |false=>rfl
  |true=>
   obtain⟨a,b,c,d⟩:=h.c8 h8;rcases hi with rfl|rfl|rfl|rfl<;>simp_all
 have h9:f 9=false:=by
  cases h9:f 9 with
  |false=>rfl
  |true=>rw[h.c9 h9]at h8;cases h8
 have a1:f 10=false:=by
  cases a1:f 10 with
  |false=>rfl
  |true=>rw[h.c10 a1]at h9;cases h9
 have hs:=h.fr.size;have hu:∀j,upd f i j=true->j=i\/(j≠i/\f j=true):=λj hj=>by
  by_cases a0:j=i
  .exact .inl a0
  .exact .inr ⟨a0,by rwa [zb9 a0]at hj⟩
 have hE:∀j,j≠i->f j=true->nE (zdm g i w.heap.size) j=nE g j:=λj a0 hj=>by
  have j8:j≠8:=λe=>by subst e;rw[h8]at hj;cases hj
  have j9:j≠9:=λe=>by subst e;rw[h9]at hj;cases hj
  have a3:j≠10:=λe=>by subst e;rw[a1]at hj;cases hj
  unfold nE;split<;>first|rfl|omega|(rw[za1 a0])
 have a2:∀j,j≠i->f j=true->nB (zdm g i w.heap.size) w j:=λj a0 hj=>by
  have hb:=h.b j hj;have j9:j≠9:=λe=>by subst e;rw[h9]at hj;cases hj
  unfold nB at hb ⊢;split<;>first|trivial|omega|(rw[za1 a0];exact hb)
 refine⟨h.fr.alloc _,λj hj=>?_,λj hj=>?_,λj hj hjj=>?_,λh6 h7=>?_,λh8'=>?_,λh9'=>?_,λh10'=>?_⟩
 .rcases hu j hj with rfl|⟨a0,hj⟩
  .simp[List.getD_eq_getElem?_getD,hx]
  .rw[hE j a0 hj,<-h.x j hj,List.getD_eq_getElem?_getD,List.getD_eq_getElem?_getD,List.getElem?_set_ne (λe=>a0 e.symm)]
 .rcases hu j hj with rfl|⟨a0,hj⟩
  .exact ho
  .exact zmm j (a2 j a0 hj) λhjj=>by rw[za1 a0];exact(h.lo j hj hjj).2
 .rcases hu j hj with rfl|⟨a0,hj⟩
  .rw[zbo];simp;omega
  .rw[za1 a0];have:=h.lo j hj hjj;simp;omega
 .rcases hu 6 h6 with e6|⟨n6,f6⟩<;>rcases hu 7 h7 with e7|⟨n7,f7⟩
  .omega
  .subst e6;rw[zbo,za1 n7];have:=h.lo 7 f7 s_;omega
  .subst e7;rw[zbo,za1 n6];have:=h.lo 6 f6 s_;omega
  .rw[za1 n6,za1 n7];exact h.ne f6 f7
 .rcases hu 8 h8' with e|⟨-,e⟩
  .omega
  .rw[h8]at e;cases e
 .rcases hu 9 h9' with e|⟨-,e⟩
  .omega
  .rw[h9]at e;cases e
 .rcases hu 10 h10' with e|⟨-,e⟩
  .omega
  .rw[a1]at e;cases e
theorem NJ.box {W0 w:World} {f:Nat->Bool} {x:List Value} {g:Nat->Nat} (h:NJ W0 f x g w) {o:Obj} (h8:f 8=true) (hf:f 9=false) (hx:9<x.length) (ho:nB (zdm g 9 w.heap.size) (w.alloc o) 9):NJ W0 (upd f 9) (x.set 9 (nE (zdm g 9 w.heap.size) 9)) (zdm g 9 w.heap.size) (w.alloc o):=by
 have a1:f 10=false:=by
  cases a1:f 10 with
  |false=>rfl
  |true=>rw[h.c10 a1]at hf;cases hf
 have hs:=h.fr.size;have hu:∀j,upd f 9 j=true->j=9\/(j≠9/\f j=true):=λj hj=>by
  by_cases a0:j=9
  .exact .inl a0
  .exact .inr ⟨a0,by rwa [zb9 a0]at hj⟩
 have hk:∀j,f j=true->upd f 9 j=true:=λj hj=>by
  by_cases a0:j=9
  .rw[a0];exact zh7
  .rwa [zb9 a0]
 have hE:∀j,j≠9->f j=true->nE (zdm g 9 w.heap.size) j=nE g j:=λj a0 hj=>by
  have a3:j≠10:=λe=>by subst e;rw[a1]at hj;cases hj
  unfold nE;split<;>first|rfl|omega|(simp[zdm])
 have a2:∀j,j≠9->f j=true->nB (zdm g 9 w.heap.size) w j:=λj a0 hj=>by
  have hb:=h.b j hj;unfold nB at hb ⊢;split<;>first|trivial|omega|(rw[za1 a0];exact hb)
 refine⟨h.fr.alloc _,λj hj=>?_,λj hj=>?_,λj hj hjj=>?_,λh6 h7=>?_,λh8'=>?_,λh9'=>?_,λh10'=>?_⟩
 .rcases hu j hj with rfl|⟨a0,hj⟩
  .simp[List.getD_eq_getElem?_getD,hx]
  .rw[hE j a0 hj,<-h.x j hj,List.getD_eq_getElem?_getD,List.getD_eq_getElem?_getD,List.getElem?_set_ne (λe=>a0 e.symm)]
 .rcases hu j hj with rfl|⟨a0,hj⟩
  .exact ho
  .exact zmm j (a2 j a0 hj) λhjj=>by rw[za1 a0];exact(h.lo j hj hjj).2
 .rcases hu j hj with rfl|⟨a0,hj⟩
  .rw[zbo];simp;omega
  .rw[za1 a0];have:=h.lo j hj hjj;simp;omega
 .rw[zb9 o_]at h6 h7;rw[za1 o_,za1 o_];exact h.ne h6 h7
 .obtain⟨a,b,c,d⟩:=h.c8 h8;exact⟨hk _ a,hk _ b,hk _ c,hk _ d⟩
 .exact hk _ h8
 .exact zh7
def kE (pv:Value) (k:Nat) (cv:Value) (g:Nat->Nat):Nat->Value
 |0=>pv
 |1=>cv
 |2=>.int .i64 (k:Int)
 |3=>.slice (some ⟨g 3,0,none⟩) k k
 |4=>.int .i64 (k:Int)
 |5=>.slice (some ⟨g 5,0,none⟩) k k
 |6=>.map (some (g 6))
 |7=>.map (some (g 7))
 |8=>.agg #[cv,.slice (some ⟨g 3,0,none⟩) k k,.map (some (g 6)),.map (some (g 7)),.int .i64 0,.slice (some ⟨g 5,0,none⟩) k k]
 |9=>.pointer (some ⟨g 9,0,none⟩)
 |10=>.pointer (some ⟨g 9,0,none⟩)
 |11=>.int .i64 0
 |_=>undef
def kB (k n:Nat) (cs:List Value) (lo:Nat) (cv:Value) (g:Nat->Nat) (w:World):Nat->Prop
 |1=>w.ownsRow lo 23 1 cv n cs
 |3=>w.heap[g 3]? =some (.cells (madeCells #[.bool false] k) 4 (0,0))
 |5=>w.heap[g 5]? =some (.cells (madeCells #[.int .i64 0] k) 3 (0,0))
 |6=>w.heap[g 6]? =some (.map #[] 0)
 |7=>w.heap[g 7]? =some (.map #[] 0)
 |9=>w.heap[g 9]? =some (.cells #[cv,.slice (some ⟨g 3,0,none⟩) k k,.map (some (g 6)),.map (some (g 7)),.int .i64 0,.slice (some ⟨g 5,0,none⟩) k k] 38 (0,0))
 |_=>True
structure NK (W0:World) (pv:Value) (k n:Nat) (cs:List Value) (f:Nat->Bool) (x:List Value) (cv:Value) (g:Nat->Nat) (w:World):Prop where
 fr:Fr No W0 w
 x:∀j,f j=true->x.getD j undef=kE pv k cv g j
 b:∀j,f j=true->kB k n cs W0.heap.size cv g w j
 lo:∀j,f j=true->(j=3\/j=5\/j=6\/j=7\/j=9)->W0.heap.size<=g j/\g j<w.heap.size
 ne:f 6=true->f 7=true->g 6≠g 7
 c8:f 8=true->f 1=true/\f 3=true/\f 5=true/\f 6=true/\f 7=true
 c9:f 9=true->f 8=true
 c10:f 10=true->f 9=true
theorem NK.begin (W0:World) (pv:Value) (k n:Nat) (cs:List Value) (x:List Value):NK W0 pv k n cs (λ_=>false) x undef (λ_=>0) W0.drew:=
 ⟨(Fr.refl No W0).drew,nofun,nofun,nofun,nofun,nofun,nofun,nofun⟩
theorem NK.quiet {W0 w:World} {pv cv:Value} {k n:Nat} {cs:List Value} {f:Nat->Bool} {x:List Value} {g:Nat->Nat} (h:NK W0 pv k n cs f x cv g w) {i:Nat} (hi:i≠1/\i≠3/\i≠5/\i≠6/\i≠7/\i≠9) (hx:i<x.length) (h8:i=8->f 1=true/\f 3=true/\f 5=true/\f 6=true/\f 7=true) (h10:i=10->f 9=true):NK W0 pv k n cs (upd f i) (x.set i (kE pv k cv g i)) cv g w:=by
 have hu:∀j,upd f i j=true->j=i\/f j=true:=λj hj=>by
  by_cases a0:j=i
  .exact .inl a0
  .exact .inr (by rwa [zb9 a0]at hj)
 have hk:∀j,f j=true->upd f i j=true:=λj hj=>by
  by_cases a0:j=i
  .rw[a0];exact zh7
  .rwa [zb9 a0]
 refine⟨h.fr,λj hj=>?_,λj hj=>?_,λj hj hjj=>?_,λh6 h7=>?_,λh8'=>?_,λh9'=>?_,λh10'=>?_⟩
 .rcases hu j hj with rfl|hj
  .simp[List.getD_eq_getElem?_getD,hx]
  .by_cases a0:j=i
   .subst a0;simp[List.getD_eq_getElem?_getD,hx]
   .rw[<-h.x j hj,List.getD_eq_getElem?_getD,List.getD_eq_getElem?_getD,List.getElem?_set_ne (λe=>a0 e.symm)]
 .rcases hu j hj with rfl|hj
  .unfold kB;split<;>first|trivial|omega
  .exact h.b j hj
 .rcases hu j hj with rfl|hj
  .omega
  .exact h.lo j hj hjj
 .rw[zb9 o_]at h6 h7;exact h.ne h6 h7
 .rcases hu 8 h8' with hh|hh
  .obtain⟨a,b,c,d,e⟩:=h8 hh.symm;exact⟨hk _ a,hk _ b,hk _ c,hk _ d,hk _ e⟩
  .obtain⟨a,b,c,d,e⟩:=h.c8 hh;exact⟨hk _ a,hk _ b,hk _ c,hk _ d,hk _ e⟩
 .rw[zb9 o_]at h9';exact hk _ (h.c9 h9')
 .rcases hu 10 h10' with hh|hh
  .exact hk _ (h10 hh.symm)
  .exact hk _ (h.c10 hh)
theorem zlp {k n lo:Nat} {cs:List Value} {cv:Value} {g:Nat->Nat} {w:World} {o:Obj} (j:Nat) (h:kB k n cs lo cv g w j) (hlt:(j=3\/j=5\/j=6\/j=7\/j=9)->g j<w.heap.size):kB k n cs lo cv g (w.alloc o) j:=by
 unfold kB at h ⊢;split
 .exact h.alloc _
 .exact(Below.heap_alloc _ _ _ (hlt s_)).trans h
 .exact(Below.heap_alloc _ _ _ (hlt s_)).trans h
 .exact(Below.heap_alloc _ _ _ (hlt s_)).trans h
 .exact(Below.heap_alloc _ _ _ (hlt s_)).trans h
 .exact(Below.heap_alloc _ _ _ (hlt s_)).trans h
 .trivial
theorem zx6 {k n lo:Nat} {cs:List Value} {cv:Value} {g:Nat->Nat} {w w':World} (f:Fr No w w') (j:Nat) (h:kB k n cs lo cv g w j) (hlt:(j=3\/j=5\/j=6\/j=7\/j=9)->g j<w.heap.size):kB k n cs lo cv g w' j:=by
 unfold kB at h ⊢;split
 .exact zaf h f λ_ _ h=>h
 .exact(f.block _ (hlt s_) λh=>h).trans h
 .exact(f.block _ (hlt s_) λh=>h).trans h
 .exact(f.block _ (hlt s_) λh=>h).trans h
 .exact(f.block _ (hlt s_) λh=>h).trans h
 .exact(f.block _ (hlt s_) λh=>h).trans h
 .trivial
theorem NK.call {W0 w w':World} {pv cv cv':Value} {k n:Nat} {cs:List Value} {f:Nat->Bool} {x:List Value} {g:Nat->Nat} (h:NK W0 pv k n cs f x cv g w) (hf:f 1=false) (hx:1<x.length) (fw:Fr No w w') (ho:w'.ownsRow W0.heap.size 23 1 cv' n cs):NK W0 pv k n cs (upd f 1) (x.set 1 cv') cv' g w':=by
 have h8:f 8=false:=by
  cases h8:f 8 with
  |false=>rfl
  |true=>rw[(h.c8 h8).1]at hf;cases hf
 have h9:f 9=false:=by
  cases h9:f 9 with
  |false=>rfl
  |true=>rw[h.c9 h9]at h8;cases h8
 have hu:∀j,upd f 1 j=true->j=1\/(j≠1/\f j=true):=λj hj=>by
  by_cases a0:j=1
  .exact .inl a0
  .exact .inr ⟨a0,by rwa [zb9 a0]at hj⟩
 have hs:=fw.size;refine⟨h.fr.trans fw,λj hj=>?_,λj hj=>?_,λj hj hjj=>?_,λh6 h7=>?_,λh8'=>?_,λh9'=>?_,λh10'=>?_⟩
 .rcases hu j hj with rfl|⟨a0,hj⟩
  .simp[List.getD_eq_getElem?_getD,hx,kE]
  .have a1:j≠8:=λe=>by subst e;rw[h8]at hj;cases hj
   have e:kE pv k cv' g j=kE pv k cv g j:=by unfold kE;split<;>first|rfl|omega
   rw[e,<-h.x j hj,List.getD_eq_getElem?_getD,List.getD_eq_getElem?_getD,List.getElem?_set_ne (λe=>a0 e.symm)]
 .rcases hu j hj with rfl|⟨a0,hj⟩
  .exact ho
  .have a2:j≠9:=λe=>by subst e;rw[h9]at hj;cases hj
   have hb:=zx6 fw j (h.b j hj) λhjj=>(h.lo j hj hjj).2;unfold kB at hb ⊢;split<;>first|trivial|omega|exact hb
 .rcases hu j hj with rfl|⟨a0,hj⟩
  .omega
  .have:=h.lo j hj hjj;omega
 .rw[zb9 o_]at h6 h7;exact h.ne h6 h7
 .rcases hu 8 h8' with e|⟨-,e⟩
  .omega
  .rw[h8]at e;cases e
 .rcases hu 9 h9' with e|⟨-,e⟩
  .omega
  .rw[h9]at e;cases e
 .rcases hu 10 h10' with e|⟨-,e⟩
  .omega
  .rw[h.c10 e]at h9;cases h9
theorem NK.make {W0 w:World} {pv cv:Value} {k n:Nat} {cs:List Value} {f:Nat->Bool} {x:List Value} {g:Nat->Nat} (h:NK W0 pv k n cs f x cv g w) {i:Nat} {o:Obj} (hi:i=3\/i=5\/i=6\/i=7) (hf:f i=false) (hx:i<x.length) (ho:kB k n cs W0.heap.size cv (zdm g i w.heap.size) (w.alloc o) i):NK W0 pv k n cs (upd f i) (x.set i (kE pv k cv (zdm g i w.heap.size) i)) cv (zdm g i w.heap.size) (w.alloc o):=by
 have h8:f 8=false:=by
  cases h8:f 8 with
  |false=>rfl
  |true=>
   obtain⟨a,b,c,d,e⟩:=h.c8 h8;rcases hi with rfl|rfl|rfl|rfl<;>simp_all
 have h9:f 9=false:=by
  cases h9:f 9 with
  |false=>rfl
  |true=>rw[h.c9 h9]at h8;cases h8
 have a1:f 10=false:=by
  cases a1:f 10 with
  |false=>rfl
  |true=>rw[h.c10 a1]at h9;cases h9
 have hs:=h.fr.size;have hu:∀j,upd f i j=true->j=i\/(j≠i/\f j=true):=λj hj=>by
  by_cases a0:j=i
  .exact .inl a0
  .exact .inr ⟨a0,by rwa [zb9 a0]at hj⟩
 have hE:∀j,j≠i->f j=true->kE pv k cv (zdm g i w.heap.size) j=kE pv k cv g j:=λj a0 hj=>by
  have j8:j≠8:=λe=>by subst e;rw[h8]at hj;cases hj
  have j9:j≠9:=λe=>by subst e;rw[h9]at hj;cases hj
  have a3:j≠10:=λe=>by subst e;rw[a1]at hj;cases hj
  unfold kE;split<;>first|rfl|omega|(rw[za1 a0])
 have a2:∀j,j≠i->f j=true->kB k n cs W0.heap.size cv (zdm g i w.heap.size) w j:=λj a0 hj=>by
  have hb:=h.b j hj;have j9:j≠9:=λe=>by subst e;rw[h9]at hj;cases hj
  unfold kB at hb ⊢;split<;>first|trivial|omega|(rw[za1 a0];exact hb)
 refine⟨h.fr.alloc _,λj hj=>?_,λj hj=>?_,λj hj hjj=>?_,λh6 h7=>?_,λh8'=>?_,λh9'=>?_,λh10'=>?_⟩
 .rcases hu j hj with rfl|⟨a0,hj⟩
  .simp[List.getD_eq_getElem?_getD,hx]
  .rw[hE j a0 hj,<-h.x j hj,List.getD_eq_getElem?_getD,List.getD_eq_getElem?_getD,List.getElem?_set_ne (λe=>a0 e.symm)]
 .rcases hu j hj with rfl|⟨a0,hj⟩
  .exact ho
  .exact zlp j (a2 j a0 hj) λhjj=>by rw[za1 a0];exact(h.lo j hj hjj).2
 .rcases hu j hj with rfl|⟨a0,hj⟩
  .rw[zbo];simp;omega
  .rw[za1 a0];have:=h.lo j hj hjj;simp;omega
 .rcases hu 6 h6 with e6|⟨n6,f6⟩<;>rcases hu 7 h7 with e7|⟨n7,f7⟩
  .omega
  .subst e6;rw[zbo,za1 n7];have:=h.lo 7 f7 s_;omega
  .subst e7;rw[zbo,za1 n6];have:=h.lo 6 f6 s_;omega
  .rw[za1 n6,za1 n7];exact h.ne f6 f7
 .rcases hu 8 h8' with e|⟨-,e⟩
  .omega
  .rw[h8]at e;cases e
 .rcases hu 9 h9' with e|⟨-,e⟩
  .omega
  .rw[h9]at e;cases e
 .rcases hu 10 h10' with e|⟨-,e⟩
  .omega
  .rw[a1]at e;cases e
theorem NK.box {W0 w:World} {pv cv:Value} {k n:Nat} {cs:List Value} {f:Nat->Bool} {x:List Value} {g:Nat->Nat} (h:NK W0 pv k n cs f x cv g w) {o:Obj} (h8:f 8=true) (hf:f 9=false) (hx:9<x.length) (ho:kB k n cs W0.heap.size cv (zdm g 9 w.heap.size) (w.alloc o) 9):NK W0 pv k n cs (upd f 9) (x.set 9 (kE pv k cv (zdm g 9 w.heap.size) 9)) cv (zdm g 9 w.heap.size) (w.alloc o):=by
 have a1:f 10=false:=by
  cases a1:f 10 with
  |false=>rfl
  |true=>rw[h.c10 a1]at hf;cases hf
 have hs:=h.fr.size;have hu:∀j,upd f 9 j=true->j=9\/(j≠9/\f j=true):=λj hj=>by
  by_cases a0:j=9
  .exact .inl a0
  .exact .inr ⟨a0,by rwa [zb9 a0]at hj⟩
 have hk:∀j,f j=true->upd f 9 j=true:=λj hj=>by
  by_cases a0:j=9
  .rw[a0];exact zh7
  .rwa [zb9 a0]
 have hE:∀j,j≠9->f j=true->kE pv k cv (zdm g 9 w.heap.size) j=kE pv k cv g j:=λj a0 hj=>by
  have a3:j≠10:=λe=>by subst e;rw[a1]at hj;cases hj
  unfold kE;split<;>first|rfl|omega|(simp[zdm])
 have a2:∀j,j≠9->f j=true->kB k n cs W0.heap.size cv (zdm g 9 w.heap.size) w j:=λj a0 hj=>by
  have hb:=h.b j hj;unfold kB at hb ⊢;split<;>first|trivial|omega|(rw[za1 a0];exact hb)
 refine⟨h.fr.alloc _,λj hj=>?_,λj hj=>?_,λj hj hjj=>?_,λh6 h7=>?_,λh8'=>?_,λh9'=>?_,λh10'=>?_⟩
 .rcases hu j hj with rfl|⟨a0,hj⟩
  .simp[List.getD_eq_getElem?_getD,hx]
  .rw[hE j a0 hj,<-h.x j hj,List.getD_eq_getElem?_getD,List.getD_eq_getElem?_getD,List.getElem?_set_ne (λe=>a0 e.symm)]
 .rcases hu j hj with rfl|⟨a0,hj⟩
  .exact ho
  .exact zlp j (a2 j a0 hj) λhjj=>by rw[za1 a0];exact(h.lo j hj hjj).2
 .rcases hu j hj with rfl|⟨a0,hj⟩
  .rw[zbo];simp;omega
  .rw[za1 a0];have:=h.lo j hj hjj;simp;omega
 .rw[zb9 o_]at h6 h7;rw[za1 o_,za1 o_];exact h.ne h6 h7
 .obtain⟨a,b,c,d,e⟩:=h.c8 h8;exact⟨hk _ a,hk _ b,hk _ c,hk _ d,hk _ e⟩
 .exact hk _ h8
 .exact zh7
theorem zs0 (W:World):Calls Tryz.prog 148 #[.slice none 0 0] W λe w'=>e= .returned (.slice none 0 0)/\w'=W:=by
 have hq:∀w:World,(binOp .eql 32 (.slice none 0 0) (.slice none 0 0)).run Tryz.prog w= .ok (.bool true) w:=λw=>by kernel_rfl
 go_enter Tryz.func148,Tryz.ntmps148;go_wp2;go_ret;exact⟨rfl,rfl⟩
theorem zs1:∀w:World,(Instr.makeSlice 33 (.int .i64 1) (.int .i64 1)).run Tryz.prog w= .ok (.slice (some ⟨w.heap.size,0,none⟩) 1 1) (w.alloc (.cells #[.bool false] 4)):=λw=>by
 have h:=run_make_row' (P:=Tryz.prog) 33 4 (.bool false) 1 Tryz.underlying33 k_ rfl .i64 .i64 1 d_ d_ w;have e:madeCells #[Value.bool false] 1=#[Value.bool false]:=k_;rw[e]at h;exact h
theorem zwe:∀w:World,(Instr.makeSlice 36 (.int .i64 1) (.int .i64 1)).run Tryz.prog w= .ok (.slice (some ⟨w.heap.size,0,none⟩) 1 1) (w.alloc (.cells #[.int .i64 0] 3)):=λw=>by
 have h:=run_make_row' (P:=Tryz.prog) 36 3 (.int .i64 0) 8 Tryz.underlying36 k_ rfl .i64 .i64 1 d_ d_ w;have e:madeCells #[Value.int .i64 0] 1=#[Value.int .i64 0]:=k_;rw[e]at h;exact h
def zgx (ps:List Int):Prop:=ps.length<16/\∀(i:Nat) (p:Int),ps[i]? =some p->0<=p/\p<=(i:Int)
def zzk (ps:List Int) (W:World) (e:Ending) (w':World):Prop:=
 (¬zgx ps/\e= .returned (.tuple #[.pointer none,.int .i64 71])/\Fr No W w')\/
 (zgx ps/\∃m:Gm,e= .returned (.tuple #[.pointer (some ⟨m.wb,0,none⟩),.int .i64 0])/\m.Ok W.heap.size w'/\(m.th=[]/\m.fac=[]/\m.par=ps/\m.cut=List.replicate (ps.length+1) false/\m.made=List.replicate (ps.length+1) 0/\m.last=0)/\Fr No W w')
theorem zek {w:World} {lo hi:Nat} {A:Option Addr} {cap:Nat} {L:List Int} (h:Ints w lo hi A cap L):Lies w lo hi A L.length 1 (L.map λn=>Value.int .i64 n):=by
 refine⟨by simp,λu hu=>?_,λhn=>?_⟩
 .obtain⟨x,-,rfl⟩:=List.mem_map.1 hu;rfl
 .obtain⟨b,o,rfl,h0,h1,hc⟩:=h.at_ (λe=>hn (by rw[e];rfl));refine⟨b,o,rfl,h0,h1,λj u hu=>?_⟩;obtain⟨x,hx,rfl⟩:=Option.map_eq_some_iff.1 (by rwa [List.getElem?_map]at hu);exact hc j x hx
theorem zlq (k:Nat) (hk:k<=16):∀w:World,(Instr.makeSlice 33 (.int .i64 (k:Int)) (.int .i64 (k:Int))).run Tryz.prog w= .ok (.slice (some ⟨w.heap.size,0,none⟩) k k) (w.alloc (.cells (madeCells #[.bool false] k) 4)):=λw=>
 run_make_row' (P:=Tryz.prog) 33 4 (.bool false) 1 Tryz.underlying33 k_ rfl .i64 .i64 k o_ o_ w
theorem zie (k:Nat) (hk:k<=16):∀w:World,(Instr.makeSlice 36 (.int .i64 (k:Int)) (.int .i64 (k:Int))).run Tryz.prog w= .ok (.slice (some ⟨w.heap.size,0,none⟩) k k) (w.alloc (.cells (madeCells #[.int .i64 0] k) 3)):=λw=>
 run_make_row' (P:=Tryz.prog) 36 3 (.int .i64 0) 8 Tryz.underlying36 k_ rfl .i64 .i64 k o_ o_ w
theorem zel {w:World} {g lo k:Nat} {t:TypeId} {z:Value} (h:w.heap[g]? =some (.cells (madeCells #[z] k) t (0,0))) (hl:lo<=g) (hk:k<=16):w.ownsRow lo t 1 (.slice (some ⟨g,0,none⟩) k k) k (List.replicate k z):=by
 refine⟨by simp,.inr ⟨g,k,madeCells #[z] k,rfl,hl,h,Nat.le_refl _,by unfold maxLen;omega,by simp[size_madeCells],?_⟩⟩;rw[toList_madeCells_one];simp
theorem zun (A:Option Addr) (cap:Nat) (ps:List Int) (W:World) (lo hi:Nat) (hp:Ints W lo hi A cap ps) (hh:hi<=W.heap.size):Calls Tryz.prog 82 #[.slice A ps.length cap] W (zzk ps W):=by
 have d7:=@run_makeMap Tryz.prog;have c8:=hp.cap;have c9:=hp.len;have HP:=zaa hp;have hC:=λW' (f:Fr No W W')=>zn1 A ps.length cap (ps.map λn=>Value.int .i64 n) W' lo hi ((zek hp).no f hh) (Nat.le_trans hh f.size) (by have:=hp.len;omega);have HC:=zaa hC;clear hC hp;by_cases c2:16<=ps.length
 .have hd:decide ((16:Int)<=(ps.length:Int))=true:=so_;have HN:=zaa (show ¬zgx ps from λh=>by have:=h.1;omega);clear c2;go_enter Tryz.func82,Tryz.ntmps82;go_wp2;go_ret2;exact .inl ⟨HN.out,rfl,Fr.refl _ _⟩
 have hd:decide ((16:Int)<=(ps.length:Int))=false:=so_;have d6:ps.length<=15:=o_;clear c2;go_enter Tryz.func82,Tryz.ntmps82;go_wp2_with fail;go_loopw [12] (λi wr=>∃j:Nat,j<=ps.length/\i= .int .i64 j/\wr=W/\∀(i:Nat) (p:Int),i<j->ps[i]? =some p->0<=p/\p<=(i:Int)) (λi _=>ps.length - (intOf i).toNat)
 case atStart=>exact⟨0,Nat.zero_le _,rfl,rfl,λi p h=>absurd h (Nat.not_lt_zero _)⟩
 case round=>
  obtain⟨j,hj,rfl,rfl,a5⟩:=hrel;have c1:=zaa a5;clear a5;by_cases hlt:j<ps.length
  .obtain⟨b,o,rfl,d4,d2,a7⟩:=HP.out.at_ (λh=>by rw[h]at hlt;simp at hlt);have x0:=a7 j ps[j] (List.getElem?_eq_getElem hlt);have a4:ps[j]? =some ps[j]:=List.getElem?_eq_getElem hlt;generalize ps[j]=q at*;have d9:b<wr.heap.size:=o_;have HG:=zaa a4;clear a7 a4;by_cases hq:q<0
   .have d0:decide (q<0)=true:=by simpa using hq
    have HN:=zaa (show ¬zgx ps from λh=>by have:=(h.2 j q HG.out).1;omega);clear hq;go_wp2;go_ret2;exact .inl ⟨HN.out,rfl,Fr.refl _ _⟩
   have d0:decide (q<0)=false:=by simpa using hq
   by_cases hr:(j:Int)<q
   .have d1:decide (q > (j:Int))=true:=by simpa using hr
    have HN:=zaa (show ¬zgx ps from λh=>by have:=(h.2 j q HG.out).2;omega);clear hq hr;go_wp2;go_ret2;exact .inl ⟨HN.out,rfl,Fr.refl _ _⟩
   have d1:decide (q > (j:Int))=false:=by simpa using hr
   have HQ:=zaa (And.intro hq hr);clear hq hr;go_wp2;go_roundw
   case rel=>
    refine⟨j+1,hlt,by go_num,trivial,λi p hi hp=>?_⟩;by_cases c7:i=j
    .subst c7;have hh:=HG.out;rw[hh]at hp;injection hp with hp
     subst hp;have:=HQ.out;omega
    .exact c1.out i p o_ hp
   case measure=>simp[intOf];omega
  .obtain rfl:ps.length=j:=o_;have HN:=zaa (show zgx ps from⟨by omega,λi p h=>c1.out i p (List.getElem?_eq_some_iff.1 h).1 h⟩);obtain⟨k,hk⟩:∃k:Nat,ps.length+1=k:=⟨_,rfl⟩;have d5:IntKind.i64.wrap ((ps.length:Int)+1)=(k:Int):=by
    rw[show(ps.length:Int)+1=(k:Int) by omega];exact IntWalk.i64_in _ o_
   have d2:=zlq k o_;have d8:=zie k o_;go_upto_region 10 with(fail);refine zbb (I:=λa0 f a wx=>∃y0 y1 y2 y3 y4 y5 y6 y7 y8 y9 a6 a3 cv g,a=((((((((((((a0.put (some 28) y0).put (some 29) y1).put (some 30) y2).put (some 31) y3).put (some 32) y4).put (some 33) y5).put (some 34) y6).put (some 35) y7).put (some 36) y8).put (some 37) y9).put (some 2) a6).put (some 3) a3)/\NK wr (.slice A ps.length cap) k ps.length (ps.map λn=>Value.int .i64 n) f [y0,y1,y2,y3,y4,y5,y6,y7,y8,y9,a6,a3] cv g wx) k_ k_ ?st ?step ?en
   case st=>exact⟨_,_,_,_,_,_,_,_,_,_,_,_,_,_,by simp only[Act.put,lp_]<;>rfl,NK.begin wr _ _ _ _ _⟩
   case step=>as_aux_lemma=>
    rintro i oo f a wx ho hf hd ⟨y0,y1,y2,y3,y4,y5,y6,y7,y8,y9,a6,a3,cv,g,rfl,J⟩ K' hK;have hi:=(Array.getElem?_eq_some_iff.1 ho).1;simp only[List.size_toArray,List.length_cons,List.length_nil]at hi;have c4:i=0\/i=1\/i=2\/i=3\/i=4\/i=5\/i=6\/i=7\/i=8\/i=9\/i=10\/i=11:=o_;simp only[Act.put,lp_];rcases c4 with rfl|rfl|rfl|rfl|rfl|rfl|rfl|rfl|rfl|rfl|rfl|rfl
    .simp only[List.getElem?_toArray,List.getElem?_cons_zero,Option.some.injEq]at ho;subst ho;have HJ:=zaa J;have a1:=zaa hf;clear J hd hf;go_simp;exact hK.out _ _ ⟨_,_,_,_,_,_,_,_,_,_,_,_,_,_,by simp only[Act.put,lp_]<;>rfl,HJ.out.quiet (i:=0) d_ s_ (nofun) (nofun)⟩
    .simp only[List.getElem?_toArray,List.getElem?_cons_succ,List.getElem?_cons_zero,Option.some.injEq]at ho;subst ho;have b0:=hd ⟨0,.data⟩ s_ r_;obtain rfl:y0= .slice A ps.length cap:=J.x 0 b0;have HJ:=zaa J;have B0:=zaa b0;have a1:=zaa hf;clear J hd hf b0;go_simp;refine(HC.out wx HJ.out.fr).mono ?_;rintro e w' ⟨A',c',rfl,a9,fw⟩;have d3:=zaa (zbc a9 HJ.out.fr.size);have c6:=zaa fw;clear a9 fw;try go_simp
     exact hK.out _ _ ⟨_,_,_,_,_,_,_,_,_,_,_,_,_,_,by simp only[Act.put,lp_]<;>rfl,HJ.out.call a1.out s_ c6.out d3.out⟩
    .simp only[List.getElem?_toArray,List.getElem?_cons_succ,List.getElem?_cons_zero,Option.some.injEq]at ho;subst ho;have HJ:=zaa J;have a1:=zaa hf;clear J hd hf;go_simp;exact hK.out _ _ ⟨_,_,_,_,_,_,_,_,_,_,_,_,_,_,by simp only[Act.put,lp_]<;>rfl,HJ.out.quiet (i:=2) d_ s_ (nofun) (nofun)⟩
    .simp only[List.getElem?_toArray,List.getElem?_cons_succ,List.getElem?_cons_zero,Option.some.injEq]at ho;subst ho;have b2:=hd ⟨2,.data⟩ s_ r_;obtain rfl:y2= .int .i64 (k:Int):=J.x 2 b2;have HJ:=zaa J;have B2:=zaa b2;have a1:=zaa hf;clear J hd hf b2;go_simp;exact hK.out _ _ ⟨_,_,_,_,_,_,_,_,_,_,_,_,_,_,by simp only[Act.put,lp_]<;>rfl,HJ.out.make (i:=3) s_ a1.out s_ (by show(World.alloc _ _).heap[zdm g 3 wx.heap.size 3]? =_;rw[zbo];exact World.alloc_heap_new _ _)⟩
    .simp only[List.getElem?_toArray,List.getElem?_cons_succ,List.getElem?_cons_zero,Option.some.injEq]at ho;subst ho;have HJ:=zaa J;have a1:=zaa hf;clear J hd hf;go_simp;exact hK.out _ _ ⟨_,_,_,_,_,_,_,_,_,_,_,_,_,_,by simp only[Act.put,lp_]<;>rfl,HJ.out.quiet (i:=4) d_ s_ (nofun) (nofun)⟩
    .simp only[List.getElem?_toArray,List.getElem?_cons_succ,List.getElem?_cons_zero,Option.some.injEq]at ho;subst ho;have b4:=hd ⟨4,.data⟩ s_ r_;obtain rfl:y4= .int .i64 (k:Int):=J.x 4 b4;have HJ:=zaa J;have B4:=zaa b4;have a1:=zaa hf;clear J hd hf b4;go_simp;exact hK.out _ _ ⟨_,_,_,_,_,_,_,_,_,_,_,_,_,_,by simp only[Act.put,lp_]<;>rfl,HJ.out.make (i:=5) s_ a1.out s_ (by show(World.alloc _ _).heap[zdm g 5 wx.heap.size 5]? =_;rw[zbo];exact World.alloc_heap_new _ _)⟩
    .simp only[List.getElem?_toArray,List.getElem?_cons_succ,List.getElem?_cons_zero,Option.some.injEq]at ho;subst ho;have HJ:=zaa J;have a1:=zaa hf;clear J hd hf;go_simp;exact hK.out _ _ ⟨_,_,_,_,_,_,_,_,_,_,_,_,_,_,by simp only[Act.put,lp_]<;>rfl,HJ.out.make (i:=6) s_ a1.out s_ (by show(World.alloc _ _).heap[zdm g 6 wx.heap.size 6]? =_;rw[zbo];exact World.alloc_heap_new _ _)⟩
    .simp only[List.getElem?_toArray,List.getElem?_cons_succ,List.getElem?_cons_zero,Option.some.injEq]at ho;subst ho;have HJ:=zaa J;have a1:=zaa hf;clear J hd hf;go_simp;exact hK.out _ _ ⟨_,_,_,_,_,_,_,_,_,_,_,_,_,_,by simp only[Act.put,lp_]<;>rfl,HJ.out.make (i:=7) s_ a1.out s_ (by show(World.alloc _ _).heap[zdm g 7 wx.heap.size 7]? =_;rw[zbo];exact World.alloc_heap_new _ _)⟩
    .simp only[List.getElem?_toArray,List.getElem?_cons_succ,List.getElem?_cons_zero,Option.some.injEq]at ho;subst ho;have b1:=hd ⟨1,.data⟩ s_ r_;obtain rfl:cv=y1:=(J.x 1 b1).symm;have b3:=hd ⟨3,.data⟩ s_ r_;obtain rfl:y3= .slice (some ⟨g 3,0,none⟩) k k:=J.x 3 b3;have b5:=hd ⟨5,.data⟩ s_ r_;obtain rfl:y5= .slice (some ⟨g 5,0,none⟩) k k:=J.x 5 b5;have b6:=hd ⟨6,.data⟩ s_ r_;obtain rfl:y6= .map (some (g 6)):=J.x 6 b6;have b7:=hd ⟨7,.data⟩ s_ r_;obtain rfl:y7= .map (some (g 7)):=J.x 7 b7;obtain⟨A',c',rfl⟩:=za8 (show wx.ownsRow wr.heap.size 23 1 cv ps.length (ps.map λn=>Value.int .i64 n)from J.b 1 b1);have HJ:=zaa J;have B1:=zaa b1;have B3:=zaa b3;have B5:=zaa b5;have B6:=zaa b6;have B7:=zaa b7;have a1:=zaa hf;clear J hd hf b1 b3 b5 b6 b7;go_simp;exact hK.out _ _ ⟨_,_,_,_,_,_,_,_,_,_,_,_,_,_,by simp only[Act.put,lp_]<;>rfl,HJ.out.quiet (i:=8) d_ s_ (λ_=>⟨B1.out,B3.out,B5.out,B6.out,B7.out⟩) (nofun)⟩
    .simp only[List.getElem?_toArray,List.getElem?_cons_succ,List.getElem?_cons_zero,Option.some.injEq]at ho;subst ho;have b8:=hd ⟨8,.data⟩ s_ r_;obtain rfl:y8= .agg #[cv,.slice (some ⟨g 3,0,none⟩) k k,.map (some (g 6)),.map (some (g 7)),.int .i64 0,.slice (some ⟨g 5,0,none⟩) k k]:=J.x 8 b8;have HJ:=zaa J;have B8:=zaa b8;have a1:=zaa hf;clear J hd hf b8;go_simp;exact hK.out _ _ ⟨_,_,_,_,_,_,_,_,_,_,_,_,_,_,by simp only[Act.put,lp_]<;>rfl,HJ.out.box B8.out a1.out s_ (by show(World.alloc _ _).heap[zdm g 9 wx.heap.size 9]? =_;rw[zbo];exact World.alloc_heap_new _ _)⟩
    .simp only[List.getElem?_toArray,List.getElem?_cons_succ,List.getElem?_cons_zero,Option.some.injEq]at ho;subst ho;have b9:=hd ⟨9,.data⟩ s_ r_;obtain rfl:y9= .pointer (some ⟨g 9,0,none⟩):=J.x 9 b9;have HJ:=zaa J;have B9:=zaa b9;have a1:=zaa hf;clear J hd hf b9;go_simp;exact hK.out _ _ ⟨_,_,_,_,_,_,_,_,_,_,_,_,_,_,by simp only[Act.put,lp_]<;>rfl,HJ.out.quiet (i:=10) d_ s_ (nofun) (λ_=>B9.out)⟩
    .simp only[List.getElem?_toArray,List.getElem?_cons_succ,List.getElem?_cons_zero,Option.some.injEq]at ho;subst ho;have HJ:=zaa J;have a1:=zaa hf;clear J hd hf;go_simp;exact hK.out _ _ ⟨_,_,_,_,_,_,_,_,_,_,_,_,_,_,by simp only[Act.put,lp_]<;>rfl,HJ.out.quiet (i:=11) d_ s_ (nofun) (nofun)⟩
   case en=>
    rintro f a wx a2 ⟨y0,y1,y2,y3,y4,y5,y6,y7,y8,y9,a6,a3,cv,g,rfl,J⟩;simp only[Act.put,lp_];have ha:∀j,j<12->f j=true:=λj hj=>a2 j (by simpa using hj);obtain rfl:a6= .pointer (some ⟨g 9,0,none⟩):=J.x 10 (ha 10 o_);obtain rfl:a3= .int .i64 0:=J.x 11 (ha 11 o_);have n1:wx.ownsRow wr.heap.size 23 1 cv ps.length (ps.map λn=>Value.int .i64 n):=J.b 1 (ha 1 o_);have n3:wx.heap[g 3]? =some (.cells (madeCells #[.bool false] k) 4 (0,0)):=J.b 3 (ha 3 o_);have n5:wx.heap[g 5]? =some (.cells (madeCells #[.int .i64 0] k) 3 (0,0)):=J.b 5 (ha 5 o_);have n6:wx.heap[g 6]? =_:=J.b 6 (ha 6 o_);have n7:wx.heap[g 7]? =_:=J.b 7 (ha 7 o_);have n9:wx.heap[g 9]? =_:=J.b 9 (ha 9 o_);have c0:=J.ne (ha 6 o_) (ha 7 o_);have l3:=J.lo 3 (ha 3 o_) s_;have l5:=J.lo 5 (ha 5 o_) s_;have l6:=J.lo 6 (ha 6 o_) s_;have l7:=J.lo 7 (ha 7 o_) s_;have l9:=J.lo 9 (ha 9 o_) s_;have a8:=J.fr;obtain⟨A',c',rfl⟩:=za8 n1;have a5:(⟨g 9,g 6,g 7,A',c',ps,some ⟨g 3,0,none⟩,k,List.replicate k false,some ⟨g 5,0,none⟩,k,List.replicate k 0,0,[],[]⟩:Gm).Ok wr.heap.size wx:=by
     refine⟨?_,⟨#[],0,n6,⟨rfl,by simp⟩,by simp,by simp⟩,⟨#[],0,n7,⟨rfl,by simp⟩,by simp,by simp⟩,n1,?_,?_,by simp,by simp,⟨l9.1,l6.1,l7.1,by simp⟩,c0,by simp,by simp,by simp,by simp,by simp,by simp;omega⟩
     .show wx.heap[g 9]? =_;rw[n9];simp[Gm.cells]
     .have:=zel n3 l3.1 o_;simpa using this
     .have:=zel n5 l5.1 o_;simpa using this
    have c5:=zaa a5;have c3:=zaa a8;clear J a2 ha n1 n3 n5 n6 n7 n9 c0 l3 l5 l6 l7 l9 a5 a8;go_wp2_with fail;go_ret2;exact .inr ⟨HN.out,_,rfl,c5.out,⟨rfl,rfl,rfl,by rw[hk],by rw[hk],rfl⟩,c3.out⟩
structure EnRow (w:World) (lo hi:Nat) (A:Option Addr) (cap:Nat) (l:List (Int×Tg)):Prop where
 cap1:l.length<=cap
 len:l.length*200<=140737488351232
 at_:l≠[]->∃b o,A=some ⟨b,o,none⟩/\lo<=b/\b<hi/\∀i x,l[i]? =some x->∀j u,(Value.int .i64 x.1::x.2.cells)[j]? =some u->w.cell? ⟨b,o+i*17+j,none⟩=some u
 inn:∀x∈l,(-9223372036854775808<=x.1/\x.1<=9223372036854775807)/\x.2.In w lo hi
theorem EnRow.no {w w':World} {lo hi:Nat} {A:Option Addr} {cap:Nat} {l:List (Int×Tg)} (h:EnRow w lo hi A cap l) (f:Fr No w w') (hh:hi<=w.heap.size):EnRow w' lo hi A cap l:=by
 refine⟨h.cap1,h.len,λhl=>?_,λx hx=>⟨(h.inn x hx).1,(h.inn x hx).2.no f hh⟩⟩;obtain⟨b,o,rfl,h0,h1,hc⟩:=h.at_ hl;exact⟨b,o,rfl,h0,h1,λi x hx j u hu=>(f.cell o_ λh=>h).trans (hc i x hx j u hu)⟩
def zby (l:List (Int×Tg)) (s:Nat):Int:=((l.filter λx=>x.2.kind !=14&&x.2.home==(s:Int)).length:Int)
def zbk (l:List (Int×Tg)):Nat->Int
 |0=>0
 |i+1=>(l[i]?.map Prod.fst).getD 0
def zoj (sides:Nat) (ths:List (Int×Tg)) (last:Int) (i:Nat):Prop:=∀x,ths[i]? =some x->x.2.Form sides/\x.1<=last/\zbk ths i<x.1
def zm2 (sides:Nat) (cuts:List Int) (i:Nat):Prop:=∀c,cuts[i]? =some c->(0<c/\c<(sides:Int))/\∀c',0<i->cuts[i - 1]? =some c'->c'<c
def GoodM (ths:List (Int×Tg)) (made:List Int) (s:Nat):Prop:=∀n,made[s]? =some n->zby ths s<=n/\n<=512
structure FromOk (ps cuts:List Int) (ths:List (Int×Tg)) (last:Int) (made:List Int):Prop where
 new:zgx ps
 sides:made.length=ps.length+1
 cut:∀i,zm2 made.length cuts i
 thing:∀i,zoj made.length ths last i
 mades:∀s,GoodM ths made s
 lasts:0<=last/\last<=64*made.sum
 snd:(Gm.ofT ths).Snd
 spare:last+(Gm.ofT ths).spare<=64*made.sum
def zc6 (k:Nat) (cuts:List Int):List Bool:=cuts.foldl (λl c=>l.set c.toNat true) (List.replicate k false)
theorem zhw {k j:Nat} {cuts:List Int} {c:Int} (h:cuts[j]? =some c):zc6 k (cuts.take (j+1))=(zc6 k (cuts.take j)).set c.toNat true:=by
 unfold zc6;rw[List.take_add_one,h];simp
def zuy (ps cuts:List Int) (ths:List (Int×Tg)) (last:Int) (made:List Int) (W:World) (e:Ending) (w':World):Prop:=
 (¬FromOk ps cuts ths last made/\e= .returned (.tuple #[.pointer none,.int .i64 71])/\Fr No W w')\/
 (FromOk ps cuts ths last made/\∃m:Gm,e= .returned (.tuple #[.pointer (some ⟨m.wb,0,none⟩),.int .i64 0])/\m.Ok W.heap.size w'/\
  (m.pl=(Gm.ofT ths).pl/\FacI m (λi=>∃x,m.th[i]? =some x) m.fac/\m.par=ps/\m.cut=zc6 made.length cuts/\m.made=made/\m.last=last)/\Fr No W w')
section
variable {m:Gm} {lo:Nat} {W:World}
theorem zuz (h:m.Ok lo W) {r la:Int} {g:Nat} {x:Tg} {W2:World} (f:Fr (λi=>i=m.wb\/i=m.M) W W2) (hg:∀y∈m.th,y.2.1≠g) (hlo:lo<=g) (hr:∀y∈m.th,y.1≠r) (hx:Blk W2 g 138 x.cells.toArray) (hv:x.St W2 lo) (hlen:m.th.length<1000000)
 (hb:Blk W2 m.wb 38 ({m with last:=la,th:=m.th++[(r,g,x)]}:Gm).cells) {es:Array MapEntry} {cl:Nat} (hm0:W.heap[m.M]? =some (.map es cl)) (hm:W2.heap[m.M]? =some (.map (es.push {key:=.int .i64 r,val:=.pointer (some ⟨g,0,none⟩),born:=cl}) (cl+1))):
 ({m with last:=la,th:=m.th++[(r,g,x)]}:Gm).Ok lo W2:=by
 obtain⟨a4,a3,a0,he,a1⟩:=h.things;rw[hm0]at a0;injection a0 with a0
 injection a0 with e1 e2
 subst e1 e2;obtain⟨ef,cf,hf,a2⟩:=h.facets;have ho:=h.others;have hs:∀i,((Value.slice m.P m.par.length m.pc).ownBlock=some i\/(Value.slice m.C m.cut.length m.cc).ownBlock=some i\/(Value.slice m.D m.made.length m.dc).ownBlock=some i\/∃x∈m.th,i=x.2.1\/x.2.2.Has i)->¬(i=m.wb\/i=m.M):=λi hi hh=>hh.elim (ho i hi).1 (ho i hi).2.1;refine⟨hb,⟨_,_,hm,⟨by simp[he.1],λi e y hei hyi=>?_⟩,zll a1⟩,⟨ef,cf,(f.block _ (zah hf) λhh=>?_).trans hf,a2⟩,zaf h.par f λq hq=>hs q (.inl hq),zaf h.cut f λq hq=>hs q (.inr (.inl hq)),zaf h.made f λq hq=>hs q (.inr (.inr (.inl hq))),
  λy hy=>?_,λy hy=>?_,⟨h.lo0.1,h.lo0.2.1,h.lo0.2.2.1,λy hy=>?_⟩,h.mf,?_,?_,by simp;omega,h.fkeys,h.flen,h.sides⟩
 .simp only[Array.toList_push]at hei;rcases Nat.lt_trichotomy i m.th.length with hi|rfl|hi
  .rw[List.getElem?_append_left (by rw[he.1];exact hi)]at hei;simp only[List.getElem?_append_left hi]at hyi;exact he.2 i e y hei hyi
  .rw[<-he.1,List.getElem?_append_right (Nat.le_refl _),Nat.sub_self]at hei;simp at hei hyi;subst hei hyi;exact⟨rfl,rfl⟩
  .simp only at hyi;rw[List.getElem?_eq_none so_]at hyi;cases hyi
 .rcases hh with hh|hh
  .exact h.wbs.2 hh.symm
  .exact h.mf hh.symm
 .rcases List.mem_append.1 hy with hy|hy
  .exact(h.box y hy).fr f (hs _ (.inr (.inr (.inr ⟨y,hy,.inl rfl⟩))))
  .simp only[List.mem_singleton]at hy;subst hy;exact hx
 .rcases List.mem_append.1 hy with hy|hy
  .exact(h.st y hy).fr f λb hb=>hs b (.inr (.inr (.inr ⟨y,hy,.inr hb⟩)))
  .simp only[List.mem_singleton]at hy;subst hy;exact hv
 .rcases List.mem_append.1 hy with hy|hy
  .exact h.lo0.2.2.2 y hy
  .simp only[List.mem_singleton]at hy;subst hy;show lo<=g;omega
 .rw[List.map_append];refine List.nodup_append.2 ⟨h.keys,by simp,λa ha b' hb'=>?_⟩;simp only[List.map_cons,List.map_nil,List.mem_singleton]at hb';subst hb';obtain⟨y,hy,rfl⟩:=List.mem_map.1 ha;exact hr y hy
 .refine List.pairwise_append.2 ⟨h.dist,by simp,λa ha b' hb'=>?_⟩;simp only[List.mem_singleton]at hb';subst hb';exact hg a ha
theorem zu0 (h:m.Ok lo W) {la:Int} {D:Option Addr} {dc:Nat} {made:List Int} {W2:World} (f:Fr (λi=>i=m.wb) W W2) (hm:W2.ownsRow lo 3 1 (.slice D made.length dc) made.length (made.map λ(n:Int)=>Value.int .i64 n)) (hl:made.length=m.made.length)
 (hb:Blk W2 m.wb 38 ({m with last:=la,D:=D,dc:=dc,made:=made}:Gm).cells):({m with last:=la,D:=D,dc:=dc,made:=made}:Gm).Ok lo W2:=by
 obtain⟨es,cl,a0,he⟩:=h.things;obtain⟨ef,cf,hf,a1⟩:=h.facets;have ho:=h.others;refine⟨hb,⟨es,cl,(f.block _ (zah a0) λe=>h.wbs.1 e.symm).trans a0,he⟩,⟨ef,cf,(f.block _ (zah hf) λe=>h.wbs.2 e.symm).trans hf,a1⟩,zaf h.par f λq hq=>(ho q (.inl hq)).1,zaf h.cut f λq hq=>(ho q (.inr (.inl hq))).1,hm,
  λy hy=>(h.box y hy).fr f (ho _ (.inr (.inr (.inr ⟨y,hy,.inl rfl⟩)))).1,λy hy=>(h.st y hy).fr f λb hb=>(ho _ (.inr (.inr (.inr ⟨y,hy,.inr hb⟩)))).1,h.lo0,h.mf,h.keys,h.dist,h.len,h.fkeys,h.flen,?_⟩
 have:=h.sides;simp only;rw[hl];exact this
end
theorem zm3 (s:Nat):zby [] s=0:=rfl
theorem zhx {ths:List (Int×Tg)} {j:Nat} {x:Int×Tg} (h:ths[j]? =some x) (s:Nat):zby (ths.take (j+1)) s=zby (ths.take j) s+if x.2.kind≠14/\x.2.home=(s:Int)then 1 else 0:=by
 unfold zby;rw[List.take_add_one,h];simp only[Option.toList_some,List.filter_append,List.length_append];by_cases hk:x.2.kind≠14/\x.2.home=(s:Int)
 .rw[if_pos hk,List.filter_cons_of_pos (by simp[hk.1,hk.2])];simp
 .rw[if_neg hk,List.filter_cons_of_neg (by simp only[Bool.and_eq_true,bne_iff_ne,ne_eq,beq_iff_eq];exact hk)];simp
theorem zcu (l:List (Int×Tg)) (s:Nat):0<=zby l s/\zby l s<=l.length:=by
 unfold zby;have:=List.length_filter_le (λx:Int×Tg=>x.2.kind !=14&&x.2.home==(s:Int)) l;omega
def za2 (k:Nat) (l:List (Int×Tg)):List Value:=(List.range k).map λs=>Value.int .i64 (zby l s)
theorem zf0 (k:Nat):za2 k []=List.replicate k (.int .i64 0):=by
 unfold za2;apply List.ext_getElem
 .simp
 .intro i h1 h2;simp[zm3]
theorem zer {k j:Nat} {ths:List (Int×Tg)} {x:Int×Tg} (h:ths[j]? =some x) (hk:x.2.kind=14):za2 k (ths.take (j+1))=za2 k (ths.take j):=by
 unfold za2;refine List.map_congr_left λs _=>?_;rw[zhx h s,if_neg (by simp[hk])];simp
theorem zes {k j s:Nat} {ths:List (Int×Tg)} {x:Int×Tg} (h:ths[j]? =some x) (hk:x.2.kind≠14) (hs:x.2.home=(s:Int)):za2 k (ths.take (j+1))=(za2 k (ths.take j)).set s (.int .i64 (zby (ths.take j) s+1)):=by
 unfold za2;apply List.ext_getElem
 .simp
 .intro i h1 h2;simp only[List.getElem_map,List.getElem_range,List.getElem_set];rw[zhx h i];by_cases hi:s=i
  .subst hi;rw[if_pos rfl,if_pos ⟨hk,hs⟩]
  .rw[if_neg hi,if_neg (by rintro⟨-,e⟩;rw[hs]at e;omega)];simp
structure ThI (m0:Gm) (ths:List (Int×Tg)) (last:Int) (k:Nat) (W:World) (g j:Nat) (m:Gm) (wr:World):Prop where
 ok:m.Ok W.heap.size wr
 fr:Fr No W wr
 same:m.wb=m0.wb/\m.M=m0.M/\m.par=m0.par/\m.cut=m0.cut/\m.made=m0.made/\m.fac=[]/\m.last=0
 pl:m.pl=(Gm.ofT (ths.take j)).pl
 row:Blk wr g 3 (za2 k (ths.take j)).toArray
 gB:¬m.B g
 g0:W.heap.size<=g
 good:∀i,i<j->zoj k ths last i
 key:∀x∈m.th,x.1<=zbk ths j
theorem zhy (ths:List (Int×Tg)):(Gm.ofT ths).pl=ths.map λx=>(x.1,x.2.pl):=by
 unfold Gm.pl Gm.ofT plE;rw[List.map_map];rfl
theorem zu1 {m:Gm} {ths:List (Int×Tg)} {j g:Nat} {x:Int×Tg} {y:Tg} (h:m.pl=(Gm.ofT (ths.take j)).pl) (hx:ths[j]? =some x) (hy:y.pl=x.2.pl):({m with th:=m.th++[(x.1,g,y)]}:Gm).pl=(Gm.ofT (ths.take (j+1))).pl:=by
 rw[zhy]at h ⊢;unfold Gm.pl at h ⊢;rw[List.take_add_one,hx];simp only[List.map_append,Option.toList_some,List.map_cons,List.map_nil,h];congr 1
 simp[plE,hy]
theorem ztk {m:Gm} {ths:List (Int×Tg)} (h:m.pl=(Gm.ofT ths).pl):m.th.length=ths.length:=by
 rw[zhy]at h;have:=congrArg List.length h;simpa[Gm.pl]using this
def zc9 (x:Int×Tg):List Value:=.int .i64 x.1::x.2.cells
theorem Tg.cells_len (x:Tg):x.cells.length=16:=by
 obtain⟨kind,home,⟨k,n,s,A,cap,l,r⟩,VA,vc,vs,n1,lost,ofr,byr,set,full,CA,cc,a1,NA,nc,a0⟩:=x;rfl
theorem Tg.cells_one (x:Tg):∀u∈x.cells,u.oneCell'=true:=by
 obtain⟨kind,home,⟨k,n,s,A,cap,l,r⟩,VA,vc,vs,n1,lost,ofr,byr,set,full,CA,cc,a1,NA,nc,a0⟩:=x;intro u hu;simp only[Tg.cells,T.cells,List.cons_append,List.nil_append,List.mem_cons,List.not_mem_nil,or_false]at hu;rcases hu with rfl|rfl|rfl|rfl|rfl|rfl|rfl|rfl|rfl|rfl|rfl|rfl|rfl|rfl|rfl|rfl<;>rfl
theorem zdg (x:Int×Tg):(zc9 x).length=17:=by simp[zc9,Tg.cells_len]
def zcw (l:List (Int×Tg)):List Value:=l.flatMap zc9
theorem zir (l k:List (Int×Tg)):zcw (l++k)=zcw l++zcw k:=by simp[zcw]
theorem zp2 {l:List (Int×Tg)} {i j:Nat} {x:Int×Tg} {u:Value} (hx:l[i]? =some x) (hu:(zc9 x)[j]? =some u):(zcw l)[i*17+j]? =some u:=by
 induction l generalizing i with
 |nil=>simp at hx
 |cons y l ih=>
  have hj:j<17:=by
   have:=(List.getElem?_eq_some_iff.1 hu).1;rwa [zdg]at this
  show(zc9 y++zcw l)[i*17+j]? =some u;cases i with
  |zero=>
   simp at hx;subst hx;rw[Nat.zero_mul,Nat.zero_add,List.getElem?_append_left (by rw[zdg];exact hj)];exact hu
  |succ i=>
   simp at hx;rw[List.getElem?_append_right (by rw[zdg];omega),zdg];have:=ih hx;rwa [show(i+1)*17+j - 17=i*17+j by omega]
end Go.Proofs.YtlejelbefmkakaaGreat
namespace Go.Proofs.YtlejelbefmkakaaGreat
open Go.RowKit Go.Sort
def SortRefs:Prop:=∀(blk cap:Nat) (zs:List Int) (w:World),Holds (Value.int .i64) w blk 0 zs.toArray->blk<w.heap.size->zs.length<4611686018427387904->
 Calls Tryz.prog 96 #[.slice (some ⟨blk,0,none⟩) zs.length cap] w λe w'=>e= .returned (.tuple #[])/\∃n os,w'=grow (putRow (Value.int .i64) (Sort.ahead w n) blk 0 (zs.mergeSort λx y=>decide (x<=y)).toArray) os
def Gm.refs (m:Gm):List Int:=(m.th.map Prod.fst).mergeSort λx y=>decide (x<=y)
structure RfI (m:Gm) (W:World) (cl rI:Nat) (es:Array MapEntry) (v:List Nat) (sl:Value) (L:List Int) (wr:World):Prop where
 ri:RI m.M cl rI es v wr
 fr:Fr No W wr
 r0:W.heap.size<=rI
 row:wr.ownsRow W.heap.size 22 1 sl L.length (zak L)
 nn:∃g c,sl= .slice (some ⟨g,0,none⟩) L.length c
 nod:L.Nodup
 mem:∀k:Int,k∈L↔∃(i:Nat) (x:Int×Nat×Tg),m.th[i]? =some x/\zlr es v i/\x.1=k
theorem zv0 {L K:List Int} (h:L.Perm K):(L.mergeSort λx y=>decide (x<=y))=K.mergeSort λx y=>decide (x<=y):=by
 have s1:∀M:List Int,(M.mergeSort λx y=>decide (x<=y)).Pairwise (λa b=>decide (a<=b)=true):=λM=>List.pairwise_mergeSort (λa b c h1 h2=>by simp at*;omega) (λa b=>by simp;omega) M;refine List.Perm.eq_of_pairwise (λa b _ _ h1 h2=>by simp at h1 h2;omega) (s1 L) (s1 K) (((List.mergeSort_perm L _).trans h).trans (List.mergeSort_perm K _).symm)
def zyq (m:Gm) (W:World) (e:Ending) (w':World):Prop:=∃v,e= .returned v/\w'.ownsRow W.heap.size 22 1 v m.refs.length (zak m.refs)/\Fr No W w'
theorem znh {w:World} {base g cap n:Nat} {os:Array Obj} {L K:List Int} (h:w.ownsRow base 22 1 (.slice (some ⟨g,0,none⟩) L.length cap) L.length (zak L)) (hp:L.Perm K):
 (grow (putRow (Value.int .i64) (Sort.ahead w n) g 0 (L.mergeSort λx y=>decide (x<=y)).toArray) os).ownsRow base 22 1 (.slice (some ⟨g,0,none⟩) L.length cap) (K.mergeSort λx y=>decide (x<=y)).length (zak (K.mergeSort λx y=>decide (x<=y))):=by
 have hS:(L.mergeSort λx y=>decide (x<=y))=K.mergeSort λx y=>decide (x<=y):=zv0 hp;have hl:(K.mergeSort λx y=>decide (x<=y)).length=L.length:=by rw[<-hS];simp
 rw[hS];generalize (K.mergeSort λx y=>decide (x<=y))=S at*;rcases h.2 with⟨h1,_⟩|⟨g',a0,a2,h1,hb,hg,hc,hm,a1,hx⟩
 .cases h1
 .cases h1;have:=ownsRow_sortedI (n:=n) (os:=os) (ts:=S) hl hb hg hc hm a1;rw[hl];exact this
theorem zj1 {w:World} {base g cap:Nat} {L:List Int} (h:w.ownsRow base 22 1 (.slice (some ⟨g,0,none⟩) L.length cap) L.length (zak L)):Holds (Value.int .i64) w g 0 L.toArray/\g<w.heap.size:=by
 rcases h.2 with⟨h1,_⟩|⟨g',a0,a2,h1,hb,hg,hc,hm,a1,hx⟩
 .cases h1
 .cases h1;exact⟨holds_of_blockI hg (by simpa[zak]using hx),zah hg⟩
end Go.Proofs.YtlejelbefmkakaaGreat
namespace Go.Proofs.YtlejelbefmkakaaGreat
open Go.RowKit
theorem zf1:∀l:List V,l.length<=(l.map V.size).sum
 |[]=>by simp
 |v::l=>by
  have:=zf1 l;have:=v.size_pos;simp only[List.length_cons,List.map_cons,List.sum_cons];omega
theorem zu2 {k n:Int} {s:ByteArray} {l:List V} {r:Int} (h:(V.mk k n s l r).may=true):l.length<=512:=by
 simp only[V.may,V.fits,Bool.and_eq_true,decide_eq_true_eq]at h;have h1:=h.1.2;rw[V.size_mk]at h1;have:=zf1 l;omega
theorem Tg.Form.vsmay {k:Nat} {x:Tg} (h:x.Form k):(∀t∈x.vs,t.v.may=true)/\x.vs.length<=512/\x.names.length<=64:=by
 have h4:=h.2.2.2.1;unfold Tg.Bad4 at h4;have h1:(ofV (x.vs.map T.v)).2=0:=Classical.byContradiction λhh=>h4 (.inl hh);unfold ofV at h1;split at h1
 .rename_i ha;refine⟨λt ht=>?_,?_,?_⟩
  .have:=List.all_eq_true.1 ha _ (List.mem_map_of_mem ht);exact this
  .split at h1
   .rename_i hm;have hs:=zu2 hm;simpa using hs
   .simp at h1
  .have:¬64<x.names.length:=λhh=>h4 (.inr hh);omega
 .simp at h1
theorem Tg.Form.home {k:Nat} {x:Tg} (h:x.Form k) (hk:x.kind≠14):∃s:Nat,s<k/\x.home=(s:Int):=by
 have h3:=h.2.2.1;unfold Tg.Bad3 at h3;have:0<=x.home/\x.home<(k:Int):=Classical.byContradiction λhh=>h3 (.inl ⟨hk,hh⟩);exact⟨x.home.toNat,by omega,by omega⟩
section
variable {m1 m:Gm} {ths:List (Int×Tg)} {last:Int} {k g j:Nat} {W0 wr W4:World}
theorem zx7 {m:Gm} {r:Int} {yb:Nat} {y:Tg} {i:Nat} (h:({m with th:=m.th++[(r,yb,y)]}:Gm).B i):m.B i\/i=yb\/y.Has i:=by
 rcases h with h|h|h|h|h|h|⟨x,hx,h⟩
 .exact .inl (.inl h)
 .exact .inl (.inr (.inl h))
 .exact .inl (.inr (.inr (.inl h)))
 .exact .inl (.inr (.inr (.inr (.inl h))))
 .exact .inl (.inr (.inr (.inr (.inr (.inl h)))))
 .exact .inl (.inr (.inr (.inr (.inr (.inr (.inl h))))))
 .rcases List.mem_append.1 hx with hx|hx
  .exact .inl (.inr (.inr (.inr (.inr (.inr (.inr ⟨x,hx,h⟩))))))
  .simp only[List.mem_singleton]at hx;subst hx;exact .inr h
theorem ThI.put (inv:ThI m1 ths last k W0 g j m wr) (hl:ths.length<=1000000) {r:Int} {x y:Tg} {yb:Nat} (hx:ths[j]? =some (r,x)) (hgood:x.Form k/\r<=last/\zbk ths j<r) (f4:Fr No wr W4) (hyb:wr.heap.size<=yb) (hy:Blk W4 yb 138 y.cells.toArray) (hst:y.St W4 wr.heap.size) (hpl:y.pl=x.pl)
 {es:Array MapEntry} {cl:Nat} (hm4:W4.heap[m.M]? =some (.map es cl)) {W5:World} (h5:W5=W4.drew.putObj m.M (.map (es.push {key:=.int .i64 r,val:=.pointer (some ⟨yb,0,none⟩),born:=cl}) (cl+1))):
 ({m with th:=m.th++[(r,yb,y)]}:Gm).Ok W0.heap.size W5/\Fr No W0 W5/\Blk W5 g 3 (za2 k (ths.take j)).toArray/\Blk W5 yb 138 y.cells.toArray/\
 (x.kind=14->ThI m1 ths last k W0 g (j+1) {m with th:=m.th++[(r,yb,y)]} W5)/\
 ∀s:Nat,x.kind≠14->x.home=(s:Int)->s<k->ThI m1 ths last k W0 g (j+1) {m with th:=m.th++[(r,yb,y)]} (W5.setCell ⟨g,s,none⟩ (.int .i64 (zby (ths.take j) s+1))):=by
 have hM:=zah hm4;have f5:Fr (λi=>i=m.M) W4 W5:=by
  rw[h5];exact((Fr.refl _ W4).drew).trans (zhp _ _ _)
 have b4:W5.heap[m.M]? =some (.map (es.push {key:=.int .i64 r,val:=.pointer (some ⟨yb,0,none⟩),born:=cl}) (cl+1)):=by
  rw[h5];have b8:m.M<W4.drew.heap.size:=hM;show(W4.drew.heap.setIfInBounds m.M _)[m.M]? =_;rw[Array.getElem?_setIfInBounds,if_pos rfl,if_pos b8]
 have c1:m.M<wr.heap.size:=(inv.ok.lt m.M (.inr (.inl rfl))).2;have b7:g<wr.heap.size:=inv.row.lt;have b6:=inv.fr.size;have a5:yb≠m.M:=o_;have c0:g≠m.M:=λe=>inv.gB (e▸ .inr (.inl rfl));have a1:=inv.ok.no f4;have a4:∀b,y.Has b->wr.heap.size<=b:=λb hb=>(hst.inn.has hb).1;have b1:Blk W5 yb 138 y.cells.toArray:=hy.fr f5 a5;have b0:y.St W5 W0.heap.size:=(hst.fr f5 λb hb e=>by have:=a4 b hb;have e':b=m.M:=e;omega).more b6;have a7:∀z∈m.th,z.1≠r:=λz hz e=>by have:=inv.key z hz;omega
 have hlt:j<ths.length:=(List.getElem?_eq_some_iff.1 hx).1;have a8:m.th.length<1000000:=by
  rw[ztk inv.pl,List.length_take];omega
 have a2:({m with th:=m.th++[(r,yb,y)]}:Gm).Ok W0.heap.size W5:=zuz (la:=m.last) (r:=r) (x:=y) a1 (f5.mono λi _ h=>.inr h) (λz hz=>by have:=(inv.ok.box z hz).lt;omega) o_ a7 b1 b0 a8 (a1.blk.fr f5 a1.wbs.1) hm4 b4;have a0:=(inv.row.fr f4 λh=>h).fr f5 c0;have a9:Fr No W0 W5:=(inv.fr.trans f4).trans' f5 λi hi e=>by
  have e':i=m.M:=e;have:=(inv.ok.lt m.M (.inr (.inl rfl))).1;omega
 have a6:¬({m with th:=m.th++[(r,yb,y)]}:Gm).B g:=λh=>by
  rcases zx7 h with h|h|h
  .exact inv.gB h
  .omega
  .have:=a4 g h;omega
 have b3:∀i,i<j+1->zoj k ths last i:=λi hi=>by
  by_cases b9:i=j
  .subst b9;intro z hz;rw[hx]at hz;injection hz with hz
   subst hz;exact hgood
  .exact inv.good i o_
 have b5:zbk ths (j+1)=r:=by simp[zbk,hx]
 have b2:∀z∈m.th++[(r,yb,y)],z.1<=zbk ths (j+1):=λz hz=>by
  rw[b5];rcases List.mem_append.1 hz with hz|hz
  .have:=inv.key z hz;omega
  .simp only[List.mem_singleton]at hz;subst hz;exact Int.le_refl _
 have a3:=zu1 (g:=yb) inv.pl hx hpl;refine⟨a2,a9,a0,b1,λhk=>⟨a2,a9,inv.same,a3,by rw[zer hx hk];exact a0,a6,inv.g0,b3,b2⟩,λs hk hs hsk=>?_⟩;have f6:Fr (λi=>i=g) W5 (W5.setCell ⟨g,s,none⟩ (.int .i64 (zby (ths.take j) s+1))):=(Fr.refl (λi=>i=g) W5).set (λ_=>rfl) _;refine⟨a2.fr f6 λi hi e=>a6 (e▸hi),a9.trans' f6 λi hi e=>by
  have e':i=g:=e;have:=inv.g0;omega,inv.same,a3,?_,a6,inv.g0,b3,b2⟩
 have:=a0.set_ s (.int .i64 (zby (ths.take j) s+1));rw[zes hx hk hs];simpa using this
end
theorem zlu {ths:List (Int×Tg)} {made:List Int} {j k:Nat} (h:∀i,i<j->GoodM ths made i) (hk:made.length<=k):0<=(made.take j).sum/\(made.take j).sum<=512*(k:Int):=by
 have h1:∀j,(∀i,i<j->GoodM ths made i)->0<=(made.take j).sum/\(made.take j).sum<=512*((made.take j).length:Int):=by
  intro j;induction j with
  |zero=>simp
  |succ j ih=>
   intro h;have hj:=ih λi hi=>h i o_;rw[List.take_add_one];cases hg:made[j]? with
   |none=>simpa using hj
   |some n=>
    have hn:=h j o_ n hg;have:=(zcu ths j).1;simp only[Option.toList_some,List.sum_append,List.sum_cons,List.sum_nil,List.length_append,List.length_cons,List.length_nil];omega
 have h2:=h1 j h;have h3:(made.take j).length<=k:=by rw[List.length_take];omega
 omega
theorem Gm.spare_bound (m:Gm): -64*(m.th.length:Int)<=m.spare/\m.spare<=64*(m.th.length:Int):=by
 unfold Gm.spare;generalize m.th=l;induction l with
 |nil=>simp
 |cons x l ih=>
  have:=m.spN_bound x;simp only[List.map_cons,List.sum_cons,List.length_cons];omega
def Gm.nar (m:Gm) (g:Nat) (t:Int) (s a:Nat):Int×Gm:=
 if s=a then(t,m)else match m.fget t s with
  |some q=>(q,m)
  |none=>(m.last+1,m.addF g t s)
structure Gm.Room (m:Gm):Prop where
 last:0<=m.last/\m.last<10000000
 num:∀y∈m.th,y.1<=m.last
 th:m.th.length<1000000
 fac:m.fac.length<1000000
def zzf (m:Gm) (lo:Nat):Prop:=∀(r:Int) (x:Nat×Tg) (W:World),m.get r=some x->m.Ok lo W->Calls Tryz.prog 89 #[.pointer (some ⟨m.wb,0,none⟩),.int .i64 r] W λe w'=>
 ∃y:Tg,y.kind=x.2.kind/\y.ofr=x.2.ofr/\y.byr=x.2.byr/\y.set=x.2.set/\y.full=x.2.full/\y.home=x.2.home/\e= .returned (.tuple #[y.val,.int .i64 0])/\Fr No W w'
section
variable {m:Gm} {lo:Nat} {W:World}
def Gm.isE (m:Gm) (r:Int):Int:=if(m.get r).isSome then 0 else 5
def zzt (W:World) (A:Option Addr) (S:List Nat):Prop:=∀j (hj:j<S.length),∃g o,A=some ⟨g,o,none⟩/\g<W.heap.size/\W.cell? ⟨g,o+j,none⟩=some (.int .u8 (S[j]:Int))
def Gm.askV (m:Gm) (S:List Nat) (r:Int):Int:=if S.all (λx=>decide (x<64))then m.isE r else 2
end
end Go.Proofs.YtlejelbefmkakaaGreat

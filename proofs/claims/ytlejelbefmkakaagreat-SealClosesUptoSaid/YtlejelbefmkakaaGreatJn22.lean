/- Texts joined: Gn. -/
import Derived.Test.YtlejelbefmkakaaGreatJn1
import Derived.Test.YtlejelbefmkakaaGreatJn11
import Derived.Test.YtlejelbefmkakaaGreatJn21
import Derived.Deep.Cut
set_option maxHeartbeats 16000000
set_option maxRecDepth 100000
namespace Go.Proofs.YtlejelbefmkakaaGreat
open Go.RowKit
theorem zic {k n:Int} {s:ByteArray} {A:Option Addr} {l:List G} {z:Nat} (h:FitE k n s l.length z) (t:∀x∈l,Ty 308 x):Ty 308 (.mk [.int .u8 k,.int .i64 n,.string s,.slice A l.length z] [(A,l)]):=by
 refine .mk _ _ _ ?_ λi e A' l' x he hs hx=>?_
 .rw[za0];exact⟨⟨k,rfl,zce h.k0 h.k1⟩,⟨n,rfl,zcs h.n0 h.n1⟩,⟨s,rfl,h.s1⟩,⟨z,rfl,h.cap1,h.len1⟩,rfl,rfl⟩
 .rw[za0]at he;cases i with
  |zero=>simp[sls]at he hs;obtain⟨rfl,rfl⟩:=hs;subst he;exact t x hx
  |succ i=>simp at hs
theorem zoc {op:Int} {nm sc:ByteArray} {ab wh k1 n1:Int} {s1:ByteArray} {A1:Option Addr} {l1:List G} {z1:Nat} {k2 n2:Int} {s2:ByteArray} {A2:Option Addr} {l2:List G} {z2:Nat} {A3:Option Addr} {l3:List G} {z3:Nat} {A4:Option Addr} {l4:List G} {z4:Nat} {A5:Option Addr} {l5:List G} {z5:Nat} {A6:Option Addr} {l6:List G} {z6:Nat}
 (h1:FitS op nm sc ab wh l3.length l4.length l5.length l6.length z3 z4 z5 z6) (h2:FitE k1 n1 s1 l1.length z1) (h3:FitE k2 n2 s2 l2.length z2) (t1:∀x∈l1,Ty 308 x) (t2:∀x∈l2,Ty 308 x) (t3:∀x∈l3,Ty 311 x) (t4:∀x∈l4,Ty 311 x) (t5:∀x∈l5,Ty 311 x) (t6:∀x∈l6,Ty 9 x):
 Ty 311 (.mk (stC op nm sc ab wh k1 n1 s1 A1 l1.length z1 k2 n2 s2 A2 l2.length z2 A3 l3.length z3 A4 l4.length z4 A5 l5.length z5 A6 l6.length z6) [(A1,l1),(A2,l2),(A3,l3),(A4,l4),(A5,l5),(A6,l6)]):=by
 refine .mk _ _ _ ?_ λi e A' l' x he hs hx=>?_
 .rw[zbl];exact⟨⟨op,rfl,zce h1.op0.1 h1.op0.2⟩,⟨nm,rfl,h1.nm1⟩,⟨sc,rfl,h1.sc1⟩,⟨ab,rfl,zce h1.ab0.1 h1.ab0.2⟩,⟨wh,rfl,zce h1.wh0.1 h1.wh0.2⟩,⟨k1,rfl,zce h2.k0 h2.k1⟩,⟨n1,rfl,zcs h2.n0 h2.n1⟩,⟨s1,rfl,h2.s1⟩,⟨z1,rfl,h2.cap1,h2.len1⟩,
   ⟨k2,rfl,zce h3.k0 h3.k1⟩,⟨n2,rfl,zcs h3.n0 h3.n1⟩,⟨s2,rfl,h3.s1⟩,⟨z2,rfl,h3.cap1,h3.len1⟩,⟨z3,rfl,h1.th1.2,h1.th1.1⟩,⟨z4,rfl,h1.el1.2,h1.el1.1⟩,⟨z5,rfl,h1.co1.2,h1.co1.1⟩,⟨z6,rfl,h1.wi1.2,h1.wi1.1⟩,rfl,rfl⟩
 .rw[zbl]at he;have hi:i=0\/i=1\/i=2\/i=3\/i=4\/i=5\/6<=i:=o_;rcases hi with rfl|rfl|rfl|rfl|rfl|rfl|hi
  .simp[sls]at he hs;obtain⟨rfl,rfl⟩:=hs;subst he;exact t1 x hx
  .simp[sls]at he hs;obtain⟨rfl,rfl⟩:=hs;subst he;exact t2 x hx
  .simp[sls]at he hs;obtain⟨rfl,rfl⟩:=hs;subst he;exact t3 x hx
  .simp[sls]at he hs;obtain⟨rfl,rfl⟩:=hs;subst he;exact t4 x hx
  .simp[sls]at he hs;obtain⟨rfl,rfl⟩:=hs;subst he;exact t5 x hx
  .simp[sls]at he hs;obtain⟨rfl,rfl⟩:=hs;subst he;exact t6 x hx
  .rw[List.getElem?_eq_none so_]at hs;cases hs
def zmz (l:List G) (w:World) (e:Ending) (w':World):Prop:=
 ∃(A':Option Addr) (c':Nat) (l':List G),e= .returned (.slice A' l.length c')/\l'.length=l.length/\l.length<=c'/\(∀x∈l',Ty 311 x)/\l'.map G.er=l.map G.er/\(G.row A' l').In w' w.heap.size w'.heap.size/\(G.row A' l').Td w'/\Fr No w w'
def zwu (g:G):Prop:=∀(A:Option Addr) (l:List G),(A,l)∈g.subs->∀(w:World) (lo hi cap:Nat),CdRow w lo hi A cap l->hi<=w.heap.size->Calls Tryz.prog 202 #[.slice A l.length cap] w (zmz l w)
def oc5 (gb:Nat) (u v:Value) (x y:G):RcS G where
 cs i:=i==2||i==5
 ss i:=i==7||i==9
 dep j c:=if j=7 then decide (c<=6)else if j=9 then decide (c<=8)else false
 E r i:=match i with
  |0=>.pointer (some ⟨gb,5,none⟩)
  |1=>u
  |2=>.agg (r 2).c.toArray
  |3=>.pointer (some ⟨gb,9,none⟩)
  |4=>v
  |5=>.agg (r 5).c.toArray
  |6=>.pointer (some ⟨gb,5,none⟩)
  |8=>.pointer (some ⟨gb,9,none⟩)
  |_=>undef
 P c b lo w:=Ty 308 b/\b.er=(if c=2 then x else y).er/\b.In w lo w.heap.size/\b.Td w
 M f r w:=if f 9=true then setRow (if f 7=true then setRow w gb 5 (r 2).c else w) gb 9 (r 5).c else if f 7=true then setRow w gb 5 (r 2).c else w
theorem zfg {g:Nat} {t:TypeId}:∀(us:List Value) (o:Nat) (w:World) (cs:Array Value),Blk w g t cs->∃a0,Blk (setRow w g o us) g t a0/\a0.size=cs.size
 |[],_,_,cs,h=>⟨cs,h,rfl⟩
 |u::us,o,w,cs,h=>by
  obtain⟨a0,h1,h2⟩:=zfg us (o+1) _ _ (h.set_ o u);exact⟨a0,h1,by rw[h2];simp⟩
theorem zar {w:World} {g:Nat} {t:TypeId} {cs:Array Value} (h:Blk w g t cs) {k:Nat} (hk:k<cs.size):∃v,w.cell? ⟨g,k,none⟩=some v:=
 ⟨cs[k],(h.cell k).trans (Array.getElem?_eq_getElem hk)⟩
section
variable {gb:Nat} {u v:Value} {x y:G} {f:Nat->Bool} {r:Nat->G} {w w3:World}
theorem zbh (gb:Nat) (u v:Value) (x y:G):(oc5 gb u v x y).Ok:=by
 refine⟨λr r' j h=>?_,λc b lo w w' h f=>⟨h.1,h.2.1,G.In.more (Nat.le_refl _) f.size _ (h.2.2.1.no f (Nat.le_refl _)),h.2.2.2.fr f λ_ _ h=>h⟩,λf r w h=>?_,λf i r w h=>?_,λs c hs hc=>?_⟩
 .by_cases e2:j=2
  .subst e2;show Value.agg _=Value.agg _;rw[h 2 rfl (.inr rfl)]
  by_cases e5:j=5
  .subst e5;show Value.agg _=Value.agg _;rw[h 5 rfl (.inr rfl)]
  .unfold oc5;dsimp only;split<;>first|rfl|omega
 .simp[oc5,h 7 rfl,h 9 rfl]
 .simp[oc5]at h;simp[oc5,upd,Ne.symm h.1,Ne.symm h.2]
 .simp[oc5]at hs hc;rcases hs with rfl|rfl<;>rcases hc with rfl|rfl<;>rfl
theorem zdp {i s:Nat} (hi:i<=6) (hs:(oc5 gb u v x y).ss s=true):(oc5 gb u v x y).dep s i=true:=by
 simp[oc5]at hs;rcases hs with rfl|rfl
 .simp[oc5,hi]
 .simp[oc5];omega
theorem zod (h7:f 7=false) (h9:f 9=false) (h:w=(oc5 gb u v x y).M f r w3):setRow w gb 5 (r 2).c=(oc5 gb u v x y).M (upd f 7) r w3:=by
 subst h;simp[oc5,upd,h7,h9]
theorem zoe (h7:f 7=true) (h9:f 9=false) (h:w=(oc5 gb u v x y).M f r w3):setRow w gb 9 (r 5).c=(oc5 gb u v x y).M (upd f 9) r w3:=by
 subst h;simp[oc5,upd,h7,h9]
theorem zid {t:TypeId} {cs:Array Value} (h:Blk w3 gb t cs):∃cs',Blk ((oc5 gb u v x y).M f r w3) gb t cs'/\cs'.size=cs.size:=by
 have h1:∃cs',Blk (if f 7=true then setRow w3 gb 5 (r 2).c else w3) gb t cs'/\cs'.size=cs.size:=by
  split
  .exact zfg _ _ _ _ h
  .exact⟨cs,h,rfl⟩
 obtain⟨a1,h2,h3⟩:=h1;simp only[oc5];split
 .obtain⟨a0,h4,h5⟩:=zfg (r 5).c 9 _ _ h2;exact⟨a0,h4,by rw[h5,h3]⟩
 .exact⟨a1,h2,h3⟩
end
def oc6 (gb:Nat) (A3 A4 A5:Option Addr) (z3 z4 z5:Nat) (l3 l4 l5:List G):RcS (Option Addr×Nat×List G) where
 cs i:=i==2||i==5||i==8
 ss i:=i==10||i==12||i==14
 dep j c:=if j=10 then decide (c<=9)else if j=12 then decide (c<=11)else if j=14 then decide (c<=13)else if j=5 then c==2 else if j=8 then c==2||c==5 else false
 E r i:=match i with
  |0=>.pointer (some ⟨gb,13,none⟩)
  |1=>.slice A3 l3.length z3
  |2=>.slice (r 2).1 l3.length (r 2).2.1
  |3=>.pointer (some ⟨gb,14,none⟩)
  |4=>.slice A4 l4.length z4
  |5=>.slice (r 5).1 l4.length (r 5).2.1
  |6=>.pointer (some ⟨gb,15,none⟩)
  |7=>.slice A5 l5.length z5
  |8=>.slice (r 8).1 l5.length (r 8).2.1
  |9=>.pointer (some ⟨gb,13,none⟩)
  |11=>.pointer (some ⟨gb,14,none⟩)
  |13=>.pointer (some ⟨gb,15,none⟩)
  |_=>undef
 P c b lo w:=b.2.2.length=(if c=2 then l3 else if c=5 then l4 else l5).length/\(if c=2 then l3 else if c=5 then l4 else l5).length<=b.2.1/\(∀x∈b.2.2,Ty 311 x)/\b.2.2.map G.er=(if c=2 then l3 else if c=5 then l4 else l5).map G.er/\(G.row b.1 b.2.2).In w lo w.heap.size/\(G.row b.1 b.2.2).Td w
 M f r w:=
  let w1:=if f 10=true then w.setCell ⟨gb,13,none⟩ (.slice (r 2).1 l3.length (r 2).2.1)else w
  let w2:=if f 12=true then w1.setCell ⟨gb,14,none⟩ (.slice (r 5).1 l4.length (r 5).2.1)else w1
  if f 14=true then w2.setCell ⟨gb,15,none⟩ (.slice (r 8).1 l5.length (r 8).2.1)else w2
section
variable {gb:Nat} {A3 A4 A5:Option Addr} {z3 z4 z5:Nat} {l3 l4 l5:List G} {f:Nat->Bool} {r:Nat->Option Addr×Nat×List G} {w w3:World}
theorem zax (gb:Nat) (A3 A4 A5:Option Addr) (z3 z4 z5:Nat) (l3 l4 l5:List G):(oc6 gb A3 A4 A5 z3 z4 z5 l3 l4 l5).Ok:=by
 refine⟨λr r' j h=>?_,λc b lo w w' h f=>⟨h.1,h.2.1,h.2.2.1,h.2.2.2.1,G.In.more (Nat.le_refl _) f.size _ (h.2.2.2.2.1.no f (Nat.le_refl _)),h.2.2.2.2.2.fr f λ_ _ h=>h⟩,λf r w h=>?_,λf i r w h=>?_,λs c hs hc=>?_⟩
 .by_cases e2:j=2
  .subst e2;show Value.slice _ _ _=Value.slice _ _ _;rw[h 2 rfl (.inr rfl)]
  by_cases e5:j=5
  .subst e5;show Value.slice _ _ _=Value.slice _ _ _;rw[h 5 rfl (.inr rfl)]
  by_cases e8:j=8
  .subst e8;show Value.slice _ _ _=Value.slice _ _ _;rw[h 8 rfl (.inr rfl)]
  .unfold oc6;dsimp only;split<;>first|rfl|omega
 .simp[oc6,h 10 rfl,h 12 rfl,h 14 rfl]
 .simp[oc6]at h;simp[oc6,upd,Ne.symm h.1.1,Ne.symm h.1.2,Ne.symm h.2]
 .simp[oc6]at hs hc;rcases hs with(rfl|rfl)|rfl<;>rcases hc with(rfl|rfl)|rfl<;>rfl
theorem zck {i s:Nat} (hi:i<=9) (hs:(oc6 gb A3 A4 A5 z3 z4 z5 l3 l4 l5).ss s=true):(oc6 gb A3 A4 A5 z3 z4 z5 l3 l4 l5).dep s i=true:=by
 simp[oc6]at hs;rcases hs with(rfl|rfl)|rfl
 .simp[oc6,hi]
 .simp[oc6];omega
 .simp[oc6];omega
theorem zlm (h1:f 10=false) (h2:f 12=false) (h3:f 14=false) (h:w=(oc6 gb A3 A4 A5 z3 z4 z5 l3 l4 l5).M f r w3):w.setCell ⟨gb,13,none⟩ (.slice (r 2).1 l3.length (r 2).2.1)=(oc6 gb A3 A4 A5 z3 z4 z5 l3 l4 l5).M (upd f 10) r w3:=by
 subst h;simp[oc6,upd,h1,h2,h3]
theorem zln (h1:f 10=true) (h2:f 12=false) (h3:f 14=false) (h:w=(oc6 gb A3 A4 A5 z3 z4 z5 l3 l4 l5).M f r w3):w.setCell ⟨gb,14,none⟩ (.slice (r 5).1 l4.length (r 5).2.1)=(oc6 gb A3 A4 A5 z3 z4 z5 l3 l4 l5).M (upd f 12) r w3:=by
 subst h;simp[oc6,upd,h1,h2,h3]
theorem zlo (h1:f 10=true) (h2:f 12=true) (h3:f 14=false) (h:w=(oc6 gb A3 A4 A5 z3 z4 z5 l3 l4 l5).M f r w3):w.setCell ⟨gb,15,none⟩ (.slice (r 8).1 l5.length (r 8).2.1)=(oc6 gb A3 A4 A5 z3 z4 z5 l3 l4 l5).M (upd f 14) r w3:=by
 subst h;simp[oc6,upd,h1,h2,h3]
theorem zkk {g i:Nat} {t:TypeId} {cs:Array Value} {w:World} {u:Value} {q:Bool} (h:Blk w g t cs):∃cs',Blk (if q=true then w.setCell ⟨g,i,none⟩ u else w) g t cs'/\cs'.size=cs.size:=by
 split
 .exact⟨_,h.set_ i u,by simp⟩
 .exact⟨cs,h,rfl⟩
theorem zfh {t:TypeId} {cs:Array Value} (h:Blk w3 gb t cs):∃cs',Blk ((oc6 gb A3 A4 A5 z3 z4 z5 l3 l4 l5).M f r w3) gb t cs'/\cs'.size=cs.size:=by
 obtain⟨c1,h1,e1⟩:=zkk (i:=13) (u:=.slice (r 2).1 l3.length (r 2).2.1) (q:=f 10) h;obtain⟨c2,h2,e2⟩:=zkk (i:=14) (u:=.slice (r 5).1 l4.length (r 5).2.1) (q:=f 12) h1;obtain⟨c3,h3,e3⟩:=zkk (i:=15) (u:=.slice (r 8).1 l5.length (r 8).2.1) (q:=f 14) h2;exact⟨c3,h3,by rw[e3,e2,e1]⟩
end
theorem zcm {A:Option Addr} {l:List G} {gb:Nat} {w w':World} (h:(G.row A l).In w (gb+1) w.heap.size/\(G.row A l).Td w) (f:Fr (λi=>i=gb) w w'):(G.row A l).In w' (gb+1) w'.heap.size/\(G.row A l).Td w':=by
 have h2:∀b,(G.row A l).Has b->¬b=gb:=λb hb hh=>by have:=(G.In.has hb h.1).1;omega
 exact⟨G.In.more (Nat.le_refl _) f.size _ (h.1.frH f (Nat.le_refl _) h2),h.2.fr f h2⟩
def R5 (w0:World) (gb:Nat) (op:Int) (nm sc:ByteArray) (ab wh k1 n1:Int) (s1:ByteArray) (l1:List G) (k2 n2:Int) (s2:ByteArray) (l2:List G) (A3:Option Addr) (z3:Nat) (l3:List G) (A4:Option Addr) (z4:Nat) (l4:List G) (A5:Option Addr) (z5:Nat) (l5:List G) (A6:Option Addr) (z6:Nat) (l6:List G) (w:World):Prop:=
 ∃(B1:Option Addr) (cp1:Nat) (m1:List G) (B2:Option Addr) (cp2:Nat) (m2:List G),Blk w gb 311 #[.int .u8 op,.string nm,.string sc,.int .u8 ab,.int .u8 wh,.int .u8 k1,.int .i64 n1,.string s1,.slice B1 m1.length cp1,.int .u8 k2,.int .i64 n2,.string s2,.slice B2 m2.length cp2,.slice A3 l3.length z3,.slice A4 l4.length z4,.slice A5 l5.length z5,.slice A6 l6.length z6]/\Fr No w0 w/\((G.row B1 m1).In w (gb+1) w.heap.size/\(G.row B1 m1).Td w)/\((G.row B2 m2).In w (gb+1) w.heap.size/\(G.row B2 m2).Td w)/\
  (FitE k1 n1 s1 m1.length cp1/\(∀x∈m1,Ty 308 x)/\m1.length=l1.length/\m1.map G.er=l1.map G.er)/\FitE k2 n2 s2 m2.length cp2/\(∀x∈m2,Ty 308 x)/\m2.length=l2.length/\m2.map G.er=l2.map G.er
def R6 (w0:World) (gb:Nat) (op:Int) (nm sc:ByteArray) (ab wh k1 n1:Int) (s1:ByteArray) (l1:List G) (k2 n2:Int) (s2:ByteArray) (l2:List G) (_A3:Option Addr) (_z3:Nat) (l3:List G) (_A4:Option Addr) (_z4:Nat) (l4:List G) (_A5:Option Addr) (_z5:Nat) (l5:List G) (A6:Option Addr) (z6:Nat) (l6:List G) (w:World):Prop:=
 ∃(B1:Option Addr) (cp1:Nat) (m1:List G) (B2:Option Addr) (cp2:Nat) (m2:List G) (B3:Option Addr) (cp3:Nat) (m3:List G) (B4:Option Addr) (cp4:Nat) (m4:List G) (B5:Option Addr) (cp5:Nat) (m5:List G),Blk w gb 311 #[.int .u8 op,.string nm,.string sc,.int .u8 ab,.int .u8 wh,.int .u8 k1,.int .i64 n1,.string s1,.slice B1 m1.length cp1,.int .u8 k2,.int .i64 n2,.string s2,.slice B2 m2.length cp2,.slice B3 l3.length cp3,.slice B4 l4.length cp4,.slice B5 l5.length cp5,.slice A6 l6.length z6]/\Fr No w0 w/\((G.row B1 m1).In w (gb+1) w.heap.size/\(G.row B1 m1).Td w)/\((G.row B2 m2).In w (gb+1) w.heap.size/\(G.row B2 m2).Td w)/\
  ((G.row B3 m3).In w (gb+1) w.heap.size/\(G.row B3 m3).Td w)/\((G.row B4 m4).In w (gb+1) w.heap.size/\(G.row B4 m4).Td w)/\((G.row B5 m5).In w (gb+1) w.heap.size/\(G.row B5 m5).Td w)/\
  ((FitE k1 n1 s1 m1.length cp1/\(∀x∈m1,Ty 308 x)/\m1.length=l1.length/\m1.map G.er=l1.map G.er)/\FitE k2 n2 s2 m2.length cp2/\(∀x∈m2,Ty 308 x)/\m2.length=l2.length/\m2.map G.er=l2.map G.er)/\
  (m3.length=l3.length/\l3.length<=cp3/\(∀x∈m3,Ty 311 x)/\m3.map G.er=l3.map G.er)/\(m4.length=l4.length/\l4.length<=cp4/\(∀x∈m4,Ty 311 x)/\m4.map G.er=l4.map G.er)/\m5.length=l5.length/\l5.length<=cp5/\(∀x∈m5,Ty 311 x)/\m5.map G.er=l5.map G.er
theorem zgw (l:List G) (hC:∀x∈l,zwu x) (w:World) (lo hi:Nat) (A:Option Addr) (cap:Nat) (hrow:CdRow w lo hi A cap l) (hh:hi<=w.heap.size):Calls Tryz.prog 202 #[.slice A l.length cap] w (zmz l w):=by
 have n6:=hrow.ty;have p9:=hrow.inn;have r7:∀x∈l,x.c.length=17:=λx hx=>(zas (n6 x hx)).trans (by rw[zbl];rfl);have i6:=zgd p9 r7 (λx hx=>zjn (n6 x hx)) o_;have q0:=hrow.len1;have HC:=zaa λW' (f:Fr No w W')=>zrf A l.length cap (za6 l) W' lo hi (i6.no f hh) (Nat.le_trans hh f.size) q0;have E1:=zaa λW' (f:Fr No w W')=>p9.no f hh;have v0:=zaa hC;have p5:=zaa r7;have C1:=zaa n6;have HH:=zaa hh;clear i6 hrow p9 n6 hC r7;go_enter Tryz.func202,Tryz.ntmps202;go_wp2_with fail;refine(HC.out w (Fr.refl No w)).mono ?_;rintro e w1 ⟨A',c',rfl,ho,f1⟩;have k8:=OwnRI.start (w:=w) ho f1 (Nat.le_refl _) f1.size;have l9:=zcf ho;have j3:=zaa k8;have q8:=zaa l9;clear k8 ho f1 l9 HC;go_wp2_with fail;go_loopw [9] (λi wr=>∃(j:Nat) (l':List G),j<=l.length/\i= .int .i64 j/\OwnRI 311 17 w w.heap.size w1.heap.size A' c' l j l' wr) (λi _=>l.length - (intOf i).toNat)
 case atStart=>exact⟨0,[],Nat.zero_le _,rfl,j3.out⟩
 case round=>
  obtain⟨j,l',hj,rfl,inv⟩:=hrel;have h8:∀x∈l',x.c.length=17:=λx hx=>(zas (inv.ty x hx)).trans (by rw[zbl];rfl);by_cases hlt:j<l.length
  case neg=>
   obtain rfl:l.length=j:=o_;have HI:=zaa inv;have r0:=zaa h8;clear inv h8;go_wp2;go_ret;have inv:=HI.out;exact⟨A',c',l',rfl,inv.len,q8.out,inv.ty,inv.ers,inv.row_in o_ r0.out,inv.row_td (.inr (.inr (.inl rfl))),inv.fr⟩
  obtain⟨gr,rfl,F6,H0,c4,G7⟩:=inv.at_ hlt p5.out h8;have j1:=List.getElem_mem hlt;obtain⟨-,-,-,-,-,j0,-⟩:=G.row_at (E1.out wr inv.fr) hlt;have k7:=v0.out _ j1;obtain⟨op,nm,sc,ab,wh,k1,n1,s1,A1,l1,z1,k2,n2,s2,A2,l2,z2,A3,l3,z3,A4,l4,z4,A5,l5,z5,A6,l6,z6,hx,d8,p7,p8,w4,w0,s3,r8,v3,n8⟩:=zkp (C1.out _ j1);rw[hx]at c4 j0 k7;unfold stC at c4;have c3:=G.in_rows.1 j0;have i9:=zaa inv;have HX:=zaa hx;have c2:=inv.fr.size;have E9:gr<wr.heap.size:=by have:=inv.big.2.2;omega
  have r2:=zaa (λW' (f:Fr No wr W')=>zgs (.mk [.int .u8 k1,.int .i64 n1,.string s1,.slice A1 l1.length z1] [(A1,l1)]) W' lo hi (zic p7 w4) (G.in_rows.2 (by intro A' l' hm;simp at hm;obtain⟨rfl,rfl⟩:=hm;exact(c3 _ _ s_).no f (Nat.le_trans HH.out c2))) (Nat.le_trans HH.out (Nat.le_trans c2 f.size)));have o9:=zaa (λW' (f:Fr No wr W')=>zgs (.mk [.int .u8 k2,.int .i64 n2,.string s2,.slice A2 l2.length z2] [(A2,l2)]) W' lo hi (zic p8 w0) (G.in_rows.2 (by intro A' l' hm;simp at hm;obtain⟨rfl,rfl⟩:=hm;exact(c3 _ _ s_).no f (Nat.le_trans HH.out c2))) (Nat.le_trans HH.out (Nat.le_trans c2 f.size)));have r6:=zaa (λW' (f:Fr No wr W')=>k7 A3 l3 (by simp[G.subs]) W' lo hi z3 ⟨d8.th1.1,d8.th1.2,s3,(c3 A3 l3 s_).no f (Nat.le_trans HH.out c2)⟩ (Nat.le_trans HH.out (Nat.le_trans c2 f.size)));have p4:=zaa (λW' (f:Fr No wr W')=>k7 A4 l4 (by simp[G.subs]) W' lo hi z4 ⟨d8.el1.1,d8.el1.2,r8,(c3 A4 l4 s_).no f (Nat.le_trans HH.out c2)⟩ (Nat.le_trans HH.out (Nat.le_trans c2 f.size)));have q9:=zaa (λW' (f:Fr No wr W')=>k7 A5 l5 (by simp[G.subs]) W' lo hi z5 ⟨d8.co1.1,d8.co1.2,v3,(c3 A5 l5 s_).no f (Nat.le_trans HH.out c2)⟩ (Nat.le_trans HH.out (Nat.le_trans c2 f.size)));have j2:∀x∈l6,x.c.length=1:=λx hx=>(zas (n8 x hx)).trans (by rw[zev];rfl);have w9:=zaa (λW' (f:Fr No wr W')=>zre A6 l6.length z6 (za6 l6) W' lo hi ((zgd (c3 A6 l6 s_) j2 (λx hx=>zjn (n8 x hx)) o_).no f (Nat.le_trans HH.out c2)) (Nat.le_trans HH.out (Nat.le_trans c2 f.size)) d8.wi1.1);have HS:=zaa (And.intro d8 (And.intro p7 p8));have n7:=zaa (And.intro n8 j2);clear c3 j0 k7 hx inv d8 p7 p8 w4 w0 s3 r8 v3 n8 j2 j1 v0 h8;have xc:∀i u,[.int .u8 op,.string nm,.string sc,.int .u8 ab,.int .u8 wh,.int .u8 k1,.int .i64 n1,.string s1,.slice A1 l1.length z1,.int .u8 k2,.int .i64 n2,.string s2,.slice A2 l2.length z2,.slice A3 l3.length z3,.slice A4 l4.length z4,.slice A5 l5.length z5,.slice A6 l6.length z6][i]? =some u->wr.cell? ⟨gr,j*17+i,none⟩=some u:=c4;have x0:wr.cell? ⟨gr,j*17,none⟩=some (.int .u8 op):=c4 0 _ rfl;have x1:wr.cell? ⟨gr,j*17+1,none⟩=some (.string nm):=c4 1 _ rfl;have x2:wr.cell? ⟨gr,j*17+2,none⟩=some (.string sc):=c4 2 _ rfl;have x3:wr.cell? ⟨gr,j*17+3,none⟩=some (.int .u8 ab):=c4 3 _ rfl;have x4:wr.cell? ⟨gr,j*17+4,none⟩=some (.int .u8 wh):=c4 4 _ rfl;have x5:wr.cell? ⟨gr,j*17+5,none⟩=some (.int .u8 k1):=c4 5 _ rfl;have x6:wr.cell? ⟨gr,j*17+6,none⟩=some (.int .i64 n1):=c4 6 _ rfl;have x7:wr.cell? ⟨gr,j*17+7,none⟩=some (.string s1):=c4 7 _ rfl;have x8:wr.cell? ⟨gr,j*17+8,none⟩=some (.slice A1 l1.length z1):=c4 8 _ rfl;have x9:wr.cell? ⟨gr,j*17+9,none⟩=some (.int .u8 k2):=c4 9 _ rfl;have C5:wr.cell? ⟨gr,j*17+10,none⟩=some (.int .i64 n2):=c4 10 _ rfl;have A7:wr.cell? ⟨gr,j*17+11,none⟩=some (.string s2):=c4 11 _ rfl;have C9:wr.cell? ⟨gr,j*17+12,none⟩=some (.slice A2 l2.length z2):=c4 12 _ rfl;have A9:wr.cell? ⟨gr,j*17+13,none⟩=some (.slice A3 l3.length z3):=c4 13 _ rfl;have C8:wr.cell? ⟨gr,j*17+14,none⟩=some (.slice A4 l4.length z4):=c4 14 _ rfl;have D9:wr.cell? ⟨gr,j*17+15,none⟩=some (.slice A5 l5.length z5):=c4 15 _ rfl;have D1:wr.cell? ⟨gr,j*17+16,none⟩=some (.slice A6 l6.length z6):=c4 16 _ rfl;clear c4 xc;go_upto_region 4 with(fail);go_cut [3,4]from 10 to 42 (λi4 b4 wc4=>i4= .int .i64 (j:Int)/\b4= .pointer (some ⟨wr.heap.size,0,none⟩)/\wc4=wr.alloc (.cells #[.int .u8 op,.string nm,.string sc,.int .u8 ab,.int .u8 wh,.int .u8 k1,.int .i64 n1,.string s1,.slice A1 l1.length z1,.int .u8 k2,.int .i64 n2,.string s2,.slice A2 l2.length z2,.slice A3 l3.length z3,.slice A4 l4.length z4,.slice A5 l5.length z5,.slice A6 l6.length z6] 311))
  case first=>as_aux_lemma=>
   go_wp2_with fail;go_meet
   case rel=>exact⟨rfl,rfl,rfl⟩
  obtain⟨rfl,rfl,rfl⟩:=hcut;go_upto_region 5 with(fail);have r9:=Blk.new wr 311 #[.int .u8 op,.string nm,.string sc,.int .u8 ab,.int .u8 wh,.int .u8 k1,.int .i64 n1,.string s1,.slice A1 l1.length z1,.int .u8 k2,.int .i64 n2,.string s2,.slice A2 l2.length z2,.slice A3 l3.length z3,.slice A4 l4.length z4,.slice A5 l5.length z5,.slice A6 l6.length z6];have v2:=(Fr.refl No wr).alloc (.cells #[.int .u8 op,.string nm,.string sc,.int .u8 ab,.int .u8 wh,.int .u8 k1,.int .i64 n1,.string s1,.slice A1 l1.length z1,.int .u8 k2,.int .i64 n2,.string s2,.slice A2 l2.length z2,.slice A3 l3.length z3,.slice A4 l4.length z4,.slice A5 l5.length z5,.slice A6 l6.length z6] 311);have j4:=zaa r9;have l7:=zaa v2;have w6:wr.heap.size+1=(wr.alloc (.cells #[.int .u8 op,.string nm,.string sc,.int .u8 ab,.int .u8 wh,.int .u8 k1,.int .i64 n1,.string s1,.slice A1 l1.length z1,.int .u8 k2,.int .i64 n2,.string s2,.slice A2 l2.length z2,.slice A3 l3.length z3,.slice A4 l4.length z4,.slice A5 l5.length z5,.slice A6 l6.length z6] 311)).heap.size:=s_;have E2:=zaa w6;clear r9 v2 w6 x0 x1 x2 x3 x4 x5 x6 x7 x8 x9 C5 A7 C9 A9 C8 D9 D1;generalize s6:wr.heap.size=gb at*;generalize World.alloc wr _=Wa at*;go_cut []from 10 to 42 (R5 wr gb op nm sc ab wh k1 n1 s1 l1 k2 n2 s2 l2 A3 z3 l3 A4 z4 l4 A5 z5 l5 A6 z6 l6)
  case first=>as_aux_lemma=>
   refine zbb (I:=λa0 f a wx=>∃y0 y1 y2 y3 y4 y5 y6 y8 r,a=((((((((a0.put (some 14) y0).put (some 15) y1).put (some 16) y2).put (some 17) y3).put (some 18) y4).put (some 19) y5).put (some 20) y6).put (some 21) y8)/\RcI (oc5 gb (.agg #[.int .u8 k1,.int .i64 n1,.string s1,.slice A1 l1.length z1]) (.agg #[.int .u8 k2,.int .i64 n2,.string s2,.slice A2 l2.length z2]) (.mk [.int .u8 k1,.int .i64 n1,.string s1,.slice A1 l1.length z1] [(A1,l1)]) (.mk [.int .u8 k2,.int .i64 n2,.string s2,.slice A2 l2.length z2] [(A2,l2)])) Wa f [y0,y1,y2,y3,y4,y5,y6,undef,y8,undef] r wx) k_ k_ ?st ?step ?en
   case st=>exact⟨_,_,_,_,_,_,_,_,(λ_=>.mk [] []),by simp only[Act.put,lp_]<;>rfl,RcI.begin (zbh _ _ _ _ _) Wa _ _⟩
   case step=>as_aux_lemma=>
    rintro i oo f a wx ho hf hd ⟨y0,y1,y2,y3,y4,y5,y6,y8,r,rfl,J⟩ K' hK;have j5:=(Array.getElem?_eq_some_iff.1 ho).1;simp only[List.size_toArray,List.length_cons,List.length_nil]at j5;have p3:i=0\/i=1\/i=2\/i=3\/i=4\/i=5\/i=6\/i=7\/i=8\/i=9:=o_;simp only[Act.put,lp_];rcases p3 with rfl|rfl|rfl|rfl|rfl|rfl|rfl|rfl|rfl|rfl
    .simp only[List.getElem?_toArray,List.getElem?_cons_zero,Option.some.injEq]at ho;subst ho;have a9:=zaa hf;have HJ:=zaa J;clear J hd hf;go_simp;exact hK.out _ _ ⟨_,_,_,_,_,_,_,_,r,by simp only[Act.put,lp_]<;>rfl,HJ.out.quiet (zbh _ _ _ _ _) (i:=0) rfl rfl s_ (λc h=>nomatch h)⟩
    .simp only[List.getElem?_toArray,List.getElem?_cons_succ,List.getElem?_cons_zero,Option.some.injEq]at ho;subst ho;have b0:=hd ⟨0,.data⟩ s_ r_;obtain rfl:y0= .pointer (some ⟨gb,5,none⟩):=J.x 0 b0 rfl;have FX:=zaa (J.fr (zbh _ _ _ _ _) (J.none hf λs hs=>zdp d_ hs));have a9:=zaa hf;have B0:=zaa b0;have hB:=j4.out.fr FX.out λh=>h;have hq:=hB.lt;have c5:wx.cell? ⟨gb,5,none⟩=some (.int .u8 k1):=hB.cell 5;have c6:wx.cell? ⟨gb,6,none⟩=some (.int .i64 n1):=hB.cell 6;have c7:wx.cell? ⟨gb,7,none⟩=some (.string s1):=hB.cell 7;have c8:wx.cell? ⟨gb,8,none⟩=some (.slice A1 l1.length z1):=hB.cell 8;clear hB;have HJ:=zaa J;clear J hd hf b0;go_simp;exact hK.out _ _ ⟨_,_,_,_,_,_,_,_,r,by simp only[Act.put,lp_]<;>rfl,HJ.out.quiet (zbh _ _ _ _ _) (i:=1) rfl rfl s_ (λc h=>nomatch h)⟩
    .simp only[List.getElem?_toArray,List.getElem?_cons_succ,List.getElem?_cons_zero,Option.some.injEq]at ho;subst ho;have b1:=hd ⟨1,.data⟩ s_ r_;obtain rfl:y1= .agg #[.int .u8 k1,.int .i64 n1,.string s1,.slice A1 l1.length z1]:=J.x 1 b1 rfl;have FX:=zaa (J.fr (zbh _ _ _ _ _) (J.none hf λs hs=>zdp d_ hs));have a9:=zaa hf;have B1:=zaa b1;have HJ:=zaa J;clear J hd hf b1;go_simp;have d9:=r2.out wx (l7.out.trans FX.out);refine d9.mono ?_;rintro e w2 ⟨b,he,q1,q2,q3,q4,f2⟩;have h0:=zaa f2;have h6:=zaa (And.intro q1 (And.intro q2 (And.intro (G.In.more FX.out.size (Nat.le_refl _) _ q3) q4)));subst he;clear f2 q1 q2 q3 q4;try go_simp
     exact hK.out _ _ ⟨_,_,_,_,_,_,_,_,_,by simp only[Act.put,lp_]<;>rfl,HJ.out.call (zbh _ _ _ _ _) a9.out rfl rfl s_ (λc h=>nomatch h) h0.out (b:=b) h6.out⟩
    .simp only[List.getElem?_toArray,List.getElem?_cons_succ,List.getElem?_cons_zero,Option.some.injEq]at ho;subst ho;have a9:=zaa hf;have HJ:=zaa J;clear J hd hf;go_simp;exact hK.out _ _ ⟨_,_,_,_,_,_,_,_,r,by simp only[Act.put,lp_]<;>rfl,HJ.out.quiet (zbh _ _ _ _ _) (i:=3) rfl rfl s_ (λc h=>nomatch h)⟩
    .simp only[List.getElem?_toArray,List.getElem?_cons_succ,List.getElem?_cons_zero,Option.some.injEq]at ho;subst ho;have b3:=hd ⟨3,.data⟩ s_ r_;obtain rfl:y3= .pointer (some ⟨gb,9,none⟩):=J.x 3 b3 rfl;have FX:=zaa (J.fr (zbh _ _ _ _ _) (J.none hf λs hs=>zdp d_ hs));have a9:=zaa hf;have B3:=zaa b3;have hB:=j4.out.fr FX.out λh=>h;have hq:=hB.lt;have c9:wx.cell? ⟨gb,9,none⟩=some (.int .u8 k2):=hB.cell 9;have D4:wx.cell? ⟨gb,10,none⟩=some (.int .i64 n2):=hB.cell 10;have C3:wx.cell? ⟨gb,11,none⟩=some (.string s2):=hB.cell 11;have E3:wx.cell? ⟨gb,12,none⟩=some (.slice A2 l2.length z2):=hB.cell 12;clear hB;have HJ:=zaa J;clear J hd hf b3;go_simp;exact hK.out _ _ ⟨_,_,_,_,_,_,_,_,r,by simp only[Act.put,lp_]<;>rfl,HJ.out.quiet (zbh _ _ _ _ _) (i:=4) rfl rfl s_ (λc h=>nomatch h)⟩
    .simp only[List.getElem?_toArray,List.getElem?_cons_succ,List.getElem?_cons_zero,Option.some.injEq]at ho;subst ho;have b4:=hd ⟨4,.data⟩ s_ r_;obtain rfl:y4= .agg #[.int .u8 k2,.int .i64 n2,.string s2,.slice A2 l2.length z2]:=J.x 4 b4 rfl;have FX:=zaa (J.fr (zbh _ _ _ _ _) (J.none hf λs hs=>zdp d_ hs));have a9:=zaa hf;have B4:=zaa b4;have HJ:=zaa J;clear J hd hf b4;go_simp;have d9:=o9.out wx (l7.out.trans FX.out);refine d9.mono ?_;rintro e w2 ⟨b,he,q1,q2,q3,q4,f2⟩;have h0:=zaa f2;have h6:=zaa (And.intro q1 (And.intro q2 (And.intro (G.In.more FX.out.size (Nat.le_refl _) _ q3) q4)));subst he;clear f2 q1 q2 q3 q4;try go_simp
     exact hK.out _ _ ⟨_,_,_,_,_,_,_,_,_,by simp only[Act.put,lp_]<;>rfl,HJ.out.call (zbh _ _ _ _ _) a9.out rfl rfl s_ (λc h=>nomatch h) h0.out (b:=b) h6.out⟩
    .simp only[List.getElem?_toArray,List.getElem?_cons_succ,List.getElem?_cons_zero,Option.some.injEq]at ho;subst ho;have a9:=zaa hf;have HJ:=zaa J;clear J hd hf;go_simp;exact hK.out _ _ ⟨_,_,_,_,_,_,_,_,r,by simp only[Act.put,lp_]<;>rfl,HJ.out.quiet (zbh _ _ _ _ _) (i:=6) rfl rfl s_ (λc h=>nomatch h)⟩
    .simp only[List.getElem?_toArray,List.getElem?_cons_succ,List.getElem?_cons_zero,Option.some.injEq]at ho;subst ho;have b6:=hd ⟨6,.data⟩ s_ r_;obtain rfl:y6= .pointer (some ⟨gb,5,none⟩):=J.x 6 b6 rfl;have b2:=hd ⟨2,.data⟩ s_ r_;obtain rfl:y2= .agg (r 2).c.toArray:=J.x 2 b2 rfl;have c1:∀c,(oc5 gb (.agg #[.int .u8 k1,.int .i64 n1,.string s1,.slice A1 l1.length z1]) (.agg #[.int .u8 k2,.int .i64 n2,.string s2,.slice A2 l2.length z2]) (.mk [.int .u8 k1,.int .i64 n1,.string s1,.slice A1 l1.length z1] [(A1,l1)]) (.mk [.int .u8 k2,.int .i64 n2,.string s2,.slice A2 l2.length z2] [(A2,l2)])).dep 7 c=true->f c=true:=by
      intro c hc;have f9:c=0\/c=1\/c=2\/c=3\/c=4\/c=5\/c=6:=by have:c<=6:=of_decide_eq_true hc;omega
      rcases f9 with rfl|rfl|rfl|rfl|rfl|rfl|rfl
      .first|exact zac hd r_
      .first|exact zac hd r_
      .first|exact zac hd r_
      .first|exact zac hd r_
      .first|exact zac hd r_
      .first|exact zac hd r_
      .first|exact zac hd r_
     have a9:=zaa hf;have B6:=zaa b6;have B2:=zaa b2;have hM:=J.m;obtain⟨w3,d7,f4,f6⟩:=hM;obtain⟨h5,hB,f5⟩:=zid (f:=f) (r:=r) (j4.out.fr d7 λh=>h);rw[<-f6]at hB;have hz:=hB.frozen;have hq:=hB.lt;have f0:h5.size=17:=by rw[f5];rfl
     obtain⟨v5,c5⟩:=zar hB (k:=5) o_;obtain⟨v6,c6⟩:=zar hB (k:=6) o_;obtain⟨v7,c7⟩:=zar hB (k:=7) o_;obtain⟨v8,c8⟩:=zar hB (k:=8) o_;have h9:f 9=false:=by
      cases q:f 9 with
      |false=>rfl
      |true=>rw[J.d 9 7 rfl q]at hf;cases hf
     have e1:=(f4 2 rfl (c1 2 rfl)).1;obtain⟨k,n,s,A',c',l',er,-,-⟩:=za3 e1;have m8:=zaa (λw3 (h:wx=(oc5 gb (.agg #[.int .u8 k1,.int .i64 n1,.string s1,.slice A1 l1.length z1]) (.agg #[.int .u8 k2,.int .i64 n2,.string s2,.slice A2 l2.length z2]) (.mk [.int .u8 k1,.int .i64 n1,.string s1,.slice A1 l1.length z1] [(A1,l1)]) (.mk [.int .u8 k2,.int .i64 n2,.string s2,.slice A2 l2.length z2] [(A2,l2)])).M f r w3)=>zod hf h9 h);rw[er]at J;rw[er];dsimp only[G.c];dsimp only[G.c]at J;rw[er]at m8;clear e1 h9;clear d7 f4 f6 hB f5 f0;have HJ:=zaa J;have c0:=zaa c1;clear J hd hf b6 b2 c1;go_simp;exact hK.out _ _ ⟨_,_,_,_,_,_,_,_,r,by simp only[Act.put,lp_]<;>rfl,HJ.out.store (i:=7) rfl rfl c0.out (λw3 h=>m8.out w3 h)⟩
    .simp only[List.getElem?_toArray,List.getElem?_cons_succ,List.getElem?_cons_zero,Option.some.injEq]at ho;subst ho;have a9:=zaa hf;have HJ:=zaa J;clear J hd hf;go_simp;exact hK.out _ _ ⟨_,_,_,_,_,_,_,_,r,by simp only[Act.put,lp_]<;>rfl,HJ.out.quiet (zbh _ _ _ _ _) (i:=8) rfl rfl s_ (λc h=>nomatch h)⟩
    .simp only[List.getElem?_toArray,List.getElem?_cons_succ,List.getElem?_cons_zero,Option.some.injEq]at ho;subst ho;have b8:=hd ⟨8,.data⟩ s_ r_;obtain rfl:y8= .pointer (some ⟨gb,9,none⟩):=J.x 8 b8 rfl;have b5:=hd ⟨5,.data⟩ s_ r_;obtain rfl:y5= .agg (r 5).c.toArray:=J.x 5 b5 rfl;have c1:∀c,(oc5 gb (.agg #[.int .u8 k1,.int .i64 n1,.string s1,.slice A1 l1.length z1]) (.agg #[.int .u8 k2,.int .i64 n2,.string s2,.slice A2 l2.length z2]) (.mk [.int .u8 k1,.int .i64 n1,.string s1,.slice A1 l1.length z1] [(A1,l1)]) (.mk [.int .u8 k2,.int .i64 n2,.string s2,.slice A2 l2.length z2] [(A2,l2)])).dep 9 c=true->f c=true:=by
      intro c hc;have f9:c=0\/c=1\/c=2\/c=3\/c=4\/c=5\/c=6\/c=7\/c=8:=by have:c<=8:=of_decide_eq_true hc;omega
      rcases f9 with rfl|rfl|rfl|rfl|rfl|rfl|rfl|rfl|rfl
      .first|exact zac hd r_
      .first|exact zac hd r_
      .first|exact zac hd r_
      .first|exact zac hd r_
      .first|exact zac hd r_
      .first|exact zac hd r_
      .first|exact zac hd r_
      .first|exact zac hd r_
      .first|exact zac hd r_
     have a9:=zaa hf;have B8:=zaa b8;have B5:=zaa b5;have hM:=J.m;obtain⟨w3,d7,f4,f6⟩:=hM;obtain⟨h5,hB,f5⟩:=zid (f:=f) (r:=r) (j4.out.fr d7 λh=>h);rw[<-f6]at hB;have hz:=hB.frozen;have hq:=hB.lt;have f0:h5.size=17:=by rw[f5];rfl
     obtain⟨v9,c9⟩:=zar hB (k:=9) o_;obtain⟨G3,D4⟩:=zar hB (k:=10) o_;obtain⟨F7,C3⟩:=zar hB (k:=11) o_;obtain⟨E6,E3⟩:=zar hB (k:=12) o_;have h7:f 7=true:=c1 7 rfl;have e1:=(f4 5 rfl (c1 5 rfl)).1;obtain⟨k,n,s,A',c',l',er,-,-⟩:=za3 e1;have l0:=zaa (λw3 (h:wx=(oc5 gb (.agg #[.int .u8 k1,.int .i64 n1,.string s1,.slice A1 l1.length z1]) (.agg #[.int .u8 k2,.int .i64 n2,.string s2,.slice A2 l2.length z2]) (.mk [.int .u8 k1,.int .i64 n1,.string s1,.slice A1 l1.length z1] [(A1,l1)]) (.mk [.int .u8 k2,.int .i64 n2,.string s2,.slice A2 l2.length z2] [(A2,l2)])).M f r w3)=>zoe h7 hf h);rw[er]at J;rw[er];dsimp only[G.c];dsimp only[G.c]at J;rw[er]at l0;clear e1 h7;clear d7 f4 f6 hB f5 f0;have HJ:=zaa J;have c0:=zaa c1;clear J hd hf b8 b5 c1;go_simp;exact hK.out _ _ ⟨_,_,_,_,_,_,_,_,r,by simp only[Act.put,lp_]<;>rfl,HJ.out.store (i:=9) rfl rfl c0.out (λw3 h=>l0.out w3 h)⟩
   case en=>
    rintro f a wx a8 ⟨y0,y1,y2,y3,y4,y5,y6,y8,r,rfl,J⟩;obtain rfl:y2= .agg (r 2).c.toArray:=J.x 2 (a8 2 s_) rfl;obtain rfl:y5= .agg (r 5).c.toArray:=J.x 5 (a8 5 s_) rfl;simp only[Act.put,lp_];obtain⟨w3,i5,hP,hM⟩:=J.m;have P2:=hP 2 rfl (a8 2 s_);have P5:=hP 5 rfl (a8 5 s_);have i0:wx=setRow (setRow w3 gb 5 (r 2).c) gb 9 (r 5).c:=by rw[hM];simp[oc5,a8 7 s_,a8 9 s_]
    clear J a8 hP hM;generalize r 2=ya at*;generalize r 5=yb at*;obtain⟨e1,e2,e3,e4⟩:=P2;obtain⟨g1,g2,g3,g4⟩:=P5;rw[if_pos rfl]at e2;rw[if_neg d_]at g2;obtain⟨p1,q1,t1,B1,i2,m1,rfl,o0,o1⟩:=za3 e1;obtain⟨p2,q2,t2,B2,i7,m2,rfl,o4,o7⟩:=za3 g1;rw[G.er_mk,G.er_mk]at e2 g2;simp only[List.map_cons,List.map_nil,erV,G.mk.injEq,List.cons.injEq,Value.int.injEq,Value.string.injEq,Value.slice.injEq,Prod.mk.injEq,true_and,and_true]at e2 g2;obtain⟨⟨rfl,rfl,rfl,n5⟩,d7⟩:=e2;obtain⟨⟨rfl,rfl,rfl,n9⟩,f4⟩:=g2;dsimp only[G.c]at i0;have k9:=j4.out.fr i5 λh=>h;have k3:Blk wx gb 311 #[.int .u8 op,.string nm,.string sc,.int .u8 ab,.int .u8 wh,.int .u8 p1,.int .i64 q1,.string t1,.slice B1 m1.length i2,.int .u8 p2,.int .i64 q2,.string t2,.slice B2 m2.length i7,.slice A3 l3.length z3,.slice A4 l4.length z4,.slice A5 l5.length z5,.slice A6 l6.length z6]:=by
     rw[i0];simpa only[setRow,List.setIfInBounds_toArray,List.set_cons_zero,List.set_cons_succ]using(((((((k9.set_ 5 (.int .u8 p1)).set_ 6 (.int .i64 q1)).set_ 7 (.string t1)).set_ 8 (.slice B1 m1.length i2)).set_ 9 (.int .u8 p2)).set_ 10 (.int .i64 q2)).set_ 11 (.string t2)).set_ 12 (.slice B2 m2.length i7)
    have f3:Fr (λi=>i=gb) w3 wx:=by rw[i0];exact zbp (S:=λi=>i=gb) (λ_=>rfl) _ _ _ (zbp (S:=λi=>i=gb) (λ_=>rfl) _ _ _ (Fr.refl _ w3))
    have C0:gb+1=Wa.heap.size:=E2.out;have g5:Fr No wr wx:=(l7.out.trans i5).trans' f3 λi hi h=>by have h':i=gb:=h;omega
    have i1:(G.row B1 m1).In wx (gb+1) wx.heap.size/\(G.row B1 m1).Td wx:=by
     have h1:=G.in_rows.1 e3 B1 m1 s_;have h2:∀b,(G.row B1 m1).Has b->¬b=gb:=λb hb h=>by have:=(G.In.has hb h1).1;omega
     exact⟨G.In.more o_ f3.size _ (h1.frH f3 (Nat.le_refl _) h2),λb hb=>by
      obtain⟨e,cs,q1,q2⟩:=e4 b (G.mk_has.2 ⟨B1,m1,by simp,hb⟩);exact⟨e,cs,q1,q2.fr f3 (h2 b hb)⟩⟩
    have i3:(G.row B2 m2).In wx (gb+1) wx.heap.size/\(G.row B2 m2).Td wx:=by
     have h1:=G.in_rows.1 g3 B2 m2 s_;have h2:∀b,(G.row B2 m2).Has b->¬b=gb:=λb hb h=>by have:=(G.In.has hb h1).1;omega
     exact⟨G.In.more o_ f3.size _ (h1.frH f3 (Nat.le_refl _) h2),λb hb=>by
      obtain⟨e,cs,q1,q2⟩:=g4 b (G.mk_has.2 ⟨B2,m2,by simp,hb⟩);exact⟨e,cs,q1,q2.fr f3 (h2 b hb)⟩⟩
    have D2:Hid (R5 wr gb op nm sc ab wh p1 q1 t1 l1 p2 q2 t2 l2 A3 z3 l3 A4 z4 l4 A5 z5 l5 A6 z6 l6 wx):=zaa ⟨B1,i2,m1,B2,i7,m2,k3,g5,i1,i3,⟨o0,o1,n5,d7⟩,o4,o7,n9,f4⟩;clear i0 i5 e1 e3 e4 g1 g3 g4 k9 k3 f3 C0 g5 i1 i3 o0 o1 n5 d7 o4 o7 n9 f4 r2 o9 j4 l7;go_wp2_with fail;go_meet
    case rel=>exact D2.out
  obtain⟨B1,i2,m1,B2,i7,m2,k3,g5,i1,i3,g7⟩:=hcut;generalize wc=W5 at*;have h4:=zaa k3;have k4:=zaa g5;have k5:=zaa i1;have j9:=zaa i3;have j6:=zaa g7;have r4:=k3.lt;clear k3 g5 i1 i3 g7 r2 o9 j4 l7;go_upto_region 6 with(fail);go_cut []from 10 to 42 (R6 wr gb op nm sc ab wh k1 n1 s1 l1 k2 n2 s2 l2 A3 z3 l3 A4 z4 l4 A5 z5 l5 A6 z6 l6)
  case first=>as_aux_lemma=>
   refine zbb (I:=λa0 f a wx=>∃y0 y1 y2 y3 y4 y5 y6 y7 y8 y9 m7 l8 r,a=((((((((((((a0.put (some 22) y0).put (some 23) y1).put (some 24) y2).put (some 25) y3).put (some 26) y4).put (some 27) y5).put (some 28) y6).put (some 29) y7).put (some 30) y8).put (some 31) y9).put (some 32) m7).put (some 33) l8)/\RcI (oc6 gb A3 A4 A5 z3 z4 z5 l3 l4 l5) W5 f [y0,y1,y2,y3,y4,y5,y6,y7,y8,y9,undef,m7,undef,l8,undef] r wx) k_ k_ ?st ?step ?en
   case st=>exact⟨_,_,_,_,_,_,_,_,_,_,_,_,(λ_=>(none,0,[])),by simp only[Act.put,lp_]<;>rfl,RcI.begin (zax _ _ _ _ _ _ _ _ _ _) W5 _ _⟩
   case step=>as_aux_lemma=>
    rintro i oo f a wx ho hf hd ⟨y0,y1,y2,y3,y4,y5,y6,y7,y8,y9,m7,l8,r,rfl,J⟩ K' hK;have j5:=(Array.getElem?_eq_some_iff.1 ho).1;simp only[List.size_toArray,List.length_cons,List.length_nil]at j5;have p3:i=0\/i=1\/i=2\/i=3\/i=4\/i=5\/i=6\/i=7\/i=8\/i=9\/i=10\/i=11\/i=12\/i=13\/i=14:=o_;simp only[Act.put,lp_];rcases p3 with rfl|rfl|rfl|rfl|rfl|rfl|rfl|rfl|rfl|rfl|rfl|rfl|rfl|rfl|rfl
    .simp only[List.getElem?_toArray,List.getElem?_cons_zero,Option.some.injEq]at ho;subst ho;have a9:=zaa hf;have HJ:=zaa J;clear J hd hf;go_simp;exact hK.out _ _ ⟨_,_,_,_,_,_,_,_,_,_,_,_,r,by simp only[Act.put,lp_]<;>rfl,HJ.out.quiet (zax _ _ _ _ _ _ _ _ _ _) (i:=0) rfl rfl s_ (λc h=>nomatch h)⟩
    .simp only[List.getElem?_toArray,List.getElem?_cons_succ,List.getElem?_cons_zero,Option.some.injEq]at ho;subst ho;have b0:=hd ⟨0,.data⟩ s_ r_;obtain rfl:y0= .pointer (some ⟨gb,13,none⟩):=J.x 0 b0 rfl;have FX:=zaa (J.fr (zax _ _ _ _ _ _ _ _ _ _) (J.none hf λs hs=>zck d_ hs));have a9:=zaa hf;have B0:=zaa b0;have hB:=h4.out.fr FX.out λh=>h;have hq:=hB.lt;have z9:wx.cell? ⟨gb,13,none⟩=some (.slice A3 l3.length z3):=hB.cell 13;clear hB;have HJ:=zaa J;clear J hd hf b0;go_simp;exact hK.out _ _ ⟨_,_,_,_,_,_,_,_,_,_,_,_,r,by simp only[Act.put,lp_]<;>rfl,HJ.out.quiet (zax _ _ _ _ _ _ _ _ _ _) (i:=1) rfl rfl s_ (λc h=>nomatch h)⟩
    .simp only[List.getElem?_toArray,List.getElem?_cons_succ,List.getElem?_cons_zero,Option.some.injEq]at ho;subst ho;have b1:=hd ⟨1,.data⟩ s_ r_;obtain rfl:y1= .slice A3 l3.length z3:=J.x 1 b1 rfl;have FX:=zaa (J.fr (zax _ _ _ _ _ _ _ _ _ _) (J.none hf λs hs=>zck d_ hs));have a9:=zaa hf;have B1:=zaa b1;have HJ:=zaa J;clear J hd hf b1;go_simp;have d9:=r6.out wx (k4.out.trans FX.out);refine d9.mono ?_;rintro e w2 ⟨A',c',l',he,q1,q2,q3,q4,q5,q6,f2⟩;have h0:=zaa f2;have h6:=zaa (And.intro q1 (And.intro q2 (And.intro q3 (And.intro q4 (And.intro (G.In.more FX.out.size (Nat.le_refl _) _ q5) q6)))));subst he;clear f2 q1 q2 q3 q4 q5 q6;try go_simp
     exact hK.out _ _ ⟨_,_,_,_,_,_,_,_,_,_,_,_,_,by simp only[Act.put,lp_]<;>rfl,HJ.out.call (zax _ _ _ _ _ _ _ _ _ _) a9.out rfl rfl s_ (λc h=>nomatch h) h0.out (b:=(A',c',l')) h6.out⟩
    .simp only[List.getElem?_toArray,List.getElem?_cons_succ,List.getElem?_cons_zero,Option.some.injEq]at ho;subst ho;have a9:=zaa hf;have HJ:=zaa J;clear J hd hf;go_simp;exact hK.out _ _ ⟨_,_,_,_,_,_,_,_,_,_,_,_,r,by simp only[Act.put,lp_]<;>rfl,HJ.out.quiet (zax _ _ _ _ _ _ _ _ _ _) (i:=3) rfl rfl s_ (λc h=>nomatch h)⟩
    .simp only[List.getElem?_toArray,List.getElem?_cons_succ,List.getElem?_cons_zero,Option.some.injEq]at ho;subst ho;have b3:=hd ⟨3,.data⟩ s_ r_;obtain rfl:y3= .pointer (some ⟨gb,14,none⟩):=J.x 3 b3 rfl;have FX:=zaa (J.fr (zax _ _ _ _ _ _ _ _ _ _) (J.none hf λs hs=>zck d_ hs));have a9:=zaa hf;have B3:=zaa b3;have hB:=h4.out.fr FX.out λh=>h;have hq:=hB.lt;have A8:wx.cell? ⟨gb,14,none⟩=some (.slice A4 l4.length z4):=hB.cell 14;clear hB;have HJ:=zaa J;clear J hd hf b3;go_simp;exact hK.out _ _ ⟨_,_,_,_,_,_,_,_,_,_,_,_,r,by simp only[Act.put,lp_]<;>rfl,HJ.out.quiet (zax _ _ _ _ _ _ _ _ _ _) (i:=4) rfl rfl s_ (λc h=>nomatch h)⟩
    .simp only[List.getElem?_toArray,List.getElem?_cons_succ,List.getElem?_cons_zero,Option.some.injEq]at ho;subst ho;have b4:=hd ⟨4,.data⟩ s_ r_;obtain rfl:y4= .slice A4 l4.length z4:=J.x 4 b4 rfl;have FX:=zaa (J.fr (zax _ _ _ _ _ _ _ _ _ _) (J.none hf λs hs=>zck d_ hs));have c1:∀c,(oc6 gb A3 A4 A5 z3 z4 z5 l3 l4 l5).dep 5 c=true->f c=true:=by
      intro c hc;have f9:c=2:=by simpa[oc6]using hc
      rcases f9 with rfl
      .first|exact zac hd r_
     have a9:=zaa hf;have B4:=zaa b4;have HJ:=zaa J;have c0:=zaa c1;clear J hd hf b4 c1;go_simp;have d9:=p4.out wx (k4.out.trans FX.out);refine d9.mono ?_;rintro e w2 ⟨A',c',l',he,q1,q2,q3,q4,q5,q6,f2⟩;have h0:=zaa f2;have h6:=zaa (And.intro q1 (And.intro q2 (And.intro q3 (And.intro q4 (And.intro (G.In.more FX.out.size (Nat.le_refl _) _ q5) q6)))));subst he;clear f2 q1 q2 q3 q4 q5 q6;try go_simp
     exact hK.out _ _ ⟨_,_,_,_,_,_,_,_,_,_,_,_,_,by simp only[Act.put,lp_]<;>rfl,HJ.out.call (zax _ _ _ _ _ _ _ _ _ _) a9.out rfl rfl s_ c0.out h0.out (b:=(A',c',l')) h6.out⟩
    .simp only[List.getElem?_toArray,List.getElem?_cons_succ,List.getElem?_cons_zero,Option.some.injEq]at ho;subst ho;have a9:=zaa hf;have HJ:=zaa J;clear J hd hf;go_simp;exact hK.out _ _ ⟨_,_,_,_,_,_,_,_,_,_,_,_,r,by simp only[Act.put,lp_]<;>rfl,HJ.out.quiet (zax _ _ _ _ _ _ _ _ _ _) (i:=6) rfl rfl s_ (λc h=>nomatch h)⟩
    .simp only[List.getElem?_toArray,List.getElem?_cons_succ,List.getElem?_cons_zero,Option.some.injEq]at ho;subst ho;have b6:=hd ⟨6,.data⟩ s_ r_;obtain rfl:y6= .pointer (some ⟨gb,15,none⟩):=J.x 6 b6 rfl;have FX:=zaa (J.fr (zax _ _ _ _ _ _ _ _ _ _) (J.none hf λs hs=>zck d_ hs));have a9:=zaa hf;have B6:=zaa b6;have hB:=h4.out.fr FX.out λh=>h;have hq:=hB.lt;have E4:wx.cell? ⟨gb,15,none⟩=some (.slice A5 l5.length z5):=hB.cell 15;clear hB;have HJ:=zaa J;clear J hd hf b6;go_simp;exact hK.out _ _ ⟨_,_,_,_,_,_,_,_,_,_,_,_,r,by simp only[Act.put,lp_]<;>rfl,HJ.out.quiet (zax _ _ _ _ _ _ _ _ _ _) (i:=7) rfl rfl s_ (λc h=>nomatch h)⟩
    .simp only[List.getElem?_toArray,List.getElem?_cons_succ,List.getElem?_cons_zero,Option.some.injEq]at ho;subst ho;have b7:=hd ⟨7,.data⟩ s_ r_;obtain rfl:y7= .slice A5 l5.length z5:=J.x 7 b7 rfl;have FX:=zaa (J.fr (zax _ _ _ _ _ _ _ _ _ _) (J.none hf λs hs=>zck d_ hs));have c1:∀c,(oc6 gb A3 A4 A5 z3 z4 z5 l3 l4 l5).dep 8 c=true->f c=true:=by
      intro c hc;have f9:c=2\/c=5:=by simpa[oc6]using hc
      rcases f9 with rfl|rfl
      .first|exact zac hd r_|exact J.d 5 2 rfl (zac hd r_)
      .first|exact zac hd r_|exact J.d 5 5 rfl (zac hd r_)
     have a9:=zaa hf;have B7:=zaa b7;have HJ:=zaa J;have c0:=zaa c1;clear J hd hf b7 c1;go_simp;have d9:=q9.out wx (k4.out.trans FX.out);refine d9.mono ?_;rintro e w2 ⟨A',c',l',he,q1,q2,q3,q4,q5,q6,f2⟩;have h0:=zaa f2;have h6:=zaa (And.intro q1 (And.intro q2 (And.intro q3 (And.intro q4 (And.intro (G.In.more FX.out.size (Nat.le_refl _) _ q5) q6)))));subst he;clear f2 q1 q2 q3 q4 q5 q6;try go_simp
     exact hK.out _ _ ⟨_,_,_,_,_,_,_,_,_,_,_,_,_,by simp only[Act.put,lp_]<;>rfl,HJ.out.call (zax _ _ _ _ _ _ _ _ _ _) a9.out rfl rfl s_ c0.out h0.out (b:=(A',c',l')) h6.out⟩
    .simp only[List.getElem?_toArray,List.getElem?_cons_succ,List.getElem?_cons_zero,Option.some.injEq]at ho;subst ho;have a9:=zaa hf;have HJ:=zaa J;clear J hd hf;go_simp;exact hK.out _ _ ⟨_,_,_,_,_,_,_,_,_,_,_,_,r,by simp only[Act.put,lp_]<;>rfl,HJ.out.quiet (zax _ _ _ _ _ _ _ _ _ _) (i:=9) rfl rfl s_ (λc h=>nomatch h)⟩
    .simp only[List.getElem?_toArray,List.getElem?_cons_succ,List.getElem?_cons_zero,Option.some.injEq]at ho;subst ho;have b9:=hd ⟨9,.data⟩ s_ r_;obtain rfl:y9= .pointer (some ⟨gb,13,none⟩):=J.x 9 b9 rfl;have b2:=hd ⟨2,.data⟩ s_ r_;obtain rfl:y2= .slice (r 2).1 l3.length (r 2).2.1:=J.x 2 b2 rfl;have c1:∀c,(oc6 gb A3 A4 A5 z3 z4 z5 l3 l4 l5).dep 10 c=true->f c=true:=by
      intro c hc;have f9:c=0\/c=1\/c=2\/c=3\/c=4\/c=5\/c=6\/c=7\/c=8\/c=9:=by have:c<=9:=of_decide_eq_true hc;omega
      rcases f9 with rfl|rfl|rfl|rfl|rfl|rfl|rfl|rfl|rfl|rfl
      .first|exact zac hd r_|exact J.d 8 0 rfl (zac hd r_)
      .first|exact zac hd r_|exact J.d 8 1 rfl (zac hd r_)
      .first|exact zac hd r_|exact J.d 8 2 rfl (zac hd r_)
      .first|exact zac hd r_|exact J.d 8 3 rfl (zac hd r_)
      .first|exact zac hd r_|exact J.d 8 4 rfl (zac hd r_)
      .first|exact zac hd r_|exact J.d 8 5 rfl (zac hd r_)
      .first|exact zac hd r_|exact J.d 8 6 rfl (zac hd r_)
      .first|exact zac hd r_|exact J.d 8 7 rfl (zac hd r_)
      .first|exact zac hd r_|exact J.d 8 8 rfl (zac hd r_)
      .first|exact zac hd r_|exact J.d 8 9 rfl (zac hd r_)
     have a9:=zaa hf;have B9:=zaa b9;have B2:=zaa b2;have hM:=J.m;obtain⟨w3,d7,f4,f6⟩:=hM;obtain⟨h5,hB,f5⟩:=zfh (A3:=A3) (A4:=A4) (A5:=A5) (z3:=z3) (z4:=z4) (z5:=z5) (l3:=l3) (l4:=l4) (l5:=l5) (f:=f) (r:=r) (h4.out.fr d7 λh=>h);rw[<-f6]at hB;have hz:=hB.frozen;have hq:=hB.lt;have f0:h5.size=17:=by rw[f5];rfl
     obtain⟨G5,z9⟩:=zar hB (k:=13) o_;have E0:f 12=false:=by
      cases q:f 12 with
      |false=>rfl
      |true=>rw[J.d 12 10 rfl q]at hf;cases hf
     have r1:f 14=false:=by
      cases q:f 14 with
      |false=>rfl
      |true=>rw[J.d 14 10 rfl q]at hf;cases hf
     have j3:=zaa (λw3 (h:wx=(oc6 gb A3 A4 A5 z3 z4 z5 l3 l4 l5).M f r w3)=>zlm hf E0 r1 h);clear d7 f4 f6 hB f5 f0;have HJ:=zaa J;have c0:=zaa c1;clear J hd hf b9 b2 c1;go_simp;exact hK.out _ _ ⟨_,_,_,_,_,_,_,_,_,_,_,_,r,by simp only[Act.put,lp_]<;>rfl,HJ.out.store (i:=10) rfl rfl c0.out (λw3 h=>j3.out w3 h)⟩
    .simp only[List.getElem?_toArray,List.getElem?_cons_succ,List.getElem?_cons_zero,Option.some.injEq]at ho;subst ho;have a9:=zaa hf;have HJ:=zaa J;clear J hd hf;go_simp;exact hK.out _ _ ⟨_,_,_,_,_,_,_,_,_,_,_,_,r,by simp only[Act.put,lp_]<;>rfl,HJ.out.quiet (zax _ _ _ _ _ _ _ _ _ _) (i:=11) rfl rfl s_ (λc h=>nomatch h)⟩
    .simp only[List.getElem?_toArray,List.getElem?_cons_succ,List.getElem?_cons_zero,Option.some.injEq]at ho;subst ho;have o5:=hd ⟨11,.data⟩ s_ r_;obtain rfl:m7= .pointer (some ⟨gb,14,none⟩):=J.x 11 o5 rfl;have b5:=hd ⟨5,.data⟩ s_ r_;obtain rfl:y5= .slice (r 5).1 l4.length (r 5).2.1:=J.x 5 b5 rfl;have c1:∀c,(oc6 gb A3 A4 A5 z3 z4 z5 l3 l4 l5).dep 12 c=true->f c=true:=by
      intro c hc;have f9:c=0\/c=1\/c=2\/c=3\/c=4\/c=5\/c=6\/c=7\/c=8\/c=9\/c=10\/c=11:=by have:c<=11:=of_decide_eq_true hc;omega
      rcases f9 with rfl|rfl|rfl|rfl|rfl|rfl|rfl|rfl|rfl|rfl|rfl|rfl
      .first|exact zac hd r_|exact J.d 10 0 rfl (zac hd r_)|exact J.d 8 0 rfl (zac hd r_)
      .first|exact zac hd r_|exact J.d 10 1 rfl (zac hd r_)|exact J.d 8 1 rfl (zac hd r_)
      .first|exact zac hd r_|exact J.d 10 2 rfl (zac hd r_)|exact J.d 8 2 rfl (zac hd r_)
      .first|exact zac hd r_|exact J.d 10 3 rfl (zac hd r_)|exact J.d 8 3 rfl (zac hd r_)
      .first|exact zac hd r_|exact J.d 10 4 rfl (zac hd r_)|exact J.d 8 4 rfl (zac hd r_)
      .first|exact zac hd r_|exact J.d 10 5 rfl (zac hd r_)|exact J.d 8 5 rfl (zac hd r_)
      .first|exact zac hd r_|exact J.d 10 6 rfl (zac hd r_)|exact J.d 8 6 rfl (zac hd r_)
      .first|exact zac hd r_|exact J.d 10 7 rfl (zac hd r_)|exact J.d 8 7 rfl (zac hd r_)
      .first|exact zac hd r_|exact J.d 10 8 rfl (zac hd r_)|exact J.d 8 8 rfl (zac hd r_)
      .first|exact zac hd r_|exact J.d 10 9 rfl (zac hd r_)|exact J.d 8 9 rfl (zac hd r_)
      .first|exact zac hd r_|exact J.d 10 10 rfl (zac hd r_)|exact J.d 8 10 rfl (zac hd r_)
      .first|exact zac hd r_|exact J.d 10 11 rfl (zac hd r_)|exact J.d 8 11 rfl (zac hd r_)
     have a9:=zaa hf;have G2:=zaa o5;have B5:=zaa b5;have hM:=J.m;obtain⟨w3,d7,f4,f6⟩:=hM;obtain⟨h5,hB,f5⟩:=zfh (A3:=A3) (A4:=A4) (A5:=A5) (z3:=z3) (z4:=z4) (z5:=z5) (l3:=l3) (l4:=l4) (l5:=l5) (f:=f) (r:=r) (h4.out.fr d7 λh=>h);rw[<-f6]at hB;have hz:=hB.frozen;have hq:=hB.lt;have f0:h5.size=17:=by rw[f5];rfl
     obtain⟨F0,A8⟩:=zar hB (k:=14) o_;have r3:f 10=true:=c1 10 rfl;have r1:f 14=false:=by
      cases q:f 14 with
      |false=>rfl
      |true=>rw[J.d 14 12 rfl q]at hf;cases hf
     have j3:=zaa (λw3 (h:wx=(oc6 gb A3 A4 A5 z3 z4 z5 l3 l4 l5).M f r w3)=>zln r3 hf r1 h);clear d7 f4 f6 hB f5 f0;have HJ:=zaa J;have c0:=zaa c1;clear J hd hf o5 b5 c1;go_simp;exact hK.out _ _ ⟨_,_,_,_,_,_,_,_,_,_,_,_,r,by simp only[Act.put,lp_]<;>rfl,HJ.out.store (i:=12) rfl rfl c0.out (λw3 h=>j3.out w3 h)⟩
    .simp only[List.getElem?_toArray,List.getElem?_cons_succ,List.getElem?_cons_zero,Option.some.injEq]at ho;subst ho;have a9:=zaa hf;have HJ:=zaa J;clear J hd hf;go_simp;exact hK.out _ _ ⟨_,_,_,_,_,_,_,_,_,_,_,_,r,by simp only[Act.put,lp_]<;>rfl,HJ.out.quiet (zax _ _ _ _ _ _ _ _ _ _) (i:=13) rfl rfl s_ (λc h=>nomatch h)⟩
    .simp only[List.getElem?_toArray,List.getElem?_cons_succ,List.getElem?_cons_zero,Option.some.injEq]at ho;subst ho;have o8:=hd ⟨13,.data⟩ s_ r_;obtain rfl:l8= .pointer (some ⟨gb,15,none⟩):=J.x 13 o8 rfl;have b8:=hd ⟨8,.data⟩ s_ r_;obtain rfl:y8= .slice (r 8).1 l5.length (r 8).2.1:=J.x 8 b8 rfl;have c1:∀c,(oc6 gb A3 A4 A5 z3 z4 z5 l3 l4 l5).dep 14 c=true->f c=true:=by
      intro c hc;have f9:c=0\/c=1\/c=2\/c=3\/c=4\/c=5\/c=6\/c=7\/c=8\/c=9\/c=10\/c=11\/c=12\/c=13:=by have:c<=13:=of_decide_eq_true hc;omega
      rcases f9 with rfl|rfl|rfl|rfl|rfl|rfl|rfl|rfl|rfl|rfl|rfl|rfl|rfl|rfl
      .first|exact zac hd r_|exact J.d 12 0 rfl (zac hd r_)|exact J.d 10 0 rfl (zac hd r_)|exact J.d 8 0 rfl (zac hd r_)
      .first|exact zac hd r_|exact J.d 12 1 rfl (zac hd r_)|exact J.d 10 1 rfl (zac hd r_)|exact J.d 8 1 rfl (zac hd r_)
      .first|exact zac hd r_|exact J.d 12 2 rfl (zac hd r_)|exact J.d 10 2 rfl (zac hd r_)|exact J.d 8 2 rfl (zac hd r_)
      .first|exact zac hd r_|exact J.d 12 3 rfl (zac hd r_)|exact J.d 10 3 rfl (zac hd r_)|exact J.d 8 3 rfl (zac hd r_)
      .first|exact zac hd r_|exact J.d 12 4 rfl (zac hd r_)|exact J.d 10 4 rfl (zac hd r_)|exact J.d 8 4 rfl (zac hd r_)
      .first|exact zac hd r_|exact J.d 12 5 rfl (zac hd r_)|exact J.d 10 5 rfl (zac hd r_)|exact J.d 8 5 rfl (zac hd r_)
      .first|exact zac hd r_|exact J.d 12 6 rfl (zac hd r_)|exact J.d 10 6 rfl (zac hd r_)|exact J.d 8 6 rfl (zac hd r_)
      .first|exact zac hd r_|exact J.d 12 7 rfl (zac hd r_)|exact J.d 10 7 rfl (zac hd r_)|exact J.d 8 7 rfl (zac hd r_)
      .first|exact zac hd r_|exact J.d 12 8 rfl (zac hd r_)|exact J.d 10 8 rfl (zac hd r_)|exact J.d 8 8 rfl (zac hd r_)
      .first|exact zac hd r_|exact J.d 12 9 rfl (zac hd r_)|exact J.d 10 9 rfl (zac hd r_)|exact J.d 8 9 rfl (zac hd r_)
      .first|exact zac hd r_|exact J.d 12 10 rfl (zac hd r_)|exact J.d 10 10 rfl (zac hd r_)|exact J.d 8 10 rfl (zac hd r_)
      .first|exact zac hd r_|exact J.d 12 11 rfl (zac hd r_)|exact J.d 10 11 rfl (zac hd r_)|exact J.d 8 11 rfl (zac hd r_)
      .first|exact zac hd r_|exact J.d 12 12 rfl (zac hd r_)|exact J.d 10 12 rfl (zac hd r_)|exact J.d 8 12 rfl (zac hd r_)
      .first|exact zac hd r_|exact J.d 12 13 rfl (zac hd r_)|exact J.d 10 13 rfl (zac hd r_)|exact J.d 8 13 rfl (zac hd r_)
     have a9:=zaa hf;have F4:=zaa o8;have B8:=zaa b8;have hM:=J.m;obtain⟨w3,d7,f4,f6⟩:=hM;obtain⟨h5,hB,f5⟩:=zfh (A3:=A3) (A4:=A4) (A5:=A5) (z3:=z3) (z4:=z4) (z5:=z5) (l3:=l3) (l4:=l4) (l5:=l5) (f:=f) (r:=r) (h4.out.fr d7 λh=>h);rw[<-f6]at hB;have hz:=hB.frozen;have hq:=hB.lt;have f0:h5.size=17:=by rw[f5];rfl
     obtain⟨H1,E4⟩:=zar hB (k:=15) o_;have r3:f 10=true:=c1 10 rfl;have D7:f 12=true:=c1 12 rfl;have j3:=zaa (λw3 (h:wx=(oc6 gb A3 A4 A5 z3 z4 z5 l3 l4 l5).M f r w3)=>zlo r3 D7 hf h);clear d7 f4 f6 hB f5 f0;have HJ:=zaa J;have c0:=zaa c1;clear J hd hf o8 b8 c1;go_simp;exact hK.out _ _ ⟨_,_,_,_,_,_,_,_,_,_,_,_,r,by simp only[Act.put,lp_]<;>rfl,HJ.out.store (i:=14) rfl rfl c0.out (λw3 h=>j3.out w3 h)⟩
   case en=>
    rintro f a wx a8 ⟨y0,y1,y2,y3,y4,y5,y6,y7,y8,y9,m7,l8,r,rfl,J⟩;obtain rfl:y2= .slice (r 2).1 l3.length (r 2).2.1:=J.x 2 (a8 2 s_) rfl;obtain rfl:y5= .slice (r 5).1 l4.length (r 5).2.1:=J.x 5 (a8 5 s_) rfl;obtain rfl:y8= .slice (r 8).1 l5.length (r 8).2.1:=J.x 8 (a8 8 s_) rfl;simp only[Act.put,lp_];obtain⟨w3,i5,hP,hM⟩:=J.m;have P2:=hP 2 rfl (a8 2 s_);have P5:=hP 5 rfl (a8 5 s_);have P8:=hP 8 rfl (a8 8 s_);have i0:wx=((w3.setCell ⟨gb,13,none⟩ (.slice (r 2).1 l3.length (r 2).2.1)).setCell ⟨gb,14,none⟩ (.slice (r 5).1 l4.length (r 5).2.1)).setCell ⟨gb,15,none⟩ (.slice (r 8).1 l5.length (r 8).2.1):=by rw[hM];simp[oc6,a8 10 s_,a8 12 s_,a8 14 s_]
    clear J a8 hP hM;generalize r 2=ra at*;generalize r 5=rb at*;generalize r 8=rc at*;obtain⟨B3,k0,m3⟩:=ra;obtain⟨B4,j7,m4⟩:=rb;obtain⟨B5,j8,m5⟩:=rc;obtain⟨a1,a2,a3,a4,a5,a6⟩:=P2;obtain⟨b1,b2,b3,b4,b5,b6⟩:=P5;obtain⟨d1,d2,d3,d4,d5,d6⟩:=P8;rw[if_pos rfl]at a1 a2 a4;rw[if_neg d_,if_pos rfl]at b1 b2 b4;rw[if_neg d_,if_neg d_]at d1 d2 d4;dsimp only at a1 a2 a3 a4 a5 a6 b1 b2 b3 b4 b5 b6 d1 d2 d3 d4 d5 d6 i0 ⊢;have k9:=h4.out.fr i5 λh=>h;have i8:Blk wx gb 311 #[.int .u8 op,.string nm,.string sc,.int .u8 ab,.int .u8 wh,.int .u8 k1,.int .i64 n1,.string s1,.slice B1 m1.length i2,.int .u8 k2,.int .i64 n2,.string s2,.slice B2 m2.length i7,.slice B3 l3.length k0,.slice B4 l4.length j7,.slice B5 l5.length j8,.slice A6 l6.length z6]:=by
     rw[i0];simpa only[List.setIfInBounds_toArray,List.set_cons_zero,List.set_cons_succ]using((k9.set_ 13 (.slice B3 l3.length k0)).set_ 14 (.slice B4 l4.length j7)).set_ 15 (.slice B5 l5.length j8)
    have f8:Fr (λi=>i=gb) w3 wx:=by rw[i0];exact(((Fr.refl (λi=>i=gb) w3).set (λ_=>rfl) _).set (λ_=>rfl) _).set (λ_=>rfl) _
    have s6:wr.heap.size<=gb:=o_;have g6:Fr No wr wx:=(k4.out.trans i5).trans' f8 λi hi h=>by have h':i=gb:=h;omega
    have A0:gb<W5.heap.size:=r4;have mv:∀(A:Option Addr) (l:List G),(G.row A l).In w3 W5.heap.size w3.heap.size->(G.row A l).Td w3->(G.row A l).In wx (gb+1) wx.heap.size/\(G.row A l).Td wx:=λA l h1 h3=>by
     have h2:∀b,(G.row A l).Has b->¬b=gb:=λb hb h=>by have:=(G.In.has hb h1).1;omega
     exact⟨G.In.more o_ f8.size _ (h1.frH f8 (Nat.le_refl _) h2),λb hb=>by
      obtain⟨e,cs,q1,q2⟩:=h3 b hb;exact⟨e,cs,q1,q2.fr f8 (h2 b hb)⟩⟩
    have p0:Fr (λi=>i=gb) W5 wx:=i5.no.trans f8;have C6:Hid (R6 wr gb op nm sc ab wh k1 n1 s1 l1 k2 n2 s2 l2 A3 z3 l3 A4 z4 l4 A5 z5 l5 A6 z6 l6 wx):=zaa ⟨B1,i2,m1,B2,i7,m2,B3,k0,m3,B4,j7,m4,B5,j8,m5,i8,g6,zcm k5.out p0,zcm j9.out p0,mv B3 m3 a5 a6,mv B4 m4 b5 b6,mv B5 m5 d5 d6,j6.out,⟨a1,a2,a3,a4⟩,⟨b1,b2,b3,b4⟩,d1,d2,d3,d4⟩;clear i0 i5 a1 a2 a3 a4 a5 a6 b1 b2 b3 b4 b5 b6 d1 d2 d3 d4 d5 d6 k9 i8 f8 s6 g6 A0 mv p0 r6 p4 q9 h4 k4 r4;go_wp2_with fail;go_meet
    case rel=>exact C6.out
  obtain⟨B1,i2,m1,B2,i7,m2,B3,k0,m3,B4,j7,m4,B5,j8,m5,i8,g6,i1,i3,s4,z8,z7,g7,s8⟩:=hcut;generalize wc=wx at*;have k5:=zaa i1;have j9:=zaa i3;have o6:=zaa s4;have n3:=zaa z8;have o2:=zaa z7;have j6:=zaa g7;have D6:=zaa s8;have r5:=zaa i8;have s0:=zaa g6;have z0:=i8.lt;have c16:wx.cell? ⟨gb,16,none⟩=some (.slice A6 l6.length z6):=i8.cell 16;clear i1 i3 s4 z8 z7 g7 s8 i8 g6 r6 p4 q9 h4 k4 r4;go_upto_region 7 with(fail);go_cut []from 10 to 42 (λw8=>∃(B6:Option Addr) (g0:Nat) (w7:World),w8=w7.setCell ⟨gb,16,none⟩ (.slice B6 l6.length g0)/\w7.ownsRow wx.heap.size 9 1 (.slice B6 l6.length g0) l6.length (za6 l6)/\Fr No wx w7)
  case first=>as_aux_lemma=>
   go_wp2_with fail;refine(w9.out wx s0.out).mono ?_;rintro e w7 ⟨B6,g0,rfl,n0,f7⟩;have g9:=r5.out.fr f7 λh=>h;have v1:=g9.frozen;have v4:=g9.lt;have m6:w7.cell? ⟨gb,16,none⟩=some (.slice A6 l6.length z6):=g9.cell 16;have m9:=zaa n0;have n4:=zaa f7;clear c16 g9 n0 f7 z0;go_wp2_with fail;go_meet
   case rel=>exact⟨B6,g0,w7,rfl,m9.out,n4.out⟩
  obtain⟨B6,g0,w7,rfl,n0,f7⟩:=hcut;have g9:=r5.out.fr f7 λh=>h;have v1:=g9.frozen;have v4:=g9.lt;have m6:w7.cell? ⟨gb,16,none⟩=some (.slice A6 l6.length z6):=g9.cell 16;have D8:=zaa g9;have m9:=zaa n0;have n4:=zaa f7;clear c16 g9 n0 f7 z0 w9;go_upto_region 8 with(fail);have d0:=D8.out.set_ 16 (.slice B6 l6.length g0);simp only[List.setIfInBounds_toArray,List.set_cons_zero,List.set_cons_succ]at d0;have o3:Fr (λi=>i=gb) w7 (w7.setCell ⟨gb,16,none⟩ (.slice B6 l6.length g0)):=(Fr.refl (λi=>i=gb) w7).set (λ_=>rfl) _;have D5:gb<wx.heap.size:=r5.out.lt;have s7:=zdd (lo:=gb+1) (hi:=w7.heap.size) o_ m9.out n7.out.2 (λx hx=>by obtain⟨s,rfl,-⟩:=zlv (n7.out.1 x hx);exact G.in_mk.2 s_) o_ (Nat.le_refl _);have s9:=row_td (l:=l6) (.inr (.inr (.inr (.inr rfl)))) m9.out rfl (λx hx=>by obtain⟨s,rfl,-⟩:=zlv (n7.out.1 x hx);intro b hb;obtain⟨A,l,hm,-⟩:=G.mk_has.1 hb;simp at hm);have k6:Fr (λi=>i=gb) wx (w7.setCell ⟨gb,16,none⟩ (.slice B6 l6.length g0)):=(n4.out.no).trans o3;have k5:=zaa (zcm k5.out k6);have j9:=zaa (zcm j9.out k6);have o6:=zaa (zcm o6.out k6);have n3:=zaa (zcm n3.out k6);have o2:=zaa (zcm o2.out k6);have s5:=zaa (zcm ⟨s7,s9⟩ o3);have q7:Fr No wr (w7.setCell ⟨gb,16,none⟩ (.slice B6 l6.length g0)):=(s0.out.trans n4.out).trans' o3 λi hi h=>by have h':i=gb:=h;omega
  clear s7 s9 k6 o3 m6 v1 v4 D5;generalize World.setCell w7 _ _=w8 at*;have g8:=i9.out.no q7;obtain⟨G9,w5,D0,D3,a7,C4⟩:=g8.at_ hlt p5.out (λx hx=>(zas (g8.ty x hx)).trans (by rw[zbl];rfl));simp only[Option.some.injEq,Addr.mk.injEq,and_true]at w5;subst w5;rw[HX.out]at a7;unfold stC at a7;have b0:w8.cell? ⟨gb,0,none⟩=some (.int .u8 op):=d0.cell 0;have b1:w8.cell? ⟨gb,1,none⟩=some (.string nm):=d0.cell 1;have b2:w8.cell? ⟨gb,2,none⟩=some (.string sc):=d0.cell 2;have b3:w8.cell? ⟨gb,3,none⟩=some (.int .u8 ab):=d0.cell 3;have b4:w8.cell? ⟨gb,4,none⟩=some (.int .u8 wh):=d0.cell 4;have b5:w8.cell? ⟨gb,5,none⟩=some (.int .u8 k1):=d0.cell 5;have b6:w8.cell? ⟨gb,6,none⟩=some (.int .i64 n1):=d0.cell 6;have b7:w8.cell? ⟨gb,7,none⟩=some (.string s1):=d0.cell 7;have b8:w8.cell? ⟨gb,8,none⟩=some (.slice B1 m1.length i2):=d0.cell 8;have b9:w8.cell? ⟨gb,9,none⟩=some (.int .u8 k2):=d0.cell 9;have G8:w8.cell? ⟨gb,10,none⟩=some (.int .i64 n2):=d0.cell 10;have o5:w8.cell? ⟨gb,11,none⟩=some (.string s2):=d0.cell 11;have F1:w8.cell? ⟨gb,12,none⟩=some (.slice B2 m2.length i7):=d0.cell 12;have o8:w8.cell? ⟨gb,13,none⟩=some (.slice B3 l3.length k0):=d0.cell 13;have G4:w8.cell? ⟨gb,14,none⟩=some (.slice B4 l4.length j7):=d0.cell 14;have F2:w8.cell? ⟨gb,15,none⟩=some (.slice B5 l5.length j8):=d0.cell 15;have G6:w8.cell? ⟨gb,16,none⟩=some (.slice B6 l6.length g0):=d0.cell 16;have e0:w8.cell? ⟨gr,j*17,none⟩=some (.int .u8 op):=a7 0 _ rfl;have e1:w8.cell? ⟨gr,j*17+1,none⟩=some (.string nm):=a7 1 _ rfl;have e2:w8.cell? ⟨gr,j*17+2,none⟩=some (.string sc):=a7 2 _ rfl;have e3:w8.cell? ⟨gr,j*17+3,none⟩=some (.int .u8 ab):=a7 3 _ rfl;have e4:w8.cell? ⟨gr,j*17+4,none⟩=some (.int .u8 wh):=a7 4 _ rfl;have e5:w8.cell? ⟨gr,j*17+5,none⟩=some (.int .u8 k1):=a7 5 _ rfl;have e6:w8.cell? ⟨gr,j*17+6,none⟩=some (.int .i64 n1):=a7 6 _ rfl;have e7:w8.cell? ⟨gr,j*17+7,none⟩=some (.string s1):=a7 7 _ rfl;have e8:w8.cell? ⟨gr,j*17+8,none⟩=some (.slice A1 l1.length z1):=a7 8 _ rfl;have e9:w8.cell? ⟨gr,j*17+9,none⟩=some (.int .u8 k2):=a7 9 _ rfl;have E8:w8.cell? ⟨gr,j*17+10,none⟩=some (.int .i64 n2):=a7 10 _ rfl;have G0:w8.cell? ⟨gr,j*17+11,none⟩=some (.string s2):=a7 11 _ rfl;have F3:w8.cell? ⟨gr,j*17+12,none⟩=some (.slice A2 l2.length z2):=a7 12 _ rfl;have E5:w8.cell? ⟨gr,j*17+13,none⟩=some (.slice A3 l3.length z3):=a7 13 _ rfl;have G1:w8.cell? ⟨gr,j*17+14,none⟩=some (.slice A4 l4.length z4):=a7 14 _ rfl;have F9:w8.cell? ⟨gr,j*17+15,none⟩=some (.slice A5 l5.length z5):=a7 15 _ rfl;have E7:w8.cell? ⟨gr,j*17+16,none⟩=some (.slice A6 l6.length z6):=a7 16 _ rfl;have F5:=d0.lt;have C7:gr<w8.heap.size:=by have:=g8.big;omega
  have C2:=zaa q7;have F8:=zaa g8;clear a7 d0 q7 g8;go_wp2_with fail;go_roundw
  case rel=>
   obtain⟨⟨o0,o1,n5,d7⟩,o4,o7,n9,f4⟩:=j6.out;obtain⟨⟨a1,a2,a3,a4⟩,⟨b1,b2,b3,b4⟩,d1,d2,d3,d4⟩:=D6.out;obtain⟨d8,-,-⟩:=HS.out;have p6:l6.length<=g0:=zcf m9.out;have hy:=zoc (op:=op) (nm:=nm) (sc:=sc) (ab:=ab) (wh:=wh) (A1:=B1) (A2:=B2) (A3:=B3) (A4:=B4) (A5:=B5) (A6:=B6) (z3:=k0) (z4:=j7) (z5:=j8) (z6:=g0) (l3:=m3) (l4:=m4) (l5:=m5) (l6:=l6) ⟨d8.op0,d8.nm1,d8.sc1,d8.ab0,d8.wh0,⟨by rw[a1];exact d8.th1.1,by rw[a1];exact a2⟩,⟨by rw[b1];exact d8.el1.1,by rw[b1];exact b2⟩,⟨by rw[d1];exact d8.co1.1,by rw[d1];exact d2⟩,⟨d8.wi1.1,p6⟩⟩ o0 o4 o1 o7 a3 b3 d3 n7.out.1;rw[a1,b1,d1]at hy;have k8:=i9.out.step hlt p5.out (λx hx=>(zas (i9.out.ty x hx)).trans (by rw[zbl];rfl)) C2.out hy (by
    rw[HX.out,G.er_mk,G.er_mk];simp[stC,erV,d7,f4,a4,b4,d4,n5,n9]) rfl (G.in_rows.2 λA' l' hm=>by
    simp at hm;rcases hm with⟨rfl,rfl⟩|⟨rfl,rfl⟩|⟨rfl,rfl⟩|⟨rfl,rfl⟩|⟨rfl,rfl⟩|⟨rfl,rfl⟩
    .exact G.In.more o_ (Nat.le_refl _) _ k5.out.1
    .exact G.In.more o_ (Nat.le_refl _) _ j9.out.1
    .exact G.In.more o_ (Nat.le_refl _) _ o6.out.1
    .exact G.In.more o_ (Nat.le_refl _) _ n3.out.1
    .exact G.In.more o_ (Nat.le_refl _) _ o2.out.1
    .exact G.In.more o_ (Nat.le_refl _) _ s5.out.1) (λb hb=>by
    obtain⟨A',l',hm,hh⟩:=G.mk_has.1 hb;simp at hm;rcases hm with⟨rfl,rfl⟩|⟨rfl,rfl⟩|⟨rfl,rfl⟩|⟨rfl,rfl⟩|⟨rfl,rfl⟩|⟨rfl,rfl⟩
    .exact k5.out.2 b hh
    .exact j9.out.2 b hh
    .exact o6.out.2 b hh
    .exact n3.out.2 b hh
    .exact o2.out.2 b hh
    .exact s5.out.2 b hh)
   have m0:=k8;clear k8;simp only[stC,G.c,setRow,Nat.add_assoc,Nat.reduceAdd]at m0;exact⟨j+1,_,hlt,by go_num,m0⟩
  case measure=>simp[intOf];omega
theorem zx4 (g:G):zwu g:=by
 induction g using G.ind with
 |h c subs ih=>
  intro A l hm w lo hi cap hrow hh;exact zgw l (λx hx=>ih A l hm x hx) w lo hi A cap hrow hh
theorem zkl (l:List G) (w:World) (lo hi:Nat) (A:Option Addr) (cap:Nat) (hrow:CdRow w lo hi A cap l) (hh:hi<=w.heap.size):Calls Tryz.prog 202 #[.slice A l.length cap] w (zmz l w):=
 zgw l (λx _=>zx4 x) w lo hi A cap hrow hh
end Go.Proofs.YtlejelbefmkakaaGreat

/- Texts joined: Tk, T, O1, Gt, Gs, Gb, U1, V, X1, X2, B1, X3, P1, B2. -/
import Derived.Deep.RegionHeld3
import Derived.WalkKit
import Derived.WalkSpells
import Derived.Deep.Draws
import Derived.Laws.Rows
import Derived.Test.YtlejelbefmkakaaGreatProg
import Derived.Lib.SmallJoins
import Derived.Deep.Slices
import Derived.Deep.Fields
import Derived.ChangeSame
import Derived.SizedLaws
import Derived.Deep.AppendLies
import Derived.WalkLawsBesides
import Derived.BigQuiet
import Derived.Deep.QuietTactic
import Derived.Deep.LoopGhost
set_option maxHeartbeats 4000000
namespace Go.Proofs.YtlejelbefmkakaaGreat
theorem lq1 {α:Type} {l:List α} {i:Nat}:l.toArray[i]? =l[i]? :=List.getElem?_toArray
theorem lq2 {α:Type} {a:α} {l:List α} {i:Nat}:(a::l)[i+1]? =l[i]? :=List.getElem?_cons_succ
theorem lq3 {α:Type} {a:α} {l:List α}:(a::l)[0]? =some a:=List.getElem?_cons_zero
theorem lq4 {α:Type} {l:List α} {i:Nat} {a:α}:l.toArray.setIfInBounds i a=(l.set i a).toArray:=List.setIfInBounds_toArray ..
theorem lq5 {α:Type} {l:List α} {a b:α}:(b::l).set 0 a=a::l:=List.set_cons_zero
theorem lq6 {α:Type} {l:List α} {i:Nat} {a b:α}:(b::l).set (i+1) a=b::l.set i a:=List.set_cons_succ
theorem tk {P:Program} {md:Region.Mode} {ops:Array Oper} {Q:Exit->Act->World->Prop} {S:World->Prop} {i:Nat} {oi:Oper} {v:Value} {fuel:Nat} {listed:Array Bool} {a:Act} {w:World} (hi:ops[i]? =some oi)
 (hk:(Region.noSelect ops&&(Region.free md ops listed i&&(Region.ready md ops listed).contains i))=true)
 (hQ:∀c a w,Q (.panic c) (a.put oi.dst v) w->Q (.panic c) a w) (hw:Region.wanted oi (yielded ops a.tmps)=true) (hS:S w) (hy:∀w,S w->(execOp a.eval oi).run P w= .ok (.value v) w)
 (h:wpAnyH P md ops Q S fuel (listed.setIfInBounds i true) (a.put oi.dst v) w):wpAnyH P md ops Q S (fuel+1) listed a w:=by
 simp only[Bool.and_eq_true]at hk;exact wpAnyH_take hi hk.1 hk.2.1 hk.2.2 hQ (.inl ⟨hw,hy⟩) hS h
theorem lp_ {α:Type}:(∀(l:List α) (i:Nat) (a:α),l.toArray.setIfInBounds i a=(l.set i a).toArray)/\(∀(l:List α) (a b:α),(b::l).set 0 a=a::l)/\(∀(l:List α) (i:Nat) (a b:α),(b::l).set (i+1) a=b::l.set i a):=
 ⟨λ_ _ _=>List.setIfInBounds_toArray ..,λ_ _ _=>List.set_cons_zero,λ_ _ _ _=>List.set_cons_succ⟩
theorem u_ {P:Program} {md:Region.Mode} {ops:Array Oper} {Q:Exit->Act->World->Prop} {S:World->Prop} (i:Nat) {oi:Oper} {v:Value} {fuel:Nat} {listed:Array Bool} {a:Act} {w:World}
 (hy:∀w,S w->(execOp a.eval oi).run P w= .ok (.value v) w)
 (h:wpAnyH P md ops Q S fuel (listed.setIfInBounds i true) (a.put oi.dst v) w) (hi:ops[i]? =some oi:=by simp only[lq1,lq2,lq3];rfl)
 (hk:(Region.noSelect ops&&(Region.free md ops listed i&&(Region.ready md ops listed).contains i))=true:=by kernel_rfl)
 (hQ:∀c a w,Q (.panic c) (a.put oi.dst v) w->Q (.panic c) a w:=by intro _ _ _ h;exact h) (hw:Region.wanted oi (yielded ops a.tmps)=true:=by rfl) (hS:S w:=by assumption):wpAnyH P md ops Q S (fuel+1) listed a w:=
 tk hi hk hQ hw hS hy h
theorem t_ {P:Program} {md:Region.Mode} {ops:Array Oper} {Q:Exit->Act->World->Prop} {S:World->Prop} (i:Nat) {oi:Oper} {v:Value} {fuel:Nat} {listed:Array Bool} {a:Act} {w:World}
 (h:wpAnyH P md ops Q S fuel (listed.setIfInBounds i true) (a.put oi.dst v) w) (hi:ops[i]? =some oi:=by simp only[lq1,lq2,lq3];rfl)
 (hk:(Region.noSelect ops&&(Region.free md ops listed i&&(Region.ready md ops listed).contains i))=true:=by kernel_rfl)
 (hQ:∀c a w,Q (.panic c) (a.put oi.dst v) w->Q (.panic c) a w:=by intro _ _ _ h;exact h) (hw:Region.wanted oi (yielded ops a.tmps)=true:=by rfl) (hS:S w:=by assumption)
 (hy:∀w,S w->(execOp a.eval oi).run P w= .ok (.value v) w:=by intro wq hSw;(try dsimp only at hSw);go_simp;try(with_reducible rfl)):wpAnyH P md ops Q S (fuel+1) listed a w:=
 tk hi hk hQ hw hS hy h
theorem k_ {p:Prop} (h:p:=by kernel_rfl):p:=h
theorem o_ {p:Prop} (h:p:=by omega):p:=h
theorem r_ {p:Prop} (h:p:=by rfl):p:=h
theorem s_ {p:Prop} (h:p:=by simp):p:=h
theorem d_ {p:Prop} (h:p:=by decide):p:=h
theorem so_ {p:Prop} (h:p:=by simp;omega):p:=h
theorem i_ {p:Prop} (h:p:=by intro _ _ _ h;exact h):p:=h
theorem a_ {p:Prop} (h:p:=by assumption):p:=h
theorem q_ {p:Prop} (h:p:=by simp only[lq1,lq2,lq3];rfl):p:=h
end Go.Proofs.YtlejelbefmkakaaGreat
namespace Go.Proofs.YtlejelbefmkakaaGreat
open Go.RowKit
inductive V where
 |mk (k n:Int) (s:ByteArray) (l:List V) (r:Int)
inductive T where
 |mk (k n:Int) (s:ByteArray) (A:Option Addr) (cap:Nat) (l:List T) (r:Int)
def T.v:T->V
 | .mk k n s _ _ l r=>.mk k n s (l.map T.v) r
termination_by t=>t
theorem T.v_mk (k n:Int) (s:ByteArray) (A:Option Addr) (cap:Nat) (l:List T) (r:Int):(T.mk k n s A cap l r).v= .mk k n s (l.map T.v) r:=by
 rw[T.v]
def T.cells:T->List Value
 | .mk k n s A cap l r=>[.int .u8 k,.int .i64 n,.string s,.slice A l.length cap,.int .i64 r]
def T.val:T->Value
 | .mk k n s A cap l r=>.agg #[.int .u8 k,.int .i64 n,.string s,.slice A l.length cap,.int .i64 r]
def zxy (w:World) (b o:Nat) (t:T):Prop:=∀j u,t.cells[j]? =some u->w.cell? ⟨b,o+j,none⟩=some u
structure Fit (k n:Int) (s:ByteArray) (len cap:Nat) (r:Int):Prop where
 k0:0<=k
 k1:k<256
 n0: -9223372036854775808<=n
 n1:n<=9223372036854775807
 s1:s.size<=140737488351232
 len1:len*64<=140737488351232
 cap1:len<=cap
 r0: -9223372036854775808<=r
 r1:r<=9223372036854775807
def T.In (w:World) (lo hi:Nat):T->Prop
 | .mk k n s A cap l r=>Fit k n s l.length cap r/\(l≠[]->∃b o,A=some ⟨b,o,none⟩/\lo<=b/\b<hi/\∀i x,l[i]? =some x->zxy w b (o+i*5) x)/\∀x∈l,T.In w lo hi x
termination_by t=>t
theorem T.in_mk {w:World} {lo hi:Nat} {k n:Int} {s:ByteArray} {A:Option Addr} {cap:Nat} {l:List T} {r:Int}:
 (T.mk k n s A cap l r).In w lo hi↔Fit k n s l.length cap r/\(l≠[]->∃b o,A=some ⟨b,o,none⟩/\lo<=b/\b<hi/\∀i x,l[i]? =some x->zxy w b (o+i*5) x)/\∀x∈l,x.In w lo hi:=by
 rw[T.In]
theorem T.ind {p:T->Prop} (h:∀k n s A cap l r,(∀x∈l,p x)->p (.mk k n s A cap l r)) (t:T):p t:=
 T.rec (motive_1:=p) (motive_2:=λl=>∀x∈l,p x) (λk n s A cap l r ih=>h k n s A cap l r ih) s_ (λx l hx hl=>by
  intro y hy;rcases List.mem_cons.1 hy with rfl|hy
  .exact hx
  .exact hl y hy) t
theorem V.ind {p:V->Prop} (h:∀k n s l r,(∀x∈l,p x)->p (.mk k n s l r)) (v:V):p v:=
 V.rec (motive_1:=p) (motive_2:=λl=>∀x∈l,p x) (λk n s l r ih=>h k n s l r ih) s_ (λx l hx hl=>by
  intro y hy;rcases List.mem_cons.1 hy with rfl|hy
  .exact hx
  .exact hl y hy) v
theorem T.In.keep {w w':World} {lo hi:Nat} (hk:∀b o,lo<=b->b<hi->w'.cell? ⟨b,o,none⟩=w.cell? ⟨b,o,none⟩) (t:T):t.In w lo hi->t.In w' lo hi:=by
 induction t using T.ind with
 |h k n s A cap l r ih=>
  rw[T.in_mk,T.in_mk];rintro⟨h1,h2,h3⟩;refine⟨h1,λhl=>?_,λx hx=>ih x hx (h3 x hx)⟩;obtain⟨b,o,rfl,a1,a0,hc⟩:=h2 hl;exact⟨b,o,rfl,a1,a0,λi x hx j u hu=>(hk b _ a1 a0).trans (hc i x hx j u hu)⟩
theorem T.In.more {w:World} {lo hi lo' hi':Nat} (hl:lo'<=lo) (hh:hi<=hi') (t:T):t.In w lo hi->t.In w lo' hi':=by
 induction t using T.ind with
 |h k n s A cap l r ih=>
  rw[T.in_mk,T.in_mk];rintro⟨h1,h2,h3⟩;refine⟨h1,λhl'=>?_,λx hx=>ih x hx (h3 x hx)⟩;obtain⟨b,o,rfl,a1,a0,hc⟩:=h2 hl';exact⟨b,o,rfl,by omega,by omega,hc⟩
theorem zaa {p:Prop} (h:p):Hid p:=h
def Blk (w:World) (g:Nat) (t:TypeId) (cs:Array Value):Prop:=w.heap[g]? =some (.cells cs t (0,0))
section
variable {w w':World} {g:Nat} {t:TypeId} {cs:Array Value}
theorem Blk.lt (h:Blk w g t cs):g<w.heap.size:=by
 rcases Nat.lt_or_ge g w.heap.size with hlt|a0
 .exact hlt
 .unfold Blk at h;rw[Array.getElem?_eq_none a0]at h;cases h
theorem Blk.cell (h:Blk w g t cs) (i:Nat):w.cell? ⟨g,i,none⟩=cs[i]? :=cell_of_row w g i cs t (0,0) h
theorem Blk.frozen (h:Blk w g t cs) (i:Nat):w.frozen? ⟨g,i,none⟩=false:=by
 unfold Blk at h;simp[World.frozen?,h]
theorem Blk.new (w:World) (t:TypeId) (cs:Array Value):Blk (w.alloc (.cells cs t)) w.heap.size t cs:=heap_alloc_new w _
theorem Blk.new' (w:World) (t:TypeId) (cs:Array Value) {g:Nat} (h:w.heap.size=g):Blk (w.alloc (.cells cs t)) g t cs:=by subst h;exact Blk.new w t cs
theorem Blk.drew (h:Blk w g t cs):Blk w.drew g t cs:=h
theorem Blk.drewN (h:Blk w g t cs) (n:Nat):Blk (w.drewN n) g t cs:=h
theorem Blk.alloc (h:Blk w g t cs) (o:Obj):Blk (w.alloc o) g t cs:=(Below.heap_alloc w o g h.lt).trans h
theorem Blk.set_ (h:Blk w g t cs) (i:Nat) (u:Value):Blk (w.setCell ⟨g,i,none⟩ u) g t (cs.setIfInBounds i u):=by
 unfold Blk at h ⊢;simp[World.setCell,Array.getElem?_modify,h]
theorem Blk.far (h:Blk w g t cs) {p:Addr} (hp:g≠p.block) (u:Value):Blk (w.setCell p u) g t cs:=(Below.heap_setCell w p u g hp).trans h
theorem Blk.ne_ {g':Nat} {t':TypeId} {cs':Array Value} (h:Blk w g t cs) (h':Blk w g' t' cs') (hne:t≠t'):g≠g':=by
 rintro rfl;unfold Blk at h h';rw[h]at h';injection h' with h'
 injection h' with _ ht
 exact hne ht
end
structure Fr (S:Nat->Prop) (w w':World):Prop where
 os:w'.os=w.os
 tape:w'.tape=w.tape
 output:w'.output=w.output
 size:w.heap.size<=w'.heap.size
 block:∀b,b<w.heap.size->¬S b->w'.heap[b]? =w.heap[b]?
def No (_:Nat):Prop:=False
section
variable {S S':Nat->Prop} {a b c w w':World}
theorem Fr.refl (S:Nat->Prop) (w:World):Fr S w w:=⟨rfl,rfl,rfl,Nat.le_refl _,λ_ _ _=>rfl⟩
theorem Fr.trans' (h:Fr S a b) (k:Fr S' b c) (hs:∀i,i<a.heap.size->S' i->S i):Fr S a c:=
 ⟨k.os.trans h.os,k.tape.trans h.tape,k.output.trans h.output,Nat.le_trans h.size k.size,λi hi hn=>
  (k.block i (Nat.lt_of_lt_of_le hi h.size) (λhS=>hn (hs i hi hS))).trans (h.block i hi hn)⟩
theorem Fr.trans (h:Fr S a b) (k:Fr S b c):Fr S a c:=h.trans' k λ_ _ h=>h
theorem Fr.mono (h:Fr S a b) (hs:∀i,i<a.heap.size->S i->S' i):Fr S' a b:=(Fr.refl S' a).trans' h hs
theorem Fr.no (h:Fr No a b):Fr S a b:=h.mono λ_ _ h=>h.elim
theorem Fr.thenNo (h:Fr S a b) (k:Fr No b c):Fr S a c:=h.trans' k λ_ _ h=>h.elim
theorem Fr.drew (h:Fr S a w):Fr S a w.drew:=⟨h.os,h.tape,h.output,h.size,h.block⟩
theorem Fr.drewN (h:Fr S a w) (n:Nat):Fr S a (w.drewN n):=⟨h.os,h.tape,h.output,h.size,h.block⟩
theorem Fr.alloc (h:Fr S a w) (o:Obj):Fr S a (w.alloc o):=
 h.trans' (S':=No) ⟨rfl,rfl,rfl,by simp,λk hk _=>Below.heap_alloc _ _ _ hk⟩ λ_ _ h=>h.elim
theorem Fr.set (h:Fr S a w) {p:Addr} (hp:p.block<a.heap.size->S p.block) (u:Value):Fr S a (w.setCell p u):=
 ⟨h.os,h.tape,h.output,by simpa[World.setCell]using h.size,λi hi hn=>(Below.heap_setCell _ _ _ _ (by rintro rfl;exact hn (hp hi))).trans (h.block i hi hn)⟩
theorem Fr.setNew (h:Fr S a w) {p:Addr} (hp:a.heap.size<=p.block) (u:Value):Fr S a (w.setCell p u):=
 h.set (λhlt=>by omega) u
theorem Fr.grown (h:Fr S a w) {row:Option Nat} (hg:w.grownBy w' row) (hr:∀k,row=some k->k<a.heap.size->S k):Fr S a w':=
 ⟨hg.os.trans h.os,hg.tape.trans h.tape,hg.output.trans h.output,Nat.le_trans h.size hg.size,λi hi hn=>
  (hg.block i (Nat.lt_of_lt_of_le hi h.size) (λe=>hn (hr i e.symm hi))).trans (h.block i hi hn)⟩
theorem Fr.below (h:Fr S a w) {B:Nat} (hB:B<=a.heap.size) (hs:∀i,i<B->¬S i):Below B a w:=
 ⟨h.os,h.tape,h.output,h.size,λk hk=>h.block k o_ (hs k hk)⟩
theorem Fr.noBelow (h:Fr No a w):Below a.heap.size a w:=h.below (Nat.le_refl _) λ_ _ h=>h
theorem Fr.cell (h:Fr S a w) {b o:Nat} {s:Option Nat} (hb:b<a.heap.size) (hn:¬S b):w.cell? ⟨b,o,s⟩=a.cell? ⟨b,o,s⟩:=
 World.cell?_of_block (w:=a) (h.block b hb hn)
theorem Fr.frozen (h:Fr S a w) {b o:Nat} {s:Option Nat} (hb:b<a.heap.size) (hn:¬S b):w.frozen? ⟨b,o,s⟩=a.frozen? ⟨b,o,s⟩:=
 World.frozen?_of_block (w:=a) (h.block b hb hn)
theorem Blk.fr {g:Nat} {t:TypeId} {cs:Array Value} (h:Blk a g t cs) (hf:Fr S a w) (hn:¬S g):Blk w g t cs:=(hf.block g h.lt hn).trans h
theorem Fr.cells (h:Fr No a w):∀b o,b<a.heap.size->w.cell? ⟨b,o,none⟩=a.cell? ⟨b,o,none⟩:=λ_ _ hb=>h.cell hb λh=>h
theorem T.In.fr {lo hi:Nat} {t:T} (h:t.In a lo hi) (hf:Fr S a w) (hh:hi<=a.heap.size) (hs:∀i,lo<=i->i<hi->¬S i):t.In w lo hi:=
 T.In.keep (λb o h0 h1=>hf.cell o_ (hs b h0 h1)) t h
theorem T.In.no {lo hi:Nat} {t:T} (h:t.In a lo hi) (hf:Fr No a w) (hh:hi<=a.heap.size):t.In w lo hi:=h.fr hf hh λ_ _ _ h=>h
end
theorem T.elem {w:World} {lo hi:Nat} {k n:Int} {s:ByteArray} {A:Option Addr} {cap:Nat} {l:List T} {r:Int} (h:(T.mk k n s A cap l r).In w lo hi) {j:Nat} (hj:j<l.length):
 ∃b o k1 n1 s1 A1 cap1 l1 r1,A=some ⟨b,o,none⟩/\lo<=b/\b<hi/\l[j]=T.mk k1 n1 s1 A1 cap1 l1 r1/\(T.mk k1 n1 s1 A1 cap1 l1 r1).In w lo hi/\
  w.cell? ⟨b,o+j*5,none⟩=some (.int .u8 k1)/\w.cell? ⟨b,o+j*5+1,none⟩=some (.int .i64 n1)/\w.cell? ⟨b,o+j*5+2,none⟩=some (.string s1)/\
  w.cell? ⟨b,o+j*5+3,none⟩=some (.slice A1 l1.length cap1)/\w.cell? ⟨b,o+j*5+4,none⟩=some (.int .i64 r1):=by
 obtain⟨_,hA,hs⟩:=T.in_mk.1 h;obtain⟨b,o,rfl,h0,h1,hc⟩:=hA (by rintro rfl;simp at hj);have h5:=hc j l[j] (List.getElem?_eq_getElem hj);have a0:=hs l[j] (List.getElem_mem hj);cases hx:l[j]with
 |mk k1 n1 s1 A1 cap1 l1 r1=>
  rw[hx]at h5 a0;exact⟨b,o,k1,n1,s1,A1,cap1,l1,r1,rfl,h0,h1,rfl,a0,h5 0 _ rfl,h5 1 _ rfl,h5 2 _ rfl,h5 3 _ rfl,h5 4 _ rfl⟩
def T.blocks:T->List Nat
 | .mk _ _ _ A _ l _=>(if l.isEmpty then[]else(A.map Addr.block).toList)++(l.map T.blocks).flatten
termination_by t=>t
theorem T.blocks_mk (k n:Int) (s:ByteArray) (A:Option Addr) (cap:Nat) (l:List T) (r:Int):
 (T.mk k n s A cap l r).blocks=(if l.isEmpty then[]else(A.map Addr.block).toList)++(l.map T.blocks).flatten:=by rw[T.blocks]
theorem T.In.blocks {w:World} {lo hi:Nat} (t:T):t.In w lo hi->∀b∈t.blocks,lo<=b/\b<hi:=by
 induction t using T.ind with
 |h k n s A cap l r ih=>
  rw[T.in_mk,T.blocks_mk];rintro⟨_,h2,h3⟩ b hb;rcases List.mem_append.1 hb with hb|hb
  .cases l with
   |nil=>simp at hb
   |cons x l=>
    obtain⟨c,o,rfl,h0,h1,_⟩:=h2 s_;simp at hb;subst hb;exact⟨h0,h1⟩
  .obtain⟨bs,a0,hb⟩:=List.mem_flatten.1 hb;obtain⟨x,hx,rfl⟩:=List.mem_map.1 a0;exact ih x hx (h3 x hx) b hb
structure T.Ow (w:World) (lo hi:Nat) (t:T):Prop where
 inn:t.In w lo hi
 nodup:t.blocks.Nodup
 free:∀b∈t.blocks,∀o,w.frozen? ⟨b,o,none⟩=false
structure Forest (w:World) (lo hi:Nat) (l:List T):Prop where
 inn:∀x∈l,x.In w lo hi
 nodup:(l.map T.blocks).flatten.Nodup
 free:∀b∈(l.map T.blocks).flatten,∀o,w.frozen? ⟨b,o,none⟩=false
section
variable {S:Nat->Prop} {w w':World} {lo hi:Nat} {t:T} {l:List T}
theorem T.Ow.fr (h:t.Ow w lo hi) (hf:Fr S w w') (hh:hi<=w.heap.size) (hs:∀i,lo<=i->i<hi->¬S i):t.Ow w' lo hi:=
 ⟨h.inn.fr hf hh hs,h.nodup,λb hb o=>by
  have:=T.In.blocks t h.inn b hb;rw[hf.frozen o_ (hs b this.1 this.2)];exact h.free b hb o⟩
theorem Forest.nil (w:World) (lo hi:Nat):Forest w lo hi []:=⟨by simp,by simp,by simp⟩
theorem Forest.blocks (h:Forest w lo hi l):∀b∈(l.map T.blocks).flatten,lo<=b/\b<hi:=λb hb=>by
 obtain⟨bs,a0,hb⟩:=List.mem_flatten.1 hb;obtain⟨x,hx,rfl⟩:=List.mem_map.1 a0;exact T.In.blocks x (h.inn x hx) b hb
theorem Forest.fr' (h:Forest w lo hi l) (hf:Fr S w w') (hh:hi<=w.heap.size) (hs:∀b∈(l.map T.blocks).flatten,¬S b) (hin:∀x∈l,x.In w' lo hi):Forest w' lo hi l:=
 ⟨hin,h.nodup,λb hb o=>by
  have:=h.blocks b hb;rw[hf.frozen o_ (hs b hb)];exact h.free b hb o⟩
theorem Forest.fr (h:Forest w lo hi l) (hf:Fr S w w') (hh:hi<=w.heap.size) (hs:∀i,lo<=i->i<hi->¬S i):Forest w' lo hi l:=
 h.fr' hf hh (λb hb=>hs b (h.blocks b hb).1 (h.blocks b hb).2) λx hx=>(h.inn x hx).fr hf hh hs
theorem Forest.no (h:Forest w lo hi l) (hf:Fr No w w') (hh:hi<=w.heap.size):Forest w' lo hi l:=h.fr hf hh λ_ _ _ h=>h
theorem Forest.more {lo' hi':Nat} (h:Forest w lo hi l) (hl:lo'<=lo) (hh:hi<=hi'):Forest w lo' hi' l:=⟨λx hx=>T.In.more hl hh x (h.inn x hx),h.nodup,h.free⟩
theorem Forest.snoc {hi':Nat} (h:Forest w lo hi l) (hx:t.Ow w hi hi') (h0:lo<=hi) (h1:hi<=hi'):Forest w lo hi' (l++[t]):=by
 refine⟨λx a0=>?_,?_,λb hb=>?_⟩
 .rcases List.mem_append.1 a0 with a0|a0
  .exact T.In.more (Nat.le_refl _) h1 x (h.inn x a0)
  .simp at a0;subst a0;exact T.In.more h0 (Nat.le_refl _) _ hx.inn
 .rw[List.map_append,List.flatten_append,List.nodup_append];refine⟨h.nodup,by simpa using hx.nodup,λa ha b hb=>?_⟩;simp at hb;have h2:=h.blocks a ha;have h3:=T.In.blocks t hx.inn b hb;omega
 .rw[List.map_append,List.flatten_append,List.mem_append]at hb;rcases hb with hb|hb
  .exact h.free b hb
  .simp at hb;exact hx.free b hb
end
def ze7 (cs:Array Value) (o:Nat) (l:List T):Prop:=∀i x,l[i]? =some x->∀c u,x.cells[c]? =some u->cs[o+i*5+c]? =some u
theorem ze7.nil (cs:Array Value) (o:Nat):ze7 cs o []:=λi x h=>by simp at h
theorem T.cells_length (t:T):t.cells.length=5:=by cases t;rfl
theorem ze7.snoc {cs cs':Array Value} {o:Nat} {l:List T} {t:T} (h:ze7 cs o l) (hk:∀i,i<o+l.length*5->cs'[i]? =cs[i]?) (ht:∀c u,t.cells[c]? =some u->cs'[o+l.length*5+c]? =some u):
 ze7 cs' o (l++[t]):=by
 intro i x hx c u hu;have hc:c<5:=by
  have:=(List.getElem?_eq_some_iff.1 hu).1;rw[T.cells_length]at this;exact this
 rcases Nat.lt_or_ge i l.length with hi|hi
 .rw[List.getElem?_append_left hi]at hx;rw[hk _ o_];exact h i x hx c u hu
 .rw[List.getElem?_append_right hi]at hx;have:i - l.length=0:=by
   rcases Nat.eq_zero_or_pos (i - l.length)with h0|h0
   .exact h0
   .rw[List.getElem?_eq_none so_]at hx;cases hx
  have a0:i=l.length:=o_;subst a0;simp at hx;subst hx;exact ht c u hu
theorem T.ow_mk {w:World} {lo hi g o cap:Nat} {k n:Int} {s:ByteArray} {l:List T} {r:Int} {cs:Array Value} (hf:Fit k n s l.length cap r) (hF:Forest w lo hi l) (hb:Blk w g 28 cs) (hr:ze7 cs o l)
 (h0:lo<=g) (h1:g<hi) (hg:g∉(l.map T.blocks).flatten):(T.mk k n s (some ⟨g,o,none⟩) cap l r).Ow w lo hi:=by
 refine⟨T.in_mk.2 ⟨hf,λ_=>⟨g,o,rfl,h0,h1,λi x hx c u hu=>?_⟩,hF.inn⟩,?_,?_⟩
 .rw[hb.cell];exact hr i x hx c u hu
 .rw[T.blocks_mk];cases l with
  |nil=>simp
  |cons x l=>
   simp only[List.isEmpty_cons,Bool.false_eq_true,if_false,Option.map_some,Option.toList_some,List.singleton_append,List.nodup_cons];exact⟨hg,hF.nodup⟩
 .rw[T.blocks_mk];intro b a0 o';rcases List.mem_append.1 a0 with a0|a0
  .cases l with
   |nil=>simp at a0
   |cons x l=>simp at a0;subst a0;exact hb.frozen o'
  .exact hF.free b a0 o'
theorem T.ow_nil {w:World} {lo hi cap:Nat} {k n:Int} {s:ByteArray} {A:Option Addr} {r:Int} (hf:Fit k n s 0 cap r):(T.mk k n s A cap [] r).Ow w lo hi:=by
 refine⟨T.in_mk.2 ⟨hf,λh=>absurd rfl h,by simp⟩,?_,?_⟩
 .rw[T.blocks_mk];simp
 .rw[T.blocks_mk];simp
theorem Blk.five {w:World} {g:Nat} {t:TypeId} {cs:Array Value} (h:Blk w g t cs) (o:Nat) (a b c d e:Value):
 Blk (((((w.setCell ⟨g,o,none⟩ a).setCell ⟨g,o+1,none⟩ b).setCell ⟨g,o+2,none⟩ c).setCell ⟨g,o+3,none⟩ d).setCell ⟨g,o+4,none⟩ e) g t
  (((((cs.setIfInBounds o a).setIfInBounds (o+1) b).setIfInBounds (o+2) c).setIfInBounds (o+3) d).setIfInBounds (o+4) e):=
 ((((h.set_ _ _).set_ _ _).set_ _ _).set_ _ _).set_ _ _
theorem Fr.five {S:Nat->Prop} {a w:World} (h:Fr S a w) {g:Nat} (hg:g<a.heap.size->S g) (o:Nat) (x0 x1 x2 x3 x4:Value):
 Fr S a (((((w.setCell ⟨g,o,none⟩ x0).setCell ⟨g,o+1,none⟩ x1).setCell ⟨g,o+2,none⟩ x2).setCell ⟨g,o+3,none⟩ x3).setCell ⟨g,o+4,none⟩ x4):=
 ((((h.set (p:=⟨g,o,none⟩) hg _).set (p:=⟨g,o+1,none⟩) hg _).set (p:=⟨g,o+2,none⟩) hg _).set (p:=⟨g,o+3,none⟩) hg _).set (p:=⟨g,o+4,none⟩) hg _
theorem ze7.five {cs:Array Value} {o:Nat} {l:List T} {k n:Int} {s:ByteArray} {A:Option Addr} {cap:Nat} {l1:List T} {r:Int} (h:ze7 cs o l) (hs:o+l.length*5+5<=cs.size):
 ze7 (((((cs.setIfInBounds (o+l.length*5) (.int .u8 k)).setIfInBounds (o+l.length*5+1) (.int .i64 n)).setIfInBounds (o+l.length*5+2) (.string s)).setIfInBounds (o+l.length*5+3) (.slice A l1.length cap)).setIfInBounds
  (o+l.length*5+4) (.int .i64 r)) o (l++[T.mk k n s A cap l1 r]):=by
 refine h.snoc (λi hi=>?_) λc u hu=>?_
 .simp only[Array.getElem?_setIfInBounds];repeat rw[if_neg o_]
 .match c,hu with
  |0,hu=>simp[T.cells]at hu;subst hu;simp[Array.getElem?_setIfInBounds];omega
  |1,hu=>simp[T.cells]at hu;subst hu;simp[Array.getElem?_setIfInBounds];omega
  |2,hu=>simp[T.cells]at hu;subst hu;simp[Array.getElem?_setIfInBounds];omega
  |3,hu=>simp[T.cells]at hu;subst hu;simp[Array.getElem?_setIfInBounds];omega
  |4,hu=>simp[T.cells]at hu;subst hu;simp[Array.getElem?_setIfInBounds];omega
theorem Blk.cells5 {w:World} {g:Nat} {t:TypeId} {a b c d e:Value} (h:Blk w g t #[a,b,c,d,e]):
 w.cell? ⟨g,0,none⟩=some a/\w.cell? ⟨g,1,none⟩=some b/\w.cell? ⟨g,2,none⟩=some c/\w.cell? ⟨g,3,none⟩=some d/\w.cell? ⟨g,4,none⟩=some e/\∀i,w.frozen? ⟨g,i,none⟩=false:=
 ⟨h.cell 0,h.cell 1,h.cell 2,h.cell 3,h.cell 4,h.frozen⟩
end Go.Proofs.YtlejelbefmkakaaGreat
namespace Go.Proofs.YtlejelbefmkakaaGreat
open Go.Joins Go.ChangeShapes Go.WideShapes Go.RowKit Go.Deep
theorem zbr {α:Type} {Q:Nat->α->Prop}:∀(n:Nat),(∀i,i<n->∃x,Q i x)->∃l:List α,l.length=n/\∀i x,l[i]? =some x->Q i x
 |0,_=>⟨[],rfl,λi x h=>by simp at h⟩
 |n+1,h=>by
  obtain⟨l,hl,hq⟩:=zbr n λi hi=>h i o_;obtain⟨x,hx⟩:=h n o_;refine⟨l++[x],by simp[hl],λi y hy=>?_⟩;rcases Nat.lt_trichotomy i n with hi|rfl|hi
  .rw[List.getElem?_append_left o_]at hy;exact hq i y hy
  .rw[List.getElem?_append_right o_,hl]at hy;simp at hy;subst hy;exact hx
  .rw[List.getElem?_eq_none so_]at hy;cases hy
theorem zo2 {w:World} {a:Addr} {v:Value} (h:w.cell? a=some v):a.block<w.heap.size:=by
 rcases Nat.lt_or_ge a.block w.heap.size with hlt|a0
 .exact hlt
 .unfold World.cell? at h;rw[Array.getElem?_eq_none a0]at h;simp at h
section
variable {H:Type} {enc:TypeId×Value->H}
theorem zfk {n:Int} (h:(Lit.int .u8 n).wf=true):0<=n/\n<256:=by
 obtain⟨h0,h1⟩:IntKind.u8.min<=n/\n<=IntKind.u8.max:=by simpa[Lit.wf]using h
 have e0:IntKind.u8.min=0:=d_;have e1:IntKind.u8.max=255:=d_;omega
theorem zbz {n:Int} (h:(Lit.int .i64 n).wf=true): -9223372036854775808<=n/\n<=9223372036854775807:=by
 obtain⟨h0,h1⟩:IntKind.i64.min<=n/\n<=IntKind.i64.max:=by simpa[Lit.wf]using h
 have e0:IntKind.i64.min= -9223372036854775808:=d_;have e1:IntKind.i64.max=9223372036854775807:=d_;omega
theorem zik:reachBytes=140737488351232:=rfl
theorem zbi (b o n:Nat):(⟨b,o,none⟩:Addr).add n=⟨b,o+n,none⟩:=by
 unfold Addr.add;split<;>simp_all
theorem zd8 {P:Program} {e:TypeId} {m:Nat}:∀{ds:List (DataW H)} {d:DataW H},d∈ds->m∈d.weights P e->m∈DataW.weightsAll P e ds
 |[],_,h,_=>by simp at h
 |d0::ds,d,h,hm=>by
  rw[DataW.weightsAll,List.mem_append];rcases List.mem_cons.1 h with rfl|h
  .exact .inl hm
  .exact .inr (zd8 h hm)
end
inductive G where
 |mk (c:List Value) (subs:List (Option Addr×List G))
def G.c:G->List Value| .mk c _=>c
def G.subs:G->List (Option Addr×List G)| .mk _ s=>s
theorem G.sub_lt {c:List Value} {subs:List (Option Addr×List G)} {A:Option Addr} {l:List G} {x:G} (h:(A,l)∈subs) (hx:x∈l):SizeOf.sizeOf x<SizeOf.sizeOf (G.mk c subs):=by
 have h1:=List.sizeOf_lt_of_mem h;have h2:=List.sizeOf_lt_of_mem hx;simp at h1 ⊢;omega
theorem G.ind {p:G->Prop} (h:∀c subs,(∀A l,(A,l)∈subs->∀x∈l,p x)->p (.mk c subs)) (g:G):p g:=
 match g with
 | .mk c subs=>h c subs λA l _hl x _hx=>G.ind h x
termination_by g
decreasing_by exact G.sub_lt _hl _hx
def G.In (w:World) (lo hi:Nat):G->Prop
 | .mk _ subs=>∀A l,(hs:(A,l)∈subs)->(l≠[]->∃b o,A=some ⟨b,o,none⟩/\lo<=b/\b<hi/\∀i x,l[i]? =some x->∀j u,x.c[j]? =some u->w.cell? ⟨b,o+i*x.c.length+j,none⟩=some u)/\∀x∈l,G.In w lo hi x
termination_by g=>g
decreasing_by
 have h1:=List.sizeOf_lt_of_mem hs
 have h2:=List.sizeOf_lt_of_mem ‹x∈l›
 simp at h1 ⊢
 omega
theorem G.in_mk {w:World} {lo hi:Nat} {c:List Value} {subs:List (Option Addr×List G)}:
 (G.mk c subs).In w lo hi↔∀A l,(A,l)∈subs->(l≠[]->∃b o,A=some ⟨b,o,none⟩/\lo<=b/\b<hi/\∀i x,l[i]? =some x->∀j u,x.c[j]? =some u->w.cell? ⟨b,o+i*x.c.length+j,none⟩=some u)/\∀x∈l,G.In w lo hi x:=by
 rw[G.In]
theorem G.In.keep {w w':World} {lo hi:Nat} (hk:∀b o,lo<=b->b<hi->w'.cell? ⟨b,o,none⟩=w.cell? ⟨b,o,none⟩) (g:G):g.In w lo hi->g.In w' lo hi:=by
 induction g using G.ind with
 |h c subs ih=>
  rw[G.in_mk,G.in_mk];intro h A l hs;obtain⟨h1,h2⟩:=h A l hs;refine⟨λhl=>?_,λx hx=>ih A l hs x hx (h2 x hx)⟩;obtain⟨b,o,rfl,a1,a0,hc⟩:=h1 hl;exact⟨b,o,rfl,a1,a0,λi x hx j u hu=>(hk b _ a1 a0).trans (hc i x hx j u hu)⟩
theorem G.In.more {w:World} {lo hi lo' hi':Nat} (hl:lo'<=lo) (hh:hi<=hi') (g:G):g.In w lo hi->g.In w lo' hi':=by
 induction g using G.ind with
 |h c subs ih=>
  rw[G.in_mk,G.in_mk];intro h A l hs;obtain⟨h1,h2⟩:=h A l hs;refine⟨λhl=>?_,λx hx=>ih A l hs x hx (h2 x hx)⟩;obtain⟨b,o,rfl,a1,a0,hc⟩:=h1 hl;exact⟨b,o,rfl,by omega,by omega,hc⟩
section
variable {S:Nat->Prop} {a w:World} {lo hi:Nat} {g:G}
theorem G.In.fr (h:g.In a lo hi) (hf:Fr S a w) (hh:hi<=a.heap.size) (hs:∀i,lo<=i->i<hi->¬S i):g.In w lo hi:=
 G.In.keep (λb o h0 h1=>hf.cell o_ (hs b h0 h1)) g h
theorem G.In.no (h:g.In a lo hi) (hf:Fr No a w) (hh:hi<=a.heap.size):g.In w lo hi:=h.fr hf hh λ_ _ _ h=>h
end
inductive Fd where
 |int (k:IntKind)
 |bool
 |str
 |sl (e:TypeId) (size:Nat)
def zbm:List Fd->List Value->List (Option Addr×List G)->Prop
 |[],c,s=>c=[]/\s=[]
 | .int k::fs,v::c,s=>(∃n,v= .int k n/\(Lit.int k n).wf=true)/\zbm fs c s
 | .bool::fs,v::c,s=>(∃b,v= .bool b)/\zbm fs c s
 | .str::fs,v::c,s=>(∃b:ByteArray,v= .string b/\b.size<=140737488351232)/\zbm fs c s
 | .sl _ size::fs,v::c,x::s=>(∃cap,v= .slice x.1 x.2.length cap/\x.2.length<=cap/\x.2.length*size<=140737488351232)/\zbm fs c s
 |_,_,_=>False
def sls:List Fd->List TypeId
 |[]=>[]
 | .sl e _::fs=>e::sls fs
 | .int _::fs=>sls fs
 | .bool::fs=>sls fs
 | .str::fs=>sls fs
theorem zcb:∀(f1 f2:List Fd),sls (f1++f2)=sls f1++sls f2
 |[],_=>rfl
 | .sl _ _::fs,f2=>by simp[sls,zcb fs f2]
 | .int _::fs,f2=>by simp[sls,zcb fs f2]
 | .bool::fs,f2=>by simp[sls,zcb fs f2]
 | .str::fs,f2=>by simp[sls,zcb fs f2]
theorem zbm.subs:∀{fs:List Fd} {c:List Value} {s:List (Option Addr×List G)},zbm fs c s->c.length=fs.length/\s.length=(sls fs).length
 |[],c,s,h=>by obtain⟨rfl,rfl⟩:=h;simp[sls]
 | .int k::fs,[],s,h=>h.elim
 | .int k::fs,v::c,s,h=>by have:=zbm.subs h.2;simp[sls,this]
 | .bool::fs,[],s,h=>h.elim
 | .bool::fs,v::c,s,h=>by have:=zbm.subs h.2;simp[sls,this]
 | .str::fs,[],s,h=>h.elim
 | .str::fs,v::c,s,h=>by have:=zbm.subs h.2;simp[sls,this]
 | .sl e z::fs,[],s,h=>h.elim
 | .sl e z::fs,v::c,[],h=>h.elim
 | .sl e z::fs,v::c,x::s,h=>by have:=zbm.subs h.2;simp[sls,this]
theorem zbm.append:∀{f1 f2:List Fd} {c1 c2:List Value} {s1 s2:List (Option Addr×List G)},zbm f1 c1 s1->zbm f2 c2 s2->zbm (f1++f2) (c1++c2) (s1++s2)
 |[],_,c,_,s,_,h,h2=>by obtain⟨rfl,rfl⟩:=h;exact h2
 | .int k::fs,_,[],_,s,_,h,_=>h.elim
 | .int k::fs,_,v::c,_,s,_,h,h2=>⟨h.1,zbm.append h.2 h2⟩
 | .bool::fs,_,[],_,s,_,h,_=>h.elim
 | .bool::fs,_,v::c,_,s,_,h,h2=>⟨h.1,zbm.append h.2 h2⟩
 | .str::fs,_,[],_,s,_,h,_=>h.elim
 | .str::fs,_,v::c,_,s,_,h,h2=>⟨h.1,zbm.append h.2 h2⟩
 | .sl e z::fs,_,[],_,s,_,h,_=>h.elim
 | .sl e z::fs,_,v::c,_,[],_,h,_=>h.elim
 | .sl e z::fs,_,v::c,_,x::s,_,h,h2=>⟨h.1,zbm.append h.2 h2⟩
inductive HasTy (flat:TypeId->List Fd):TypeId->G->Prop
 |mk (t:TypeId) (c:List Value) (subs:List (Option Addr×List G)) (h:zbm (flat t) c subs) (hk:∀(i:Nat) (e:TypeId) (A:Option Addr) (l:List G) (x:G),(sls (flat t))[i]? =some e->subs[i]? =some (A,l)->x∈l->HasTy flat e x):HasTy flat t (.mk c subs)
def zhz (rec:TypeId->Option (List Fd)) (P:Program):Nat->List Field->Option (List Fd)
 |_,[]=>some []
 |o,f::fs=>match rec f.type with
  |none=>none
  |some fl=>if f.offset=o/\P.cellsOf f.type=fl.length then(zhz rec P (o+fl.length) fs).map (fl++ ·)else none
def zci (P:Program):Nat->TypeId->Option (List Fd)
 |0,_=>none
 |n+1,t=>match P.underlying t with
  |some (.int k)=>some [.int k]
  |some .bool=>some [.bool]
  |some .string=>some [.str]
  |some (.slice e)=>some [.sl e (P.bytesOf e)]
  |some (.struct fs)=>match zhz (zci P n) P 0 fs.toList with
   |none=>none
   |some fl=>if P.cellsOf t=fl.length then some fl else none
  |_=>none
section
variable {H:Type} {enc:TypeId×Value->H} {P:Program} {W:World} {flat:TypeId->List Fd}
def Opn (W:World) (flat:TypeId->List Fd) (fs:List Fd) (cs:List Value):Prop:=
 ∃subs,zbm fs cs subs/\(∀(i:Nat) (e:TypeId) (A:Option Addr) (l:List G) (x:G),(sls fs)[i]? =some e->subs[i]? =some (A,l)->x∈l->HasTy flat e x)/\
  ∀A l,(A,l)∈subs->(l≠[]->∃b o,A=some ⟨b,o,none⟩/\0<=b/\b<W.heap.size/\∀i x,l[i]? =some x->∀j u,x.c[j]? =some u->W.cell? ⟨b,o+i*x.c.length+j,none⟩=some u)/\∀x∈l,G.In W 0 W.heap.size x
theorem zas {t:TypeId} {g:G} (h:HasTy flat t g):g.c.length=(flat t).length:=by
 cases h with
 |mk t c subs h hk=>exact h.subs.1
theorem zhq {t:TypeId} {fs:Array Field} (ht:P.underlying t=some (.struct fs)) (ds:List (DataW H)):(DataW.agg ds).weights P t=DataW.weightsEach P (fs.toList.map (·.type)) ds:=by
 rw[DataW.weights,ht]
theorem zew {t e:TypeId} (ht:P.underlying t=some (.slice e)) (es rs:List (DataW H)):(DataW.slice es rs).weights P t=(es.length+rs.length)*P.bytesOf e::(DataW.weightsAll P e es++DataW.weightsAll P e rs):=by
 rw[DataW.weights,ht]
end
theorem zbm.inv_int {k:IntKind} {fs:List Fd} {c:List Value} {s:List (Option Addr×List G)} (h:zbm (.int k::fs) c s):∃n c',c= .int k n::c'/\(Lit.int k n).wf=true/\zbm fs c' s:=by
 cases c with
 |nil=>exact h.elim
 |cons v c=>obtain⟨⟨n,rfl,hw⟩,h2⟩:=h;exact⟨n,c,rfl,hw,h2⟩
theorem zbm.inv_bool {fs:List Fd} {c:List Value} {s:List (Option Addr×List G)} (h:zbm (.bool::fs) c s):∃b c',c= .bool b::c'/\zbm fs c' s:=by
 cases c with
 |nil=>exact h.elim
 |cons v c=>obtain⟨⟨n,rfl⟩,h2⟩:=h;exact⟨n,c,rfl,h2⟩
theorem zbm.inv_str {fs:List Fd} {c:List Value} {s:List (Option Addr×List G)} (h:zbm (.str::fs) c s):∃(b:ByteArray) (c':List Value),c= .string b::c'/\b.size<=140737488351232/\zbm fs c' s:=by
 cases c with
 |nil=>exact h.elim
 |cons v c=>obtain⟨⟨n,rfl,hw⟩,h2⟩:=h;exact⟨n,c,rfl,hw,h2⟩
theorem zbm.inv_sl {e:TypeId} {z:Nat} {fs:List Fd} {c:List Value} {s:List (Option Addr×List G)} (h:zbm (.sl e z::fs) c s):
 ∃A l cap c' s',c= .slice A l.length cap::c'/\s=(A,l)::s'/\l.length<=cap/\l.length*z<=140737488351232/\zbm fs c' s':=by
 cases c with
 |nil=>exact h.elim
 |cons v c=>
  cases s with
  |nil=>exact h.elim
  |cons x s=>
   obtain⟨A,l⟩:=x;obtain⟨⟨cap,rfl,h1,h3⟩,h2⟩:=h;exact⟨A,l,cap,c,s,rfl,rfl,h1,h3,h2⟩
theorem zbm.inv_nil {c:List Value} {s:List (Option Addr×List G)} (h:zbm [] c s):c=[]/\s=[]:=h
def flat (t:TypeId):List Fd:=
 if t=28 then[.int .u8,.int .i64,.str,.sl 28 64,.int .i64]else
 if t=308 then[.int .u8,.int .i64,.str,.sl 308 56]else
 if t=311 then[.int .u8,.str,.str,.int .u8,.int .u8,.int .u8,.int .i64,.str,.sl 308 56,.int .u8,.int .i64,.str,.sl 308 56,.sl 311 256,.sl 311 256,.sl 311 256,.sl 9 16]else
 if t=260 then[.str,.int .u8,.int .i64,.str,.sl 28 64,.int .i64]else
 if t=138 then[.int .u8,.int .i64,.int .u8,.int .i64,.str,.sl 28 64,.int .i64,.sl 28 64,.int .i64,.int .i64,.int .i64,.int .i64,.int .u8,.bool,.sl 311 256,.sl 260 80]else
 if t=140 then[.int .i64,.int .u8,.int .i64,.int .u8,.int .i64,.str,.sl 28 64,.int .i64,.sl 28 64,.int .i64,.int .i64,.int .i64,.int .i64,.int .u8,.bool,.sl 311 256,.sl 260 80]else
 if t=71 then[.sl 23 8,.sl 3 8,.sl 140 200,.int .i64,.sl 3 8]else
 if t=23 then[.int .i64]else
 if t=3 then[.int .i64]else
 if t=9 then[.str]else
 if t=24 then[.int .u8]else
 []
theorem zc2:flat 28=[.int .u8,.int .i64,.str,.sl 28 64,.int .i64]:=by simp[flat]
theorem zkm:zci Tryz.prog 6 28=some (flat 28):=k_
theorem za0:flat 308=[.int .u8,.int .i64,.str,.sl 308 56]:=by simp[flat]
theorem zjh:zci Tryz.prog 6 308=some (flat 308):=k_
theorem zbl:flat 311=[.int .u8,.str,.str,.int .u8,.int .u8,.int .u8,.int .i64,.str,.sl 308 56,.int .u8,.int .i64,.str,.sl 308 56,.sl 311 256,.sl 311 256,.sl 311 256,.sl 9 16]:=by simp[flat]
theorem zji:zci Tryz.prog 6 311=some (flat 311):=k_
theorem zeu:flat 260=[.str,.int .u8,.int .i64,.str,.sl 28 64,.int .i64]:=by simp[flat]
theorem zjj:zci Tryz.prog 6 260=some (flat 260):=k_
theorem zdz:flat 140=[.int .i64,.int .u8,.int .i64,.int .u8,.int .i64,.str,.sl 28 64,.int .i64,.sl 28 64,.int .i64,.int .i64,.int .i64,.int .i64,.int .u8,.bool,.sl 311 256,.sl 260 80]:=by simp[flat]
theorem zif:zci Tryz.prog 6 140=some (flat 140):=k_
theorem zfj:flat 71=[.sl 23 8,.sl 3 8,.sl 140 200,.int .i64,.sl 3 8]:=by simp[flat]
theorem zig:zci Tryz.prog 6 71=some (flat 71):=k_
theorem zg0:flat 23=[.int .i64]:=by simp[flat]
theorem zjk:zci Tryz.prog 6 23=some (flat 23):=k_
theorem zge:flat 3=[.int .i64]:=by simp[flat]
theorem zkn:zci Tryz.prog 6 3=some (flat 3):=k_
theorem zev:flat 9=[.str]:=by simp[flat]
theorem zko:zci Tryz.prog 6 9=some (flat 9):=k_
theorem zjl:flat 24=[.int .u8]:=by simp[flat]
theorem zjm:zci Tryz.prog 6 24=some (flat 24):=k_
def Met (t:TypeId):Prop:=t=28\/t=308\/t=311\/t=260\/t=140\/t=23\/t=3\/t=9\/t=24
theorem zrw (t:TypeId) (h:Met t):zci Tryz.prog 6 t=some (flat t):=by
 rcases h with rfl|rfl|rfl|rfl|rfl|rfl|rfl|rfl|rfl
 .exact zkm
 .exact zjh
 .exact zji
 .exact zjj
 .exact zif
 .exact zjk
 .exact zkn
 .exact zko
 .exact zjm
theorem zm5 (t:TypeId) (h:Met t):∀e∈sls (flat t),Met e:=by
 rcases h with rfl|rfl|rfl|rfl|rfl|rfl|rfl|rfl|rfl
 .rw[zc2];simp[sls,Met]
 .rw[za0];simp[sls,Met]
 .rw[zbl];simp[sls,Met]
 .rw[zeu];simp[sls,Met]
 .rw[zdz];simp[sls,Met]
 .rw[zg0];simp[sls]
 .rw[zge];simp[sls]
 .rw[zev];simp[sls]
 .rw[zjl];simp[sls]
theorem zok (t:TypeId) (h:Met t):Tryz.prog.cellsOf t=(flat t).length/\0<(flat t).length:=by
 rcases h with rfl|rfl|rfl|rfl|rfl|rfl|rfl|rfl|rfl
 .rw[zc2];exact⟨by kernel_rfl,by decide⟩
 .rw[za0];exact⟨by kernel_rfl,by decide⟩
 .rw[zbl];exact⟨by kernel_rfl,by decide⟩
 .rw[zeu];exact⟨by kernel_rfl,by decide⟩
 .rw[zdz];exact⟨by kernel_rfl,by decide⟩
 .rw[zg0];exact⟨by kernel_rfl,by decide⟩
 .rw[zge];exact⟨by kernel_rfl,by decide⟩
 .rw[zev];exact⟨by kernel_rfl,by decide⟩
 .rw[zjl];exact⟨by kernel_rfl,by decide⟩
abbrev Ty (t:TypeId) (g:G):Prop:=HasTy flat t g
theorem Ty.kids {t:TypeId} {c:List Value} {subs:List (Option Addr×List G)} (h:Ty t (.mk c subs)) (i:Nat) (e:TypeId) {A:Option Addr} {l:List G} (he:(sls (flat t))[i]? =some e) (hs:subs[i]? =some (A,l)):∀x∈l,Ty e x:=by
 cases h with
 |mk _ _ _ h hk=>exact λx hx=>hk i e A l x he hs hx
theorem Ty.fits {t:TypeId} {c:List Value} {subs:List (Option Addr×List G)} (h:Ty t (.mk c subs)):zbm (flat t) c subs:=by
 cases h with
 |mk _ _ _ h hk=>exact h
theorem zw1 {t:TypeId} {k:IntKind} (hf:flat t=[.int k]) {g:G} (h:Ty t g):∃n,g= .mk [.int k n] []/\(Lit.int k n).wf=true:=by
 obtain⟨c,s⟩:=g;have h0:=h.fits;rw[hf]at h0;obtain⟨n,c,rfl,hw,h0⟩:=h0.inv_int;obtain⟨rfl,rfl⟩:=h0.inv_nil;exact⟨n,rfl,hw⟩
theorem zlv {g:G} (h:Ty 9 g):∃s:ByteArray,g= .mk [.string s] []/\s.size<=140737488351232:=by
 obtain⟨c,s⟩:=g;have h0:=h.fits;rw[zev]at h0;obtain⟨n,c,rfl,hw,h0⟩:=h0.inv_str;obtain⟨rfl,rfl⟩:=h0.inv_nil;exact⟨n,rfl,hw⟩
structure FitE (k n:Int) (s:ByteArray) (len cap:Nat):Prop where
 k0:0<=k
 k1:k<256
 n0: -9223372036854775808<=n
 n1:n<=9223372036854775807
 s1:s.size<=140737488351232
 len1:len*56<=140737488351232
 cap1:len<=cap
theorem za3 {g:G} (h:Ty 308 g):∃k n s A cap l,g= .mk [.int .u8 k,.int .i64 n,.string s,.slice A l.length cap] [(A,l)]/\FitE k n s l.length cap/\∀x∈l,Ty 308 x:=by
 obtain⟨c,s⟩:=g;have h0:=h.fits;rw[za0]at h0;obtain⟨k,c,rfl,w1,h0⟩:=h0.inv_int;obtain⟨n,c,rfl,w2,h0⟩:=h0.inv_int;obtain⟨b,c,rfl,w3,h0⟩:=h0.inv_str;obtain⟨A,l,cap,c,s,rfl,rfl,w4,w5,h0⟩:=h0.inv_sl;obtain⟨rfl,rfl⟩:=h0.inv_nil;exact⟨k,n,b,A,cap,l,rfl,⟨(zfk w1).1,(zfk w1).2,(zbz w2).1,(zbz w2).2,w3,w5,w4⟩,h.kids 0 _ (by rw[za0];rfl) rfl⟩
structure FitS (op:Int) (nm sc:ByteArray) (ab wh:Int) (th el co wi:Nat) (c1 c2 c3 c4:Nat):Prop where
 op0:0<=op/\op<256
 nm1:nm.size<=140737488351232
 sc1:sc.size<=140737488351232
 ab0:0<=ab/\ab<256
 wh0:0<=wh/\wh<256
 th1:th*256<=140737488351232/\th<=c1
 el1:el*256<=140737488351232/\el<=c2
 co1:co*256<=140737488351232/\co<=c3
 wi1:wi*16<=140737488351232/\wi<=c4
def stC (op:Int) (nm sc:ByteArray) (ab wh:Int) (k1 n1:Int) (s1:ByteArray) (A1:Option Addr) (l1 z1:Nat) (k2 n2:Int) (s2:ByteArray) (A2:Option Addr) (l2 z2:Nat) (A3:Option Addr) (l3 z3:Nat) (A4:Option Addr) (l4 z4:Nat) (A5:Option Addr) (l5 z5:Nat) (A6:Option Addr) (l6 z6:Nat):List Value:=
 [.int .u8 op,.string nm,.string sc,.int .u8 ab,.int .u8 wh,.int .u8 k1,.int .i64 n1,.string s1,.slice A1 l1 z1,.int .u8 k2,.int .i64 n2,.string s2,.slice A2 l2 z2,.slice A3 l3 z3,.slice A4 l4 z4,.slice A5 l5 z5,.slice A6 l6 z6]
theorem zkp {g:G} (h:Ty 311 g):∃op nm sc ab wh k1 n1 s1 A1 l1 z1 k2 n2 s2 A2 l2 z2 A3 l3 z3 A4 l4 z4 A5 l5 z5 A6 l6 z6,
 g= .mk (stC op nm sc ab wh k1 n1 s1 A1 (List.length l1) z1 k2 n2 s2 A2 (List.length l2) z2 A3 (List.length l3) z3 A4 (List.length l4) z4 A5 (List.length l5) z5 A6 (List.length l6) z6) [(A1,l1),(A2,l2),(A3,l3),(A4,l4),(A5,l5),(A6,l6)]/\
 FitS op nm sc ab wh (List.length l3) (List.length l4) (List.length l5) (List.length l6) z3 z4 z5 z6/\FitE k1 n1 s1 (List.length l1) z1/\FitE k2 n2 s2 (List.length l2) z2/\
 (∀x∈l1,Ty 308 x)/\(∀x∈l2,Ty 308 x)/\(∀x∈l3,Ty 311 x)/\(∀x∈l4,Ty 311 x)/\(∀x∈l5,Ty 311 x)/\∀x∈l6,Ty 9 x:=by
 obtain⟨c,s⟩:=g;have h0:=h.fits;rw[zbl]at h0;obtain⟨op,c,rfl,w1,h0⟩:=h0.inv_int;obtain⟨nm,c,rfl,w2,h0⟩:=h0.inv_str;obtain⟨sc,c,rfl,w3,h0⟩:=h0.inv_str;obtain⟨ab,c,rfl,w4,h0⟩:=h0.inv_int;obtain⟨wh,c,rfl,w5,h0⟩:=h0.inv_int;obtain⟨k1,c,rfl,w6,h0⟩:=h0.inv_int;obtain⟨n1,c,rfl,w7,h0⟩:=h0.inv_int;obtain⟨s1,c,rfl,w8,h0⟩:=h0.inv_str;obtain⟨A1,l1,z1,c,s,rfl,rfl,w9,a5,h0⟩:=h0.inv_sl;obtain⟨k2,c,rfl,a0,h0⟩:=h0.inv_int;obtain⟨n2,c,rfl,a1,h0⟩:=h0.inv_int;obtain⟨s2,c,rfl,a2,h0⟩:=h0.inv_str;obtain⟨A2,l2,z2,c,s,rfl,rfl,a4,b1,h0⟩:=h0.inv_sl;obtain⟨A3,l3,z3,c,s,rfl,rfl,b2,a3,h0⟩:=h0.inv_sl;obtain⟨A4,l4,z4,c,s,rfl,rfl,a6,b0,h0⟩:=h0.inv_sl;obtain⟨A5,l5,z5,c,s,rfl,rfl,a7,a9,h0⟩:=h0.inv_sl;obtain⟨A6,l6,z6,c,s,rfl,rfl,a8,b3,h0⟩:=h0.inv_sl;obtain⟨rfl,rfl⟩:=h0.inv_nil;have hs:sls (flat 311)=[308,308,311,311,311,9]:=by rw[zbl];rfl
 exact⟨op,nm,sc,ab,wh,k1,n1,s1,A1,l1,z1,k2,n2,s2,A2,l2,z2,A3,l3,z3,A4,l4,z4,A5,l5,z5,A6,l6,z6,rfl,
  ⟨zfk w1,w2,w3,zfk w4,zfk w5,⟨a3,b2⟩,⟨b0,a6⟩,⟨a9,a7⟩,⟨b3,a8⟩⟩,⟨(zfk w6).1,(zfk w6).2,(zbz w7).1,(zbz w7).2,w8,a5,w9⟩,⟨(zfk a0).1,(zfk a0).2,(zbz a1).1,(zbz a1).2,a2,b1,a4⟩,
  h.kids 0 _ (by rw[hs];rfl) rfl,h.kids 1 _ (by rw[hs];rfl) rfl,h.kids 2 _ (by rw[hs];rfl) rfl,h.kids 3 _ (by rw[hs];rfl) rfl,h.kids 4 _ (by rw[hs];rfl) rfl,h.kids 5 _ (by rw[hs];rfl) rfl⟩
theorem zol (g:G):Ty 28 g->∃t:T,g.c=t.cells/\∀(w:World) (lo hi:Nat),g.In w lo hi->t.In w lo hi:=by
 induction g using G.ind with
 |h c s ih=>
  intro h;have h0:=h.fits;rw[zc2]at h0;obtain⟨k,c,rfl,w1,h0⟩:=h0.inv_int;obtain⟨n,c,rfl,w2,h0⟩:=h0.inv_int;obtain⟨b,c,rfl,w3,h0⟩:=h0.inv_str;obtain⟨A,l,cap,c,s,rfl,rfl,w4,w5,h0⟩:=h0.inv_sl;obtain⟨r,c,rfl,w6,h0⟩:=h0.inv_int;obtain⟨rfl,rfl⟩:=h0.inv_nil;have hk:=h.kids 0 _ (by rw[zc2];rfl) rfl;have a1:∀i,i<l.length->∃t:T,∃x,l[i]? =some x/\x.c=t.cells/\∀(w:World) (lo hi:Nat),x.In w lo hi->t.In w lo hi:=λi hi=>by
   have hm:=List.getElem_mem hi;obtain⟨t,h1,h2⟩:=ih A l s_ l[i] hm (hk _ hm);exact⟨t,l[i],List.getElem?_eq_getElem hi,h1,h2⟩
  obtain⟨ts,a0,hq⟩:=zbr l.length a1;refine⟨.mk k n b A cap ts r,by simp[G.c,T.cells,a0],λw lo hi hin=>?_⟩;rw[G.in_mk]at hin;obtain⟨h1,h2⟩:=hin A l s_;refine T.in_mk.2 ⟨⟨(zfk w1).1,(zfk w1).2,(zbz w2).1,(zbz w2).2,w3,by rw[a0];exact w5,by rw[a0];exact w4,(zbz w6).1,(zbz w6).2⟩,λhne=>?_,λx hx=>?_⟩
  .obtain⟨b,o,rfl,a3,a4,hc⟩:=h1 (by rintro rfl;simp at a0;exact hne a0);refine⟨b,o,rfl,a3,a4,λi x hx j u hu=>?_⟩;obtain⟨y,hy,a2,-⟩:=hq i x hx;have:=hc i y hy j u (by rw[a2];exact hu);rwa [a2,T.cells_length]at this
  .obtain⟨i,hi',rfl⟩:=List.mem_iff_getElem.1 hx;obtain⟨y,hy,-,a5⟩:=hq i _ (List.getElem?_eq_getElem hi');exact a5 w lo hi (h2 y (List.mem_of_getElem? hy))
theorem zu3 {l:List G} (h:∀x∈l,Ty 28 x):∃ts:List T,ts.length=l.length/\∀(A:Option Addr) (c:List Value) (subs:List (Option Addr×List G)) (w:World) (lo hi:Nat),(A,l)∈subs->(G.mk c subs).In w lo hi->(ts≠[]->∃b o,A=some ⟨b,o,none⟩/\lo<=b/\b<hi/\∀i x,ts[i]? =some x->zxy w b (o+i*5) x)/\∀x∈ts,x.In w lo hi:=by
 have a1:∀i,i<l.length->∃t:T,∃x,l[i]? =some x/\x.c=t.cells/\∀(w:World) (lo hi:Nat),x.In w lo hi->t.In w lo hi:=λi hi=>by
  have hm:=List.getElem_mem hi;obtain⟨t,h1,h2⟩:=zol l[i] (h _ hm);exact⟨t,l[i],List.getElem?_eq_getElem hi,h1,h2⟩
 obtain⟨ts,a0,hq⟩:=zbr l.length a1;refine⟨ts,a0,λA c subs w lo hi hA hin=>?_⟩;rw[G.in_mk]at hin;obtain⟨h1,h2⟩:=hin A l hA;refine⟨λhne=>?_,λx hx=>?_⟩
 .obtain⟨b,o,rfl,a3,a4,hc⟩:=h1 (by rintro rfl;simp at a0;exact hne a0);refine⟨b,o,rfl,a3,a4,λi x hx j u hu=>?_⟩;obtain⟨y,hy,a2,-⟩:=hq i x hx;have:=hc i y hy j u (by rw[a2];exact hu);rwa [a2,T.cells_length]at this
 .obtain⟨i,hi',rfl⟩:=List.mem_iff_getElem.1 hx;obtain⟨y,hy,-,a5⟩:=hq i _ (List.getElem?_eq_getElem hi');exact a5 w lo hi (h2 y (List.mem_of_getElem? hy))
inductive G.Has (b:Nat):G->Prop
 |here {c:List Value} {subs:List (Option Addr×List G)} {a:Addr} {l:List G} (h:(some a,l)∈subs) (hl:l≠[]) (ha:a.block=b):G.Has b (.mk c subs)
 |sub {c:List Value} {subs:List (Option Addr×List G)} {A:Option Addr} {l:List G} {x:G} (h:(A,l)∈subs) (hx:x∈l) (hh:G.Has b x):G.Has b (.mk c subs)
theorem G.In.has {w:World} {lo hi b:Nat} {g:G} (h:g.Has b):g.In w lo hi->lo<=b/\b<hi:=by
 induction h with
 |here h hl ha=>
  intro hin;rw[G.in_mk]at hin;obtain⟨b,o,e,h0,h1,-⟩:=(hin _ _ h).1 hl;injection e with e
  subst e ha;exact⟨h0,h1⟩
 |sub h hx hh ih=>
  intro hin;rw[G.in_mk]at hin;exact ih ((hin _ _ h).2 _ hx)
theorem G.In.keepH {w w':World} {lo hi:Nat} (g:G):g.In w lo hi->(∀b,g.Has b->∀o,w'.cell? ⟨b,o,none⟩=w.cell? ⟨b,o,none⟩)->g.In w' lo hi:=by
 induction g using G.ind with
 |h c subs ih=>
  intro h hk;rw[G.in_mk]at h ⊢;intro A l hs;obtain⟨h1,h2⟩:=h A l hs;refine⟨λhl=>?_,λx hx=>ih A l hs x hx (h2 x hx) λb hb o=>hk b (.sub hs hx hb) o⟩;obtain⟨b,o,rfl,a1,a0,hc⟩:=h1 hl;exact⟨b,o,rfl,a1,a0,λi x hx j u hu=>(hk b (.here hs hl rfl) _).trans (hc i x hx j u hu)⟩
theorem G.In.frH {S:Nat->Prop} {w w':World} {lo hi:Nat} {g:G} (h:g.In w lo hi) (hf:Fr S w w') (hh:hi<=w.heap.size) (hs:∀b,g.Has b->¬S b):g.In w' lo hi:=
 G.In.keepH g h λb hb _=>hf.cell (by have:=(G.In.has hb h).2;omega) (hs b hb)
def G.Td (w:World) (g:G):Prop:=∀b,g.Has b->∃e cs,(e=28\/e=308\/e=311\/e=260\/e=9)/\Blk w b e cs
theorem G.Td.fr {S:Nat->Prop} {w w':World} {g:G} (h:g.Td w) (hf:Fr S w w') (hs:∀b,g.Has b->¬S b):g.Td w':=λb hb=>by
 obtain⟨e,cs,he,a0⟩:=h b hb;exact⟨e,cs,he,a0.fr hf (hs b hb)⟩
def G.row (A:Option Addr) (l:List G):G:=.mk [] [(A,l)]
theorem G.row_in {w:World} {lo hi:Nat} {A:Option Addr} {l:List G}:(G.row A l).In w lo hi↔(l≠[]->∃b o,A=some ⟨b,o,none⟩/\lo<=b/\b<hi/\∀i x,l[i]? =some x->∀j u,x.c[j]? =some u->w.cell? ⟨b,o+i*x.c.length+j,none⟩=some u)/\∀x∈l,x.In w lo hi:=by
 unfold G.row;rw[G.in_mk];constructor
 .intro h;exact h A l s_
 .intro h A' l' hs;simp at hs;obtain⟨rfl,rfl⟩:=hs;exact h
theorem G.in_rows {w:World} {lo hi:Nat} {c:List Value} {subs:List (Option Addr×List G)}:(G.mk c subs).In w lo hi↔∀A l,(A,l)∈subs->(G.row A l).In w lo hi:=by
 rw[G.in_mk];constructor
 .intro h A l hs;exact G.row_in.2 (h A l hs)
 .intro h A l hs;exact G.row_in.1 (h A l hs)
theorem G.row_has {b:Nat} {A:Option Addr} {l:List G} (h:(G.row A l).Has b):(∃a,A=some a/\l≠[]/\a.block=b)\/∃x∈l,x.Has b:=by
 unfold G.row at h;cases h with
 |here h hl ha=>
  simp at h;obtain⟨rfl,rfl⟩:=h;exact .inl ⟨_,rfl,hl,ha⟩
 |sub h hx hh=>
  simp at h;obtain⟨rfl,rfl⟩:=h;exact .inr ⟨_,hx,hh⟩
theorem G.mk_has {b:Nat} {c:List Value} {subs:List (Option Addr×List G)}:(G.mk c subs).Has b↔∃A l,(A,l)∈subs/\(G.row A l).Has b:=by
 constructor
 .intro h;cases h with
  |here h hl ha=>exact⟨_,_,h,.here (List.mem_singleton.2 rfl) hl ha⟩
  |sub h hx hh=>exact⟨_,_,h,.sub (List.mem_singleton.2 rfl) hx hh⟩
 .rintro⟨A,l,h,hr⟩;rcases G.row_has hr with⟨a,rfl,hl,ha⟩|⟨x,hx,hh⟩
  .exact .here h hl ha
  .exact .sub h hx hh
def za6 (l:List G):List Value:=l.flatMap G.c
theorem zdc {l:List G} {n:Nat} (h:∀x∈l,x.c.length=n):(za6 l).length=l.length*n:=by
 induction l with
 |nil=>simp[za6]
 |cons x l ih=>
  have:=ih λy hy=>h y (by simp[hy]);simp only[za6,List.flatMap_cons,List.length_append]at this ⊢;rw[this,h x s_];simp only[List.length_cons];rw[Nat.add_mul];omega
theorem zdw {n:Nat}:∀{l:List G},(∀x∈l,x.c.length=n)->∀{i j:Nat} {x:G} {u:Value},l[i]? =some x->x.c[j]? =some u->(za6 l)[i*n+j]? =some u
 |[],_,i,j,x,u,h,_=>by simp at h
 |y::l,hl,0,j,x,u,h,hu=>by
  simp at h;subst h;simp only[za6,List.flatMap_cons,Nat.zero_mul,Nat.zero_add];rw[List.getElem?_append_left (List.getElem?_eq_some_iff.1 hu).1];exact hu
 |y::l,hl,i+1,j,x,u,h,hu=>by
  simp only[List.getElem?_cons_succ]at h;have:=zdw (λz hz=>hl z (by simp[hz])) h hu;have hy:=hl y s_;simp only[za6,List.flatMap_cons]at this ⊢;rw[List.getElem?_append_right (by rw[hy,Nat.add_mul];omega),hy,show(i+1)*n+j - n=i*n+j by rw[Nat.add_mul];omega];exact this
theorem zkg (l:List G) (x:G):za6 (l++[x])=za6 l++x.c:=by simp[za6]
theorem G.row_at {w:World} {lo hi:Nat} {A:Option Addr} {l:List G} (h:(G.row A l).In w lo hi) {i:Nat} (hi':i<l.length):
 ∃b o,A=some ⟨b,o,none⟩/\lo<=b/\b<hi/\l[i].In w lo hi/\∀j u,l[i].c[j]? =some u->w.cell? ⟨b,o+i*l[i].c.length+j,none⟩=some u:=by
 obtain⟨h1,h2⟩:=G.row_in.1 h;obtain⟨b,o,rfl,h0,h3,hc⟩:=h1 (by rintro rfl;simp at hi');exact⟨b,o,rfl,h0,h3,h2 _ (List.getElem_mem hi'),hc i _ (List.getElem?_eq_getElem hi')⟩
def erV:Value->Value
 | .slice _ n _=>.slice none n 0
 |v=>v
def G.er:G->G
 | .mk c subs=>.mk (c.map erV) (subs.attach.map λs=>(none,s.1.2.attach.map λx=>G.er x.1))
termination_by g=>g
decreasing_by
 have h1:=List.sizeOf_lt_of_mem s.2
 have h2:=List.sizeOf_lt_of_mem x.2
 obtain⟨⟨A,l⟩,hs⟩:=s
 simp at h1 h2 ⊢
 omega
theorem G.er_mk (c:List Value) (subs:List (Option Addr×List G)):(G.mk c subs).er= .mk (c.map erV) (subs.map λs=>(none,s.2.map G.er)):=by
 rw[G.er];congr 1
 have h:∀s:{s // s∈subs},((none:Option Addr),s.1.2.attach.map λx=>G.er x.1)=(none,s.1.2.map G.er):=λs=>by
  rw[List.attach_map_val (f:=G.er)]
 rw[List.map_congr_left λs _=>h s];exact List.attach_map_val (f:=λs:Option Addr×List G=>((none:Option Addr),s.2.map G.er))
def T.row (A:Option Addr) (cap:Nat) (l:List T):T:=.mk 3 0 ⟨#[]⟩ A cap l 0
def zai (l:List T):List Value:=l.flatMap T.cells
theorem za7 (l:List T):(zai l).length=l.length*5:=by
 induction l with
 |nil=>rfl
 |cons x l ih=>simp only[zai,List.flatMap_cons,List.length_append]at ih ⊢;rw[T.cells_length,ih];simp only[List.length_cons];omega
theorem zbs:∀(l:List T) (i c:Nat) (x:T) (u:Value),l[i]? =some x->x.cells[c]? =some u->(zai l)[i*5+c]? =some u
 |[],i,c,x,u,h,_=>by simp at h
 |y::l,0,c,x,u,h,hu=>by
  simp at h;subst h;simp only[zai,List.flatMap_cons,Nat.zero_mul,Nat.zero_add];rw[List.getElem?_append_left]
  .exact hu
  .exact(List.getElem?_eq_some_iff.1 hu).1
 |y::l,i+1,c,x,u,h,hu=>by
  simp only[List.getElem?_cons_succ]at h;have:=zbs l i c x u h hu;simp only[zai,List.flatMap_cons]at this ⊢;rw[List.getElem?_append_right (by rw[T.cells_length];omega),T.cells_length,show(i+1)*5+c - 5=i*5+c by omega];exact this
theorem zcp (l:List T) (x:T):zai (l++[x])=zai l++x.cells:=by simp[zai]
theorem cells_one (x:T):∀u∈x.cells,u.oneCell'=true:=by
 cases x;simp[T.cells,Value.oneCell']
theorem za8 {w:World} {base:Nat} {e:TypeId} {size:Nat} {v:Value} {n:Nat} {xs:List Value} (h:w.ownsRow base e size v n xs):∃A cap,v= .slice A n cap:=by
 rcases h.2 with⟨rfl,rfl⟩|⟨g,cap,a0,rfl,_⟩
 .exact⟨_,_,rfl⟩
 .exact⟨_,_,rfl⟩
theorem zgm {w:World} {base:Nat} {A:Option Addr} {cap:Nat} {l:List T} {lo hi:Nat} (h:w.ownsRow base 28 5 (.slice A l.length cap) l.length (zai l)) (hl:∀x∈l,x.In w lo hi) (hlen:l.length*64<=140737488351232) (hlo:lo<=base) (hhi:hi<=w.heap.size):
 (T.row A cap l).In w lo w.heap.size:=by
 rcases h.2 with⟨hs,h0⟩|⟨g,a2,a1,hs,hb,hg,hc,hm,a4,hx⟩
 .obtain rfl:l=[]:=List.eq_nil_of_length_eq_zero h0;simp at hs;obtain⟨rfl,rfl⟩:=hs;exact T.in_mk.2 ⟨⟨by decide,by decide,by decide,by decide,by decide,by decide,Nat.le_refl _,by decide,by decide⟩,λh=>absurd rfl h,by simp⟩
 .simp at hs;obtain⟨rfl,rfl⟩:=hs;refine T.in_mk.2 ⟨⟨by decide,by decide,by decide,by decide,by decide,hlen,hc,by decide,by decide⟩,λ_=>⟨g,0,rfl,by omega,?_,λi x hi' c u hu=>?_⟩,λx hx=>T.In.more (Nat.le_refl _) hhi _ (hl x hx)⟩
  .rcases Nat.lt_or_ge g w.heap.size with hlt|a3
   .exact hlt
   .rw[Array.getElem?_eq_none a3]at hg;cases hg
  .have a0:w.cell? ⟨g,0+i*5+c,none⟩=a1[0+i*5+c]? :=cell_of_row w g _ a1 28 (0,0) hg;rw[a0,Nat.zero_add];have h1:=zbs l i c x u hi' hu;rw[<-hx,List.getElem?_take]at h1;split at h1
   .simpa using h1
   .cases h1
theorem zaj {w:World} {base:Nat} {e:TypeId} {size:Nat} {v:Value} {n:Nat} {xs:List Value} (h:w.ownsRow base e size v n xs):∀g,v.ownBlock=some g->base<=g/\g<w.heap.size:=by
 intro g hg;rcases h.2 with⟨rfl,h0⟩|⟨g',a0,a2,rfl,hb,hh,_⟩
 .cases hg
 .simp[Value.ownBlock]at hg;subst hg;refine⟨hb,?_⟩;rcases Nat.lt_or_ge g' w.heap.size with hlt|a1
  .exact hlt
  .rw[Array.getElem?_eq_none a1]at hh;cases hh
theorem zaf {S:Nat->Prop} {a w:World} {base:Nat} {e:TypeId} {size:Nat} {v:Value} {n:Nat} {xs:List Value} (h:a.ownsRow base e size v n xs) (hf:Fr S a w) (hn:∀g,v.ownBlock=some g->¬S g):w.ownsRow base e size v n xs:=by
 have hl:=zaj h;refine⟨h.1,?_⟩;rcases h.2 with h0|⟨g,cap,a0,rfl,hb,hg,hr⟩
 .exact .inl h0
 .exact .inr ⟨g,cap,a0,rfl,hb,(hf.block g (hl g rfl).2 (hn g rfl)).trans hg,hr⟩
theorem zp3:(Tryz.prog.info? 28).map (λi=>(i.zero,i.size,i.bytes))=some (some (.agg #[.int .u8 0,.int .i64 0,.string ⟨#[]⟩,.slice none 0 0,.int .i64 0]),5,64):=k_
section
variable {H:Type} {enc:TypeId×Value->H}
end
end Go.Proofs.YtlejelbefmkakaaGreat
namespace Go.Proofs.YtlejelbefmkakaaGreat
open Go.RowKit
def V.size:V->Nat
 | .mk _ _ _ l _=>1+(l.map V.size).sum
termination_by v=>v
theorem V.size_mk (k n:Int) (s:ByteArray) (l:List V) (r:Int):(V.mk k n s l r).size=1+(l.map V.size).sum:=by rw[V.size]
def top:List Nat->Nat
 |[]=>0
 |x::l=>max x (top l)
def V.dep:V->Nat
 | .mk k _ _ l _=>if k=3 then 1+top (l.map V.dep)else 0
termination_by v=>v
theorem V.dep_mk (k n:Int) (s:ByteArray) (l:List V) (r:Int):(V.mk k n s l r).dep=if k=3 then 1+top (l.map V.dep)else 0:=by rw[V.dep]
def fok (k n:Int) (s:ByteArray) (len:Nat) (r:Int):Bool:=
 if k=0 then decide (n=0)&&decide (s.toList=[])&&decide (r=0)&&decide (len=0)
 else if k=1 then decide (s.toList=[])&&decide (r=0)&&decide (len=0)
 else if k=2 then decide (s.size<=256)&&decide (n=0)&&decide (r=0)&&decide (len=0)
 else if k=3 then decide (n=0)&&decide (s.toList=[])&&decide (r=0)
 else if k=4 then decide (1<=r)&&decide (n=0)&&decide (s.toList=[])&&decide (len=0)
 else false
def V.ok:V->Bool
 | .mk k n s l r=>fok k n s l.length r&&(l.map V.ok).all id
termination_by v=>v
theorem V.ok_mk (k n:Int) (s:ByteArray) (l:List V) (r:Int):(V.mk k n s l r).ok=(fok k n s l.length r&&l.all V.ok):=by
 rw[V.ok,List.all_map];rfl
def V.fits (v:V) (p q:Nat):Bool:=v.ok&&decide (v.size<=p)&&decide (v.dep<=q)
def V.may (v:V):Bool:=v.fits 512 16
theorem V.size_pos (v:V):1<=v.size:=by cases v;rw[V.size_mk];omega
theorem zcc (l:List Nat) (i:Nat):(l.take i).sum<=l.sum:=by
 induction l generalizing i with
 |nil=>simp
 |cons x l ih=>cases i<;>simp;exact ih _
theorem zb6 (l:List Nat) (i:Nat) (h:i<l.length):(l.take (i+1)).sum=(l.take i).sum+l[i]:=by
 rw[List.take_succ_eq_append_getElem h,List.sum_append_nat];simp
theorem zhk {l:List Nat} {x:Nat} (h:x∈l):x<=top l:=by
 induction l with
 |nil=>cases h
 |cons y l ih=>
  rcases List.mem_cons.1 h with rfl|h
  .simp[top];omega
  .have:=ih h;simp[top];omega
theorem zmh {l:List Nat} {n:Nat} (h:∀x∈l,x<=n):top l<=n:=by
 induction l with
 |nil=>simp[top]
 |cons y l ih=>
  have h1:=h y s_;have h2:=ih λx hx=>h x (by simp[hx]);simp[top];omega
theorem zan (n:Nat):((n:Int)==0)=decide (n=0):=by
 rw[Bool.eq_iff_iff];simp
theorem ziu {k n:Int} {s:ByteArray} {len:Nat} {r:Int} (hk:k≠3) (h:fok k n s len r=true):len=0:=by
 unfold fok at h;by_cases h0:k=0
 .simp[h0]at h;omega
 .by_cases h1:k=1
  .simp[h1]at h;omega
  .by_cases h2:k=2
   .simp[h2]at h;omega
   .by_cases h4:k=4
    .simp[h4]at h;omega
    .simp[h0,h1,h2,hk,h4]at h
theorem zqc {k n:Int} {s:ByteArray} {l:List V} {r:Int} {p q:Nat} (hk:k≠3) (hp:1<=p):
 (V.mk k n s l r).fits p q=fok k n s l.length r/\(fok k n s l.length r=true->(V.mk k n s l r).size=1):=by
 by_cases h:fok k n s l.length r=true
 .have hl:l=[]:=List.eq_nil_of_length_eq_zero (ziu hk h);subst hl;refine⟨?_,λ_=>by simp[V.size_mk]⟩;simp[V.fits,V.ok_mk,V.size_mk,V.dep_mk,hk,hp]
 .simp at h;refine⟨by simp[V.fits,V.ok_mk,h],λh'=>by rw[h]at h';cases h'⟩
theorem zqd (v:V) (q:Nat):v.fits 0 q=false:=by
 have:=v.size_pos;simp[V.fits];omega
def zh3 (l:List V) (q j:Nat):Prop:=∀x∈l.take j,x.ok=true/\x.dep<=q
def zbu (l:List V) (j:Nat):Nat:=((l.map V.size).take j).sum
theorem zdh (l:List V):zbu l 0=0:=by simp[zbu]
theorem zee (l:List V) (j:Nat) (h:j<l.length):zbu l (j+1)=zbu l j+l[j].size:=by
 unfold zbu;rw[zb6 _ _ (by simpa using h)];simp
theorem zh4 (l:List V):zbu l l.length=(l.map V.size).sum:=by
 unfold zbu;rw[List.take_of_length_le s_]
theorem zj6 (l:List V) (j:Nat):zbu l j<=(l.map V.size).sum:=zcc _ _
theorem zk6 (l:List V) (q:Nat):zh3 l q 0:=λx hx=>by simp at hx
theorem zk7 {l:List V} {q j:Nat} (h:zh3 l q j) (hj:j<l.length) (ho:l[j].ok=true) (hd:l[j].dep<=q):zh3 l q (j+1):=λx hx=>by
 rw[List.take_succ_eq_append_getElem hj,List.mem_append]at hx;rcases hx with hx|hx
 .exact h x hx
 .simp at hx;subst hx;exact⟨ho,hd⟩
theorem zqe {n:Int} {s:ByteArray} {l:List V} {r:Int} {p q j:Nat} (hj:j<l.length) (hq:1<=q) (h:l[j].fits (p - 1 - zbu l j) (q - 1)=false):
 (V.mk 3 n s l r).fits p q=false:=by
 cases hf:(V.mk 3 n s l r).fits p q with
 |false=>rfl
 |true=>
  exfalso;simp[V.fits,V.ok_mk,V.size_mk,V.dep_mk]at hf;obtain⟨⟨⟨_,h1⟩,h2⟩,h3⟩:=hf;have ho:=h1 l[j] (List.getElem_mem hj);have hd:l[j].dep<=top (l.map V.dep):=zhk (List.mem_map_of_mem (List.getElem_mem hj));have h4:=zee l j hj;have h5:=zj6 l (j+1);simp[V.fits,ho]at h;have:=h o_;omega
theorem zh5 {n:Int} {s:ByteArray} {l:List V} {r:Int} {p q:Nat} (h:p<1+l.length\/q=0):(V.mk 3 n s l r).fits p q=false:=by
 have h1:l.length<=(l.map V.size).sum:=by
  clear h;induction l with
  |nil=>simp
  |cons x l ih=>have:=x.size_pos;simp;omega
 rcases h with h|h
 .simp[V.fits,V.size_mk];omega
 .simp[V.fits,V.dep_mk];omega
theorem zqf {n:Int} {s:ByteArray} {l:List V} {r:Int} {p q:Nat} (hs:zbu l l.length<=p - 1) (hp:1<=p) (hq:1<=q) (h:zh3 l (q - 1) l.length):
 (V.mk 3 n s l r).fits p q=fok 3 n s l.length r/\(V.mk 3 n s l r).size=1+zbu l l.length:=by
 rw[zh4]at*;have a0:∀x∈l,x.ok=true/\x.dep<=q - 1:=by
  intro x hx;exact h x (by rw[List.take_of_length_le (Nat.le_refl _)];exact hx)
 have ht:top (l.map V.dep)<=q - 1:=zmh λd hd=>by
  obtain⟨x,hx,rfl⟩:=List.mem_map.1 hd;exact(a0 x hx).2
 refine⟨?_,V.size_mk _ _ _ _ _⟩;have ha:l.all V.ok=true:=List.all_eq_true.2 λx hx=>(a0 x hx).1;simp only[V.fits,V.ok_mk,V.size_mk,V.dep_mk,ha,if_pos,Bool.and_true];rw[decide_eq_true o_,decide_eq_true o_];simp
def zxv (L p q:Nat) (v:V) (w:World) (e:Ending) (w':World):Prop:=
 e= .returned (.bool (v.fits p q))/\Fr (· =L) w w'/\
  (v.fits p q=true->w'.cell? ⟨L,0,none⟩=some (.int .i64 ((p - v.size:Nat):Int))/\w'.cell? ⟨L,1,none⟩=some (.int .i64 (q:Int))/\
   w'.frozen? ⟨L,0,none⟩=false/\w'.frozen? ⟨L,1,none⟩=false)
theorem zi3 {v:V} {w W:World} {L p q:Nat} (h:v.fits p q=false) (hF:Fr (· =L) w W):zxv L p q v w (.returned (.bool false)) W:=
 ⟨by rw[h],hF,λh'=>by rw[h]at h';cases h'⟩
theorem zcd {k n:Int} {s:ByteArray} {A:Option Addr} {cap:Nat} {l:List T} {r:Int} {w W:World} {L p q:Nat} {b:Bool} (hk:k≠3) (hp:1<=p)
 (hb:b=fok k n s l.length r) (hF:Fr (· =L) w W) (h0:W.cell? ⟨L,0,none⟩=some (.int .i64 ((p:Int) - 1))) (h1:W.cell? ⟨L,1,none⟩=some (.int .i64 (q:Int)))
 (f0:W.frozen? ⟨L,0,none⟩=false) (f1:W.frozen? ⟨L,1,none⟩=false):zxv L p q (T.mk k n s A cap l r).v w (.returned (.bool b)) W:=by
 rw[T.v_mk];obtain⟨e1,e2⟩:=zqc (n:=n) (s:=s) (l:=l.map T.v) (r:=r) (q:=q) hk hp;rw[List.length_map]at e1 e2;refine⟨by rw[e1,hb],hF,λh=>?_⟩;rw[e1]at h;rw[e2 h,h0];exact⟨by congr 2;omega,h1,f0,f1⟩
theorem zqr (k n:Int) (s:ByteArray) (A:Option Addr) (cap:Nat) (l:List T) (r:Int) (w:World) (L p q:Nat)
 (hL:L<w.heap.size) (_:L<=w.heap.size)
 (hp:w.cell? ⟨L,0,none⟩=some (.int .i64 (p:Int))) (hq:w.cell? ⟨L,1,none⟩=some (.int .i64 (q:Int)))
 (hf0:w.frozen? ⟨L,0,none⟩=false) (hf1:w.frozen? ⟨L,1,none⟩=false) (hp0:0<p) (hp1:p<=512) (hk:k≠3):
  Calls Tryz.prog 216 #[.pointer (some ⟨L,0,none⟩),.agg #[.int .u8 k,.int .i64 n,.string s,.slice A l.length cap,.int .i64 r]] w (zxv L p q (T.mk k n s A cap l r).v w):=by
 have a0:((p:Int)==0)=false:=so_;have k3:(k==3)=false:=by simp;exact hk
 by_cases h0:k=0
 .subst h0;go_enter Tryz.func216,Tryz.ntmps216;go_wp2;all_goals
   go_ret;refine zcd (by first|decide|assumption) hp0 (by first|(simp[fok, *];done)|(simp[fok, *];omega)|(simp[fok,zan, *];done)|(simp[fok,zan, *];omega)|(simp[fok,zan, *];intros;omega)) (by repeat(first|exact Fr.refl _ w|refine Fr.alloc ?_ _|refine Fr.set ?_ s_ _)) ?_ ?_ ?_ ?_ <;>simp[go_sem, *]
 .have k0:(k==0)=false:=by simp;exact h0
  by_cases h1:k=1
  .subst h1;go_enter Tryz.func216,Tryz.ntmps216;go_wp2;all_goals
    go_ret;refine zcd (by first|decide|assumption) hp0 (by first|(simp[fok, *];done)|(simp[fok, *];omega)|(simp[fok,zan, *];done)|(simp[fok,zan, *];omega)|(simp[fok,zan, *];intros;omega)) (by repeat(first|exact Fr.refl _ w|refine Fr.alloc ?_ _|refine Fr.set ?_ s_ _)) ?_ ?_ ?_ ?_ <;>simp[go_sem, *]
  .have k1:(k==1)=false:=by simp;exact h1
   by_cases h2:k=2
   .subst h2;by_cases hs:s.size<=256
    .have a2:¬(256:Int)<(s.size:Int):=o_;go_enter Tryz.func216,Tryz.ntmps216;go_wp2;all_goals
      go_ret;refine zcd (by first|decide|assumption) hp0 (by first|(simp[fok, *];done)|(simp[fok, *];omega)|(simp[fok,zan, *];done)|(simp[fok,zan, *];omega)|(simp[fok,zan, *];intros;omega)) (by repeat(first|exact Fr.refl _ w|refine Fr.alloc ?_ _|refine Fr.set ?_ s_ _)) ?_ ?_ ?_ ?_ <;>simp[go_sem, *]
    .have a2:(256:Int)<(s.size:Int):=o_;go_enter Tryz.func216,Tryz.ntmps216;go_wp2;all_goals
      go_ret;refine zcd (by first|decide|assumption) hp0 (by first|(simp[fok, *];done)|(simp[fok, *];omega)|(simp[fok,zan, *];done)|(simp[fok,zan, *];omega)|(simp[fok,zan, *];intros;omega)) (by repeat(first|exact Fr.refl _ w|refine Fr.alloc ?_ _|refine Fr.set ?_ s_ _)) ?_ ?_ ?_ ?_ <;>simp[go_sem, *]
   .have k2:(k==2)=false:=by simp;exact h2
    by_cases h4:k=4
    .subst h4;by_cases hr:1<=r
     .have a1:¬r<1:=o_;go_enter Tryz.func216,Tryz.ntmps216;go_wp2;all_goals
       go_ret;refine zcd (by first|decide|assumption) hp0 (by first|(simp[fok, *];done)|(simp[fok, *];omega)|(simp[fok,zan, *];done)|(simp[fok,zan, *];omega)|(simp[fok,zan, *];intros;omega)) (by repeat(first|exact Fr.refl _ w|refine Fr.alloc ?_ _|refine Fr.set ?_ s_ _)) ?_ ?_ ?_ ?_ <;>simp[go_sem, *]
     .have a1:r<1:=o_;go_enter Tryz.func216,Tryz.ntmps216;go_wp2;all_goals
       go_ret;refine zcd (by first|decide|assumption) hp0 (by first|(simp[fok, *];done)|(simp[fok, *];omega)|(simp[fok,zan, *];done)|(simp[fok,zan, *];omega)|(simp[fok,zan, *];intros;omega)) (by repeat(first|exact Fr.refl _ w|refine Fr.alloc ?_ _|refine Fr.set ?_ s_ _)) ?_ ?_ ?_ ?_ <;>simp[go_sem, *]
    .have k4:(k==4)=false:=by simp;exact h4
     go_enter Tryz.func216,Tryz.ntmps216;go_wp2;all_goals
      go_ret;refine zcd (by first|decide|assumption) hp0 (by first|(simp[fok, *];done)|(simp[fok, *];omega)|(simp[fok,zan, *];done)|(simp[fok,zan, *];omega)|(simp[fok,zan, *];intros;omega)) (by repeat(first|exact Fr.refl _ w|refine Fr.alloc ?_ _|refine Fr.set ?_ s_ _)) ?_ ?_ ?_ ?_ <;>simp[go_sem, *]
structure TakeInv (w:World) (L a c:Nat) (X:Array Value) (wr:World):Prop where
 fr:Fr (· =L) w wr
 c0:wr.cell? ⟨L,0,none⟩=some (.int .i64 (a:Int))
 c1:wr.cell? ⟨L,1,none⟩=some (.int .i64 (c:Int))
 f0:wr.frozen? ⟨L,0,none⟩=false
 f1:wr.frozen? ⟨L,1,none⟩=false
 b0:Blk wr w.heap.size 28 X
 b1:Blk wr (w.heap.size+1) 28 X
theorem zqs {n:Int} {s:ByteArray} {A:Option Addr} {cap:Nat} {l:List T} {r:Int} {w W:World} {L p q:Nat} {b:Bool} (hs:zbu (l.map T.v) l.length<=p - 1) (hp:1<=p) (hq:1<=q)
 (hall:zh3 (l.map T.v) (q - 1) l.length) (hb:b=fok 3 n s l.length r) (hF:Fr (· =L) w W)
 (h0:W.cell? ⟨L,0,none⟩=some (.int .i64 ((p - 1 - zbu (l.map T.v) l.length:Nat):Int))) (h1:W.cell? ⟨L,1,none⟩=some (.int .i64 (((q - 1:Nat):Int)+1)))
 (f0:W.frozen? ⟨L,0,none⟩=false) (f1:W.frozen? ⟨L,1,none⟩=false):zxv L p q (T.mk 3 n s A cap l r).v w (.returned (.bool b)) W:=by
 rw[T.v_mk];have hl:(l.map T.v).length=l.length:=List.length_map ..;obtain⟨e1,e2⟩:=zqf (n:=n) (s:=s) (l:=l.map T.v) (r:=r) (by rw[hl];exact hs) hp hq (by rw[hl];exact hall);rw[hl]at e1 e2;refine⟨by rw[e1,hb],hF,λh=>?_⟩;rw[e2,h0,h1];exact⟨by congr 3;omega,by congr 2;omega,f0,f1⟩
theorem zta (t:T):∀(w:World) (L p q lo hi:Nat),t.In w lo hi->hi<=L->L<w.heap.size->
 w.cell? ⟨L,0,none⟩=some (.int .i64 (p:Int))->w.cell? ⟨L,1,none⟩=some (.int .i64 (q:Int))->
 w.frozen? ⟨L,0,none⟩=false->w.frozen? ⟨L,1,none⟩=false->p<=512->q<=16->
 Calls Tryz.prog 216 #[.pointer (some ⟨L,0,none⟩),t.val] w (zxv L p q t.v w):=by
 induction t using T.ind with
 |h k n s A cap l r ih=>
  intro w L p q lo hi ht hh hL hp hq hf0 hf1 hp1 hq1;have a6:L<=w.heap.size:=Nat.le_of_lt hL;rw[T.val];by_cases b6:p=0
  .subst b6;have e0:=zqd (T.mk k n s A cap l r).v q;have hp:w.cell? ⟨L,0,none⟩=some (.int .i64 0):=by simpa using hp
   go_enter Tryz.func216,Tryz.ntmps216;go_wp2;go_ret;exact zi3 e0 ((Fr.refl _ w).alloc _)
  by_cases hk:k=3
  .subst hk;have b3:((p:Int)==0)=false:=so_;have c5:(1:Int)<=p:=o_;have d0:Fit 3 n s l.length cap r:=(T.in_mk.1 ht).1;by_cases c2:q=0
   .subst c2;have e0:(T.mk 3 n s A cap l r).v.fits p 0=false:=by rw[T.v_mk];exact zh5 (.inr rfl)
    go_enter Tryz.func216,Tryz.ntmps216;go_wp2_with fail;go_quiet (fail)
    go_wp2;go_ret;exact zi3 e0 (((((Fr.refl _ w).set s_ _).alloc _).alloc _).drewN _)
   .have a8:((q:Int)==0)=false:=so_;have c8:(1:Int)<=q:=o_;by_cases b9:(p:Int) - 1<(l.length:Int)
    .have e0:(T.mk 3 n s A cap l r).v.fits p q=false:=by rw[T.v_mk];exact zh5 (.inl so_)
     go_enter Tryz.func216,Tryz.ntmps216;go_wp2_with fail;go_quiet (fail)
     go_wp2;go_ret;exact zi3 e0 (((((Fr.refl _ w).set s_ _).alloc _).alloc _).drewN _)
    .have a4:(l.length:Int)<=(p:Int) - 1:=o_;have hd:decide ((p:Int) - 1<(l.length:Int))=false:=so_;go_enter Tryz.func216,Tryz.ntmps216;go_wp2_with fail;go_quiet (fail)
     go_wp2;go_loopw [68] (λi wr=>∃j:Nat,j<=l.length/\i= .int .i64 j/\zh3 (l.map T.v) (q - 1) j/\zbu (l.map T.v) j<=p - 1/\
      TakeInv w L (p - 1 - zbu (l.map T.v) j) (q - 1) #[.int .u8 3,.int .i64 n,.string s,.slice A l.length cap,.int .i64 r] wr)
      (λi _=>l.length - (intOf i).toNat)
     case atStart=>
      refine⟨0,Nat.zero_le _,rfl,zk6 _ _,by rw[zdh];omega,?_⟩;rw[zdh];refine⟨((((((Fr.refl _ w).set s_ _).alloc _).alloc _).drewN _).set s_ _),?_,?_,?_,?_,?_,?_⟩
      .have e:((p - 1 - 0:Nat):Int)=(p:Int) - 1:=o_;rw[e];go_simp
      .have e:((q - 1:Nat):Int)=(q:Int) - 1:=o_;rw[e];refine World.cell?_setCell_same _ _ _ (u:=.int .i64 (q:Int)) ?_;go_simp
      .go_simp
      .go_simp
      .exact((((Blk.new' (w.setCell ⟨L,0,none⟩ (.int .i64 ((p:Int) - 1))) 28 _ s_).alloc _).drewN _).far (p:=⟨L,1,none⟩) so_ _)
      .exact((((Blk.new' ((w.setCell ⟨L,0,none⟩ (.int .i64 ((p:Int) - 1))).alloc _) 28 _ s_).drewN _).far (p:=⟨L,1,none⟩) so_ _))
     case round=>
      obtain⟨j,hj,rfl,a0,a7,inv⟩:=hrel;have HA:=zaa a0;clear a0;have c0:=inv.c0;have c1:=inv.c1;have c7:=inv.f0;have c6:=inv.f1;have b2:=inv.fr.size;have b8:L<wr.heap.size:=o_;have c4:=Nat.le_of_lt b8;have a5:=inv.b0.lt;have b4:=inv.b1.lt;by_cases hlt:j<l.length
      .obtain⟨b,o,k1,n1,s1,A1,a3,l1,r1,rfl,a5,b4,hx,b7,e0,e1,e2,e3,e4⟩:=T.elem (ht.fr inv.fr o_ (λi _ h1=>by omega)) hlt;have IH:=ih l[j] (List.getElem_mem hlt);rw[hx]at IH;have HX:=zaa hx;clear hx ih;have c9:=Nat.le_of_lt hlt;go_wp2_with fail;refine(IH _ L (p - 1 - zbu (l.map T.v) j) (q - 1) lo hi ?_ hh ?_ ?_ ?_ ?_ ?_ ?_ ?_).mono ?_
       .exact b7.no ((Fr.refl No wr).alloc _) o_
       .simp;omega
       .go_simp
       .go_simp
       .go_simp
       .go_simp
       .omega
       .omega
       rintro e w2 ⟨rfl,a2,a1⟩;have HT:=zaa a1;clear a1;cases hf:(T.mk k1 n1 s1 A1 a3 l1 r1).v.fits (p - 1 - zbu (l.map T.v) j) (q - 1)
       .go_wp2;go_ret;refine zi3 ?_ (((inv.fr.alloc _).trans a2));rw[T.v_mk];refine zqe (j:=j) (by simpa using hlt) o_ ?_;rw[List.getElem_map,HX.out];exact hf
       .go_wp2;go_roundw
        case rel=>
         obtain⟨k0,a9,k2,k3⟩:=HT.out hf;have hs:=zee (l.map T.v) j (by simpa using hlt);rw[List.getElem_map,HX.out]at hs;simp only[V.fits,Bool.and_eq_true,decide_eq_true_eq]at hf;obtain⟨⟨ho,hz⟩,c3⟩:=hf;refine⟨j+1,hlt,by go_num,zk7 HA.out (by simpa using hlt) (by rw[List.getElem_map,HX.out];exact ho) (by rw[List.getElem_map,HX.out];exact c3),by omega,?_⟩;refine⟨(inv.fr.alloc _).trans a2,?_,a9,k2,k3,(inv.b0.alloc _).fr a2 o_,(inv.b1.alloc _).fr a2 o_⟩;rw[k0,hs,Nat.sub_sub _ (zbu _ _) (V.size _)]
        case measure=>simp[intOf];omega
      .have d1:wr.cell? ⟨w.heap.size+1,1,none⟩=some (.int .i64 n):=inv.b1.cell 1;have d2:wr.cell? ⟨w.heap.size+1,2,none⟩=some (.string s):=inv.b1.cell 2;have d3:wr.cell? ⟨w.heap.size+1,3,none⟩=some (.slice A l.length cap):=inv.b1.cell 3;have d4:wr.cell? ⟨w.heap.size+1,4,none⟩=some (.int .i64 r):=inv.b1.cell 4;have df:=inv.b1.frozen 3;have d5:¬L=w.heap.size+1:=o_;have b5:¬w.heap.size+1=L:=o_;obtain rfl:l.length=j:=o_;have HT:=zaa ht;have HI:=zaa inv;clear ht inv ih;go_wp2;all_goals
        go_ret;refine zqs a7 o_ o_ HA.out (by first|(simp[fok, *];done)|(simp[fok, *];omega)) ((HI.out.fr.set s_ _).setNew s_ _) ?_ ?_ ?_ ?_ <;>simp[go_sem, *]
  .exact zqr k n s A cap l r w L p q hL a6 hp hq hf0 hf1 o_ hp1 hk
def V.meas (v:V):Nat:=if v.may=true then v.size else 0
theorem T.val_mk (k n:Int) (s:ByteArray) (A:Option Addr) (cap:Nat) (l:List T) (r:Int):
 (T.mk k n s A cap l r).val= .agg #[.int .u8 k,.int .i64 n,.string s,.slice A l.length cap,.int .i64 r]:=rfl
theorem zkd (t:T) (w:World) (lo hi:Nat) (ht:t.In w lo hi) (hh:hi<=w.heap.size):
 Calls Tryz.prog 160 #[t.val] w λe w'=>e= .returned (.int .i64 (t.v.meas:Int))/\Fr No w w':=by
 cases t with
 |mk k n s A cap l r=>
  have IH:=zta (.mk k n s A cap l r);rw[T.val_mk]at*;have HT:=zaa ht;clear ht;go_enter Tryz.func160,Tryz.ntmps160;go_wp2_with fail;refine(IH _ (w.heap.size+1) 512 16 lo hi ?_ ?_ ?_ ?_ ?_ ?_ ?_ ?_ ?_).mono ?_
  .exact HT.out.no (((Fr.refl No w).alloc _).alloc _) hh
  .omega
  .simp
  .go_simp
  .go_simp
  .go_simp
  .go_simp
  .omega
  .omega
  rintro e w2 ⟨rfl,a1,a0⟩;have hF:Fr No w w2:=(((Fr.refl No w).alloc _).alloc _).trans' a1 λi hi h=>by omega
  have HK:=zaa a0;clear a0 IH;cases hf:(T.mk k n s A cap l r).v.fits 512 16
  .have hm:(T.mk k n s A cap l r).v.meas=0:=by simp[V.meas,V.may,hf]
   have HM:=zaa hm;have HF:=zaa hF;clear hF hm hf;go_wp2;go_ret;exact⟨by rw[HM.out];rfl,HF.out⟩
  .have hm:(T.mk k n s A cap l r).v.meas=(T.mk k n s A cap l r).v.size:=by simp[V.meas,V.may,hf]
   have HM:=zaa hm;obtain⟨c0,c1,f0,f1⟩:=HK.out hf;have a2:(T.mk k n s A cap l r).v.size<=512:=by
    simp[V.fits]at hf;omega
   clear hm hf;generalize (T.mk k n s A cap l r).v.size=z at*;have e:((512 - z:Nat):Int)=512 - (z:Int):=o_;rw[e]at c0;clear e;go_wp2;go_ret;exact⟨by rw[HM.out];go_num,hF⟩
theorem zca (t:T) (w:World) (lo hi:Nat) (ht:t.In w lo hi) (hh:hi<=w.heap.size):
 Calls Tryz.prog 86 #[t.val] w λe w'=>e= .returned (.bool t.v.may)/\Fr No w w':=by
 have IH:=λw' h h'=>zkd t w' lo hi h h';cases hm:t.v.may
 .have HM:t.v.meas=0:=by simp[V.meas,hm]
  rw[HM]at IH;cases t with
  |mk k n s A cap l r=>
   rw[T.val_mk]at*;go_enter Tryz.func86,Tryz.ntmps86;go_wp2_with fail;refine(IH _ (ht.no ((Fr.refl No w).alloc _) hh) so_).mono ?_;rintro e w2 ⟨rfl,a0⟩;go_wp2;go_ret;exact⟨rfl,((Fr.refl No w).alloc _).trans a0⟩
 .have HM:0<t.v.meas:=by simp[V.meas,hm];exact t.v.size_pos
  cases t with
  |mk k n s A cap l r=>
   rw[T.val_mk]at*;generalize (T.mk k n s A cap l r).v.meas=z at*;go_enter Tryz.func86,Tryz.ntmps86;go_wp2_with fail;refine(IH _ (ht.no ((Fr.refl No w).alloc _) hh) so_).mono ?_;rintro e w2 ⟨rfl,a0⟩;go_wp2;go_ret;exact⟨by simp,((Fr.refl No w).alloc _).trans a0⟩
theorem znl:(Tryz.prog.info? 28).map (λi=>(i.zero,i.size,i.bytes))=some (some (.agg #[.int .u8 0,.int .i64 0,.string ⟨#[]⟩,.slice none 0 0,.int .i64 0]),5,64):=k_
theorem zi4 {P:Program} (t e:TypeId) (i:TypeInfo) (z:Value) (ht:P.underlying t=some (.slice e)) (hi:P.info? e=some i) (hz:i.zero=some z)
 (kl kc:IntKind) (n c:Nat) (hnc:n<=c) (hbytes:i.bytes*c<=281474976710656) (h63:c<=9223372036854775807) (w:World):
 (Instr.makeSlice t (.int kl (n:Int)) (.int kc (c:Int))).run P w= .ok (.slice (some ⟨w.heap.size,0,none⟩) n c) (w.alloc (.cells (madeCells z.cells (c*i.size)) e)):=by
 have hb:(i.bytes:Int)*(c:Int)<=281474976710656:=by
  have h:((i.bytes*c:Nat):Int)<=281474976710656:=o_;rwa [Int.natCast_mul]at h
 have hr:=run_make (P:=P) w t e i z ht hi hz kl kc n c o_ o_ hb o_;simp only[Int.toNat_natCast]at hr;exact hr
def zzw (v:V) (w:World) (e:Ending) (w':World):Prop:=
 ∃t':T,e= .returned t'.val/\t'.v=v/\t'.Ow w' w.heap.size w'.heap.size/\Fr No w w'
structure OwnInv (w:World) (X Z:Array Value) (l:List T) (j:Nat) (l':List T) (wr:World):Prop where
 len:l'.length=j
 vs:l'.map T.v=(l.take j).map T.v
 fr:Fr No w wr
 b0:Blk wr w.heap.size 28 X
 b1:Blk wr (w.heap.size+1) 28 Z
 row:∃cs,Blk wr (w.heap.size+1+1) 28 cs/\cs.size=l.length*5/\ze7 cs 0 l'
 forest:Forest wr (w.heap.size+3) wr.heap.size l'
 big:w.heap.size+3<=wr.heap.size
def T.Sp (w:World) (lo hi:Nat):T->Prop
 | .mk k n s A cap l r=>Fit k n s l.length cap r/\(l=[]->A=none/\cap=0)/\(l≠[]->w.ownsRow lo 28 5 (.slice A l.length cap) l.length (zai l)/\∃g,A=some ⟨g,0,none⟩/\g<hi)/\∀x∈l,T.Sp w lo hi x
termination_by t=>t
theorem T.sp_mk {w:World} {lo hi:Nat} {k n:Int} {s:ByteArray} {A:Option Addr} {cap:Nat} {l:List T} {r:Int}:
 (T.mk k n s A cap l r).Sp w lo hi↔Fit k n s l.length cap r/\(l=[]->A=none/\cap=0)/\(l≠[]->w.ownsRow lo 28 5 (.slice A l.length cap) l.length (zai l)/\∃g,A=some ⟨g,0,none⟩/\g<hi)/\∀x∈l,x.Sp w lo hi:=by
 rw[T.Sp]
theorem zbc {w:World} {base base':Nat} {e:TypeId} {size:Nat} {v:Value} {n:Nat} {xs:List Value} (h:w.ownsRow base e size v n xs) (hb:base'<=base):w.ownsRow base' e size v n xs:=by
 refine⟨h.1,?_⟩;rcases h.2 with h|⟨g,cap,a0,h1,h2,h3⟩
 .exact .inl h
 .exact .inr ⟨g,cap,a0,h1,by omega,h3⟩
theorem T.Sp.inn {w:World} {lo hi:Nat} (t:T):t.Sp w lo hi->t.In w lo hi:=by
 induction t using T.ind with
 |h k n s A cap l r ih=>
  rw[T.sp_mk,T.in_mk];rintro⟨h1,_,h3,h4⟩;refine⟨h1,λhl=>?_,λx hx=>ih x hx (h4 x hx)⟩;obtain⟨ho,g,rfl,hg⟩:=h3 hl;have hb:=zaj ho g rfl;refine⟨g,0,rfl,hb.1,hg,λi x hx j u hu=>?_⟩;have:=World.ownsRow.cells ho (g:=g) rfl _ _ (zbs l i j x u hx hu);rw[zbi,<-Nat.add_assoc]at this;exact this
theorem T.Sp.fr {S:Nat->Prop} {w w':World} {lo hi:Nat} (hf:Fr S w w') (t:T):(∀b∈t.blocks,¬S b)->t.Sp w lo hi->t.Sp w' lo hi:=by
 induction t using T.ind with
 |h k n s A cap l r ih=>
  intro hs;rw[T.blocks_mk]at hs;rw[T.sp_mk,T.sp_mk];rintro⟨h1,h2,h3,h4⟩;refine⟨h1,h2,λhl=>?_,λx hx=>ih x hx (λb hb=>hs b (List.mem_append_right _ (List.mem_flatten.2 ⟨_,List.mem_map_of_mem hx,hb⟩))) (h4 x hx)⟩;obtain⟨ho,g,rfl,hg⟩:=h3 hl;refine⟨zaf ho hf (λg' hg'=>?_),g,rfl,hg⟩;simp[Value.ownBlock]at hg';subst hg';refine hs g (List.mem_append_left _ ?_);cases l with
  |nil=>exact absurd rfl hl
  |cons x l=>simp
theorem T.Sp.more {w:World} {lo hi lo' hi':Nat} (hl:lo'<=lo) (hh:hi<=hi') (t:T):t.Sp w lo hi->t.Sp w lo' hi':=by
 induction t using T.ind with
 |h k n s A cap l r ih=>
  rw[T.sp_mk,T.sp_mk];rintro⟨h1,h2,h3,h4⟩;refine⟨h1,h2,λhl'=>?_,λx hx=>ih x hx (h4 x hx)⟩;obtain⟨ho,g,hA,hg⟩:=h3 hl';exact⟨zbc ho hl,g,hA,by omega⟩
structure T.Sh (w:World) (lo hi:Nat) (t:T):Prop where
 sp:t.Sp w lo hi
 nodup:t.blocks.Nodup
theorem T.Sh.inn {w:World} {lo hi:Nat} {t:T} (h:t.Sh w lo hi):t.In w lo hi:=T.Sp.inn t h.sp
theorem T.Sh.fr {S:Nat->Prop} {w w':World} {lo hi:Nat} {t:T} (h:t.Sh w lo hi) (hf:Fr S w w') (hs:∀b∈t.blocks,¬S b):t.Sh w' lo hi:=⟨T.Sp.fr hf t hs h.sp,h.nodup⟩
theorem T.Sh.fr' {S:Nat->Prop} {w w':World} {lo hi:Nat} {t:T} (h:t.Sh w lo hi) (hf:Fr S w w') (hs:∀i,lo<=i->i<hi->¬S i):t.Sh w' lo hi:=
 h.fr hf λb hb=>hs b (T.In.blocks t h.inn b hb).1 (T.In.blocks t h.inn b hb).2
theorem T.Sh.no {w w':World} {lo hi:Nat} {t:T} (h:t.Sh w lo hi) (hf:Fr No w w'):t.Sh w' lo hi:=h.fr hf λ_ _ h=>h
theorem T.Sh.more {w:World} {lo hi lo' hi':Nat} {t:T} (h:t.Sh w lo hi) (hl:lo'<=lo) (hh:hi<=hi'):t.Sh w lo' hi':=⟨T.Sp.more hl hh t h.sp,h.nodup⟩
theorem T.sh_leaf {w:World} {lo hi:Nat} {k n:Int} {s:ByteArray} {r:Int} (h:Fit k n s 0 0 r):(T.mk k n s none 0 [] r).Sh w lo hi:=
 ⟨T.sp_mk.2 ⟨h,λ_=>⟨rfl,rfl⟩,λh=>absurd rfl h,by simp⟩,by rw[T.blocks_mk];simp⟩
theorem zr3 {cs:Array Value} {l:List T} (hs:cs.size=l.length*5) (hr:ze7 cs 0 l):cs.toList=zai l:=by
 refine List.ext_getElem (by rw[Array.length_toList,za7,hs]) λi h1 h2=>?_;rw[Array.length_toList]at h1;have hi:i / 5<l.length:=o_;have hx:l[i / 5]? =some l[i / 5]:=List.getElem?_eq_getElem hi;have hc:i % 5<l[i / 5].cells.length:=by rw[T.cells_length];omega
 have hu:l[i / 5].cells[i % 5]? =some l[i / 5].cells[i % 5]:=List.getElem?_eq_getElem hc;have e1:=hr (i / 5) _ hx (i % 5) _ hu;have e2:=zbs l (i / 5) (i % 5) _ _ hx hu;have e3:i / 5*5+i % 5=i:=o_;rw[Nat.zero_add,e3]at e1;rw[e3]at e2;rw[List.getElem?_eq_getElem h2]at e2;rw[Array.getElem?_eq_getElem h1]at e1;rw[Array.getElem_toList];exact(Option.some.inj e1).trans (Option.some.inj e2).symm
theorem zr4 {w:World} {g lo:Nat} {cs:Array Value} {l:List T} (h:Blk w g 28 cs) (hs:cs.size=l.length*5) (hr:ze7 cs 0 l) (h0:lo<=g) (hm:l.length<=maxLen):w.ownsRow lo 28 5 (.slice (some ⟨g,0,none⟩) l.length l.length) l.length (zai l):=
 ⟨za7 l,.inr ⟨g,l.length,cs,rfl,h0,h,Nat.le_refl _,hm,hs,by rw[zr3 hs hr,List.take_of_length_le (by rw[za7];omega)]⟩⟩
def zyd (v:V) (w:World) (e:Ending) (w':World):Prop:=
 ∃t':T,e= .returned t'.val/\t'.v=v/\t'.Sh w' w.heap.size w'.heap.size/\Fr No w w'
theorem T.Sp.free {w:World} {lo hi:Nat} (t:T):t.Sp w lo hi->∀b∈t.blocks,∀o,w.frozen? ⟨b,o,none⟩=false:=by
 induction t using T.ind with
 |h k n s A cap l r ih=>
  rw[T.sp_mk,T.blocks_mk];rintro⟨h1,_,h3,h4⟩ b hb o;rcases List.mem_append.1 hb with hb|hb
  .cases l with
   |nil=>simp at hb
   |cons x l=>
    obtain⟨ho,g,rfl,hg⟩:=h3 s_;simp at hb;subst hb;rcases ho.2 with⟨h,_⟩|⟨g,cap,a1,h,_,hh,_⟩
    .cases h
    .simp at h;obtain⟨rfl,-⟩:=h;exact Blk.frozen hh o
  .obtain⟨bs,a0,hb⟩:=List.mem_flatten.1 hb;obtain⟨x,hx,rfl⟩:=List.mem_map.1 a0;exact ih x hx (h4 x hx) b hb o
theorem T.Sh.ow {w:World} {lo hi:Nat} {t:T} (h:t.Sh w lo hi):t.Ow w lo hi:=⟨h.inn,h.nodup,T.Sp.free t h.sp⟩
structure OwnInv2 (w:World) (X Z:Array Value) (l:List T) (j:Nat) (l':List T) (wr:World):Prop where
 len:l'.length=j
 vs:l'.map T.v=(l.take j).map T.v
 fr:Fr No w wr
 b0:Blk wr w.heap.size 28 X
 b1:Blk wr (w.heap.size+1) 28 Z
 row:∃cs,Blk wr (w.heap.size+1+1) 28 cs/\cs.size=l.length*5/\ze7 cs 0 l'
 forest:Forest wr (w.heap.size+3) wr.heap.size l'
 big:w.heap.size+3<=wr.heap.size
 sp:∀x∈l',x.Sp wr (w.heap.size+3) wr.heap.size
theorem zl1 (t:T):∀(w:World) (lo hi:Nat),t.In w lo hi->hi<=w.heap.size->Calls Tryz.prog 198 #[t.val] w (zyd t.v w):=by
 induction t using T.ind with
 |h k n s A cap l r ih=>
  intro w lo hi ht hh;rw[T.val_mk];have a1:=(T.in_mk.1 ht).1;have c8:=a1.len1;obtain⟨i0,b8,b7,c6,b4⟩:=info_parts znl;have b2:=λW=>zi4 (P:=Tryz.prog) 26 28 i0 _ Tryz.underlying26 b8 b7 .i64 .i64 l.length l.length (Nat.le_refl _) (by rw[b4];omega) o_ W;rw[c6]at b2;clear b8 b7 c6 b4;by_cases hl:l.length=0
  .have c9:((l.length:Int)==0)=true:=by simp[hl]
   obtain rfl:l=[]:=List.eq_nil_of_length_eq_zero hl;clear b2;go_enter Tryz.func198,Tryz.ntmps198;go_wp2;refine bodyPost_ret (v:=.agg #[.int .u8 k,.int .i64 n,.string s,.slice none 0 0,.int .i64 r]) (by simp[results,Tryz.results198,go_sem]) rfl ?_;refine⟨T.mk k n s none 0 [] r,rfl,by simp[T.v_mk],T.sh_leaf ⟨a1.k0,a1.k1,a1.n0,a1.n1,a1.s1,by simp,Nat.le_refl _,a1.r0,a1.r1⟩,?_⟩;exact((Fr.refl No w).alloc _).alloc _
  .have c9:((l.length:Int)==0)=false:=by simp;intro h;subst h;simp at hl
   have d8:(0:Int)<(l.length:Int):=o_;go_enter Tryz.func198,Tryz.ntmps198;go_wp2_with fail;go_loopw [19] (λi wr=>∃(j:Nat) (l':List T),j<=l.length/\i= .int .i64 j/\
    OwnInv2 w #[.int .u8 k,.int .i64 n,.string s,.slice A l.length cap,.int .i64 r] #[.int .u8 0,.int .i64 0,.string ⟨#[]⟩,.slice none 0 0,.int .i64 0] l j l' wr)
    (λi _=>l.length - (intOf i).toNat)
   case atStart=>
    refine⟨0,[],Nat.zero_le _,rfl,rfl,by simp,(((Fr.refl No w).alloc _).alloc _).alloc _,((Blk.new' w 28 _ rfl).alloc _).alloc _,(Blk.new' (w.alloc _) 28 _ s_).alloc _,
     ⟨_,Blk.new' ((w.alloc _).alloc _) 28 _ s_,size_madeCells _ _,ze7.nil _ _⟩,Forest.nil _ _ _,by simp,by simp⟩
   case round=>
    obtain⟨j,l',hj,rfl,inv⟩:=hrel;have fr:=inv.fr;have d6:=inv.big;by_cases hlt:j<l.length
    .obtain⟨b,o,k1,n1,s1,A1,a6,l1,r1,rfl,d7,e5,hx,d5,e0,e1,e2,e3,e4⟩:=T.elem (ht.no fr hh) hlt;have IH:=ih l[j] (List.getElem_mem hlt);rw[hx]at IH;have HX:=zaa hx;have d9:=Nat.le_of_lt hlt;have HI:=zaa inv;clear hx ih inv b2;go_wp2_with fail;refine(IH _ lo hi (d5.no ((Fr.refl No wr).alloc _) o_) so_).mono ?_;rintro e w2 ⟨t',rfl,hv,sh,a4⟩;have HV:=zaa hv;clear hv;simp only[World.size_alloc]at sh;have ow:=sh.ow;cases t' with
     |mk k2 n2 s2 A2 cap2 l2 r2=>
      rw[T.val_mk];obtain⟨cs,hb,a3,a2⟩:=HI.out.row;have a0:=(hb.alloc (.cells #[.int .u8 k1,.int .i64 n1,.string s1,.slice A1 l1.length a6,.int .i64 r1] 28)).fr a4 (λh=>h);obtain⟨y0,x0⟩:∃y,w2.cell? ⟨w.heap.size+1+1,j*5,none⟩=some y:=⟨cs[j*5]'o_,by rw[a0.cell];exact Array.getElem?_eq_getElem _⟩;obtain⟨y1,x1⟩:∃y,w2.cell? ⟨w.heap.size+1+1,j*5+1,none⟩=some y:=⟨cs[j*5+1]'o_,by rw[a0.cell];exact Array.getElem?_eq_getElem _⟩;obtain⟨y2,x2⟩:∃y,w2.cell? ⟨w.heap.size+1+1,j*5+2,none⟩=some y:=⟨cs[j*5+2]'o_,by rw[a0.cell];exact Array.getElem?_eq_getElem _⟩;obtain⟨y3,x3⟩:∃y,w2.cell? ⟨w.heap.size+1+1,j*5+3,none⟩=some y:=⟨cs[j*5+3]'o_,by rw[a0.cell];exact Array.getElem?_eq_getElem _⟩;obtain⟨y4,x4⟩:∃y,w2.cell? ⟨w.heap.size+1+1,j*5+4,none⟩=some y:=⟨cs[j*5+4]'o_,by rw[a0.cell];exact Array.getElem?_eq_getElem _⟩;have xf:=a0.frozen;have HB:=zaa a0;have HR:=zaa a2;have HC:=zaa a3;have HO:=zaa ow;have b9:=zaa sh;clear sh;clear a0 hb a2 a3 ow;go_wp2;go_roundw
      case rel=>
       have inv:=HI.out;have a3:=HC.out;have a9:=a4.size;simp only[World.size_alloc]at a9;have a5:∀{g:Nat} {X:Array Value},g<w.heap.size+2->Blk wr g 28 X->Blk (((((w2.setCell ⟨w.heap.size+1+1,j*5,none⟩ (.int .u8 k2)).setCell ⟨w.heap.size+1+1,j*5+1,none⟩ (.int .i64 n2)).setCell ⟨w.heap.size+1+1,j*5+2,none⟩ (.string s2)).setCell
        ⟨w.heap.size+1+1,j*5+3,none⟩ (.slice A2 l2.length cap2)).setCell ⟨w.heap.size+1+1,j*5+4,none⟩ (.int .i64 r2)) g 28 X:=λ{g X} hg hX=>
        (((((((hX.alloc _).fr a4 (λh=>h)).far so_ _).far so_ _).far so_ _).far so_ _).far so_ _)
       have b3:Fr (· =w.heap.size+1+1) w2 (((((w2.setCell ⟨w.heap.size+1+1,j*5,none⟩ (.int .u8 k2)).setCell ⟨w.heap.size+1+1,j*5+1,none⟩ (.int .i64 n2)).setCell ⟨w.heap.size+1+1,j*5+2,none⟩ (.string s2)).setCell
        ⟨w.heap.size+1+1,j*5+3,none⟩ (.slice A2 l2.length cap2)).setCell ⟨w.heap.size+1+1,j*5+4,none⟩ (.int .i64 r2)):=(Fr.refl (λi=>i=w.heap.size+1+1) w2).five (λ_=>rfl) _ _ _ _ _ _
       refine⟨j+1,l'++[T.mk k2 n2 s2 A2 cap2 l2 r2],hlt,by go_num,by simp[inv.len],?_,?_,a5 o_ inv.b0,a5 o_ inv.b1,⟨_,HB.out.five _ _ _ _ _ _,?_,?_⟩,?_,?_,?_⟩
       .rw[List.map_append,inv.vs,List.take_succ_eq_append_getElem hlt,List.map_append,List.map_singleton,List.map_singleton,HV.out,HX.out]
       .exact(((fr.alloc _).thenNo a4).five o_ _ _ _ _ _ _)
       .simpa using a3
       .have:=HR.out.five (k:=k2) (n:=n2) (s:=s2) (A:=A2) (cap:=cap2) (l1:=l2) (r:=r2) (by rw[inv.len,a3];omega);simpa[inv.len]using this
       .have h1:Forest w2 (w.heap.size+3) (wr.heap.size+1) l':=((inv.forest.no ((Fr.refl No wr).alloc _) (Nat.le_refl _)).no a4 s_).more (Nat.le_refl _) o_;have h2:=h1.snoc HO.out o_ a9;simpa using h2.fr b3 (Nat.le_refl _) (λi hi _ e=>by omega)
       .simp;omega
       .intro x hx;have c7:∀(y:T) (lo hi:Nat),y.In w2 lo hi->w.heap.size+3<=lo->∀b∈y.blocks,¬b=w.heap.size+1+1:=λy lo hi hy hl b hb e=>by
         have:=T.In.blocks y hy b hb;omega
        rcases List.mem_append.1 hx with hx|hx
        .have h1:=inv.sp x hx;have h2:=T.Sp.fr a4 x (λ_ _ h=>h) (T.Sp.fr ((Fr.refl No wr).alloc (.cells #[.int .u8 k1,.int .i64 n1,.string s1,.slice A1 l1.length a6,.int .i64 r1] 28)) x (λ_ _ h=>h) h1);have h3:=T.Sp.fr b3 x (c7 x _ _ (T.Sp.inn x h2) (Nat.le_refl _)) h2;exact T.Sp.more (Nat.le_refl _) so_ x h3
        .simp at hx;subst hx;have h3:=T.Sp.fr b3 _ (c7 _ _ _ b9.out.inn o_) b9.out.sp;exact T.Sp.more o_ s_ _ h3
      case measure=>simp[intOf];omega
    .obtain rfl:l.length=j:=o_;have c0:wr.cell? ⟨w.heap.size,0,none⟩=some (.int .u8 k):=inv.b0.cell 0;have c1:wr.cell? ⟨w.heap.size,1,none⟩=some (.int .i64 n):=inv.b0.cell 1;have c2:wr.cell? ⟨w.heap.size,2,none⟩=some (.string s):=inv.b0.cell 2;have c3:wr.cell? ⟨w.heap.size,3,none⟩=some (.slice A l.length cap):=inv.b0.cell 3;have c4:wr.cell? ⟨w.heap.size,4,none⟩=some (.int .i64 r):=inv.b0.cell 4;have cf:=inv.b0.frozen 3;have d0:wr.cell? ⟨w.heap.size+1,0,none⟩=some (.int .u8 0):=inv.b1.cell 0;have d1:wr.cell? ⟨w.heap.size+1,1,none⟩=some (.int .i64 0):=inv.b1.cell 1;have d2:wr.cell? ⟨w.heap.size+1,2,none⟩=some (.string ⟨#[]⟩):=inv.b1.cell 2;have d3:wr.cell? ⟨w.heap.size+1,3,none⟩=some (.slice none 0 0):=inv.b1.cell 3;have d4:wr.cell? ⟨w.heap.size+1,4,none⟩=some (.int .i64 0):=inv.b1.cell 4;have df:=inv.b1.frozen;have HI:=zaa inv;clear inv b2 ih;go_wp2;have inv:=HI.out;refine bodyPost_ret (v:=.agg #[.int .u8 k,.int .i64 n,.string s,.slice (some ⟨w.heap.size+1+1,0,none⟩) l.length l.length,.int .i64 r]) (by simp[results,Tryz.results198,go_sem, *]) rfl ?_;generalize hW:World.setCell _ _ _=W;have a7:Fr (λi=>i=w.heap.size\/i=w.heap.size+1) wr W:=by
      rw[<-hW];repeat(first|with_reducible exact Fr.refl _ wr|with_reducible refine Fr.set ?_ s_ _)
     obtain⟨cs,hb,a3,a2⟩:=inv.row;have a8:=inv.len;have b5:Blk W (w.heap.size+1+1) 28 cs:=hb.fr a7 o_;have hF:Forest W (w.heap.size+3) wr.heap.size l':=inv.forest.fr a7 (Nat.le_refl _) (λi h0 h1 h2=>by omega);have b6:=a7.size;refine⟨T.mk k n s (some ⟨w.heap.size+1+1,0,none⟩) l.length l' r,by rw[T.val_mk,a8],?_,?_,inv.fr.trans' a7 (λi hi h=>by omega)⟩
     .rw[T.v_mk,T.v_mk,inv.vs,List.take_of_length_le (Nat.le_refl _)]
     .have c5:(T.mk k n s (some ⟨w.heap.size+1+1,0,none⟩) l.length l' r).Ow W w.heap.size W.heap.size:=by
       refine T.ow_mk ⟨a1.k0,a1.k1,a1.n0,a1.n1,a1.s1,by omega,by omega,a1.r0,a1.r1⟩ (hF.more o_ b6) b5 a2 o_ o_ (λhm=>?_);have:=hF.blocks _ hm;omega
      refine⟨T.sp_mk.2 ⟨(T.in_mk.1 c5.inn).1,λh=>by subst h;simp at a8;omega,λ_=>⟨?_,_,rfl,by omega⟩,λx hx=>?_⟩,c5.nodup⟩
      .have:=zr4 (lo:=w.heap.size) b5 (by rw[a3,a8]) a2 o_ (by rw[a8];unfold maxLen;omega);rwa [a8]at this ⊢
      .have h1:=inv.sp x hx;have h2:=T.Sp.fr a7 x (λb hb h=>by
        have:=T.In.blocks x (T.Sp.inn x h1) b hb;have h':b=w.heap.size\/b=w.heap.size+1:=h;omega) h1
       exact T.Sp.more o_ b6 x h2
def T.zero:T:=.mk 0 0 ⟨#[]⟩ none 0 [] 0
def V.zero:V:=.mk 0 0 ⟨#[]⟩ [] 0
theorem T.zero_v:T.zero.v=V.zero:=by simp[T.zero,T.v_mk,V.zero]
theorem T.zero_ow (w:World) (lo hi:Nat):T.zero.Ow w lo hi:=T.ow_nil ⟨by decide,by decide,by decide,by decide,by decide,by decide,by decide,by decide,by decide⟩
theorem T.zero_val:T.zero.val= .agg #[.int .u8 0,.int .i64 0,.string ⟨#[]⟩,.slice none 0 0,.int .i64 0]:=rfl
def zzs (v:V) (n:Int) (w:World) (e:Ending) (w':World):Prop:=
 ∃t':T,e= .returned (.tuple #[t'.val,.int .i64 n])/\t'.v=v/\t'.Ow w' w.heap.size w'.heap.size/\Fr No w w'
end Go.Proofs.YtlejelbefmkakaaGreat

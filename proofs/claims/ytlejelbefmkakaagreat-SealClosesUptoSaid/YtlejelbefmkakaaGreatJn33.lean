/- Texts joined: Hf4, Rp1, Ea1, Ea2, Ea3, Eb2, Sa1. -/
import Derived.Test.YtlejelbefmkakaaGreatJn1
import Derived.Test.YtlejelbefmkakaaGreatJn4
import Derived.Test.YtlejelbefmkakaaGreatJn11
import Derived.Test.YtlejelbefmkakaaGreatJn12
import Derived.Test.YtlejelbefmkakaaGreatJn29
import Derived.Test.YtlejelbefmkakaaGreatJn30
import Derived.Test.YtlejelbefmkakaaGreatJn31
import Derived.Test.YtlejelbefmkakaaGreatJn32
import Derived.Deep.Cut
import Derived.Deep.RegionHeld3
set_option maxHeartbeats 8000000
set_option maxRecDepth 100000
namespace Go.Proofs.YtlejelbefmkakaaGreat
open Go.RowKit
theorem zg5 {k:Nat} {ths:List (Int×Tg)} {last:Int} (h:∀i,zoj k ths last i):∀i,i<=ths.length->0<=zbk ths i
 |0,_=>Int.le_refl _
 |i+1,hi=>by
  have h1:=zg5 h i o_;have hg:ths[i]? =some ths[i]:=List.getElem?_eq_getElem o_;have h2:=(h i _ hg).2.2;show 0<=(ths[i]?.map Prod.fst).getD 0;rw[hg];simp only[Option.map_some,Option.getD_some];omega
theorem zoo {s a:Nat} (hs:s<256) (ha:a<64) (h:(bits .andNot .u8 (s:Int) (a:Int)==0)=true):s&&&a=s:=by
 rw[u8_andNot_nat s a hs o_]at h;have:∀s:Fin 256,∀a:Fin 64,(((s.val&&&(255 - a.val):Nat):Int)==0)=true->s.val&&&a.val=s.val:=by decide+kernel
 exact this ⟨s,hs⟩ ⟨a,ha⟩ h
def zzm (W:World) (e:Ending) (w':World):Prop:=
 (e= .returned (.pointer none)/\Fr No W w')\/∃m:Gm,e= .returned (.pointer (some ⟨m.wb,0,none⟩))/\FW m W.heap.size 0 w'/\Fr No W w'
section
variable {ths:List (Int×Tg)} {r:Int} {n:Nat}
theorem zb5 {x:Nat×Tg} (h:(Gm.ofT ths).get r=some x):zcz ths r=some x.2:=by
 rw[zde]at h;obtain⟨y,hy,rfl⟩:=Option.map_eq_some_iff.1 h;exact hy
theorem zl7 {x:Tg} (h:zcz ths r=some x):(Gm.ofT ths).get r=some (0,x):=by rw[zde,h];rfl
theorem zpq (r:Int):((Gm.ofT ths).get r).isSome=(zcz ths r).isSome:=by rw[zde];cases zcz ths r<;>rfl
theorem zf4:(Gm.ofT ths).th=ths.map λx=>(x.1,0,x.2):=rfl
theorem zdf {x:Int×Tg} (h:x∈ths):(x.1,0,x.2)∈(Gm.ofT ths).th:=List.mem_map.2 ⟨x,h,rfl⟩
theorem zvp (hk:(ths.map Prod.fst).Nodup) {x:Int×Tg} (h:x∈ths):zcz ths x.1=some x.2:=by
 have h1:((Gm.ofT ths).th.map Prod.fst).Nodup:=by rw[zf4,List.map_map];exact hk
 exact zb5 (Gm.get_of h1 (zdf h))
theorem zvq (h:(Gm.ofT ths).Hgt r n):∀k,n<k->(zga ths k r).length=n+1/\∃y,(zga ths k r).getLast?=some y/\zb8 (zc5 ths y)=false:=by
 induction h with
 | @base r x h hk=>
  intro k hkn;obtain⟨k,rfl⟩:∃m,k=m+1:=⟨k - 1,by omega⟩;have hx:=zb5 h;have hw:zb8 x.2.kind=false:=by simp[zb8,hk]
  rw[zju hx hw];refine⟨rfl,r,rfl,?_⟩;unfold zc5 atT;rw[hx];exact hw
 | @wrap r x n h hk hl ih=>
  intro k hkn;obtain⟨k,rfl⟩:∃m,k=m+1:=⟨k - 1,by omega⟩;have hx:=zb5 h;have hw:zb8 x.2.kind=true:=by rw[zeq];exact hk
  rw[zjv hx hw];obtain⟨h1,y,h2,h3⟩:=ih k o_;refine⟨by simp[h1],y,?_,h3⟩;rw[List.getLast?_cons,h2];rfl
theorem zpr:∀(k:Nat) (r:Int) (y:Int),(zga ths k r).getLast?=some y->zb8 (zc5 ths y)=false->∃n,(Gm.ofT ths).Hgt r n
 |0,r,y,h,_=>by simp[zga]at h
 |k+1,r,y,h,hy=>by
  unfold zga at h;cases hx:zcz ths r with
  |none=>rw[hx]at h;simp at h
  |some x=>
   rw[hx]at h;simp only at h;by_cases hw:zb8 x.kind=true
   .rw[if_pos hw,List.getLast?_cons]at h;cases hl:(zga ths k x.ofr).getLast? with
    |none=>
     rw[hl]at h;simp only[Option.getD_none,Option.some.injEq]at h;subst h;unfold zc5 atT at hy;rw[hx]at hy;simp only[Option.getD_some]at hy;rw[hw]at hy;cases hy
    |some z=>
     rw[hl]at h;simp only[Option.getD_some,Option.some.injEq]at h;subst h;obtain⟨n,hn⟩:=zpr k x.ofr z hl hy;exact⟨n+1,.wrap (zl7 hx) (zeq.1 hw) hn⟩
   .exact⟨0,.base (zl7 hx) (by
     have:¬(x.kind=14\/x.kind=15\/x.kind=16):=λh=>hw (zeq.2 h);exact⟨λe=>this (.inl e),λe=>this (.inr (.inl e)),λe=>this (.inr (.inr e))⟩)⟩
def zfp (ths:List (Int×Tg)) (r:Int):Prop:=(zga ths (ths.length+1) r).length<=ths.length/\∃y,(zga ths (ths.length+1) r).getLast?=some y/\zb8 (zc5 ths y)=false
theorem zhc (r:Int):zfp ths r↔∃n,(Gm.ofT ths).Hgt r n:=by
 constructor
 .rintro⟨-,y,h1,h2⟩;exact zpr _ _ _ h1 h2
 .rintro⟨n,hn⟩;have hlt:=hn.lt;rw[zf4,List.length_map]at hlt;obtain⟨h1,h2⟩:=zvq hn (ths.length+1) o_;exact⟨by omega,h2⟩
theorem zl8 (hs:∀x∈ths,0<=x.2.set) (h:(Gm.ofT ths).Hgt r n):∃a,RAbl ths r a:=by
 induction h with
 |base h hk=>exact⟨_,.base (zb5 h) hk⟩
 | @wrap r x n h hk hl ih=>
  have hx:=zb5 h;rcases hk with hk|hk
  .have:=hs _ (zcg hx);exact⟨x.2.set.toNat,.facet hx hk (by have h2:0<=x.2.set:=this;omega)⟩
  .obtain⟨a,ha⟩:=ih;exact⟨a,.pass hx hk ha⟩
theorem zps (hh:∀x∈ths,∃n,(Gm.ofT ths).Hgt x.1 n) (hs:∀x∈ths,0<=x.2.set) (r:Int):∃a,RAbl ths r a:=by
 cases hx:zcz ths r with
 |none=>exact⟨0,.no hx⟩
 |some x=>
  obtain⟨n,hn⟩:=hh _ (zcg hx);exact zl8 hs hn
end
structure RPre (ths:List (Int×Tg)):Prop where
 keys:(ths.map Prod.fst).Nodup
 pos:∀x∈ths,1<=x.1
 kind:∀x∈ths,1<=x.2.kind/\x.2.kind<=16
 set:∀x∈ths,0<=x.2.set/\x.2.set<256
 may:∀x∈ths,∀t∈x.2.vals,t.v.may=true
theorem zsf {x:Tg} (h:∀t∈x.vals,t.v.may=true):x.rfs=x.held:=by
 have hv:x.v.v.may=true:=h x.v (by simp[Tg.vals]);have a0:∀t∈x.vs,t.v.may=true:=λt ht=>h t (by simp[Tg.vals,ht]);have hn:∀y∈x.names,y.2.v.may=true:=λy hy=>h y.2 (by
  simp only[Tg.vals,List.mem_cons,List.mem_append];exact .inr (.inr (List.mem_map_of_mem hy)))
 unfold Tg.rfs Tg.held zmx Tg.vals zch;simp only[List.map_cons,List.map_append,List.flatten_cons,List.flatten_append,List.flatMap_def,List.map_map,List.append_assoc];rw[zfn hv];congr 1
 congr 1
 .congr 1
  exact List.map_congr_left λt ht=>(zfn (a0 t ht)).symm
 .congr 1
  exact List.map_congr_left λy hy=>(zfn (hn y hy)).symm
section
variable {ths:List (Int×Tg)} (hp:RPre ths)
include hp
theorem zsg (q:Int):(zc5 ths q !=0)=(zcz ths q).isSome:=by
 unfold zc5 atT;cases hx:zcz ths q with
 |none=>rfl
 |some x=>
  have:=(hp.kind _ (zcg hx)).1;simp only[Option.getD_some,Option.isSome_some,bne_iff_ne,ne_eq];have h2:1<=x.kind:=this;omega
theorem zl9 {x:Tg} (hm:∀t∈x.vals,t.v.may=true):ze5 ths x= !(Gm.ofT ths).badB x:=by
 unfold ze5 Gm.badB Gm.are zl3;rw[<-zsf hm];have e:(x.rfs.all λq=>zc5 ths q !=0)=x.rfs.all λr=>((Gm.ofT ths).get r).isSome:=by
  congr 1
  funext q
  rw[zsg hp,zpq]
 rw[e,zpq,zpq];generalize (x.rfs.all λr=>((Gm.ofT ths).get r).isSome)=a;generalize zeo x.kind=b;generalize (x.kind==13&&x.ofr !=0)=c;generalize (zcz ths x.ofr).isSome=d;generalize zep x.kind=f;generalize (zcz ths x.byr).isSome=g;cases a<;>cases b<;>cases c<;>cases d<;>cases f<;>cases g<;>rfl
end
section
variable {ths:List (Int×Tg)}
theorem zgb (r k o:Int) (hk:k≠0):(Gm.ofT ths).hkB r k o=((atT ths r).kind==k&&(atT ths r).home==o):=by
 unfold Gm.hkB atT;rw[zde];cases zcz ths r with
 |none=>
  have:((Tg.zero).kind==k)=false:=by
   simp only[beq_eq_false_iff_ne,ne_eq];exact λe=>hk e.symm
  simp[this]
 |some x=>rfl
theorem zma (r k o:Int):(Gm.ofT ths).othB r k o=zdl ths r k o false:=by
 unfold Gm.othB zdl;rw[zf4,List.any_map];rfl
theorem zip (r:Int):(Gm.ofT ths).kind r=(atT ths r).kind:=(zr8 ths r).symm
end
section
variable {ths:List (Int×Tg)}
theorem zsh {r:Int} {n:Nat} (h:(Gm.ofT ths).Hgt r n) (hf:∀x∈ths,x.2.kind=14->∃s:Nat,x.2.set=(s:Int)/\∀a,(Gm.ofT ths).Abl x.2.ofr a->s&&&a=s):∀a,(Gm.ofT ths).Abl r a->RAbl ths r a:=by
 induction h with
 |base h hk=>
  intro a ha;cases ha with
  |base h' hk'=>exact .base (zb5 h') hk'
  |facet h' hk' _ _=>rw[h]at h';cases h';exact absurd hk' hk.1
  |pass h' hk' _=>rw[h]at h';cases h';exact hk'.elim (λe=>absurd e hk.2.1) λe=>absurd e hk.2.2
 | @wrap r x n h hk hl ih=>
  intro a ha;cases ha with
  |base h' hk'=>exact .base (zb5 h') hk'
  | @facet _ _ s a' h' hk' hs ha'=>
   have hx:=zb5 h';obtain⟨s',e1,e2⟩:=hf _ (zcg hx) hk';have e3:s=s':=by
    have:(x.2.set:Int)=(s':Int):=by rw[h]at h';cases h';exact e1
    rw[h]at h';cases h';rw[hs]at this;exact Int.ofNat.inj this
   subst e3;rw[e2 a' ha'];exact .facet hx hk' hs
  |pass h' hk' ha'=>
   rw[h]at h';cases h';exact .pass (zb5 h) hk' (ih _ ha')
theorem zmb (hp:RPre ths) {r:Int} {n:Nat} (h:(Gm.ofT ths).Hgt r n) (hf:∀x∈ths,x.2.kind=14->∀a,RAbl ths x.2.ofr a->(bits .andNot .u8 x.2.set (a:Int)==0)=true):∀a,RAbl ths r a->(Gm.ofT ths).Abl r a:=by
 induction h with
 |base h hk=>
  intro a ha;cases ha with
  |no h'=>rw[zb5 h]at h';cases h'
  |base h' hk'=>exact .base (x:=(0,_)) (zl7 h') hk'
  |facet h' hk' _=>rw[zb5 h]at h';cases h';exact absurd hk' hk.1
  |pass h' hk' _=>rw[zb5 h]at h';cases h';exact hk'.elim (λe=>absurd e hk.2.1) λe=>absurd e hk.2.2
 | @wrap r x n h hk hl ih=>
  intro a ha;cases ha with
  |no h'=>rw[zb5 h]at h';cases h'
  |base h' hk'=>exact .base (x:=(0,_)) (zl7 h') hk'
  | @facet _ y _ h' hk' hs=>
   have a1:y=x.2:=by rw[zb5 h]at h';exact(Option.some.inj h').symm
   subst a1;have hm:=zcg h';obtain⟨a',a0⟩:=zl8 (λz hz=>(hp.set z hz).1) hl;have h1:=ih _ a0;have h2:=hf _ hm hk' a' a0;have h3:=h1.lt;have h4:=(hp.set _ hm).2;have h5:(a:Int)<256:=by rw[<-hs];exact h4
   rw[hs]at h2;have h6:=zoo o_ h3 h2;have:=Gm.Abl.facet h hk' hs h1;rwa [h6]at this
  | @pass _ y _ h' hk' a0=>
   have a1:y=x.2:=by rw[zb5 h]at h';exact(Option.some.inj h').symm
   subst a1;exact .pass h hk' (ih _ a0)
end
theorem zhd {ths:List (Int×Tg)} (hp:RPre ths):(Gm.ofT ths).Snd↔(∀x∈ths,∃n,(Gm.ofT ths).Hgt x.1 n)/\∀x∈ths,∀a,RAbl ths x.2.ofr a->(ze5 ths x.2&&zfo ths x.1 x.2 a)=true:=by
 constructor
 .intro S;have hh:∀x∈ths,∃n,(Gm.ofT ths).Hgt x.1 n:=λx hx=>S.hgt _ (zdf hx);refine⟨hh,λx hx a ha=>?_⟩;have a2:=S.bad _ (zdf hx);have hR:ze5 ths x.2=true:=by rw[zl9 hp (hp.may x hx),a2];rfl
  have a0:=S.fit _ (zdf hx);simp only at a0;rw[hR,Bool.true_and];have b2:∀x∈ths,x.2.kind=14->∃s:Nat,x.2.set=(s:Int)/\∀a,(Gm.ofT ths).Abl x.2.ofr a->s&&&a=s:=by
   intro y hy hk;have hs:=hp.set y hy;refine⟨y.2.set.toNat,by omega,λa ha=>?_⟩;have hf:=S.fit _ (zdf hy);unfold Gm.fitS at hf;simp only[hk,if_true,Bool.and_eq_true]at hf;rw[Gm.abl_eq ha]at hf;have h2:=hf.2;rw[show y.2.set=((y.2.set.toNat:Nat):Int) by omega]at h2;exact zoo o_ ha.lt h2
  unfold Gm.fitS at a0;unfold Gm.fitB at a0;unfold zfo;by_cases a1:x.2.kind=14
  .simp only[a1,if_true,Bool.and_eq_true,bne_iff_ne,ne_eq]at a0;obtain⟨⟨⟨h1,h2⟩,h3⟩,h4⟩:=a0;simp only[a1,if_true];rw[if_neg d_,if_neg d_,if_neg d_,if_neg d_,if_neg d_,if_neg d_,if_neg d_];obtain⟨y,hy⟩:=Option.isSome_iff_exists.1 h1;obtain⟨n,hn⟩:=hh _ (zcg (zb5 hy));obtain⟨a',b3⟩:=hn.abl (λr x hx=>(hp.set _ (zcg (zb5 hx))).1);have b8:=zsh hn b2 a' b3;have b5:a=a':=ha.uniq b8;subst b5;rw[Gm.abl_eq b3]at h3 h4;rw[zip]at h2;have b6:zl4 ths x.1 x.2=true:=by
    unfold zl4;rw[List.all_eq_true];intro z hz;simp only[Bool.or_eq_true,beq_iff_eq,bne_iff_ne,ne_eq];by_cases e1:z.1=x.1
    .exact .inl e1
    .by_cases e2:z.2.kind=14
     .by_cases e3:z.2.ofr=x.2.ofr
      .by_cases e4:z.2.set=x.2.set
       .exact absurd (S.one _ (zdf hz) _ (zdf hx) e2 a1 e3 e4) e1
       .exact .inr (.inr (.inr e4))
      .exact .inr (.inr (.inl e3))
     .exact .inr (.inl e2)
   simp[h2,h3,h4,b6]
  .simp only[if_neg a1]at a0 ⊢;by_cases k6:x.2.kind=6
   .simp only[k6,if_true]at a0 ⊢;rw[zgb _ _ _ d_,zma]at a0;rw[<-Bool.and_assoc];exact a0
   simp only[if_neg k6]at a0 ⊢;by_cases k7:x.2.kind=7
   .simp only[k7,if_true]at a0 ⊢;rw[zgb _ _ _ d_]at a0;exact a0
   simp only[if_neg k7]at a0 ⊢;by_cases k9:x.2.kind=9
   .simp only[k9,if_true]at a0 ⊢;rw[zgb _ _ _ d_]at a0;exact a0
   simp only[if_neg k9]at a0 ⊢;by_cases a9:x.2.kind=11
   .simp only[a9,if_true]at a0 ⊢;rw[zgb _ _ _ d_,zma]at a0;rw[<-Bool.and_assoc];exact a0
   simp only[if_neg a9]at a0 ⊢;by_cases a7:x.2.kind=13
   .simp only[a7,if_true]at a0 ⊢;have e:((Gm.ofT ths).kind x.2.ofr==15&&(Gm.ofT ths).byIs x.2.ofr x.1)=((atT ths x.2.ofr).kind==15&&(atT ths x.2.ofr).byr==x.1):=by
     rw[zip];unfold Gm.byIs atT;rw[zde];cases zcz ths x.2.ofr with
     |none=>rfl
     |some y=>rfl
    rw[e]at a0;exact a0
   simp only[if_neg a7]at a0 ⊢;by_cases a5:x.2.kind=15
   .simp only[a5,if_true,Bool.and_eq_true]at a0 ⊢;obtain⟨⟨h1,h2⟩,h3⟩:=a0;rw[zgb _ _ _ d_,Bool.and_eq_true]at h1;have ho:∀z:Int×Tg,z∈ths->z.2.kind=15->z.2.byr=x.2.byr->z.1=x.1:=λz hz kz bz=>by
     have a8:=S.fit _ (zdf hz);unfold Gm.fitS Gm.fitB at a8;simp only[kz]at a8;rw[if_neg d_,if_neg d_,if_neg d_,if_neg d_,if_neg d_,if_neg d_,if_neg d_,if_pos trivial]at a8;simp only[Bool.and_eq_true]at a8;have h4:=a8.2;rw[bz]at h4;unfold Gm.ofIs at h3 h4;cases hg:(Gm.ofT ths).get x.2.byr with
     |none=>rw[hg]at h3;cases h3
     |some y=>
      rw[hg]at h3 h4;simp only[beq_iff_eq]at h3 h4;rw[<-h3,<-h4]
    refine⟨h1.1,h1.2,?_,?_⟩
    .rw[Bool.not_eq_true'];cases hq:zdl ths x.1 15 x.2.byr true with
     |false=>rfl
     |true=>
      unfold zdl at hq;obtain⟨z,hz,hq⟩:=List.any_eq_true.1 hq;simp only[if_true,Bool.and_eq_true,bne_iff_ne,ne_eq,beq_iff_eq]at hq;exact absurd (ho z hz hq.2.1 hq.2.2) hq.1
    .rw[Bool.or_eq_true];right
     unfold Gm.ofIs at h3;unfold atT;rw[zde]at h3;cases hg:zcz ths x.2.byr with
     |none=>rw[hg]at h3;cases h3
     |some y=>rw[hg]at h3;exact h3
   simp only[if_neg a5]at a0 ⊢;by_cases a6:x.2.kind=16
   .simp only[a6,if_true,Bool.and_eq_true]at a0 ⊢;have h1:=a0.1;rw[zgb _ _ _ d_,Bool.and_eq_true]at h1;exact h1
   simp only[if_neg a6]
 .rintro⟨hh,ha⟩;have b0:=λx hx=>(hp.set x hx).1;have a3:∀x∈ths,∃a,RAbl ths x.2.ofr a/\ze5 ths x.2=true/\zfo ths x.1 x.2 a=true:=λx hx=>by
   obtain⟨a,h1⟩:=zps hh b0 x.2.ofr;have:=ha x hx a h1;rw[Bool.and_eq_true]at this;exact⟨a,h1,this.1,this.2⟩
  have b1:∀x∈ths,x.2.kind=14->∀a,RAbl ths x.2.ofr a->(atT ths x.2.ofr).kind≠14/\(bits .andNot .u8 x.2.set (a:Int)==0)=true/\x.2.set≠(a:Int)/\zl4 ths x.1 x.2=true:=by
   intro x hx hk a h1;have:=ha x hx a h1;rw[Bool.and_eq_true]at this;have h2:=this.2;unfold zfo at h2;simp only[hk,if_true]at h2;rw[if_neg d_,if_neg d_,if_neg d_,if_neg d_,if_neg d_,if_neg d_,if_neg d_]at h2;simp only[Bool.and_eq_true,bne_iff_ne,ne_eq]at h2;exact⟨h2.1.1,h2.1.2.1,h2.1.2.2,h2.2⟩
  have a2:∀x∈ths,(Gm.ofT ths).badB x.2=false:=λx hx=>by
   obtain⟨a,-,h1,-⟩:=a3 x hx;rw[zl9 hp (hp.may x hx)]at h1;simpa using h1
  refine⟨λx hx=>?_,λx hx=>?_,λx hx y hy k1 k2 ho hst=>?_,λx hx=>?_⟩
  .rw[zf4]at hx;obtain⟨z,hz,rfl⟩:=List.mem_map.1 hx;exact a2 z hz
  .rw[zf4]at hx;obtain⟨z,hz,rfl⟩:=List.mem_map.1 hx;exact hh z hz
  .rw[zf4]at hx hy;obtain⟨z,hz,rfl⟩:=List.mem_map.1 hx;obtain⟨z',b4,rfl⟩:=List.mem_map.1 hy;simp only at k1 k2 ho hst ⊢;obtain⟨a,h1,-,-⟩:=a3 z hz;have h2:=(b1 z hz k1 a h1).2.2.2;unfold zl4 at h2;have h3:=List.all_eq_true.1 h2 z' b4;simp only[Bool.or_eq_true,beq_iff_eq,bne_iff_ne,ne_eq]at h3;rcases h3 with h3|h3|h3|h3
   .exact h3.symm
   .exact absurd k2 h3
   .exact absurd ho.symm h3
   .exact absurd hst.symm h3
  .rw[zf4]at hx;obtain⟨z,hz,rfl⟩:=List.mem_map.1 hx;simp only;obtain⟨a,h1,hR,h2⟩:=a3 z hz;have hb:=a2 z hz;unfold Gm.badB at hb;simp only[Bool.or_eq_false_iff,Bool.and_eq_false_iff,Bool.not_eq_false']at hb;unfold Gm.fitS;by_cases a1:z.2.kind=14
   .simp only[a1,if_true];obtain⟨e1,e2,e3,-⟩:=b1 z hz a1 a h1;have a4:((Gm.ofT ths).get z.2.ofr).isSome=true:=by
     rcases hb.1.1.2 with h|h
     .rw[a1]at h;exact absurd h d_
     .exact h
    obtain⟨y,hy⟩:=Option.isSome_iff_exists.1 a4;obtain⟨n,hn⟩:=hh _ (zcg (zb5 hy));have b7:=zmb hp hn (λx hx hk a h1=>(b1 x hx hk a h1).2.1) a h1;rw[Gm.abl_eq b7,a4,zip];simp[e1,e2,e3]
   .rw[if_neg a1];unfold Gm.fitB;unfold zfo at h2;simp only[if_neg a1]at h2 ⊢;by_cases k6:z.2.kind=6
    .simp only[k6,if_true]at h2 ⊢;rw[zgb _ _ _ d_,zma,Bool.and_assoc];exact h2
    simp only[if_neg k6]at h2 ⊢;by_cases k7:z.2.kind=7
    .simp only[k7,if_true]at h2 ⊢;rw[zgb _ _ _ d_];exact h2
    simp only[if_neg k7]at h2 ⊢;by_cases k9:z.2.kind=9
    .simp only[k9,if_true]at h2 ⊢;rw[zgb _ _ _ d_];exact h2
    simp only[if_neg k9]at h2 ⊢;by_cases a9:z.2.kind=11
    .simp only[a9,if_true]at h2 ⊢;rw[zgb _ _ _ d_,zma,Bool.and_assoc];exact h2
    simp only[if_neg a9]at h2 ⊢;by_cases a7:z.2.kind=13
    .simp only[a7,if_true]at h2 ⊢;have e:((Gm.ofT ths).kind z.2.ofr==15&&(Gm.ofT ths).byIs z.2.ofr z.1)=((atT ths z.2.ofr).kind==15&&(atT ths z.2.ofr).byr==z.1):=by
      rw[zip];unfold Gm.byIs atT;rw[zde];cases zcz ths z.2.ofr with
      |none=>rfl
      |some y=>rfl
     rw[e];exact h2
    simp only[if_neg a7]at h2 ⊢;by_cases a5:z.2.kind=15
    .simp only[a5,if_true,Bool.and_eq_true]at h2 ⊢;have a4:((Gm.ofT ths).get z.2.ofr).isSome=true:=by
      rcases hb.1.1.2 with h|h
      .rw[a5]at h;exact absurd h d_
      .exact h
     refine⟨⟨?_,a4⟩,?_⟩
     .rw[zgb _ _ _ d_,Bool.and_eq_true];exact⟨h2.1,h2.2.1⟩
     .have h3:=h2.2.2.2;have b9:=hp.pos z hz;rw[Bool.or_eq_true]at h3;rcases h3 with h3|h3
      .simp only[beq_iff_eq]at h3;omega
      .unfold Gm.ofIs;unfold atT at h3;rw[zde];have h4:=h2.1;unfold atT at h4;cases hg:zcz ths z.2.byr with
       |none=>rw[hg]at h4;exact absurd h4 d_
       |some y=>rw[hg]at h3;exact h3
    simp only[if_neg a5]at h2 ⊢;by_cases a6:z.2.kind=16
    .simp only[a6,if_true,Bool.and_eq_true]at h2 ⊢;have a4:((Gm.ofT ths).get z.2.ofr).isSome=true:=by
      rcases hb.1.1.2 with h|h
      .rw[a6]at h;exact absurd h d_
      .exact h
     refine⟨?_,a4⟩;rw[zgb _ _ _ d_,Bool.and_eq_true];exact h2
    simp only[if_neg a6]
def G.xv:G->V
 | .mk _ subs=>.mk 0 0 ⟨#[]⟩ (subs.attach.flatMap λs=>s.1.2.attach.map λx=>G.xv x.1) 0
termination_by g=>g
decreasing_by
 have h1:=List.sizeOf_lt_of_mem s.2
 have h2:=List.sizeOf_lt_of_mem x.2
 obtain⟨⟨A,l⟩,hs⟩:=s
 simp at h1 h2 ⊢
 omega
theorem G.xv_one (c:List Value) (A:Option Addr) (l:List G):(G.mk c [(A,l)]).xv= .mk 0 0 ⟨#[]⟩ (l.map G.xv) 0:=by
 rw[G.xv];simp
theorem zt6 (g:G):Ty 308 g->g.xv.size=g.esz:=by
 induction g using G.ind with
 |h c subs ih=>
  intro h;obtain⟨k,n,s,A,cap,l,e,-,hk⟩:=za3 h;injection e with e1 e2
  subst e1 e2;rw[G.xv_one,G.esz_one,V.size_mk,List.map_map];congr 2
  exact List.map_congr_left λx hx=>ih A l s_ x hx (hk x hx)
theorem zwl (g:G):Ty 308 g->g.xv.ht<=g.edp/\g.edp<=g.xv.ht+1:=by
 induction g using G.ind with
 |h c subs ih=>
  intro h;obtain⟨k,n,s,A,cap,l,e,-,hk⟩:=za3 h;injection e with e1 e2
  subst e1 e2;rw[G.xv_one,G.edp_one,V.ht_mk,List.map_map];constructor
  .refine zkz λy hy=>?_;obtain⟨x,hx,rfl⟩:=List.mem_map.1 hy;have h1:=(ih A l s_ x hx (hk x hx)).1;rw[if_neg λhh=>by simp[hh.2]at hx];have h2:=zhk (List.mem_map_of_mem (f:=G.edp) hx);simp only[Function.comp];omega
  .split
   .omega
   .have:top (l.map G.edp)<=zpa (l.map (V.ht ∘ G.xv)):=zmh λy hy=>by
     obtain⟨x,hx,rfl⟩:=List.mem_map.1 hy;have h1:=(ih A l s_ x hx (hk x hx)).2;have h2:=zpb (List.mem_map_of_mem (f:=V.ht ∘ G.xv) hx);simp only[Function.comp]at h2;omega
    omega
theorem zia (g:G):∀(w:World) (d lo hi:Nat),Ty 308 g->g.In w lo hi->hi<=w.heap.size->d<=17->
 Calls Tryz.prog 279 #[.agg g.c.toArray,.int .i64 (d:Int)] w λe w'=>∃z:Nat,e= .returned (.int .i64 (z:Int))/\zcv g.xv d z/\Fr No w w':=by
 induction g using G.ind with
 |h c subs ih=>
  intro w d lo hi hty hin hh hd;obtain⟨k,n,s,A,cap,l,e,b5,hk⟩:=za3 hty;injection e with e1 e2
  subst e1 e2;have c9:=b5.len1;have b9:=(Fr.refl No w).alloc (.cells #[.int .u8 k,.int .i64 n,.string s,.slice A l.length cap] 308);have b3:=Blk.new w 308 #[.int .u8 k,.int .i64 n,.string s,.slice A l.length cap];have a4:=zaa λ(x:G) (hx:x∈l)=>ih A l s_ x hx;have a6:=zaa (G.in_rows.1 hin A l s_);have a7:=zaa hk;have b2:=zaa b3;have HF:=zaa b9;clear hty hin ih hk b3 b9 b5;show Calls Tryz.prog 279 #[.agg #[.int .u8 k,.int .i64 n,.string s,.slice A l.length cap],.int .i64 (d:Int)] w _;by_cases c5:d=17
  .subst c5;have c7:=zaa (zcv.deep (G.mk [.int .u8 k,.int .i64 n,.string s,.slice A l.length cap] [(A,l)]).xv);clear a4 a6 a7 b2;go_enter Tryz.func279,Tryz.ntmps279;go_wp2;go_ret;exact⟨513,rfl,c7.out,HF.out⟩
  .have d2:¬(16:Int)<(d:Int):=o_;have a3:d<=16:=o_;rw[G.xv_one];go_enter Tryz.func279,Tryz.ntmps279;go_wp2_with fail;generalize World.alloc w _=W0 at*;go_loopw [5,6] (λv i wr=>∃j m:Nat,j<=l.length/\i= .int .i64 j/\v= .int .i64 (m:Int)/\PInv (l.map G.xv) d j m/\Fr No W0 wr) (λ_ i _=>l.length - (intOf i).toNat)
   case atStart=>exact⟨0,1,Nat.zero_le _,rfl,rfl,PInv.zero _ _,Fr.refl _ _⟩
   case round=>
    obtain⟨j,m,hj,rfl,rfl,inv,fr⟩:=hrel;have hK:=b2.out.fr fr λh=>h;have c3:wr.cell? ⟨w.heap.size,3,none⟩=some (.slice A l.length cap):=hK.cell 3;have a2:=HF.out.trans fr;have q0:=hK.lt;have hm:=inv.le;have HI:=zaa inv;clear inv;by_cases hlt:j<l.length
    .by_cases c0:m<=512
     .have b7:=Nat.le_trans hh a2.size;obtain⟨b,o,rfl,c1,c6,a5,a1⟩:=G.row_at (a6.out.no a2 hh) hlt;have a9:=a7.out _ (List.getElem_mem hlt);have IH:=a4.out l[j] (List.getElem_mem hlt) wr (d+1) lo hi a9 a5 b7 o_;obtain⟨k1,n1,s1,A1,a0,l1,hx,-,-⟩:=za3 a9;have b6:=congrArg G.xv hx;rw[hx]at a1 IH;replace IH:Calls Tryz.prog 279 #[.agg #[.int .u8 k1,.int .i64 n1,.string s1,.slice A1 l1.length a0],.int .i64 ((d+1:Nat):Int)] wr λe w'=>∃z:Nat,e= .returned (.int .i64 (z:Int))/\zcv (G.mk [.int .u8 k1,.int .i64 n1,.string s1,.slice A1 l1.length a0] [(A1,l1)]).xv (d+1) z/\Fr No wr w':=IH;have x0:wr.cell? ⟨b,o+j*4,none⟩=some (.int .u8 k1):=a1 0 _ rfl;have x1:wr.cell? ⟨b,o+j*4+1,none⟩=some (.int .i64 n1):=a1 1 _ rfl;have x2:wr.cell? ⟨b,o+j*4+2,none⟩=some (.string s1):=a1 2 _ rfl;have x3:wr.cell? ⟨b,o+j*4+3,none⟩=some (.slice A1 l1.length a0):=a1 3 _ rfl;have g0:b<wr.heap.size:=o_;have b0:(m:Int)<=512:=o_;have b4:(l.map G.xv)[j]'(by simpa using hlt)=(G.mk [.int .u8 k1,.int .i64 n1,.string s1,.slice A1 l1.length a0] [(A1,l1)]).xv:=by rw[List.getElem_map];exact b6
      have c8:=zaa b4;have c2:=zaa fr;have d1:=zaa a2;have a8:=zaa IH;clear hx b6 b4 IH a9 a1 a5 fr a2 hK a4 a6 b7 c1 c6;generalize (G.mk [.int .u8 k1,.int .i64 n1,.string s1,.slice A1 l1.length a0] [(A1,l1)]).xv=u at*;go_wp2_with fail;have b1:((d:Int)+1)=((d+1:Nat):Int):=o_;rw[b1];clear b1;refine a8.out.mono ?_;rintro e w2 ⟨z,rfl,hz,b8⟩;have d0:=hz.2.1;have HZ:=zaa hz;have c4:=zaa b8;clear hz b8;go_wp2;go_roundw
      case rel=>
       refine⟨j+1,m+z,hlt,by go_num,by go_num,HI.out.succ c0 (by simpa using hlt) ?_ a3,c2.out.trans c4.out⟩;rw[c8.out];exact HZ.out
      case measure=>simp[intOf];omega
     .have b0:¬(m:Int)<=512:=o_;have HW:=zaa a2;clear a4 a6 a7 hK;go_wp2;go_ret;exact⟨m,rfl,HI.out.over o_,HW.out⟩
    .obtain rfl:l.length=j:=o_;have HW:=zaa a2;clear a4 a6 a7 hK;go_wp2;go_ret;refine⟨m,rfl,?_,HW.out⟩;have h:=HI.out;have hl:l.length=(l.map G.xv).length:=s_;rw[hl]at h;exact h.done a3
theorem zi7 (g:G):∀(w:World) (lo hi:Nat),Ty 308 g->g.In w lo hi->hi<=w.heap.size->g.edp<=17->
 Calls Tryz.prog 280 #[.agg g.c.toArray] w λe w'=>e= .returned (.int .i64 (g.edp:Int))/\Fr No w w':=by
 induction g using G.ind with
 |h c subs ih=>
  intro w lo hi hty hin hh hd;obtain⟨k,n,s,A,cap,l,e,a6,hk⟩:=za3 hty;injection e with e1 e2
  subst e1 e2;have c5:=a6.len1;have b8:=(Fr.refl No w).alloc (.cells #[.int .u8 k,.int .i64 n,.string s,.slice A l.length cap] 308);have b5:=Blk.new w 308 #[.int .u8 k,.int .i64 n,.string s,.slice A l.length cap];have a5:=zaa λ(x:G) (hx:x∈l)=>ih A l s_ x hx;have a7:=zaa (G.in_rows.1 hin A l s_);have b3:=zaa hk;have b4:=zaa b5;have HF:=zaa b8;rw[G.edp_one]at hd ⊢;have c6:=a6.k0;have d0:=a6.k1;clear hty hin ih hk b5 b8 a6;show Calls Tryz.prog 280 #[.agg #[.int .u8 k,.int .i64 n,.string s,.slice A l.length cap]] w _;by_cases a4:k≠3/\l=[]
  .obtain⟨h3,rfl⟩:=a4;have c8:(k !=3)=true:=by simpa using h3
   rw[if_pos ⟨h3,rfl⟩];clear a5 a7 b3 b4;go_enter Tryz.func280,Tryz.ntmps280;go_wp2;go_ret;exact⟨rfl,HF.out⟩
  .rw[if_neg a4]at hd ⊢;have a9:((k !=3)=false)\/((k !=3)=true/\((l.length:Int)==0)=false):=by
    by_cases b1:k=3
    .exact .inl (by simp[b1])
    .exact .inr ⟨by simp[b1],by have:l≠[]:=λh=>a4 ⟨b1,h⟩;have:=List.length_pos_iff.2 this;simp;omega⟩
   clear a4;rcases a9 with a9|⟨a9,c9⟩;all_goals
    go_enter Tryz.func280,Tryz.ntmps280;go_wp2_with fail;generalize World.alloc w _=W0 at*;go_loopw [3,4] (λv i wr=>∃j m:Nat,j<=l.length/\i= .int .i64 j/\v= .int .i64 (m:Int)/\m=top ((l.map G.edp).take j)/\m<=17/\Fr No W0 wr) (λ_ i _=>l.length - (intOf i).toNat)
    case atStart=>exact⟨0,0,Nat.zero_le _,rfl,rfl,by simp[top],by omega,Fr.refl _ _⟩
    case round=>
     obtain⟨j,m,hj,rfl,rfl,hm,c4,fr⟩:=hrel;have hK:=b4.out.fr fr λh=>h;have c3:wr.cell? ⟨w.heap.size,3,none⟩=some (.slice A l.length cap):=hK.cell 3;have a1:=HF.out.trans fr;have q0:=hK.lt;have HM:=zaa hm;clear hm;by_cases hlt:j<l.length
     .have b6:=Nat.le_trans hh a1.size;obtain⟨b,o,rfl,b9,c2,a2,a0⟩:=G.row_at (a7.out.no a1 hh) hlt;have b0:=b3.out _ (List.getElem_mem hlt);have c7:l[j].edp<=16:=by have:=zhk (List.mem_map_of_mem (f:=G.edp) (List.getElem_mem hlt));omega
      have IH:=a5.out l[j] (List.getElem_mem hlt) wr lo hi b0 a2 b6 o_;have b2:=ze4 (l.map G.edp) j (by simpa using hlt);rw[List.getElem_map]at b2;generalize hq:l[j].edp=q at*;obtain⟨k1,n1,s1,A1,a3,l1,hx,-,-⟩:=za3 b0;rw[hx]at a0 IH;replace IH:Calls Tryz.prog 280 #[.agg #[.int .u8 k1,.int .i64 n1,.string s1,.slice A1 l1.length a3]] wr λe w'=>e= .returned (.int .i64 (q:Int))/\Fr No wr w':=IH;have x0:wr.cell? ⟨b,o+j*4,none⟩=some (.int .u8 k1):=a0 0 _ rfl;have x1:wr.cell? ⟨b,o+j*4+1,none⟩=some (.int .i64 n1):=a0 1 _ rfl;have x2:wr.cell? ⟨b,o+j*4+2,none⟩=some (.string s1):=a0 2 _ rfl;have x3:wr.cell? ⟨b,o+j*4+3,none⟩=some (.slice A1 l1.length a3):=a0 3 _ rfl;have g0:b<wr.heap.size:=o_;have c0:=zaa fr;have HT:=zaa b2;have a8:=zaa IH;clear hx IH b0 a0 a2 fr a1 hK a5 a7 b6 b9 c2 hq b2;go_wp2_with fail;refine a8.out.mono ?_;rintro e w2 ⟨rfl,b7⟩;have c1:=zaa b7;clear b7;go_wp2;go_roundw
      case rel=>
       refine⟨j+1,max m q,hlt,by go_num,?_,by rw[HT.out,<-HM.out],by omega,c0.out.trans c1.out⟩;refine congrArg (Value.int .i64) ?_;rcases Nat.lt_or_ge m q with h|h
       .rw[if_pos h,Nat.max_eq_right o_]
       .rw[if_neg o_,Nat.max_eq_left h]
      case measure=>simp[intOf];omega
     .obtain rfl:l.length=j:=o_;have HW:=zaa a1;clear a5 a7 b3 hK a1 fr;go_wp2;go_ret;have h:=HM.out;rw[List.take_of_length_le s_]at h;rw[<-h];first
       |exact⟨by go_num,HW.out⟩
       |exact⟨by rw[Nat.add_comm];rfl,HW.out⟩
theorem zfw (g:G) (w:World) (lo hi:Nat) (hty:Ty 308 g) (hin:g.In w lo hi) (hh:hi<=w.heap.size):
 Calls Tryz.prog 264 #[.agg g.c.toArray] w λe w'=>e= .returned (.bool (g.eok 512 16))/\Fr No w w':=by
 have hE:=λ(w':World) (f:Fr No w w')=>zia g w' 0 lo hi hty (hin.no f hh) (Nat.le_trans hh f.size) o_;have hD:=λ(w':World) (f:Fr No w w')=>zi7 g w' lo hi hty (hin.no f hh) (Nat.le_trans hh f.size);have h1:=zt6 g hty;obtain⟨h2,h3⟩:=zwl g hty;have a5:g.eok 512 16=(decide (g.esz<=512)&&decide (g.edp<=16)):=rfl;obtain⟨k,n,s,A,cap,l,rfl,-,-⟩:=za3 hty;generalize (G.mk [.int .u8 k,.int .i64 n,.string s,.slice A (List.length l) cap] [(A,l)]).eok 512 16=q at*;generalize (G.mk [.int .u8 k,.int .i64 n,.string s,.slice A (List.length l) cap] [(A,l)]).edp=D at*;generalize (G.mk [.int .u8 k,.int .i64 n,.string s,.slice A (List.length l) cap] [(A,l)]).esz=Z at*;generalize (G.mk [.int .u8 k,.int .i64 n,.string s,.slice A (List.length l) cap] [(A,l)]).xv=u at*;simp only[G.c]at hE hD ⊢;have a4:=Blk.new w 308 #[.int .u8 k,.int .i64 n,.string s,.slice A l.length cap];have a6:=(Fr.refl No w).alloc (.cells #[.int .u8 k,.int .i64 n,.string s,.slice A l.length cap] 308);have a0:=zaa a4;have HF:=zaa a6;have HE:=zaa hE;have HD:=zaa hD;have H1:=zaa h1;have H2:=zaa h2;have H3:=zaa h3;have HQ:=zaa a5;clear hE hD a4 a6 h1 h2 h3 a5 hin hh hty;go_enter Tryz.func264,Tryz.ntmps264;go_upto_region 1 with(fail);generalize World.alloc w _=W0 at*;have c0:W0.cell? ⟨w.heap.size,0,none⟩=some (.int .u8 k):=a0.out.cell 0;have c1:W0.cell? ⟨w.heap.size,1,none⟩=some (.int .i64 n):=a0.out.cell 1;have c2:W0.cell? ⟨w.heap.size,2,none⟩=some (.string s):=a0.out.cell 2;have c3:W0.cell? ⟨w.heap.size,3,none⟩=some (.slice A l.length cap):=a0.out.cell 3;have q0:=a0.out.lt;go_wp2_with fail;refine(HE.out W0 HF.out).mono ?_;rintro e w2 ⟨z,rfl,hz,f2⟩;have a1:=HF.out.trans f2;have hb:=a0.out.fr f2 λh=>h;have d0:w2.cell? ⟨w.heap.size,0,none⟩=some (.int .u8 k):=hb.cell 0;have d1:w2.cell? ⟨w.heap.size,1,none⟩=some (.int .i64 n):=hb.cell 1;have d2:w2.cell? ⟨w.heap.size,2,none⟩=some (.string s):=hb.cell 2;have d3:w2.cell? ⟨w.heap.size,3,none⟩=some (.slice A l.length cap):=hb.cell 3;have p0:=hb.lt;obtain⟨z1,z2,z3,z4⟩:=hz;by_cases a7:z<=512
 .obtain⟨e1,e2⟩:=z3 a7;have a3:D<=17:=by have:=H3.out;omega
  have hZ:Z<=512:=by have:=H1.out;omega
  have hq:q=decide ((D:Int)<=16):=by
   rw[HQ.out,Bool.eq_iff_iff];simp only[Bool.and_eq_true,decide_eq_true_eq];omega
  have a9:decide ((z:Int)<=512)=true:=so_;subst hq;have a2:=zaa a1;clear hb z1 z2 z3 z4 e1 e2 f2 a1;go_wp2_with fail;refine(HD.out w2 a2.out a3).mono ?_;rintro e w3 ⟨rfl,f3⟩;have a8:=zaa f3;clear f3;go_wp2;go_ret;exact⟨rfl,a2.out.trans a8.out⟩
 .have hq:q=false:=by
   rw[HQ.out,Bool.eq_false_iff];simp only[ne_eq,Bool.and_eq_true,decide_eq_true_eq];rintro⟨h1,h2⟩;have:=z4 (by have:=H1.out;omega) (by have:=H2.out;omega);have:=H1.out;omega
  have a9:decide ((z:Int)<=512)=false:=so_;subst hq;have a2:=zaa a1;clear hb z1 z2 z3 z4 f2 a1;go_wp2;go_ret;exact⟨rfl,a2.out⟩
def zxx (l:List G) (z:Nat):Prop:=z<=(l.map G.ssz).sum/\(z<=512->z=(l.map G.ssz).sum)
def zwm (g:G):Prop:=∀(A:Option Addr) (l:List G),(A,l)∈g.subs->∀(w:World) (lo hi cap:Nat),CdRow w lo hi A cap l->hi<=w.heap.size->(l.map G.ssz).sum<=1099511627776->
 Calls Tryz.prog 229 #[.slice A l.length cap] w λe w'=>∃z:Nat,e= .returned (.int .i64 (z:Int))/\zxx l z/\Fr No w w'
theorem zxz (l:List G):ssT l 0=0:=by simp[ssT]
theorem CdRow.no {w w':World} {lo hi:Nat} {A:Option Addr} {cap:Nat} {l:List G} (h:CdRow w lo hi A cap l) (f:Fr No w w') (hh:hi<=w.heap.size):CdRow w' lo hi A cap l:=
 ⟨h.len1,h.cap1,h.ty,h.inn.no f hh⟩
theorem CdRow.at_ {w:World} {lo hi:Nat} {A:Option Addr} {cap:Nat} {l:List G} (h:CdRow w lo hi A cap l) {j:Nat} (hj:j<l.length):
 ∃op nm sc ab wh k1 n1 s1 A1 l1 z1 k2 n2 s2 A2 l2 z2 A3 l3 z3 A4 l4 z4 A5 l5 z5 A6 l6 z6,∃b o,A=some ⟨b,o,none⟩/\lo<=b/\b<hi/\
  l[j]= .mk (stC op nm sc ab wh k1 n1 s1 A1 (List.length l1) z1 k2 n2 s2 A2 (List.length l2) z2 A3 (List.length l3) z3 A4 (List.length l4) z4 A5 (List.length l5) z5 A6 (List.length l6) z6) [(A1,l1),(A2,l2),(A3,l3),(A4,l4),(A5,l5),(A6,l6)]/\
  (∀i u,(stC op nm sc ab wh k1 n1 s1 A1 (List.length l1) z1 k2 n2 s2 A2 (List.length l2) z2 A3 (List.length l3) z3 A4 (List.length l4) z4 A5 (List.length l5) z5 A6 (List.length l6) z6)[i]? =some u->w.cell? ⟨b,o+j*17+i,none⟩=some u)/\
  (Ty 308 (.mk [.int .u8 k1,.int .i64 n1,.string s1,.slice A1 (List.length l1) z1] [(A1,l1)])/\(G.mk [.int .u8 k1,.int .i64 n1,.string s1,.slice A1 (List.length l1) z1] [(A1,l1)]).In w lo hi)/\
  (Ty 308 (.mk [.int .u8 k2,.int .i64 n2,.string s2,.slice A2 (List.length l2) z2] [(A2,l2)])/\(G.mk [.int .u8 k2,.int .i64 n2,.string s2,.slice A2 (List.length l2) z2] [(A2,l2)]).In w lo hi)/\
  CdRow w lo hi A3 z3 l3/\CdRow w lo hi A4 z4 l4/\CdRow w lo hi A5 z5 l5/\(l6.length*16<=140737488351232/\l6.length<=z6/\(G.row A6 l6).In w lo hi/\∀x∈l6,Ty 9 x)/\FitS op nm sc ab wh (List.length l3) (List.length l4) (List.length l5) (List.length l6) z3 z4 z5 z6:=by
 obtain⟨b,o,rfl,h0,h1,a2,hc⟩:=G.row_at h.inn hj;obtain⟨op,nm,sc,ab,wh,k1,n1,s1,A1,l1,z1,k2,n2,s2,A2,l2,z2,A3,l3,z3,A4,l4,z4,A5,l5,z5,A6,l6,z6,hx,fs,a0,a1,t1,t2,t3,t4,t5,t6⟩:=zkp (h.ty _ (List.getElem_mem hj));have a3:l[j].c.length=17:=by rw[hx];rfl
 rw[a3]at hc;have a4:l[j].c=stC op nm sc ab wh k1 n1 s1 A1 (List.length l1) z1 k2 n2 s2 A2 (List.length l2) z2 A3 (List.length l3) z3 A4 (List.length l4) z4 A5 (List.length l5) z5 A6 (List.length l6) z6:=by rw[hx];rfl
 rw[a4]at hc;rw[hx]at a2;have hr:=G.in_rows.1 a2;refine⟨op,nm,sc,ab,wh,k1,n1,s1,A1,l1,z1,k2,n2,s2,A2,l2,z2,A3,l3,z3,A4,l4,z4,A5,l5,z5,A6,l6,z6,b,o,rfl,h0,h1,hx,hc,⟨?_,?_⟩,⟨?_,?_⟩,
  ⟨fs.th1.1,fs.th1.2,t3,hr A3 l3 s_⟩,⟨fs.el1.1,fs.el1.2,t4,hr A4 l4 s_⟩,⟨fs.co1.1,fs.co1.2,t5,hr A5 l5 s_⟩,⟨fs.wi1.1,fs.wi1.2,hr A6 l6 s_,t6⟩,fs⟩
 .refine .mk _ _ _ ?_ λi e A'' l'' x he hs hx=>?_
  .rw[za0];exact⟨⟨k1,rfl,zce a0.k0 a0.k1⟩,⟨n1,rfl,zcs a0.n0 a0.n1⟩,⟨s1,rfl,a0.s1⟩,⟨z1,rfl,a0.cap1,a0.len1⟩,rfl,rfl⟩
  .rw[za0]at he;cases i with
   |zero=>
    simp[sls]at he hs;obtain⟨rfl,rfl⟩:=hs;subst he;exact t1 x hx
   |succ i=>simp at hs
 .refine G.in_rows.2 λA'' l'' hm=>?_;simp at hm;obtain⟨rfl,rfl⟩:=hm;exact hr _ _ s_
 .refine .mk _ _ _ ?_ λi e A'' l'' x he hs hx=>?_
  .rw[za0];exact⟨⟨k2,rfl,zce a1.k0 a1.k1⟩,⟨n2,rfl,zcs a1.n0 a1.n1⟩,⟨s2,rfl,a1.s1⟩,⟨z2,rfl,a1.cap1,a1.len1⟩,rfl,rfl⟩
  .rw[za0]at he;cases i with
   |zero=>
    simp[sls]at he hs;obtain⟨rfl,rfl⟩:=hs;subst he;exact t2 x hx
   |succ i=>simp at hs
 .refine G.in_rows.2 λA'' l'' hm=>?_;simp at hm;obtain⟨rfl,rfl⟩:=hm;exact hr _ _ s_
theorem zlh (l:List G) (hC:∀x∈l,zwm x) (w:World) (lo hi:Nat) (A:Option Addr) (cap:Nat) (hrow:CdRow w lo hi A cap l) (hh:hi<=w.heap.size) (hS:(l.map G.ssz).sum<=1099511627776):
 Calls Tryz.prog 229 #[.slice A l.length cap] w λe w'=>∃z:Nat,e= .returned (.int .i64 (z:Int))/\zxx l z/\Fr No w w':=by
 have c7:=hrow.len1;have HR:=zaa hrow;have HC:=zaa hC;clear hrow hC;go_enter Tryz.func229,Tryz.ntmps229;go_wp2_with fail;go_loopw [3,4] (λn i wr=>∃j m:Nat,j<=l.length/\i= .int .i64 j/\n= .int .i64 (m:Int)/\(m<=ssT l j/\(m<=512->m=ssT l j))/\Fr No w wr) (λ_ i _=>l.length - (intOf i).toNat)
 case atStart=>exact⟨0,0,Nat.zero_le _,rfl,rfl,⟨Nat.zero_le _,λ_=>(zxz l).symm⟩,Fr.refl _ _⟩
 case round=>
  obtain⟨j,m,hj,rfl,rfl,⟨a3,a1⟩,fr⟩:=hrel;have a8:=zlx l j;by_cases hlt:j<l.length
  case neg=>
   obtain rfl:l.length=j:=o_;have d3:m<=1099511627776:=o_;have HF:=zaa fr;rw[zon]at a3 a1;have HM:=zaa (And.intro a3 a1);clear fr a3 a1 a8 hS;go_wp2;go_ret;exact⟨m,rfl,HM.out,HF.out⟩
  have a5:=zlx l (j+1);have a2:=zlw l j hlt;by_cases c9:m<=512
  case neg=>
   have a9:¬(m:Int)<=512:=o_;have HF:=zaa fr;have HM:=zaa (show zxx l m from⟨by omega,by omega⟩);clear fr a3 a1 a8 a5 a2 hS;go_wp2;go_ret;exact⟨m,rfl,HM.out,HF.out⟩
  have a9:(m:Int)<=512:=o_;obtain⟨op,nm,sc,ab,wh,k1,n1,s1,A1,l1,z1,k2,n2,s2,A2,l2,z2,A3,l3,z3,A4,l4,z4,A5,l5,z5,A6,l6,z6,b,o,rfl,h0,h1,hx,hc,-,-,r3,r4,r5,-,-⟩:=(HR.out.no fr hh).at_ hlt;have c4:=fr.size;have c0:l[j].ssz=1+((l3.map G.ssz).sum+((l4.map G.ssz).sum+(l5.map G.ssz).sum)):=by rw[hx];exact G.ssz_six _ _ _ _ _ _ _ _ _ _ _ _ _
  have a0:∀A' l',(A',l')∈[(A1,l1),(A2,l2),(A3,l3),(A4,l4),(A5,l5),(A6,l6)]->(A',l')∈l[j].subs:=λA' l' h=>by rw[hx];exact h
  have C3:=zaa λ(w':World) (f:Fr No wr w')=>HC.out l[j] (List.getElem_mem hlt) A3 l3 (a0 _ _ s_) w' lo hi z3 (r3.no f o_) (by have:=f.size;omega) o_;have C4:=zaa λ(w':World) (f:Fr No wr w')=>HC.out l[j] (List.getElem_mem hlt) A4 l4 (a0 _ _ s_) w' lo hi z4 (r4.no f o_) (by have:=f.size;omega) o_;have C5:=zaa λ(w':World) (f:Fr No wr w')=>HC.out l[j] (List.getElem_mem hlt) A5 l5 (a0 _ _ s_) w' lo hi z5 (r5.no f o_) (by have:=f.size;omega) o_;have e3:wr.cell? ⟨b,o+j*17+13,none⟩=some (.slice A3 l3.length z3):=hc 13 _ rfl;have e4:wr.cell? ⟨b,o+j*17+14,none⟩=some (.slice A4 l4.length z4):=hc 14 _ rfl;have e5:wr.cell? ⟨b,o+j*17+15,none⟩=some (.slice A5 l5.length z5):=hc 15 _ rfl;have g0:b<wr.heap.size:=o_;have b9:=zaa λ(w':World) (f:Fr No wr w')=>And.intro ((f.cell g0 λh=>h).trans e4) (And.intro ((f.cell g0 λh=>h).trans e5) (Nat.lt_of_lt_of_le g0 f.size));have q3:=r3.len1;have q4:=r4.len1;have q5:=r5.len1;have HF:=zaa fr;have b0:=zaa (And.intro a3 a1);have b1:=zaa (And.intro a2 c0);have d1:m+1+(l3.map G.ssz).sum+(l4.map G.ssz).sum+(l5.map G.ssz).sum<=1099511627776:=o_;clear hx hc r3 r4 r5 a0 fr HC HR a3 a1 a8 a5 a2 c0 hS e4 e5 h0 h1 c4;go_wp2_with fail;refine(C3.out wr (Fr.refl No wr)).mono ?_;rintro e w3 ⟨y3,rfl,⟨b6,a4⟩,f3⟩;obtain⟨e4,e5,g1⟩:=b9.out w3 f3;have b3:=zaa f3;have b5:=zaa (And.intro b6 a4);have d0:y3<=1099511627776:=o_;clear f3 b6 a4;by_cases h3:m+1+y3<=512
  .have c6:((m:Int)+1+(y3:Int))<=512:=o_;go_wp2_with fail;refine(C4.out w3 b3.out).mono ?_;rintro e w4 ⟨y4,rfl,⟨c1,a6⟩,f4⟩;have a7:=b3.out.trans f4;obtain⟨-,e5,g2⟩:=b9.out w4 a7;have b2:=zaa a7;have b8:=zaa (And.intro c1 a6);have d2:y4<=1099511627776:=o_;clear f4 a7 c1 a6;by_cases h4:m+1+y3+y4<=512
   .have c5:((m:Int)+1+(y3:Int)+(y4:Int))<=512:=o_;go_wp2_with fail;refine(C5.out w4 b2.out).mono ?_;rintro e w5 ⟨y5,rfl,⟨c2,b4⟩,f5⟩;have c3:=zaa (b2.out.trans f5);have c8:=zaa (And.intro c2 b4);have by5:y5<=1099511627776:=o_;clear f5 c2 b4;go_wp2;go_roundw
    case rel=>
     have b7:=b0.out;have a2:=b1.out;have a4:=b5.out;have a6:=b8.out;have b4:=c8.out;exact⟨j+1,m+1+y3+y4+y5,hlt,by go_num,by go_num,⟨by omega,λh=>by omega⟩,HF.out.trans c3.out⟩
    case measure=>simp[intOf];omega
   .have c5:¬((m:Int)+1+(y3:Int)+(y4:Int))<=512:=o_;go_wp2;go_roundw
    case rel=>
     have b7:=b0.out;have a2:=b1.out;have a4:=b5.out;have a6:=b8.out;exact⟨j+1,m+1+y3+y4,hlt,by go_num,by go_num,⟨by omega,λh=>by omega⟩,HF.out.trans b2.out⟩
    case measure=>simp[intOf];omega
  .have c6:¬((m:Int)+1+(y3:Int))<=512:=o_;go_wp2;go_roundw
   case rel=>
    have b7:=b0.out;have a2:=b1.out;have a4:=b5.out;exact⟨j+1,m+1+y3,hlt,by go_num,by go_num,⟨by omega,λh=>by omega⟩,HF.out.trans b3.out⟩
   case measure=>simp[intOf];omega
theorem zq3 (g:G):zwm g:=by
 induction g using G.ind with
 |h c subs ih=>exact λA l hs w lo hi cap hrow hh hS=>zlh l (λx hx=>ih A l hs x hx) w lo hi A cap hrow hh hS
theorem zli (l:List G) (w:World) (lo hi:Nat) (A:Option Addr) (cap:Nat) (hrow:CdRow w lo hi A cap l) (hh:hi<=w.heap.size) (hS:(l.map G.ssz).sum<=1099511627776):
 Calls Tryz.prog 229 #[.slice A l.length cap] w λe w'=>∃z:Nat,e= .returned (.int .i64 (z:Int))/\zxx l z/\Fr No w w':=zlh l (λx _=>zq3 x) w lo hi A cap hrow hh hS
def CfC (g:G):Prop:=∀(A:Option Addr) (l:List G),(A,l)∈g.subs->∀(w:World) (lo hi cap:Nat),CdRow w lo hi A cap l->hi<=w.heap.size->
 Calls Tryz.prog 230 #[.slice A l.length cap] w λe w'=>e= .returned (.bool (l.all G.sok))/\Fr No w w'
theorem zt7 {l:List G} {x:G} (hx:x∈l) (h:x.sok=false):l.all G.sok=false:=by
 cases hl:l.all G.sok with
 |false=>rfl
 |true=>rw[List.all_eq_true.1 hl x hx]at h;cases h
theorem zns {w:World} {b p:Nat} {c:List Value} (g0:b<w.heap.size) (hc:∀i u,c[i]? =some u->w.cell? ⟨b,p+i,none⟩=some u) {w':World} (f:Fr No w w'):
 (∀i u,c[i]? =some u->w'.cell? ⟨b,p+i,none⟩=some u)/\b<w'.heap.size:=⟨λi u hu=>(f.cell g0 λh=>h).trans (hc i u hu),Nat.lt_of_lt_of_le g0 f.size⟩
theorem ztd (l:List G) (hC:∀x∈l,CfC x) (w:World) (lo hi:Nat) (A:Option Addr) (cap:Nat) (hrow:CdRow w lo hi A cap l) (hh:hi<=w.heap.size):
 Calls Tryz.prog 230 #[.slice A l.length cap] w λe w'=>e= .returned (.bool (l.all G.sok))/\Fr No w w':=by
 have c0:=hrow.len1;have HR:=zaa hrow;have HC:=zaa hC;clear hrow hC;go_enter Tryz.func230,Tryz.ntmps230;go_wp2_with fail;go_loopw [3] (λi wr=>∃j:Nat,j<=l.length/\i= .int .i64 j/\Hid (∀x∈l.take j,x.sok=true)/\Fr No w wr) (λi _=>l.length - (intOf i).toNat)
 case atStart=>exact⟨0,Nat.zero_le _,rfl,zaa s_,Fr.refl _ _⟩
 case round=>
  obtain⟨j,hj,rfl,b6,fr⟩:=hrel;by_cases hlt:j<l.length
  case neg=>
   obtain rfl:l.length=j:=o_;have HF:=zaa fr;clear fr;go_wp2;go_ret;have h:=b6.out;rw[List.take_of_length_le (Nat.le_refl _)]at h;exact⟨by rw[List.all_eq_true.2 h];rfl,HF.out⟩
  obtain⟨op,nm,sc,ab,wh,k1,n1,s1,A1,l1,z1,k2,n2,s2,A2,l2,z2,A3,l3,z3,A4,l4,z4,A5,l5,z5,A6,l6,z6,b,o,rfl,h0,h1,hx,hc,⟨ta,ia⟩,⟨tb,ib⟩,r3,r4,r5,⟨c2,-,-,-⟩,-⟩:=(HR.out.no fr hh).at_ hlt;have b8:=fr.size;have b4:l[j].sok=(decide (l6.length<=64)&&((G.mk [.int .u8 k1,.int .i64 n1,.string s1,.slice A1 l1.length z1] [(A1,l1)]).eok 512 16&&(G.mk [.int .u8 k2,.int .i64 n2,.string s2,.slice A2 l2.length z2] [(A2,l2)]).eok 512 16)&&(l3.all G.sok&&(l4.all G.sok&&l5.all G.sok))):=by rw[hx];exact G.sok_six _ _ _ _ _ _ _ _ _ _ _ _ _ _ _ _ _ _ _ _ _ _ _ _ _ _ _ _ _ _ _ _ _ _ _
  have a1:∀A' l',(A',l')∈[(A1,l1),(A2,l2),(A3,l3),(A4,l4),(A5,l5),(A6,l6)]->(A',l')∈l[j].subs:=λA' l' h=>by rw[hx];exact h
  have C3:=zaa λ(w':World) (f:Fr No wr w')=>HC.out l[j] (List.getElem_mem hlt) A3 l3 (a1 _ _ s_) w' lo hi z3 (r3.no f o_) (by have:=f.size;omega);have C4:=zaa λ(w':World) (f:Fr No wr w')=>HC.out l[j] (List.getElem_mem hlt) A4 l4 (a1 _ _ s_) w' lo hi z4 (r4.no f o_) (by have:=f.size;omega);have C5:=zaa λ(w':World) (f:Fr No wr w')=>HC.out l[j] (List.getElem_mem hlt) A5 l5 (a1 _ _ s_) w' lo hi z5 (r5.no f o_) (by have:=f.size;omega);have CA:∀(w':World) (f:Fr No wr w'),Calls Tryz.prog 264 #[.agg #[.int .u8 k1,.int .i64 n1,.string s1,.slice A1 l1.length z1]] w' λe w''=>e= .returned (.bool ((G.mk [.int .u8 k1,.int .i64 n1,.string s1,.slice A1 l1.length z1] [(A1,l1)]).eok 512 16))/\Fr No w' w'':=λw' f=>zfw _ w' lo hi ta (ia.no f o_) (by have:=f.size;omega);have CB:∀(w':World) (f:Fr No wr w'),Calls Tryz.prog 264 #[.agg #[.int .u8 k2,.int .i64 n2,.string s2,.slice A2 l2.length z2]] w' λe w''=>e= .returned (.bool ((G.mk [.int .u8 k2,.int .i64 n2,.string s2,.slice A2 l2.length z2] [(A2,l2)]).eok 512 16))/\Fr No w' w'':=λw' f=>zfw _ w' lo hi tb (ib.no f o_) (by have:=f.size;omega);have b9:=zaa CA;have c1:=zaa CB;have q3:=r3.len1;have q4:=r4.len1;have q5:=r5.len1;have g0:b<wr.heap.size:=o_;have a0:=zaa λ(w':World) (f:Fr No wr w')=>zns g0 hc f;generalize (G.mk [.int .u8 k1,.int .i64 n1,.string s1,.slice A1 l1.length z1] [(A1,l1)]).eok 512 16=qa at*;generalize (G.mk [.int .u8 k2,.int .i64 n2,.string s2,.slice A2 l2.length z2] [(A2,l2)]).eok 512 16=qb at*;generalize l3.all G.sok=q3' at*;generalize l4.all G.sok=q4' at*;generalize l5.all G.sok=q5' at*;have HF:=zaa fr;have a2:=zaa b4;have HN:=zaa λh=>zt7 (List.getElem_mem hlt) h;have c3:wr.cell? ⟨b,o+j*17+16,none⟩=some (.slice A6 l6.length z6):=hc 16 _ rfl;have x5:wr.cell? ⟨b,o+j*17+5,none⟩=some (.int .u8 k1):=hc 5 _ rfl;have x6:wr.cell? ⟨b,o+j*17+5+1,none⟩=some (.int .i64 n1):=hc 6 _ rfl;have x7:wr.cell? ⟨b,o+j*17+5+2,none⟩=some (.string s1):=hc 7 _ rfl;have x8:wr.cell? ⟨b,o+j*17+5+3,none⟩=some (.slice A1 l1.length z1):=hc 8 _ rfl;clear hx hc r3 r4 r5 a1 fr HC HR b4 h0 h1 b8 ta tb ia ib CA CB;by_cases h6:l6.length<=64
  case neg=>
   have b7:decide ((64:Int)<(l6.length:Int))=true:=so_;have hq:l.all G.sok=false:=HN.out (by rw[a2.out];simp[h6]);have HQ:=zaa hq;clear hq a0;go_wp2;go_ret;exact⟨by rw[HQ.out];rfl,HF.out⟩
  have b7:decide ((64:Int)<(l6.length:Int))=false:=so_;go_wp2_with fail;refine(b9.out wr (Fr.refl No wr)).mono ?_;rintro e w2 ⟨rfl,f2⟩;obtain⟨a3,g2⟩:=a0.out w2 f2;have a9:=zaa f2;clear f2;cases qa
  case false=>
   have hq:l.all G.sok=false:=HN.out (by rw[a2.out];simp);have HQ:=zaa hq;clear hq a0 a3;go_wp2;go_ret;exact⟨by rw[HQ.out];rfl,HF.out.trans a9.out⟩
  have y5:w2.cell? ⟨b,o+j*17+9,none⟩=some (.int .u8 k2):=a3 9 _ rfl;have y6:w2.cell? ⟨b,o+j*17+9+1,none⟩=some (.int .i64 n2):=a3 10 _ rfl;have y7:w2.cell? ⟨b,o+j*17+9+2,none⟩=some (.string s2):=a3 11 _ rfl;have y8:w2.cell? ⟨b,o+j*17+9+3,none⟩=some (.slice A2 l2.length z2):=a3 12 _ rfl;clear a3;go_wp2_with fail;refine(c1.out w2 a9.out).mono ?_;rintro e w3 ⟨rfl,f3⟩;have a8:=a9.out.trans f3;obtain⟨a6,g3⟩:=a0.out w3 a8;have b2:=zaa a8;clear f3 a8;cases qb
  case false=>
   have hq:l.all G.sok=false:=HN.out (by rw[a2.out];simp);have HQ:=zaa hq;clear hq a0 a6;go_wp2;go_ret;exact⟨by rw[HQ.out];rfl,HF.out.trans b2.out⟩
  have c5:w3.cell? ⟨b,o+j*17+13,none⟩=some (.slice A3 l3.length z3):=a6 13 _ rfl;clear a6;go_wp2_with fail;refine(C3.out w3 b2.out).mono ?_;rintro e w4 ⟨rfl,f4⟩;have a7:=b2.out.trans f4;obtain⟨b3,g4⟩:=a0.out w4 a7;have b1:=zaa a7;clear f4 a7;cases q3'
  case false=>
   have hq:l.all G.sok=false:=HN.out (by rw[a2.out];simp);have HQ:=zaa hq;clear hq a0 b3;go_wp2;go_ret;exact⟨by rw[HQ.out];rfl,HF.out.trans b1.out⟩
  have c6:w4.cell? ⟨b,o+j*17+14,none⟩=some (.slice A4 l4.length z4):=b3 14 _ rfl;clear b3;go_wp2_with fail;refine(C4.out w4 b1.out).mono ?_;rintro e w5 ⟨rfl,f5⟩;have a5:=b1.out.trans f5;obtain⟨b0,g5⟩:=a0.out w5 a5;have a4:=zaa a5;clear f5 a5;cases q4'
  case false=>
   have hq:l.all G.sok=false:=HN.out (by rw[a2.out];simp);have HQ:=zaa hq;clear hq a0 b0;go_wp2;go_ret;exact⟨by rw[HQ.out];rfl,HF.out.trans a4.out⟩
  have c4:w5.cell? ⟨b,o+j*17+15,none⟩=some (.slice A5 l5.length z5):=b0 15 _ rfl;clear b0;go_wp2_with fail;refine(C5.out w5 a4.out).mono ?_;rintro e w6 ⟨rfl,f6⟩;have b5:=zaa (a4.out.trans f6);clear f6;cases q5'
  case false=>
   have hq:l.all G.sok=false:=HN.out (by rw[a2.out];simp);have HQ:=zaa hq;clear hq a0;go_wp2;go_ret;exact⟨by rw[HQ.out];rfl,HF.out.trans b5.out⟩
  go_wp2;go_roundw
  case rel=>
   refine⟨j+1,hlt,by go_num,zaa λx hx=>?_,HF.out.trans b5.out⟩;rw[List.take_add_one,List.getElem?_eq_getElem hlt]at hx;rcases List.mem_append.1 hx with hx|hx
   .exact b6.out x hx
   .simp only[Option.toList_some,List.mem_singleton]at hx;subst hx;rw[a2.out];simp[h6]
  case measure=>simp[intOf];omega
theorem zwn (g:G):CfC g:=by
 induction g using G.ind with
 |h c subs ih=>exact λA l hs w lo hi cap hrow hh=>ztd l (λx hx=>ih A l hs x hx) w lo hi A cap hrow hh
theorem zfx (l:List G) (w:World) (lo hi:Nat) (A:Option Addr) (cap:Nat) (hrow:CdRow w lo hi A cap l) (hh:hi<=w.heap.size):
 Calls Tryz.prog 230 #[.slice A l.length cap] w λe w'=>e= .returned (.bool (l.all G.sok))/\Fr No w w':=ztd l (λx _=>zwn x) w lo hi A cap hrow hh
def Tg.short (x:Tg):Bool:=decide (x.vs.length<=1024)&&(decide (x.names.length<=128)&&(decide ((x.code.map G.ssz).sum<=512)&&(x.code.all G.sok&&x.vals.all λt=>t.v.may)))
theorem zt8 {l:List T} {j:Nat} (hj:j<l.length) (h:l[j].v.may=false):(l.all λt=>t.v.may)=false:=by
 cases hl:l.all λt=>t.v.may with
 |false=>rfl
 |true=>rw[List.all_eq_true.1 hl _ (List.getElem_mem hj)]at h;cases h
theorem znt (x:Tg) (w:World) (lo hi:Nat) (hx:x.In w lo hi) (hh:hi<=w.heap.size) (hS:(x.code.map G.ssz).sum<=1099511627776):
 Calls Tryz.prog 173 #[x.val] w λe w'=>e= .returned (.bool x.short)/\Fr No w w':=by
 have c2:=zaa λ(w':World) (f:Fr No w w') (h1:x.vs.length<=1024) (h2:x.names.length<=128)=>zht x w' lo hi (hx.no f hh) (Nat.le_trans hh f.size) h1 h2;have a4:=zaa λ(w':World) (f:Fr No w w')=>Tg.vals_in (hx.no f hh);have g6:=x.vals_len;have a2:=zaa (show x.short=(decide (x.vs.length<=1024)&&(decide (x.names.length<=128)&&(decide ((x.code.map G.ssz).sum<=512)&&(x.code.all G.sok&&x.vals.all λt=>t.v.may))))from rfl);have a5:=zaa λ(w':World) (f:Fr No w w')=>zli x.code w' lo hi x.CA x.cc (hx.code.no f hh) (Nat.le_trans hh f.size) hS;have a3:=zaa λ(w':World) (f:Fr No w w')=>zfx x.code w' lo hi x.CA x.cc (hx.code.no f hh) (Nat.le_trans hh f.size);have g9:=hx.code.len1;generalize x.short=sh at*;generalize g3:x.vals=VL at*;have HH:=zaa hh;clear g3 hx hh hS;obtain⟨kind,home,⟨k,n,s,A,cap,l,r⟩,VA,vc,vs,n1,lost,ofr,byr,set,full,CA,cc,a1,NA,nc,a0⟩:=x;have a7:(Tg.val ⟨kind,home,T.mk k n s A cap l r,VA,vc,vs,n1,lost,ofr,byr,set,full,CA,cc,a1,NA,nc,a0⟩)= .agg #[.int .u8 kind,.int .i64 home,.int .u8 k,.int .i64 n,.string s,.slice A l.length cap,.int .i64 r,.slice VA vs.length vc,.int .i64 n1,.int .i64 lost,.int .i64 ofr,.int .i64 byr,.int .u8 set,.bool full,.slice CA a1.length cc,.slice NA a0.length nc]:=rfl;rw[a7]at*;simp only at*;have hb:=Blk.new w 138 #[.int .u8 kind,.int .i64 home,.int .u8 k,.int .i64 n,.string s,.slice A l.length cap,.int .i64 r,.slice VA vs.length vc,.int .i64 n1,.int .i64 lost,.int .i64 ofr,.int .i64 byr,.int .u8 set,.bool full,.slice CA a1.length cc,.slice NA a0.length nc];have hf:=(Fr.refl No w).alloc (.cells #[.int .u8 kind,.int .i64 home,.int .u8 k,.int .i64 n,.string s,.slice A l.length cap,.int .i64 r,.slice VA vs.length vc,.int .i64 n1,.int .i64 lost,.int .i64 ofr,.int .i64 byr,.int .u8 set,.bool full,.slice CA a1.length cc,.slice NA a0.length nc] 138);have HF:=zaa hf;have HB:=zaa hb;clear a7 hb hf;generalize e9:(a1.map G.ssz).sum=SS at*;have e5:=zaa e9;generalize a1.all G.sok=ck at*;clear e9;go_enter Tryz.func173,Tryz.ntmps173;go_upto_region 1 with(fail);generalize World.alloc w _=W0 at*;obtain⟨d0,d1,d2,d3,d4,d5,d6,d7,d8,d9,b2,b3,b6,b5,b0,a8⟩:=HB.out.cells16;have dq:=HB.out.lt;by_cases h1:vs.length<=1024
 case neg=>
  have f0:decide ((1024:Int)<(vs.length:Int))=true:=so_;have HQ:=zaa (show sh=false by rw[a2.out];simp[h1]);clear c2 a4 a5 a3 a2;go_wp2;go_ret;exact⟨by rw[HQ.out];rfl,HF.out⟩
 have f0:decide ((1024:Int)<(vs.length:Int))=false:=so_;by_cases h2:a0.length<=128
 case neg=>
  have e7:decide ((128:Int)<(a0.length:Int))=true:=so_;have HQ:=zaa (show sh=false by rw[a2.out];simp[h2]);clear c2 a4 a5 a3 a2;go_wp2;go_ret;exact⟨by rw[HQ.out];rfl,HF.out⟩
 have e7:decide ((128:Int)<(a0.length:Int))=false:=so_;have b9:=zaa λ(w':World) (f:Fr No w w')=>c2.out w' f h1 h2;clear c2;go_wp2_with fail;refine(a5.out W0 HF.out).mono ?_;rintro e w1 ⟨z,rfl,⟨c6,c4⟩,f1⟩;have c1:=zaa (HF.out.trans f1);have c0:=zaa (HB.out.fr f1 λh=>h);have f8:z<=512↔SS<=512:=by rw[e5.out]at c6 c4;constructor<;>intro h<;>omega
 have a6:=zaa f8;have HZ:=zaa (And.intro c6 c4);clear d0 d1 d2 d3 d4 d5 d6 d7 d8 d9 b2 b3 b6 b5 b0 a8 dq f1 c6 c4 f8;obtain⟨d0,d1,d2,d3,d4,d5,d6,d7,d8,d9,b2,b3,b6,b5,b0,a8⟩:=c0.out.cells16;have dq:=c0.out.lt;by_cases h3:z<=512
 case neg=>
  have f4:decide ((512:Int)<(z:Int))=true:=so_;have HQ:=zaa (show sh=false by rw[a2.out];have:¬SS<=512:=λh=>h3 (a6.out.2 h);simp[this]);clear b9 a4 a5 a3 a2 HZ a6;go_wp2;go_ret;exact⟨by rw[HQ.out];rfl,c1.out⟩
 have f4:decide ((512:Int)<(z:Int))=false:=so_;have f9:=zaa (a6.out.1 h3);go_wp2_with fail;refine(a3.out w1 c1.out).mono ?_;rintro e w2 ⟨rfl,f2⟩;have b8:=zaa (c1.out.trans f2);have c5:=zaa (c0.out.fr f2 λh=>h);clear d0 d1 d2 d3 d4 d5 d6 d7 d8 d9 b2 b3 b6 b5 b0 a8 dq f2;obtain⟨d0,d1,d2,d3,d4,d5,d6,d7,d8,d9,b2,b3,b6,b5,b0,a8⟩:=c5.out.cells16;have dq:=c5.out.lt;cases ck
 case false=>
  have HQ:=zaa (show sh=false by rw[a2.out];simp);clear b9 a4 a5 a3 a2 HZ a6;go_wp2;go_ret;exact⟨by rw[HQ.out];rfl,b8.out⟩
 go_wp2_with fail;refine(b9.out w2 b8.out).mono ?_;rintro e w3 ⟨A3,c3,rfl,ho,f3⟩;have b7:=b8.out.trans f3;have g8:=b7.size;have b4:∀t∈VL,t.In w3 0 hi:=λt ht=>T.In.more (Nat.zero_le _) (Nat.le_refl _) t (a4.out w3 b7 t ht);have b1:=zgm ho b4 o_ (Nat.zero_le _) (by have:=HH.out;omega);have HR:=zaa b1;have f6:=zaa b7;have c9:=zaa (show sh=VL.all λt=>t.v.may by rw[a2.out];have:=f9.out;simp[h1,h2,this]);have g4:VL.length<=2000:=o_;clear b1 b4 ho f3 b7 d0 d1 d2 d3 d4 d5 d6 d7 d8 d9 b2 b3 b6 b5 b0 a8 dq b9 a4 a5 a3 a2 HZ a6 f9 HB c0 c5 HF c1 b8 e5 g6 h1 h2 f0 e7 h3 f4;go_wp2_with fail;go_loopw [4] (λi wr=>∃j:Nat,j<=VL.length/\i= .int .i64 j/\Hid (∀t∈VL.take j,t.v.may=true)/\Fr No w3 wr) (λi _=>VL.length - (intOf i).toNat)
 case atStart=>exact⟨0,Nat.zero_le _,rfl,zaa s_,Fr.refl _ _⟩
 case round=>
  obtain⟨j,hj,rfl,g1,fr⟩:=hrel;by_cases hlt:j<VL.length
  case neg=>
   obtain rfl:VL.length=j:=o_;have g5:=zaa (f6.out.trans fr);clear fr;go_wp2;go_ret;have h:=g1.out;rw[List.take_of_length_le (Nat.le_refl _)]at h;exact⟨by rw[c9.out,List.all_eq_true.2 h];rfl,g5.out⟩
  obtain⟨b,o,k1,n1,s1,A1,a9,l1,r1,rfl,g7,h0,hx,g2,e0,e1,e2,e3,e4⟩:=T.elem (HR.out.no fr (Nat.le_refl _)) hlt;have hM:=zgi VL[j] wr 0 w3.heap.size (by rw[hx];exact g2) fr.size;have HN:=zaa λh=>zt8 hlt h;have e8:VL.take (j+1)=VL.take j++[VL[j]]:=by rw[List.take_add_one,List.getElem?_eq_getElem hlt];rfl
  have e6:=zaa e8;generalize VL[j]=tj at*;rw[hx,T.val_mk]at hM;have f7:=zaa (show tj.v.may=(T.mk k1 n1 s1 A1 a9 l1 r1).v.may by rw[hx]);generalize (T.mk k1 n1 s1 A1 a9 l1 r1).v.may=q at*;have g0:b<wr.heap.size:=by have:=fr.size;omega
  have c8:=zaa fr;have HM:=zaa hM;clear hx g2 fr hM e8;go_wp2_with fail;refine HM.out.mono ?_;rintro e w5 ⟨rfl,f5⟩;have c7:=zaa f5;clear f5;cases q
  case false=>
   have HQ:=zaa (show sh=false by rw[c9.out];exact HN.out f7.out);clear HN e6;go_wp2;go_ret;exact⟨by rw[HQ.out];rfl,(f6.out.trans c8.out).trans c7.out⟩
  go_wp2;go_roundw
  case rel=>
   refine⟨j+1,hlt,by go_num,zaa λt ht=>?_,c8.out.trans c7.out⟩;rw[e6.out]at ht;rcases List.mem_append.1 ht with ht|ht
   .exact g1.out t ht
   .simp only[List.mem_singleton]at ht;subst ht;exact f7.out
  case measure=>simp[intOf];omega
def zyi (u v:V) (w:World) (e:Ending) (w':World):Prop:=∃q:Bool,e= .returned (.bool q)/\(q=true↔u=v)/\Fr No w w'
theorem zp0 (t:T):∀(t':T) (w:World) (lo hi lo' hi':Nat),t.In w lo hi->hi<=w.heap.size->t'.In w lo' hi'->hi'<=w.heap.size->Calls Tryz.prog 204 #[t.val,t'.val] w (zyi t.v t'.v w):=by
 induction t using T.ind with
 |h k n s A cap l r ih=>
  intro t' w lo hi lo' hi' ht hh ht' hh';cases t' with
  |mk k' n' s' A' cap' l' r'=>
   rw[T.val_mk,T.val_mk];have a1:=((Fr.refl No w).alloc (.cells #[.int .u8 k,.int .i64 n,.string s,.slice A l.length cap,.int .i64 r] 28)).alloc (.cells #[.int .u8 k',.int .i64 n',.string s',.slice A' l'.length cap',.int .i64 r'] 28);by_cases hk:k=k'
   case neg=>
    have c5:(k !=k')=true:=by simpa using hk
    go_enter Tryz.func204,Tryz.ntmps204;go_wp2;go_ret;exact⟨false,rfl,by rw[T.v_mk,T.v_mk];simp[hk],a1⟩
   by_cases hn:n=n'
   case neg=>
    have d5:(n !=n')=true:=by simpa using hn
    subst hk;go_enter Tryz.func204,Tryz.ntmps204;go_wp2;go_ret;exact⟨false,rfl,by rw[T.v_mk,T.v_mk];simp[hn],a1⟩
   by_cases hs:s=s'
   case neg=>
    have c7:(s.toList==s'.toList)=false:=by simpa using λh=>hs (zfc h)
    have d7:¬s.toList=s'.toList:=λh=>hs (zfc h);subst hk;subst hn;go_enter Tryz.func204,Tryz.ntmps204;go_wp2;go_ret;exact⟨false,rfl,by rw[T.v_mk,T.v_mk];simp[hs],a1⟩
   by_cases hr:r=r'
   case neg=>
    have c9:(r !=r')=true:=by simpa using hr
    have b2:=zaa a1;subst hk;subst hn;subst hs;go_enter Tryz.func204,Tryz.ntmps204;go_wp2;go_ret;exact⟨false,rfl,by rw[T.v_mk,T.v_mk];simp[hr],b2.out⟩
   by_cases hl:l.length=l'.length
   case neg=>
    have b5:((l.length:Int)!=(l'.length:Int))=true:=so_;subst hk;subst hn;subst hs;subst hr;go_enter Tryz.func204,Tryz.ntmps204;go_wp2;go_ret;refine⟨false,rfl,?_,a1⟩;rw[T.v_mk,T.v_mk];simp;intro h;exact hl (by simpa using congrArg List.length h)
   subst hk;subst hn;subst hs;subst hr;have b6:=(T.in_mk.1 ht).1.len1;have b5:((l.length:Int)!=(l'.length:Int))=false:=so_;have HL:=zaa hl;clear hl;go_enter Tryz.func204,Tryz.ntmps204;go_wp2_with fail;go_loopw [5] (λi wr=>∃j:Nat,j<=l.length/\i= .int .i64 j/\Fr No ((w.alloc (.cells #[.int .u8 k,.int .i64 n,.string s,.slice A l.length cap,.int .i64 r] 28)).alloc (.cells #[.int .u8 k,.int .i64 n,.string s,.slice A' l'.length cap',.int .i64 r] 28)) wr/\∀i (h:i<j) (h1:i<l.length) (h2:i<l'.length),l[i].v=l'[i].v) (λi _=>l.length - (intOf i).toNat)
   case atStart=>
    exact⟨0,Nat.zero_le _,rfl,Fr.refl _ _,λi h=>absurd h o_⟩
   case round=>
    obtain⟨j,hj,rfl,fr,a0⟩:=hrel;have hK:=((Blk.new' w 28 #[.int .u8 k,.int .i64 n,.string s,.slice A l.length cap,.int .i64 r] rfl).alloc (.cells #[.int .u8 k,.int .i64 n,.string s,.slice A' l'.length cap',.int .i64 r] 28)).fr fr (λh=>h);have hV:=(Blk.new' (w.alloc (.cells #[.int .u8 k,.int .i64 n,.string s,.slice A l.length cap,.int .i64 r] 28)) 28 #[.int .u8 k,.int .i64 n,.string s,.slice A' l'.length cap',.int .i64 r] (g:=w.heap.size+1) s_).fr fr (λh=>h);have a3:=a1.trans fr;have a7:=fr.size;simp at a7;by_cases hlt:j<l.length
    .have a2:j<l'.length:=by have:=HL.out;omega
     obtain⟨b,o,k1,n1,s1,A1,b1,l1,r1,rfl,b9,d6,hx,b8,e0,e1,e2,e3,e4⟩:=T.elem (ht.no a3 hh) hlt;obtain⟨b',o',k2,n2,s2,A2,b3,l2,r2,rfl,b4,b7,a6,a5,f0,f1,f2,f3,f4⟩:=T.elem (ht'.no a3 hh') a2;have IH:=ih l[j] (List.getElem_mem hlt) l'[j];rw[hx,a6,T.val_mk,T.val_mk]at IH;obtain⟨c0,c1,c2,c3,c4,cf⟩:=hK.cells5;obtain⟨d0,d1,d2,d3,d4,df⟩:=hV.cells5;have g0:b<wr.heap.size:=o_;have g1:b'<wr.heap.size:=o_;have g2:w.heap.size<wr.heap.size:=o_;have g3:w.heap.size+1<wr.heap.size:=o_;have b0:hi<=wr.heap.size:=o_;have a9:hi'<=wr.heap.size:=o_;have HX:=zaa hx;have a8:=zaa a6;have HF:=zaa fr;have HW:=zaa a3;have HT:=zaa ht;have c8:=zaa ht';have HS:=zaa a0;clear hx a6 ih hK hV fr a3 ht ht' a1 a0;go_wp2_with fail;go_region_held3 (λw'=>(∀c i,c<wr.heap.size->w'.cell? ⟨c,i,none⟩=wr.cell? ⟨c,i,none⟩)/\Fr No wr w')
      (first|exact⟨λ_ _ _=>rfl,Fr.drew (Fr.refl No wr)⟩|(have hq:Fr No wr _:=(‹_/\Fr No wr _›).2.trans ‹Fr No _ _›;exact⟨hq.cells,hq⟩))
      (first
       |(go_at_call 204;have a4:=(‹_/\Fr No wr _›).2;((with_reducible refine(IH _ lo hi lo' hi' ?_ ?_ ?_ ?_).mono ?_);(exact b8.no a4 b0);(exact Nat.le_trans b0 a4.size);(exact a5.no a4 a9);(exact Nat.le_trans a9 a4.size);rintro e w2 ⟨q,rfl,hq,c6⟩)))
     cases q with
     |false=>
      go_wp2;go_ret;refine⟨false,rfl,?_,HW.out.trans (‹_/\Fr No wr _›).2⟩;rw[T.v_mk,T.v_mk];simp;intro h;have h1:=congrArg (λq=>q[j]?) h;simp[hlt,a2]at h1;rw[HX.out,a8.out]at h1;exact absurd (hq.2 h1) s_
     |true=>
      go_wp2;go_roundw
      case rel=>
       refine⟨j+1,hlt,by go_num,HF.out.trans (‹_/\Fr No wr _›).2,λi hi h1 h2=>?_⟩;rcases Nat.lt_or_ge i j with h|h
       .exact HS.out i h h1 h2
       .obtain rfl:i=j:=o_;rw[HX.out,a8.out];exact hq.1 rfl
      case measure=>simp[intOf];omega
    .obtain rfl:l.length=j:=o_;obtain⟨c0,c1,c2,c3,c4,cf⟩:=hK.cells5;obtain⟨d0,d1,d2,d3,d4,df⟩:=hV.cells5;have HS:=zaa a0;clear a0 ih;go_wp2;go_ret;refine⟨true,rfl,?_,a3⟩;rw[T.v_mk,T.v_mk];simp;refine List.ext_getElem (by simpa using HL.out) λi h1 h2=>?_;simp at h1 h2;simpa using HS.out i h1 h1 h2
end Go.Proofs.YtlejelbefmkakaaGreat

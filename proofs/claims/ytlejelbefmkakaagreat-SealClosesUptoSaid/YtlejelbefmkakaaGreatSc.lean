/- SealCloses, where what it reads is of bulk at most 1048576: the statement. -/
import Derived.Test.YtlejelbefmkakaaGreatJn1
import Derived.Test.YtlejelbefmkakaaGreatJn45
import Derived.Test.YtlejelbefmkakaaGreatSc1
import Derived.Test.YtlejelbefmkakaaGreatSc2
import Derived.Test.YtlejelbefmkakaaGreatRows
import Derived.ProofKit
import Derived.OpenShut
import Derived.ShutString
import Derived.ChangeOld
import Derived.Below
namespace Go.Proofs.YtlejelbefmkakaaGreat
open Go.ChangeShapes Go.WideShapes Go.ChangeAt Go.RowKit
set_option maxRecDepth 100000 in
theorem zfr (os:Os) (started:os.Started) (H:Type) (enc:TypeId×Value->H) (F:Stop.Interp):
 ReturnsInHanded {} Tryz.checked os 6 .any ((Rows.OpenSpec.upto Rows.sealClosesSpec).pre6 enc Tryz.prog Tryz.f6 Rows.sealClosesUptoRow.domain false) (((Rows.OpenSpec.upto Rows.sealClosesSpec).at F).post enc Tryz.prog Tryz.f6 false true false false):=by
 refine zcl (C:=Tryz.checked) (s:=(Rows.OpenSpec.upto Rows.sealClosesSpec)) (k:=Rows.uptoSmall) rfl zya started k_ Tryz.func6
  (OpenSpec.witness (enc:=enc) (C:=Tryz.checked) (s:=(Rows.OpenSpec.upto Rows.sealClosesSpec)) (k:=Rows.uptoSmall) rfl false ⟨#[],#[.agg #[.slice none 0 0,.slice none 0 0,.slice none 0 0,.int .i64 0,.slice none 0 0],.slice none 0 0,.slice none 0 0],[]⟩ 8 k_ k_ k_
   (x:=([.agg [.nil,.nil,.nil,.lit (.int .i64 0),.nil],.nil,.nil],[],[])) k_ rfl k_) ?_
 intro W base args ds gs before hval0 hW hcnd hsz;have a0:∀(j:Nat) t v,Tryz.f6.params[j]? =some t->args[j]? =some v->Value.okWide Tryz.prog W .any base t v:=hval0;have c5:DataW.Whole enc Tryz.prog Tryz.f6.params.toList Rows.sealClosesSpec.vars false W args.toList ds gs before:=hW;obtain⟨p,q,a8,hV,rfl,d6,e0⟩:=hW;have hA:DataW.TrodAll enc Tryz.prog W 0 (λ_=>true) true Tryz.f6.params.toList args.toList ds p:=a8;have a1:(DataW.weightsEach Tryz.prog (Tryz.f6.params.toList++Rows.sealClosesSpec.plain.varTypes Tryz.prog) (ds++gs)).all (· <=reachBytes)=true:=hsz;rw[Tryz.params6]at hA a0 a1;obtain⟨v0,d9,d0,e2,p0,q0,a7,rfl,rfl,h0,r0⟩:=trodAll_cons hA;obtain⟨v1,d7,d1,e3,p1,q1,rfl,rfl,rfl,h1,r1⟩:=trodAll_cons r0;obtain⟨v2,e1,d2,d8,p2,q2,rfl,rfl,rfl,h2,r2⟩:=trodAll_cons r1;obtain⟨rfl,rfl,rfl⟩:=trodAll_nil r2;obtain rfl:args=#[v0,v1,v2]:=by cases args;simp_all
 obtain⟨rfl,rfl⟩:=trodVars_none hV;have k0:=h0;have b9:∀x∈p0,x.block<W.heap.size:=by obtain⟨m,hm⟩:=k0;exact DataW.trod_lt m _ _ _ hm
 have z0:∀m∈d0.weights Tryz.prog 71,m<=reachBytes:=λm hm=>by simpa using List.all_eq_true.1 a1 m (DataW.weights_mem_each (j:=0) rfl rfl m hm)
 have d5:Rows.uptoBulk d0<=1048576:=by
  have hc:Rows.uptoBulkAll (([d0,d1,d2]:List (DataW H))++[])<=1048576:=of_decide_eq_true hcnd;simp only[List.append_nil,Rows.uptoBulkAll]at hc;omega
 obtain⟨c4,b2,c9,c0,d4,a3,b5,a9,a6,a2,b1,b6,a4,⟨rfl,c8,b3,c7,b8,c6⟩,b7⟩:=zkw (a0 0 71 v0 rfl rfl) h0 z0;have k1:=h1;have d3:∀x∈p1,x.block<W.heap.size:=by obtain⟨m,hm⟩:=k1;exact DataW.trod_lt m _ _ _ hm
 have z1:∀m∈d1.weights Tryz.prog 54,m<=reachBytes:=λm hm=>by simpa using List.all_eq_true.1 a1 m (DataW.weights_mem_each (j:=1) rfl rfl m hm)
 obtain⟨A1,c1,l1,rfl,c3⟩:=zj2 Tryz.underlying54 Tryz.underlying22 k_ k_ (a0 1 54 v1 rfl rfl) h1 z1;have k2:=h2;have b0:∀x∈p2,x.block<W.heap.size:=by obtain⟨m,hm⟩:=k2;exact DataW.trod_lt m _ _ _ hm
 have z2:∀m∈d2.weights Tryz.prog 54,m<=reachBytes:=λm hm=>by simpa using List.all_eq_true.1 a1 m (DataW.weights_mem_each (j:=2) rfl rfl m hm)
 obtain⟨A2,c2,l2,rfl,b4⟩:=zj2 Tryz.underlying54 Tryz.underlying22 k_ k_ (a0 2 54 v2 rfl rfl) h2 z2;clear a8 hval0;refine(znj c4 b2 c9 c0 d4 a3 b5 a9 a6 a2 b1 b6 a4 A1 c1 l1 A2 c2 l2 W c8 b3 c7 b8 c6 (λx hx=>by have:=b7 x hx;omega) c3 b4).mono λe W' ⟨he,fr⟩=>?_;have a5:=fr.noBelow;subst he;exact⟨_,rfl,_,_,_,[],_,[],c5,trodAll_mk1 (shut_bool Tryz.underlying4 _),(trodAll_cons_mk (Below.trod zii k_ (of_decide_eq_true k_) k0 a5 b9) (trodAll_cons_mk (Below.trod zii k_ (of_decide_eq_true k_) k1 a5 d3) (trodAll_cons_mk (Below.trod zii k_ (of_decide_eq_true k_) k2 a5 b0) trodAll_mk0))),rfl,a5.frame _,λh=>by cases h⟩
theorem zhe:Rows.sealClosesUptoRow.holds Tryz.pinned (Rows.OpenSpec.upto Rows.sealClosesSpec):=
 OpenClaim.holds_of_cond 6 Tryz.f6 rfl rfl rfl rfl rfl rfl rfl ⟨rfl,rfl,rfl,rfl,rfl⟩ rfl rfl rfl rfl rfl zyo Tryz.func6 zp1 zvy zvz
  (λos started H enc _ F=>zfr os started H enc F)
theorem sealCloses_proved:Rows.SealClosesUptoSaid:=zhe
#print axioms sealCloses_proved
end Go.Proofs.YtlejelbefmkakaaGreat

import Derived.Test.YtnieckfelfoopaaGreatTopDeep
import Derived.Test.YtnieckfelfoopaaGreatFrame
open Go.Proofs.Tryz (prog)
namespace Go.Proofs.YtnieckfelfoopaaGreat
open Lib (hid)
set_option maxRecDepth 100000
set_option maxHeartbeats 16000000
namespace topDeep
open Go.ChangeShapes Go.WideShapes Go.ChangeAt Go.RowKit
open Go.ChangeMaps (open_string shut_string)

theorem lifted (os:Os) (started:os.Started) (H:Type) (enc:TypeId×Value->H):
  ReturnsInHanded {} Tryz.checked os 4 .any (Rows.topDeepSpec.pre6 enc prog Tryz.f4 Rows.topDeepRow.domain false) (Rows.topDeepSpec.post enc prog Tryz.f4 false true false false):=by
 refine returnsInHanded_of_change_sized (C:=Tryz.checked) own started az Tryz.func4
  (ChangeSpec.witness6 (enc:=enc) (C:=Tryz.checked) false ⟨#[],#[.slice none 0 0,.int .u8 0],[]⟩ 8 az az az az) ?_
 intro W base args ds gs before aiJ hW _ af7 _;have abT:∀(j:Nat) t v,Tryz.f4.params[j]?=some t->args[j]?=some v->Value.okWide prog W .any base t v:=aiJ;have ja:(DataW.weightsEach prog (Tryz.f4.params.toList++Rows.topDeepSpec.plain.varTypes prog) (ds++gs)).all (·<=reachBytes)=true:=af7;have hW':=hW;obtain⟨p,q,hA0,hV,rfl,hfz,hnd⟩:=hW;have hA:DataW.TrodAll enc prog W 0 (λ_=>true) true Tryz.f4.params.toList args.toList ds p:=hA0;rw[Tryz.params4] at hA abT ja;obtain⟨v0,vs0,d0,ds0,p0,q0,ayK,rfl,rfl,h0,r0⟩:=trodAll_cons hA;obtain⟨v1,vs1,d1,ds1,p1,q1,rfl,rfl,rfl,h1,r1⟩:=trodAll_cons r0;obtain⟨rfl,rfl,rfl⟩:=trodAll_nil r1;obtain rfl:args=#[v0,v1]:=by cases args;simp_all
 obtain⟨rfl,rfl⟩:=trodVars_none hV;have k0:=h0;have lt0:∀x∈p0,x.block<W.heap.size:=by obtain⟨m,hm⟩:=k0;exact DataW.trod_lt m _ _ _ hm
 have TR0:=λ(W':World) (hb:Below W.heap.size W W')=>Below.trod laidOut az (of_decide_eq_true az) k0 hb lt0;clear k0;obtain⟨a0,n0,c0,rfl⟩:=okWide_slice Tryz.underlying23 (abT 0 23 v0 rfl rfl);obtain⟨x0,g0,nc0,cm0⟩:=open_bytes h0 (λelems spare e=>by subst e;exact sized_slice ja (j:=0) (t:=23) (e:=5) rfl rfl Tryz.underlying23);have k1:=h1;have lt1:∀x∈p1,x.block<W.heap.size:=by obtain⟨m,hm⟩:=k1;exact DataW.trod_lt m _ _ _ hm
 have TR1:=λ(W':World) (hb:Below W.heap.size W W')=>Below.trod laidOut az (of_decide_eq_true az) k1 hb lt1;clear k1;obtain⟨a1,rfl,_,_,w1⟩:=open_int Tryz.underlying5 (abT 1 5 v1 rfl rfl) h1;obtain⟨x1,rfl⟩:=aiK w1;clear hA0 aiJ;refine(NI a0 n0 c0 x0 x1 W g0 nc0 cm0).mono λe W' ⟨he,bel⟩=>?_;subst he;exact⟨_,rfl,_,_,_,[],_,[],hW',trodAll_mk1 (shut_bool Tryz.underlying4 _),(trodAll_cons_mk (TR0 _ bel) (trodAll_cons_mk (TR1 _ bel) trodAll_mk0)),rfl,bel.frame _,λh=>by cases h⟩

theorem named:Tryz.pinned.checked.prog.funcNamed Rows.topDeepRow.func=some 4:=az
theorem place:(Rows.topDeepRow.inPlace==Tryz.pinned.checked.prog.inPlace 4)=true:=az
theorem aox:(Rows.topDeepRow.unfollowed==Tryz.pinned.checked.prog.unfollowed 4)=true:=az
theorem aoy:(Rows.topDeepRow.recurses==Tryz.pinned.checked.prog.recurses 4)=true:=az
theorem aoz:(Rows.topDeepRow.named==Tryz.pinned.checked.prog.varsNamed 4)=true:=az
theorem closed:joinedFacts Tryz.pinned.checked.prog 4 Tryz.f4 Rows.topDeepSpec Rows.topDeepRow=true:=by
 unfold joinedFacts;rw[place,aox,aoy,aoz]
 kernel_rfl
theorem over:Rows.topDeepRow.holds Tryz.pinned (OpenSpec.ofChange Rows.topDeepSpec):=
 OpenClaim.holds_of_wide 4 Tryz.f4 rfl rfl rfl rfl rfl rfl rfl ⟨rfl,rfl,rfl,rfl,rfl⟩ rfl rfl rfl rfl rfl named Tryz.func4 closed
  (of_decide_eq_true az) (by unfold Func.isWrapper;rw[if_neg lH];exact⟨rfl,rfl⟩)
  (λos started H enc _=>lifted os started H enc)

theorem proved:Rows.TopDeepSaid:=over
#print axioms proved
end topDeep
end Go.Proofs.YtnieckfelfoopaaGreat

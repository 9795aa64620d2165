import Derived.Test.YtnieckfelfoopaaGreatRoomPtr
import Derived.Carry
import Derived.WideLaws
import Derived.Test.YtnieckfelfoopaaGreatNodRead
open Go.Proofs.Tryz (prog)
namespace Go.Proofs.YtnieckfelfoopaaGreat
open Lib (hid)
set_option maxRecDepth 100000
set_option maxHeartbeats 16000000
section
open Go.RowKit Go.Maps Go.ChangeMaps

theorem Ptr.weaken {L:List (Int×Int)} {a b:Int} {w:World} {M:Nat} (h:Ptr L a w M) (hab:a<=b):Ptr L b w M:=by obtain⟨l,h1,h2,h3,h4⟩:=h;exact⟨l,h1,λp hp=>by obtain⟨x,v,e,hx,h0,h5⟩:=h2 p hp;exact⟨x,v,e,hx,h0,ae⟩,h3,h4⟩
theorem Below.oK {B M:Nat} {a w w':World} (h:Below B a w) (hg:w.grownBy w' (some M)) (hM:B<=M) (hB:B<=a.heap.size:=by exact Nat.le_refl _):Below B a w':=
 h.trans ⟨hg.os,hg.tape,hg.output,hg.size,λi hi=>hg.block i (by have:=h.size;omega) (by simp;omega)⟩
theorem Room.apS (L:List (Int×Int)):Room.nd L<=L.length:=by
 induction L with
 |nil=>exact Nat.le_refl _
 |cons x t ih=>unfold Room.nd;split<;>simp<;>omega
theorem Room.adx (s:Int) (l:List Int) (k:Nat) (h:l.length<=k):Room.nd (Room.kl s l)<=2*k:=by
 have h1:=Room.apS (Room.kl s l);have h2:(Room.kl s l).length<=2*l.length:=by
  clear h h1
  induction l with
  |nil=>simp[Room.kl]
  |cons x t ih=>
   have h3:(Room.keys s x).length<=2:=by unfold Room.keys;split;simp;split<;>simp
   have h4:Room.kl s (x::t)=Room.keys s x++Room.kl s t:=by simp[Room.kl]
   rw[h4,List.length_append,List.length_cons];omega
 omega
theorem kX {B:Nat} (w:World):Below B w w.drew:=⟨rfl,rfl,rfl,Nat.le_refl _,λ_ _=>rfl⟩
theorem Below.wS (w:World) (o:Obj):Below w.heap.size w (w.alloc o):=(Below.refl _ _).alloc (Nat.le_refl _) o
theorem ag7 {s:Int} (h:Ino.dL s):Ino.dV s≠0:=by rcases h with rfl|rfl|rfl|rfl<;>decide
theorem zK (s:Int) (a:Option Addr) (n c:Nat) (xs:List Int) (w:World) (hx:jg jL w w.heap.size a n xs) (hb:∀x∈xs,-9223372036854775808<=x/\x<=9223372036854775807) (hn:n<=4000):
  Calls prog 188 #[.int .i64 s,.slice a n c] w (aji (Room.file s xs) w):=by
 have hl:=hx.len;have HX:=ag hx;have HL:=ag hl;have Ak:=ag hb;by_cases hs:Ino.dL s
 case neg=>
  rw[Room.Sl (.inl hs)];have hp:=ady hs;clear hs hx hl hb
  go_in
  go_wp2_with fail;refine(lY _ _).mono ?_;rintro e w_ ⟨rfl,rfl⟩;rw[hp];go_wp2;go_ret2;exact⟨rfl,Below.refl _ _⟩
 have hp:(Ino.dV s==0)=false:=by rw[beq_eq_false_iff_ne];exact ag7 hs
 have HS:=ag hs;clear hx hl hs hb;obtain⟨r,hr⟩:=bu (Room.file s xs);rw[<-hr];have HR:=ag hr;have HRi:=ag (Su a n c xs w HX.o hn);clear hr;by_cases MM:Room.Inc xs
 case neg=>
  have HF:=ag (HR.o.trans (Room.Sl (s:=s) (.inr MM)));rw[show decide (Room.Inc xs)=false from decide_eq_false MM] at HRi;clear MM
  go_in
  go_wp2_with fail;refine(lY _ _).mono ?_;rintro e w_ ⟨rfl,rfl⟩;generalize Ino.dV s=pp at*;go_wp2_with fail;refine HRi.o.mono ?_;rintro e w1 ⟨rfl,bK⟩;have dw:=ag bK;clear bK;go_wp2;go_ret2;exact⟨by rw[HF.o];rfl,dw.o⟩
 rw[show decide (Room.Inc xs)=true from decide_eq_true MM] at HRi;have Z5:=ag MM;clear MM
 go_in
 go_wp2_with fail;refine(lY _ _).mono ?_;rintro e w_ ⟨rfl,rfl⟩;generalize Ino.dV s=pp at*;go_wp2_with fail;refine HRi.o.mono ?_;rintro e w1 ⟨rfl,bK⟩;have iO:=bK.size;have dw:=ag (bK.alloc iO (.map #[] 0));have uw:=ag (Ptr.made w1);have Yu:=ag iO;clear bK iO;have Qp:=@run_makeMap prog;go_upto_region 4 with fail;clear Qp;generalize w1.alloc (.map #[] 0)=wm at*;obtain⟨M,hM⟩:=bu w1.heap.size;rw[<-hM] at uw Yu⊢;clear hM;have HM:=Yu;clear Yu;go_wp2_with fail
 go_loopw [8,9,10,22] (λ_ _ _ i wr=>∃q:Nat,q<=n/\i= .int .i64 q/\(∀j (h:j<xs.length),j<q->Ino.nJ s xs[j]=0)/\Ptr (Room.kl s (xs.take q)) (2*(q:Int)) wr M/\Below w.heap.size w wr) (λ_ _ _ i _=>n-(intOf i).toNat)
 case atStart=>exact⟨0,ae,rfl,ae,by simpa[Room.kl] using uw.o,dw.o⟩
 case round=>
  obtain⟨q,hq,rfl,zX,hpt,hb⟩:=hrel;have HOk:=ag zX;have V5:=ag hpt;have HB:=ag hb;have ja:=hb.size;clear zX hpt;by_cases hqn:q<n
  ·obtain⟨b,o,hq',rfl,_,hcx⟩:=(HX.o.on hb).atI (k:=q) hqn;have hbx:=Ak.o xs[q] (List.getElem_mem hq');have hTo:=ag (Ij s xs[q] wr hbx.1 hbx.2);have g0:(0:Int)<=(q:Int):=ae;have g1:(q:Int)<(n:Int):=ae;have g2:decide ((q:Int)<(n:Int))=true:=decide_eq_true g1;have OX:=ag (show Room.kl s (xs.take (q+1))=Room.kl s (xs.take q)++Room.keys s xs[q] by rw[List.take_succ_eq_append_getElem hq',Room.ag9]);by_cases he:Ino.nJ s xs[q]=0
   ·have Sv:=ag (show∀j (h:j<xs.length),j<q+1->Ino.nJ s xs[j]=0 from λj h hj=>by
     by_cases e:j=q
     ·subst e;exact he
     ·exact HOk.o j h ae)
    have hA3:=Room.alc he he (Int.le_refl _);have HBB:=ag (show wU (Ino.oL s xs[q]) by have h1:=Ino.qc he;have h2:=(Ino.DD he).1;have h3:=Ino.DD he;unfold wU;omega);have HWV:=ag (show uM s xs[q]= .tuple #[.agg #[.int .i64 (Ino.lD s xs[q]),.int .i64 (Ino.oL s xs[q]),.int .i64 (Ino.uN s xs[q])],.int .i64 0] by unfold uM;rw[he]);have avM:Ino.lD s xs[q]=0\/Ino.lD s xs[q]=1\/Ino.lD s xs[q]=2:=ae;have HKs:=ag (show Room.keys s xs[q]=if Ino.lD s xs[q]=1 then[(1,0)] else if Ino.lD s xs[q]=2 then[(2,-1),(2,Ino.oL s xs[q])] else[] from rfl);rw[HKs.o] at OX;clear he hA3 hb HKs;obtain⟨L,hL⟩:=bu (Room.kl s (xs.take q));rw[<-hL] at V5 OX;clear hL;generalize Ino.lD s xs[q]=A at*;generalize Ino.oL s xs[q]=B at*;generalize Ino.uN s xs[q]=C at*;generalize xs[q]=x at*;rcases avM with rfl|rfl|rfl
    ·skip;have Ia:=ag (show Room.kl s (xs.take (q+1))=L by have h:=OX.o;simpa using h);clear OX;go_wp2_with fail;refine hTo.o.mono ?_;rintro e w2 ⟨rfl,aW⟩;rw[HWV.o];have mr:=aW.size;have Qs:=V5.o.lt;have qw:M<w2.heap.size:=Nat.lt_of_lt_of_le Qs mr;have bn:=aF.new w2 267 #[.int .i64 0,.int .i64 B,.int .i64 C];have dE:=ag (HB.o.ay (aW.ay ((Below.refl _ _).alloc (Nat.le_refl _) (.cells #[.int .i64 0,.int .i64 B,.int .i64 C] 267))));have HP:=ag ((V5.o.on aW).on (Below.wS w2 (.cells #[.int .i64 0,.int .i64 B,.int .i64 C] 267)));obtain⟨n0,n1,n2⟩:=bn.c3;have BN:=ag bn;clear bn aW V5;go_upto_region 10 with fail;generalize w2.alloc (.cells #[.int .i64 0,.int .i64 B,.int .i64 C] 267)=wd at*;generalize w2.heap.size=NB at*;go_wp2;go_roundw
     case rel=>exact⟨q+1,ae,by go_num,Sv.o,by rw[Ia.o];exact HP.o.weaken ae,dE.o⟩
     case measure=>simp[intOf];omega
    ·skip;have Ia:=ag (show Room.kl s (xs.take (q+1))=L++[(1,0)] by have h:=OX.o;simpa using h);clear OX;go_wp2_with fail;refine hTo.o.mono ?_;rintro e w2 ⟨rfl,aW⟩;rw[HWV.o];have mr:=aW.size;have Qs:=V5.o.lt;have qw:M<w2.heap.size:=Nat.lt_of_lt_of_le Qs mr;have bn:=aF.new w2 267 #[.int .i64 1,.int .i64 B,.int .i64 C];have dE:=ag (HB.o.ay (aW.ay ((Below.refl _ _).alloc (Nat.le_refl _) (.cells #[.int .i64 1,.int .i64 B,.int .i64 C] 267))));have HP:=ag ((V5.o.on aW).on (Below.wS w2 (.cells #[.int .i64 1,.int .i64 B,.int .i64 C] 267)));obtain⟨n0,n1,n2⟩:=bn.c3;have BN:=ag bn;clear bn aW V5;go_upto_region 10 with fail;generalize w2.alloc (.cells #[.int .i64 1,.int .i64 B,.int .i64 C] 267)=wd at*;generalize w2.heap.size=NB at*;go_upto_region 12 with fail;obtain⟨v,st,o_,hv0,hv1,KI,CU,Bd,Ae,o2_,eQ,VQ,pR⟩:=Ptr.step (w:=wd.drew) (M:=M) (L:=L) (bd:=2*(q:Int)) HP.o (1,0) (by unfold wU;omega) (by unfold wU;omega) ae;simp only[kV] at KI CU Bd;have hwv:IntKind.i64.wrap (v+1)=v+1:=IntWalk.i64_in _ ⟨ae,ae⟩;refine iT (λ_=>True) trivial (λbJ=>?_);refine fB 0 (.map (some M)) ?_;refine fE 1 (.agg #[.int .i64 1,.int .i64 0,.int .i64 0]) ?_;refine wpAnyH_ready (rs:=[2,4]) az au ?_;refine AllReadyH.cons rfl (λK' hK=>?_) (AllReadyH.cons rfl (λK' hK=>?_) AllReadyH.nil)
     ·refine gX rfl (kY _ _ _ _ rfl KI) ?_;refine hK.out _ _ bJ (λdH=>?_)
      try simp only[aO]
      refine ik 3 (v+1) ?_;refine dm 4 (λK' hK=>?_);refine gX rfl (jd _ _ _ rfl CU) ?_;refine hK.out _ _ (trivial) (λgm=>?_);refine fB 5 st ?_;refine dm 6 (λK' hK=>?_);refine step_skip rfl (gY _ _ _ _ rfl eQ) ?_;refine hK.out _ _ (trivial) (λkD=>?_);refine gB ?_;have pF:=ag VQ;have kL:=ag (Below.oK (Below.oK (dE.o.trans (show Below w.heap.size wd wd.drew from kX wd)) Ae HM.o) pR HM.o);clear VQ Ae pR eQ KI Bd CU bJ dH gm kD;generalize setBlock (setBlock wd.drew M o_) M o2_=wf at*;go_wp2;go_roundw
      case rel=>exact⟨q+1,ae,by go_num,Sv.o,by rw[Ia.o];exact pF.o.weaken ae,kL.o⟩
      case measure=>simp[intOf];omega
     ·refine gX rfl (jd _ _ _ rfl CU) ?_;refine hK.out _ _ (trivial) (λdH=>?_);refine fB 5 st ?_;refine dm 2 (λK' hK=>?_);refine gX rfl (kY _ _ _ _ rfl Bd) ?_;refine hK.out _ _ dH (λgm=>?_)
      try simp only
      refine ik 3 (v+1) ?_;refine dm 6 (λK' hK=>?_);refine step_skip rfl (gY _ _ _ _ rfl eQ) ?_;refine hK.out _ _ (trivial) (λkD=>?_);refine gB ?_;have pF:=ag VQ;have kL:=ag (Below.oK (Below.oK (dE.o.trans (show Below w.heap.size wd wd.drew from kX wd)) Ae HM.o) pR HM.o);clear VQ Ae pR eQ KI Bd CU bJ dH gm kD;generalize setBlock (setBlock wd.drew M o_) M o2_=wf at*;go_wp2;go_roundw
      case rel=>exact⟨q+1,ae,by go_num,Sv.o,by rw[Ia.o];exact pF.o.weaken ae,kL.o⟩
      case measure=>simp[intOf];omega
    ·skip;have Ia:=ag (show Room.kl s (xs.take (q+1))=L++[(2,-1),(2,B)] by have h:=OX.o;simpa using h);clear OX;go_wp2_with fail;refine hTo.o.mono ?_;rintro e w2 ⟨rfl,aW⟩;rw[HWV.o];have mr:=aW.size;have Qs:=V5.o.lt;have qw:M<w2.heap.size:=Nat.lt_of_lt_of_le Qs mr;have bn:=aF.new w2 267 #[.int .i64 2,.int .i64 B,.int .i64 C];have dE:=ag (HB.o.ay (aW.ay ((Below.refl _ _).alloc (Nat.le_refl _) (.cells #[.int .i64 2,.int .i64 B,.int .i64 C] 267))));have HP:=ag ((V5.o.on aW).on (Below.wS w2 (.cells #[.int .i64 2,.int .i64 B,.int .i64 C] 267)));obtain⟨n0,n1,n2⟩:=bn.c3;have BN:=ag bn;clear bn aW V5;go_upto_region 10 with fail;generalize w2.alloc (.cells #[.int .i64 2,.int .i64 B,.int .i64 C] 267)=wd at*;generalize w2.heap.size=NB at*;go_upto_region 14 with fail
     go_cut [] (λwx=>Ptr (L++[(2,-1)]) (2*(q:Int)+1) wx M/\Below w.heap.size w wx/\aF wx NB 267 #[.int .i64 2,.int .i64 B,.int .i64 C])
     case first=>
      obtain⟨v,st,o_,hv0,hv1,KI,CU,Bd,Ae,o2_,eQ,VQ,pR⟩:=Ptr.step (w:=wd.drew) (M:=M) (L:=L) (bd:=2*(q:Int)) HP.o (2,-1) (by unfold wU;omega) (by unfold wU;omega) ae;simp only[kV] at KI CU Bd;have hwv:IntKind.i64.wrap (v+1)=v+1:=IntWalk.i64_in _ ⟨ae,ae⟩;refine iT (λW'=>aF W' NB 267 #[.int .i64 2,.int .i64 B,.int .i64 C]) BN.o (λbJ=>?_);refine fB 0 (.map (some M)) ?_;refine fE 1 (.agg #[.int .i64 2,.int .i64 (-1),.int .i64 0]) ?_;refine wpAnyH_ready (rs:=[2,4]) az au ?_;refine AllReadyH.cons rfl (λK' hK=>?_) (AllReadyH.cons rfl (λK' hK=>?_) AllReadyH.nil)
      ·refine gX rfl (kY _ _ _ _ rfl KI) ?_;refine hK.out _ _ bJ (λdH=>?_)
       try simp only[aO]
       refine ik 3 (v+1) ?_;refine dm 4 (λK' hK=>?_);refine gX rfl (jd _ _ _ rfl CU) ?_;refine hK.out _ _ (dH.grown Ae (by simp;omega)) (λgm=>?_);refine fB 5 st ?_;refine dm 6 (λK' hK=>?_);refine step_skip rfl (gY _ _ _ _ rfl eQ) ?_;refine hK.out _ _ (gm.grown pR (by simp;omega)) (λkD=>?_);refine gB ?_;have Yv:=Below.oK (Below.oK (dE.o.trans (show Below w.heap.size wd wd.drew from kX wd)) Ae HM.o) pR HM.o;clear Ae pR eQ KI Bd CU bJ dH gm;go_wp2_with fail;go_meet;exact⟨VQ,Yv,kD⟩
      ·refine gX rfl (jd _ _ _ rfl CU) ?_;refine hK.out _ _ (bJ.grown Ae (by simp;omega)) (λdH=>?_);refine fB 5 st ?_;refine dm 2 (λK' hK=>?_);refine gX rfl (kY _ _ _ _ rfl Bd) ?_;refine hK.out _ _ dH (λgm=>?_)
       try simp only
       refine ik 3 (v+1) ?_;refine dm 6 (λK' hK=>?_);refine step_skip rfl (gY _ _ _ _ rfl eQ) ?_;refine hK.out _ _ (gm.grown pR (by simp;omega)) (λkD=>?_);refine gB ?_;have Yv:=Below.oK (Below.oK (dE.o.trans (show Below w.heap.size wd wd.drew from kX wd)) Ae HM.o) pR HM.o;clear Ae pR eQ KI Bd CU bJ dH gm;go_wp2_with fail;go_meet;exact⟨VQ,Yv,kD⟩
     case rest=>
      obtain⟨vT,F6,yR⟩:=hcut;have XU:=ag vT;have HBc:=ag F6;have BNc:=ag yR;have m1:=yR.aj (i:=1) rfl;clear vT F6 yR HP dE BN n0 n1 n2;have aDg:=BNc.o.lt;obtain⟨wf,hwf⟩:=bu wc;subst hwf;go_upto_region 15 with fail;obtain⟨v,st,o_,hv0,hv1,KI,CU,Bd,Ae,o2_,eQ,VQ,pR⟩:=Ptr.step (w:=wf.drew) (M:=M) (L:=L++[(2,-1)]) (bd:=2*(q:Int)+1) XU.o (2,B) (by unfold wU;omega) HBB.o ae;simp only[kV] at KI CU Bd;have hwv:IntKind.i64.wrap (v+1)=v+1:=IntWalk.i64_in _ ⟨ae,ae⟩;refine iT (λW'=>aF W' NB 267 #[.int .i64 2,.int .i64 B,.int .i64 C]) BNc.o (λbJ=>?_);refine fB 0 (.map (some M)) ?_;refine dP 1 NB 1 ?_;refine jH 2 B (λ_ aI=>aI.aj (i:=1) rfl) ?_;refine fE 3 (.agg #[.int .i64 2,.int .i64 B,.int .i64 0]) ?_;refine wpAnyH_ready (rs:=[4,6]) az au ?_;refine AllReadyH.cons rfl (λK' hK=>?_) (AllReadyH.cons rfl (λK' hK=>?_) AllReadyH.nil)
      ·refine gX rfl (kY _ _ _ _ rfl KI) ?_;refine hK.out _ _ bJ (λdH=>?_)
       try simp only[aO]
       refine ik 5 (v+1) ?_;refine dm 6 (λK' hK=>?_);refine gX rfl (jd _ _ _ rfl CU) ?_;refine hK.out _ _ (dH.grown Ae (by simp;omega)) (λgm=>?_);refine fB 7 st ?_;refine dm 8 (λK' hK=>?_);refine step_skip rfl (gY _ _ _ _ rfl eQ) ?_;refine hK.out _ _ (gm.grown pR (by simp;omega)) (λkD=>?_);refine gB ?_;have mP:=ag VQ;have pV:=ag (Below.oK (Below.oK (HBc.o.trans (show Below w.heap.size wf wf.drew from kX wf)) Ae HM.o) pR HM.o);clear VQ Ae pR eQ KI Bd CU bJ dH gm kD;generalize setBlock (setBlock wf.drew M o_) M o2_=wg at*;go_wp2;go_roundw
       case rel=>exact⟨q+1,ae,by go_num,Sv.o,by rw[Ia.o];have h9:=mP.o;rw[List.append_assoc] at h9;exact h9.weaken ae,pV.o⟩
       case measure=>simp[intOf];omega
      ·refine gX rfl (jd _ _ _ rfl CU) ?_;refine hK.out _ _ (bJ.grown Ae (by simp;omega)) (λdH=>?_);refine fB 7 st ?_;refine dm 4 (λK' hK=>?_);refine gX rfl (kY _ _ _ _ rfl Bd) ?_;refine hK.out _ _ dH (λgm=>?_)
       try simp only
       refine ik 5 (v+1) ?_;refine dm 8 (λK' hK=>?_);refine step_skip rfl (gY _ _ _ _ rfl eQ) ?_;refine hK.out _ _ (gm.grown pR (by simp;omega)) (λkD=>?_);refine gB ?_;have mP:=ag VQ;have pV:=ag (Below.oK (Below.oK (HBc.o.trans (show Below w.heap.size wf wf.drew from kX wf)) Ae HM.o) pR HM.o);clear VQ Ae pR eQ KI Bd CU bJ dH gm kD;generalize setBlock (setBlock wf.drew M o_) M o2_=wg at*;go_wp2;go_roundw
       case rel=>exact⟨q+1,ae,by go_num,Sv.o,by rw[Ia.o];have h9:=mP.o;rw[List.append_assoc] at h9;exact h9.weaken ae,pV.o⟩
       case measure=>simp[intOf];omega
   ·have HF:=ag (HR.o.trans (Room.adz HS.o Z5.o (List.getElem_mem hq') he));have hw0:Ino.nJ s xs[q]=52:=by
     unfold Ino.nJ at he⊢;rw[if_pos HS.o] at he⊢;by_cases h:xs[q]<0\/Ino.pages s<=xs[q]
     ·rw[if_pos h]
     ·rw[if_neg h] at he;exact absurd rfl he
    have HWV:=ag (show uM s xs[q]= .tuple #[.agg #[.int .i64 0,.int .i64 0,.int .i64 0],.int .i64 52] by simp[uM,Ino.lD,Ino.oL,Ino.uN,hw0]);clear he hw0 hb OX;generalize xs[q]=x at*;go_wp2_with fail;refine hTo.o.mono ?_;rintro e w2 ⟨rfl,aW⟩;rw[HWV.o];have dA:=ag (HB.o.ay (aW.ay ((Below.refl _ _).alloc (Nat.le_refl _) (.cells #[.int .i64 0,.int .i64 0,.int .i64 0] 267))));clear aW;go_wp2;go_ret2;exact⟨by rw[HF.o];rfl,dA.o⟩
  ·obtain rfl:q=n:=ae;have g2:decide ((q:Int)<(q:Int))=false:=decide_eq_false ae;have HF:=ag (HR.o.trans (Room.aha HS.o Z5.o (λy hy=>by obtain⟨i,hi,rfl⟩:=List.getElem_of_mem hy;exact HOk.o i hi (by rw[<-HL.o];exact hi))));obtain⟨es,clock,hes,nC⟩:=V5.o.size;have hnd:es.size<=2*q:=by rw[nC];exact Room.adx s _ _ (by rw[List.length_take];omega)
   have HN:=ag (show q+es.size=Room.Sz s xs by rw[nC];unfold Room.Sz;rw[HL.o,List.take_of_length_le (by rw[HL.o];exact Nat.le_refl _)]);have hln:=λty=>run_len_map (P:=prog) wr 308 ty M es clock (by simp[Program.mapKeyOf,Program.mapElemOf,Tryz.underlying308]) hes;clear hb nC V5;go_wp2;go_ret2;exact⟨by rw[HF.o,<-HN.o];simp,HB.o⟩
end
section
open Go.RowKit

theorem Wx (a:Option Addr) (n c:Nat) (xs:List Int) (f t:Int) (w:World) (hx:jg jL w w.heap.size a n xs) (hn:n<=2000) (hm:Room.more f t<=2000):
  Calls prog 189 #[.slice a n c,.int .i64 f,.int .i64 t] w (alf (Room.row (Room.all xs f t)) w):=by
 have HCl:=ag (OY a n c xs w hx ae);have HL:=ag hx.len;have HM:=ag (show Room.more f t=if 0<=f/\t<=131072 then(t-f).toNat else 0 from rfl);have adA:=ag (show Room.all xs f t=xs++Room.span f (Room.more f t) from rfl);obtain⟨al,pG⟩:=bu (Room.all xs f t);rw[<-pG] at adA⊢;generalize Room.more f t=m at*;have Ha:al.length=n+m:=by rw[adA.o,List.length_append,Room.SA,HL.o]
 have oJ:=ag Ha;clear hx pG Ha
 go_in
 go_wp2_with fail;refine HCl.o.mono ?_;rintro e w1 ⟨⟨v1,rfl,UZ⟩,bK⟩;have Rj:=ag UZ;have dw:=ag bK;have iO:=bK.size;clear UZ bK;by_cases h3:0<=f
 case neg=>
  have h6:decide (0<=f)=false:=decide_eq_false h3;have h7:m=0:=by rw[HM.o,if_neg (λh=>h3 h.1)]
  have HZ:=ag (show al=xs by rw[adA.o,h7];simp[Room.span]);clear h7 h3;have HS:=ag (zL _ al w.heap.size _ (by rw[HZ.o];exact Rj.o) (by rw[oJ.o];omega));have EC:=ag (dw.o);go_wp2_with fail;refine HS.o.mono ?_;rintro e w3 ⟨rfl,OZ,bQ⟩;have dE:=ag (EC.o.trans bQ);have HC:=ag (sO _ (sortL al) w.heap.size w3 OZ (by rw[yf,oJ.o];omega));clear OZ bQ;go_wp2_with fail;refine HC.o.mono ?_;rintro e w4 ⟨v4,rfl,yB,di⟩;have vJ:=ag yB;have kL:=ag (dE.o.trans di);clear yB di;go_wp2;go_ret;exact⟨_,rfl,vJ.o,kL.o⟩
 by_cases h4:t<=131072
 case neg=>
  have h6:decide (t<=131072)=false:=decide_eq_false h4;have h7:m=0:=by rw[HM.o,if_neg (λh=>h4 h.2)]
  have HZ:=ag (show al=xs by rw[adA.o,h7];simp[Room.span]);clear h7 h4;have HS:=ag (zL _ al w.heap.size _ (by rw[HZ.o];exact Rj.o) (by rw[oJ.o];omega));have EC:=ag (dw.o);go_wp2_with fail;refine HS.o.mono ?_;rintro e w3 ⟨rfl,OZ,bQ⟩;have dE:=ag (EC.o.trans bQ);have HC:=ag (sO _ (sortL al) w.heap.size w3 OZ (by rw[yf,oJ.o];omega));clear OZ bQ;go_wp2_with fail;refine HC.o.mono ?_;rintro e w4 ⟨v4,rfl,yB,di⟩;have vJ:=ag yB;have kL:=ag (dE.o.trans di);clear yB di;go_wp2;go_ret;exact⟨_,rfl,vJ.o,kL.o⟩
 have h7:m=(t-f).toNat:=by rw[HM.o,if_pos ⟨h3,h4⟩]
 have MN:=ag h7;clear h7;go_wp2_with fail
 go_loopw [7,8] (λv i wr=>∃k:Nat,k<=m/\i= .int .i64 (f+k)/\Own jL 3 wr w.heap.size v (xs++Room.span f k)/\Below w.heap.size w wr) (λ_ i _=>(f+m-intOf i).toNat)
 case atStart=>exact⟨0,ae,au,by simpa[Room.span] using Rj.o,dw.o⟩
 case round=>
  obtain⟨k,hk,rfl,ho,hb⟩:=hrel;have HO:=ag ho;have HB:=ag hb;have ja:=hb.size;have hlen:(xs++Room.span f k).length=n+k:=by rw[List.length_append,Room.SA,HL.o]
  have DC:=ag hlen;clear ho hb hlen;by_cases aU:k<m
  ·have h2:f+k<t:=by have:=MN.o;omega
   go_wp2_with (at_builtin;refine SB rfl _ _ rfl w.heap.size _ _ rfl HO.o (f+(k:Int)) rfl rfl (by rw[DC.o];omega) ja ?_;intro v2 w2 yS dA)
   go_roundw
   case rel=>exact⟨k+1,ae,by congr 1;omega,by rw[Room.Z7,<-List.append_assoc];exact yS.o,HB.o.trans dA.o⟩
   case measure=>simp[intOf];omega
  ·obtain rfl:k=m:=ae;have h5:¬f+(k:Int)<t:=by have:=MN.o;omega
   have h6:decide (f+(k:Int)<t)=false:=decide_eq_false h5;have HS:=ag (zL _ al w.heap.size _ (by rw[adA.o];exact HO.o) (by rw[oJ.o];omega));have EC:=ag (HB.o);go_wp2_with fail;refine HS.o.mono ?_;rintro e w3 ⟨rfl,OZ,bQ⟩;have dE:=ag (EC.o.trans bQ);have HC:=ag (sO _ (sortL al) w.heap.size w3 OZ (by rw[yf,oJ.o];omega));clear OZ bQ;go_wp2_with fail;refine HC.o.mono ?_;rintro e w4 ⟨v4,rfl,yB,di⟩;have vJ:=ag yB;have kL:=ag (dE.o.trans di);clear yB di;go_wp2;go_ret;exact⟨_,rfl,vJ.o,kL.o⟩
end
section
open Go.RowKit

theorem SC (s:Int) (a:Option Addr) (n c:Nat) (xs:List Int) (f t:Int) (w:World) (hx:jg jL w w.heap.size a n xs) (hb:∀x∈xs,-9223372036854775808<=x/\x<=9223372036854775807) (hn:n<=2000) (hm:Room.more f t<=2000):
  Calls prog 133 #[.int .i64 s,.slice a n c,.int .i64 f,.int .i64 t] w (aji (Room.zi s xs f t) w):=by
 have hl:=hx.len;have HX:=ag hx;have Ak:=ag hb;have HF:=ag (zK s a n c xs w hx hb ae);have bK:=Room.adB s xs;have aW:=Room.adB s (Room.row (Room.all xs f t));have pG:=Room.ahb (xs:=xs) (f:=f) (t:=t);have HAb:=ag (Room.alg (f:=f) (t:=t) hb);have hr:Room.zi s xs f t=if (Room.file s xs).2≠0 then(0,(Room.file s xs).2) else if (Room.file s (Room.row (Room.all xs f t))).2≠0 then(0,(Room.file s (Room.row (Room.all xs f t))).2) else((Room.file s (Room.row (Room.all xs f t))).1-(Room.file s xs).1,0):=rfl
 obtain⟨ys,hy⟩:=bu (Room.row (Room.all xs f t));have HW:=ag (λ(u:World) (hu:jg jL u u.heap.size a n xs)=>Wx a n c xs f t u hu hn hm);rw[<-hy] at hr aW pG HAb HW;obtain⟨⟨x0,x1⟩,hfx⟩:∃r,r=Room.file s xs:=⟨_,rfl⟩
 obtain⟨⟨y0,y1⟩,hfy⟩:∃r,r=Room.file s ys:=⟨_,rfl⟩
 have HFy:=ag hfy;rw[<-hfx,<-hfy] at hr;rw[<-hfx] at bK HF;rw[<-hfy] at aW;simp only at hr bK aW;obtain⟨b0,b1⟩:=bK;obtain⟨b2,b3⟩:=aW;have hyl:ys.length<=4000:=ae;have Qx:x0<=100000:=ae;have hy9:y0<=100000:=ae;clear hx hb hfx hfy hy hl b1 b3 pG;by_cases h1:x1=0
 case neg=>
  rw[if_pos h1] at hr;rw[hr];have g1:(x1 !=0)=true:=by simpa using h1
  clear hr
  go_in
  go_wp2_with fail;refine(HF.o).mono ?_;rintro e w1 ⟨rfl,h_⟩;have dw:=ag h_;clear h_;go_wp2;go_ret2;exact⟨rfl,dw.o⟩
 subst h1;rw[if_neg aB] at hr;by_cases h2:y1=0
 case neg=>
  rw[if_pos h2] at hr;rw[hr];have g1:(y1 !=0)=true:=by simpa using h2
  clear hr
  go_in
  go_wp2_with fail;refine(HF.o).mono ?_;rintro e w1 ⟨rfl,h_⟩;have dw:=ag h_;clear h_;go_wp2_with fail;refine(HW.o _ (HX.o.on dw.o)).mono ?_;rintro e w2 ⟨v2,rfl,ho,aW⟩;obtain⟨a2,c2,rfl,_⟩:=ho.bZ (n:=ys.length) rfl;have dA:=ag (dw.o.ay aW);have Qo:=ag (zK s a2 ys.length c2 ys w2 (ho.arr ae) HAb.o hyl);rw[<-HFy.o] at Qo;clear ho aW;go_wp2_with fail;refine Qo.o.mono ?_;rintro e w3 ⟨rfl,bQ⟩;have dE:=ag (dA.o.ay bQ);clear bQ;go_wp2;go_ret2;exact⟨rfl,dE.o⟩
 subst h2;rw[if_neg aB] at hr;rw[hr];clear hr
 go_in
 go_wp2_with fail;refine(HF.o).mono ?_;rintro e w1 ⟨rfl,h_⟩;have dw:=ag h_;clear h_;go_wp2_with fail;refine(HW.o _ (HX.o.on dw.o)).mono ?_;rintro e w2 ⟨v2,rfl,ho,aW⟩;obtain⟨a2,c2,rfl,_⟩:=ho.bZ (n:=ys.length) rfl;have dA:=ag (dw.o.ay aW);have Qo:=ag (zK s a2 ys.length c2 ys w2 (ho.arr ae) HAb.o hyl);rw[<-HFy.o] at Qo;clear ho aW;go_wp2_with fail;refine Qo.o.mono ?_;rintro e w3 ⟨rfl,bQ⟩;have dE:=ag (dA.o.ay bQ);clear bQ;go_wp2;go_ret2;exact⟨rfl,dE.o⟩
end
section
open Go.RowKit eu aN
variable {NB B P:Nat} {Q:Nat->Prop} {w w':World} {f:Fm} {s:Ps}

theorem SG {x:List UInt8} {j v:Nat} (h:(j,v)∈Pt.pts x) (hx:x.length=64\/x=[]):j<32:=by
 rcases hx with hx|hx
 ·exact(ahc hx h).1
 ·subst hx;have e:Pt.pts ([]:List UInt8)=[]:=if_neg aB;rw[e] at h;cases h
theorem alh {s:Ps} (ho:s.Ok) (io:zJ.Io):∀x∈yl s.g io,x.1<1062:=by
 have hx:∀p,(s.g p).length=64\/s.g p=[]:=λp=>by
  by_cases h:s.There p
  ·exact .inl (ho.sz p h)
  ·exact .inr (ho.no p h)
 have h0:∀p fr,∀x∈ptrs s.g 0 p fr,x.1=fr:=λp fr x h=>by
  unfold ptrs at h;split at h
  ·cases h
  ·rw[List.mem_singleton.1 h]
 have h1:∀p fr,∀x∈ptrs s.g 1 p fr,x.1<fr+32:=λp fr x h=>by
  rw[ptrs] at h;split at h
  ·cases h
  ·rcases List.mem_cons.1 h with rfl|h
   ·show fr<fr+32;omega
   ·obtain⟨⟨j,v⟩,hy,h⟩:=List.mem_flatMap.1 h;have:=SG hy (hx p);rw[h0 _ _ x h];simp only[Nat.zero_ne_one,if_false];omega
 have h2:∀p fr,∀x∈ptrs s.g 2 p fr,x.1<fr+1024:=λp fr x h=>by
  rw[ptrs] at h;split at h
  ·cases h
  ·rcases List.mem_cons.1 h with rfl|h
   ·show fr<fr+1024;omega
   ·obtain⟨⟨j,v⟩,hy,h⟩:=List.mem_flatMap.1 h;have:=SG hy (hx p);have:=h1 _ _ x h;simp only[if_true] at this;omega
 intro x h;unfold yl at h;rcases List.mem_append.1 h with h|h
 ·rcases List.mem_append.1 h with h|h
  ·obtain⟨k,hk,h⟩:=List.mem_flatMap.1 h;have:=List.mem_range.1 hk;rw[h0 _ _ x h];omega
  ·have:=h1 _ _ x h;omega
 ·have:=h2 _ _ x h;omega
theorem adC {s:Ps} (ho:s.Ok) (io:zJ.Io):∀x∈fJ (yl s.g io),-9223372036854775808<=x/\x<=9223372036854775807:=λx h=>by unfold fJ at h;obtain⟨y,hy,rfl⟩:=List.mem_map.1 h;have:=alh ho io y (List.mem_filter.1 hy).1;omega
def bz (fi:Nf) (z:Int) (io:zJ.Io):Nf:={fi with s:=z,io:=io}
structure FD (NB B:Nat) (Q:Nat->Prop) (w1:World) (F P:Nat) (f:Fm) (s:Ps) (fi:Nf) (io:zJ.Io) (W:World):Prop where
 p:bT NB B (Up Q w1 W) W P f s
 n:sJ W F P {fi with io:=io}
 k:Kq (λq=>Q q\/q=F) w1 W
 q:∀q,Q q->q<w1.heap.size
 b:B<=w1.heap.size
theorem FD.call {w1 W W':World} {F:Nat} {fi:Nf} {io:zJ.Io} {s':Ps} (h:FD NB B Q w1 F P f s fi io W) (hF:¬Q F) (hl:F<w1.heap.size) (k:jJ NB B (Up Q w1 W) W W' P f s'):FD NB B Q w1 F P f s' fi io W':=by
 have hs:=h.k.size;have hsk:=k.2.size;refine⟨k.1.more (λq hq=>Yw hs hsk hq) λq hq=>?_,h.n.kq k.2 λhq=>?_,h.k.ay k.2 λq hq=>?_,h.q,h.b⟩
 ·rcases hq with h1|h1
  ·have:=h.q q h1;exact k.1.bnd q (.inl (.inl h1))
  ·have:=h.b;omega
 ·rcases hq with h1|h1
  ·exact hF h1
  ·omega
 ·rcases hq with h1|h1
  ·exact .inl (.inl h1)
  ·exact .inr h1.1
theorem FD.on {w1 W W':World} {F:Nat} {fi:Nf} {io:zJ.Io} (h:FD NB B Q w1 F P f s fi io W) (hF:¬Q F) (hl:F<w1.heap.size) (hb:Below W.heap.size W W'):FD NB B Q w1 F P f s fi io W':=h.call hF hl (h.p.on_ hb)
theorem FD.asked {w1 W W':World} {F:Nat} {fi:Nf} {io:zJ.Io} (h:FD NB B Q w1 F P f s fi io W) (hF:¬Q F) (hl:F<w1.heap.size) (h1:bT NB B (Up Q w1 W) W' P f s) (h2:Kq (Up Q w1 W) W W'):FD NB B Q w1 F P f s fi io W':=h.call hF hl (bT.acU h1 h2 h.p.base)
theorem FD.set {w1 W W':World} {F:Nat} {fi:Nf} {io iR:zJ.Io} {s':Ps} {e:Ending} (h:FD NB B Q w1 F P f s fi io W) (hs:Wy NB B (Up Q w1 W) F P f s' {fi with io:=io} iR W e W'):FD NB B Q w1 F P f s' fi iR W':=by
 obtain⟨_,h1,h2,h3⟩:=hs;have hs:=h.k.size;have hsk:=h3.size;refine⟨h1.more (λq hq=>Yw hs hsk hq) λq hq=>?_,h2,h.k.ay h3 λq hq=>?_,h.q,h.b⟩
 ·rcases hq with h5|h5
  ·exact h1.bnd q (.inl (.inl h5))
  ·have:=h.b;omega
 ·rcases hq with h5|h5
  ·rcases h5 with h6|h6
   ·exact .inl (.inl h6)
   ·exact .inr h6.1
  ·exact .inl (.inr h5)
theorem FD.far {w1 W:World} {F q:Nat} {fi:Nf} {io:zJ.Io} (_:FD NB B Q w1 F P f s fi io W) (hF:¬Q q) (hl:q<w1.heap.size):¬Up Q w1 W q:=λh1=>hF (ji h1 hl)
theorem OV {B:Nat} {W W':World} (h:Below B W W'):Kq (λk=>B<=k) W W':=⟨h.os,h.tape,h.output,h.size,λk _ h1=>h.block k ae⟩
theorem eU (W:World) (g:Nat) (cs:Array Value):Kq (λq=>q=g) W (W.setRow g cs):=⟨rfl,rfl,rfl,au,λk _ h=>setRow_other W g k cs h⟩
theorem FD.got {w1 W W5 W6:World} {F:Nat} {fi:Nf} {io:zJ.Io} (h:FD NB B Q w1 F P f s fi io W) (hF:¬Q F) (hl:F<w1.heap.size) (h1:bT NB B (Up Q w1 W) W5 P f s) (h2:Kq (Up Q w1 W) W W5) (hb:Below W.heap.size W5 W6):FD NB B Q w1 F P f s fi io W6:=
 h.asked hF hl ((h1.kq (T:=λk=>W.heap.size<=k) (OV hb) λq hq h3=>by have:=(h.p.bnd q hq).2;omega)) ⟨hb.os.trans h2.os,hb.tape.trans h2.tape,hb.output.trans h2.output,Nat.le_trans h2.size hb.size,λk hk hn=>(hb.block k ae).trans (h2.block k hk hn)⟩
theorem Z8 {a:Option Addr} {c l bl o:Nat} {f:Nat->Prop} (h:∀bl o,a=some ⟨bl,o,none⟩->f bl) (ha:∃bl o,a=some ⟨bl,o,none⟩) (he:iL a c l=some ⟨bl,o,none⟩):f bl:=by
 obtain⟨b1,o1,rfl⟩:=ha;have h1:=h b1 o1 rfl;unfold iL at he;split at he
 ·injection he with he
  injection he with he
  exact he▸h1
 ·have e2:some (Addr.add ⟨b1,o1,none⟩ l)=some ⟨bl,o,none⟩:=he;rw[Addr.add_mid] at e2;injection e2 with e2
  injection e2 with e2
  exact e2▸h1
theorem DF:(prog.info? 107).map (·.size)=some 11:=az
theorem qm (fi:Nf):(dG fi).all (·.oneCell')=true:=by simp[dG,Value.oneCell']
theorem sJ.cells {F:Nat} {fi:Nf} (h:sJ w F P fi):aF w F 204 (nfA P fi):=by rw[adE h.dl];exact h.blk
theorem Ik {fi:Nf} {off m c fuel:Nat} {b:List UInt8} {mo:Int} {a:Option Addr} (h:bT NB B Q w P f s) (hw:Wf s fi.io) (hx:Bytes w w.heap.size a m b) (hmc:m<=c) (oC:b≠[]) (kF:m<=1024) (ag4:off+m<=67968)
  (SH:Room.zi 64 (fJ (yl s.g fi.io)) ((off/64:Nat):Int) (((off+m+63)/64:Nat):Int)=(mo,0)) (hmo:mo<=(s.np:Int)-(s.us.length:Int)) (zX:adu fuel s fi.io off b) (hqa:∀bl o,a=some ⟨bl,o,none⟩->¬Q bl/\bl<w.heap.size):
  Calls prog 80 #[P,zG fi,.int .i64 off,.slice a m c] w λe w'=>e= .returned (.tuple #[zG (bz fi (max fi.s ((off+m:Nat):Int)) (Qv fuel s fi.io off b).2),.int .i64 0])/\jJ NB B Q w w' P f (Qv fuel s fi.io off b).1:=by
 have HH:=ag h;have HW:=ag hw;have HX:=ag hx;have HOk:=ag zX;have HQa:=ag hqa;have apW:=ag SH;have HMo:=ag hmo;have VT:=ag hw.dl;have HNb:=ag oC;have QP:=hx.len;have HMl:=ag QP;have Ye:1<=m:=by rw[<-QP];exact List.length_pos_iff.2 oC
 unfold zG dG;have g0:¬(off:Int)<0:=ae;have g1:¬(1024:Int)<(m:Int):=ae;have g2:=IntWalk.i64_in (67968-(m:Int)) ⟨ae,ae⟩;have g3:¬67968-(m:Int)<(off:Int):=ae;have g4:((m:Int)==0)=false:=by rw[beq_eq_false_iff_ne];omega
 have g5:=IntWalk.i64_in ((off:Int)+(m:Int)) ⟨ae,ae⟩;have g6:=IntWalk.i64_in (64:Int) ⟨ae,ae⟩;have HMs:=ag (show Ino.most 64=67968 from aB);clear h hw hx zX hqa SH hmo oC QP
 go_in
 have aW:Below w.heap.size w ((w.alloc (.cells #[.int .i64 fi.k,.int .i64 fi.l,.int .i64 fi.s,.int .i64 (nd fi 0),.int .i64 (nd fi 1),.int .i64 (nd fi 2),.int .i64 (nd fi 3),.int .i64 (nd fi 4),.int .i64 (nd fi 5),.int .i64 (fi.io.s:Int),.int .i64 (fi.io.b:Int)] 107)).alloc (.cells #[.int .i64 0,.int .i64 0,.int .i64 0,.int .i64 0,.int .i64 0,.int .i64 0,.int .i64 0,.int .i64 0,.int .i64 0,.int .i64 0,.int .i64 0] 107)):=((Below.refl _ w).alloc (Nat.le_refl _) _).alloc au _;have qp:=(aF.new w 107 #[.int .i64 fi.k,.int .i64 fi.l,.int .i64 fi.s,.int .i64 (nd fi 0),.int .i64 (nd fi 1),.int .i64 (nd fi 2),.int .i64 (nd fi 3),.int .i64 (nd fi 4),.int .i64 (nd fi 5),.int .i64 (fi.io.s:Int),.int .i64 (fi.io.b:Int)]).alloc (.cells #[.int .i64 0,.int .i64 0,.int .i64 0,.int .i64 0,.int .i64 0,.int .i64 0,.int .i64 0,.int .i64 0,.int .i64 0,.int .i64 0,.int .i64 0] 107);have rG:=aF.new (w.alloc (.cells #[.int .i64 fi.k,.int .i64 fi.l,.int .i64 fi.s,.int .i64 (nd fi 0),.int .i64 (nd fi 1),.int .i64 (nd fi 2),.int .i64 (nd fi 3),.int .i64 (nd fi 4),.int .i64 (nd fi 5),.int .i64 (fi.io.s:Int),.int .i64 (fi.io.b:Int)] 107)) 107 #[.int .i64 0,.int .i64 0,.int .i64 0,.int .i64 0,.int .i64 0,.int .i64 0,.int .i64 0,.int .i64 0,.int .i64 0,.int .i64 0,.int .i64 0];have mr:((w.alloc (.cells #[.int .i64 fi.k,.int .i64 fi.l,.int .i64 fi.s,.int .i64 (nd fi 0),.int .i64 (nd fi 1),.int .i64 (nd fi 2),.int .i64 (nd fi 3),.int .i64 (nd fi 4),.int .i64 (nd fi 5),.int .i64 (fi.io.s:Int),.int .i64 (fi.io.b:Int)] 107)).alloc (.cells #[.int .i64 0,.int .i64 0,.int .i64 0,.int .i64 0,.int .i64 0,.int .i64 0,.int .i64 0,.int .i64 0,.int .i64 0,.int .i64 0,.int .i64 0] 107)).heap.size=w.heap.size+2:=au;simp only[World.size_alloc] at rG;have dA:=ag aW;have HZ0:=ag qp;have HZ1:=ag rG;have wJ:=ag mr;clear aW qp rG mr;go_wp2_with fail;generalize (w.alloc (.cells #[.int .i64 fi.k,.int .i64 fi.l,.int .i64 fi.s,.int .i64 (nd fi 0),.int .i64 (nd fi 1),.int .i64 (nd fi 2),.int .i64 (nd fi 3),.int .i64 (nd fi 4),.int .i64 (nd fi 5),.int .i64 (fi.io.s:Int),.int .i64 (fi.io.b:Int)] 107)).alloc (.cells #[.int .i64 0,.int .i64 0,.int .i64 0,.int .i64 0,.int .i64 0,.int .i64 0,.int .i64 0,.int .i64 0,.int .i64 0,.int .i64 0,.int .i64 0] 107)=w2 at*;have pF:=ag (HH.o.on dA.o);refine(dO pF.o).mono ?_;rintro e w_ ⟨rfl,rfl⟩;go_wp2_with fail;refine(zI 64 w2).mono ?_;rintro e w_ ⟨rfl,rfl⟩;rw[HMs.o];go_wp2_with fail;refine(dO pF.o).mono ?_;rintro e w_ ⟨rfl,rfl⟩;go_upto_region 11 with fail;have rD:=ag wJ.o;have Af:=ag (show∀k,w.heap.size<=k->¬Q k from λk hk=>HH.o.aV hk)
 go_cut [12,13] (λv12 v13 wx=>v12= .int .i64 mo/\v13= .int .i64 0/\Hid (bT NB B Q wx P f s/\Kq Q w2 wx))
 case first=>
  have Zx:=ag (Kq.of (T:=Q) (ak w2));have HPd:=ag (pF.o.on (ak w2));have h7:=IntWalk.i64_in ((off:Int)/64) ⟨ae,ae⟩;have L8:=IntWalk.i64_in ((off:Int)+(m:Int)+64) ⟨ae,ae⟩;have h11:=IntWalk.i64_in ((off:Int)+(m:Int)+64-1) ⟨ae,ae⟩;have h13:IntKind.i64.wrap (Int.tdiv ((off:Int)+(m:Int)+64-1) 64)=((off:Int)+(m:Int)+64-1)/64:=by rw[Int.tdiv_eq_ediv_of_nonneg ae];exact IntWalk.i64_in (((off:Int)+(m:Int)+64-1)/64) ⟨ae,ae⟩
  have Gi:=ag (λW (hW:bT NB B Q W P f s)=>wV (fi:=fi) hW HW.o);unfold zG dG at Gi;have HMc:=ag (λ(W:World) (a4:Option Addr) (c4:Nat) (hW:bT NB B Q W P f s) (ho:Own jL 3 W 0 (.slice a4 (fJ (yl s.g fi.io)).length c4) (fJ (yl s.g fi.io)))=>(show Calls prog 133 #[.int .i64 64,.slice a4 (fJ (yl s.g fi.io)).length c4,.int .i64 ((off:Int)/64),.int .i64 (((off:Int)+(m:Int)+64-1)/64)] W (λe w'=>e= .returned (.tuple #[.int .i64 mo,.int .i64 0])/\Below W.heap.size W w') from by have hln:=Nat.le_trans (DI (yl s.g fi.io)) (OA hW.ok fi.io);have h:=SC 64 a4 _ c4 (fJ (yl s.g fi.io)) ((off:Int)/64) (((off:Int)+(m:Int)+64-1)/64) W (ho.arr ae) (adC hW.ok fi.io) hln (by unfold Room.more;split<;>omega);have hm:=apW.o;rw[show(((off/64:Nat)):Int)=(off:Int)/64 by omega,show((((off+m+63)/64:Nat)):Int)=((off:Int)+(m:Int)+64-1)/64 by omega] at hm;rw[hm] at h;exact h));have HS:=ag (λW (hW:Kq Q w2 W)=>(HZ0.o.kq hW (Af.o _ (Nat.le_refl _)):aF W w.heap.size 107 #[.int .i64 fi.k,.int .i64 fi.l,.int .i64 fi.s,.int .i64 (nd fi 0),.int .i64 (nd fi 1),.int .i64 (nd fi 2),.int .i64 (nd fi 3),.int .i64 (nd fi 4),.int .i64 (nd fi 5),.int .i64 (fi.io.s:Int),.int .i64 (fi.io.b:Int)]));refine iT (λW'=>aF W' w.heap.size 107 #[.int .i64 fi.k,.int .i64 fi.l,.int .i64 fi.s,.int .i64 (nd fi 0),.int .i64 (nd fi 1),.int .i64 (nd fi 2),.int .i64 (nd fi 3),.int .i64 (nd fi 4),.int .i64 (nd fi 5),.int .i64 (fi.io.s:Int),.int .i64 (fi.io.b:Int)]) (HS.o _ Zx.o) (λbJ=>?_);generalize w2.drew=W at*;refine dP 0 P 0 ?_;refine dP 2 P 0 ?_;refine jy 3 (.agg #[.int .i64 fi.k,.int .i64 fi.l,.int .i64 fi.s,.int .i64 (nd fi 0),.int .i64 (nd fi 1),.int .i64 (nd fi 2),.int .i64 (nd fi 3),.int .i64 (nd fi 4),.int .i64 (nd fi 5),.int .i64 (fi.io.s:Int),.int .i64 (fi.io.b:Int)]) rfl (λ_ aI=>by have y0:=aI.aj (i:=0) rfl;have y1:=aI.aj (i:=1) rfl;have y2:=aI.aj (i:=2) rfl;have y3:=aI.aj (i:=3) rfl;have y4:=aI.aj (i:=4) rfl;have y5:=aI.aj (i:=5) rfl;have y6:=aI.aj (i:=6) rfl;have y7:=aI.aj (i:=7) rfl;have y8:=aI.aj (i:=8) rfl;have y9:=aI.aj (i:=9) rfl;have zu:=aI.aj (i:=10) rfl;go_simp) ?_;refine eF 5 (off:Int) ?_;refine eF 6 64 ?_;refine ik 7 ((off:Int)/64) ?_;refine eF 8 (((off:Int)+(m:Int))) ?_;refine eF 9 64 ?_;refine ik 10 ((off:Int)+(m:Int)+64) ?_;refine ik 11 ((off:Int)+(m:Int)+64-1) ?_;refine eF 12 64 ?_;refine ik 13 (((off:Int)+(m:Int)+64-1)/64) ?_;refine dm 1 (λK' hK=>?_);go_simp;refine(dO HPd.o).mono ?_;rintro e w_ ⟨rfl,rfl⟩;refine hK.out _ _ bJ (λdH=>?_)
  try simp only[aO]
  refine dm 4 (λK' hK=>?_);go_simp;refine(Gi.o _ HPd.o).mono ?_;rintro e W4 ⟨⟨v,rfl,ho⟩,Yb,oU⟩;obtain⟨a4,c4,rfl,_⟩:=ho.bZ rfl;have vJ:=ag (ho.mono (Nat.zero_le _));have xP:=ag Yb;have mY:=ag (Zx.o.trans oU);clear ho Yb oU;refine hK.out _ _ (HS.o W4 mY.o) (λgm=>?_)
  try simp only[aO]
  refine dm 14 (λK' hK=>?_);go_simp;refine(HMc.o W4 a4 c4 xP.o vJ.o).mono ?_;rintro e w5 ⟨rfl,iP⟩;have HR:=ag (show bT NB B Q w5 P f s/\Kq Q w2 w5 from⟨xP.o.on iP,mY.o.on iP⟩);refine hK.out _ _ (HS.o w5 HR.o.2) (λwK=>?_)
  try simp only[aO]
  clear iP;refine fB 15 (.tuple #[.int .i64 mo,.int .i64 0]) ?_;refine eF 16 mo ?_;refine eF 17 0 ?_;refine eF 18 mo ?_;refine eF 19 0 ?_;refine gB ?_;clear bJ dH gm wK;go_wp2_with fail;go_meet
  case rel=>exact⟨rfl,rfl,HR⟩
 case rest=>
  obtain⟨rfl,rfl,hr⟩:=hcut;have XU:=ag hr.o.1;have HKc:=ag hr.o.2;clear hr;have apY:¬(s.np:Int)-(s.us.length:Int)<mo:=by have:=HMo.o;omega
  go_wp2_with fail;refine(KJ XU.o).mono ?_;rintro e w3 ⟨rfl,bQ⟩;have mP:=ag (XU.o.on bQ);have jU:=ag (HKc.o.on bQ);have O0:=ag (HZ0.o.kq jU.o (Af.o _ (Nat.le_refl _)));have rC:=ag (HZ1.o.kq jU.o (Af.o _ ae));obtain⟨vac,alj⟩:∃v:Int,v=(s.np:Int)-(s.us.length:Int):=⟨_,rfl⟩
  rw[<-alj] at apY;rw[<-alj];obtain⟨y0,y1,y2,y3,y4,y5,y6,y7,y8,y9,zu⟩:=O0.o.c11;clear bQ alj;go_upto_region 15 with fail;obtain⟨w1,jw⟩:=bu (w3.alloc (.cells (nfA P fi) 204));have bK:Below w3.heap.size w3 w1:=by rw[jw];exact(Below.refl _ w3).alloc (Nat.le_refl _) _
  have yK:sJ w1 w3.heap.size P fi:=by rw[jw];exact sJ.made w3 VT.o P
  have iO:w1.heap.size=w3.heap.size+1:=by rw[jw];simp
  have HW1:=ag jw;obtain⟨F,hF⟩:=bu w3.heap.size;rw[<-hF] at yK iO;have hF3:w2.heap.size<=F:=by rw[hF];exact jU.o.size
  have HQb:=ag (λq (h:Q q)=>(HH.o.bnd q h).2);have Be:=ag (show¬Q F from Af.o F (by have:=wJ.o;omega));have Il:=ag (show F<w1.heap.size by omega);have dw:=ag bK;have HI:=ag (show FD NB B Q w1 F P f s fi fi.io w1 from⟨(mP.o.on bK).more (λq h=> .inl h) λq h=>by
   rcases h with h|h
   ·exact(mP.o.on bK).bnd q h
   ·omega,yK,Kq.refl _ _,λq h=>((mP.o.on bK).bnd q h).2,(mP.o.on bK).base⟩)
  obtain⟨R,hR⟩:=bu (Qv fuel s fi.io off b);have HR:=ag hR;have SI:=ag (show Bytes w1 w1.heap.size a m b from((HX.o.kq (Nat.le_refl _) (((Kq.of (T:=Q) dA.o).trans jU.o).on bK) λbl o e=>(HQa.o bl o e).1).mono (by have:=jU.o.size;have:=wJ.o;omega)));rw[<-hF,show w3.alloc (.cells #[.pointer (some ⟨P,0,none⟩),.int .i64 fi.k,.int .i64 fi.l,.int .i64 fi.s,.int .i64 (nd fi 0),.int .i64 (nd fi 1),.int .i64 (nd fi 2),.int .i64 (nd fi 3),.int .i64 (nd fi 4),.int .i64 (nd fi 5),.int .i64 (fi.io.s:Int),.int .i64 (fi.io.b:Int)] 204)=w1 from HW1.o.symm];clear y0 y1 y2 y3 y4 y5 y6 y7 y8 y9 zu bK yK jw hF apY;clear hR;have HE:=ag (show b.length=m from HMl.o)
  go_loopw [2,3,15,16,17,18,19,20] (λv2 v3 _ _ _ _ _ _ wr=>∃(s':Ps) (iR:zJ.Io) (bF:Nat) (b':List UInt8) (MO:Nat) (a':Option Addr) (m' c':Nat),v2= .int .i64 bF/\v3= .slice a' m' c'/\m'<=c'/\Bytes w1 w1.heap.size a' m' b'/\(∀bl o,a'=some ⟨bl,o,none⟩->¬Q bl/\bl<w.heap.size)/\bF+m'=off+m/\adu MO s' iR bF b'/\Qv MO s' iR bF b'=R/\FD NB B Q w1 F P f s' fi iR wr) (λv2 _ _ _ _ _ _ _ _=>100000-(intOf v2).toNat)
  case atStart=>exact⟨s,fi.io,off,b,fuel,a,m,c,rfl,rfl,hmc,SI.o,HQa.o,rfl,HOk.o,HR.o.symm,HI.o⟩
  case round=>
   obtain⟨s',iR,bF,b',MO,a',m',c',rfl,rfl,avP,xN,alk,hom,ahd,hR',hn'⟩:=hrel;have HX':=ag xN;have HQ':=ag alk;have U9:=ag hn';have HR':=ag hR';have ahe:=xN.len;by_cases h0:m'=0
   ·have gl:¬(bF:Int)<(off:Int)+(m:Int):=ae;have fF:b'=[]:=List.eq_nil_of_length_eq_zero ae;have NS:=ag (show R=(s',iR) from by
     rw[<-hR',fF]
     cases MO with
     |zero=>rfl
     |succ k=>exact if_pos rfl)
    have DJ:=U9.o.n.cells;have e1:wr.cell? ⟨F,1,none⟩=some (.int .i64 fi.k):=DJ.aj (i:=1) rfl;have e2:wr.cell? ⟨F,2,none⟩=some (.int .i64 fi.l):=DJ.aj (i:=2) rfl;have e3:wr.cell? ⟨F,3,none⟩=some (.int .i64 fi.s):=DJ.aj (i:=3) rfl;have e4:wr.cell? ⟨F,4,none⟩=some (.int .i64 (nd (bz fi (max fi.s ((off:Int)+(m:Int))) iR) 0)):=DJ.aj (i:=4) rfl;have e5:wr.cell? ⟨F,5,none⟩=some (.int .i64 (nd (bz fi (max fi.s ((off:Int)+(m:Int))) iR) 1)):=DJ.aj (i:=5) rfl;have e6:wr.cell? ⟨F,6,none⟩=some (.int .i64 (nd (bz fi (max fi.s ((off:Int)+(m:Int))) iR) 2)):=DJ.aj (i:=6) rfl;have e7:wr.cell? ⟨F,7,none⟩=some (.int .i64 (nd (bz fi (max fi.s ((off:Int)+(m:Int))) iR) 3)):=DJ.aj (i:=7) rfl;have e8:wr.cell? ⟨F,8,none⟩=some (.int .i64 (nd (bz fi (max fi.s ((off:Int)+(m:Int))) iR) 4)):=DJ.aj (i:=8) rfl;have e9:wr.cell? ⟨F,9,none⟩=some (.int .i64 (nd (bz fi (max fi.s ((off:Int)+(m:Int))) iR) 5)):=DJ.aj (i:=9) rfl;have e10:wr.cell? ⟨F,10,none⟩=some (.int .i64 (iR.s:Int)):=DJ.aj (i:=10) rfl;have e11:wr.cell? ⟨F,11,none⟩=some (.int .i64 (iR.b:Int)):=DJ.aj (i:=11) rfl;have f3:=DJ.frozen 3;have eQ:Kq (λq=>q=F) wr (wr.setCell ⟨F,3,none⟩ (.int .i64 (max fi.s ((off:Int)+(m:Int))))):=Kq.one ⟨F,3,none⟩ _;have hF2:F≠w.heap.size+1:=by have:=wJ.o;omega
    have LJ:aF wr (w.heap.size+1) 107 #[.int .i64 0,.int .i64 0,.int .i64 0,.int .i64 0,.int .i64 0,.int .i64 0,.int .i64 0,.int .i64 0,.int .i64 0,.int .i64 0,.int .i64 0]:=(rC.o.ah dw.o).kq U9.o.k λh=>h.elim (Af.o _ ae) (λe=>hF2 e.symm);have HR9:=ag (LJ.kq eQ λe=>hF2 e.symm);have oP:=ag eQ;have HP9:=ag (U9.o.p.kq eQ λq hq e=>U9.o.far Be.o Il.o (e▸hq));have U7:=ag (((Kq.of (T:=λq=>Q q\/q=F) dA.o).trans (jU.o.mono λq h=> .inl h)).trans (((Kq.of dw.o).trans U9.o.k).trans (eQ.mono λq h=> .inr h)));have Qq:=ag (show w3.heap.size<=w1.heap.size from dw.o.size);clear xN alk hn' hR' ahd ahe fF DJ eQ LJ
    go_wp2_with (refine aC rfl rfl _ _ _ rfl (w.heap.size+1) #[.int .i64 fi.k,.int .i64 fi.l,.int .i64 (max fi.s ((off:Int)+(m:Int))),.int .i64 (nd (bz fi (max fi.s ((off:Int)+(m:Int))) iR) 0),.int .i64 (nd (bz fi (max fi.s ((off:Int)+(m:Int))) iR) 1),.int .i64 (nd (bz fi (max fi.s ((off:Int)+(m:Int))) iR) 2),.int .i64 (nd (bz fi (max fi.s ((off:Int)+(m:Int))) iR) 3),.int .i64 (nd (bz fi (max fi.s ((off:Int)+(m:Int))) iR) 4),.int .i64 (nd (bz fi (max fi.s ((off:Int)+(m:Int))) iR) 5),.int .i64 (iR.s:Int),.int .i64 (iR.b:Int)] rfl rfl 107 #[.int .i64 0,.int .i64 0,.int .i64 0,.int .i64 0,.int .i64 0,.int .i64 0,.int .i64 0,.int .i64 0,.int .i64 0,.int .i64 0,.int .i64 0] HR9.o rfl DF (qm (bz fi (max fi.s ((off:Int)+(m:Int))) iR)) ?_)
    rw[<-HR.o,NS.o];obtain⟨W9,hW9⟩:∃W,W=(wr.setCell ⟨F,3,none⟩ (.int .i64 (max fi.s ((off:Int)+(m:Int))))).setRow (w.heap.size+1) #[.int .i64 fi.k,.int .i64 fi.l,.int .i64 (max fi.s ((off:Int)+(m:Int))),.int .i64 (nd (bz fi (max fi.s ((off:Int)+(m:Int))) iR) 0),.int .i64 (nd (bz fi (max fi.s ((off:Int)+(m:Int))) iR) 1),.int .i64 (nd (bz fi (max fi.s ((off:Int)+(m:Int))) iR) 2),.int .i64 (nd (bz fi (max fi.s ((off:Int)+(m:Int))) iR) 3),.int .i64 (nd (bz fi (max fi.s ((off:Int)+(m:Int))) iR) 4),.int .i64 (nd (bz fi (max fi.s ((off:Int)+(m:Int))) iR) 5),.int .i64 (iR.s:Int),.int .i64 (iR.b:Int)]:=⟨_,rfl⟩
    rw[<-hW9];have adF:aF W9 (w.heap.size+1) 107 #[.int .i64 fi.k,.int .i64 fi.l,.int .i64 (max fi.s ((off:Int)+(m:Int))),.int .i64 (nd (bz fi (max fi.s ((off:Int)+(m:Int))) iR) 0),.int .i64 (nd (bz fi (max fi.s ((off:Int)+(m:Int))) iR) 1),.int .i64 (nd (bz fi (max fi.s ((off:Int)+(m:Int))) iR) 2),.int .i64 (nd (bz fi (max fi.s ((off:Int)+(m:Int))) iR) 3),.int .i64 (nd (bz fi (max fi.s ((off:Int)+(m:Int))) iR) 4),.int .i64 (nd (bz fi (max fi.s ((off:Int)+(m:Int))) iR) 5),.int .i64 (iR.s:Int),.int .i64 (iR.b:Int)]:=by rw[hW9];exact HR9.o.row _
    have NY:=eU (wr.setCell ⟨F,3,none⟩ (.int .i64 (max fi.s ((off:Int)+(m:Int))))) (w.heap.size+1) #[.int .i64 fi.k,.int .i64 fi.l,.int .i64 (max fi.s ((off:Int)+(m:Int))),.int .i64 (nd (bz fi (max fi.s ((off:Int)+(m:Int))) iR) 0),.int .i64 (nd (bz fi (max fi.s ((off:Int)+(m:Int))) iR) 1),.int .i64 (nd (bz fi (max fi.s ((off:Int)+(m:Int))) iR) 2),.int .i64 (nd (bz fi (max fi.s ((off:Int)+(m:Int))) iR) 3),.int .i64 (nd (bz fi (max fi.s ((off:Int)+(m:Int))) iR) 4),.int .i64 (nd (bz fi (max fi.s ((off:Int)+(m:Int))) iR) 5),.int .i64 (iR.s:Int),.int .i64 (iR.b:Int)];rw[<-hW9] at NY;obtain⟨z0,z1,z2,z3,z4,z5,z6,z7,z8,z9,z10⟩:=adF.c11;refine bodyPost_ret (v:= .tuple #[zG (bz fi (max fi.s ((off:Int)+(m:Int))) iR),.int .i64 0]) (by simp[results,Tryz.results80,go_sem,zG,dG,bz,z0,z1,z2,z3,z4,z5,z6,z7,z8,z9,z10]) rfl ⟨rfl,?_⟩;have mr:=wJ.o;refine HH.o.fin (HP9.o.kq NY λq hq e=>?_) (λq hq=>?_) (U7.o.ay NY λq e=> .inr ae) λq hq=>?_
    ·have:=U9.o.q;rcases hq with h1|h1
     ·have:=(HH.o.bnd q h1).2;omega
     ·have:=Qq.o;have:=jU.o.size;omega
    ·rcases hq with h1|h1
     ·exact .inl h1
     ·have:=Qq.o;have:=jU.o.size;exact .inr ae
    ·rcases hq with h1|h1
     ·exact .inl h1
     ·exact .inr ae
   ·have gl:(bF:Int)<(off:Int)+(m:Int):=ae;have fF:b'≠[]:=λe=>h0 (by rw[<-ahe,e];rfl);obtain⟨fu,rfl⟩:∃k,MO=k+1:=by
     cases MO with
     |zero=>exact absurd ahd fF
     |succ k=>exact⟨k,rfl⟩
    obtain⟨CJ,ap1⟩:=ahd.resolve_left fF;have HEn:=ag CJ;have Sv:=ag ap1;have HKp:=ag (ahg (off:=bF) fF);have qY:=ag (show Qv fu (Z4 s' iR bF b').1 (Z4 s' iR bF b').2 (bF+KH bF b') (b'.drop (KH bF b'))=R from by rw[<-hR'];exact(if_neg fF).symm);have ZU:=ag ahe;have q1:=IntWalk.i64_in ((bF:Int)/64) ⟨ae,ae⟩;have q2:=IntWalk.i64_in ((bF:Int)%64) ⟨ae,ae⟩;have q3:Int.tmod (bF:Int) 64=(bF:Int)%64:=Int.tmod_eq_emod_of_nonneg ae;clear xN alk hn' hR' ahd fF CJ ap1 ahe;go_upto_region 16 with fail;refine iT (λ_=>True) trivial (λbJ=>?_);refine eF 0 (bF:Int) ?_;refine eF 1 64 ?_;refine ik 2 ((bF:Int)/64) ?_;refine eF 3 (bF:Int) ?_;refine eF 4 64 ?_;refine ik 5 ((bF:Int)%64) ?_;refine eF 6 ((bF:Int)/64) ?_;refine eF 7 ((bF:Int)%64) ?_;refine gB ?_;clear bJ;have Qy:=ag (U9.o.on Be.o Il.o (ak wr));obtain⟨n,hn⟩:=bu (bF/64);obtain⟨E,hE⟩:=bu (Qw s' iR n);obtain⟨S1,Io1,T⟩:=E;obtain⟨K,hK⟩:=bu (KH bF b');have OT:=HEn.o.th;rw[<-hn,<-hE] at OT;have MK:=ag (show S1.There T from OT);have jw:Z4 s' iR bF b'=(S1.put T (wrX (S1.g T) bF b'),Io1):=by unfold Z4;rw[<-hn,<-hE]
    rw[jw,<-hK] at qY Sv;rw[<-hK] at HKp;rw[<-hn] at HEn;have HE:=ag hE;have Qz:=ag hK;rw[show((bF:Int)/64)=(n:Int) from ae,show((bF:Int)%64)=((bF%64:Nat):Int) from ae];generalize wr.drew=W at*;obtain⟨At,O1⟩:=bu (CS s'.g iR n);have QA:=ag O1;have HAc:=ag (show Calls prog 135 #[F,.int .i64 n] W (qA NB B (Up Q w1 W) P f s' (.int .i64 At) W) from by rw[O1];exact rU Qy.o.p Qy.o.n (Qy.o.far Be.o Il.o) HEn.o.wf HEn.o.hn);clear OT jw hE hK hn q1 q2 q3 O1;go_wp2_with fail;refine HAc.o.mono ?_;rintro e W2 ⟨rfl,iU,fA⟩;have xQ:=ag (Qy.o.asked Be.o Il.o iU fA);clear iU fA;go_upto_if 99 with fail
    go_cut [17] from 86 to 133 (λv17 wx=>v17= .int .i64 T/\Hid (FD NB B Q w1 F P f S1 fi Io1 wx))
    case first=>
     by_cases h0:At=0
     ·have h1:CS s'.g iR n=0:=QA.o.symm.trans h0;obtain⟨aU,hso⟩:=HEn.o.new h1;have HNx:=ag (Ps.ap2 aU);have Yk:=ag hso;have he:(S1,Io1,T)=((FC (s'.add s'.nx) iR n s'.nx).1,(FC (s'.add s'.nx) iR n s'.nx).2,s'.nx):=HE.o.trans (if_pos h1);injection he with e1 he
      injection he with e2 e3
      have HE1:=ag e1;have HE2:=ag e2;rw[<-e3] at HNx Yk HE1 HE2;have gz:((At:Int)==0)=true:=by rw[beq_iff_eq];omega
      clear h1 aU hso e1 e2 e3 h0;go_wp2_with fail;refine(Ip xQ.o.p HNx.o).mono ?_;rintro e W3 ⟨rfl,oq⟩;have qZ:=ag (xQ.o.call Be.o Il.o oq);clear oq;go_wp2_with fail;refine(Bf qZ.o.p qZ.o.n (qZ.o.far Be.o Il.o) Yk.o).mono ?_;rintro e W4 VV;have VW:=ag (qZ.o.set VV);obtain⟨⟨_,rfl⟩,_⟩:=VV;go_wp2_with fail;go_meet
      case rel=>refine⟨rfl,hid ?_⟩;have:=VW.o;rw[<-HE1.o,<-HE2.o] at this;exact this
     ·have h1:¬CS s'.g iR n=0:=λe=>h0 (QA.o.trans e);have he:(S1,Io1,T)=(s',iR,CS s'.g iR n):=HE.o.trans (if_neg h1);injection he with e1 he
      injection he with e2 e3
      rw[<-QA.o] at e3;subst e1 e2 e3;have gz:((T:Int)==0)=false:=by rw[beq_eq_false_iff_ne];omega
      clear h1 h0;go_wp2_with fail;go_meet
      case rel=>exact⟨rfl,xQ⟩
    case rest=>
     obtain⟨rfl,HC⟩:=hcut;generalize wc=W5 at*;have Dt:=ag (HC.o.p.ok.sz T MK.o);go_wp2_with fail;refine(lZ HC.o.p MK.o).mono ?_;rintro e W6 ⟨⟨v,rfl,ho⟩,hp6,lI⟩;obtain⟨a6,c6,rfl,_⟩:=ho.bZ Dt.o;obtain⟨g,rfl,jr,_⟩:=ho.addr (by rw[Dt.o];omega);have ap4:=kU (some ⟨g,0,none⟩) 64 c6 (bF%64) ae;have Eg:=ag ho;have Y6:=ag hp6;have uu:=ag lI;have HY6:=ag (HX'.o.kq (Nat.le_refl _) (HC.o.k.ay lI λq hq=>by
      rcases hq with h1|h1
      ·exact .inl (.inl h1)
      ·exact .inr h1.1) λbl o e=>by
      obtain⟨h1,h2⟩:=HQ'.o bl o e;rintro(h3|h3)
      ·exact h1 h3
      ·have:=wJ.o;omega)
     have HKm:=ag (show K=min (64-bF%64) m' from Qz.o.trans (by unfold KH;rw[ZU.o]));clear ho hp6 lI jr
     go_wp2_with (with_reducible refine KL rfl _ _ rfl W5.heap.size g 64 c6 (bF%64) (S1.g T) rfl Eg.o w1.heap.size a' m' c' b' rfl HY6.o ae ae K HKm.o ?_;intro W7 vK EC)
     have HN7:=ag (HC.o.got Be.o Il.o Y6.o uu.o EC.o);have hx7:=vK.o;rw[Qz.o] at hx7;replace hx7:Own aH 5 W7 W5.heap.size (.slice (some ⟨g,0,none⟩) 64 c6) (wrX (S1.g T) bF b'):=hx7;refine(uK HN7.o.p MK.o (some ⟨g,0,none⟩) c6 (wrX (S1.g T) bF b') (hx7.arr (by rw[ahh Dt.o];decide))).mono ?_;rintro e W8 ⟨rfl,hp8⟩;have HN8:=ag (HN7.o.call Be.o Il.o hp8);have iy:K<=m':=by have:=HKm.o;omega
     have azO:=kU a' m' c' K iy;have HGk:=ag (IntWalk.i64_in ((bF:Int)+(K:Int)) ⟨ae,ae⟩);have gk:=HGk.o;clear hp8 hx7 ap4;go_wp2_with fail;go_roundw
     case rel=>refine⟨_,_,bF+K,b'.drop K,fu,iL a' c' K,m'-K,c'-K,by go_num,au,ae,HX'.o.drop iy avP,λbl o e=>?_,ae,Sv,qY.o,HN8.o⟩;exact Z8 (f:=λbl=>¬Q bl/\bl<w.heap.size) HQ'.o (by obtain⟨b1,o1,h1,_⟩:=HX'.o.2.2 ae;exact⟨b1,o1,h1⟩) e
     case measure=>have h1:=HKp.o.1;have h2:=HGk.o;simp only[intOf];omega
end
end Go.Proofs.YtnieckfelfoopaaGreat

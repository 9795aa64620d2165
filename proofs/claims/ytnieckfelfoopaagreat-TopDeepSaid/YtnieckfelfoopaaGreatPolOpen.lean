import Derived.Test.YtnieckfelfoopaaGreatPolAlloc
import Derived.Deep.DeepCutAuto
open Go.Proofs.Tryz (prog)
namespace Go.Proofs.YtnieckfelfoopaaGreat
open Lib (hid)
set_option maxRecDepth 100000
set_option maxHeartbeats 16000000
open Go.RowKit Go.Maps Go.ChangeMaps eX eu

theorem kW {NB B:Nat} {R:Nat->Prop} {w:World} {f:Fm} (h:dB NB B R w f) (hx:f.tx.length=56):
  Calls prog 118 #[f.F] w λe w'=>(∃a c,e= .returned (.slice a 56 c)/\Own aH 5 w' w.heap.size (.slice a 56 c) f.tx)/\Below w.heap.size w w':=by
 have c4:=h.c4;obtain⟨a,c,hv,hb⟩:∃a c,f.tv= .slice a 56 c/\Bytes w w.heap.size a 56 f.tx:=by
  obtain⟨_,hc,_⟩:=id h;rcases hc.hT with⟨b,ho⟩|⟨⟨a,n,c,hv,hb⟩,_⟩
  ·obtain⟨a,c,hv,_⟩:=ho.bZ hx;rw[hv] at ho;exact⟨a,c,hv,by have:=ho.arr ae;exact this⟩
  ·have:=hb.len;obtain rfl:n=56:=ae;exact⟨a,c,hv,hb⟩
 rw[hv] at c4;have hC:=ag (ig a 56 c f.tx w hb);have HX:=ag hx;clear h hb hx hv
 go_in
 go_wp2_with fail;refine hC.o.mono ?_;rintro e w1 ⟨⟨v,rfl,ho⟩,hb⟩;obtain⟨a',c',hv',_⟩:=ho.bZ HX.o;have HB:=ag hb;subst hv';have HO:=ag ho;clear ho hb;go_wp2;go_ret;exact⟨⟨_,_,rfl,HO.o⟩,HB.o⟩
def Ps.iY (f:Fm) (tb np ino:Nat):Ps:=⟨tb,np,ino,[],λn=>if 1<=n/\n<=tb then CX f [] n else[],λ_=>False⟩
def Cm (w:World) (F:Nat) (s:Ps) (wx:World) (Z:Nat):Prop:=∃U D,aF wx Z 155 (FI F U D s)/\bW yC prog 3 wx U []/\bW tJ prog 3 wx D []/\w.heap.size<=Z/\w.heap.size<=U/\w.heap.size<=D/\Z≠U/\Z≠D/\U≠D/\Below w.heap.size w wx
theorem asA {NB:Nat} {f:Fm} (hc:Fc NB f) (n:Nat):(CX f [] n).length=64:=by
 unfold CX;show(match vw f n with|some y=>y.2|none=>zeros).length=64
 cases hv:vw f n with
 |some y=>
  obtain⟨e,he,h1,_⟩:=Ba hv;simp only;rw[<-h1];exact(hc.fi.ok e (IG he)).len
 |none=>exact dR
theorem Cm.pl {NB B:Nat} {R:Nat->Prop} {w wx:World} {f:Fm} {tb np ino Z:Nat} (h:Cm w f.F (Ps.iY f tb np ino) wx Z) (hf:dB NB B R w f) (hc:Fc NB f) (hb:tb+np+2<(NB-3)*8/\tb+np<8192):jJ NB B R w wx Z f (Ps.iY f tb np ino):=by
 obtain⟨U,D,h1,h2,h3,z1,z2,z3,z4,z5,z6,z7⟩:=h;have hs:=z7.size;have hB:=hf.base;have hZ:=h1.lt;have hU:=h2.lt;have hD:=h3.lt;refine⟨⟨U,D,[],R,⟨h1,h2,h3,hf.on z7,hc,⟨(λn hn=>by cases hn),List.nodup_nil,λn hn=>?_,λn hn=>?_⟩,hb,(λd hd=>by cases hd),(λd hd=>by cases hd),λn hn=>?_,⟨z4,z5,z6⟩,⟨hf.aV z1,hf.aV z2,hf.aV z3⟩,(λd hd=>by cases hd),λn=>⟨λh=>h.elim,λh=>by cases h⟩⟩,λq hq=>?_,λq hq=>?_⟩,Kq.of z7⟩
 ·have hn:1<=n/\n<=tb:=by
   rcases hn with h|h
   ·exact h
   ·cases h
  show(if 1<=n/\n<=tb then CX f [] n else[]).length=64;rw[if_pos hn];exact asA hc n
 ·exact if_neg λh=>hn (.inl h)
 ·have hn:1<=n/\n<=tb:=by
   rcases hn with h|h
   ·exact h
   ·cases h
  exact if_pos hn
 ·rcases hq with e|e|e|e|⟨d,hd,_⟩
  ·exact .inr ⟨ae,ae⟩
  ·exact .inr ⟨ae,ae⟩
  ·exact .inr ⟨ae,ae⟩
  ·exact .inl e
  ·cases hd
 ·rcases hq with e|e
  ·have:=hf.bnd q e;omega
  ·omega
theorem zf {NB B tb np ino:Nat} {R:Nat->Prop} {w:World} {f:Fm} (h:dB NB B R w f) (hc:Fc NB f) (hx:f.tx.length=56) (h1:1<=tb) (hn:1<=np) (hb:tb+np+2<(NB-3)*8/\tb+np<8192):
  Calls prog 114 #[f.F,.agg #[.int .i64 tb,.int .i64 ((tb:Int)+1),.int .i64 np,.int .i64 ino],.slice none 0 0] w λe w'=>∃Z,e= .returned (.tuple #[.pointer (some ⟨Z,0,none⟩),.int .i64 0])/\jJ NB B R w w' Z f (Ps.iY f tb np ino)/\w.heap.size<=Z:=by
 have oC:=hc.fi.nb;have fQ:=(Below.refl w.heap.size w).alloc (Nat.le_refl _) (.cells #[.int .i64 tb,.int .i64 ((tb:Int)+1),.int .i64 np,.int .i64 ino] 93);have H0:=ag h;have HF:=ag ((h.on fQ).on (ak _));have HC:=ag hc;have HI:=ag hc.fi;have HX:=ag hx;have Ak:=ag hb;have HL:=ag (aF.new w 93 #[.int .i64 tb,.int .i64 ((tb:Int)+1),.int .i64 np,.int .i64 ino]);have HB:=ag fQ;obtain⟨CC,hCC⟩:∃CC,CC=((NB:Int)-3)*8-2:=⟨_,rfl⟩
 have g1:¬(tb:Int)<1:=ae;have g2:¬(np:Int)<1:=ae;have g3:=IntWalk.i64_in ((tb:Int)+1) ⟨ae,ae⟩;have g4:¬(8192:Int)<(tb:Int):=ae;have g5:=IntWalk.i64_in (CC-((tb:Int)+1)) ⟨ae,ae⟩;have g6:¬CC-((tb:Int)+1)<(np:Int):=ae;have HCC:=ag hCC;have g64:IntKind.i64.wrap 64=64:=IntWalk.i64_in 64 ⟨ae,ae⟩;clear h hc hx fQ hb hCC oC h1 hn
 go_in
 go_upto_region 3 with fail;generalize w.alloc (.cells #[.int .i64 tb,.int .i64 ((tb:Int)+1),.int .i64 np,.int .i64 ino] 93)=W1 at*;refine iT (λW'=>aF W' w.heap.size 93 #[.int .i64 tb,.int .i64 ((tb:Int)+1),.int .i64 np,.int .i64 ino]) (aF.drew HL.o) (λbJ=>?_);refine aS 0 w.heap.size 0 ?_;refine jH 1 (tb:Int) (λ_ aI=>aI.aj (i:=0) rfl) ?_;refine fE 2 (.bool false) ?_;refine fB 3 (.bool false) ?_;refine aS 4 w.heap.size 2 ?_;refine jH 5 (np:Int) (λ_ aI=>aI.aj (i:=2) rfl) ?_;refine fE 6 (.bool false) ?_;refine fE 7 (.bool false) ?_;refine fB 8 (.bool false) ?_;refine aS 9 w.heap.size 1 ?_;refine jH 10 ((tb:Int)+1) (λ_ aI=>aI.aj (i:=1) rfl) ?_;refine aS 11 w.heap.size 0 ?_;refine jH 12 (tb:Int) (λ_ aI=>aI.aj (i:=0) rfl) ?_;refine ik 13 ((tb:Int)+1) ?_;refine fE 14 (.bool false) ?_;refine fE 15 (.bool false) ?_;refine fB 16 (.bool false) ?_;refine aS 17 w.heap.size 0 ?_;refine jH 18 (tb:Int) (λ_ aI=>aI.aj (i:=0) rfl) ?_;refine fE 19 (.bool false) ?_;refine fE 20 (.bool false) ?_;refine fB 21 (.bool false) ?_;refine aS 22 w.heap.size 2 ?_;refine jH 23 (np:Int) (λ_ aI=>aI.aj (i:=2) rfl) ?_;refine dP 24 f.F 0 ?_;refine aS 26 w.heap.size 1 ?_;refine jH 27 ((tb:Int)+1) (λ_ aI=>aI.aj (i:=1) rfl) ?_;refine dm 25 (λK' hK=>?_);go_simp;refine(jc HF.o HI.o).mono ?_;rintro e w2 ⟨rfl,aW⟩;rw[<-HCC.o];have dA:=ag ((HB.o.ay (ak W1)).ay aW);have Qo:=ag (HF.o.on aW);have Dy:=ag (aF.ah (aF.drew HL.o) aW);refine hK.out _ _ Dy.o (λdH=>?_)
 try simp only[aO]
 clear aW;refine ik 28 (CC-((tb:Int)+1)) ?_;refine fE 29 (.bool false) ?_;refine fE 30 (.bool false) ?_;refine gB ?_;clear bJ dH;go_upto_region 5 with fail
 go_cut [8] (λv8 wx=>∃Z,v8= .pointer (some ⟨Z,0,none⟩)/\Hid (Cm w f.F (Ps.iY f tb np ino) wx Z))
 case first=>
  have dE:=ag (dA.o.ay (ak w2));have HF3:=ag (Qo.o.on (ak w2));have yD:=ag (Dy.o.drew);refine iT (λW'=>aF W' w.heap.size 93 #[.int .i64 tb,.int .i64 ((tb:Int)+1),.int .i64 np,.int .i64 ino]) yD.o (λbJ=>?_);generalize w2.drew=W0 at*;refine dP 0 f.F 0 ?_;refine jy 1 (.agg #[.int .i64 tb,.int .i64 ((tb:Int)+1),.int .i64 np,.int .i64 ino]) rfl (λ_ aI=>by have y0:=aI.aj (i:=0) rfl;have y1:=aI.aj (i:=1) rfl;have y2:=aI.aj (i:=2) rfl;have y3:=aI.aj (i:=3) rfl;go_simp) ?_;refine dP 2 f.F 0 ?_;refine wpAnyH_ready (rs:=[3,6,7]) az au ?_;refine AllReadyH.cons rfl (λK' hK=>?_) (AllReadyH.cons rfl (λK' hK=>?_) (AllReadyH.cons rfl (λK' hK=>?_) (AllReadyH.nil)))
  ·go_simp;refine(kW HF3.o HX.o).mono ?_;rintro e V1 ⟨⟨ax,cx,rfl,_⟩,hb⟩;have FX:=ag (dE.o.ay hb);have Ju:=ag (yD.o.ah hb);clear hb;refine hK.out _ _ Ju.o (λdH=>?_)
   try simp only[aO]
   refine ik 4 56 ?_;refine ik 5 64 ?_;refine wpAnyH_ready (rs:=[6,7]) az au ?_;refine AllReadyH.cons rfl (λK' hK=>?_) (AllReadyH.cons rfl (λK' hK=>?_) (AllReadyH.nil))
   ·go_simp;have hb:=(Below.refl V1.heap.size V1).alloc (Nat.le_refl _) (.map #[] 0);have hm:bW yC prog 3 (V1.alloc (.map #[] 0)) (V1.heap.size) []:=by have h:=bW.made (E:=yC) (P:=prog) (k:=3) V1;rw[show V1.heap.size=V1.heap.size by simp] at h;exact h
    have zW:=ag (FX.o.ay hb);have xA:=ag (Ju.o.ah hb);have Qk:=ag hm;have ank:=ag (show w.heap.size<=V1.heap.size from by have h:=FX.o.size;rw[show V1.heap.size=V1.heap.size by simp] at h;exact h);clear hm;clear hb;refine hK.out _ _ xA.o (λgm=>?_)
    try simp only[aO]
    refine wpAnyH_ready (rs:=[7]) az au ?_;refine AllReadyH.cons rfl (λK' hK=>?_) (AllReadyH.nil)
    ·go_simp;have hb:=(Below.refl (V1.alloc (.map #[] 0)).heap.size (V1.alloc (.map #[] 0))).alloc (Nat.le_refl _) (.map #[] 0);have hm:bW tJ prog 3 ((V1.alloc (.map #[] 0)).alloc (.map #[] 0)) (V1.heap.size+1) []:=by have h:=bW.made (E:=tJ) (P:=prog) (k:=3) (V1.alloc (.map #[] 0));rw[show(V1.alloc (.map #[] 0)).heap.size=V1.heap.size+1 by simp] at h;exact h
     have xB:=ag (zW.o.ay hb);have xC:=ag (xA.o.ah hb);have xE:=ag (Qk.o.on hb);have xG:=ag hm;have anl:=ag (show w.heap.size<=V1.heap.size+1 from by have h:=zW.o.size;rw[show(V1.alloc (.map #[] 0)).heap.size=V1.heap.size+1 by simp] at h;exact h);have XP:=ag (show V1.heap.size≠V1.heap.size+1 from by have h:=Qk.o.lt;rw[show(V1.alloc (.map #[] 0)).heap.size=V1.heap.size+1 by simp] at h;omega);clear hm;clear hb;refine hK.out _ _ xC.o (λkD=>?_)
     try simp only[aO]
     refine fE 8 (.agg #[.pointer (some ⟨f.F,0,none⟩),.int .i64 tb,.int .i64 ((tb:Int)+1),.int .i64 np,.int .i64 ino,.int .i64 64,.map (some (V1.heap.size)),.map (some (V1.heap.size+1))]) ?_;refine dm 9 (λK' hK=>?_);go_simp;have gI:=(Below.refl ((V1.alloc (.map #[] 0)).alloc (.map #[] 0)).heap.size ((V1.alloc (.map #[] 0)).alloc (.map #[] 0))).alloc (Nat.le_refl _) (.cells (FI f.F (V1.heap.size) (V1.heap.size+1) (Ps.iY f tb np ino)) 155);have Fz:=xC.o.ah gI;have mW:Cm w f.F (Ps.iY f tb np ino) (((V1.alloc (.map #[] 0)).alloc (.map #[] 0)).alloc (.cells (FI f.F (V1.heap.size) (V1.heap.size+1) (Ps.iY f tb np ino)) 155)) (V1.heap.size+2):=by have l1:=xE.o.lt;have l2:=xG.o.lt;have l3:=xB.o.size;have l4:=ank.o;have l5:=anl.o;have l6:=XP.o;have DT:=aF.new ((V1.alloc (.map #[] 0)).alloc (.map #[] 0)) 155 (FI f.F (V1.heap.size) (V1.heap.size+1) (Ps.iY f tb np ino));have JM:((V1.alloc (.map #[] 0)).alloc (.map #[] 0)).heap.size=V1.heap.size+2:=au;rw[JM] at DT l3;rw[JM] at l1 l2;exact⟨_,_,DT,xE.o.on gI,xG.o.on gI,ae,ae,ae,ae,ae,ae,xB.o.ay gI⟩
     refine hK.out _ _ Fz (λRJ=>?_)
     try simp only[aO]
     refine dP 10 (V1.heap.size+2) 0 ?_;refine gB ?_;have xH:=ag mW;clear mW Fz gI;go_wp2_with fail;go_meet
     case rel=>exact⟨_,rfl,xH.o⟩
   ·go_simp;have hb:=(Below.refl V1.heap.size V1).alloc (Nat.le_refl _) (.map #[] 0);have hm:bW tJ prog 3 (V1.alloc (.map #[] 0)) (V1.heap.size) []:=by have h:=bW.made (E:=tJ) (P:=prog) (k:=3) V1;rw[show V1.heap.size=V1.heap.size by simp] at h;exact h
    have zW:=ag (FX.o.ay hb);have xA:=ag (Ju.o.ah hb);have Ql:=ag hm;have anm:=ag (show w.heap.size<=V1.heap.size from by have h:=FX.o.size;rw[show V1.heap.size=V1.heap.size by simp] at h;exact h);clear hm;clear hb;refine hK.out _ _ xA.o (λgm=>?_)
    try simp only[aO]
    refine wpAnyH_ready (rs:=[6]) az au ?_;refine AllReadyH.cons rfl (λK' hK=>?_) (AllReadyH.nil)
    ·go_simp;have hb:=(Below.refl (V1.alloc (.map #[] 0)).heap.size (V1.alloc (.map #[] 0))).alloc (Nat.le_refl _) (.map #[] 0);have hm:bW yC prog 3 ((V1.alloc (.map #[] 0)).alloc (.map #[] 0)) (V1.heap.size+1) []:=by have h:=bW.made (E:=yC) (P:=prog) (k:=3) (V1.alloc (.map #[] 0));rw[show(V1.alloc (.map #[] 0)).heap.size=V1.heap.size+1 by simp] at h;exact h
     have xB:=ag (zW.o.ay hb);have xC:=ag (xA.o.ah hb);have xG:=ag (Ql.o.on hb);have xE:=ag hm;have ann:=ag (show w.heap.size<=V1.heap.size+1 from by have h:=zW.o.size;rw[show(V1.alloc (.map #[] 0)).heap.size=V1.heap.size+1 by simp] at h;exact h);have XP:=ag (show V1.heap.size+1≠V1.heap.size from by have h:=Ql.o.lt;rw[show(V1.alloc (.map #[] 0)).heap.size=V1.heap.size+1 by simp] at h;omega);clear hm;clear hb;refine hK.out _ _ xC.o (λkD=>?_)
     try simp only[aO]
     refine fE 8 (.agg #[.pointer (some ⟨f.F,0,none⟩),.int .i64 tb,.int .i64 ((tb:Int)+1),.int .i64 np,.int .i64 ino,.int .i64 64,.map (some (V1.heap.size+1)),.map (some (V1.heap.size))]) ?_;refine dm 9 (λK' hK=>?_);go_simp;have gI:=(Below.refl ((V1.alloc (.map #[] 0)).alloc (.map #[] 0)).heap.size ((V1.alloc (.map #[] 0)).alloc (.map #[] 0))).alloc (Nat.le_refl _) (.cells (FI f.F (V1.heap.size+1) (V1.heap.size) (Ps.iY f tb np ino)) 155);have Fz:=xC.o.ah gI;have mW:Cm w f.F (Ps.iY f tb np ino) (((V1.alloc (.map #[] 0)).alloc (.map #[] 0)).alloc (.cells (FI f.F (V1.heap.size+1) (V1.heap.size) (Ps.iY f tb np ino)) 155)) (V1.heap.size+2):=by have l1:=xE.o.lt;have l2:=xG.o.lt;have l3:=xB.o.size;have l4:=ann.o;have l5:=anm.o;have l6:=XP.o;have DT:=aF.new ((V1.alloc (.map #[] 0)).alloc (.map #[] 0)) 155 (FI f.F (V1.heap.size+1) (V1.heap.size) (Ps.iY f tb np ino));have JM:((V1.alloc (.map #[] 0)).alloc (.map #[] 0)).heap.size=V1.heap.size+2:=au;rw[JM] at DT l3;rw[JM] at l1 l2;exact⟨_,_,DT,xE.o.on gI,xG.o.on gI,ae,ae,ae,ae,ae,ae,xB.o.ay gI⟩
     refine hK.out _ _ Fz (λRJ=>?_)
     try simp only[aO]
     refine dP 10 (V1.heap.size+2) 0 ?_;refine gB ?_;have xH:=ag mW;clear mW Fz gI;go_wp2_with fail;go_meet
     case rel=>exact⟨_,rfl,xH.o⟩
  ·go_simp;have hb:=(Below.refl W0.heap.size W0).alloc (Nat.le_refl _) (.map #[] 0);have hm:bW yC prog 3 (W0.alloc (.map #[] 0)) (W0.heap.size) []:=by have h:=bW.made (E:=yC) (P:=prog) (k:=3) W0;rw[show W0.heap.size=W0.heap.size by simp] at h;exact h
   have FX:=ag (dE.o.ay hb);have afo:=ag (HF3.o.on hb);have Ju:=ag (yD.o.ah hb);have ano:=ag hm;have asB:=ag (show w.heap.size<=W0.heap.size from by have h:=dE.o.size;rw[show W0.heap.size=W0.heap.size by simp] at h;exact h);clear hm;clear hb;refine hK.out _ _ Ju.o (λdH=>?_)
   try simp only[aO]
   refine wpAnyH_ready (rs:=[3,7]) az au ?_;refine AllReadyH.cons rfl (λK' hK=>?_) (AllReadyH.cons rfl (λK' hK=>?_) (AllReadyH.nil))
   ·go_simp;refine(kW afo.o HX.o).mono ?_;rintro e V2 ⟨⟨ax,cx,rfl,_⟩,hb⟩;have zW:=ag (FX.o.ay hb);have xA:=ag (Ju.o.ah hb);have Qk:=ag (ano.o.on hb);clear hb;refine hK.out _ _ xA.o (λgm=>?_)
    try simp only[aO]
    refine ik 4 56 ?_;refine ik 5 64 ?_;refine wpAnyH_ready (rs:=[7]) az au ?_;refine AllReadyH.cons rfl (λK' hK=>?_) (AllReadyH.nil)
    ·go_simp;have hb:=(Below.refl V2.heap.size V2).alloc (Nat.le_refl _) (.map #[] 0);have hm:bW tJ prog 3 (V2.alloc (.map #[] 0)) (V2.heap.size) []:=by have h:=bW.made (E:=tJ) (P:=prog) (k:=3) V2;rw[show V2.heap.size=V2.heap.size by simp] at h;exact h
     have xB:=ag (zW.o.ay hb);have xC:=ag (xA.o.ah hb);have xE:=ag (Qk.o.on hb);have xG:=ag hm;have anl:=ag (show w.heap.size<=V2.heap.size from by have h:=zW.o.size;rw[show V2.heap.size=V2.heap.size by simp] at h;exact h);have XP:=ag (show W0.heap.size≠V2.heap.size from by have h:=Qk.o.lt;rw[show V2.heap.size=V2.heap.size by simp] at h;omega);clear hm;clear hb;refine hK.out _ _ xC.o (λkD=>?_)
     try simp only[aO]
     refine fE 8 (.agg #[.pointer (some ⟨f.F,0,none⟩),.int .i64 tb,.int .i64 ((tb:Int)+1),.int .i64 np,.int .i64 ino,.int .i64 64,.map (some (W0.heap.size)),.map (some (V2.heap.size))]) ?_;refine dm 9 (λK' hK=>?_);go_simp;have gI:=(Below.refl (V2.alloc (.map #[] 0)).heap.size (V2.alloc (.map #[] 0))).alloc (Nat.le_refl _) (.cells (FI f.F (W0.heap.size) (V2.heap.size) (Ps.iY f tb np ino)) 155);have Fz:=xC.o.ah gI;have mW:Cm w f.F (Ps.iY f tb np ino) ((V2.alloc (.map #[] 0)).alloc (.cells (FI f.F (W0.heap.size) (V2.heap.size) (Ps.iY f tb np ino)) 155)) (V2.heap.size+1):=by have l1:=xE.o.lt;have l2:=xG.o.lt;have l3:=xB.o.size;have l4:=asB.o;have l5:=anl.o;have l6:=XP.o;have DT:=aF.new (V2.alloc (.map #[] 0)) 155 (FI f.F (W0.heap.size) (V2.heap.size) (Ps.iY f tb np ino));have JM:(V2.alloc (.map #[] 0)).heap.size=V2.heap.size+1:=au;rw[JM] at DT l3;rw[JM] at l1 l2;exact⟨_,_,DT,xE.o.on gI,xG.o.on gI,ae,ae,ae,ae,ae,ae,xB.o.ay gI⟩
     refine hK.out _ _ Fz (λRJ=>?_)
     try simp only[aO]
     refine dP 10 (V2.heap.size+1) 0 ?_;refine gB ?_;have xH:=ag mW;clear mW Fz gI;go_wp2_with fail;go_meet
     case rel=>exact⟨_,rfl,xH.o⟩
   ·go_simp;have hb:=(Below.refl (W0.alloc (.map #[] 0)).heap.size (W0.alloc (.map #[] 0))).alloc (Nat.le_refl _) (.map #[] 0);have hm:bW tJ prog 3 ((W0.alloc (.map #[] 0)).alloc (.map #[] 0)) (W0.heap.size+1) []:=by have h:=bW.made (E:=tJ) (P:=prog) (k:=3) (W0.alloc (.map #[] 0));rw[show(W0.alloc (.map #[] 0)).heap.size=W0.heap.size+1 by simp] at h;exact h
    have zW:=ag (FX.o.ay hb);have anp:=ag (afo.o.on hb);have xA:=ag (Ju.o.ah hb);have Qk:=ag (ano.o.on hb);have Ql:=ag hm;have anm:=ag (show w.heap.size<=W0.heap.size+1 from by have h:=FX.o.size;rw[show(W0.alloc (.map #[] 0)).heap.size=W0.heap.size+1 by simp] at h;exact h);have anq:=ag (show W0.heap.size≠W0.heap.size+1 from by have h:=ano.o.lt;rw[show(W0.alloc (.map #[] 0)).heap.size=W0.heap.size+1 by simp] at h;omega);clear hm;clear hb;refine hK.out _ _ xA.o (λgm=>?_)
    try simp only[aO]
    refine wpAnyH_ready (rs:=[3]) az au ?_;refine AllReadyH.cons rfl (λK' hK=>?_) (AllReadyH.nil)
    ·go_simp;refine(kW anp.o HX.o).mono ?_;rintro e V3 ⟨⟨ax,cx,rfl,_⟩,hb⟩;have xB:=ag (zW.o.ay hb);have xC:=ag (xA.o.ah hb);have xE:=ag (Qk.o.on hb);have xG:=ag (Ql.o.on hb);clear hb;refine hK.out _ _ xC.o (λkD=>?_)
     try simp only[aO]
     refine ik 4 56 ?_;refine ik 5 64 ?_;refine fE 8 (.agg #[.pointer (some ⟨f.F,0,none⟩),.int .i64 tb,.int .i64 ((tb:Int)+1),.int .i64 np,.int .i64 ino,.int .i64 64,.map (some (W0.heap.size)),.map (some (W0.heap.size+1))]) ?_;refine dm 9 (λK' hK=>?_);go_simp;have gI:=(Below.refl V3.heap.size V3).alloc (Nat.le_refl _) (.cells (FI f.F (W0.heap.size) (W0.heap.size+1) (Ps.iY f tb np ino)) 155);have Fz:=xC.o.ah gI;have mW:Cm w f.F (Ps.iY f tb np ino) (V3.alloc (.cells (FI f.F (W0.heap.size) (W0.heap.size+1) (Ps.iY f tb np ino)) 155)) (V3.heap.size):=by have l1:=xE.o.lt;have l2:=xG.o.lt;have l3:=xB.o.size;have l4:=asB.o;have l5:=anm.o;have l6:=anq.o;have DT:=aF.new V3 155 (FI f.F (W0.heap.size) (W0.heap.size+1) (Ps.iY f tb np ino));have JM:V3.heap.size=V3.heap.size:=au;rw[JM] at DT l3;rw[JM] at l1 l2;exact⟨_,_,DT,xE.o.on gI,xG.o.on gI,ae,ae,ae,ae,ae,ae,xB.o.ay gI⟩
     refine hK.out _ _ Fz (λRJ=>?_)
     try simp only[aO]
     refine dP 10 V3.heap.size 0 ?_;refine gB ?_;have xH:=ag mW;clear mW Fz gI;go_wp2_with fail;go_meet
     case rel=>exact⟨_,rfl,xH.o⟩
  ·go_simp;have hb:=(Below.refl W0.heap.size W0).alloc (Nat.le_refl _) (.map #[] 0);have hm:bW tJ prog 3 (W0.alloc (.map #[] 0)) (W0.heap.size) []:=by have h:=bW.made (E:=tJ) (P:=prog) (k:=3) W0;rw[show W0.heap.size=W0.heap.size by simp] at h;exact h
   have FX:=ag (dE.o.ay hb);have afo:=ag (HF3.o.on hb);have Ju:=ag (yD.o.ah hb);have anr:=ag hm;have asC:=ag (show w.heap.size<=W0.heap.size from by have h:=dE.o.size;rw[show W0.heap.size=W0.heap.size by simp] at h;exact h);clear hm;clear hb;refine hK.out _ _ Ju.o (λdH=>?_)
   try simp only[aO]
   refine wpAnyH_ready (rs:=[3,6]) az au ?_;refine AllReadyH.cons rfl (λK' hK=>?_) (AllReadyH.cons rfl (λK' hK=>?_) (AllReadyH.nil))
   ·go_simp;refine(kW afo.o HX.o).mono ?_;rintro e V2 ⟨⟨ax,cx,rfl,_⟩,hb⟩;have zW:=ag (FX.o.ay hb);have xA:=ag (Ju.o.ah hb);have Ql:=ag (anr.o.on hb);clear hb;refine hK.out _ _ xA.o (λgm=>?_)
    try simp only[aO]
    refine ik 4 56 ?_;refine ik 5 64 ?_;refine wpAnyH_ready (rs:=[6]) az au ?_;refine AllReadyH.cons rfl (λK' hK=>?_) (AllReadyH.nil)
    ·go_simp;have hb:=(Below.refl V2.heap.size V2).alloc (Nat.le_refl _) (.map #[] 0);have hm:bW yC prog 3 (V2.alloc (.map #[] 0)) (V2.heap.size) []:=by have h:=bW.made (E:=yC) (P:=prog) (k:=3) V2;rw[show V2.heap.size=V2.heap.size by simp] at h;exact h
     have xB:=ag (zW.o.ay hb);have xC:=ag (xA.o.ah hb);have xG:=ag (Ql.o.on hb);have xE:=ag hm;have ann:=ag (show w.heap.size<=V2.heap.size from by have h:=zW.o.size;rw[show V2.heap.size=V2.heap.size by simp] at h;exact h);have XP:=ag (show V2.heap.size≠W0.heap.size from by have h:=Ql.o.lt;rw[show V2.heap.size=V2.heap.size by simp] at h;omega);clear hm;clear hb;refine hK.out _ _ xC.o (λkD=>?_)
     try simp only[aO]
     refine fE 8 (.agg #[.pointer (some ⟨f.F,0,none⟩),.int .i64 tb,.int .i64 ((tb:Int)+1),.int .i64 np,.int .i64 ino,.int .i64 64,.map (some (V2.heap.size)),.map (some (W0.heap.size))]) ?_;refine dm 9 (λK' hK=>?_);go_simp;have gI:=(Below.refl (V2.alloc (.map #[] 0)).heap.size (V2.alloc (.map #[] 0))).alloc (Nat.le_refl _) (.cells (FI f.F (V2.heap.size) (W0.heap.size) (Ps.iY f tb np ino)) 155);have Fz:=xC.o.ah gI;have mW:Cm w f.F (Ps.iY f tb np ino) ((V2.alloc (.map #[] 0)).alloc (.cells (FI f.F (V2.heap.size) (W0.heap.size) (Ps.iY f tb np ino)) 155)) (V2.heap.size+1):=by have l1:=xE.o.lt;have l2:=xG.o.lt;have l3:=xB.o.size;have l4:=ann.o;have l5:=asC.o;have l6:=XP.o;have DT:=aF.new (V2.alloc (.map #[] 0)) 155 (FI f.F (V2.heap.size) (W0.heap.size) (Ps.iY f tb np ino));have JM:(V2.alloc (.map #[] 0)).heap.size=V2.heap.size+1:=au;rw[JM] at DT l3;rw[JM] at l1 l2;exact⟨_,_,DT,xE.o.on gI,xG.o.on gI,ae,ae,ae,ae,ae,ae,xB.o.ay gI⟩
     refine hK.out _ _ Fz (λRJ=>?_)
     try simp only[aO]
     refine dP 10 (V2.heap.size+1) 0 ?_;refine gB ?_;have xH:=ag mW;clear mW Fz gI;go_wp2_with fail;go_meet
     case rel=>exact⟨_,rfl,xH.o⟩
   ·go_simp;have hb:=(Below.refl (W0.alloc (.map #[] 0)).heap.size (W0.alloc (.map #[] 0))).alloc (Nat.le_refl _) (.map #[] 0);have hm:bW yC prog 3 ((W0.alloc (.map #[] 0)).alloc (.map #[] 0)) (W0.heap.size+1) []:=by have h:=bW.made (E:=yC) (P:=prog) (k:=3) (W0.alloc (.map #[] 0));rw[show(W0.alloc (.map #[] 0)).heap.size=W0.heap.size+1 by simp] at h;exact h
    have zW:=ag (FX.o.ay hb);have anp:=ag (afo.o.on hb);have xA:=ag (Ju.o.ah hb);have Ql:=ag (anr.o.on hb);have Qk:=ag hm;have ank:=ag (show w.heap.size<=W0.heap.size+1 from by have h:=FX.o.size;rw[show(W0.alloc (.map #[] 0)).heap.size=W0.heap.size+1 by simp] at h;exact h);have anq:=ag (show W0.heap.size+1≠W0.heap.size from by have h:=anr.o.lt;rw[show(W0.alloc (.map #[] 0)).heap.size=W0.heap.size+1 by simp] at h;omega);clear hm;clear hb;refine hK.out _ _ xA.o (λgm=>?_)
    try simp only[aO]
    refine wpAnyH_ready (rs:=[3]) az au ?_;refine AllReadyH.cons rfl (λK' hK=>?_) (AllReadyH.nil)
    ·go_simp;refine(kW anp.o HX.o).mono ?_;rintro e V3 ⟨⟨ax,cx,rfl,_⟩,hb⟩;have xB:=ag (zW.o.ay hb);have xC:=ag (xA.o.ah hb);have xE:=ag (Qk.o.on hb);have xG:=ag (Ql.o.on hb);clear hb;refine hK.out _ _ xC.o (λkD=>?_)
     try simp only[aO]
     refine ik 4 56 ?_;refine ik 5 64 ?_;refine fE 8 (.agg #[.pointer (some ⟨f.F,0,none⟩),.int .i64 tb,.int .i64 ((tb:Int)+1),.int .i64 np,.int .i64 ino,.int .i64 64,.map (some (W0.heap.size+1)),.map (some (W0.heap.size))]) ?_;refine dm 9 (λK' hK=>?_);go_simp;have gI:=(Below.refl V3.heap.size V3).alloc (Nat.le_refl _) (.cells (FI f.F (W0.heap.size+1) (W0.heap.size) (Ps.iY f tb np ino)) 155);have Fz:=xC.o.ah gI;have mW:Cm w f.F (Ps.iY f tb np ino) (V3.alloc (.cells (FI f.F (W0.heap.size+1) (W0.heap.size) (Ps.iY f tb np ino)) 155)) (V3.heap.size):=by have l1:=xE.o.lt;have l2:=xG.o.lt;have l3:=xB.o.size;have l4:=ank.o;have l5:=asC.o;have l6:=anq.o;have DT:=aF.new V3 155 (FI f.F (W0.heap.size+1) (W0.heap.size) (Ps.iY f tb np ino));have JM:V3.heap.size=V3.heap.size:=au;rw[JM] at DT l3;rw[JM] at l1 l2;exact⟨_,_,DT,xE.o.on gI,xG.o.on gI,ae,ae,ae,ae,ae,ae,xB.o.ay gI⟩
     refine hK.out _ _ Fz (λRJ=>?_)
     try simp only[aO]
     refine dP 10 V3.heap.size 0 ?_;refine gB ?_;have xH:=ag mW;clear mW Fz gI;go_wp2_with fail;go_meet
     case rel=>exact⟨_,rfl,xH.o⟩
 case rest=>
  obtain⟨Z,rfl,mW⟩:=hcut;have HR:=ag (mW.o.pl H0.o HC.o Ak.o);have HZ:=ag (show w.heap.size<=Z from by obtain⟨U,D,_,_,_,z1,_⟩:=mW.o;exact z1);clear mW;go_wp2_with fail
  go_loopw [58] (λi wr=>i= .int .i64 0/\wr=wc) (λ_ _=>0)
  case atStart=>exact⟨rfl,rfl⟩
  case round=>obtain⟨rfl,rfl⟩:=hrel;go_wp2;go_ret2;exact⟨Z,rfl,HR.o,HZ.o⟩
 end Go.Proofs.YtnieckfelfoopaaGreat

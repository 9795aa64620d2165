import Derived.Test.YtnieckfelfoopaaGreatBlkProg
import Derived.Deep.DeepCutAuto
import Derived.Lib.SliceRun
import Derived.Deep.CutBlock
open Go.Proofs.Tryz (prog)
namespace Go.Proofs.YtnieckfelfoopaaGreat
open Lib (hid)
set_option maxRecDepth 100000
set_option maxHeartbeats 16000000
section
open Go.RowKit

namespace Gc
end Gc
end
section
open Go.RowKit

section
variable {NB B:Nat} {S:Nat->Prop} {w:World} {g:Mg}
theorem EN (h:gu NB B S w g):
  Calls prog 307 #[g.M] w λe w'=>e= .returned (.int .i64 (Gc.count 0 g.l:Int))/\Below w.heap.size w w':=by
 have m1:=h.m1;have HC:=ag (EO 0 _ NB g.cap g.l w h.arr h.nb);clear h
 go_in
 go_wp2_with fail;refine HC.o.mono ?_;rintro e w1 ⟨rfl,hb⟩;have HB:=ag hb;clear hb;go_wp2;go_ret;exact⟨rfl,HB.o⟩
def roomOf (g:Mg):Int:=(Gc.count 0 g.l:Int)*8+(if g.opn= -1 then 0 else 8-((Gc.at_ g.l g.opn.toNat).nx:Int))
theorem TM (h:gu NB B S w g) (ho:g.opn= -1\/(0<=g.opn/\g.opn<NB)) (hx:(Gc.at_ g.l g.opn.toNat).nx<=8):
  Calls prog 304 #[g.M] w λe w'=>e= .returned (.int .i64 (roomOf g))/\Below w.heap.size w w':=by
 have HF:=ag (EN h);have HH:=ag h;have oC:=h.nb;have zy:=Nat.le_trans (Gc.count_le 0 g.l) (Nat.le_of_eq h.len);clear h
 go_in
 go_wp2_with fail;refine HF.o.mono ?_;rintro e w1 ⟨rfl,hb⟩;have HB:=ag hb;have HG1:=ag (HH.o.on hb);clear hb;go_wp2_with fail;refine(pM HG1.o).mono ?_;rintro e w2 ⟨rfl,hb⟩;have dA:=ag (HB.o.ay hb);have vO:=ag (HG1.o.on hb);have m2:=vO.o.m2;have i1:=IntWalk.i64_in ((Gc.count 0 g.l:Int)*8) ⟨ae,ae⟩;have XY:=ag (show roomOf g=(Gc.count 0 g.l:Int)*8+(if g.opn= -1 then 0 else 8-((Gc.at_ g.l g.opn.toNat).nx:Int)) from rfl);clear hb;generalize Gc.count 0 g.l=q at*;rcases ho with ho|⟨h1,h2⟩
 ·rw[ho] at m2;rw[if_pos ho] at XY;clear ho;go_wp2_with fail;go_ret;exact⟨by rw[XY.o,Int.add_zero];rfl,dA.o⟩
 ·obtain⟨k,hk⟩:∃k:Nat,g.opn=(k:Int):=⟨g.opn.toNat,ae⟩
  rw[hk] at m2 h1 h2 hx XY;have hkn:k<NB:=ae;have dh:((k:Int) != -1)=true:=by rw[bne_iff_ne];omega
  rw[if_neg (show¬(k:Int)= -1 by omega),Int.toNat_natCast] at XY;rw[Int.toNat_natCast] at hx;generalize hxx:Gc.at_ g.l k=x at*;have HXX:=ag hxx;have HOk:=ag hk;have i2:=IntWalk.i64_in (8-(x.nx:Int)) ⟨ae,ae⟩;have i3:=IntWalk.i64_in ((q:Int)*8+(8-(x.nx:Int))) ⟨ae,ae⟩;clear hk hxx;go_upto_region 5 with fail;have HD:=ag (vO.o.on (ak w2));have gJ:=ag (show Below w2.heap.size w2 w2.drew from ak w2);refine iT (λW'=>Below w2.heap.size w2 W') gJ.o (λbJ=>?_);refine eF 0 ((q:Int)*8) ?_;refine dP 1 g.M 0 ?_;refine dP 3 g.M 0 ?_;refine aS 4 g.M 0 ?_;refine aS 5 g.M 1 ?_;refine tC 6 (.slice (some ⟨g.ML,0,none⟩) NB g.cap) (λ_ aI=>(vO.o.on aI).m1) ?_;refine dP 7 g.M 0 ?_;refine aS 8 g.M 0 ?_;refine aS 9 g.M 2 ?_;refine jy 10 (.int .i64 k) rfl (λ_ aI=>by have y9:=(vO.o.on aI).m2;rw[HOk.o] at y9;go_simp) ?_;refine aS 11 g.ML (k*4) ?_;refine aS 12 g.ML (k*4+3) ?_;refine jy 13 (.int .i64 (x.nx:Int)) rfl (λ_ aI=>by have y9:=((vO.o.on aI).r3 hkn).1;rw[HXX.o] at y9;go_simp) ?_;refine dm 2 (λK' hK=>?_);go_simp;refine(pM HD.o).mono ?_;rintro e w3 ⟨rfl,hb⟩;have dH:Below w2.heap.size w2 w3:=gJ.o.ay hb;have dE:=ag (dA.o.ay dH);refine hK.out _ _ dH (λgm=>?_)
  try simp only[aO]
  refine ik 14 (8-(x.nx:Int)) ?_;refine ik 15 (((q:Int)*8+(8-(x.nx:Int)))) ?_;refine ik 16 (((q:Int)*8+(8-(x.nx:Int)))) ?_;refine gB ?_;clear bJ dH gm hb;go_wp2_with fail;go_ret;exact⟨by rw[XY.o];rfl,dE.o⟩
end
end
section
open Go.RowKit

section
variable {NB B:Nat} {S:Nat->Prop} {w:World} {g:Mg}
theorem EL (h:gu NB B S w g) (hc:Gc.count 4 g.l=0) {r:Int} (hr:g.res=r) (hb:g.bad=0) (h0:0<=r) (h1:r<=1000):
  Calls prog 149 #[g.M] w λe w'=>e= .returned (.int .i64 r)/\Below w.heap.size w w':=by
 have HH:=ag h;have HR:=ag hr;have Ak:=ag hb;have HC:=ag (λ(W:World) (hW:Below w.heap.size w W)=>EO 4 _ NB g.cap g.l W ((h.on hW).arr) h.nb);rw[hc] at HC;have i1:=IntWalk.i64_in r ⟨ae,ae⟩;clear h hr hb hc
 go_in
 go_upto_region 3 with fail;have gJ:=ag (show Below w.heap.size w w.drew from ak w);refine iT (λW'=>Below w.heap.size w W') gJ.o (λbJ=>?_);generalize w.drew=w1 at*;refine dP 0 g.M 0 ?_;refine aS 1 g.M 0 ?_;refine aS 2 g.M 3 ?_;refine jy 3 (.int .i64 r) rfl (λ_ aI=>by have y9:=(HH.o.on aI).m3;rw[HR.o] at y9;go_simp) ?_;refine dP 4 g.M 0 ?_;refine aS 5 g.M 0 ?_;refine aS 6 g.M 1 ?_;refine tC 7 (.slice (some ⟨g.ML,0,none⟩) NB g.cap) (λ_ aI=>(HH.o.on aI).m1) ?_;refine dP 9 g.M 0 ?_;refine aS 10 g.M 0 ?_;refine aS 11 g.M 4 ?_;refine jy 12 (.int .i64 0) rfl (λ_ aI=>by have y9:=(HH.o.on aI).m4;rw[Ak.o] at y9;go_simp) ?_;refine dm 8 (λK' hK=>?_);go_simp;refine(HC.o w1 bJ).mono ?_;rintro e w2 ⟨rfl,aW⟩;have RJ:=bJ.ay aW;clear aW;refine hK.out _ _ RJ (λdH=>?_)
 try simp only[aO]
 refine jy 13 (.int .i64 0) rfl (λ_ aI=>by(have y9:IntKind.i64.wrap 0=0:=by decide);go_simp) ?_;refine ik 14 r ?_;refine eF 15 r ?_;refine gB ?_;have nZ:=ag dH;clear bJ dH RJ;go_wp2_with fail;go_ret;exact⟨rfl,nZ.o⟩
end
end
section
open Go.RowKit

section
variable {NB B:Nat} {S:Nat->Prop} {w:World} {g:Mg} {F:Nat}
def YL (g:Mg):Int:=if roomOf g=(Gc.count 0 g.l:Int)*8 then 4 else 3
theorem Pz (h:gu NB B S w g) (f0:w.cell? ⟨F,0,none⟩=some (.pointer (some ⟨g.C,0,none⟩))) (f1:w.cell? ⟨F,1,none⟩=some (.pointer (some ⟨g.M,0,none⟩))) (hc:Gc.count 4 g.l=0) (hr:g.res=2) (hb:g.bad=0) (ho:g.opn= -1\/(0<=g.opn/\g.opn<NB)) (hx:(Gc.at_ g.l g.opn.toNat).nx<=8):
  Calls prog 279 #[F] w λe w'=>e= .returned (.bool (decide (YL g<=(Gc.count 0 g.l:Int))))/\Below w.heap.size w w':=by
 have HH:=ag h;have zy:=Nat.le_trans (Gc.count_le 0 g.l) (Nat.le_of_eq h.len);have oC:=h.nb;have HL:=ag (EL h hc hr hb ae ae);have HF0:=ag f0;have HF1:=ag f1;have XY:=ag (λ(W:World) (hW:Below w.heap.size w W)=>TM (h.on hW) ho hx);have ZM:=ag (λ(W:World) (hW:Below w.heap.size w W)=>EN (h.on hW));have HGe:=ag (λ(W:World) (hW:Below w.heap.size w W)=>dU (h.on hW).hc);have HWn:=ag (show YL g=if roomOf g=(Gc.count 0 g.l:Int)*8 then 4 else 3 from rfl);have Ae:=ajB (.int .i64 NB) (.int .i64 8) (.int .i64 64);clear h f0 hc hr hb ho hx;generalize YL g=wn at*;generalize roomOf g=rm at*;generalize Gc.count 0 g.l=q at*;have i1:=IntWalk.i64_in ((q:Int)*8) ⟨ae,ae⟩
 go_in
 go_wp2_with fail;refine HL.o.mono ?_;rintro e w1 ⟨rfl,bK⟩;have dw:=ag bK;clear bK;go_upto_region 2 with fail;have gJ:=ag (show Below w.heap.size w w1.drew from dw.o.ay (ak w1));refine iT (λW'=>Below w.heap.size w W') gJ.o (λbJ=>?_);generalize w1.drew=w2 at*;refine dP 0 F 0 ?_;refine aS 1 F 0 ?_;refine aS 2 F 1 ?_;refine tC 3 (.pointer (some ⟨g.M,0,none⟩)) (λ_ aI=>kH HF1.o aI) ?_;refine dP 5 F 0 ?_;refine aS 6 F 0 ?_;refine aS 7 F 1 ?_;refine tC 8 (.pointer (some ⟨g.M,0,none⟩)) (λ_ aI=>kH HF1.o aI) ?_;refine dP 10 F 0 ?_;refine aS 11 F 0 ?_;refine aS 12 F 0 ?_;refine tC 13 (.pointer (some ⟨g.C,0,none⟩)) (λ_ aI=>kH HF0.o aI) ?_;refine dm 4 (λK' hK=>?_);go_simp;refine(XY.o w2 bJ).mono ?_;rintro e w3 ⟨rfl,bQ⟩;have kD:=bJ.ay bQ;clear bQ;refine hK.out _ _ kD (λrY=>?_)
 try simp only[aO]
 refine dm 9 (λK' hK=>?_);go_simp;refine(ZM.o w3 rY).mono ?_;rintro e w4 ⟨rfl,di⟩;have wK:=rY.ay di;clear di;refine hK.out _ _ wK (λrE=>?_)
 try simp only[aO]
 refine dm 14 (λK' hK=>?_);go_simp;refine(HGe.o w4 rE).mono ?_;rintro e w5 ⟨rfl,iP⟩;have F9:=rE.ay iP;clear iP;refine hK.out _ _ F9 (λVZ=>?_)
 try simp only[aO]
 unfold uf;refine ik 15 8 ?_;refine ik 16 ((q:Int)*8) ?_;refine fE 17 (.bool (rm==(q:Int)*8)) ?_;refine gB ?_;have Yo:=ag VZ;have f5:=kH HF1.o VZ;have aqY:=ag (ZM.o w5 VZ);clear bJ kD rY wK rE F9 VZ f1;by_cases e:rm=(q:Int)*8
 ·rw[show(rm==(q:Int)*8)=true by rw[beq_iff_eq];exact e];have HE:=ag e;clear e;go_wp2_with fail;refine aqY.o.mono ?_;rintro e w6 ⟨rfl,iI⟩;have vP:=ag (Yo.o.ay iI);clear iI;go_wp2_with fail;go_ret;exact⟨by rw[HWn.o,if_pos HE.o];rfl,vP.o⟩
 ·rw[show(rm==(q:Int)*8)=false by rw[beq_eq_false_iff_ne];exact e];have HE:=ag e;clear e;go_wp2_with fail;refine aqY.o.mono ?_;rintro e w6 ⟨rfl,iI⟩;have vP:=ag (Yo.o.ay iI);clear iI;go_wp2_with fail;go_ret;exact⟨by rw[HWn.o,if_neg HE.o];rfl,vP.o⟩
end
end
section
open Go.RowKit

theorem amk:(prog.info? 296).map (λi=>(i.zero,i.size,i.bytes))=some (some (.agg #[.int .i64 0,.int .i64 0,.int .i64 0,.int .i64 0]),4,32):=az
section
variable {NB B:Nat} {S:Nat->Prop} {w:World} {g:Mg}
end
end
section
open Go.RowKit

section
variable {NB B:Nat} {S:Nat->Prop} {w:World} {g:Mg}
def Vb (g:Mg) (a:Nat):Mg:={g with l:=g.l.set a ⟨1,0,(Gc.at_ g.l a).aQ,0⟩,opn:=(a:Int)}
theorem IL (h:gu NB B S w g) {k:Nat} (amq:Gc.best iF Gc.oN g.l NB=some k) (ho:g.opn= -1) (hn:(g.bl k).nx=0) (bK:(g.bl k).bad=false) (aW:(g.bl k).broken=false)
  (a:Option Addr) (c:Nat) (bs:List UInt8) (YJ:Own aH 5 w 0 (.slice a 96 c) bs) (EE:∀q,Value.ownBlock (.slice a 96 c)=some q->¬Sm g S q):
  Calls prog 282 #[g.M,.slice a 96 c] w (Put NB B S (Vb g k) w k 0 bs):=by
 have hk:=(Gc.gZ amq).1;have HR:=ag (BD h);have HG:=ag (dU h.hc);have HH:=ag h;have HX:=ag YJ;have Wj:=ag EE;have HN:=ag hn;have dw:=ag bK;have dA:=ag aW;have QT:=ag amq;have HBg:=ag (show Vb g k={g with l:=g.l.set k ⟨1,0,(Gc.at_ g.l k).aQ,0⟩,opn:=(k:Int)} from rfl);have HO:=ag ho;have m0:=h.m0;have g1:(0:Int)<=(k:Int):=ae;have g2:(k:Int)<(NB:Int):=ae;clear h YJ EE hn bK aW amq ho
 go_in
 go_wp2;go_step3;go_wp2_with fail;refine(HR.o).mono ?_;rintro e w_ ⟨rfl,rfl⟩;go_wp2_with fail;refine HG.o.mono ?_;rintro e w1 ⟨rfl,hb⟩;have hf:=MB (.int .i64 NB) (.int .i64 8) (.int .i64 64);have uZ:=ag (HH.o.on hb);have mF:=ag hb;have n2:=uZ.o.m2;rw[HO.o] at n2;have n0:=uZ.o.m0;have n1:=uZ.o.m1;clear hb m0;unfold uf;go_wp2_with fail;go_step3;go_wp2_with fail
 go_loopw [8,9,10,11] (λv8 v9 v10 _ wr=>v8= .int .i64 0/\v9= .int .i64 0/\v10= .int .i64 40/\wr=w1) (λ_ _ _ _ _=>0)
 case atStart=>exact⟨rfl,rfl,rfl,rfl⟩
 case round=>
  obtain⟨rfl,rfl,rfl,hw⟩:=hrel;subst hw;have F8:=ag (HX.o.on mF.o);go_wp2_with fail;refine(PR uZ.o).mono ?_;unfold YQ;rw[QT.o];rintro e w1 ⟨rfl,h1,iy⟩;have FB:=ag (show gu NB B S w1 (Vb g k) from h1);have OE:=ag ((Kq.of mF.o).trans (iy.mono (T':=Sm g S) λq hq=>by rcases hq with h|h;exact .inl h;exact .inr (.inl h)));have JH:=ag (F8.o.kq iy λq hq hm=>Wj.o q hq (by rcases hm with h|h;exact .inl h;exact .inr (.inl h)));clear h1 iy n2 n0 n1;have n0:=FB.o.m0;have n1:=FB.o.m1;have n2:=FB.o.m2;have r3:=(FB.o.r3 hk).1;unfold Vb at n0 n1 n2 r3;simp only at n0 n1 n2 r3;rw[at_set _ _ (by rw[HH.o.len];exact hk)] at r3;have r3:w1.cell? ⟨g.ML,k*4+3,none⟩=some (.int .i64 0):=r3;go_wp2_with fail;refine(vI FB.o.hc hk (i:=0) ae HN.o dw.o dA.o a c bs JH.o (λq hq hs=>Wj.o q hq (.inr (.inr hs)))).mono ?_;rintro e w2 ⟨rfl,h2,fA⟩;have vO:=ag (FB.o.alZ (ps':=g.ps) h2 fA (λq hq=>hq));have rD:=ag (OE.o.trans (fA.mono (T':=Sm g S) λq hq=> .inr (.inr hq)));have CB:=HH.o.len;have Ti:Gc.at_ (g.l.set k ⟨1,0,(Gc.at_ g.l k).aQ,0⟩) k=⟨1,0,(Gc.at_ g.l k).aQ,0⟩:=at_set _ _ ae;have QA:=ag Ti;have r3:=vO.o.r3 hk;have r1:=vO.o.r1 hk;unfold Vb at r1 r3;simp only at r1 r3;rw[Ti] at r1 r3;obtain⟨r1,f1⟩:=r1;obtain⟨r3,f3⟩:=r3;have r1:w2.cell? ⟨g.ML,k*4+1,none⟩=some (.int .i64 0):=r1;have r3:w2.cell? ⟨g.ML,k*4+3,none⟩=some (.int .i64 0):=r3;generalize hwr:(Gc.at_ g.l k).aQ=wv at*;have HWv:=ag hwr;have q3:=vO.o.Je hk (j:=3) ae (.int .i64 1) ⟨1,0,wv,1⟩ (by unfold Vb;simp only[hwr];rw[Ti];rfl);have q4:=q3.Je hk (j:=1) ae (.int .i64 1) ⟨1,1,wv,1⟩ (by rw[at_set _ _ (by unfold Vb;simp only[List.length_set];omega)];rfl);have Qu:=ag (show w2.heap.size=((w2.setCell ⟨g.ML,k*4+3,none⟩ (.int .i64 1)).setCell ⟨g.ML,k*4+1,none⟩ (.int .i64 1)).heap.size by simp only[World.size_setCell]);have mY:=ag ((rD.o.setCell (p:=⟨g.ML,k*4+3,none⟩) (.inl (.inr (.inl rfl))) (.int .i64 1)).setCell (p:=⟨g.ML,k*4+1,none⟩) (.inl (.inr (.inl rfl))) (.int .i64 1));have HG4:=ag (show gu NB B (Up S w1 w2) ((w2.setCell ⟨g.ML,k*4+3,none⟩ (.int .i64 1)).setCell ⟨g.ML,k*4+1,none⟩ (.int .i64 1)) {g with bl:=upd g.bl k (zO (g.bl k) 0 bs),l:=g.l.set k ⟨1,1,wv,1⟩,opn:=(k:Int)} by unfold Vb at q4;simp only[List.set_set] at q4;exact q4);clear q3 q4 h2 fA Ti hwr n0 n1 n2;go_upto_region 19 with fail;clear r1 f1 r3 f3;generalize ((w2.setCell ⟨g.ML,k*4+3,none⟩ (.int .i64 1)).setCell ⟨g.ML,k*4+1,none⟩ (.int .i64 1))=w4 at*;have Kv:=ag (HG4.o.on (ak w4));have zx:=ag (mY.o.on (ak w4));have n3:=(Kv.o.r3 hk).1;rw[at_set _ _ (show k<g.l.length by omega)] at n3;have n3:w4.drew.cell? ⟨g.ML,k*4+3,none⟩=some (.int .i64 1):=n3;refine iT (λW'=>W'.cell? ⟨g.ML,k*4+3,none⟩=some (.int .i64 1)) n3 (λbJ=>?_);have Le:=ag (show w2.heap.size=w4.drew.heap.size from Qu.o);generalize w4.drew=w5 at*;refine dP 0 g.ML (k*4) ?_;refine aS 1 g.ML (k*4) ?_;refine aS 2 g.ML (k*4+3) ?_;refine ik 3 1 ?_;refine dP 4 g.M 0 ?_;refine dm 5 (λK' hK=>?_);go_simp;refine(pM Kv.o).mono ?_;rintro e w6 ⟨rfl,hb⟩;have HG6:=ag (Kv.o.on hb);have uu:=ag (zx.o.on hb);have ah8:=ag (Nat.le_trans (Nat.le_of_eq Le.o) hb.size);have n6:=kH n3 hb;clear hb;refine hK.out _ _ n6 (λdH=>?_)
  try simp only[aO]
  refine fE 6 (.bool false) ?_;refine gB ?_;clear bJ dH n3 n6;go_wp2_with fail;refine bodyPost_ret (v:= .tuple #[.int .i64 k,.int .i64 0,.int .i64 0]) (by simp[results,Tryz.results282,go_sem]) rfl ⟨rfl,?_,uu.o⟩;have iO:=OE.o.size;have hp:=HG6.o.re HH.o.base HH.o.ltM HH.o.ltL iO ah8.o;unfold Nj Vb;simp only[HWv.o,QA.o,List.set_set];exact hp
end
end
section
open Go.RowKit

namespace o8
structure BkI (opn:Int) (k:Nat) (x:Bk) (p:Pb) (c n:Nat):Prop where
 st:x.st<=3
 lv:x.live=c
 nx:x.nx<=8
 l8:x.live<=8
 op:x.st=1->opn=(k:Int)/\1<=x.nx/\x.nx<8/\p.nx=x.nx/\x.live<=x.nx
 fr:x.st=0->x.live=0/\p.nx=0
 fu:x.st=2->0<x.live
 sl:x.st=3->x.live=0
 we:p.aQ=x.aQ
 wn:x.aQ<=n
 bad:p.bad=false
 brk:p.broken=false
structure Inv (NB:Nat) (g:Mg) (held:List Nat) (n:Nat):Prop where
 len:g.l.length=NB
 bk:∀k,k<NB->BkI g.opn k (Gc.at_ g.l k) (g.bl k) (held.count k) n
 gap:∀i j,i<NB->j<NB->(Gc.at_ g.l i).aQ<=(Gc.at_ g.l j).aQ+4
 opn:g.opn= -1\/∃k:Nat,k<NB/\g.opn=(k:Int)/\(Gc.at_ g.l k).st=1
 even:g.even=false
 hm:∀h∈held,h<NB
 hl:held.length<=n
theorem count_set {l:List Nat} {i v q:Nat} (hi:i<l.length):(l.set i v).count q+(if l[i]=q then 1 else 0)=l.count q+(if v=q then 1 else 0):=by
 induction l generalizing i with
 |nil=>simp at hi
 |cons a l ih=>
  cases i with
  |zero=>simp only[List.set_cons_zero,List.count_cons,List.getElem_cons_zero,beq_iff_eq];omega
  |succ i=>
   have:=ih (i:=i) (by simpa using hi);simp only[List.set_cons_succ,List.count_cons,List.getElem_cons_succ,beq_iff_eq] at*;omega
def uV (l:List Nat) (i:Nat):List Nat:=(l.set i (l.getD (l.length-1) 0)).take (l.length-1)
theorem sU {l:List Nat} {i q:Nat} (hi:i<l.length):(uV l i).count q+(if l[i]=q then 1 else 0)=l.count q:=by
 obtain⟨v,hv⟩:=bu (l.getD (l.length-1) 0);have hv2:l[l.length-1]'ae=v:=by rw[hv,List.getD_eq_getElem?_getD,List.getElem?_eq_getElem ae];rfl
 have hlen:(l.set i v).length=l.length:=List.length_set ..;have h1:=count_set (l:=l) (i:=i) (v:=v) (q:=q) hi;have YR:(l.set i v)[l.length-1]'ae=v:=by
  rw[List.getElem_set]
  split
  ·rfl
  ·exact hv2
 have h2:l.set i v=uV l i++[v]:=by
  unfold uV;rw[<-hv]
  conv=>lhs;rw[<-List.take_append_drop (l.length-1) (l.set i v)]
  congr 1
  rw[List.drop_eq_getElem_cons ae,YR,List.drop_eq_nil_of_le ae]
 rw[h2,List.count_append] at h1;simp only[List.count_cons,List.count_nil,beq_iff_eq] at h1;omega
theorem TN {l:List Nat} {i:Nat}:(uV l i).length=l.length-1:=by unfold uV;rw[List.length_take,List.length_set];omega
theorem TP {l:List Nat} {i:Nat} (hi:i<l.length) {h:Nat} (hh:h∈uV l i):h∈l:=by have h1:=List.count_pos_iff.2 hh;have h2:=sU (q:=h) hi;exact List.count_pos_iff.1 ae
theorem Inv.drop {NB:Nat} {g:Mg} {held:List Nat} {n i:Nat} (h:Inv NB g held n) (hi:i<held.length):Inv NB {g with l:=g.l.set held[i] (fP (Gc.at_ g.l held[i]))} (uV held i) (n+1):=by
 have hk:=h.hm _ (List.getElem_mem hi);have hct:=λq=>sU (q:=q) hi;generalize hke:held[i]=k at*;have hl:=h.len;have hb:=h.bk k hk;have hc:=hct k;rw[if_pos rfl] at hc;have TQ:0<(Gc.at_ g.l k).live:=by rw[hb.lv];omega
 refine⟨by simpa using hl,λq hq=>?_,λa b ha aW=>?_,?_,h.even,λx hx=>h.hm x (TP hi hx),by rw[TN];have:=h.hl;omega⟩
 ·by_cases e:q=k
  ·subst e;show BkI g.opn q (Gc.at_ (g.l.set q _) q) (g.bl q) _ _;rw[at_set _ _ ae];have hz:(fP (Gc.at_ g.l q)).live=(Gc.at_ g.l q).live-1:=rfl;have hw:(fP (Gc.at_ g.l q)).aQ=(Gc.at_ g.l q).aQ:=rfl;have hx:(fP (Gc.at_ g.l q)).nx=(Gc.at_ g.l q).nx:=rfl;have hs:(fP (Gc.at_ g.l q)).st=if (Gc.at_ g.l q).st=2/\(Gc.at_ g.l q).live-1=0 then 3 else(Gc.at_ g.l q).st:=rfl
   obtain⟨b1,b2,b3,b4,b5,b6,b7,b8,b9,b10,b11,b12⟩:=hb;by_cases hd:(Gc.at_ g.l q).st=2/\(Gc.at_ g.l q).live-1=0
   ·rw[if_pos hd] at hs;exact⟨ae,ae,ae,ae,λe=>ae,λe=>ae,λe=>ae,λe=>ae,by rw[hw];exact b9,ae,b11,b12⟩
   ·rw[if_neg hd] at hs;refine⟨ae,ae,ae,ae,λe=>?_,λe=>?_,λe=>?_,λe=>?_,by rw[hw];exact b9,ae,b11,b12⟩
    ·rw[hs] at e;obtain⟨c1,c2,c3,c4,c5⟩:=b5 e;rw[hz,hx];exact⟨c1,c2,c3,c4,ae⟩
    ·rw[hs] at e;have:=b6 e;omega
    ·rw[hs] at e;omega
    ·rw[hs] at e;have:=b8 e;omega
  ·show BkI g.opn q (Gc.at_ (g.l.set k _) q) (g.bl q) _ _;rw[fV _ _ e];have RZ:=h.bk q hq;have:=hct q;rw[if_neg (Ne.symm e)] at this;obtain⟨b1,b2,b3,b4,b5,b6,b7,b8,b9,b10,b11,b12⟩:=RZ;exact⟨b1,ae,b3,b4,b5,b6,b7,b8,b9,ae,b11,b12⟩
 ·have hw:∀q,(Gc.at_ (g.l.set k (fP (Gc.at_ g.l k))) q).aQ=(Gc.at_ g.l q).aQ:=λq=>by
   by_cases e:q=k
   ·subst e;rw[at_set _ _ ae];rfl
   ·rw[fV _ _ e]
  show(Gc.at_ (g.l.set k _) a).aQ<=(Gc.at_ (g.l.set k _) b).aQ+4;rw[hw,hw];exact h.gap a b ha aW
 ·rcases h.opn with ho|⟨q,q1,q2,q3⟩
  ·exact .inl ho
  ·refine .inr ⟨q,q1,q2,?_⟩;show(Gc.at_ (g.l.set k _) q).st=1;by_cases e:q=k
   ·subst e;rw[at_set _ _ ae];show(if (Gc.at_ g.l q).st=2/\(Gc.at_ g.l q).live-1=0 then 3 else(Gc.at_ g.l q).st)=1;rw[if_neg ae];exact q3
   ·rw[fV _ _ e];exact q3
end o8
end
section
open Go.RowKit

namespace o8
theorem Inv.put {NB:Nat} {g g':Mg} {held TR:List Nat} {n k:Nat} {y:Bk} {p:Pb} (h:Inv NB g held n) (hk:k<NB) (hl:g'.l=g.l.set k y) (hb:g'.bl=upd g.bl k p) (he:g'.even=g.even) (hB:BkI g'.opn k y p (TR.count k) (n+1))
  (hc:∀q,q≠k->TR.count q=held.count q) (ho:∀q,q<NB->q≠k->(Gc.at_ g.l q).st=1->g'.opn=(q:Int)) (hg:∀j,j<NB->y.aQ<=(Gc.at_ g.l j).aQ+4/\(Gc.at_ g.l j).aQ<=y.aQ+4)
  (uP:g'.opn= -1\/∃q:Nat,q<NB/\g'.opn=(q:Int)/\(Gc.at_ (g.l.set k y) q).st=1) (hm:∀x∈TR,x<NB) (hh:TR.length<=n+1):Inv NB g' TR (n+1):=by
 have hlen:=h.len;refine⟨by rw[hl,List.length_set];exact hlen,λq hq=>?_,λa b ha aW=>?_,by rw[hl];exact uP,by rw[he];exact h.even,hm,hh⟩
 ·rw[hl,hb];by_cases e:q=k
  ·subst e;rw[at_set _ _ ae,upd_same];exact hB
  ·rw[fV _ _ e,bH _ _ e,hc q e];obtain⟨b1,b2,b3,b4,b5,b6,b7,b8,b9,b10,b11,b12⟩:=h.bk q hq;exact⟨b1,b2,b3,b4,λe1=>⟨ho q hq e e1,(b5 e1).2⟩,b6,b7,b8,b9,ae,b11,b12⟩
 ·rw[hl];by_cases ea:a=k
  ·subst ea;rw[at_set _ _ ae];by_cases eb:b=a
   ·subst eb;rw[at_set _ _ ae];omega
   ·rw[fV _ _ eb];exact(hg b aW).1
  ·rw[fV _ _ ea];by_cases eb:b=k
   ·subst eb;rw[at_set _ _ ae];exact(hg a ha).2
   ·rw[fV _ _ eb];exact h.gap a b ha aW
theorem oO (held:List Nat) (k:Nat):(held++[k]).count k=held.count k+1:=au
theorem mV (held:List Nat) {k q:Nat} (h:q≠k):(held++[k]).count q=held.count q:=by simp only[List.count_append,List.count_cons,List.count_nil,beq_iff_eq];rw[if_neg (Ne.symm h)];omega
theorem Inv.prog {NB:Nat} {g:Mg} {held:List Nat} {n k:Nat} {bs:List UInt8} (h:Inv NB g held n) (hk:k<NB) (ho:g.opn=(k:Int)) (hs:(Gc.at_ g.l k).st=1):Inv NB (Nj g k (Gc.at_ g.l k).nx bs) (held++[k]) (n+1):=by
 have hlen:=h.len;have hb:=h.bk k hk;obtain⟨o1,o2,o3,o4,o5⟩:=hb.op hs;have hw:=hb.we;have hwn:=hb.wn;have hlv:=hb.lv;by_cases e8:(Gc.at_ g.l k).nx+1=8
 ·have e1:(Nj g k (Gc.at_ g.l k).nx bs).opn= -1:=if_pos e8;have e2:(Nj g k (Gc.at_ g.l k).nx bs).l=g.l.set k ⟨2,(Gc.at_ g.l k).live+1,(Gc.at_ g.l k).aQ,(Gc.at_ g.l k).nx+1⟩:=by unfold Nj;simp only[if_pos e8]
  refine h.put hk e2 rfl rfl ⟨by show 2<=3;omega,by rw[oO,<-hlv],by show(Gc.at_ g.l k).nx+1<=8;omega,by show(Gc.at_ g.l k).live+1<=8;omega,λe=>(by cases e),λe=>(by cases e),λ_=>Nat.succ_pos _,λe=>(by cases e),hw,by show(Gc.at_ g.l k).aQ<=n+1;omega,hb.bad,hb.brk⟩ (λq hq=>mV held hq)
   (λq hq hqk h1=>by have:=((h.bk q hq).op h1).1;omega) (λj hj=>⟨h.gap k j hk hj,h.gap j k hj hk⟩) (.inl e1) (λx hx=>by rcases List.mem_append.1 hx with h1|h1;exact h.hm x h1;simp at h1;omega) (by rw[List.length_append];have:=h.hl;simp;omega)
 ·have e1:(Nj g k (Gc.at_ g.l k).nx bs).opn=g.opn:=if_neg e8;have e2:(Nj g k (Gc.at_ g.l k).nx bs).l=g.l.set k ⟨(Gc.at_ g.l k).st,(Gc.at_ g.l k).live+1,(Gc.at_ g.l k).aQ,(Gc.at_ g.l k).nx+1⟩:=by unfold Nj;simp only[if_neg e8]
  refine h.put hk e2 rfl rfl ⟨hb.st,by rw[oO,<-hlv],by show(Gc.at_ g.l k).nx+1<=8;omega,by show(Gc.at_ g.l k).live+1<=8;omega,λ_=>⟨by rw[e1];exact ho,by show 1<=(Gc.at_ g.l k).nx+1;omega,by show(Gc.at_ g.l k).nx+1<8;omega,rfl,by show(Gc.at_ g.l k).live+1<=(Gc.at_ g.l k).nx+1;omega⟩,λe=>(by have:(Gc.at_ g.l k).st=0:=e;omega),λ_=>Nat.succ_pos _,λe=>(by have:(Gc.at_ g.l k).st=3:=e;omega),hw,by show(Gc.at_ g.l k).aQ<=n+1;omega,hb.bad,hb.brk⟩ (λq hq=>mV held hq)
   (λq hq hqk h1=>by have:=((h.bk q hq).op h1).1;omega) (λj hj=>⟨h.gap k j hk hj,h.gap j k hj hk⟩) (.inr ⟨k,hk,by rw[e1];exact ho,by rw[at_set _ _ ae];exact hs⟩) (λx hx=>by rcases List.mem_append.1 hx with h1|h1;exact h.hm x h1;simp at h1;omega) (by rw[List.length_append];have:=h.hl;simp;omega)
theorem Inv.open_ {NB:Nat} {g:Mg} {held:List Nat} {n k:Nat} {bs:List UInt8} (h:Inv NB g held n) (ho:g.opn= -1) (aq2:Gc.best iF Gc.oN g.l NB=some k):Inv NB (Nj (Vb g k) k 0 bs) (held++[k]) (n+1):=by
 have hlen:=h.len;obtain⟨hk,hf⟩:=Gc.gZ aq2;have hs:(Gc.at_ g.l k).st=0:=by unfold iF at hf;rw[beq_iff_eq] at hf;omega
 have hb:=h.bk k hk;obtain⟨o1,o2⟩:=hb.fr hs;have hw:=hb.we;have hwn:=hb.wn;have hlv:=hb.lv;have Ti:Gc.at_ (Vb g k).l k=⟨1,0,(Gc.at_ g.l k).aQ,0⟩:=at_set _ _ ae;have e1:(Nj (Vb g k) k 0 bs).opn=(k:Int):=rfl;have e2:(Nj (Vb g k) k 0 bs).l=g.l.set k ⟨1,1,(Gc.at_ g.l k).aQ,1⟩:=by unfold Nj;simp only[Ti];show(g.l.set k _).set k _=_;rw[List.set_set];rfl
 refine h.put hk e2 rfl rfl ⟨by show 1<=3;omega,by rw[oO,<-hlv,o1],by show 1<=8;omega,by show 1<=8;omega,λ_=>⟨e1,by show 1<=1;omega,by show 1<8;omega,rfl,by show 1<=1;omega⟩,λe=>(by cases e),λe=>(by cases e),λe=>(by cases e),hw,by show(Gc.at_ g.l k).aQ<=n+1;omega,hb.bad,hb.brk⟩ (λq hq=>mV held hq)
  (λq hq hqk h1=>by have:=((h.bk q hq).op h1).1;omega) (λj hj=>⟨h.gap k j hk hj,h.gap j k hj hk⟩) (.inr ⟨k,hk,e1,by rw[at_set _ _ ae]⟩) (λx hx=>by rcases List.mem_append.1 hx with h1|h1;exact h.hm x h1;simp at h1;omega) (by rw[List.length_append];have:=h.hl;simp;omega)
def Kz (c:Nat->Nat):Nat->Nat
 |0=>0
 |k+1=>Kz c k+c k
theorem ah9 {c:Nat->Nat} {k b:Nat} (h:∀i,i<k->c i<=b):Kz c k<=k*b:=by
 induction k with
 |zero=>simp[Kz]
 |succ k ih=>
  have:=ih λi hi=>h i ae;have:=h k ae;show Kz c k+c k<=(k+1)*b;rw[Nat.succ_mul];omega
theorem Inv.ok {NB:Nat} {g:Mg} {held:List Nat} {n:Nat} (h:Inv NB g held n) (hn:n<=1099511627776):∀k,k<NB->Gc.Ok 8 (Gc.at_ g.l k):=λk hk=>
 let b:=h.bk k hk
 ⟨by have:=b.st;omega,b.l8,b.nx,by have:=b.wn;omega,λe=>by rcases e with e|e|e;exact(b.fr e).1;exact b.sl e;have:=b.st;omega⟩
theorem Inv.awq {NB:Nat} {g:Mg} {held:List Nat} {n:Nat} (h:Inv NB g held n) (hN:0<NB):(g.opn= -1\/(0<=g.opn/\g.opn<(NB:Nat)))/\(Gc.at_ g.l g.opn.toNat).nx<=8:=by
 rcases h.opn with e|⟨k,k1,k2,_⟩
 ·refine⟨.inl e,?_⟩;rw[e];exact(h.bk 0 ae).nx
 ·refine⟨.inr ⟨ae,ae⟩,?_⟩;rw[k2,Int.toNat_natCast];exact(h.bk k k1).nx
theorem Inv.full {NB:Nat} {g:Mg} {held:List Nat} {n:Nat} (h:Inv NB g held n) (ho:g.opn= -1) (hb:Gc.best iF Gc.oN g.l NB=none):roomOf g=0:=by
 unfold roomOf;rw[if_pos ho];have:Gc.count 0 g.l=0:=by
  unfold Gc.count;rw[List.length_eq_zero_iff,List.filter_eq_nil_iff];intro x hx;obtain⟨i,hi,rfl⟩:=List.getElem_of_mem hx;have h1:=Gc.Nq hb i (by rw[<-h.len];exact hi);have e:Gc.at_ g.l i=g.l[i]:=by rw[Gc.at_,List.getD_eq_getElem?_getD,List.getElem?_eq_getElem hi];rfl
  rw[e] at h1;unfold iF at h1;rw[beq_eq_false_iff_ne] at h1;simp only[decide_eq_true_eq];omega
 rw[this];rfl
end o8
end
end Go.Proofs.YtnieckfelfoopaaGreat

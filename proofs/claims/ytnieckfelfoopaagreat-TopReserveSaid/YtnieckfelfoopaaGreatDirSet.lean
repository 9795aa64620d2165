import Derived.Maps.RangeWalk
import Derived.Shelf.SlSortCmp.SmallK
import Derived.Ground.SlsfProg
import Derived.Maps.OwnSet
import Derived.Test.YtnieckfelfoopaaGreatBlkOpen
open Array renaming replicate->cB
open BitVec renaming ofInt->de
open Bool renaming and_eq_true->du
open Go.IntWalk renaming i64_in->bq
open Go.RowKit.Below renaming refl->aE
open Go.World renaming size_setCell->cT
open List renaming replicate->bt,mem_map->bw,length_append->bE,length_map->bO,mem_cons->bS,mem_append->cv,map_append->cA,append_nil->cC,length_cons->cD,map_cons->cE,length_take->cI,take_of_length_le->cL,append_assoc->cQ,nodup_cons->cR,getElem_mem->cS,size_toArray->cU,length_nil->cV,map_map->cW,getElem?_eq_getElem->cX,not_mem_nil->cY,getD_eq_getElem?_getD->db,map_congr_left->dp,getElem?_eq_some_iff->dq,drop_drop->dr,length_replicate->dx,take_succ_eq_append_getElem->ei
open Nat renaming le_refl->bp,le_trans->bB,zero_le->bN,lt_of_lt_of_le->cM
open UInt8 renaming ofNat->bx,toNat_ofNat'->eh
open Go.Value renaming int->O,slice->an,tuple->ao,bool->aq
open Go.IntKind renaming i64->aa
open Go.Ending renaming returned->ar
open Go.RowKit renaming Hid->aL
open Go.Proofs.Tryz (prog)
set_option maxRecDepth 100000
set_option maxHeartbeats 16000000
namespace Go.Proofs.YtnieckfelfoopaaGreat
open Lib (hid)
section
open RowKit
section
variable {NB B:Nat} {S:Nat->Prop} {w:World} {g:Mg}
def JQ (g:Mg) (NB:Nat) (y:Pb) k i bs:={g with bl:=upd (upd g.bl NB y) k (uG (g.bl k) i bs),l:=g.l.set k ⟨if i+1=8 then 2 else(Gc.at_ g.l k).st,(Gc.at_ g.l k).live+1,(Gc.at_ g.l k).aC,i+1⟩,opn:=if i+1=8 then-1 else g.opn}
def flG (g:Mg) (NB:Nat) (y:Pb) k i L:={g with bl:=upd (upd g.bl NB y) k (uG (g.bl k) i L),l:=g.l.set k (Eg (Gc.at_ g.l k)),opn:= -1}
def Put (NB B:Nat) (S:Nat->Prop) (g:Mg) (w:World) (k i:Nat) (bs:List UInt8) (e:Ending) w':=
 (∃y,(e=ar (ao #[O aa k,O aa i,O aa 0])/\mG (g.bl NB) y true/\fF NB B (Up S w w') w' (JQ g NB y k i bs))\/(e=ar (ao #[O aa k,O aa i,O aa 11])/\mG (g.bl NB) y false/\∃L,L.length=96/\fF NB B (Up S w w') w' (flG g NB y k i L)))/\Kq (Sm g S) w w'
theorem O8 (h:fF NB B S w g) {k i} (hk:k<NB) (ho:g.opn=k) (hi:i<8) (hx:(Gc.at_ g.l k).nx=i) (wP:(Gc.at_ g.l k).live<=1000) (hn:(g.bl k).nx=i) (bP:(g.bl k).bad=false) (aZ:(g.bl k).broken=false) (PX:(g.bl NB).aC<=1099511627776)
  a c bs (NG:Own aJ 5 w 0 (an a 96 c) bs) (AL:∀q,Value.ownBlock (an a 96 c)=some q->¬S q):
  Calls prog 282 #[g.M,an a 96 c] w (Put NB B S g w k i bs):=by
 obtain⟨HR,HG,HH,HX,Kt⟩:=ct (xG h) (dQ h.hc) h NG AL;obtain⟨HN,bV,df⟩:=cp hn bP aZ;obtain⟨HXn,HXl,HO⟩:=cp hx wP ho;have m0:=h.m0;have g1:(0:Int)<=(k:Int):=ae;have g2:(k:Int)<(NB:Int):=ae;have Oj:=ag PX;clear h NG AL hn bP aZ hx wP ho PX
 go_in
 go_wp2;go_step3;go_wp2_with fail;refine(HR).cj ?_;go_wp2_with fail;go_call HG as e w1 ⟨rfl,hb⟩;have hf:=Qa (O aa NB) (O aa 8) (O aa 64);obtain⟨nz,iH⟩:=cn (HH.on hb) hb;have n2:=nz.m2;rw[HO.o] at n2;have hno:((k:Int) != -1)=true:=by rw[bne_iff_ne];omega
 have r3:=(nz.r3 hk).1;rw[HXn.o] at r3;have n0:=nz.m0;have n1:=nz.m1;clear hb m0;unfold uI;go_wp2_with fail;go_step3;go_wp2_with fail
 go_loopw [8,9,10,11] (λv8 v9 v10 _ wr=>v8=O aa 0/\v9=O aa 0/\v10=O aa 40/\wr=w1) (λ_ _ _ _ _=>0)
 case atStart=>exact⟨rfl,rfl,rfl,rfl⟩
 case round=>
  obtain⟨rfl,rfl,rfl,hw⟩:=hrel;subst hw;have yg:=ag (HX.on iH);go_wp2_with fail;go_call(xN nz.hc Oj hk hi HN bV df a c bs yg Kt) as e w2 ⟨y,Lf,Vb,h2,eU⟩;rcases Vb with⟨rfl,hst,rfl⟩|⟨rfl,hst,hL⟩
  case inr=>have jI:=ag hst;obtain⟨UJ,oC,ja⟩:=cp hL (nz.aaD (ps':=g.ps) h2 eU (λq hq=>hq)) ((Kq.of iH).trans (eU.mono (T':=Sm g S) λq hq=> .inr (.inr hq)));clear h2 eU n2 r3 n0 n1 hno hst hL;go_wp2_with fail;go_call(Bj oC hk HO) as e w7 ⟨rfl,h7,oP⟩;obtain⟨yh,H7⟩:=cn (ja.trans (oP.mono (T':=Sm g S) λq hq=>by rcases hq with h|h;exact .inl h;exact .inr (.inl h))) (h7.re (w0:=w) HH.base HH.ltM HH.ltL iH.size oP.size);clear h7 oP;go_wp2_with fail;refine bodyPost_ret (v:=ao #[O aa k,O aa i,O aa 11]) (by simp[results,Tryz.results282,go_sem]) rfl ⟨⟨y,.inr ⟨rfl,jI,Lf,UJ,?_⟩⟩,yh.o⟩;exact H7.o
  have jI:=ag hst;clear hst;obtain⟨oC,ja⟩:=cn (nz.aaD (ps':=g.ps) h2 eU (λq hq=>hq)) ((Kq.of iH).trans (eU.mono (T':=Sm g S) λq hq=> .inr (.inr hq)));clear h2 eU n2 r3 n0 n1 hno;have r1:=oC.r1 hk;have r3:=oC.r3 hk;simp only at r1 r3;rw[HXn.o] at r3;obtain⟨r1,f1⟩:=r1;obtain⟨r3,f3⟩:=r3;have NI:=HXl.o;generalize hx:Gc.at_ g.l k=x at*;have i1:=bq ((i:Int)+1) ⟨ae,ae⟩;have i2:=bq ((x.live:Int)+1) ⟨ae,ae⟩;go_upto_region 19 with fail;have HXe:=ag hx;have CV:=oC.len;simp only at CV;have q3:=oC.yU hk (j:=3) ae (O aa ((i+1:Nat))) {x with nx:=i+1} (by simp only[hx];rfl);have q4:=q3.yU hk (j:=1) ae (O aa ((x.live+1:Nat))) ⟨x.st,x.live+1,x.aC,i+1⟩ (by rw[at_set _ _ (show k<g.l.length by omega)];rfl);simp only[List.set_set] at q4;have e1:((i+1:Nat):Int)=(i:Int)+1:=ae;have e2:((x.live+1:Nat):Int)=(x.live:Int)+1:=ae;rw[e1,e2] at q4;obtain⟨HG4,kX⟩:=cn q4 ((ja.setCell (p:=⟨g.ML,k*4+3,none⟩) (.inl (.inr (.inl rfl))) (O aa ((i:Int)+1))).setCell (p:=⟨g.ML,k*4+1,none⟩) (.inl (.inr (.inl rfl))) (O aa ((x.live:Int)+1)));clear q3 q4 e1 e2 r1 f1 r3 f3 hx;have Js:=ag (show w2.heap.size=((w2.setCell (g.ML,k*4+3) (O aa ((i:Int)+1))).setCell (g.ML,k*4+1) (O aa ((x.live:Int)+1))).heap.size by simp only[cT]);generalize ((w2.setCell (g.ML,k*4+3) (O aa ((i:Int)+1))).setCell (g.ML,k*4+1) (O aa ((x.live:Int)+1)))=w4 at*;obtain⟨yF,wS⟩:=cn (HG4.on (ak w4)) (kX.on (ak w4));have n3:=(yF.r3 hk).1;rw[at_set _ _ (show k<g.l.length by omega)] at n3;have n3:w4.drew.cell? (g.ML,k*4+3)=some (O aa ((i:Int)+1)):=n3;refine iE (λW'=>W'.cell? (aw g.ML (k*4+3))=some (O aa ((i:Int)+1))) n3 (λaY=>?_);have O9:=ag (show w2.heap.size=w4.drew.heap.size from Js.o);generalize w4.drew=w5 at*;refine dw 0 g.ML (k*4) ?_;refine aS 1 g.ML (k*4) ?_;refine aS 2 g.ML (k*4+3) ?_;refine iR 3 ((i:Int)+1) ?_;refine dw 4 g.M 0 ?_;refine bY 5 (λK' hK=>?_);go_simp;go_call(kK yF) as e w6 ⟨rfl,hb⟩;obtain⟨U3,ql,alJ⟩:=cp (yF.on hb) (wS.on hb) (bB (Nat.le_of_eq O9) hb.size);have n6:=bu n3 hb;clear hb;refine hK.out _ _ n6 (λdh=>?_)
  refine eX 6 (aq ((i:Int)+1==8)) ?_;refine eH ?_;clear aY dh n3 n6
  cases he:((i:Int)+1==8)
  .have di:¬(i+1=8):=by rw[ew] at he;omega
   have EO:=ag di;clear di;go_wp2_with fail;refine bodyPost_ret (v:=ao #[O aa k,O aa i,O aa 0]) (by simp[results,Tryz.results282,go_sem]) rfl ⟨⟨y,.inl ⟨rfl,jI.o,?_⟩⟩,ql.o⟩;have hp:=U3.re HH.base HH.ltM HH.ltL iH.size alJ.o;unfold JQ;rw[eo EO.o,eo EO.o,HXe.o];exact hp
  .have di:i+1=8:=by rw[beq_iff_eq] at he;omega
   have EO:=ag di;clear di;go_wp2_with fail;go_call(Ej U3 hk (by rw[at_set _ _ (show k<g.l.length by omega)];show 0<x.live+1;omega) HO) as e w7 ⟨rfl,h7,oP⟩;obtain⟨HG7,yh,aDd⟩:=cp h7 (ql.trans (oP.mono (T':=Sm g S) λq hq=>by rcases hq with h|h;exact .inl h;exact .inr (.inl h))) (bB alJ oP.size);clear h7 oP;go_wp2_with fail;refine bodyPost_ret (v:=ao #[O aa k,O aa i,O aa 0]) (by simp[results,Tryz.results282,go_sem]) rfl ⟨⟨y,.inl ⟨rfl,jI.o,?_⟩⟩,yh.o⟩;have hp:=HG7.re HH.base HH.ltM HH.ltL iH.size aDd.o;rw[at_set _ _ (show k<g.l.length by omega)] at hp;simp only[List.set_set] at hp;unfold JQ;rw[ev EO.o,ev EO.o,HXe.o];exact hp
end
section
variable {NB B:Nat} {S:Nat->Prop} {w:World} {g:Mg}
def Hu (g:Mg) (a:Nat):={g with l:=g.l.set a ⟨1,0,(Gc.at_ g.l a).aC,0⟩,opn:=a}
theorem MG (h:fF NB B S w g) {k} (aqY:Gc.best jD Gc.iy g.l NB=some k) (ho:g.opn= -1) (hn:(g.bl k).nx=0) (bP:(g.bl k).bad=false) (aZ:(g.bl k).broken=false) (aea:(g.bl NB).aC<=1099511627776)
  a c bs (NG:Own aJ 5 w 0 (an a 96 c) bs) (AL:∀q,Value.ownBlock (an a 96 c)=some q->¬Sm g S q):
  Calls prog 282 #[g.M,an a 96 c] w (Put NB B S (Hu g k) w k 0 bs):=by
 have hk:=(Gc.gU aqY).1;obtain⟨HR,HG,HH,HX,Kt⟩:=ct (xG h) (dQ h.hc) h NG AL;obtain⟨HN,bV,df⟩:=cp hn bP aZ;obtain⟨Zx,HBg,HO⟩:=cp aqY (show Hu g k={g with l:=g.l.set k ⟨1,0,(Gc.at_ g.l k).aC,0⟩,opn:=(k:Int)} from rfl) ho;have m0:=h.m0;have g1:(0:Int)<=(k:Int):=ae;have g2:(k:Int)<(NB:Int):=ae;have Oj:=ag aea;clear h NG AL hn bP aZ aqY ho aea
 go_in
 go_wp2;go_step3;go_wp2_with fail;refine(HR).cj ?_;go_wp2_with fail;go_call HG as e w1 ⟨rfl,hb⟩;have hf:=Qa (O aa NB) (O aa 8) (O aa 64);obtain⟨nz,iH⟩:=cn (HH.on hb) hb;have n2:=nz.m2;rw[HO.o] at n2;have n0:=nz.m0;have n1:=nz.m1;clear hb m0;unfold uI;go_wp2_with fail;go_step3;go_wp2_with fail
 go_loopw [8,9,10,11] (λv8 v9 v10 _ wr=>v8=O aa 0/\v9=O aa 0/\v10=O aa 40/\wr=w1) (λ_ _ _ _ _=>0)
 case atStart=>exact⟨rfl,rfl,rfl,rfl⟩
 case round=>
  obtain⟨rfl,rfl,rfl,hw⟩:=hrel;subst hw;have yg:=ag (HX.on iH);go_wp2_with fail;refine(TR nz).mono ?_;unfold aci;rw[Zx.o];rintro e w1 ⟨rfl,h1,fO⟩;obtain⟨G9,OG,NK⟩:=cp (show fF NB B S w1 (Hu g k) from h1) ((Kq.of iH).trans (fO.mono (T':=Sm g S) λq hq=>by rcases hq with h|h;exact .inl h;exact .inr (.inl h))) (yg.kq fO λq hq hm=>Kt.o q hq (by rcases hm with h|h;exact .inl h;exact .inr (.inl h)));clear h1 fO n2 n0 n1;have n0:=G9.m0;have n1:=G9.m1;have n2:=G9.m2;have r3:=(G9.r3 hk).1;unfold Hu at n0 n1 n2 r3;simp only at n0 n1 n2 r3;rw[at_set _ _ (by rw[HH.len];exact hk)] at r3;have r3:w1.cell? (g.ML,k*4+3)=some (O aa 0):=r3;go_wp2_with fail;go_call(xN G9.hc Oj hk (i:=0) ae HN bV df a c bs NK (λq hq hs=>Kt.o q hq (.inr (.inr hs)))) as e w2 ⟨y,Lf,Vb,h2,eU⟩;rcases Vb with⟨rfl,hst,rfl⟩|⟨rfl,hst,hL⟩
  case inr=>have jI:=ag hst;obtain⟨UJ,oC,ja⟩:=cp hL (G9.aaD (ps':=g.ps) h2 eU (λq hq=>hq)) (OG.trans (eU.mono (T':=Sm g S) λq hq=> .inr (.inr hq)));clear h2 eU n2 r3 n0 n1 hst hL;go_wp2_with fail;go_call(Bj oC hk rfl) as e w7 ⟨rfl,h7,oP⟩;have yh:=ag (ja.trans (oP.mono (T':=Sm g S) λq hq=>by rcases hq with h|h;exact .inl h;exact .inr (.inl h)));have jA:=OG.size;have H7:=ag (h7.re (w0:=w) HH.base HH.ltM HH.ltL jA oP.size);clear h7 oP jA;go_wp2_with fail;refine bodyPost_ret (v:=ao #[O aa k,O aa 0,O aa 11]) (by simp[results,Tryz.results282,go_sem]) rfl ⟨⟨y,.inr ⟨rfl,jI,Lf,UJ,?_⟩⟩,yh.o⟩;exact H7.o
  have jI:=ag hst;clear hst;obtain⟨oC,ja⟩:=cn (G9.aaD (ps':=g.ps) h2 eU (λq hq=>hq)) (OG.trans (eU.mono (T':=Sm g S) λq hq=> .inr (.inr hq)));have CV:=HH.len;have uQ:Gc.at_ (g.l.set k ⟨1,0,(Gc.at_ g.l k).aC,0⟩) k=⟨1,0,(Gc.at_ g.l k).aC,0⟩:=at_set _ _ ae;have UM:=ag uQ;have r3:=oC.r3 hk;have r1:=oC.r1 hk;unfold Hu at r1 r3;simp only at r1 r3;rw[uQ] at r1 r3;obtain⟨r1,f1⟩:=r1;obtain⟨r3,f3⟩:=r3;have r1:w2.cell? (g.ML,k*4+1)=some (O aa 0):=r1;have r3:w2.cell? (g.ML,k*4+3)=some (O aa 0):=r3;generalize PX:(Gc.at_ g.l k).aC=wv at*;have HWv:=ag PX;have q3:=oC.yU hk (j:=3) ae (O aa 1) ⟨1,0,wv,1⟩ (by unfold Hu;simp only[PX];rw[uQ];rfl);have q4:=q3.yU hk (j:=1) ae (O aa 1) ⟨1,1,wv,1⟩ (by rw[at_set _ _ (by unfold Hu;simp only[List.length_set];omega)];rfl);obtain⟨Js,kX,HG4⟩:=cp (show w2.heap.size=((w2.setCell (g.ML,k*4+3) (O aa 1)).setCell (g.ML,k*4+1) (O aa 1)).heap.size by simp only[cT]) ((ja.setCell (p:=⟨g.ML,k*4+3,none⟩) (.inl (.inr (.inl rfl))) (O aa 1)).setCell (p:=⟨g.ML,k*4+1,none⟩) (.inl (.inr (.inl rfl))) (O aa 1)) (show fF NB B (Up S w1 w2) ((w2.setCell (g.ML,k*4+3) (O aa 1)).setCell (g.ML,k*4+1) (O aa 1)) {g with bl:=upd (upd g.bl NB y) k (uG (g.bl k) 0 Lf),l:=g.l.set k ⟨1,1,wv,1⟩,opn:=(k:Int)} by unfold Hu at q4;simp only[List.set_set] at q4;exact q4);clear q3 q4 h2 eU uQ PX n0 n1 n2;go_upto_region 19 with fail;clear r1 f1 r3 f3;generalize ((w2.setCell (g.ML,k*4+3) (O aa 1)).setCell (g.ML,k*4+1) (O aa 1))=w4 at*;obtain⟨yF,wS⟩:=cn (HG4.on (ak w4)) (kX.on (ak w4));have n3:=(yF.r3 hk).1;rw[at_set _ _ (show k<g.l.length by omega)] at n3;have n3:w4.drew.cell? (g.ML,k*4+3)=some (O aa 1):=n3;refine iE (λW'=>W'.cell? (aw g.ML (k*4+3))=some (O aa 1)) n3 (λaY=>?_);have O9:=ag (show w2.heap.size=w4.drew.heap.size from Js.o);generalize w4.drew=w5 at*;refine dw 0 g.ML (k*4) ?_;refine aS 1 g.ML (k*4) ?_;refine aS 2 g.ML (k*4+3) ?_;refine iR 3 1 ?_;refine dw 4 g.M 0 ?_;refine bY 5 (λK' hK=>?_);go_simp;go_call(kK yF) as e w6 ⟨rfl,hb⟩;obtain⟨U3,ql,alJ⟩:=cp (yF.on hb) (wS.on hb) (bB (Nat.le_of_eq O9) hb.size);have n6:=bu n3 hb;clear hb;refine hK.out _ _ n6 (λdh=>?_)
  refine eX 6 (aq false) ?_;refine eH ?_;clear aY dh n3 n6;go_wp2_with fail;refine bodyPost_ret (v:=ao #[O aa k,O aa 0,O aa 0]) (by simp[results,Tryz.results282,go_sem]) rfl ⟨⟨y,.inl ⟨rfl,jI.o,?_⟩⟩,ql.o⟩;have jA:=OG.size;have hp:=U3.re HH.base HH.ltM HH.ltL jA alJ.o;unfold JQ Hu;simp only[HWv.o,UM.o,List.set_set];exact hp
end
namespace dm
structure BkI opn (k:Nat) (x:Bk) (p:Pb) c n:Prop where
 st:x.st<=4
 lv:x.live=c
 nx:x.nx<=8
 l8:x.live<=8
 op:x.st=1->opn=(k:Int)/\1<=x.nx/\x.nx<8/\p.nx=x.nx/\x.live<=x.nx
 fr:x.st=0->x.live=0/\p.nx=0
 fu:x.st=2->0<x.live
 sl:x.st=3->x.live=0
 we:p.aC=x.aC
 wn:x.aC<=n
 bad:x.st≠4->p.bad=false
 brk:x.st≠4->p.broken=false
 bd:x.st=4->x.live=0/\p.bad=true
structure Inv NB (g:Mg) (held:List Nat) n:Prop where
 len:g.l.length=NB
 bk:∀k,k<NB->BkI g.opn k (Gc.at_ g.l k) (g.bl k) (held.count k) n
 gap:∀i j,i<NB->j<NB->(Gc.at_ g.l i).st≠4->(Gc.at_ g.l j).st≠4->(Gc.at_ g.l i).aC<=(Gc.at_ g.l j).aC+4
 opn:g.opn= -1\/∃k,k<NB/\g.opn=k/\(Gc.at_ g.l k).st=1
 even:g.even=false
 hm:∀h∈held,h<NB
 hl:held.length<=n
theorem count_set {l:List Nat} {i v q} hi:(l.set i v).count q+(if l[i]=q then 1 else 0)=l.count q+(if v=q then 1 else 0):=by
 induction l generalizing i with
 |nil=>simp at hi
 |cons a l ih=>
  cases i with
  |zero=>simp only[List.set_cons_zero,List.count_cons,List.getElem_cons_zero,beq_iff_eq];omega
  |succ i=>
   have:=ih (i:=i) (by simpa using hi);simp only[List.set_cons_succ,List.count_cons,List.getElem_cons_succ,beq_iff_eq] at*;omega
def xH (l:List Nat) i:=(l.set i (l.getD (l.length-1) 0)).take (l.length-1)
theorem uV {l i q} hi:(xH l i).count q+(if l[i]=q then 1 else 0)=l.count q:=by
 obtain⟨v,hv⟩:=aW (l.getD (l.length-1) 0);have hv2:l[l.length-1]'ae=v:=by rw[hv,db,cX ae];rfl
 have hlen:(l.set i v).length=l.length:=List.length_set ..;have h1:=count_set (l:=l) (i:=i) (v:=v) (q:=q) hi;have acj:(l.set i v)[l.length-1]'ae=v:=by
  rw[List.getElem_set]
  split
  .rfl
  .exact hv2
 have h2:l.set i v=xH l i++[v]:=by
  unfold xH;rw[<-hv]
  conv=>lhs;rw[<-List.take_append_drop (l.length-1) (l.set i v)]
  congr 1
  rw[List.drop_eq_getElem_cons ae,acj,List.drop_eq_nil_of_le ae]
 rw[h2,List.count_append] at h1;simp only[List.count_cons,List.count_nil,beq_iff_eq] at h1;omega
theorem XI {l i}:(xH l i).length=l.length-1:=by unfold xH;rw[cI,List.length_set];omega
theorem XJ {l i} (hi:i<l.length) {h} (hh:h∈xH l i):h∈l:=by have h1:=List.count_pos_iff.2 hh;have h2:=uV (q:=h) hi;exact List.count_pos_iff.1 ae
theorem Inv.drop {NB g held n i} (h:Inv NB g held n) hi:Inv NB {g with l:=g.l.set held[i] (dD (Gc.at_ g.l held[i]))} (xH held i) (n+1):=by
 have hk:=h.hm _ (cS hi);have Xv:=λq=>uV (q:=q) hi;generalize hke:held[i]=k at*;have hl:=h.len;have hb:=h.bk k hk;have hc:=Xv k;rw[ev rfl] at hc;have XG:0<(Gc.at_ g.l k).live:=by rw[hb.lv];omega
 refine⟨by simpa using hl,λq hq=>?_,λa b ha aZ hsa hsb=>?_,?_,h.even,λx hx=>h.hm x (XJ hi hx),by rw[XI];have:=h.hl;omega⟩
 .by_cases e:q=k
  .subst e;show BkI g.opn q (Gc.at_ (g.l.set q _) q) (g.bl q) _ _;rw[at_set _ _ ae];have hz:(dD (Gc.at_ g.l q)).live=(Gc.at_ g.l q).live-1:=rfl;have hw:(dD (Gc.at_ g.l q)).aC=(Gc.at_ g.l q).aC:=rfl;have hx:(dD (Gc.at_ g.l q)).nx=(Gc.at_ g.l q).nx:=rfl;have hs:(dD (Gc.at_ g.l q)).st=if (Gc.at_ g.l q).st=2/\(Gc.at_ g.l q).live-1=0 then 3 else(Gc.at_ g.l q).st:=rfl
   obtain⟨b1,b2,b3,b4,b5,b6,b7,b8,b9,b10,b11,b12,b13⟩:=hb;by_cases hd:(Gc.at_ g.l q).st=2/\(Gc.at_ g.l q).live-1=0
   .rw[ev hd] at hs;exact⟨ae,ae,ae,ae,λe=>ae,λe=>ae,λe=>ae,λe=>ae,by rw[hw];exact b9,ae,λe=>b11 ae,λe=>b12 ae,λe=>ae⟩
   .rw[eo hd] at hs;refine⟨ae,ae,ae,ae,λe=>?_,λe=>?_,λe=>?_,λe=>?_,by rw[hw];exact b9,ae,λe=>b11 ae,λe=>b12 ae,λe=>by have:=b13 ae;omega⟩
    .rw[hs] at e;obtain⟨c1,c2,c3,c4,c5⟩:=b5 e;rw[hz,hx];exact⟨c1,c2,c3,c4,ae⟩
    .rw[hs] at e;have:=b6 e;omega
    .rw[hs] at e;omega
    .rw[hs] at e;have:=b8 e;omega
  .show BkI g.opn q (Gc.at_ (g.l.set k _) q) (g.bl q) _ _;rw[bC _ _ e];have JG:=h.bk q hq;have:=Xv q;rw[eo (Ne.symm e)] at this;obtain⟨b1,b2,b3,b4,b5,b6,b7,b8,b9,b10,b11,b12,b13⟩:=JG;exact⟨b1,ae,b3,b4,b5,b6,b7,b8,b9,ae,b11,b12,b13⟩
 .have hw:∀q,(Gc.at_ (g.l.set k (dD (Gc.at_ g.l k))) q).aC=(Gc.at_ g.l q).aC:=λq=>by
   by_cases e:q=k
   .subst e;rw[at_set _ _ ae];rfl
   .rw[bC _ _ e]
  have UN:∀q,(Gc.at_ (g.l.set k (dD (Gc.at_ g.l k))) q).st≠4->(Gc.at_ g.l q).st≠4:=λq hq=>by
   by_cases e:q=k
   .subst e;intro h4;have:=hb.bd h4;omega
   .rw[bC _ _ e] at hq;exact hq
  show(Gc.at_ (g.l.set k _) a).aC<=(Gc.at_ (g.l.set k _) b).aC+4;rw[hw,hw];exact h.gap a b ha aZ (UN a hsa) (UN b hsb)
 .rcases h.opn with ho|⟨q,q1,q2,q3⟩
  .exact .inl ho
  .refine .inr ⟨q,q1,q2,?_⟩;show(Gc.at_ (g.l.set k _) q).st=1;by_cases e:q=k
   .subst e;rw[at_set _ _ ae];show(if (Gc.at_ g.l q).st=2/\(Gc.at_ g.l q).live-1=0 then 3 else(Gc.at_ g.l q).st)=1;rw[eo ae];exact q3
   .rw[bC _ _ e];exact q3
end dm
namespace dm
theorem Inv.least {NB g held n j} (h:Inv NB g held n) (hj:j<NB) (hs:(Gc.at_ g.l j).st≠4):Gc.least g.l<=(Gc.at_ g.l j).aC:=
 Gc.least_le (by rw[h.len];exact hj) (Gc.jm.2 hs)
theorem nN {NB k} bl (y p:Pb):∀j,j<NB->upd (upd bl NB y) k p j=upd bl k p j:=λj hj=>by
 by_cases e:j=k
 .rw[e,upd_same,upd_same]
 .rw[aG _ _ e,aG _ _ e,aG _ _ ae]
theorem Inv.put {NB g g' held XK n k y p} (h:Inv NB g held n) (hk:k<NB) (hl:g'.l=g.l.set k y) (hb:∀j,j<NB->g'.bl j=upd g.bl k p j) (he:g'.even=g.even) (hB:BkI g'.opn k y p (XK.count k) (n+1))
  (hc:∀q,q≠k->XK.count q=held.count q) (ho:∀q,q<NB->q≠k->(Gc.at_ g.l q).st=1->g'.opn=(q:Int)) (hg:y.st≠4->∀j,j<NB->j≠k->(Gc.at_ g.l j).st≠4->y.aC<=(Gc.at_ g.l j).aC+4/\(Gc.at_ g.l j).aC<=y.aC+4)
  (wJ:g'.opn= -1\/∃q,q<NB/\g'.opn=(q:Int)/\(Gc.at_ (g.l.set k y) q).st=1) (hm:∀x∈XK,x<NB) (hh:XK.length<=n+1):Inv NB g' XK (n+1):=by
 have hlen:=h.len;refine⟨by rw[hl,List.length_set];exact hlen,λq hq=>?_,λa b ha aZ hsa hsb=>?_,by rw[hl];exact wJ,by rw[he];exact h.even,hm,hh⟩
 .rw[hl,hb q hq];by_cases e:q=k
  .subst e;rw[at_set _ _ ae,upd_same];exact hB
  .rw[bC _ _ e,aG _ _ e,hc q e];obtain⟨b1,b2,b3,b4,b5,b6,b7,b8,b9,b10,b11,b12,b13⟩:=h.bk q hq;exact⟨b1,b2,b3,b4,λe1=>⟨ho q hq e e1,(b5 e1).2⟩,b6,b7,b8,b9,ae,b11,b12,b13⟩
 .rw[hl] at hsa hsb⊢;by_cases ea:a=k
  .subst ea;rw[at_set _ _ ae] at hsa⊢;by_cases eb:b=a
   .subst eb;rw[at_set _ _ ae];omega
   .rw[bC _ _ eb] at hsb⊢;exact(hg hsa b aZ eb hsb).1
  .rw[bC _ _ ea] at hsa⊢;by_cases eb:b=k
   .subst eb;rw[at_set _ _ ae] at hsb⊢;exact(hg hsb a ha ea hsa).2
   .rw[bC _ _ eb] at hsb⊢;exact h.gap a b ha aZ hsa hsb
theorem Inv.erase {NB g y held n k ps'} (h:Inv NB g held n) (hk:k<NB) (hs:(Gc.at_ g.l k).st=0\/(Gc.at_ g.l k).st=3) (hw:∀j,j<NB->(Gc.at_ g.l j).st≠4->(Gc.at_ g.l k).aC<=(Gc.at_ g.l j).aC+3):Inv NB (erG g NB y k ps') held (n+1):=by
 have hlen:=h.len;have hb:=h.bk k hk;have Ho:(Gc.at_ g.l k).live=0:=by
  rcases hs with e|e
  .exact(hb.fr e).1
  .exact hb.sl e
 have di:∀q:Nat,q<NB->g.opn=(q:Int)->(Gc.at_ g.l q).st=1->q≠k:=λq _ _ h3 e=>by subst e;omega
 have TT:(erG g NB y k ps').opn=g.opn:=by
  show(if g.opn=(k:Int) then(-1:Int) else g.opn)=g.opn;rcases h.opn with e|⟨q,q1,q2,q3⟩
  .rw[eo ae]
  .have:=di q q1 q2 q3;rw[eo ae]
 have IU:=hb.we;refine h.put (g':=erG g NB y k ps') (y:=⟨0,0,(g.bl k).aC+1,0⟩) (p:=fresh ((g.bl k).aC+1)) hk rfl (nN _ _ _) rfl ⟨(by show 0<=4;omega),by rw[<-hb.lv,Ho],(by show 0<=8;omega),(by show 0<=8;omega),λe=>(by cases e),λ_=>⟨rfl,rfl⟩,λe=>(by cases e),λ_=>rfl,rfl,by have:=hb.wn;show(g.bl k).aC+1<=n+1;omega,λ_=>rfl,λ_=>rfl,λe=>(by cases e)⟩ (λ_ _=>rfl)
  (λq hq hqk h1=>by rw[TT];exact((h.bk q hq).op h1).1) (λ_ j hj _ UN=>⟨by have:=hw j hj UN;show(g.bl k).aC+1<=_;omega,by have:=h.gap j k hj hk UN ae;show _<=(g.bl k).aC+1+4;omega⟩) ?_ h.hm (by have:=h.hl;omega)
 rw[TT];rcases h.opn with e|⟨q,q1,q2,q3⟩
 .exact .inl e
 .exact .inr ⟨q,q1,q2,by rw[bC _ _ (di q q1 q2 q3)];exact q3⟩
theorem Inv.alf {NB g g' held n k w p} (h:Inv NB g held n) (hk:k<NB) (hs:(Gc.at_ g.l k).st=0\/(Gc.at_ g.l k).st=3) (hl:g'.l=g.l.set k ⟨4,0,w,0⟩) (hb:∀j,j<NB->g'.bl j=upd g.bl k p j) (he:g'.even=g.even) (ho:g'.opn=if g.opn=k then-1 else g.opn) (hw:p.aC=w) (hn:w<=n+1) (hp:p.bad=true):Inv NB g' held (n+1):=by
 have hlen:=h.len;have wu:=h.bk k hk;have Ho:(Gc.at_ g.l k).live=0:=by
  rcases hs with e|e
  .exact(wu.fr e).1
  .exact wu.sl e
 have di:∀q:Nat,q<NB->g.opn=(q:Int)->(Gc.at_ g.l q).st=1->q≠k:=λq _ _ h3 e=>by subst e;omega
 have TT:g'.opn=g.opn:=by
  rw[ho];rcases h.opn with e|⟨q,q1,q2,q3⟩
  .rw[eo ae]
  .have:=di q q1 q2 q3;rw[eo ae]
 refine h.put (y:=⟨4,0,w,0⟩) (p:=p) hk hl hb he ⟨(by show 4<=4;omega),by rw[<-wu.lv,Ho],(by show 0<=8;omega),(by show 0<=8;omega),λe=>(by cases e),λe=>(by cases e),λe=>(by cases e),λ_=>rfl,hw,hn,λe=>absurd rfl e,λe=>absurd rfl e,λ_=>⟨rfl,hp⟩⟩ (λ_ _=>rfl)
  (λq hq hqk h1=>by rw[TT];exact((h.bk q hq).op h1).1) (λe=>absurd rfl e) ?_ h.hm (by have:=h.hl;omega)
 rw[TT];rcases h.opn with e|⟨q,q1,q2,q3⟩
 .exact .inl e
 .exact .inr ⟨q,q1,q2,by rw[bC _ _ (di q q1 q2 q3)];exact q3⟩
theorem qc held (k:Nat):(held++[k]).count k=held.count k+1:=au
theorem oL held {k q:Nat} (h:q≠k):(held++[k]).count q=held.count q:=by simp only[List.count_append,List.count_cons,List.count_nil,beq_iff_eq];rw[eo (Ne.symm h)];omega
theorem Inv.prog {NB g y held n k bs} (h:Inv NB g held n) (hk:k<NB) (ho:g.opn=k) (hs:(Gc.at_ g.l k).st=1):Inv NB (JQ g NB y k (Gc.at_ g.l k).nx bs) (held++[k]) (n+1):=by
 have hlen:=h.len;have hb:=h.bk k hk;obtain⟨o1,o2,o3,o4,o5⟩:=hb.op hs;have hw:=hb.we;have hwn:=hb.wn;have Ho:=hb.lv;have nJ:=hb.bad ae;have hbr:=hb.brk ae;by_cases e8:(Gc.at_ g.l k).nx+1=8
 .have e1:(JQ g NB y k (Gc.at_ g.l k).nx bs).opn= -1:=ev e8;have e2:(JQ g NB y k (Gc.at_ g.l k).nx bs).l=g.l.set k ⟨2,(Gc.at_ g.l k).live+1,(Gc.at_ g.l k).aC,(Gc.at_ g.l k).nx+1⟩:=by unfold JQ;simp only[ev e8]
  refine h.put hk e2 (nN _ _ _) rfl ⟨by show 2<=4;omega,by rw[qc,<-Ho],by show(Gc.at_ g.l k).nx+1<=8;omega,by show(Gc.at_ g.l k).live+1<=8;omega,λe=>(by cases e),λe=>(by cases e),λ_=>Nat.succ_pos _,λe=>(by cases e),hw,by show(Gc.at_ g.l k).aC<=n+1;omega,λ_=>nJ,λ_=>hbr,λe=>(by cases e)⟩ (λq hq=>oL held hq)
   (λq hq hqk h1=>by have:=((h.bk q hq).op h1).1;omega) (λ_ j hj _ h4=>⟨h.gap k j hk hj ae h4,h.gap j k hj hk h4 ae⟩) (.inl e1) (λx hx=>by rcases cv.1 hx with h1|h1;exact h.hm x h1;simp at h1;omega) (by rw[bE];have:=h.hl;simp;omega)
 .have e1:(JQ g NB y k (Gc.at_ g.l k).nx bs).opn=g.opn:=eo e8;have e2:(JQ g NB y k (Gc.at_ g.l k).nx bs).l=g.l.set k ⟨1,(Gc.at_ g.l k).live+1,(Gc.at_ g.l k).aC,(Gc.at_ g.l k).nx+1⟩:=by unfold JQ;simp only[eo e8,hs]
  refine h.put hk e2 (nN _ _ _) rfl ⟨by show 1<=4;omega,by rw[qc,<-Ho],by show(Gc.at_ g.l k).nx+1<=8;omega,by show(Gc.at_ g.l k).live+1<=8;omega,λ_=>⟨by rw[e1];exact ho,by show 1<=(Gc.at_ g.l k).nx+1;omega,by show(Gc.at_ g.l k).nx+1<8;omega,rfl,by show(Gc.at_ g.l k).live+1<=(Gc.at_ g.l k).nx+1;omega⟩,λe=>(by cases e),λe=>(by cases e),λe=>(by cases e),hw,by show(Gc.at_ g.l k).aC<=n+1;omega,λ_=>nJ,λ_=>hbr,λe=>(by cases e)⟩ (λq hq=>oL held hq)
   (λq hq hqk h1=>by have:=((h.bk q hq).op h1).1;omega) (λ_ j hj _ h4=>⟨h.gap k j hk hj ae h4,h.gap j k hj hk h4 ae⟩) (.inr ⟨k,hk,by rw[e1];exact ho,by rw[at_set _ _ ae]⟩) (λx hx=>by rcases cv.1 hx with h1|h1;exact h.hm x h1;simp at h1;omega) (by rw[bE];have:=h.hl;simp;omega)
theorem Inv.open_ {NB g y held n k bs} (h:Inv NB g held n) (ho:g.opn= -1) (hk:k<NB) (hs:(Gc.at_ g.l k).st=0):Inv NB (JQ (Hu g k) NB y k 0 bs) (held++[k]) (n+1):=by
 have hlen:=h.len;have hb:=h.bk k hk;obtain⟨o1,o2⟩:=hb.fr hs;have hw:=hb.we;have hwn:=hb.wn;have Ho:=hb.lv;have nJ:=hb.bad ae;have hbr:=hb.brk ae;have uQ:Gc.at_ (Hu g k).l k=⟨1,0,(Gc.at_ g.l k).aC,0⟩:=at_set _ _ ae;have e1:(JQ (Hu g k) NB y k 0 bs).opn=(k:Int):=rfl;have e2:(JQ (Hu g k) NB y k 0 bs).l=g.l.set k ⟨1,1,(Gc.at_ g.l k).aC,1⟩:=by unfold JQ;simp only[uQ];show(g.l.set k _).set k _=_;rw[List.set_set];rfl
 refine h.put hk e2 (nN _ _ _) rfl ⟨by show 1<=4;omega,by rw[qc,<-Ho,o1],by show 1<=8;omega,by show 1<=8;omega,λ_=>⟨e1,by show 1<=1;omega,by show 1<8;omega,rfl,by show 1<=1;omega⟩,λe=>(by cases e),λe=>(by cases e),λe=>(by cases e),hw,by show(Gc.at_ g.l k).aC<=n+1;omega,λ_=>nJ,λ_=>hbr,λe=>(by cases e)⟩ (λq hq=>oL held hq)
  (λq hq hqk h1=>by have:=((h.bk q hq).op h1).1;omega) (λ_ j hj _ h4=>⟨h.gap k j hk hj ae h4,h.gap j k hj hk h4 ae⟩) (.inr ⟨k,hk,e1,by rw[at_set _ _ ae]⟩) (λx hx=>by rcases cv.1 hx with h1|h1;exact h.hm x h1;simp at h1;omega) (by rw[bE];have:=h.hl;simp;omega)
theorem Inv.fail {NB g y held n k i bs} (h:Inv NB g held n) (hk:k<NB) (ho:g.opn=k) (hs:(Gc.at_ g.l k).st=1):Inv NB (flG g NB y k i bs) held (n+1):=by
 have hb:=h.bk k hk;obtain⟨o1,o2,o3,o4,o5⟩:=hb.op hs;have hw:=hb.we;have hwn:=hb.wn;have Ho:=hb.lv;have nJ:=hb.bad ae;have hbr:=hb.brk ae;have uF:(Eg (Gc.at_ g.l k)).st=3/\(Gc.at_ g.l k).live=0\/(Eg (Gc.at_ g.l k)).st=2/\0<(Gc.at_ g.l k).live:=by
  show(if (Gc.at_ g.l k).live=0 then 3 else 2)=3/\_\/(if (Gc.at_ g.l k).live=0 then 3 else 2)=2/\_;by_cases e:(Gc.at_ g.l k).live=0
  .exact .inl ⟨ev e,e⟩
  .exact .inr ⟨eo e,ae⟩
 refine h.put (g':=flG g NB y k i bs) (y:=Eg (Gc.at_ g.l k)) hk rfl (nN _ _ _) rfl ⟨ae,Ho,hb.nx,hb.l8,λe=>ae,λe=>ae,λe=>by show 0<(Gc.at_ g.l k).live;omega,λe=>by show(Gc.at_ g.l k).live=0;omega,hw,by show(Gc.at_ g.l k).aC<=n+1;omega,λ_=>nJ,λ_=>hbr,λe=>ae⟩ (λ_ _=>rfl)
  (λq hq hqk h1=>by have:=((h.bk q hq).op h1).1;omega) (λ_ j hj _ h4=>⟨h.gap k j hk hj ae h4,h.gap j k hj hk h4 ae⟩) (.inl rfl) h.hm (by have:=h.hl;omega)
theorem Inv.aly {NB g y held n k bs} (h:Inv NB g held n) (ho:g.opn= -1) (hk:k<NB) (hs:(Gc.at_ g.l k).st=0):Inv NB (flG (Hu g k) NB y k 0 bs) held (n+1):=by
 have hlen:=h.len;have hb:=h.bk k hk;obtain⟨o1,o2⟩:=hb.fr hs;have hw:=hb.we;have hwn:=hb.wn;have Ho:=hb.lv;have nJ:=hb.bad ae;have hbr:=hb.brk ae;have uQ:Gc.at_ (Hu g k).l k=⟨1,0,(Gc.at_ g.l k).aC,0⟩:=at_set _ _ ae;have e2:(flG (Hu g k) NB y k 0 bs).l=g.l.set k ⟨3,0,(Gc.at_ g.l k).aC,0⟩:=by unfold flG Eg;simp only[uQ];show(g.l.set k _).set k _=_;rw[List.set_set];rfl
 refine h.put hk e2 (nN _ _ _) rfl ⟨by show 3<=4;omega,by rw[<-Ho,o1],by show 0<=8;omega,by show 0<=8;omega,λe=>(by cases e),λe=>(by cases e),λe=>(by cases e),λ_=>rfl,hw,by show(Gc.at_ g.l k).aC<=n+1;omega,λ_=>nJ,λ_=>hbr,λe=>(by cases e)⟩ (λ_ _=>rfl)
  (λq hq hqk h1=>by have:=((h.bk q hq).op h1).1;omega) (λ_ j hj _ h4=>⟨h.gap k j hk hj ae h4,h.gap j k hj hk h4 ae⟩) (.inl rfl) h.hm (by have:=h.hl;omega)
def iK (c:Nat->Nat)
 |0=>0
 |k+1=>iK c k+c k
theorem xu {c d k} (h:∀i,i<k->c i=d i):iK c k=iK d k:=by
 induction k with
 |zero=>rfl
 |succ k ih=>show iK c k+c k=iK d k+d k;rw[ih λi hi=>h i ae,h k ae]
theorem alK {c k b} (h:∀i,i<k->c i<=b):iK c k<=k*b:=by
 induction k with
 |zero=>simp[iK]
 |succ k ih=>
  have:=ih λi hi=>h i ae;have:=h k ae;show iK c k+c k<=(k+1)*b;rw[Nat.succ_mul];omega
theorem Inv.ok {NB g held n} (h:Inv NB g held n) (hn:n<=1099511627776):∀k,k<NB->Gc.Ok 8 (Gc.at_ g.l k):=λk hk=>
 let b:=h.bk k hk
 ⟨by have:=b.st;omega,b.l8,b.nx,by have:=b.wn;omega,λe=>by rcases e with e|e|e;exact(b.fr e).1;exact b.sl e;exact(b.bd e).1⟩
theorem Inv.aww {NB g held n} (h:Inv NB g held n) (hN:0<NB):(g.opn= -1\/(0<=g.opn/\g.opn<NB))/\(Gc.at_ g.l g.opn.toNat).nx<=8:=by
 rcases h.opn with e|⟨k,k1,k2,_⟩
 .refine⟨.inl e,?_⟩;rw[e];exact(h.bk 0 ae).nx
 .refine⟨.inr ⟨ae,ae⟩,?_⟩;rw[k2,Int.toNat_natCast];exact(h.bk k k1).nx
theorem Inv.full {NB g held n} (h:Inv NB g held n) (ho:g.opn= -1) (hb:Gc.best jD Gc.iy g.l NB=none):roomOf g=0:=by
 unfold roomOf;rw[ev ho];have:Gc.count 0 g.l=0:=by
  unfold Gc.count;rw[List.length_eq_zero_iff,List.filter_eq_nil_iff];intro x hx;obtain⟨i,hi,rfl⟩:=List.getElem_of_mem hx;have h1:=Gc.vX hb i (by rw[<-h.len];exact hi);have e:Gc.at_ g.l i=g.l[i]:=by rw[Gc.at_,db,cX hi];rfl
  rw[e] at h1;unfold jD at h1;rw[ew] at h1;simp only[decide_eq_true_eq];omega
 rw[this];rfl
end dm
end
section
open RowKit Maps ChangeMaps MapKept
structure En where
 t:Tg
 d:List UInt8
 b:Nat
 i:Nat
instance:Coe En (Array Value):=⟨λx=>#[O aa x.t.k,O .u32 x.t.p,O .u64 x.t.s,O .u64 x.t.e,O aa x.b,O aa x.i]⟩
def WH (b i:Nat):Value:= .agg #[O aa b,O aa i]
theorem uP b i:WH b i= .agg #[O aa b,O aa i]:=rfl
def kyV (p:Nat):Value:=O .u32 p
def aaB (e:En):=(kyV e.t.p,WH e.b e.i)
def DL (l:List En):=l.map aaB
theorem Xu:Keyed prog 64:=int_keyed Tryz.underlying64
theorem zX {p q} (h:kyV p=kyV q):p=q:=by
 unfold kyV at h;injection h with _ h
 omega
theorem ahb {p} (h:p<4294967296):keyOf prog 64 (kyV p)=some (.int .u32 p):=by
 have hw:(Lit.int .u32 p).wf=true:=by simp[Lit.wf,IntKind.min,IntKind.max,IntKind.bits,IntKind.signed];omega
 simp[keyOf,mapKey,Tryz.underlying64,kyV,hw]
theorem als {p kl} (h:keyOf prog 64 (kyV p)=some kl):p<4294967296:=by
 obtain⟨x,h1,_,h3⟩:=Maps.keyOf_int_inv Tryz.underlying64 h;injection h1 with _ h1
 subst h1;simp[Lit.wf,IntKind.min,IntKind.max,IntKind.bits,IntKind.signed] at h3;omega
theorem ng {α β:Type} {f:α->β} {l:List α} (h:(l.map f).Nodup):l.Nodup:=by unfold List.Nodup at h⊢;rw[List.pairwise_map] at h;exact h.imp λh e=>h (by rw[e])
theorem F5 {α β:Type} {f:α->β} {l:List α} (hf:∀a b,f a=f b->a=b) (h:l.Nodup):(l.map f).Nodup:=by unfold List.Nodup at h⊢;rw[List.pairwise_map];exact h.imp λh e=>h (hf _ _ e)
def Uq (l:List En):=(l.map λe=>e.t.p).Nodup
def aI (l:List En) p:=l.find? λe=>e.t.p==p
def dA l e:=if (aI l e.t.p).isSome then l.map (λx=>if x.t.p=e.t.p then e else x) else l++[e]
def kQ (l:List En) p:=l.filter λx=>x.t.p !=p
theorem KF {l}:((DL l).map (·.1)).Nodup↔Uq l:=by
 unfold DL Uq;rw[cW];have e:∀l:List En,l.map ((·.1)∘aaB)=(l.map λe=>e.t.p).map kyV:=λl=>by rw[cW];rfl
 rw[e];constructor
 ·intro h;exact ng h
 ·intro h;exact F5 (λ_ _=>zX) h
theorem dW {l p e} (h:aI l p=some e):e∈l/\e.t.p=p:=by unfold aI at h;grind
theorem kJ {l p} (h:aI l p=none):∀e∈l,e.t.p≠p:=λe he=>by
 unfold aI at h;have:=(List.find?_eq_none.1 h) e he
 simpa using this
theorem uM {l} (h:Uq l) {x y} (hx:x∈l) (hy:y∈l) (e:x.t.p=y.t.p):x=y:=by
 induction l with
 |nil=>cases hx
 |cons z t ih=>
  unfold Uq at h ih;grind
theorem zT {l} (h:Uq l) {e} (he:e∈l):aI l e.t.p=some e:=by
 cases hg:aI l e.t.p with
 |none=>exact absurd rfl (kJ hg e he)
 |some x=>
  obtain⟨h1,h2⟩:=dW hg;rw[uM h h1 he h2]
theorem rP {l p} (h:∀e∈l,e.t.p≠p):aI l p=none:=by
 unfold aI;rw[List.find?_eq_none];intro x hx
 simpa using h x hx
theorem wW {l1 l2 e0} (h:Uq (l1++e0::l2)):(∀x∈l1,x.t.p≠e0.t.p)/\∀x∈l2,x.t.p≠e0.t.p:=by unfold Uq at h;grind
theorem JL {l1 l2 e0 e} (h:Uq (l1++e0::l2)) (hp:e0.t.p=e.t.p):dA (l1++e0::l2) e=l1++e::l2:=by
 obtain⟨h1,h2⟩:=wW h;have hg:aI (l1++e0::l2) e.t.p=some e0:=by rw[<-hp];exact zT h au
 unfold dA;rw[hg,ev Option.isSome_some,cA,cE,ev hp];have e1:∀m:List En,(∀x∈m,x.t.p≠e0.t.p)->m.map (λx=>if x.t.p=e.t.p then e else x)=m:=λm hm=>by
  conv=>rhs;rw[<-List.map_id m]
  exact dp λx hx=>eo (by rw[<-hp];exact hm x hx)
 rw[e1 l1 h1,e1 l2 h2]
theorem o7 {l e} (h:∀x∈l,x.t.p≠e.t.p):dA l e=l++[e]:=by unfold dA;rw[rP h];rfl
theorem ab7 {l1 l2 e0} (h:Uq (l1++e0::l2)):kQ (l1++e0::l2) e0.t.p=l1++l2:=by obtain⟨h1,h2⟩:=wW h;unfold kQ;rw[List.filter_append,List.filter_cons_of_neg au];rw[List.filter_eq_self.2 (λx hx=>by simpa using h1 x hx),List.filter_eq_self.2 (λx hx=>by simpa using h2 x hx)]
theorem ahc {l p} (h:∀x∈l,x.t.p≠p):kQ l p=l:=List.filter_eq_self.2 λx hx=>by simpa using h x hx
theorem alu {l e L} (h:Uq l) (hP:rD (DL l) (kyV e.t.p) (WH e.b e.i) L):L=DL (dA l e):=by
 rcases hP with⟨l1,v0,l2,e1,rfl⟩|⟨h1,rfl⟩
 ·unfold DL at e1;obtain⟨m1,m2,rfl,rfl,e3⟩:=List.map_eq_append_iff.1 e1;obtain⟨e0,m3,rfl,e4,rfl⟩:=List.map_eq_cons_iff.1 e3;have hp:e0.t.p=e.t.p:=zX (congrArg Prod.fst e4);rw[JL h hp];unfold DL;rw[cA,cE];rfl
 ·rw[o7 λx hx e1=>h1 (aaB x) (bw.2 ⟨x,hx,rfl⟩) (by rw[<-e1];rfl)];unfold DL;rw[cA];rfl
theorem alv {l p L} (h:Uq l) (hP:afI (DL l) (kyV p) L):L=DL (kQ l p):=by
 rcases hP with⟨l1,v0,l2,e1,rfl⟩|⟨h1,rfl⟩
 ·unfold DL at e1;obtain⟨m1,m2,rfl,rfl,e3⟩:=List.map_eq_append_iff.1 e1;obtain⟨e0,m3,rfl,e4,rfl⟩:=List.map_eq_cons_iff.1 e3;obtain rfl:e0.t.p=p:=zX (congrArg Prod.fst e4);rw[ab7 h];unfold DL;rw[cA]
 ·rw[ahc λx hx e1=>h1 (aaB x) (bw.2 ⟨x,hx,rfl⟩) (by rw[<-e1];rfl)]
theorem WV l e:(dA l e).length=l.length+(if (aI l e.t.p).isSome then 0 else 1):=by
 unfold dA
 split<;>simp
theorem ahd {l e x} (h:x∈dA l e):x=e\/x∈l:=by
 unfold dA at h;grind
def dH w b l:=MapAt prog 64 w b (DL l)
def jH w b r l d:=fQ prog 64 w b r (DL l) (DL d)/\∀x∈d,x∈l
def plO:Option En->Value
 |none=>WH 0 0
 |some e=>WH e.b e.i
theorem aqS w:(zeroValue 247).run prog w= .ok (WH 0 0) w:=az
section
variable {w w':World} {b r:Nat} {l d:List En}
theorem dH.uq (h:dH w b l):Uq l:=KF.1 (MapAt.nodup h)
theorem dH.lt (h:dH w b l):b<w:=MapAt.lt h
theorem dH.on (h:dH w b l) (hb:Below w w w'):dH w' b l:=MapAt.on h hb
theorem dH.same (h:dH w b l) (hb:w'.heap[b]?=w.heap[b]?):dH w' b l:=MapAt.same h hb
theorem dH.made (w:World):dH (w.alloc (.map #[] 0)) w []:=MapAt.made w
theorem dH.key (h:dH w b l) {e} (he:e∈l):e.t.p<4294967296:=by obtain⟨_,_,_,_,_,_,_,h7⟩:=h;obtain⟨kl,hkl⟩:=h7 (aaB e) (bw.2 ⟨e,he,rfl⟩);exact als hkl
theorem dH.look (h:dH w b l) {p:Nat} (hp:p<4294967296) ok:
  (Instr.lookup 222 (.map (some b)) (O .u32 p) ok).run prog w= .ok (if ok then ao #[plO (aI l p),aq (aI l p).isSome] else plO (aI l p)) w:=by
 obtain⟨v,f,bF,hv⟩:=MapAt.look h Xu Tryz.underlying222 (aqS w) (ahb hp) ok;have e:v=plO (aI l p)/\f=(aI l p).isSome:=by
  rcases hv with⟨rfl,hv⟩|⟨rfl,rfl,hv⟩
  ·obtain⟨x,hx,e1⟩:=bw.1 hv;obtain rfl:x.t.p=p:=zX (congrArg Prod.fst e1);rw[zT h.uq hx];exact⟨(congrArg Prod.snd e1).symm,rfl⟩
  ·rw[rP λx hx e1=>hv (aaB x) (bw.2 ⟨x,hx,rfl⟩) (by rw[<-e1];rfl)];exact⟨rfl,rfl⟩
 obtain⟨rfl,rfl⟩:=e;exact bF
theorem dH.put (h:dH w b l) e (hp:e.t.p<4294967296):
  ∃o,(Instr.mapUpdate 222 (.map (some b)) (O .u32 e.t.p) (WH e.b e.i)).run prog w= .ok () (setBlock w b o)/\dH (setBlock w b o) b (dA l e)/\w.grownBy (setBlock w b o) (some b):=by
 obtain⟨l',o,bF,hP,hm,hg⟩:=MapAt.put h Xu Tryz.underlying222 (ahb hp) (WH e.b e.i);refine⟨o,bF,?_,hg⟩;rw[alu h.uq hP] at hm;exact hm
theorem dH.del (h:dH w b l) {p:Nat} (hp:p<4294967296) ty:
  ∃o,(Builtin.delete_ #[222,64] ty #[.map (some b),O .u32 p]).run prog w= .ok (ao #[]) (setBlock w b o)/\dH (setBlock w b o) b (kQ l p)/\w.grownBy (setBlock w b o) (some b):=by
 obtain⟨l',o,bF,hP,hm,hg⟩:=MapAt.del h Xu Tryz.underlying222 (ahb hp) ty;refine⟨o,bF,?_,hg⟩;rw[alv h.uq hP] at hm;exact hm
theorem dH.size (h:dH w b l):∃es clock,w.heap[b]?=some (.map es clock)/\es.size=l.length:=by grind[dH,DL,MapAt.size]
theorem jH.SQ (h:jH w b r l d):dH w b l:=h.1.ane
theorem jH.on (h:jH w b r l d) (hb:Below w w w'):jH w' b r l d:=⟨h.1.on hb,h.2⟩
theorem jH.same (h:jH w b r l d) (h1:w'.heap[b]?=w.heap[b]?) (h2:w'.heap[r]?=w.heap[r]?):jH w' b r l d:=⟨h.1.same h1 h2,h.2⟩
theorem jH.ltr (h:jH w b r l d):r<w:=h.1.ltr
theorem jH.ltb (h:jH w b r l d):b<w:=h.1.ltb
theorem jH.all (h:jH w b r l d) (hp:(DL d).Perm (DL l)):d.Perm l:=by
 have hl:=h.SQ.uq;have h1:∀{m:List En},(DL m).Nodup->m.Nodup:=λhm=>ng hm;have n1:=uK (KF.2 hl);refine(List.perm_ext_iff_of_nodup (h1 (hp.nodup_iff.2 n1)) (h1 n1)).2 λx=>⟨h.2 x,λhx=>?_⟩
 have h2:aaB x∈DL d:=hp.mem_iff.2 (bw.2 ⟨x,hx,rfl⟩);obtain⟨y,hy,e⟩:=bw.1 h2;rw[<-uM hl (h.2 y hy) hx (zX (congrArg Prod.fst e))];exact hy
theorem jH.rest (h:jH w b r l d):∃rest,(d++rest).Perm l:=by
 classical
 have h1:∀{m:List En},(DL m).Nodup->m.Nodup:=λhm=>ng hm;have nl:=h1 (uK (KF.2 h.SQ.uq));have nd:d.Nodup:=by grind[jH,fQ]
 refine⟨l.filter λx=>decide (x∉d),(List.perm_ext_iff_of_nodup ?_ nl).2 λx=>?_⟩
 ·grind
 grind[jH]
end
section
variable (w:World) {ops:Array Oper} {rest:List Oper} {o:Oper} {a:Act} {Q:Exit->Act->World->Prop}
theorem jl (hg:o.guard=none) m (wJ:o.op=Op.range 222 m) b l (hm:a.eval m= .map (some b)) (h:dH w b l)
  (hK:∀w',Hid (jH w' b w l [])->Hid (Below w w w')->w'=w.heap.size+1->wpList prog ops Q rest (a.put o.dst w) w'):
  wpList prog ops Q (o::rest) a w:=by grind[dH,jH,DL,Iz,Go.Proofs.Tryz.underlying222]
theorem jK (hg:o.guard=none) it (wJ:o.op=Op.next it false) b r l d (wK:a.eval it= .pointer (some ⟨r,0,none⟩)) (h:jH w b r l d)
  (KD:Hid (d.Perm l)->wpList prog ops Q rest (a.put o.dst (ao #[aq false])) w)
  (KE:∀e w',Hid (e∈l/\e∉d)->Hid (jH w' b r l (d++[e]))->Hid (w.grownBy w' (some r))->w'=w.heap.size->Hid (w'.rangeLeft b r<w.rangeLeft b r)->(Instr.entry r).run prog w'= .ok (ao #[O .u32 e.t.p,WH e.b e.i]) w'->wpList prog ops Q rest (a.put o.dst (ao #[aq true,O .u32 e.t.p,WH e.b e.i])) w'):
  wpList prog ops Q (o::rest) a w:=by
 refine KC w hg it wJ 64 b r _ _ wK h.1 (λh1=>KD (ag (h.all h1.o))) λp w' h1 h2 h3 h4 h5 h6=>?_;obtain⟨hp,hd⟩:=h1.o;obtain⟨e,he,rfl⟩:=bw.1 hp;refine KE e w' (ag ⟨he,λh7=>hd (bw.2 ⟨e,h7,rfl⟩)⟩) (ag ⟨?_,λx hx=>?_⟩) h3 h4 h5 h6
 ·have:=h2.o;unfold DL at this⊢;grind
 ·rcases cv.1 hx with h8|h8
  ·exact h.2 x h8
  grind
end
end
section
open RowKit Maps ChangeMaps
theorem jq.kq {α f T w w' B n a} {xs:List α} (h:jq f w B a n xs) (hB:B<=w) (hk:Kq T w w') (hT:∀b o,a=some ⟨b,o,none⟩->¬T b):jq f w' B a n xs:=by obtain⟨h1,h2,h3⟩:=h;refine⟨h1,h2,λhn=>?_⟩;obtain⟨b,o,ha,aT,hc⟩:=h3 hn;exact⟨b,o,ha,aT,λi hi=>(World.cell?_of_block (a:=⟨b,_,none⟩) (hk.block b ae (hT b o ha))).trans (hc i hi)⟩
def TxA w tv tx:=(∃B,Own aJ 5 w B tv tx)\/((∃a n c,tv=an a n c/\Bytes w w a n tx)/\∀q,tv.ownBlock=some q->q<w)
theorem TxA.of {w B tv tx} (h:Own aJ 5 w B tv tx):TxA w tv tx:= .inl ⟨B,h⟩
theorem TxA.lt {w tv tx} (h:TxA w tv tx) q (hq:tv.ownBlock=some q):q<w:=by
 rcases h with⟨B,h⟩|⟨_,h⟩
 ·exact(h.aN q hq).2
 ·exact h q hq
theorem TxA.kq {T w w' tv tx} (h:TxA w tv tx) (hk:Kq T w w') (hT:∀q,tv.ownBlock=some q->¬T q):TxA w' tv tx:=by
 rcases h with⟨B,h⟩|⟨⟨a,n,c,h1,h2⟩,h3⟩
 ·exact .inl ⟨B,h.kq hk hT⟩
 ·exact .inr ⟨⟨a,n,c,h1,(h2.kq av hk λb o e=>hT b (by rw[h1,e];rfl)).mono hk.size⟩,λq hq=>cM (h3 q hq) hk.size⟩
structure Fm where
 F:Nat
 SE:Nat
 NO:Nat
 GO:Nat
 LA:Nat
 g:Mg
 se:List En
 no:List En
 go:List En
 seq:Nat
 ep:Nat
 tv:Value
 tx:List UInt8
 ov:Bool
def Qp (NB:Nat) (f:Fm):=#[.pointer (some ⟨f.g.C,0,none⟩),.pointer (some ⟨f.g.M,0,none⟩),O aa f.g.res,O aa f.g.bad,f.tv,.map (some f.SE),.map (some f.NO),.map (some f.GO),O .u64 f.seq,O .u64 f.ep,an (f.LA,0) NB NB,aq f.ov]
def Hb (f:Fm) q:=q=f.F\/q=f.SE\/q=f.NO\/q=f.GO\/q=f.LA\/f.tv.ownBlock=some q
structure FtC NB B S w f:Prop where
 hF:aF w f.F 225 (Qp NB f)
 hS:dH w f.SE f.se
 hN:dH w f.NO f.no
 hG:dH w f.GO f.go
 hL:Own pW 4 w 0 (an (f.LA,0) NB NB) (bt NB false)
 hT:TxA w f.tv f.tx
 hg:fF NB B S w f.g
 nd:[f.F,f.SE,f.NO,f.GO,f.LA].Nodup
 nt:∀q,f.tv.ownBlock=some q->q∉[f.F,f.SE,f.NO,f.GO,f.LA]
 ns:∀q,Hb f q->¬Sm f.g S q
 lo:∀q,Hb f q->B<=q
section
variable {NB B:Nat} {S S' T:Nat->Prop} {w w':World} {f:Fm}
theorem FtC.hi (h:FtC NB B S w f) {q} (hq:Hb f q):q<w:=by
 rcases hq with rfl|rfl|rfl|rfl|rfl|hq
 ·exact h.hF.lt
 ·exact h.hS.lt
 ·exact h.hN.lt
 ·exact h.hG.lt
 ·exact(h.hL.aN _ rfl).2
 ·exact h.hT.lt _ hq
theorem FtC.kq (h:FtC NB B S w f) (hk:Kq T w w') (hT:∀q,Hb f q\/Sm f.g S q->¬T q):FtC NB B S w' f:=by have hb:∀{q},Hb f q->w'.heap[q]?=w.heap[q]?:=λhq=>hk.block _ (h.hi hq) (hT _ (.inl hq));refine⟨h.hF.kq hk (hT _ (.inl (.inl rfl))),h.hS.same (hb (.inr (.inl rfl))),h.hN.same (hb (.inr (.inr (.inl rfl)))),h.hG.same (hb (.inr (.inr (.inr (.inl rfl))))),h.hL.kq hk λq hq=>?_,h.hT.kq hk λq hq=>hT q (.inl (.inr (.inr (.inr (.inr (.inr hq)))))),h.hg.kq hk λq hq=>hT q (.inr hq),h.nd,h.nt,h.ns,h.lo⟩;obtain rfl:=dP _ _ _ _ hq;exact hT _ (.inl (.inr (.inr (.inr (.inr (.inl rfl))))))
theorem FtC.mgr {g2} (h:FtC NB B S w f) (hm:fF NB B S' w' g2) (hk:Kq (Sm f.g S) w w') (hS:∀q,S' q->Up S w w' q) (h1:g2.M=f.g.M) (h2:g2.ML=f.g.ML) (h3:g2.C=f.g.C) (h4:g2.res=f.g.res) (h5:g2.bad=f.g.bad):FtC NB B S' w' {f with g:=g2}:=by
 have hb:∀{q},Hb f q->w'.heap[q]?=w.heap[q]?:=λhq=>hk.block _ (h.hi hq) (h.ns _ hq);refine⟨?_,h.hS.same (hb (.inr (.inl rfl))),h.hN.same (hb (.inr (.inr (.inl rfl)))),h.hG.same (hb (.inr (.inr (.inr (.inl rfl))))),h.hL.kq hk λq hq=>?_,h.hT.kq hk λq hq=>h.ns q (.inr (.inr (.inr (.inr (.inr hq))))),hm,h.nd,h.nt,λq hq hs=>?_,h.lo⟩
 ·have:=h.hF.kq hk (h.ns _ (.inl rfl));unfold Qp at this⊢;grind
 ·obtain rfl:=dP _ _ _ _ hq;exact h.ns _ (.inr (.inr (.inr (.inr (.inl rfl)))))
 ·have aT:=h.hi hq;rcases hs with e|e|e
  ·exact h.ns q hq (.inl (e.trans h1))
  ·exact h.ns q hq (.inr (.inl (e.trans h2)))
  ·exact h.ns q hq (.inr (.inr (fA (hS q e) aT)))
theorem FtC.avW (h:FtC NB B S w f) {q} (hq:Sm f.g S q):q<w:=h.hg.hi q hq
end
def cu (NB B:Nat) (R:Nat->Prop) (w:World) f:=∃S,FtC NB B S w f/\(∀q,Hb f q\/Sm f.g S q->R q)/\∀q,R q->B<=q/\q<w
def oq NB B R w w' f:=cu NB B (Up R w w') w' f/\Kq R w w'
section
variable {NB B:Nat} {R T:Nat->Prop} {w w' w1 w2:World} {f f1 f2:Fm}
theorem cu.kq (h:cu NB B R w f) (hk:Kq T w w') (hT:∀q,R q->¬T q):cu NB B R w' f:=by obtain⟨S,h1,h2,h3⟩:=h;exact⟨S,h1.kq hk λq hq=>hT q (h2 q hq),h2,λq hq=>⟨(h3 q hq).1,cM (h3 q hq).2 hk.size⟩⟩
theorem cu.on (h:cu NB B R w f) (hb:Below w w w'):cu NB B R w' f:=h.kq (T:=λ_=>False) (Kq.of hb) λ_ _ h=>h
theorem cu.more {R'} (h:cu NB B R w f) (h1:∀q,R q->R' q) (h2:∀q,R' q->B<=q/\q<w):cu NB B R' w f:=by obtain⟨S,a1,a2,_⟩:=h;exact⟨S,a1,λq hq=>h1 q (a2 q hq),h2⟩
theorem cu.bnd (h:cu NB B R w f):∀q,R q->B<=q/\q<w:=by obtain⟨S,_,_,h3⟩:=h;exact h3
theorem cu.ghost (h:cu NB B R w f) P:cu NB B R w {f with g:={f.g with gh:=P}}:=by obtain⟨S,a,h2,h3⟩:=h;exact⟨S,⟨a.hF,a.hS,a.hN,a.hG,a.hL,a.hT,a.hg.ghost P,a.nd,a.nt,a.ns,a.lo⟩,h2,h3⟩
theorem cu.ltF (h:cu NB B R w f):f.F<w:=by obtain⟨S,h1,_⟩:=h;exact h1.hF.lt
theorem cu.base (h:cu NB B R w f):B<=w:=by obtain⟨S,h1,_⟩:=h;have:=h1.lo _ (.inl rfl);have:=h1.hF.lt;omega
theorem cu.inF (h:cu NB B R w f):R f.F:=by obtain⟨S,_,h2,_⟩:=h;exact h2 _ (.inl (.inl rfl))
theorem cu.hF (h:cu NB B R w f):aF w f.F 225 (Qp NB f):=by obtain⟨S,h1,_⟩:=h;exact h1.hF
theorem cu.hS (h:cu NB B R w f):dH w f.SE f.se:=by obtain⟨S,h1,_⟩:=h;exact h1.hS
theorem cu.hN (h:cu NB B R w f):dH w f.NO f.no:=by obtain⟨S,h1,_⟩:=h;exact h1.hN
theorem cu.hG (h:cu NB B R w f):dH w f.GO f.go:=by obtain⟨S,h1,_⟩:=h;exact h1.hG
theorem cu.hL (h:cu NB B R w f):Own pW 4 w 0 (an (f.LA,0) NB NB) (bt NB false):=by obtain⟨S,h1,_⟩:=h;exact h1.hL
theorem cu.mg (h:cu NB B R w f):∃S,fF NB B S w f.g/\∀q,Sm f.g S q->R q:=by obtain⟨S,h1,h2,_⟩:=h;exact⟨S,h1.hg,λq hq=>h2 q (.inr hq)⟩
theorem cu.c0 (h:cu NB B R w f):w.cell? (f.F,0)=some (.pointer (some ⟨f.g.C,0,none⟩)):=h.hF.aj rfl
theorem cu.c1 (h:cu NB B R w f):w.cell? (f.F,1)=some (.pointer (some ⟨f.g.M,0,none⟩)):=h.hF.aj rfl
theorem cu.c2 (h:cu NB B R w f):w.cell? (f.F,2)=some (O aa f.g.res):=h.hF.aj rfl
theorem cu.c3 (h:cu NB B R w f):w.cell? (f.F,3)=some (O aa f.g.bad):=h.hF.aj rfl
theorem cu.c4 (h:cu NB B R w f):w.cell? (f.F,4)=some f.tv:=h.hF.aj rfl
theorem cu.c5 (h:cu NB B R w f):w.cell? (f.F,5)=some (.map (some f.SE)):=h.hF.aj rfl
theorem cu.c6 (h:cu NB B R w f):w.cell? (f.F,6)=some (.map (some f.NO)):=h.hF.aj rfl
theorem cu.c7 (h:cu NB B R w f):w.cell? (f.F,7)=some (.map (some f.GO)):=h.hF.aj rfl
theorem cu.c8 (h:cu NB B R w f):w.cell? (f.F,8)=some (O .u64 f.seq):=h.hF.aj rfl
theorem cu.c9 (h:cu NB B R w f):w.cell? (f.F,9)=some (O .u64 f.ep):=h.hF.aj rfl
theorem cu.c10 (h:cu NB B R w f):w.cell? (f.F,10)=some (an (f.LA,0) NB NB):=h.hF.aj rfl
theorem cu.c11 (h:cu NB B R w f):w.cell? (f.F,11)=some (aq f.ov):=h.hF.aj rfl
theorem cu.frz (h:cu NB B R w f) i:w.frozen? ⟨f.F,i,none⟩=false:=h.hF.frozen i
theorem alx {R w q} (h:Up R w w q):R q:=by rcases h with h|h;exact h;omega
theorem cu.refl (h:cu NB B R w f):oq NB B R w w f:=⟨h.more (λ_ hq=> .inl hq) λq hq=>h.bnd q (alx hq),Kq.refl _ _⟩
theorem acf {R w w1 w2} (h1:w.heap.size<=w1.heap.size) (h2:w1.heap.size<=w2.heap.size) {q} (h:Up (Up R w w1) w1 w2 q):Up R w w2 q:=by grind[Up]
theorem oq.aA (h:oq NB B R w w1 f1) (k:oq NB B (Up R w w1) w1 w2 f2):oq NB B R w w2 f2:=by grind[oq,Up,cu,Kq.size,acf,Kq.aA]
theorem oq.on (h:oq NB B R w w1 f) (hb:Below w1 w1 w2) (hB:B<=w):oq NB B R w w2 f:=by
 have hs:=hb.size;refine⟨(h.1.on hb).more (λq hq=>?_) λq hq=>?_,h.2.on hb⟩
 ·grind[Up]
 ·rcases hq with h1|h1
  ·have:=h.1.bnd q (.inl h1);omega
  ·omega
theorem oq.step (h:oq NB B R w w1 f) (h1:cu NB B (Up R w w1) w2 f2) (h2:Kq (Up R w w1) w1 w2):oq NB B R w w2 f2:=by
 have hs:=h2.size;refine⟨h1.more (λq hq=>?_) λq hq=>?_,h.2.aA h2 λq hq=>?_⟩
 ·grind[Up]
 ·rcases hq with h3|h3
  ·exact h1.bnd q (.inl h3)
  ·have:=h.1.bnd;rcases Nat.lt_or_ge q w1 with h4|h4
   ·grind[Up]
   ·have hb:B<=w1.heap.size:=h.1.base;omega
 grind[Up]
theorem oq.from_ (hb:Below w w w1) (h:oq NB B R w1 w2 f) (hB:B<=w):oq NB B R w w2 f:=by
 have hs:=hb.size;refine⟨h.1.more (λq hq=>?_) λq hq=>?_,(Kq.of hb).trans h.2⟩
 ·grind[Up]
 grind[oq,cu,Up]
theorem oq.tail {w3} (hb:Below w w w1) (h:oq NB B R w1 w2 f) (hB:B<=w) (hk:Kq T w2 w3) (hT:∀q,T q->w<=q/\q<w1/\¬R q):oq NB B R w w3 f:=by
 have hs:=hb.size;have mQ:=hk.size;have h1:=h.1.kq hk λq hq ht=>by grind[Up]
 refine⟨h1.more (λq hq=>?_) λq hq=>?_,((Kq.of hb).trans h.2).aA hk λq hq=> .inr (hT q hq).1⟩
 ·grind[Up]
 grind[cu,Up]
theorem cu.aV (h:cu NB B R w f) {q} (hq:w.heap.size<=q):¬R q:=λh1=>by have:=(h.bnd q h1).2;omega
theorem oq.blk {q t cs} (h:oq NB B R w w1 f) (hb:aF w q t cs) (hq:¬R q):aF w1 q t cs:=hb.kq h.2 hq
theorem oq.own {α v e b x} {xs:List α} (h:oq NB B R w w1 f) (ho:Own v e w b x xs) (hx:∀q,x.ownBlock=some q->¬R q):Own v e w1 b x xs:=ho.kq h.2 hx
theorem oq.far {q} (_:oq NB B R w w1 f) (hq:¬R q) (hl:q<w):¬Up R w w1 q:=λh1=>hq (fA h1 hl)
theorem Gf {S S' g2} (a1:FtC NB B S w f) (a2:∀q,Hb f q\/Sm f.g S q->R q) (a3:∀q,R q->B<=q/\q<w) (b1:fF NB B S' w' g2) (b2:Kq (Sm f.g S) w w') (b3:∀q,S' q->Up S w w' q) (h1:g2.M=f.g.M) (h2:g2.ML=f.g.ML) (h3:g2.C=f.g.C) (h4:g2.res=f.g.res) (h5:g2.bad=f.g.bad):oq NB B R w w' {f with g:=g2}:=by
 have hs:=b2.size;have h0:B<=w.heap.size:=by have:=a1.lo _ (.inl rfl);have:=a1.hF.lt;omega
 refine⟨⟨S',a1.mgr b1 b2 b3 h1 h2 h3 h4 h5,λq hq=>?_,λq hq=>?_⟩,b2.mono λq hq=>a2 q (.inr hq)⟩
 ·rcases hq with hq|hq
  ·exact .inl (a2 q (.inl hq))
  ·rcases hq with e|e|e
   ·exact .inl (a2 q (.inr (.inl (e.trans h1))))
   ·exact .inl (a2 q (.inr (.inr (.inl (e.trans h2)))))
   ·rcases b3 q e with e2|e2
    ·exact .inl (a2 q (.inr (.inr (.inr e2))))
    ·exact .inr e2
 ·rcases hq with hq|hq
  ·have:=a3 q hq;omega
  ·omega
theorem JP {S g2} (a1:FtC NB B S w f) (a2:∀q,Hb f q\/Sm f.g S q->R q) (a3:∀q,R q->B<=q/\q<w) (b1:fF NB B S w' g2) (b2:Kq (Sm f.g S) w w') (h1:g2.M=f.g.M) (h2:g2.ML=f.g.ML) (h3:g2.C=f.g.C) (h4:g2.res=f.g.res) (h5:g2.bad=f.g.bad):cu NB B R w' {f with g:=g2}/\Kq R w w':=by
 refine⟨⟨S,a1.mgr b1 b2 (λ_ h=> .inl h) h1 h2 h3 h4 h5,λq hq=>?_,λq hq=>⟨(a3 q hq).1,cM (a3 q hq).2 b2.size⟩⟩,b2.mono λq hq=>a2 q (.inr hq)⟩;rcases hq with hq|hq
 ·exact a2 q (.inl hq)
 ·rcases hq with e|e|e
  ·exact a2 q (.inr (.inl (e.trans h1)))
  ·exact a2 q (.inr (.inr (.inl (e.trans h2))))
  ·exact a2 q (.inr (.inr (.inr e)))
theorem cu.toR {f1} (h0:cu NB B R w f1) (h:cu NB B R w' f) (hk:Kq R w w'):oq NB B R w w' f:=by
 have hb:=h0.base;refine⟨h.more (λq hq=> .inl hq) λq hq=>?_,hk⟩;grind[cu,Up]
theorem cu.aqn (h:cu NB B R w f) i u f' (hA:(Qp NB f).setIfInBounds i u=Qp NB f') (h1:f'.F=f.F) (h2:f'.SE=f.SE) (h3:f'.NO=f.NO) (h4:f'.GO=f.GO) (h5:f'.LA=f.LA) (h6:f'.g=f.g) (h7:f'.se=f.se) (h8:f'.no=f.no) (h9:f'.go=f.go) (J6:f'.tv=f.tv) (Zg:f'.tx=f.tx):cu NB B R (w.setCell (f.F,i) u) f':=by
 obtain⟨S,a1,a2,a3⟩:=h;have hq:Kq (λq=>q=f.F) w (w.setCell (f.F,i) u):=Kq.one ⟨_,_,none⟩ _;have nd:=a1.nd;simp only[cR,bS,cY,or_false,not_or] at nd;obtain⟨⟨n1,n2,n3,n4⟩,_⟩:=nd;have di:∀q,q≠f.F->(w.setCell (f.F,i) u).heap[q]?=w.heap[q]?:=λq hq=>heap_setCell_other _ _ _ _ (by simpa using hq);refine⟨S,⟨?_,?_,?_,?_,?_,?_,?_,?_,?_,?_,?_⟩,?_,λq hq=>by simpa using a3 q hq⟩
 ·rw[h1,<-hA];exact a1.hF.set i u
 ·rw[h2,h7];exact a1.hS.same (di _ (Ne.symm n1))
 ·rw[h3,h8];exact a1.hN.same (di _ (Ne.symm n2))
 ·rw[h4,h9];exact a1.hG.same (di _ (Ne.symm n3))
 ·rw[h5];exact a1.hL.kq hq λq hq=>by obtain rfl:=dP _ _ _ _ hq;exact Ne.symm n4
 ·rw[J6,Zg];exact a1.hT.kq hq λq hq e=>a1.nt q hq (by rw[e];simp)
 ·rw[h6];exact a1.hg.kq hq λq hq e=>a1.ns _ (.inl rfl) (e▸hq)
 ·grind
 ·rw[h1,h2,h3,h4,h5,J6];exact a1.nt
 ·unfold Hb;rw[h1,h2,h3,h4,h5,h6,J6];exact a1.ns
 ·unfold Hb;rw[h1,h2,h3,h4,h5,J6];exact a1.lo
 ·unfold Hb;rw[h1,h2,h3,h4,h5,h6,J6];exact a2
theorem cu.ahe (h:cu NB B R w f) {b} (hg:w.grownBy w' (some b)) (hs:w'=w.heap.size) f' (hA:Qp NB f'=Qp NB f) (h1:f'.F=f.F) (h2:f'.SE=f.SE) (h3:f'.NO=f.NO) (h4:f'.GO=f.GO) (h5:f'.LA=f.LA) (h6:f'.g=f.g) (J6:f'.tv=f.tv) (Zg:f'.tx=f.tx)
  (hb:b=f.SE\/b=f.NO\/b=f.GO) (k1:if b=f.SE then dH w' b f'.se else f'.se=f.se) (k2:if b=f.NO then dH w' b f'.no else f'.no=f.no) (k3:if b=f.GO then dH w' b f'.go else f'.go=f.go):cu NB B R w' f'/\Kq R w w':=by
 obtain⟨S,a1,a2,a3⟩:=h;have hbH:Hb f b:=by
  rcases hb with e|e|e
  ·exact .inr (.inl e)
  ·exact .inr (.inr (.inl e))
  ·exact .inr (.inr (.inr (.inl e)))
 have hq:Kq (λq=>q=b) w w':=(Kq.grown hg).mono λq e=>(Option.some.inj e).symm;have nd:=a1.nd;simp only[cR,bS,cY,or_false,not_or] at nd;obtain⟨⟨n1,n2,n3,n4⟩,⟨n5,n6,n7⟩,⟨n8,n9⟩,n10,_⟩:=nd;have di:∀q,q<w.heap.size->q≠b->w'.heap[q]?=w.heap[q]?:=λq hl hq=>hg.block q hl λe=>hq (Option.some.inj e);have hbm:b∈[f.SE,f.NO,f.GO]:=by simpa using hb
 refine⟨⟨S,⟨?_,?_,?_,?_,?_,?_,?_,?_,?_,?_,?_⟩,?_,λq hq=>by rw[hs];exact a3 q hq⟩,hq.mono λq e=>e▸a2 b (.inl hbH)⟩
 ·rw[h1,hA];exact a1.hF.kq hq (by grind)
 ·rw[h2];by_cases e:b=f.SE
  ·grind
  ·rw[eo e] at k1;rw[k1];exact a1.hS.same (di _ a1.hS.lt (Ne.symm e))
 ·rw[h3];by_cases e:b=f.NO
  ·grind
  ·rw[eo e] at k2;rw[k2];exact a1.hN.same (di _ a1.hN.lt (Ne.symm e))
 ·rw[h4];by_cases e:b=f.GO
  ·grind
  ·rw[eo e] at k3;rw[k3];exact a1.hG.same (di _ a1.hG.lt (Ne.symm e))
 ·rw[h5];exact a1.hL.kq hq λq hq=>by obtain rfl:=dP _ _ _ _ hq;grind
 ·rw[J6,Zg];exact a1.hT.kq hq λq hq e=>a1.nt q hq (by grind)
 ·rw[h6];exact a1.hg.kq hq λq hq e=>a1.ns _ hbH (e▸hq)
 ·grind
 ·rw[h1,h2,h3,h4,h5,J6];exact a1.nt
 ·unfold Hb;rw[h1,h2,h3,h4,h5,h6,J6];exact a1.ns
 ·unfold Hb;rw[h1,h2,h3,h4,h5,J6];exact a1.lo
 ·unfold Hb;rw[h1,h2,h3,h4,h5,h6,J6];exact a2
theorem cu.yU (h:cu NB B R w f) k:cu NB B R (w.setCell (f.LA,k) (aq false)) f/\Kq R w (w.setCell ⟨f.LA,k,none⟩ (aq false)):=by
 obtain⟨S,a1,a2,a3⟩:=h;have hLH:Hb f f.LA:= .inr (.inr (.inr (.inr (.inl rfl))));have hq:Kq (λq=>q=f.LA) w (w.setCell (f.LA,k) (aq false)):=Kq.one ⟨_,_,none⟩ _;have nd:=a1.nd;simp only[cR,bS,cY,or_false,not_or] at nd;obtain⟨⟨n1,n2,n3,n4⟩,⟨n5,n6,n7⟩,⟨n8,n9⟩,n10,_⟩:=nd;have di:∀q,q≠f.LA->(w.setCell (f.LA,k) (aq false)).heap[q]?=w.heap[q]?:=λq hq=>heap_setCell_other _ _ _ _ (by simpa using hq);have hL:Own pW 4 (w.setCell (f.LA,k) (aq false)) 0 (an (f.LA,0) NB NB) (bt NB false):=by have:=a1.hL.set k false;rw[show(bt NB false).set k false=bt NB false from List.ext_getElem au λi h1 h2=>by grind] at this;exact this
 refine⟨⟨S,⟨a1.hF.kq hq n4,a1.hS.same (di _ n7),a1.hN.same (di _ n9),a1.hG.same (di _ n10),hL,a1.hT.kq hq λq hq e=>a1.nt q hq (by rw[e];simp),a1.hg.kq hq λq hq e=>a1.ns _ hLH (e▸hq),a1.nd,a1.nt,a1.ns,a1.lo⟩,a2,λq hq=>by simpa using a3 q hq⟩,hq.mono λq e=>e▸a2 _ (.inl hLH)⟩
theorem cu.PZ (h:cu NB B R w f):f.SE≠f.NO/\f.SE≠f.GO/\f.NO≠f.GO:=by obtain⟨S,a1,_⟩:=h;have nd:=a1.nd;grind
theorem cu.aqp (h:cu NB B R w f) e (hp:e.t.p<4294967296):∃o,(Instr.mapUpdate 222 (.map (some f.SE)) (O .u32 e.t.p) (WH e.b e.i)).run prog w= .ok () (setBlock w f.SE o)/\cu NB B R (setBlock w f.SE o) {f with se:=dA f.se e}/\Kq R w (setBlock w f.SE o):=by obtain⟨d1,d2,d3⟩:=h.PZ;obtain⟨o,bF,hm,hg⟩:=h.hS.put e hp;obtain⟨a,b⟩:=h.ahe hg (by simp[setBlock]) {f with se:=dA f.se e} rfl rfl rfl rfl rfl rfl rfl rfl rfl (.inl rfl) (by rw[ev rfl];exact hm) (by rw[eo d1]) (by rw[eo d2]);exact⟨o,bF,a,b⟩
theorem cu.ap9 (h:cu NB B R w f) e (hp:e.t.p<4294967296):∃o,(Instr.mapUpdate 222 (.map (some f.NO)) (O .u32 e.t.p) (WH e.b e.i)).run prog w= .ok () (setBlock w f.NO o)/\cu NB B R (setBlock w f.NO o) {f with no:=dA f.no e}/\Kq R w (setBlock w f.NO o):=by obtain⟨d1,d2,d3⟩:=h.PZ;obtain⟨o,bF,hm,hg⟩:=h.hN.put e hp;obtain⟨a,b⟩:=h.ahe hg (by simp[setBlock]) {f with no:=dA f.no e} rfl rfl rfl rfl rfl rfl rfl rfl rfl (.inr (.inl rfl)) (by rw[eo (Ne.symm d1)]) (by rw[ev rfl];exact hm) (by rw[eo d3]);exact⟨o,bF,a,b⟩
theorem cu.awe (h:cu NB B R w f) e (hp:e.t.p<4294967296):∃o,(Instr.mapUpdate 222 (.map (some f.GO)) (O .u32 e.t.p) (WH e.b e.i)).run prog w= .ok () (setBlock w f.GO o)/\cu NB B R (setBlock w f.GO o) {f with go:=dA f.go e}/\Kq R w (setBlock w f.GO o):=by obtain⟨d1,d2,d3⟩:=h.PZ;obtain⟨o,bF,hm,hg⟩:=h.hG.put e hp;obtain⟨a,b⟩:=h.ahe hg (by simp[setBlock]) {f with go:=dA f.go e} rfl rfl rfl rfl rfl rfl rfl rfl rfl (.inr (.inr rfl)) (by rw[eo (Ne.symm d2)]) (by rw[eo (Ne.symm d3)]) (by rw[ev rfl];exact hm);exact⟨o,bF,a,b⟩
theorem cu.aCx (h:cu NB B R w f) (bn:Bool) {MB} (hMB:MB=if bn then f.NO else f.SE) e (hp:e.t.p<4294967296):∃o,(Instr.mapUpdate 222 (.map (some MB)) (O .u32 e.t.p) (.agg #[O aa e.b,O aa e.i])).run prog w= .ok () (setBlock w MB o)/\cu NB B R (setBlock w MB o) {f with se:=if bn then f.se else dA f.se e,no:=if bn then dA f.no e else f.no}/\Kq R w (setBlock w MB o):=by
 subst hMB;cases bn
 ·exact h.aqp e hp
 ·exact h.ap9 e hp
theorem cu.delS (h:cu NB B R w f) {p:Nat} (hp:p<4294967296) ty:∃o,(Builtin.delete_ #[222,64] ty #[.map (some f.SE),O .u32 p]).run prog w= .ok (ao #[]) (setBlock w f.SE o)/\cu NB B R (setBlock w f.SE o) {f with se:=kQ f.se p}/\Kq R w (setBlock w f.SE o):=by obtain⟨d1,d2,d3⟩:=h.PZ;obtain⟨o,bF,hm,hg⟩:=h.hS.del hp ty;obtain⟨a,b⟩:=h.ahe hg (by simp[setBlock]) {f with se:=kQ f.se p} rfl rfl rfl rfl rfl rfl rfl rfl rfl (.inl rfl) (by rw[ev rfl];exact hm) (by rw[eo d1]) (by rw[eo d2]);exact⟨o,bF,a,b⟩
theorem cu.aqa (h:cu NB B R w f) {p:Nat} (hp:p<4294967296) ty:∃o,(Builtin.delete_ #[222,64] ty #[.map (some f.GO),O .u32 p]).run prog w= .ok (ao #[]) (setBlock w f.GO o)/\cu NB B R (setBlock w f.GO o) {f with go:=kQ f.go p}/\Kq R w (setBlock w f.GO o):=by obtain⟨d1,d2,d3⟩:=h.PZ;obtain⟨o,bF,hm,hg⟩:=h.hG.del hp ty;obtain⟨a,b⟩:=h.ahe hg (by simp[setBlock]) {f with go:=kQ f.go p} rfl rfl rfl rfl rfl rfl rfl rfl rfl (.inr (.inr rfl)) (by rw[eo (Ne.symm d2)]) (by rw[eo (Ne.symm d3)]) (by rw[ev rfl];exact hm);exact⟨o,bF,a,b⟩
end
end
section
open RowKit
namespace dm
theorem Inv.perm {NB g h1 h2 n} (h:Inv NB g h1 n) (hp:h1.Perm h2):Inv NB g h2 n:=
 ⟨h.len,λk hk=>by rw[<-hp.count_eq];exact h.bk k hk,h.gap,h.opn,h.even,λx hx=>h.hm x (hp.mem_iff.2 hx),by rw[<-hp.length_eq];exact h.hl⟩
theorem Inv.le {NB g held n m} (h:Inv NB g held n) (hn:n<=m):Inv NB g held m:=
 ⟨h.len,λk hk=>let b:=h.bk k hk;⟨b.st,b.lv,b.nx,b.l8,b.op,b.fr,b.fu,b.sl,b.we,by have:=b.wn;omega,b.bad,b.brk,b.bd⟩,h.gap,h.opn,h.even,h.hm,by have:=h.hl;omega⟩
theorem Inv.drop1 {NB g k n l} (h:Inv NB g (k::l) n):Inv NB {g with l:=g.l.set k (dD (Gc.at_ g.l k))} l (n+1):=by have h0:0<(k::l).length:=Nat.succ_pos _;refine(h.drop h0).perm (List.perm_iff_count.2 λq=>?_);have:=uV (q:=q) h0;grind
end dm
namespace Gc
theorem count_set s {l k} y (hk:k<l.length):count s (l.set k y)+(if (at_ l k).st=s then 1 else 0)=count s l+(if y.st=s then 1 else 0):=by
 unfold count
 induction l generalizing k with
 |nil=>simp at hk
 |cons x t ih=>
  cases k with
  |zero=>
   rw[List.set_cons_zero,List.filter_cons,List.filter_cons];have e:at_ (x::t) 0=x:=rfl;grind
  |succ k=>
   have:=ih (k:=k) (by simpa using hk);rw[List.set_cons_succ,List.filter_cons,List.filter_cons];have e:at_ (x::t) (k+1)=at_ t k:=rfl;grind
theorem vZ s l:count s l=dm.iK (λi=>if (at_ l i).st=s then 1 else 0) l.length:=by
 have h:∀k,k<=l.length->count s (l.take k)=dm.iK (λi=>if (at_ l i).st=s then 1 else 0) k:=by
  intro k
  induction k with
  |zero=>intro _;rfl
  |succ k ih=>
   intro hk;rw[MF s l ae,ih ae];rfl
 grind
end Gc
theorem mG.nxT {x y} (h:mG x y true):y.nx=x.nx/\y.bad=x.bad/\y.aC<=x.aC+1:=by
 rcases h with⟨_,rfl⟩|⟨_,rfl⟩
 ·grind
 grind
theorem mG.nxF {x y} (h:mG x y false):y.nx+1=x.nx/\y.bad=x.bad/\y.aC<=x.aC+1/\x.bad=true:=by obtain⟨h1,h2,rfl⟩:=h;exact⟨Nat.sub_add_cancel h2,rfl,bp _,h1⟩
namespace dY
structure Qn NB (g g':Mg) (k i:Nat) bs:Prop where
 hk:k<NB
 hi:i=(g.bl k).nx
 i8:i<8
 bk:g'.bl k=uG (g.bl k) i bs
 bo:∀j,j<NB->j≠k->g'.bl j=g.bl j
 sk:mG (g.bl NB) (g'.bl NB) true
 M:g'.M=g.M
 ML:g'.ML=g.ML
 C:g'.C=g.C
 res:g'.res=g.res
 bad:g'.bad=g.bad
 gh:g'.gh=g.gh
 row:∀q,q≠k->Gc.at_ g'.l q=Gc.at_ g.l q
 aC:(Gc.at_ g'.l k).aC=(Gc.at_ g.l k).aC
 live:(Gc.at_ g'.l k).live=(Gc.at_ g.l k).live+1
 st:(Gc.at_ g'.l k).st=if i+1=8 then 2 else 1
 nx:(Gc.at_ g'.l k).nx=i+1
 opn:g'.opn=if i+1=8 then-1 else(k:Int)
 was:(g.opn= -1/\(Gc.at_ g.l k).st=0/\i=0/\Gc.count 0 g'.l+1=Gc.count 0 g.l)\/(g.opn=k/\(Gc.at_ g.l k).st=1/\(Gc.at_ g.l k).nx=i/\Gc.count 0 g'.l=Gc.count 0 g.l)
 c4:Gc.count 4 g'.l=Gc.count 4 g.l
structure Fld NB (g g':Mg) (k:Nat):Prop where
 hk:k<NB
 bk:∃L,g'.bl k=uG (g.bl k) (g.bl k).nx L
 bo:∀j,j<NB->j≠k->g'.bl j=g.bl j
 sk:mG (g.bl NB) (g'.bl NB) false
 M:g'.M=g.M
 ML:g'.ML=g.ML
 C:g'.C=g.C
 res:g'.res=g.res
 bad:g'.bad=g.bad
 gh:g'.gh=g.gh
 row:∀q,q≠k->Gc.at_ g'.l q=Gc.at_ g.l q
 aC:(Gc.at_ g'.l k).aC=(Gc.at_ g.l k).aC
 live:(Gc.at_ g'.l k).live=(Gc.at_ g.l k).live
 st:(Gc.at_ g'.l k).st=if (Gc.at_ g.l k).live=0 then 3 else 2
 opn:g'.opn= -1
 was:(g.opn= -1/\(Gc.at_ g.l k).st=0/\Gc.count 0 g'.l+1=Gc.count 0 g.l)\/(g.opn=k/\(Gc.at_ g.l k).st=1/\Gc.count 0 g'.l=Gc.count 0 g.l)
 c4:Gc.count 4 g'.l=Gc.count 4 g.l
structure Gp (g:Mg) (e:En):Prop where
 pg:(g.bl e.b).qB e.i=some (Tg.page e.t e.d)
 nx:e.i<(g.bl e.b).nx
 i8:e.i<8
structure Oe (e:En):Prop where
 rt:Tg.Right e.t
 len:e.d.length=64
theorem Oe.key {e} (h:Oe e):e.t.p<4294967296:=by have:=h.rt.2.1;omega
theorem Oe.aCL {e} (h:Oe e):(Tg.page e.t e.d).length=96:=by rw[Tg.rX,h.len]
structure Fi NB n x g (E:List En):Prop where
 nb:5<=NB/\NB<=1000
 w:dm.Inv NB g (E.map (·.b)++x) n
 pg:∀e∈E,Gp g e
 ok:∀e∈E,Oe e
 res:g.res=2
 bad:g.bad=0
 al:∀k i L,k<NB->i<8->(g.bl k).qB i=some L->g.gh L
 er:∀k,k<NB->(Gc.at_ g.l k).st≠4->∀i,i<8->((g.bl k).qB i=none↔(g.bl k).nx<=i)
 lf:Gc.count 4 g.l+(g.bl NB).nx<=2
 sk:(g.bl NB).aC<=n
 gt:(g.bl NB).bad=true->∀L,g.gh L
 md:(g.bl NB).bad=false->Gc.count 4 g.l=0
section
variable {NB n k:Nat} {x y:List Nat} {g g':Mg} {E E':List En} {e e0:En}
theorem Fi.perm (h:Fi NB n x g E) (hp:E.Perm E'):Fi NB n x g E':=
 ⟨h.nb,h.w.perm ((hp.map _).append_right x),λe he=>h.pg e (hp.mem_iff.2 he),λe he=>h.ok e (hp.mem_iff.2 he),h.res,h.bad,h.al,h.er,h.lf,h.sk,h.gt,h.md⟩
theorem Fi.le {m} (h:Fi NB n x g E) (hn:n<=m):Fi NB m x g E:=⟨h.nb,h.w.le hn,h.pg,h.ok,h.res,h.bad,h.al,h.er,h.lf,by have:=h.sk;omega,h.gt,h.md⟩
theorem Fi.lt (h:Fi NB n x g E) (he:e∈E):e.b<NB:=h.w.hm _ (List.mem_append_left _ (bw.2 ⟨e,he,rfl⟩))
theorem Fi.ltx (h:Fi NB n x g E) (hk:k∈x):k<NB:=h.w.hm _ (List.mem_append_right _ hk)
theorem Fi.live (h:Fi NB n x g E) (he:e∈E):0<(Gc.at_ g.l e.b).live/\((Gc.at_ g.l e.b).st=1\/(Gc.at_ g.l e.b).st=2):=by
 have hb:=h.w.bk e.b (h.lt he);have hp:0<(Gc.at_ g.l e.b).live:=by rw[hb.lv];exact List.count_pos_iff.2 (List.mem_append_left _ (bw.2 ⟨e,he,rfl⟩))
 refine⟨hp,?_⟩;have:=hb.st;have h0:(Gc.at_ g.l e.b).st≠0:=λe1=>by have:=(hb.fr e1).1;omega
 have h3:(Gc.at_ g.l e.b).st≠3:=λe1=>by have:=hb.sl e1;omega
 have h4:(Gc.at_ g.l e.b).st≠4:=λe1=>by have:=(hb.bd e1).1;omega
 omega
theorem Fi.add (h:Fi NB n (e.b::x) g E) (hg:Gp g e) (ho:Oe e) (hp:E'.Perm (e::E)):Fi NB n x g E':=by
 refine⟨h.nb,h.w.perm ?_,λa ha=>?_,λa ha=>?_,h.res,h.bad,h.al,h.er,h.lf,h.sk,h.gt,h.md⟩
 ·grind
 ·rcases bS.1 (hp.mem_iff.1 ha) with rfl|h1
  ·exact hg
  ·exact h.pg a h1
 ·rcases bS.1 (hp.mem_iff.1 ha) with rfl|h1
  ·exact ho
  ·exact h.ok a h1
theorem Fi.del (h:Fi NB n x g E) (hp:(e0::E').Perm E):Fi NB n (e0.b::x) g E':=by refine⟨h.nb,h.w.perm ?_,λa ha=>h.pg a (hp.mem_iff.1 (List.mem_cons_of_mem _ ha)),λa ha=>h.ok a (hp.mem_iff.1 (List.mem_cons_of_mem _ ha)),h.res,h.bad,h.al,h.er,h.lf,h.sk,h.gt,h.md⟩;grind
theorem LK z:(dD z).st=z.st\/z.st=2/\(dD z).st=3:=by
 show(if z.st=2/\z.live-1=0 then 3 else z.st)=z.st\/z.st=2/\(if z.st=2/\z.live-1=0 then 3 else z.st)=3;grind
theorem rW {l s} (hs:s≠2/\s≠3) (hk:k<l.length):Gc.count s (l.set k (dD (Gc.at_ l k)))=Gc.count s l:=by
 have h1:=Gc.count_set s (l:=l) (k:=k) (dD (Gc.at_ l k)) hk;rcases LK (Gc.at_ l k) with e|⟨e1,e2⟩
 ·rw[e] at h1;omega
 grind
theorem Fi.drop (h:Fi NB n (k::x) g E):Fi NB (n+1) x {g with l:=g.l.set k (dD (Gc.at_ g.l k))} E:=by
 have hk:k<NB:=h.ltx au;have hlen:=h.w.len;have hc:=rW (k:=k) (l:=g.l) (s:=4) aB ae;refine⟨h.nb,(h.w.perm List.perm_middle).drop1,λe he=>⟨(h.pg e he).pg,(h.pg e he).nx,(h.pg e he).i8⟩,h.ok,h.res,h.bad,h.al,λj hj hs=>h.er j hj λe=>hs ?_,by show Gc.count 4 (g.l.set k (dD (Gc.at_ g.l k)))+(g.bl NB).nx<=2;rw[hc];exact h.lf,by have:=h.sk;grind,h.gt,λe=>hc.trans (h.md e)⟩;show(Gc.at_ (g.l.set k _) j).st=4;by_cases e2:j=k
 ·rw[e2] at e⊢;rw[at_set _ _ ae];rcases LK (Gc.at_ g.l k) with e3|⟨e3,_⟩<;>omega
 ·rw[bC _ _ e2];exact e
theorem Fi.prog {i bs} (h:Fi NB n x g E) (hw:dm.Inv NB g' (E.map (·.b)++x++[k]) (n+1)) (hP:Qn NB g g' k i bs) (NL:g.gh bs):Fi NB (n+1) (k::x) g' E:=by
 obtain⟨s1,s2,s3⟩:=hP.sk.nxT;have gB:∀j,j<NB->g'.bl j=upd g.bl k (uG (g.bl k) i bs) j:=λj hj=>by
  by_cases e:j=k
  ·rw[e,upd_same];exact hP.bk
  ·rw[aG _ _ e];exact hP.bo j hj e
 refine⟨h.nb,hw.perm ?_,λe he=>?_,h.ok,hP.res.trans h.res,hP.bad.trans h.bad,λj q L hj hq=>?_,λj hj hs q hq=>?_,by rw[hP.c4,s1];exact h.lf,by have:=h.sk;omega,by rw[s2,hP.gh];exact h.gt,by rw[s2,hP.c4];exact h.md⟩
 ·grind
 ·obtain⟨a1,a2,a3⟩:=h.pg e he;have aT:=h.lt he;by_cases hk:e.b=k
  ·have hi:=hP.hi;refine⟨?_,?_,a3⟩
   ·rw[gB _ aT,hk,upd_same];show upd (g.bl k).qB _ _ e.i=_;rw[aG _ _ (by rw[hk] at a2;omega),<-hk];exact a1
   ·rw[gB _ aT,hk,upd_same];show e.i<_+1;rw[hk] at a2;omega
  ·exact⟨by rw[gB _ aT,aG _ _ hk];exact a1,by rw[gB _ aT,aG _ _ hk];exact a2,a3⟩
 ·rw[gB j hj,hP.gh];by_cases hk:j=k
  ·rw[hk,upd_same];show upd (g.bl k).qB i (some bs) q=some L->_;by_cases hqi:q=i
   ·rw[hqi,upd_same];grind
   ·rw[aG _ _ hqi,<-hk];exact h.al j q L hj hq
  ·rw[aG _ _ hk];exact h.al j q L hj hq
 ·rw[gB j hj];by_cases hk:j=k
  ·rw[hk,upd_same];show upd (g.bl k).qB i (some bs) q=none↔i+1<=q;have h4:(Gc.at_ g.l j).st≠4:=by rw[hk];rcases hP.was with⟨_,e,_⟩|⟨_,e,_⟩<;>omega
   have hi:=hP.hi;by_cases hqi:q=i
   ·rw[hqi,upd_same];grind
   ·rw[aG _ _ hqi,<-hk,h.er j hj h4 q hq,hk];omega
  ·rw[aG _ _ hk];rw[hP.row j hk] at hs;exact h.er j hj hs q hq
theorem Fi.fail (h:Fi NB n x g E) (hw:dm.Inv NB g' (E.map (·.b)++x) (n+1)) (hP:Fld NB g g' k):Fi NB (n+1) x g' E:=by
 obtain⟨s1,s2,s3,s4⟩:=hP.sk.nxF;obtain⟨bs,wu⟩:=hP.bk;have gB:∀j,j<NB->g'.bl j=upd g.bl k (uG (g.bl k) (g.bl k).nx bs) j:=λj hj=>by
  by_cases e:j=k
  ·rw[e,upd_same];exact wu
  ·rw[aG _ _ e];exact hP.bo j hj e
 refine⟨h.nb,hw,λe he=>?_,h.ok,hP.res.trans h.res,hP.bad.trans h.bad,λj q L hj hq _=>by rw[hP.gh];exact h.gt s4 L,λj hj hs q hq=>?_,by rw[hP.c4];have:=h.lf;omega,by have:=h.sk;omega,by rw[s2,hP.gh];exact h.gt,by rw[s2,hP.c4];exact h.md⟩
 ·obtain⟨a1,a2,a3⟩:=h.pg e he;have aT:=h.lt he;by_cases hk:e.b=k
  ·refine⟨?_,?_,a3⟩
   ·rw[gB _ aT,hk,upd_same];show upd (g.bl k).qB _ _ e.i=_;rw[aG _ _ (by rw[hk] at a2;omega),<-hk];exact a1
   ·rw[gB _ aT,hk,upd_same];show e.i<_+1;rw[hk] at a2;omega
  ·exact⟨by rw[gB _ aT,aG _ _ hk];exact a1,by rw[gB _ aT,aG _ _ hk];exact a2,a3⟩
 ·rw[gB j hj];by_cases hk:j=k
  ·rw[hk,upd_same];show upd (g.bl k).qB (g.bl k).nx (some bs) q=none↔(g.bl k).nx+1<=q;have h4:(Gc.at_ g.l j).st≠4:=by rw[hk];rcases hP.was with⟨_,e,_⟩|⟨_,e,_⟩<;>omega
   by_cases hqi:q=(g.bl k).nx
   ·rw[hqi,upd_same];grind
   ·rw[aG _ _ hqi,<-hk,h.er j hj h4 q hq,hk];omega
  ·rw[aG _ _ hk];rw[hP.row j hk] at hs;exact h.er j hj hs q hq
theorem Fi.none (h:Fi NB n x g E) (hs:(Gc.at_ g.l k).st=0\/(Gc.at_ g.l k).st=3) (he:e∈E):e.b≠k:=λe1=>by have:=(h.live he).2;rw[e1] at this;omega
theorem Fi.erase {y ps'} (h:Fi NB n x g E) (hk:k<NB) (hs:(Gc.at_ g.l k).st=0\/(Gc.at_ g.l k).st=3) (hw:∀j,j<NB->(Gc.at_ g.l j).st≠4->(Gc.at_ g.l k).aC<=(Gc.at_ g.l j).aC+3) (hy:mG (g.bl NB) y true):Fi NB (n+1) x (erG g NB y k ps') E:=by
 obtain⟨s1,s2,s3⟩:=hy.nxT;have hlen:=h.w.len;have hN:(erG g NB y k ps').bl NB=y:=by show upd (upd g.bl NB y) k _ NB=y;rw[aG _ _ ae,upd_same]
 have gB:∀j,j<NB->(erG g NB y k ps').bl j=upd g.bl k (fresh ((g.bl k).aC+1)) j:=dm.nN _ _ _;have hc:Gc.count 4 (erG g NB y k ps').l=Gc.count 4 g.l:=by have:=Gc.count_set 4 (l:=g.l) (k:=k) ⟨0,0,(g.bl k).aC+1,0⟩ ae;rw[eo ae,eo (by show¬(0:Nat)=4;decide)] at this;exact this
 refine⟨h.nb,h.w.erase hk hs hw,λe he=>?_,h.ok,h.res,h.bad,λj q L hj hq=>?_,λj hj hs q hq=>?_,by rw[hc,hN,s1];exact h.lf,by rw[hN];have:=h.sk;omega,by rw[hN,s2];exact h.gt,by rw[hN,s2,hc];exact h.md⟩
 ·have di:=h.none hs he;obtain⟨a1,a2,a3⟩:=h.pg e he;have aT:=h.lt he;exact⟨by rw[gB _ aT,aG _ _ di];exact a1,by rw[gB _ aT,aG _ _ di];exact a2,a3⟩
 ·rw[gB j hj];by_cases e:j=k
  ·rw[e,upd_same];intro h1;cases h1
  ·rw[aG _ _ e];exact h.al j q L hj hq
 ·rw[gB j hj];by_cases e:j=k
  ·rw[e,upd_same];exact⟨λ_=>bN _,λ_=>rfl⟩
  ·rw[aG _ _ e];have hs:(Gc.at_ (g.l.set k _) j).st≠4:=hs;rw[bC _ _ e] at hs;exact h.er j hj hs q hq
theorem Fi.alf {p v} (h:Fi NB n x g E) (hk:k<NB) (hs:(Gc.at_ g.l k).st=0\/(Gc.at_ g.l k).st=3) (hl:g'.l=g.l.set k ⟨4,0,v,0⟩) (hb:∀j,j<NB->g'.bl j=upd g.bl k p j) (he:g'.even=g.even) (ho:g'.opn=if g.opn=k then-1 else g.opn) (hw:p.aC=v) (hn:v<=n+1) (hp:p.bad=true)
  (h1:g'.res=g.res) (h2:g'.bad=g.bad) (h3:g'.gh=g.gh) (Vg:Gc.count 4 g.l+1+(g'.bl NB).nx<=2) (Vp:(g'.bl NB).aC<=n+1) (WM:(g'.bl NB).bad=true) (awv:(g.bl NB).bad=true):Fi NB (n+1) x g' E:=by
 have hlen:=h.w.len;have hc:Gc.count 4 g'.l=Gc.count 4 g.l+1:=by have:=Gc.count_set 4 (l:=g.l) (k:=k) ⟨4,0,v,0⟩ ae;grind
 refine⟨h.nb,h.w.alf hk hs hl hb he ho hw hn hp,λe he=>?_,h.ok,h1.trans h.res,h2.trans h.bad,λj q L hj hq _=>by rw[h3];exact h.gt awv L,λj hj hs q hq=>?_,by rw[hc];exact Vg,Vp,λ_=>by rw[h3];exact h.gt awv,λe=>by rw[WM] at e;cases e⟩
 ·have di:=h.none hs he;obtain⟨a1,a2,a3⟩:=h.pg e he;have aT:=h.lt he;exact⟨by rw[hb _ aT,aG _ _ di];exact a1,by rw[hb _ aT,aG _ _ di];exact a2,a3⟩
 ·rw[hl] at hs;rw[hb j hj];by_cases e:j=k
  ·rw[e,at_set _ _ ae] at hs;exact absurd rfl hs
  ·rw[bC _ _ e] at hs;rw[aG _ _ e];exact h.er j hj hs q hq
theorem Fi.ghost {P} (h:Fi NB n x g E) (hP:∀L,g.gh L->P L):Fi NB n x {g with gh:=P} E:=
 ⟨h.nb,⟨h.w.len,h.w.bk,h.w.gap,h.w.opn,h.w.even,h.w.hm,h.w.hl⟩,λe he=>⟨(h.pg e he).pg,(h.pg e he).nx,(h.pg e he).i8⟩,h.ok,h.res,h.bad,λk i L hk hi hl=>hP L (h.al k i L hk hi hl),h.er,h.lf,h.sk,λhb L=>hP L (h.gt hb L),h.md⟩
theorem Fi.count (h:Fi NB n [] g E) (hk:k<NB):(E.filter λe=>e.b==k).length=(Gc.at_ g.l k).live:=by
 rw[(h.w.bk k hk).lv,cC];clear h
 induction E with
 |nil=>rfl
 |cons a t ih=>
  grind
end
end dY
section
open dY
variable {NB B n:Nat} {R:Nat->Prop} {w:World} {f:Fm} {x:List Nat} {E:List En}
def aCM (NB B:Nat) (R:Nat->Prop) (f:Fm) (k:Nat) (w:World) (e:Ending) w':=
 ∃y,(e=ar (O aa 0)/\mG (f.g.bl NB) y true/\∃ps',oq NB B R w w' {f with g:=erG f.g NB y k ps'})\/(e=ar (O aa 11)/\mG (f.g.bl NB) y false/\∃pg,oq NB B R w w' {f with g:=erF f.g NB y k pg})
theorem Tn (h:cu NB B R w f) (hi:Fi NB n x f.g E) {k} (hk:k<NB) (hs:(Gc.at_ f.g.l k).st=0\/(Gc.at_ f.g.l k).st=3) (hn:n<=1099511627776):
  Calls prog 328 #[f.g.M,O aa k] w (aCM NB B R f k w):=by
 obtain⟨S,a1,a2,a3⟩:=h;have hb:=hi.w.bk k hk;have Ho:(Gc.at_ f.g.l k).live=0:=by
  rcases hs with e|e
  ·exact(hb.fr e).1
  ·exact hb.sl e
 refine(TE a1.hg hk (Gc.jm.2 ae) Ho ae (hb.bad ae) (by have:=hb.we;have:=hb.wn;omega) (by have:=hi.sk;omega)).mono ?_;rintro e w' ⟨⟨y,h1⟩,hq⟩;refine⟨y,?_⟩;rcases h1 with⟨h1,h2,ps',hm⟩|⟨h1,h2,pg,hm⟩
 ·exact .inl ⟨h1,h2,ps',Gf a1 a2 a3 hm hq (λ_ h=>h) rfl rfl rfl rfl rfl⟩
 ·exact .inr ⟨h1,h2,pg,Gf a1 a2 a3 hm hq (λ_ h=>h) rfl rfl rfl rfl rfl⟩
theorem O0 (h:cu NB B R w f) (hi:Fi NB n x f.g E) {k} (hk:k<NB) (hs:(Gc.at_ f.g.l k).st=3):
  Calls prog 314 #[f.g.M,O aa k] w λe w'=>e=ar (O aa 0)/\cu NB B R w' {f with g:=EW f.g k}/\Kq R w w':=by
 obtain⟨S,a1,a2,a3⟩:=h;have hb:=hi.w.bk k hk;refine(O7 a1.hg hk (Gc.jm.2 ae) (hb.sl hs)).mono ?_;rintro e w' ⟨rfl,hm,hq⟩;exact⟨rfl,JP a1 a2 a3 hm hq rfl rfl rfl rfl rfl⟩
theorem yT (h:cu NB B R w f) {k} (hi:Fi NB n (k::x) f.g E):
  Calls prog 202 #[f.g.M,O aa k] w λe w'=>e=ar (O aa 0)/\cu NB B R w' {f with g:={f.g with l:=f.g.l.set k (dD (Gc.at_ f.g.l k))}}/\Kq R w w':=by
 obtain⟨S,a1,a2,a3⟩:=h;have hk:=hi.ltx (k:=k) au;have hb:=hi.w.bk k hk;have hc:0<(E.map (·.b)++k::x).count k:=List.count_pos_iff.2 au;refine(Ht a1.hg hk (Gc.jm.2 λe=>by have:=(hb.bd e).1;rw[<-hb.lv] at hc;omega) (by rw[hb.lv];exact hc) (by have:=hb.l8;omega)).mono ?_;rintro e w' ⟨rfl,hm,hq⟩;exact⟨rfl,JP a1 a2 a3 hm (hq.mono λq e=> .inr (.inl e)) rfl rfl rfl rfl rfl⟩
theorem DX (h:cu NB B R w f) {k} (hi:Fi NB n (k::x) f.g E):
  Calls prog 202 #[f.g.M,O aa k] w λe w'=>e=ar (O aa 0)/\cu NB B R w' {f with g:={f.g with l:=f.g.l.set k (dD (Gc.at_ f.g.l k))}}/\Kq R w w'/\Kq (λq=>q=f.g.ML) w w':=by
 obtain⟨S,a1,a2,a3⟩:=h;have hk:=hi.ltx (k:=k) au;have hb:=hi.w.bk k hk;have hc:0<(E.map (·.b)++k::x).count k:=List.count_pos_iff.2 au;refine(Ht a1.hg hk (Gc.jm.2 λe=>by have:=(hb.bd e).1;rw[<-hb.lv] at hc;omega) (by rw[hb.lv];exact hc) (by have:=hb.l8;omega)).mono ?_;rintro e w' ⟨rfl,hm,hq⟩;obtain⟨h1,h2⟩:=JP a1 a2 a3 hm (hq.mono λq e=> .inr (.inl e)) rfl rfl rfl rfl rfl;exact⟨rfl,h1,h2,hq⟩
theorem cu.avG (h:cu NB B R w f):f.NO≠f.g.ML/\f.GO≠f.g.ML/\f.SE≠f.g.ML:=by obtain⟨S,a1,_⟩:=h;exact⟨λe=>a1.ns _ (.inr (.inr (.inl rfl))) (.inr (.inl e)),λe=>a1.ns _ (.inr (.inr (.inr (.inl rfl)))) (.inr (.inl e)),λe=>a1.ns _ (.inr (.inl rfl)) (.inr (.inl e))⟩
def aCN (NB B:Nat) (R:Nat->Prop) (n:Nat) (x:List Nat) (E:List En) (f:Fm) (bs:List UInt8) (w:World) (e:Ending) w':=
 ∃(k i:Nat) (g':Mg),oq NB B R w w' {f with g:=g'}/\((e=ar (ao #[O aa k,O aa i,O aa 0])/\Qn NB f.g g' k i bs/\Fi NB (n+1) (k::x) g' E)\/(e=ar (ao #[O aa k,O aa i,O aa 11])/\Fld NB f.g g' k/\Fi NB (n+1) x g' E))
theorem dY.Fi.aCO {k y bs} (hi:Fi NB n x f.g E) (hj:k<NB) (ho:f.g.opn= -1) (hs:(Gc.at_ f.g.l k).st=0) (hy:mG (f.g.bl NB) y true):Qn NB f.g (JQ (Hu f.g k) NB y k 0 bs) k 0 bs:=by
 have hlen:=hi.w.len;have wu:=hi.w.bk k hj;have hnx:=(wu.fr hs).2;have uQ:Gc.at_ (Hu f.g k).l k=⟨1,0,(Gc.at_ f.g.l k).aC,0⟩:=at_set _ _ ae;have e2:(JQ (Hu f.g k) NB y k 0 bs).l=f.g.l.set k ⟨1,1,(Gc.at_ f.g.l k).aC,1⟩:=by unfold JQ;simp only[uQ];show(f.g.l.set k _).set k _=_;rw[List.set_set];rfl
 have ha2:Gc.at_ (JQ (Hu f.g k) NB y k 0 bs).l k=⟨1,1,(Gc.at_ f.g.l k).aC,1⟩:=by rw[e2];exact at_set _ _ ae
 have Xv:=λs=>Gc.count_set s (l:=f.g.l) (k:=k) ⟨1,1,(Gc.at_ f.g.l k).aC,1⟩ ae;refine⟨hj,hnx.symm,ae,upd_same _ _ _,λj h1 h2=>(aG _ _ h2).trans (aG _ _ ae),?_,rfl,rfl,rfl,rfl,rfl,rfl,λq hq=>by rw[e2];exact bC _ _ hq,by rw[ha2],by rw[ha2,(wu.fr hs).1],by rw[ha2];rfl,by rw[ha2],rfl,.inl ⟨ho,hs,rfl,?_⟩,?_⟩
 ·rw[show(JQ (Hu f.g k) NB y k 0 bs).bl NB=y from(aG _ _ ae).trans (upd_same _ _ _)];exact hy
 ·grind
 grind
theorem dY.Fi.aCP {k y bs} (hi:Fi NB n x f.g E) (hj:k<NB) (ho:f.g.opn=k) (hs:(Gc.at_ f.g.l k).st=1) (hy:mG (f.g.bl NB) y true):Qn NB f.g (JQ f.g NB y k (Gc.at_ f.g.l k).nx bs) k (Gc.at_ f.g.l k).nx bs:=by
 have hlen:=hi.w.len;have wu:=hi.w.bk k hj;obtain⟨o1,o2,o3,o4,o5⟩:=wu.op hs;have e2:(JQ f.g NB y k (Gc.at_ f.g.l k).nx bs).l=f.g.l.set k ⟨if (Gc.at_ f.g.l k).nx+1=8 then 2 else(Gc.at_ f.g.l k).st,(Gc.at_ f.g.l k).live+1,(Gc.at_ f.g.l k).aC,(Gc.at_ f.g.l k).nx+1⟩:=rfl;have ha2:Gc.at_ (JQ f.g NB y k (Gc.at_ f.g.l k).nx bs).l k=⟨if (Gc.at_ f.g.l k).nx+1=8 then 2 else(Gc.at_ f.g.l k).st,(Gc.at_ f.g.l k).live+1,(Gc.at_ f.g.l k).aC,(Gc.at_ f.g.l k).nx+1⟩:=by rw[e2];exact at_set _ _ ae
 have Xv:=λs=>Gc.count_set s (l:=f.g.l) (k:=k) ⟨if (Gc.at_ f.g.l k).nx+1=8 then 2 else(Gc.at_ f.g.l k).st,(Gc.at_ f.g.l k).live+1,(Gc.at_ f.g.l k).aC,(Gc.at_ f.g.l k).nx+1⟩ ae;refine⟨hj,o4.symm,o3,upd_same _ _ _,λj h1 h2=>(aG _ _ h2).trans (aG _ _ ae),?_,rfl,rfl,rfl,rfl,rfl,rfl,λq hq=>by rw[e2];exact bC _ _ hq,by rw[ha2],by rw[ha2],by grind,by rw[ha2],by show(if _ then(-1:Int) else _)=_;rw[ho],.inr ⟨ho,hs,rfl,?_⟩,?_⟩
 ·rw[show(JQ f.g NB y k (Gc.at_ f.g.l k).nx bs).bl NB=y from(aG _ _ ae).trans (upd_same _ _ _)];exact hy
 ·grind
 grind
theorem dY.Fi.aCQ {k y bs} (hi:Fi NB n x f.g E) (hj:k<NB) (ho:f.g.opn= -1) (hs:(Gc.at_ f.g.l k).st=0) (hy:mG (f.g.bl NB) y false):Fld NB f.g (flG (Hu f.g k) NB y k 0 bs) k:=by
 have hlen:=hi.w.len;have wu:=hi.w.bk k hj;obtain⟨hl0,hnx⟩:=wu.fr hs;have uQ:Gc.at_ (Hu f.g k).l k=⟨1,0,(Gc.at_ f.g.l k).aC,0⟩:=at_set _ _ ae;have e2:(flG (Hu f.g k) NB y k 0 bs).l=f.g.l.set k ⟨3,0,(Gc.at_ f.g.l k).aC,0⟩:=by unfold flG Eg;simp only[uQ];show(f.g.l.set k _).set k _=_;rw[List.set_set];rfl
 have ha2:Gc.at_ (flG (Hu f.g k) NB y k 0 bs).l k=⟨3,0,(Gc.at_ f.g.l k).aC,0⟩:=by rw[e2];exact at_set _ _ ae
 have Xv:=λs=>Gc.count_set s (l:=f.g.l) (k:=k) ⟨3,0,(Gc.at_ f.g.l k).aC,0⟩ ae;refine⟨hj,⟨bs,by rw[hnx];exact upd_same _ _ _⟩,λj h1 h2=>(aG _ _ h2).trans (aG _ _ ae),?_,rfl,rfl,rfl,rfl,rfl,rfl,λq hq=>by rw[e2];exact bC _ _ hq,by rw[ha2],by rw[ha2,hl0],by rw[ha2,hl0];rfl,rfl,.inl ⟨ho,hs,?_⟩,?_⟩
 ·rw[show(flG (Hu f.g k) NB y k 0 bs).bl NB=y from(aG _ _ ae).trans (upd_same _ _ _)];exact hy
 ·grind
 grind
theorem dY.Fi.aCR {k y bs} (hi:Fi NB n x f.g E) (hj:k<NB) (ho:f.g.opn=k) (hs:(Gc.at_ f.g.l k).st=1) (hy:mG (f.g.bl NB) y false):Fld NB f.g (flG f.g NB y k (Gc.at_ f.g.l k).nx bs) k:=by
 have hlen:=hi.w.len;have wu:=hi.w.bk k hj;obtain⟨o1,o2,o3,o4,o5⟩:=wu.op hs;have e2:(flG f.g NB y k (Gc.at_ f.g.l k).nx bs).l=f.g.l.set k (Eg (Gc.at_ f.g.l k)):=rfl;have ha2:Gc.at_ (flG f.g NB y k (Gc.at_ f.g.l k).nx bs).l k=Eg (Gc.at_ f.g.l k):=by rw[e2];exact at_set _ _ ae
 have Xv:=λs=>Gc.count_set s (l:=f.g.l) (k:=k) (Eg (Gc.at_ f.g.l k)) ae;have uF:(Eg (Gc.at_ f.g.l k)).st=if (Gc.at_ f.g.l k).live=0 then 3 else 2:=rfl
 have hcn:(Eg (Gc.at_ f.g.l k)).st=3\/(Eg (Gc.at_ f.g.l k)).st=2:=by rw[uF];split<;>simp
 refine⟨hj,⟨bs,by rw[o4];exact upd_same _ _ _⟩,λj h1 h2=>(aG _ _ h2).trans (aG _ _ ae),?_,rfl,rfl,rfl,rfl,rfl,rfl,λq hq=>by rw[e2];exact bC _ _ hq,by rw[ha2];rfl,by rw[ha2];rfl,by rw[ha2,uF],rfl,.inr ⟨ho,hs,?_⟩,?_⟩
 ·rw[show(flG f.g NB y k (Gc.at_ f.g.l k).nx bs).bl NB=y from(aG _ _ ae).trans (upd_same _ _ _)];exact hy
 ·grind
 grind
theorem Hg (h:cu NB B R w f) (hi:Fi NB n x f.g E) (hr:f.g.opn≠-1\/0<Gc.count 0 f.g.l) (hn:n<=1099511627776) a c bs (NL:f.g.gh bs) (NG:Own aJ 5 w 0 (an a 96 c) bs) (AL:∀q,Value.ownBlock (an a 96 c)=some q->¬R q):
  Calls prog 282 #[f.g.M,an a 96 c] w (aCN NB B R n x E f bs w):=by
 obtain⟨S,a1,a2,a3⟩:=h;have Vp:=hi.sk;rcases hi.w.opn with ho|⟨j,j1,j2,j3⟩
 ·cases hb:Gc.best jD Gc.iy f.g.l NB with
  |none=>
   have h0:=hi.w.full ho hb;unfold roomOf at h0;grind
  |some j=>
   obtain⟨hj,hf⟩:=Gc.gU hb;have hs:(Gc.at_ f.g.l j).st=0:=by unfold jD at hf;grind
   have wu:=hi.w.bk j hj;refine(MG a1.hg hb ho (wu.fr hs).2 (wu.bad ae) (wu.brk ae) ae a c bs NG λq hq hs=>AL q hq (a2 q (.inr hs))).mono ?_;rintro e w' ⟨⟨y,h1⟩,hq⟩;rcases h1 with⟨rfl,hy,hm⟩|⟨rfl,hy,L,hL,hm⟩
   ·have hP:=hi.aCO (bs:=bs) hj ho hs hy;exact⟨j,0,_,Gf a1 a2 a3 hm hq (λ_ h=>h) rfl rfl rfl rfl rfl,.inl ⟨rfl,hP,hi.prog (hi.w.open_ ho hj hs) hP NL⟩⟩
   ·have hP:=hi.aCQ (bs:=L) hj ho hs hy;exact⟨j,0,_,Gf a1 a2 a3 hm hq (λ_ h=>h) rfl rfl rfl rfl rfl,.inr ⟨rfl,hP,hi.fail (hi.w.aly ho hj hs) hP⟩⟩
 ·have wu:=hi.w.bk j j1;obtain⟨o1,o2,o3,o4,o5⟩:=wu.op j3;refine(O8 a1.hg j1 j2 o3 rfl (by have:=wu.l8;omega) o4 (wu.bad ae) (wu.brk ae) ae a c bs NG λq hq hs=>AL q hq (a2 q (.inr (.inr (.inr hs))))).mono ?_;rintro e w' ⟨⟨y,h1⟩,hq⟩;rcases h1 with⟨rfl,hy,hm⟩|⟨rfl,hy,L,hL,hm⟩
  ·have hP:=hi.aCP (bs:=bs) j1 j2 j3 hy;exact⟨j,_,_,Gf a1 a2 a3 hm hq (λ_ h=>h) rfl rfl rfl rfl rfl,.inl ⟨rfl,hP,hi.prog (hi.w.prog j1 j2 j3) hP NL⟩⟩
  ·have hP:=hi.aCR (bs:=L) j1 j2 j3 hy;exact⟨j,_,_,Gf a1 a2 a3 hm hq (λ_ h=>h) rfl rfl rfl rfl rfl,.inr ⟨rfl,hP,hi.fail (hi.w.fail j1 j2 j3) hP⟩⟩
def Rdd (NB B:Nat) (R:Nat->Prop) (f:Fm) (k i:Nat) (w:World) (e:Ending) w':=
 (∃a c,e=ar (ao #[an a 96 c,O aa 0])/\96<=c/\Own aJ 5 w' w (an a 96 c) (Vt ((f.g.bl k).qB i)))/\cu NB B R w' f/\Kq R w w'
theorem yS (h:cu NB B R w f) {k i:Nat} (hk:k<NB) (hi:i<8):
  Calls prog 223 #[f.g.C,O aa k,O aa i] w (Rdd NB B R f k i w):=by
 obtain⟨S,a1,a2,a3⟩:=h;refine(wV a1.hg.hc hk hi).mono ?_;rintro e w' ⟨h1,h2,h3⟩;have hS:S f.g.C:=a1.hg.hc.hS _ (.inl rfl);have hq:Kq S w w':=h3.mono λq e=>e▸hS;exact⟨h1,JP a1 a2 a3 (a1.hg.aaD h2 hq λ_ h=> .inl h) (hq.mono λq h=> .inr (.inr h)) rfl rfl rfl rfl rfl⟩
theorem rO (h:cu NB B R w f):
  Calls prog 35 #[f.g.C] w λe w'=>e=ar (uI NB)/\Below w w w':=by
 obtain⟨S,a1,_⟩:=h;exact dQ a1.hg.hc
theorem Qd (h:cu NB B R w f):
  Calls prog 89 #[f.g.C] w λe w'=>e=ar (aq true)/\w=w':=by
 obtain⟨S,a1,_⟩:=h;exact rq a1.hg.hc
theorem yR (h:cu NB B R w f) (hi:Fi NB n x f.g E):
  Calls prog 149 #[f.g.M] w λe w'=>e=ar (O aa (2-(Gc.count 4 f.g.l)))/\Below w w w':=by
 obtain⟨S,a1,_⟩:=h;have:=hi.lf;exact Hw a1.hg rfl hi.res hi.bad ae ae ae
def dY.qn (g:Mg):=Gc.count 0 g.l+Gc.count 4 g.l
def dY.enough g:=decide (3<=qn g)&&(decide (g.opn≠-1)||decide (4<=qn g))
theorem O1 (h:cu NB B R w f) (hi:Fi NB n x f.g E):
  Calls prog 279 #[f.F] w λe w'=>e=ar (aq (dY.enough f.g))/\Below w w w':=by
 have f0:=h.c0;have f1:=h.c1;obtain⟨S,a1,_⟩:=h;have hn:=hi.nb;have Vg:=hi.lf;obtain⟨o1,o2⟩:=hi.w.aww ae;refine(TF a1.hg f0 f1 ae hi.res hi.bad o1 o2).mono ?_;rintro e w' ⟨rfl,hb⟩;refine⟨?_,hb⟩;have hx:(if roomOf f.g=(Gc.count 0 f.g.l:Int)*8 then(4:Int) else 3)=if f.g.opn= -1 then 4 else 3:=by
  unfold roomOf;rcases hi.w.opn with ho|⟨j,j1,j2,j3⟩
  ·grind
  ·have h5:=((hi.w.bk j j1).op j3).2.2.1;grind
 congr 2
 unfold acg dY.enough dY.qn;grind
theorem Xa (h:cu NB B R w f) (hi:Fi NB n x f.g E) (hn:n<=1099511627776):
  Calls prog 281 #[f.g.M] w λe w'=>e=ar (acV (Gc.next f.g.l 8 (decide (8<=roomOf f.g))))/\Below w w w':=by
 obtain⟨S,a1,_⟩:=h;have hb:=hi.nb;obtain⟨o1,o2⟩:=hi.w.aww ae;exact Xw a1.hg hi.w.even (hi.w.ok hn) o1 o2 ae
end
section
variable {NB B C BL:Nat} {S:Nat->Prop} {w:World} {ps:Nat->Nat} {bl:Nat->Pb}
theorem pX (h:eu NB B S w C BL ps bl) (pK:NB<=1000) (hb:∀k,k<NB->(bl k).bad=false):
  Calls prog 165 #[C] w λe w'=>e=ar (O aa 0)/\Below w w w':=by
 have HH:=ag h;have sW:=ag hb;have HG:=ag (dQ h);have hf:=ahf (O aa NB) (O aa 8) (O aa 64);clear h hb
 go_in
 go_wp2_with fail;go_call HG.o as e w1 ⟨rfl,bP⟩;have bV:=ag bP;clear bP;unfold uI;go_wp2_with fail
 go_loopw [3,4,8] (λn _ i wr=>∃k:Nat,k<=NB/\i=O aa k/\n=O aa 0/\Below w w wr) (λ_ _ i _=>NB-(intOf i).toNat)
 case atStart=>exact⟨0,ae,rfl,rfl,bV.o⟩
 case round=>
  obtain⟨k,hk,rfl,rfl,hb⟩:=hrel;have kT:=ag hb;clear hb;by_cases aT:k<NB
  ·have fO:(k:Int)<(NB:Int):=ae;have zI:=ag (oV (HH.o.on kT.o) aT);rw[sW.o k aT] at zI;go_wp2_with fail;refine zI.o.cj ?_;go_wp2_with fail;go_roundw
   case rel=>exact⟨k+1,ae,by go_num,rfl,kT.o⟩
   case measure=>simp[intOf];omega
  ·obtain rfl:k=NB:=ae;go_wp2_with fail;go_ret;exact⟨rfl,kT.o⟩
end
end
section
open Shelf
def adJ:Go.Shelf.Ren:=⟨fun|6=>302|15=>247|14=>326|28=>275|29=>276|20=>347|21=>348|22=>349|23=>350|24=>351|25=>352|26=>353|27=>354|46=>356|47=>297|48=>298|49=>357|50=>358|57=>359|n=>n,fun|22=>338|24=>362|25=>364|3=>3|39=>196|0=>0|53=>64|55=>65|4=>4|46=>331|45=>330|50=>239|5=>5|9=>9|66=>354|70=>358|76=>376|77=>158|n=>n,fun|n=>n⟩
theorem awk:Go.Proofs.SlLaysF0.n6 prog adJ:={
 mixed:=az
 f6:=⟨Tryz.f302.name,aB,Tryz.func302.trans (congrArg some az)⟩
 f14:=⟨Tryz.f326.name,aB,Tryz.func326.trans (congrArg some az)⟩
 f15:=Tryz.func247.trans (congrArg some az)
 f20:=⟨Tryz.f347.name,aB,Tryz.func347.trans (congrArg some az)⟩
 f21:=⟨Tryz.f348.name,aB,Tryz.func348.trans (congrArg some az)⟩
 f22:=⟨Tryz.f349.name,aB,Tryz.func349.trans (congrArg some az)⟩
 f23:=⟨Tryz.f350.name,aB,Tryz.func350.trans (congrArg some az)⟩
 f24:=⟨Tryz.f351.name,aB,Tryz.func351.trans (congrArg some az)⟩
 f25:=⟨Tryz.f352.name,aB,Tryz.func352.trans (congrArg some az)⟩
 f26:=⟨Tryz.f353.name,aB,Tryz.func353.trans (congrArg some az)⟩
 f27:=⟨Tryz.f354.name,aB,Tryz.func354.trans (congrArg some az)⟩
 f28:=Tryz.func275.trans (congrArg some az)
 f29:=Tryz.func276.trans (congrArg some az)
 f46:=⟨Tryz.f356.name,aB,Tryz.func356.trans (congrArg some az)⟩
 f47:=Tryz.func297.trans (congrArg some az)
 f48:=Tryz.func298.trans (congrArg some az)
 f49:=⟨Tryz.f357.name,aB,Tryz.func357.trans (congrArg some az)⟩
 f50:=⟨Tryz.f358.name,aB,Tryz.func358.trans (congrArg some az)⟩
 f57:=⟨Tryz.f359.name,aB,Tryz.func359.trans (congrArg some az)⟩
 t0:=Tryz.underlying0
 a0:=Tryz.isAgg0
 z0:=Tryz.sizeOf0
 v0:=Tryz.zeroValue0
 t3:=Tryz.underlying3
 a3:=Tryz.isAgg3
 z3:=Tryz.sizeOf3
 v3:=Tryz.zeroValue3
 t4:=Tryz.underlying4
 a4:=Tryz.isAgg4
 z4:=Tryz.sizeOf4
 v4:=Tryz.zeroValue4
 t5:=Tryz.underlying5
 a5:=Tryz.isAgg5
 z5:=Tryz.sizeOf5
 v5:=Tryz.zeroValue5
 t9:=Tryz.underlying9
 a9:=Tryz.isAgg9
 z9:=Tryz.sizeOf9
 v9:=Tryz.zeroValue9
 t22:=Tryz.underlying338
 a22:=Tryz.isAgg338
 z22:=Tryz.sizeOf338
 v22:=Tryz.zeroValue338
 t25:=Tryz.underlying364
 a25:=Tryz.isAgg364
 z25:=Tryz.sizeOf364
 v25:=Tryz.zeroValue364
 t39:=Tryz.underlying196
 a39:=Tryz.isAgg196
 z39:=Tryz.sizeOf196
 v39:=Tryz.zeroValue196
 t45:=Tryz.underlying330
 a45:=Tryz.isAgg330
 z45:=Tryz.sizeOf330
 v45:=Tryz.zeroValue330
 t46:=Tryz.underlying331
 a46:=Tryz.isAgg331
 z46:=Tryz.sizeOf331
 v46:=Tryz.zeroValue331
 t50:=Tryz.underlying239
 a50:=Tryz.isAgg239
 z50:=Tryz.sizeOf239
 v50:=Tryz.zeroValue239
 t53:=Tryz.underlying64
 a53:=Tryz.isAgg64
 z53:=Tryz.sizeOf64
 v53:=Tryz.zeroValue64
 t55:=Tryz.underlying65
 a55:=Tryz.isAgg65
 z55:=Tryz.sizeOf65
 v55:=Tryz.zeroValue65
 t66:=Tryz.underlying354
 a66:=Tryz.isAgg354
 z66:=Tryz.sizeOf354
 v66:=Tryz.zeroValue354
 t70:=Tryz.underlying358
 a70:=Tryz.isAgg358
 z70:=Tryz.sizeOf358
 v70:=Tryz.zeroValue358
 t76:=Tryz.underlying376
 a76:=Tryz.isAgg376
 z76:=Tryz.sizeOf376
 v76:=Tryz.zeroValue376
 t77:=Tryz.underlying158
 a77:=Tryz.isAgg158
 z77:=Tryz.sizeOf158
 v77:=Tryz.zeroValue158}
end
section
open RowKit Shelf Go.Sort
structure Hd where
 n:Bool
 e:En
 h:e.i<8
instance:Inhabited Hd:=⟨⟨false,⟨Tg.zero,[],0,0⟩,aB⟩⟩
def OY (SE NO:Nat) (x:Hd):List Value:=[.map (some (if x.n then NO else SE)),O .u32 x.e.t.p,O aa x.e.b,O aa x.e.i]
theorem FZ SE NO x:(OY SE NO x).length=4:=rfl
theorem agW SE NO:∀x,∀u∈OY SE NO x,u.oneCell'=true:=λx u hu=>by simp only[OY,bS,cY,or_false] at hu;rcases hu with rfl|rfl|rfl|rfl<;>rfl
def hdC (x y:Hd):=x.e.i-(y.e.i:Int)
theorem awl:SWO (ltOf hdC):=by
 refine⟨λx=>?_,λx y z h1 h2=>?_,λx y z h1 h2=>?_⟩
 ·exact ey (by unfold hdC;omega)
 ·have a:=of_decide_eq_true h1;have b:=of_decide_eq_true h2;exact ez (by unfold hdC at*;omega)
 ·have a:=of_decide_eq_false h1;have b:=of_decide_eq_false h2;exact ey (by unfold hdC at*;omega)
theorem adK:prog.cellsOf 362=4:=az
theorem Xe SE NO (x y:Hd) W:
  Calls prog 303 #[.agg #[.map (some (if x.n then NO else SE)),O .u32 x.e.t.p,O aa x.e.b,O aa x.e.i],.agg #[.map (some (if y.n then NO else SE)),O .u32 y.e.t.p,O aa y.e.b,O aa y.e.i]] W λe w'=>e=ar (O aa (hdC x y))/\∃q os',w'=grow (W.drewN q) os':=by
 have hx:=x.h;have hy:=y.h;have HC:=ag (show(x.e.i:Int)-(y.e.i:Int)=hdC x y from rfl);have i1:=bq ((x.e.i:Int)-(y.e.i:Int)) ⟨ae,ae⟩;generalize (if x.n=true then NO else SE)=mx at*;generalize (if y.n=true then NO else SE)=my at*;generalize x.e=a at*;generalize y.e=b at*;generalize hdC x y=r at*;clear hx hy;have gm:=adK
 go_in
 go_wp2;go_ret;exact⟨by rw[<-HC.o];rfl,0,_,by rw[alloc_eq_grow,alloc_eq_grow,grow_grow];rfl⟩
theorem alg {SE NO P n c base w e L} (h:bQ 4 (OY SE NO) e w base (an (P,0) n c) L):HoldsK (OY SE NO) 4 w P 0 L.toArray:=by
 intro j hj;have hj2:j<L.toArray.size*4:=by rw[<-size_flatK (OY SE NO) 4];exact hj
 rw[cU] at hj2;have hq:j/4<L.length:=ae;have hr:j%4<4:=ae;obtain⟨c1,c2⟩:=h.dU hq hr;rw[show j/4*4+j%4=j by omega] at c1 c2;rw[get_flatK _ _ _ _ (by grind),Nat.zero_add,c1];grind[OY]
theorem aam enc k w blk off n (d:Array Hd) os {q} (hq:q<w.heap.size) (di:q≠blk):(sortWorldK enc k w blk off n d os).heap[q]?=w.heap[q]?:=by show(w.heap.modify blk _++os)[q]?=_;grind
theorem Tq SE NO P n c base w L (h:bQ 4 (OY SE NO) 362 w base (an (P,0) n c) L) (h12:L.length<=12):
  Calls prog 302 #[an (P,0) n c,.func (.func 303) #[] #[]] w λe w'=>e=ar (ao #[])/\(∃L',L'.Perm L/\fP 4 (OY SE NO) w' w' (some ⟨P,0,none⟩) n L')/\Below base w w':=by
 obtain⟨a',c',hv,UR⟩:=h.form;injection hv with _ hn _
 subst hn;obtain⟨hP1,Qc⟩:=h.aN P rfl;have eg:∀args w,(callFunc 303 args).run prog w= .ok (.enter 303 args) w:=enters_of Tryz.func303 az rfl;have hH:=alg h;have aqI:=AnyQ.slices_SortFunc_small_sorted awk 4 Tryz.isAgg362 Tryz.sizeOf362 (OY SE NO) (FZ SE NO) (agW SE NO) hdC 303 #[] awl P 0 c L.toArray w eg (λ_ _ _ _ x y=>Xe SE NO x y _) hH Qc (by grind)
  (λm W hm=>(uS (m:Int) W ae ae).mono λ_ _ ⟨he,hw⟩=>⟨⟨_,he⟩,hw⟩)
 change Calls prog 302 _ _ _ at aqI;rw[cU] at aqI;refine aqI.mono ?_;rintro e w' ⟨rfl,d',m,os,⟨p1,p2,p3⟩,_,rfl⟩;have iG:d'.size=L.length:=by grind
 have hH2:=holdsK_sortWorldK_c (OY SE NO) 4 w P 0 L.toArray d' m os hH Qc p1;have hs:=size_sortWorldK_c (OY SE NO) 4 w P 0 m d' os;refine⟨rfl,⟨d'.toList,?_,?_⟩,?_⟩
 ·rw[<-iG,Array.extract_size] at p3;rw[iG,show L.length=L.toArray.size from(cU ..).symm,Array.extract_size] at p3;exact p3
 ·refine⟨by rw[Array.length_toList];exact iG,ae,λ_=>⟨P,0,rfl,cM Qc hs,λi hi j v hv=>?_⟩⟩;have Y5:i<d'.size:=by rw[<-Array.length_toList];exact hi
  have hj:j<4:=(dq.1 hv).1;have:=(hH2.cell Y5 hj).1;rw[this];have e1:d'[i]! =d'.toList[i]:=by rw[getElem!_pos d' i Y5];rfl
  rw[e1,getElem!_pos _ _ (by rw[FZ];exact hj)];rw[cX (by rw[FZ];exact hj)] at hv;exact hv
 ·exact⟨rfl,rfl,rfl,hs,λq hq=>by
   rcases Nat.lt_or_ge q w with h1|h1
   ·exact aam _ _ _ _ _ _ _ _ h1 ae
   ·omega⟩
end
section
open RowKit Maps
theorem Tt v w:
  Calls prog 347 #[an none 0 0,O aa 0,O aa 0,v] w λe w'=>e=ar (ao #[])/\w=w':=by
 go_in
 go_wp2;refine wp_loop_rounds 1 ?_;rw[rounds_succ];go_wp2;go_end0;exact⟨rfl,rfl⟩
theorem Tu v x w:
  Calls prog 326 #[an none 0 0,O aa 0,O aa 0,O aa x,v] w λe w'=>e=ar (ao #[])/\w=w':=by
 have HI:=ag (Tt v w)
 go_in
 go_wp2;refine wp_loop_rounds 1 ?_;rw[rounds_succ];go_wp2_with fail;refine HI.o.cj ?_;go_wp2
 (try simp only[Exit.inBlock,Exit.then])
 refine bodyPost_ret (results_none rfl _ _ _) rfl ?_;exact⟨rfl,rfl⟩
theorem O3 v w:
  Calls prog 302 #[an none 0 0,v] w λe w'=>e=ar (ao #[])/\w=w':=by
 go_in
 go_wp2_with fail;refine(uS 0 w ae ae).mono ?_;rintro e w1 ⟨rfl,rfl⟩;generalize Lib.bitLen (0:Int).toNat=x;go_wp2_with fail;refine(Tu v x _).cj ?_;go_wp2;go_end0;exact⟨rfl,rfl⟩
namespace dY
def pr (x:Hd):=(x.n,x.e)
def ofMap (n:Bool) (l:List En) k:=(l.filter λe=>e.b==k).map λe=>(n,e)
def allIn (f:Fm) k:=ofMap false f.se k++ofMap true f.no k
def metIn (f:Fm) k
 |0=>[]
 |1=>ofMap false f.se k
 |_=>allIn f k
theorem LM n l e k:ofMap n (l++[e]) k=ofMap n l k++if e.b=k then[(n,e)] else[]:=by unfold ofMap;grind
theorem LP {n l l' k} (h:l.Perm l'):(ofMap n l k).Perm (ofMap n l' k):=(h.filter _).map _
theorem adL n l l' k:ofMap n (l++l') k=ofMap n l k++ofMap n l' k:=by unfold ofMap;rw[List.filter_append,cA]
theorem LQ f k {i} (hi:i<2):metIn f k (i+1)=metIn f k i++ofMap (decide (i=1)) (if i=1 then f.no else f.se) k:=by
 match i with
 |0=>rfl
 |1=>rfl
theorem adM f k i:(metIn f k i).length<=(allIn f k).length:=by
 match i with
 |0=>exact bN _
 |1=>unfold allIn;rw[bE];exact Nat.le_add_right _ _
 |_+2=>exact bp _
end dY
theorem aqJ:(prog.info? 362).map (λi=>(i.zero,i.size,i.bytes))=some (some (.agg #[.map none,O .u32 0,O aa 0,O aa 0]),4,32):=az
theorem Tv {SE NO w ops rest o ac Q cs} (mF:o.guard=none) s x (ho:o.op= .call {callee:= .builtin .append,args:=#[s,x],argTypes:=#[338,338]}) base
  v xs (hs:ac.eval s=v) (bz:bQ 4 (OY SE NO) 362 w base v xs) y g (hx:ac.eval x=an (g,0) 1 1) (hg:g=w.heap.size) (gm:cs=(OY SE NO y).toArray)
  (fB:xs.length<=1000000) (dE:base<=w)
  (h:∀v' w',Hid (bQ 4 (OY SE NO) 362 w' base v' (xs++[y]))->Hid (Kq (λq=>v.ownBlock=some q) w w')->wpList prog ops Q rest (ac.put o.dst v') w'):wpList prog ops Q (o::rest) ac (w.alloc (.cells cs 362)):=by
 subst hg;obtain⟨i0,hi,qm,tZ,tu⟩:=info_parts aqJ;have aZ:base<=(w.alloc (.cells cs 362)).heap.size:=by simp;omega
 exact lq mF s x 338 ho base 362 i0 _ 32 Tryz.underlying338 hi qm tZ tu rfl aB (agW SE NO) v xs hs (bz.alloc _) _ _ 1 1 [y] hx (fP.ajQ w 362 y gm) ae (by simp only[maxLen];omega) aZ λv' w' h1 h2 _=>
  h v' w' (ag h1) (ag ((Kq.of ((aE _ w).alloc av _)).trans (Kq.grown h2)))
namespace dY
theorem alh {f k i MB r w d Bi} {L:List Hd} (hi:i<2) (hls:Bi=if i=1 then f.no else f.se) (hr:jH w MB r Bi d) (hp:(L.map pr).Perm (metIn f k i++ofMap (decide (i=1)) d k)) (hlen:(allIn f k).length<=12):L.length<=12:=by obtain⟨rest,awm⟩:=hr.rest;have h1:=hp.length_eq;rw[bO,bE] at h1;have h2:=(LP (n:=decide (i=1)) (k:=k) awm).length_eq;rw[adL,bE] at h2;have h3:=adM f k (i+1);rw[LQ f k hi,<-hls,bE] at h3;omega
theorem agX {f k i d Bi} {L:List Hd} (hi:i<2) (hls:Bi=if i=1 then f.no else f.se) (hd:d.Perm Bi) (hp:(L.map pr).Perm (metIn f k i++ofMap (decide (i=1)) d k)):(L.map pr).Perm (metIn f k (i+1)):=by rw[LQ f k hi,<-hls];exact hp.trans ((LP hd).append_left _)
theorem agY {f k i d L e h8} (hk:e.b=k) (hp:(L.map pr).Perm (metIn f k i++ofMap (decide (i=1)) d k)):((L++[(⟨decide (i=1),e,h8⟩)]).map pr).Perm (metIn f k i++ofMap (decide (i=1)) (d++[e]) k):=by rw[LM,ev hk,cA,<-cQ];exact hp.append_right _
theorem agZ {f k i d} {L:List Hd} {e} (hk:¬e.b=k) (hp:(L.map pr).Perm (metIn f k i++ofMap (decide (i=1)) d k)):(L.map pr).Perm (metIn f k i++ofMap (decide (i=1)) (d++[e]) k):=by rw[LM,eo hk,cC];exact hp
end dY
theorem fP.kq {α m f T w w' B n a} {xs:List α} (h:fP m f w B a n xs) (hB:B<=w) (hk:Kq T w w') (hT:∀b o,a=some ⟨b,o,none⟩->¬T b):fP m f w' B a n xs:=by obtain⟨h1,h2,h3⟩:=h;refine⟨h1,h2,λhn=>?_⟩;obtain⟨b,o,ha,aT,hc⟩:=h3 hn;exact⟨b,o,ha,aT,λi hi j v hv=>(World.cell?_of_block (a:=⟨b,_,none⟩) (hk.block b ae (hT b o ha))).trans (hc i hi j v hv)⟩
theorem ag0 {α m f e w base b r v} {xs:List α} {l d} (h:bQ m f e w base v xs) (hr:jH w b r l d):v.ownBlock≠some r/\v.ownBlock≠some b:=by
 rcases h.2.2 with⟨rfl,_⟩|⟨g,cap,cur,rfl,_,hg,_⟩
 ·constructor<;>·intro e;cases e
 ·obtain⟨es,clock,since,seen,c0,h1,_,h3,_⟩:=hr.1;refine⟨λe=>?_,λe=>?_⟩
  ·obtain rfl:g=r:=Option.some.inj e;rw[hg] at h3;cases h3
  ·obtain rfl:g=b:=Option.some.inj e;rw[hg] at h1;cases h1
section
open dY
variable {NB B:Nat} {R:Nat->Prop} {w:World} {f:Fm}
def Ndd (f:Fm) (k:Nat) (w:World) (e:Ending) (w':World):=
 (∃a n c,∃L,e=ar (an a n c)/\n<=12/\(L.map pr).Perm (allIn f k)/\fP 4 (OY f.SE f.NO) w' w' a n L/\∀b o,a=some ⟨b,o,none⟩->w<=b)/\Below w w w'
theorem Tm (h:cu NB B R w f) k (h8:∀e∈f.se++f.no,e.i<8) (hlen:(allIn f k).length<=12):
  Calls prog 277 #[f.F,O aa k] w (Ndd f k w):=by
 have HH:=ag h;have H8:=ag h8;have HL:=ag hlen;clear h h8 hlen
 go_in
 go_upto_region 2 with fail;have gZ:=ag (show Below w w w.drew from ak w);refine iE (λW'=>Below w w W') gZ.o (λaY=>?_);generalize w.drew=w1 at*;refine dw 0 f.F 0 ?_;refine dw 1 f.F 0 ?_;refine aS 2 f.F 5 ?_;refine kS 3 (.map (some f.SE)) (λ_ aK=>(HH.o.on aK).c5) ?_;refine dw 4 f.F 0 ?_;refine dw 5 f.F 0 ?_;refine aS 6 f.F 6 ?_;refine kS 7 (.map (some f.NO)) (λ_ aK=>(HH.o.on aK).c6) ?_;refine dI 10 0 ?_;refine bY 8 (λK' hK=>?_);go_simp;have dh:Below w w (w1.alloc (.cells #[.map (some f.SE),.map (some f.NO)] 222)):=aY.aA ((aE _ _).alloc av _);have iH:=ag (aF.new w1 222 #[.map (some f.SE),.map (some f.NO)]);have bV:=ag dh;have HKz:=ag aY.size;refine hK.out _ _ dh (λfE=>?_)
 refine iR 9 2 ?_;refine eH ?_;generalize jT:w1.alloc (.cells #[.map (some f.SE),.map (some f.NO)] 222)=w2 at*;clear jT aY dh fE;generalize w1.heap.size=K at*;clear gZ;clear w1;go_wp2_with fail
 go_loopw [5,7,8,9,20] (λv5 _ _ _ v20 wr=>∃i:Nat,i<=2/\v20=O aa i/\Hid (∃L:List Hd,bQ 4 (OY f.SE f.NO) 362 wr w2 v5 L/\(L.map pr).Perm (metIn f k i)/\(L=[]->v5=an none 0 0))/\Hid (Below w2 w2 wr)) (λ_ _ _ _ v20 _=>2-(intOf v20).toNat)
 case atStart=>exact⟨0,ae,rfl,⟨[],bQ.nil (FZ _ _) _ _,List.Perm.refl _,λ_=>rfl⟩,aE _ _⟩
 case round=>
  obtain⟨i,hi,rfl,hL,hb⟩:=hrel;have HB:=ag hb.o;have HZ:=ag (bB bV.o.size hb.o.size);by_cases aT:i<2
  ·obtain⟨MB,hMB⟩:=aW (if i=1 then f.NO else f.SE);obtain⟨Bi,hls⟩:=aW (if i=1 then f.no else f.se);have hF:=(HH.o.on bV.o).on hb.o;have hkc:=aF.ah iH.o hb.o;have rC:wr.cell? (K,i)=some (.map (some MB)):=by
    rw[hMB];rcases(show i=0\/i=1 by omega) with rfl|rfl
    ·exact hkc.aj rfl
    ·exact hkc.aj rfl
   have BR:dH wr MB Bi:=by
    rw[hMB,hls];rcases(show i=0\/i=1 by omega) with rfl|rfl
    ·exact hF.hS
    ·exact hF.hN
   have HM:=ag BR;have HMB:=ag hMB;have HLS:=ag hls;have g1:(0:Int)<=(i:Int):=ae;have g2:(i:Int)<2:=ae;clear hF hkc BR hMB hls
   go_wp2_with (at_range;refine jl _ rfl _ rfl MB Bi rfl HM.o ?_;intro w3 CY cO EN)
   go_frame;clear rC;have hL3:Hid (∃L:List Hd,bQ 4 (OY f.SE f.NO) 362 w3 w2 u5 L/\(L.map pr).Perm (metIn f k i)/\(L=[]->u5=an none 0 0)):=by obtain⟨L,l1,l2,l3⟩:=hL.o;exact⟨L,l1.on cO.o,l2,l3⟩
   have jM:=ag (HB.o.aA cO.o);have HRz:=ag hb.o.size;clear hL hb HB;generalize wr.heap.size=r at*
   go_loopw [5,8,9,26] (λv5 _ _ _ wq=>Hid (∃d,jH wq MB r Bi d/\∃L:List Hd,bQ 4 (OY f.SE f.NO) 362 wq w2 v5 L/\(L.map pr).Perm (metIn f k i++ofMap (decide (i=1)) d k)/\(L=[]->v5=an none 0 0))/\Hid (Below w2 w2 wq)) (λ_ _ _ _ wq=>wq.rangeLeft MB r)
   case atStart=>obtain⟨L,l1,l2,l3⟩:=hL3.o;exact⟨⟨[],CY.o,L,l1,by rw[show ofMap (decide (i=1)) [] k=[] from rfl,cC];exact l2,l3⟩,jM.o⟩
   case round=>
    obtain⟨hX,eQ⟩:=hrel;have je:=ag eQ.o;clear hL3 CY cO jM eQ;obtain⟨d,hd,L,l1,l2,l3⟩:=hX.o;have HD:=ag hd;have VM:=ag l1;have xW:=ag l2;have wR:=ag l3;clear hX hd l1 l2 l3
    go_wp2_with (at_next;refine jK _ rfl _ rfl MB r Bi d rfl HD.o ?_ ?_)
    ·intro hp;have HP:=ag (agX aT HLS.o hp.o xW.o);go_wp2_with fail;go_roundw
     case rel=>exact⟨i+1,ae,by go_num,⟨L,VM.o,HP.o,wR.o⟩,je.o⟩
     case measure=>simp[intOf];omega
    ·intro e w6 he IL U0 hs6 OM hen;rw[uP] at hen⊢;have di:=ag (ag0 VM.o HD.o);have BQ:=ag ((VM.o.grown U0.o (.inr λe=>di.o.1 e)).alloc (.cells #[O aa e.b,O aa e.i] 247));have fJ:Below w2 w2 w6:=je.o.grown U0.o je.o.size (λj hj=>by have:=HRz.o;have:=Option.some.inj hj;omega);have ve:=ag fJ;have nY:=ag (fJ.alloc fJ.size (.cells #[O aa e.b,O aa e.i] 247));have hle:=H8.o e (by
      have h1:=he.o.1;rw[HLS.o] at h1;rcases(show i=0\/i=1 by omega) with rfl|rfl
      ·exact List.mem_append_left _ h1
      ·exact List.mem_append_right _ h1)
     have HLE:=ag hle;clear fJ hle;by_cases hk:e.b=k
     ·have hkb:((e.b:Int)==(k:Int))=true:=by rw[beq_iff_eq];omega
      have VF:=ag hk;clear hk;have awn:#[.map (some MB),O .u32 e.t.p,O aa e.b,O aa e.i]=(OY f.SE f.NO ⟨decide (i=1),e,HLE.o⟩).toArray:=by simp[OY,HMB.o]
      have hgz:wr.heap.size+1=(w6.alloc (.cells #[O aa e.b,O aa e.i] 247)).heap.size:=by simp[hs6]
      have HCS:=ag awn;have HGZ:=ag hgz;have UJ:=ag (show L.length<=1000000 by have:=alh aT HLS.o HD.o xW.o HL.o;omega);clear awn hgz
      go_wp2_with (at_builtin;refine Tv (SE:=f.SE) (NO:=f.NO) rfl _ _ rfl w2 _ L rfl BQ.o ⟨decide (i=1),e,HLE.o⟩ _ rfl HGZ.o HCS.o UJ.o nY.o.size ?_;intro v7 w7 uB yh)
      have mf:=bA w6 (.cells #[O aa e.b,O aa e.i] 247);have hr7:=IL.o.on mf;have q1:=yh.o.block MB hr7.ltb λe=>di.o.2 e;have q2:=yh.o.block r hr7.ltr λe=>di.o.1 e;have CU:=ag (hr7.same q1 q2);have x8:=ag (show w7.rangeLeft MB r<wr.rangeLeft MB r by rw[oG q1 q2,IL.o.1.ug mf];exact OM.o);have UG:=ag (nY.o.trans (yh.o.below (λq hq=>(BQ.o.aN q hq).1) nY.o.size));have HP:=ag (agY (h8:=HLE.o) VF.o xW.o);clear mf hr7 q1 q2;go_wp2_with fail;go_roundw
      case rel=>exact⟨⟨d++[e],CU.o,_,uB.o,HP.o,λh=>by simp at h⟩,UG.o⟩
      case measure=>exact x8.o
     ·have hkb:((e.b:Int)==(k:Int))=false:=by rw[ew];omega
      have VF:=ag hk;clear hk;go_wp2_with fail;have mf:=bA w6 (.cells #[O aa e.b,O aa e.i] 247);go_roundw
      case rel=>exact⟨⟨d++[e],IL.o.on mf,_,BQ.o,agZ VF.o xW.o,wR.o⟩,nY.o⟩
      case measure=>rw[IL.o.1.ug mf];exact OM.o
  ·obtain rfl:i=2:=ae;obtain⟨L,l1,l2,l3⟩:=hL.o;have ali:L.length<=12:=by have:=l2.length_eq;rw[bO] at this;have h3:=HL.o;have:(metIn f k 2).length=(allIn f k).length:=rfl;omega
   have UJ:=ag ali;by_cases h0:L=[]
   ·subst h0;obtain rfl:=l3 rfl;have HP:=ag l2;clear hL hb l1 l2 l3 ali;go_wp2_with fail;refine(O3 _ wr).cj ?_;go_wp2;go_ret;exact⟨⟨none,0,0,[],rfl,ae,HP.o,fP.none_ _ _ _,λ_ _ e=>(by cases e)⟩,bV.o.trans (HB.o.mono bV.o.size)⟩
   ·obtain⟨P,c,rfl,hc,hP1,Qc⟩:=l1.jh (List.length_pos_iff.2 h0);have HS:=ag (Tq f.SE f.NO P L.length c w2 wr L l1 ali);have HP:=ag l2;clear hL hb l1 l2 l3 ali h0;go_wp2_with fail;go_call HS.o as e w7 ⟨rfl,hX,jr⟩;have HX:=ag hX;have nY:=ag jr;clear hX jr;go_wp2;go_ret;obtain⟨L',p1,p2⟩:=HX.o;exact⟨⟨_,_,_,L',rfl,UJ.o,(p1.map pr).trans HP.o,p2,λb o e=>by injection e with e;injection e with e;have:=bV.o.size;omega⟩,bV.o.trans ((HB.o.trans nY.o).mono bV.o.size)⟩
end
end
section
open RowKit
namespace dY
def sk (e:En):=(e.t,e.d)
structure Same (f f':Fm):Prop where
 F:f'.F=f.F
 SE:f'.SE=f.SE
 NO:f'.NO=f.NO
 GO:f'.GO=f.GO
 LA:f'.LA=f.LA
 M:f'.g.M=f.g.M
 ML:f'.g.ML=f.g.ML
 C:f'.g.C=f.g.C
 seq:f'.seq=f.seq
 ep:f'.ep=f.ep
 tv:f'.tv=f.tv
 tx:f'.tx=f.tx
 ov:f'.ov=f.ov
 se:f'.se.map sk=f.se.map sk
 no:f'.no.map sk=f.no.map sk
 go:f'.go.map (λe=>e.t.p)=f.go.map λe=>e.t.p
 gh:f'.g.gh=f.g.gh
theorem Same.refl f:Same f f:=⟨rfl,rfl,rfl,rfl,rfl,rfl,rfl,rfl,rfl,rfl,rfl,rfl,rfl,rfl,rfl,rfl,rfl⟩
theorem Same.trans {a b c} (h:Same a b) (k:Same b c):Same a c:=
 ⟨k.F.trans h.F,k.SE.trans h.SE,k.NO.trans h.NO,k.GO.trans h.GO,k.LA.trans h.LA,k.M.trans h.M,k.ML.trans h.ML,k.C.trans h.C,k.seq.trans h.seq,k.ep.trans h.ep,k.tv.trans h.tv,k.tx.trans h.tx,k.ov.trans h.ov,k.se.trans h.se,k.no.trans h.no,k.go.trans h.go,k.gh.trans h.gh⟩
theorem Same.aCg {f f'} (h:Same f f'):(f'.se++f'.no).length=(f.se++f.no).length:=by have h1:=congrArg List.length h.se;have h2:=congrArg List.length h.no;grind
theorem FX {l x e} (hu:Uq l) (hx:x∈l) (hp:x.t.p=e.t.p):(x::dA l e).Perm (e::l):=by obtain⟨l1,l2,rfl⟩:=List.append_of_mem hx;rw[JL hu hp];refine((List.perm_middle (a:=e) (l₁:=l1) (l₂:=l2)).cons x).trans ?_;refine(List.Perm.swap e x (l1++l2)).trans ?_;exact(List.perm_middle.symm).cons e
theorem ace {l x e} (hu:Uq l) (hx:x∈l) (ht:e.t=x.t) (hd:e.d=x.d):(dA l e).map sk=l.map sk:=by obtain⟨l1,l2,rfl⟩:=List.append_of_mem hx;rw[JL hu (by rw[ht])];simp only[cA,cE];rw[show sk e=sk x by unfold sk;rw[ht,hd]]
theorem Qw {l l'} (h:l'.map sk=l.map sk) (hu:Uq l):Uq l':=by
 have e:∀l:List En,l.map (λe=>e.t.p)=(l.map sk).map λy=>y.1.p:=λl=>by rw[cW];rfl
 unfold Uq at*;rw[e,h,<-e];exact hu
theorem Qr {l e} (hs:(aI l e.t.p).isSome=true):(dA l e).map (λe=>e.t.p)=l.map λe=>e.t.p:=by
 unfold dA;rw[ev hs,cW];refine dp λx _=>?_;grind
theorem um {l e y} (hy:y∈l) (di:y.t.p≠e.t.p):y∈dA l e:=by
 unfold dA
 grind
theorem Xf {l} (h:Uq l):l.Nodup:=ng h
theorem zV {n l k y}:y∈ofMap n l k↔y.1=n/\y.2∈l/\y.2.b=k:=by
 unfold ofMap;grind
theorem Xg {f k} (h1:Uq f.se) (h2:Uq f.no):(allIn f k).Nodup:=by unfold allIn;rw[List.nodup_append];refine⟨F5 (λa b e=>congrArg Prod.snd e) ((Xf h1).filter _),F5 (λa b e=>congrArg Prod.snd e) ((Xf h2).filter _),?_⟩;rintro a ha b hb rfl;have e1:=(zV.1 ha).1;have e2:=(zV.1 hb).1;rw[e1] at e2;cases e2
theorem Qu f k:(allIn f k).length=((f.se++f.no).filter λe=>e.b==k).length:=by unfold allIn ofMap;grind
theorem D6 {l e y} (h:y∈dA l e):y=e\/y∈l:=by
 unfold dA at h;grind
structure FY f f' (X:Nat->Prop):Prop where
 same:Same f f'
 row:∀q,X q->Gc.at_ f'.g.l q=Gc.at_ f.g.l q
 aC:∀q,(Gc.at_ f'.g.l q).aC=(Gc.at_ f.g.l q).aC
 ks:∀e,X e.b->e∈f.se->e∈f'.se
 kn:∀e,X e.b->e∈f.no->e∈f'.no
 bk:∀e,X e.b->e∈f'.se++f'.no->e∈f.se++f.no
theorem FY.refl f X:FY f f X:=⟨Same.refl f,λ_ _=>rfl,λ_=>rfl,λ_ _ h=>h,λ_ _ h=>h,λ_ _ h=>h⟩
theorem FY.trans {a b c X Y} (h:FY a b X) (k:FY b c Y) (hY:∀q,X q->Y q):FY a c X:=
 ⟨h.same.trans k.same,λq hq=>(k.row q (hY q hq)).trans (h.row q hq),λq=>(k.aC q).trans (h.aC q),λe he h1=>k.ks e (hY _ he) (h.ks e he h1),λe he h1=>k.kn e (hY _ he) (h.kn e he h1),λe he h1=>h.bk e he (k.bk e (hY _ he) h1)⟩
theorem FY.mono {a b X Y} (h:FY a b Y) (hY:∀q,X q->Y q):FY a b X:=(FY.refl a X).trans h hY
theorem FY.mgr {f g X} (h1:g.M=f.g.M) (h2:g.ML=f.g.ML) (h3:g.C=f.g.C) (h4:g.gh=f.g.gh) (hr:∀q,X q->Gc.at_ g.l q=Gc.at_ f.g.l q) (hw:∀q,(Gc.at_ g.l q).aC=(Gc.at_ f.g.l q).aC):FY f {f with g:=g} X:=
 ⟨⟨rfl,rfl,rfl,rfl,rfl,h1,h2,h3,rfl,rfl,rfl,rfl,rfl,rfl,rfl,rfl,h4⟩,hr,hw,λ_ _ h=>h,λ_ _ h=>h,λ_ _ h=>h⟩
theorem Qn.acd {NB k i g g' bs} (h:Qn NB g g' k i bs) q:(Gc.at_ g'.l q).aC=(Gc.at_ g.l q).aC:=by
 by_cases e:q=k
 ·rw[e];exact h.aC
 ·rw[h.row q e]
theorem Fld.acd {NB k g g'} (h:Fld NB g g' k) q:(Gc.at_ g'.l q).aC=(Gc.at_ g.l q).aC:=by
 by_cases e:q=k
 ·rw[e];exact h.aC
 ·rw[h.row q e]
def Opj (NB:Nat) (g:Mg) (j:Nat):=(j=0/\g.opn= -1)\/(0<j/\∃a,a<NB/\g.opn=a/\(Gc.at_ g.l a).nx=j/\(Gc.at_ g.l a).live=j)
def dM (NB:Nat) (g:Mg):=(g.bl NB).nx
def cc
 |0=>1
 |n+1=>8*cc n+10
theorem agL n:1<=cc n:=by cases n<;>simp[cc]
theorem D9 {m n} (h:m<=n):cc m<=cc n:=by
 induction h with
 |refl=>exact bp _
 |step _ ih=>show _<=8*_+10;omega
theorem aae {n} (h:n<=2):cc n<=154:=D9 h
def clo (NB:Nat) (f:Fm) q:=q<NB/\(Gc.at_ f.g.l q).st≠0/\(Gc.at_ f.g.l q).st≠1
def oth (NB k:Nat) (f:Fm) q:=q<NB/\q≠k/\(Gc.at_ f.g.l q).st≠0
def c23 (g:Mg) q:=(Gc.at_ g.l q).st=2\/(Gc.at_ g.l q).st=3
structure Cpj NB n f f' j:Prop where
 mi:FY f f' (clo NB f)
 fi:∃n',Fi NB n' [] f'.g (f'.se++f'.no)/\n'+cc (dM NB f'.g)<=n+cc (dM NB f.g)
 op:Opj NB f'.g j
 num:qn f'.g=qn f.g
 lf:Gc.count 4 f'.g.l+dM NB f'.g<=Gc.count 4 f.g.l+dM NB f.g
 ph:dM NB f'.g<=dM NB f.g
 mo:(f'.g.bl NB).bad=(f.g.bl NB).bad
 nw:∀q,c23 f'.g q->c23 f.g q
structure Cps NB n f f1 g' k j bs:Prop where
 mi:FY f f1 (clo NB f)
 pgd:Qn NB f1.g g' k j bs
 fi:Fi NB (n+cc (dM NB f.g)) [k] g' (f1.se++f1.no)
 op:j+1<8->Opj NB g' (j+1)
 num:qn g'+(if j=0 then 1 else 0)=qn f.g
 lf:Gc.count 4 g'.l+dM NB g'<=Gc.count 4 f.g.l+dM NB f.g
 ph:dM NB g'<=dM NB f.g
 mo:(g'.bl NB).bad=(f.g.bl NB).bad
 nw:j+1<8->∀q,c23 g' q->c23 f.g q
structure Rsd NB n f f' k m:Prop where
 mi:FY f f' (oth NB k f)
 fi:Fi NB (n+7*cc (dM NB f.g)+8) [] f'.g (f'.se++f'.no)
 st:(Gc.at_ f'.g.l k).st=4
 op:Opj NB f'.g m
 num:qn f'.g=qn f.g+(if m=0 then 1 else 0)
 lf:Gc.count 4 f'.g.l+dM NB f'.g<=Gc.count 4 f.g.l+dM NB f.g+1
 ph:dM NB f'.g<=dM NB f.g
 mo:(f'.g.bl NB).bad=(f.g.bl NB).bad
 nw:∀q,c23 f'.g q->c23 f.g q/\q≠k
section
variable {NB n k j m:Nat} {f f' f1 f2:Fm} {g':Mg} {bs:List UInt8}
theorem Cpj.start (h:Fi NB n [] f.g (f.se++f.no)) (ho:Opj NB f.g j):Cpj NB n f f j:=⟨FY.refl _ _,⟨n,h,bp _⟩,ho,rfl,bp _,bp _,rfl,λ_ h=>h⟩
theorem Opj.room {g} (h:Opj NB g j) (hr:dM NB g+(if j=0 then 1 else 0)<=Gc.count 0 g.l):g.opn≠-1\/0<Gc.count 0 g.l:=by
 rcases h with⟨rfl,_⟩|⟨_,a,_,e,_⟩
 ·grind
 ·exact .inl ae
theorem Opj.at_ {g i} (h:Opj NB g j) (hP:Qn NB g g' k i bs):i=j:=by
 rcases h with⟨rfl,e⟩|⟨_,a,_,e,e2,_⟩
 ·rcases hP.was with⟨_,_,e3,_⟩|⟨e3,_⟩
  ·exact e3
  ·omega
 ·rcases hP.was with⟨e3,_⟩|⟨e3,_,e4,_⟩
  ·omega
  grind
theorem Cpj.room (h:Cpj NB n f f' j) (hr:dM NB f.g+(if j=0 then 1 else 0)<=Gc.count 0 f.g.l):dM NB f'.g+(if j=0 then 1 else 0)<=Gc.count 0 f'.g.l:=by have:=h.num;have:=h.lf;have:=h.ph;unfold qn at*;omega
theorem Cpj.done {n' g1} (h:Cpj NB n f f' j) (jg:Fi NB n' [] f'.g (f'.se++f'.no)) (hn:n'+cc (dM NB f'.g)<=n+cc (dM NB f.g)) {i} (hP:Qn NB f'.g g1 k i bs) (hf:Fi NB (n'+1) [k] g1 (f'.se++f'.no)):Cps NB n f f' g1 k j bs:=by
 obtain rfl:=h.op.at_ hP;have hc:=agL (dM NB f'.g);obtain⟨s1,s2,s3⟩:=hP.sk.nxT;have e1:dM NB g1=dM NB f'.g:=s1;refine⟨h.mi,hP,hf.le ae,λh8=> .inr ⟨ae,k,hP.hk,?_,hP.nx,?_⟩,?_,by rw[e1,hP.c4];exact h.lf,by rw[e1];exact h.ph,s2.trans h.mo,λh8 q hq=>h.nw q ?_⟩
 ·rw[hP.opn,eo ae]
 ·rw[hP.live];rcases hP.was with⟨_,e,rfl,_⟩|⟨e,_⟩
  ·rw[((jg.w.bk k hP.hk).fr e).1]
  ·rcases h.op with⟨_,e3⟩|⟨_,a,_,e3,_,e4⟩
   ·omega
   grind
 ·have:=h.num;have:=hP.c4;unfold qn at*;rcases hP.was with⟨e,_,rfl,e4⟩|⟨e,_,e3,e4⟩
  ·rw[ev rfl];omega
  ·have:i≠0:=by rcases h.op with⟨_,e5⟩|⟨e5,_⟩<;>omega
   rw[eo this];omega
 ·have hqk:q≠k:=λe=>by unfold c23 at hq;rw[e,hP.st,eo ae] at hq;omega
  unfold c23 at hq⊢;rw[hP.row q hqk] at hq;exact hq
structure Rsq NB (f:Fm) (k m:Nat):Prop where
 hk:k<NB
 op:f.g.opn= -1
 live:(Gc.at_ f.g.l k).live=m
 st:(Gc.at_ f.g.l k).st=if m=0 then 3 else 2
 m7:m<=7
 fr:dM NB f.g+1<=Gc.count 0 f.g.l
 lf:Gc.count 4 f.g.l+dM NB f.g+1<=2
 md:(f.g.bl NB).bad=true
theorem Cpj.ask (h:Cpj NB n f f' j) (hj:j<=7) (hr:dM NB f.g+(if j=0 then 1 else 0)<=Gc.count 0 f.g.l) (hl:Gc.count 4 f.g.l+dM NB f.g<=2) {g1} (hP:Fld NB f'.g g1 k) (jg:∃n' x E,Fi NB n' x f'.g E):Rsq NB {f' with g:=g1} k j:=by
 obtain⟨s1,s2,s3,s4⟩:=hP.sk.nxF;have e1:dM NB g1+1=dM NB f'.g:=s1;have hro:=h.room hr;have Vg:=h.lf;have Ho:(Gc.at_ f'.g.l k).live=j/\Gc.count 0 g1.l+(if j=0 then 1 else 0)=Gc.count 0 f'.g.l:=by
  obtain⟨n',x,E,hf⟩:=jg;rcases hP.was with⟨e,e2,e3⟩|⟨e,e2,e3⟩
  ·rcases h.op with⟨rfl,_⟩|⟨_,a,_,e4,_⟩
   ·exact⟨((hf.w.bk k hP.hk).fr e2).1,by rw[ev rfl];exact e3⟩
   ·omega
  ·rcases h.op with⟨_,e4⟩|⟨hj0,a,_,e4,_,e5⟩
   ·omega
   grind
 refine⟨hP.hk,hP.opn,hP.live.trans Ho.1,?_,hj,?_,?_,s2.trans s4⟩
 ·rw[<-Ho.1];exact hP.st
 ·grind
 ·show Gc.count 4 g1.l+dM NB g1+1<=2;rw[hP.c4];omega
theorem Cpj.next {n' g1} (h:Cpj NB n f f' j) (hn:n'+cc (dM NB f'.g)<=n+cc (dM NB f.g)) (hP:Fld NB f'.g g1 k) (hR:Rsd NB (n'+1) {f' with g:=g1} f2 k j):Cpj NB n f f2 j:=by
 obtain⟨s1,s2,s3,s4⟩:=hP.sk.nxF;have e1:dM NB g1+1=dM NB f'.g:=s1;have hX:∀q,clo NB f q->clo NB f' q:=λq hq=>by unfold clo at*;rw[h.mi.row q hq];exact hq
 have hk:∀q,clo NB f' q->q≠k:=λq hq e=>by unfold clo at hq;rw[e] at hq;rcases hP.was with⟨_,e2,_⟩|⟨_,e2,_⟩<;>omega
 have h1:FY f' {f' with g:=g1} (clo NB f'):=FY.mgr hP.M hP.ML hP.C hP.gh (λq hq=>hP.row q (hk q hq)) hP.acd;have h2:=h.mi.trans (h1.trans hR.mi λq hq=>⟨hq.1,hk q hq,by show(Gc.at_ g1.l q).st≠0;rw[hP.row q (hk q hq)];exact hq.2.1⟩) hX;have NR:=hR.ph;have aqG:dM NB f2.g<=dM NB g1:=NR;have Vg:Gc.count 4 f2.g.l+dM NB f2.g<=Gc.count 4 g1.l+dM NB g1+1:=hR.lf;refine⟨h2,⟨_,hR.fi,?_⟩,hR.op,?_,?_,?_,hR.mo.trans (s2.trans h.mo),λq hq=>h.nw q ?_⟩
 ·show n'+1+7*cc (dM NB g1)+8+cc (dM NB f2.g)<=_;have hm:=D9 aqG;rw[<-e1] at hn;have:cc (dM NB g1+1)=8*cc (dM NB g1)+10:=rfl;omega
 ·have h3:qn f2.g=qn g1+(if j=0 then 1 else 0):=hR.num;have h4:=h.num;have h5:=hP.c4;rw[h3,<-h4];unfold qn;rcases hP.was with⟨e,e2,e3⟩|⟨e,e2,e3⟩
  ·have:j=0:=by rcases h.op with⟨e4,_⟩|⟨_,a,_,e4,_⟩;exact e4;omega
   rw[ev this];omega
  ·have:j≠0:=by rcases h.op with⟨_,e4⟩|⟨e4,_⟩<;>omega
   rw[eo this];omega
 ·have:=h.lf;have:=hP.c4;omega
 ·have:=h.ph;omega
 ·obtain⟨h3,h4⟩:=hR.nw q hq;unfold c23 at h3⊢;rw[show Gc.at_ ({f' with g:=g1}:Fm).g.l q=Gc.at_ f'.g.l q from hP.row q h4] at h3;exact h3
structure JO NB n f f' k m j (rest:List Hd):Prop where
 mi:FY f f' (oth NB k f)
 fi:Fi NB (n+j*(cc (dM NB f.g)+1)) [] f'.g (f'.se++f'.no)
 us:Uq f'.se
 un:Uq f'.no
 live:(Gc.at_ f'.g.l k).live=m-j
 st:(Gc.at_ f'.g.l k).st=if m=j then 3 else 2
 op:Opj NB f'.g j
 num:qn f'.g+(if j=0 then 0 else 1)=qn f.g
 lf:Gc.count 4 f'.g.l+dM NB f'.g<=Gc.count 4 f.g.l+dM NB f.g
 ph:dM NB f'.g<=dM NB f.g
 mo:(f'.g.bl NB).bad=(f.g.bl NB).bad
 nw:∀q,c23 f'.g q->c23 f.g q
 zero:j=0->f'=f
 mem:∀y∈rest,y.e.b=k/\y.e∈if y.n then f'.no else f'.se
 nd:(rest.map pr).Nodup
 len:rest.length+j=m
theorem aCu {L} (jg:Fi NB n [] f.g (f.se++f.no)) (h1:Uq f.se) (h2:Uq f.no) (hk:k<NB) (ho:f.g.opn= -1) (hs:(Gc.at_ f.g.l k).st=if (Gc.at_ f.g.l k).live=0 then 3 else 2) (hL:(L.map pr).Perm (allIn f k)):JO NB n f f k (Gc.at_ f.g.l k).live 0 L:=by
 have hc:=jg.count hk;rw[<-Qu] at hc;refine⟨FY.refl _ _,by grind,h1,h2,rfl,hs,.inl ⟨rfl,ho⟩,rfl,bp _,bp _,rfl,λ_ h=>h,λ_=>rfl,λy hy=>?_,hL.nodup_iff.2 (Xg h1 h2),?_⟩
 ·have hy2:pr y∈allIn f k:=hL.mem_iff.1 (bw.2 ⟨y,hy,rfl⟩);unfold allIn at hy2;rcases cv.1 hy2 with h3|h3
  ·obtain⟨e1,e2,e3⟩:=zV.1 h3;have e1:y.n=false:=e1;exact⟨e3,by rw[e1];exact e2⟩
  ·obtain⟨e1,e2,e3⟩:=zV.1 h3;have e1:y.n=true:=e1;exact⟨e3,by rw[e1];exact e2⟩
 ·have:=hL.length_eq;grind
def NS (x:Hd) k i:={x.e with b:=k,i:=i}
section
variable {x:Hd} {rest:List Hd} {k':Nat} {g1:Mg} {n0:Nat}
theorem JO.room (h:JO NB n f f' k m j rest) (hr:dM NB f.g+1<=Gc.count 0 f.g.l):dM NB f'.g+(if j=0 then 1 else 0)<=Gc.count 0 f'.g.l:=by
 have:=h.num;have:=h.lf;have:=h.ph;unfold qn at*;grind
theorem JO.left (h:JO NB n f f' k m j (x::rest)):j<m:=by have:=h.len;rw[cD] at this;omega
theorem JO.clo (h:JO NB n f f' k m j (x::rest)) (hk:k<NB):dY.clo NB f' k:=⟨hk,by rw[h.st,eo (by have:=h.left;omega)];decide,by rw[h.st,eo (by have:=h.left;omega)];decide⟩
theorem JO.mem1 (h:JO NB n f f' k m j (x::rest)) (hk:k<NB) (hc:Cps NB n0 f' f1 g1 k' j bs):x.e∈if x.n then f1.no else f1.se:=by
 obtain⟨xb,xm⟩:=h.mem x au;have hX:dY.clo NB f' x.e.b:=by rw[xb];exact h.clo hk
 cases hn:x.n
 ·rw[hn] at xm;exact hc.mi.ks _ hX xm
 ·rw[hn] at xm;exact hc.mi.kn _ hX xm
theorem JO.perm (h:JO NB n f f' k m j (x::rest)) (hk:k<NB) (hc:Cps NB n0 f' f1 g1 k' j bs) (us:Uq f1.se) (un:Uq f1.no):(x.e::((if x.n then f1.se else dA f1.se (NS x k' j))++(if x.n then dA f1.no (NS x k' j) else f1.no))).Perm (NS x k' j::(f1.se++f1.no)):=by
 have xm:=h.mem1 hk hc
 cases hn:x.n
 ·rw[hn] at xm;exact(FX (e:=NS x k' j) us xm rfl).append_right f1.no
 ·rw[hn] at xm;refine(List.perm_middle (a:=x.e) (l₁:=f1.se) (l₂:=dA f1.no (NS x k' j))).symm.trans ?_;refine((FX (e:=NS x k' j) un xm rfl).append_left f1.se).trans ?_;exact List.perm_middle
theorem JO.mid (h:JO NB n f f' k m j (x::rest)) (hk:k<NB) (hc:Cps NB n0 f' f1 g1 k' j (Tg.page x.e.t x.e.d)):Fi NB (n0+cc (dM NB f'.g)) [k] g1 ((if x.n then f1.se else dA f1.se (NS x k' j))++(if x.n then dA f1.no (NS x k' j) else f1.no)):=by
 obtain⟨xb,_⟩:=h.mem x au;have us:=Qw hc.mi.same.se h.us;have un:=Qw hc.mi.same.no h.un;have xm:=h.mem1 hk hc;have zJ:Oe x.e:=hc.fi.ok x.e (by
  grind)
 have hgp:Gp g1 (NS x k' j):=by
  refine⟨?_,?_,hc.pgd.i8⟩
  ·show(g1.bl k').qB j=some (Tg.page x.e.t x.e.d);rw[hc.pgd.bk];exact upd_same _ _ _
  ·show j<(g1.bl k').nx;rw[hc.pgd.bk];exact Nat.lt_succ_self _
 have hfa:Fi NB (n0+cc (dM NB f'.g)) [] g1 (NS x k' j::(f1.se++f1.no)):=Fi.add (e:=NS x k' j) hc.fi hgp ⟨zJ.rt,zJ.len⟩ (List.Perm.refl _);have hfd:=hfa.del (h.perm hk hc us un);rw[xb] at hfd;exact hfd
theorem JO.step {f4} (h:JO NB n f f' k m j (x::rest)) (hk:k<NB) (hm:m<=7) (wJ:f.g.opn= -1) (hf0:∃n' y E,Fi NB n' y f.g E) (hc:Cps NB (n+j*(cc (dM NB f.g)+1)) f' f1 g1 k' j (Tg.page x.e.t x.e.d))
  (hs:Same f1 {f4 with g:=f1.g,se:=f1.se,no:=f1.no}) (vC:f4.se=if x.n then f1.se else dA f1.se (NS x k' j)) (hno:f4.no=if x.n then dA f1.no (NS x k' j) else f1.no) (hg:f4.g={g1 with l:=g1.l.set k (dD (Gc.at_ g1.l k))}):JO NB n f f4 k m (j+1) rest:=by
 obtain⟨xb,_⟩:=h.mem x au;have hjm:=h.left;have hP:=hc.pgd;have aGw:g1.l.length=NB:=hc.fi.w.len;have us:=Qw hc.mi.same.se h.us;have un:=Qw hc.mi.same.no h.un;have xm:=h.mem1 hk hc;have hck:=h.clo hk;have hst:(Gc.at_ f'.g.l k).st=2:=by rw[h.st,eo ae]
 have hrk:Gc.at_ f1.g.l k=Gc.at_ f'.g.l k:=hc.mi.row k hck;have ku:(Gc.at_ f1.g.l k').st=0\/(Gc.at_ f1.g.l k').st=1:=by rcases hP.was with⟨_,e,_⟩|⟨_,e,_⟩<;>omega
 have hkk:k'≠k:=by grind
 have ag2:Gc.at_ g1.l k=Gc.at_ f'.g.l k:=(hP.row k (Ne.symm hkk)).trans hrk;have hl4:f4.g.l=g1.l.set k (dD (Gc.at_ f'.g.l k)):=by rw[hg,ag2]
 have aqK:Gc.at_ f4.g.l k=dD (Gc.at_ f'.g.l k):=by rw[hl4];exact at_set _ _ ae
 have LU:∀q,q≠k->Gc.at_ f4.g.l q=Gc.at_ g1.l q:=λq hq=>by rw[hl4];exact bC _ _ hq
 have ak6:∀q,q<NB->(Gc.at_ f.g.l q).st≠1:=λq hq e=>by obtain⟨n',y,E,hf⟩:=hf0;have:=((hf.w.bk q hq).op e).1;omega
 have uF:∀q,oth NB k f q->dY.clo NB f' q:=λq hq=>⟨hq.1,by rw[h.mi.row q hq];exact hq.2.2,by rw[h.mi.row q hq];exact ak6 q hq.1⟩
 have Zr:∀q,oth NB k f q->q≠k':=λq hq e=>by have h1:=hc.mi.row q (uF q hq);rw[h.mi.row q hq] at h1;have:=ak6 q hq.1;have:=hq.2.2;grind
 have awq:f4.g.bl NB=g1.bl NB:=by rw[hg]
 have NR:dM NB f4.g=dM NB g1:=by unfold dM;rw[awq]
 have YX:Gc.count 0 f4.g.l=Gc.count 0 g1.l:=by rw[hl4,<-ag2];exact rW aB ae
 have U4:Gc.count 4 f4.g.l=Gc.count 4 g1.l:=by rw[hl4,<-ag2];exact rW aB ae
 have hfx:=(h.mid hk hc).drop;rw[<-hg,<-vC,<-hno] at hfx;have hu:Uq f4.se/\Uq f4.no/\f4.se.map sk=f1.se.map sk/\f4.no.map sk=f1.no.map sk:=by
  cases hn:x.n
  ·rw[hn] at xm;rw[vC,hno,hn];have:=ace (e:=NS x k' j) us xm rfl rfl;exact⟨Qw this us,un,this,rfl⟩
  ·rw[hn] at xm;rw[vC,hno,hn];have:=ace (e:=NS x k' j) un xm rfl rfl;exact⟨us,Qw this un,rfl,this⟩
 have an3:∀e,e.b≠k->(e∈f1.se->e∈f4.se)/\(e∈f1.no->e∈f4.no):=λe he=>by
  cases hn:x.n
  ·rw[hn] at xm;rw[vC,hno,hn];refine⟨λh1=>um h1 λe2=>?_,λh1=>h1⟩;rw[uM us h1 xm e2] at he;exact he xb
  ·rw[hn] at xm;rw[vC,hno,hn];refine⟨λh1=>h1,λh1=>um h1 λe2=>?_⟩;rw[uM un h1 xm e2] at he;exact he xb
 have ag3:∀e,e.b≠k'->e∈f4.se++f4.no->e∈f1.se++f1.no:=λe he h1=>by
  rw[vC,hno] at h1
  cases hn:x.n
  ·rw[hn] at h1;rcases cv.1 h1 with h2|h2
   ·rcases D6 h2 with rfl|h3
    ·exact absurd rfl he
    grind
   grind
  ·rw[hn] at h1;rcases cv.1 h1 with h2|h2
   ·grind
   ·rcases D6 h2 with rfl|h3
    ·exact absurd rfl he
    grind
 have hsm:Same f1 f4:=⟨hs.F,hs.SE,hs.NO,hs.GO,hs.LA,by rw[hg];exact hP.M,by rw[hg];exact hP.ML,by rw[hg];exact hP.C,hs.seq,hs.ep,hs.tv,hs.tx,hs.ov,hu.2.2.1,hu.2.2.2,hs.go,by rw[hg];exact hP.gh⟩
 have hwq:∀q,(Gc.at_ f4.g.l q).aC=(Gc.at_ f1.g.l q).aC:=λq=>by
  by_cases e:q=k
  ·rw[e,aqK,hrk];rfl
  ·rw[LU q e];exact hP.acd q
 have aCF:FY f f4 (oth NB k f):=h.mi.trans ((hc.mi.mono uF).trans (show FY f1 f4 λq=>q≠k/\q≠k' from⟨hsm,λq hq=>by rw[LU q hq.1];exact hP.row q hq.2,hwq,λe he=>(an3 e he.1).1,λe he=>(an3 e he.1).2,λe he=>ag3 e he.2⟩) (λq hq=>⟨hq.2.1,Zr q hq⟩)) (λq hq=>hq)
 ·refine⟨aCF,?_,hu.1,hu.2.1,?_,?_,?_,?_,?_,?_,by rw[awq,hc.mo];exact h.mo,λq hq=>h.nw q ?_,λe=>absurd e (Nat.succ_ne_zero _),λy hy=>?_,?_,?_⟩
  ·refine hfx.le ?_;have:=D9 h.ph;rw[Nat.succ_mul];omega
  ·rw[aqK];show(Gc.at_ f'.g.l k).live-1=_;rw[h.live];omega
  ·rw[aqK];show(if (Gc.at_ f'.g.l k).st=2/\(Gc.at_ f'.g.l k).live-1=0 then 3 else(Gc.at_ f'.g.l k).st)=_;rw[hst,h.live];by_cases e3:m=j+1
   ·rw[ev ⟨rfl,ae⟩,ev e3]
   ·rw[eo ae,eo e3]
  ·rcases hc.op ae with⟨e,_⟩|⟨_,a,a1,a2,a3,a4⟩
   ·omega
   ·have hak:a≠k:=by intro e;have h2:=hP.opn;rw[eo ae] at h2;omega
    exact .inr ⟨ae,a,a1,by rw[hg];exact a2,by rw[LU a hak];exact a3,by rw[LU a hak];exact a4⟩
  ·have h1:=h.num;have h2:=hc.num;unfold qn at*;rw[YX,U4,eo ae];by_cases e:j=0
   ·rw[ev e] at*;omega
   ·rw[eo e] at*;omega
  ·rw[U4,NR];have:=hc.lf;have:=h.lf;omega
  ·rw[NR];have:=hc.ph;have:=h.ph;omega
  ·by_cases e:q=k
   ·rw[e];exact .inl hst
   ·unfold c23 at hq;rw[LU q e] at hq;exact hc.nw ae q hq
  ·obtain⟨y1,y2⟩:=h.mem y (by simp[hy]);refine⟨y1,?_⟩;have hnd:=h.nd;rw[cE,cR] at hnd;have di:¬pr y=pr x:=λe=>hnd.1 (e▸bw.2 ⟨y,hy,rfl⟩);have hyX:dY.clo NB f' y.e.b:=by rw[y1];exact hck
   cases hn:x.n<;>cases hyn:y.n
   ·rw[hn] at xm;rw[hyn] at y2;have y2:y.e∈f1.se:=hc.mi.ks _ hyX y2;have xm:x.e∈f1.se:=xm;show y.e∈f4.se;rw[vC,hn];exact um y2 λe=>di (by unfold pr;rw[hn,hyn,uM us y2 xm e])
   ·rw[hyn] at y2;show y.e∈f4.no;rw[hno,hn];exact hc.mi.kn _ hyX y2
   ·rw[hyn] at y2;show y.e∈f4.se;rw[vC,hn];exact hc.mi.ks _ hyX y2
   ·rw[hn] at xm;rw[hyn] at y2;have y2:y.e∈f1.no:=hc.mi.kn _ hyX y2;have xm:x.e∈f1.no:=xm;show y.e∈f4.no;rw[hno,hn];exact um y2 λe=>di (by unfold pr;rw[hn,hyn,uM un y2 xm e])
  ·have:=h.nd;rw[cE,cR] at this;exact this.2
  ·have:=h.len;rw[cD] at this;omega
end
theorem JO.aqB (h:JO NB n f f' k m m []) (hq:Rsq NB f k m) (hwn:(Gc.at_ f.g.l k).aC<=n):Rsd NB n f {f' with g:=EW f'.g k} k m:=by
 have hk:=hq.hk;have hlen:=h.fi.w.len;have hst:(Gc.at_ f'.g.l k).st=3:=by rw[h.st,ev rfl]
 have IU:(f'.g.bl k).aC=(Gc.at_ f.g.l k).aC:=by rw[(h.fi.w.bk k hk).we,h.mi.aC]
 have hl:(EW f'.g k).l=f'.g.l.set k ⟨4,0,(f'.g.bl k).aC,0⟩:=rfl;have hbN:(EW f'.g k).bl NB=f'.g.bl NB:=aG _ _ ae;have NR:dM NB (EW f'.g k)=dM NB f'.g:=by unfold dM;rw[hbN]
 have uQ:Gc.at_ (EW f'.g k).l k=⟨4,0,(f'.g.bl k).aC,0⟩:=by rw[hl];exact at_set _ _ ae
 have LU:∀q,q≠k->Gc.at_ (EW f'.g k).l q=Gc.at_ f'.g.l q:=λq hq=>by rw[hl];exact bC _ _ hq
 have hc:=λs=>Gc.count_set s (l:=f'.g.l) (k:=k) ⟨4,0,(f'.g.bl k).aC,0⟩ ae;have YX:Gc.count 0 (EW f'.g k).l=Gc.count 0 f'.g.l:=by grind
 have U4:Gc.count 4 (EW f'.g k).l=Gc.count 4 f'.g.l+1:=by grind
 have h1:=h.lf;have h2:=hq.lf;have hmd:(f'.g.bl NB).bad=true:=h.mo.trans hq.md;refine⟨h.mi.trans (FY.mgr (X:=λq=>q≠k) rfl rfl rfl rfl (λq hq=>LU q hq) λq=>?_) λq hq=>hq.2.1,?_,by grind,?_,?_,?_,?_,by show((EW f'.g k).bl NB).bad=_;rw[hbN];exact h.mo,λq hq=>?_⟩
 ·by_cases e:q=k
  ·rw[e,uQ,h.mi.aC,<-IU]
  ·rw[LU q e]
 ·refine(h.fi.alf (g':=EW f'.g k) (p:={f'.g.bl k with bad:=true}) (v:=(f'.g.bl k).aC) hk (.inr hst) rfl (λ_ _=>rfl) rfl rfl rfl ?_ rfl rfl rfl rfl ?_ ?_ ?_ hmd).le ?_
  ·rw[IU];omega
  ·show Gc.count 4 f'.g.l+1+dM NB (EW f'.g k)<=2;rw[NR];omega
  ·rw[hbN];have:=h.fi.sk;omega
  ·rw[hbN];exact hmd
  ·have:m*(cc (dM NB f.g)+1)<=7*(cc (dM NB f.g)+1):=Nat.mul_le_mul_right _ hq.m7;omega
 ·rcases h.op with⟨e1,e2⟩|⟨e1,a,a1,a2,a3,a4⟩
  ·refine .inl ⟨e1,?_⟩;show(if f'.g.opn=(k:Int) then(-1:Int) else f'.g.opn)= -1;rw[e2];split<;>rfl
  ·have hak:a≠k:=by
    intro e;have h6:(Gc.at_ f'.g.l a).live=m-m:=by rw[e];exact h.live
    omega
   refine .inr ⟨e1,a,a1,?_,?_,?_⟩
   ·show(if f'.g.opn=(k:Int) then(-1:Int) else f'.g.opn)=_;rw[eo ae];exact a2
   ·grind
   grind
 ·show qn (EW f'.g k)=_;have:=h.num;unfold qn at*;grind
 ·grind
 ·show dM NB (EW f'.g k)<=_;rw[NR];exact h.ph
 ·have hq:c23 (EW f'.g k) q:=hq;have hqk:q≠k:=λe=>by unfold c23 at hq;grind
  unfold c23 at hq;rw[LU q hqk] at hq;exact⟨h.nw q hq,hqk⟩
end
end dY
end
section
structure yZ where
 i:Int
 nm:List UInt8
deriving DecidableEq
namespace Dir
def none_:yZ:=⟨0,[]⟩
def okI (i:Int):=decide (1<=i)&&decide (i<=65535)
def iD (e:yZ):=if okI e.i=true then ed.oh e.nm else 1
def slotL (e:yZ):=[bx e.i.toNat,bx (e.i.toNat/256),bx e.nm.length]++e.nm++bt (13-e.nm.length) 0
def lu e:=if iD e=0 then slotL e else[]
def QD (b:List UInt8):=b.all (·==0)
def inN (b:List UInt8):=(b.getD 0 0).toNat+256*(b.getD 1 0).toNat
def MP (b:List UInt8):=(b.getD 2 0).toNat
def XL (b:List UInt8):=(b.drop 3).take (MP b)
def XM (b:List UInt8):yZ:=⟨(inN b),XL b⟩
def jX (b:List UInt8):yZ×Bool×Int:=
 if b.length≠16 then(none_,false,1)
 else if QD b=true then(none_,false,0)
 else if 13<MP b then(none_,false,50)
 else if iD (XM b)=0/\b=slotL (XM b) then(XM b,true,0)
 else(none_,false,50)
theorem TU i:okI i=true↔1<=i/\i<=65535:=by unfold okI;rw[du,decide_eq_true_iff,decide_eq_true_iff]
theorem vT {nm} (h:ed.oh nm=0):0<nm.length/\nm.length<=13:=by
 unfold ed.oh at h;split at h
 .rename_i h2;simp[ed.nameB] at h2;have h3:=h2.1.1.1.1;have h4:=h2.1.1.1.2;exact⟨List.length_pos_iff.2 h3,h4⟩
 .omega
theorem xe e:iD e=0↔(1<=e.i/\e.i<=65535)/\ed.oh e.nm=0:=by
 unfold iD
 split
 .rename_i h;rw[TU] at h;exact⟨λg=>⟨h,g⟩,λg=>g.2⟩
 .rename_i h;rw[TU] at h;exact⟨λg=>absurd g ae,λg=>absurd g.1 h⟩
theorem P7 e (h:e.nm.length<=13):(slotL e).length=16:=by unfold slotL;rw[bE,bE,dx];simp only[cD,cV];omega
theorem aaI e (h:iD e=0):(lu e).length=16:=by rw[lu,ev h];exact P7 e (vT ((xe e).1 h).2).2
theorem aaJ {b} (h:(jX b).2.1=true):iD (jX b).1=0/\lu (jX b).1=b/\(jX b).2.2=0/\b.length=16:=by
 unfold jX at h⊢;split at h
 .cases h
 .split at h
  .cases h
  .split at h
   .cases h
   .split at h
    .rename_i h1 h2 h3 h4;rw[eo h1,eo h2,eo h3,ev h4];refine⟨h4.1,?_,rfl,ae⟩;rw[lu,ev h4.1];exact h4.2.symm
    .cases h
theorem aaK {b} (h:(jX b).2.1=false):(jX b).1=none_:=by
 unfold jX at h⊢
 split
 .rfl
 .split
  .rfl
  .split
   .rfl
   .split
    .rename_i h1 h2 h3 h4;rw[eo h1,eo h2,eo h3,ev h4] at h;cases h
    .rfl
end Dir
end
section
open RowKit
theorem yG a b n m c d xs ys w (hx:Bytes w w a n xs) (hy:Bytes w w b m ys):
  Calls prog 117 #[an a n c,an b m d] w λe w'=>e=ar (aq (decide (xs=ys)))/\Below w w w':=by
 obtain⟨HX,HY⟩:=cn hx hy;have hn:=hx.room;have lx:=hx.len;have ly:=hy.len;by_cases hl:n=m
 .subst hl;obtain⟨HD,HE,LX,LY⟩:=cr (λ(h:¬xs=ys)=>(ey h:decide (xs=ys)=false)) (λ(h:xs=ys)=>(ez h:decide (xs=ys)=true)) lx ly;generalize decide (xs=ys)=D at*;clear hx hy lx ly
  go_in
  go_wp2
  go_loopw [5,13] (λ_ i wr=>∃k:Nat,k<=n/\i=O aa k/\xs.take k=ys.take k/\Below w w wr) (λ_ i _=>n-(intOf i).toNat)
  case atStart=>exact⟨0,ae,rfl,rfl,aE _ _⟩
  case round=>
   obtain⟨k,hk,rfl,ht,hb⟩:=hrel;obtain⟨HT,HB⟩:=cn ht hb;clear ht hb;by_cases aT:k<n
   .obtain⟨b1,o1,fO,rfl,Wh,BO⟩:=(HX.below HB).at_ aT;obtain⟨b2,o2,eU,rfl,aCW,Dw⟩:=(HY.below HB).at_ aT;obtain⟨t1,t2,HG⟩:=cp (ei fO) (ei eU) (λ(h:xs=ys)=>(by subst h;rfl:xs[k]=ys[k]));have g1:(0:Int)<=(k:Int):=ae;have g2:(k:Int)<(n:Int):=ae;generalize xs[k]=x at*;generalize ys[k]=y at*;by_cases he:x=y
    .subst he;have g3:((x.toNat:Int) !=(x.toNat:Int))=false:=au;go_wp2_with fail
     go_quiet (fail)
     go_wp2;go_roundw
     case rel=>exact⟨k+1,ae,by go_num,by rw[t1.o,t2.o,HT.o],HB.trans (below_drewN _ _)⟩
     case measure=>simp[intOf];omega
    .have g3:((x.toNat:Int) !=(y.toNat:Int))=true:=by rw[bne_iff_ne];intro h;exact he (UInt8.toNat_inj.1 ae)
     have hd:=ag (HD.o (λh=>he (HG.o h)));clear he;go_wp2_with fail
     go_quiet (fail)
     go_wp2;go_ret;exact⟨by rw[hd.o];rfl,HB.trans (below_drewN _ _)⟩
   .obtain rfl:k=n:=ae;have hd:=ag (HE.o (by have h:=HT.o;rw[cL (by rw[LX.o];omega),cL (by rw[LY.o];omega)] at h;exact h));go_wp2;go_ret;exact⟨by rw[hd.o];rfl,HB⟩
 .have g1:((n:Int)==(m:Int))=false:=by rw[ew];omega
  have g2:((n:Int) !=(m:Int))=true:=by rw[bne_iff_ne];omega
  rw[ey (show¬xs=ys from λe=>hl (by rw[<-lx,<-ly,e]))];clear hx hy lx ly hl
  go_in
  go_wp2;go_ret;exact⟨rfl,aE _ _⟩
namespace Dir
theorem Po (b:List UInt8) k h:QD (b.take (k+1))=(QD (b.take k)&&(b[k]==0)):=by unfold QD;rw[ei h,List.all_append];simp
theorem aq0 {b k} (h:k<b.length) (hk:(b[k]==0)=false):QD b=false:=by
 cases hz:QD b
 .rfl
 .rw[QD,List.all_eq_true] at hz;rw[hz _ (cS h)] at hk;cases hk
end Dir
theorem awQ (c:UInt8):((c.toNat:Int)==0)=(c==0):=by
 rw[Bool.eq_iff_iff,beq_iff_eq,beq_iff_eq];constructor
 .intro h;apply UInt8.toNat_inj.1;show c.toNat=0;omega
 .rintro rfl;rfl
theorem Pq (c:UInt8) w:Calls prog 216 #[O .u8 c.toNat] w λe w'=>e=ar (aq (!(c==0)))/\w=w':=by
 have h:=ag (awQ c)
 go_in
 go_wp2;go_ret;exact⟨by rw[<-h.o];rfl,rfl⟩
theorem Pv a n c b w (hx:Bytes w w a n b):
  Calls prog 252 #[an a n c,.func (.func 216) #[] #[]] w λe w'=>(∃r,e=ar (O aa r)/\ -1<=r/\Dir.QD b=decide (r<0))/\w=w':=by
 have hl:=hx.len;have AA:=hx.room;obtain⟨HX,HL⟩:=cn hx hl;clear hx hl
 go_in
 go_wp2
 go_loop [5,8] (λ_ i=>∃k:Nat,k<=n/\i=O aa k/\Dir.QD (b.take k)=true) (λ_ i=>n-(intOf i).toNat)
 case atStart=>exact⟨0,ae,rfl,rfl⟩
 case round=>
  obtain⟨k,hk,rfl,hz⟩:=hrel;have HZ:=ag hz;clear hz;by_cases aT:k<n
  .obtain⟨b1,o1,fO,rfl,Wh,BO⟩:=HX.at_ (k:=k) aT;obtain⟨hsn,hno,UK⟩:=cp (Dir.Po b k fO) (λh=>Dir.aq0 fO h) (λw=>Pq b[k] w)
   cases hb:b[k]==0
   .rw[hb] at UK hno;have aue:=ag (hno.o rfl);clear hno hsn hb;go_wp2_with fail;refine(UK.o _).cj ?_;go_wp2;go_ret;exact⟨⟨k,rfl,ae,by rw[aue.o,ey ae]⟩,rfl⟩
   .rw[hb] at UK hsn;clear hno hb;go_wp2_with fail;refine(UK.o _).cj ?_;go_wp2
    go_round
    case rel=>exact⟨k+1,ae,by go_num,by rw[hsn.o,HZ.o];rfl⟩
    case measure=>simp[intOf];omega
  .obtain rfl:k=n:=ae;go_wp2;go_ret;exact⟨⟨-1,rfl,ae,by rw[cL (by rw[HL.o];omega)] at HZ;rw[HZ.o];rfl⟩,rfl⟩
theorem Gg a n c b w (hx:Bytes w w a n b):
  Calls prog 215 #[an a n c,.func (.func 216) #[] #[]] w λe w'=>e=ar (aq (!Dir.QD b))/\w=w':=by
 go_in
 go_wp2_with fail;go_call(Pv a n c b _ hx) as e w_ ⟨⟨r,rfl,hr,hz⟩,rfl⟩;have HZ:=ag hz;clear hz;by_cases h0:r<0
 .have g1:decide ((0:Int)<=r)=false:=ey ae;rw[ez h0] at HZ;clear h0;go_wp2;go_ret;exact⟨by rw[HZ.o];rfl,rfl⟩
 .have g1:decide ((0:Int)<=r)=true:=ez ae;rw[ey h0] at HZ;clear h0;go_wp2;go_ret;exact⟨by rw[HZ.o];rfl,rfl⟩
theorem uw a n c b w (hx:Bytes w w a n b):
  Calls prog 157 #[an a n c] w λe w'=>e=ar (aq (Dir.QD b))/\w=w':=by
 have hc:=ag (Gg a n c b w hx);clear hx;generalize Dir.QD b=D at*;cases D
 all_goals
  go_in
  go_wp2_with fail;refine hc.cj ?_;go_wp2;go_ret;exact⟨rfl,rfl⟩
def aq1 (e:yZ):Value:= .agg #[O aa e.i,.string (aX e.nm)]
theorem alL e:aq1 e= .agg #[O aa e.i,.string (aX e.nm)]:=rfl
def aq2 (e:yZ):Obj:= .cells #[O aa e.i,.string (aX e.nm)] 167
attribute [go_sem] alL
def FC (e:yZ) (w:World) (x:Ending) w':=(∃v,x=ar (ao #[v,O aa (Dir.iD e)])/\Own aJ 5 w' w v (Dir.lu e))/\Below w w w'
theorem zf i w:Calls prog 155 #[O aa i] w λe w'=>e=ar (aq (Dir.okI i))/\w=w':=by
 unfold Dir.okI
 cases h1:decide (1<=i)
 all_goals
  go_in
  go_wp2;go_ret;exact⟨rfl,rfl⟩
theorem MQ {e w w'} (he:¬Dir.iD e=0) (hb:Below w.heap.size w w'):FC e w (.returned (ao #[an none 0 0,O aa (Dir.iD e)])) w':=by unfold FC Dir.lu;rw[eo he];exact⟨⟨_,rfl,Own.nil _ _⟩,hb⟩
theorem ahq (T:Nat):Value.int .u8 (T%256)=aJ (bx T):=by unfold aJ;rw[eh];exact congrArg (Value.int .u8) ae
theorem CW (T:Nat) (h:T<256):Value.int .u8 T=aJ (bx T):=by unfold aJ;rw[eh,Nat.mod_eq_of_lt h]
theorem ahr (T:Nat) (h:T<65536):Value.int .u8 (T/256)=aJ (bx (T/256)):=by rw[<-CW (T/256) ae];exact congrArg (Value.int .u8) ae
theorem GY e w (hn:e.nm.length<=140737488351232):
  Calls prog 100 #[aq1 e] w (FC e w):=by
 have gB:=ag ((aE w w).alloc av (aq2 e));by_cases hi:Dir.okI e.i=true
 case neg=>
  have hE:Dir.iD e=1:=eo hi;have HB:=ag (λw'=>MQ (w:=w) (w':=w') (e:=e) ae);rw[hE] at HB;have Y5:Dir.okI e.i=false:=by simpa using hi
  obtain⟨i,nm⟩:=e;clear hi hE
  go_in
  go_wp2_with fail;refine(zf i _).cj ?_;rw[Y5];go_wp2;go_ret2;exact HB.o _ gB.o
 have hE:Dir.iD e=ed.oh e.nm:=ev hi;by_cases hnm:ed.oh e.nm=0
 case neg=>
  have HB:=ag (λw'=>MQ (w:=w) (w':=w') (e:=e) (by rw[hE];exact hnm));rw[hE] at HB;obtain⟨i,nm⟩:=e;have HN:=ag (λw=>BJ nm w hn);simp only at hnm HB hi;generalize ed.oh nm=E at*;have g1:(E==0)=false:=by simpa using hnm
  have g2:(E !=0)=true:=by simpa using hnm
  clear hE hnm
  go_in
  go_wp2_with fail;refine(zf i _).cj ?_;rw[hi];go_wp2_with fail;refine(HN.o _).cj ?_;go_wp2;go_ret2;exact HB.o _ gB.o
 rw[hnm] at hE;obtain⟨HW,HE,HN⟩:=cp (show Dir.lu e=Dir.slotL e from ev hE) hE (λw=>BJ e.nm w hn);rw[hnm] at HN;obtain⟨i,nm⟩:=e;obtain⟨h1,h2⟩:=Dir.vT hnm;obtain⟨h3,h4⟩:=(Dir.TU i).1 hi;obtain⟨I,rfl⟩:∃I:Nat,i=I:=⟨i.toNat,ae⟩
 simp only at h1 h2 h3 h4 hi HN;have b0:=ag (aF.new w 167 #[O aa I,.string (aX nm)]);unfold FC;clear hE hnm hn;have wI:∀u:World,(Instr.makeSlice 23 (O aa 16) (O aa 16)).run prog u= .ok (an (aw u.heap.size 0) 16 16) (u.alloc (.cells (cB 16 (O .u8 0)) 5)):=GG 16 aB
 go_in
 go_wp2_with fail;refine(zf _ _).cj ?_;rw[hi];go_wp2_with fail;refine(HN.o _).cj ?_;go_wp2_with fail;obtain⟨w1,ku⟩:∃w1,w1=(w.alloc (.cells #[O aa I,.string (aX nm)] 167)).alloc (.cells (cB 16 (O .u8 0)) 5):=⟨_,rfl⟩
 obtain⟨g,hg⟩:=aW (w.heap.size+1);have b1:=b0.alloc (.cells (cB 16 (O .u8 0)) 5);have ho:=kU (w.alloc (.cells #[O aa I,.string (aX nm)] 167)) (w.alloc (.cells #[O aa I,.string (aX nm)] 167)).heap.size 16 av aB;have hb:=gB.alloc (by simp[aq2]) (.cells (cB 16 (O .u8 0)) 5);unfold aq2 at hb;have hgz:(w.alloc (.cells #[O aa I,.string (aX nm)] 167)).heap.size=g:=by rw[hg];simp
 rw[hgz] at ho;rw[<-ku] at b1 ho hb⊢;rw[<-hg];have di:w.heap.size≠g:=ae;have jf:w.heap.size<=g:=ae;have aT:=ag (show w.heap.size<g by omega);have e0:=b1.aj (i:=0) rfl;have e1:=b1.aj (i:=1) rfl;obtain⟨c0,f0⟩:=ho.dU (k:=0) au;obtain⟨c1,f1⟩:=ho.dU (k:=1) au;obtain⟨c2,f2⟩:=ho.dU (k:=2) au;obtain⟨HO,HB,B1⟩:=cp ho hb b1;clear ku hg hgz ho hb b1 b0 gB;have q3:(1:Int)<=(I:Int):=h3;have q4:(I:Int)<=65535:=h4;have q5:IntKind.u8.wrap (I:Int)=(I:Int)%256:=IntKind.wrap_u8 _;have q6:IntKind.u8.wrap ((I:Int)/256)=(I:Int)/256:=IntWalk.u8_in _ ⟨ae,ae⟩;have q7:IntKind.u8.wrap (nm.length:Int)=(nm.length:Int):=IntWalk.u8_in _ ⟨ae,ae⟩;refine iE (λW'=>aF W' w 167 #[O aa I,.string (aX nm)]) B1.o (λaY=>?_);refine dG 0 (an (g,0) 16 16) ?_;refine dG 1 (an (g,0) 16 16) ?_;refine dG 2 (an (g,0) 16 16) ?_;refine aS 3 w 0 ?_;refine jV 4 (I:Int) (λ_ aK=>aK.aj (i:=0) rfl) ?_;refine eX 5 (O .u8 ((I:Int)%256)) ?_;refine aS 6 w 0 ?_;refine jV 7 (I:Int) (λ_ aK=>aK.aj (i:=0) rfl) ?_;refine iR 8 ((I:Int)/256) ?_;refine eX 9 (O .u8 ((I:Int)/256)) ?_;refine aS 10 w 1 ?_;refine kS 11 (.string (aX nm)) (λ_ aK=>aK.aj (i:=1) rfl) ?_;refine iR 12 nm.length ?_;refine eX 13 (O .u8 nm.length) ?_;refine aS 14 g 0 ?_;refine bY 15 (λK' hK=>?_);go_simp;have bs1:=B1.far (p:=⟨g,0,none⟩) di (O .u8 ((I:Int)%256));refine hK.out _ _ bs1 (λdh=>?_)
 refine aS 16 g 1 ?_;refine bY 17 (λK' hK=>?_);go_simp;have bs2:=bs1.far (p:=⟨g,1,none⟩) di (O .u8 ((I:Int)/256));refine hK.out _ _ bs2 (λfE=>?_)
 refine aS 18 g 2 ?_;refine bY 19 (λK' hK=>?_);go_simp;have bs3:=bs2.far (p:=⟨g,2,none⟩) di (O .u8 nm.length);refine hK.out _ _ bs3 (λiZ=>?_)
 refine eH ?_;have C9:=((HO.set 0 (bx I)).set 1 (bx (I/256))).set 2 (bx nm.length);rw[<-ahq,<-ahr I ae,<-CW nm.length ae] at C9;have bJ:=((HB.setCell (p:=⟨g,0,none⟩) jf (O .u8 ((I:Int)%256))).setCell (p:=⟨g,1,none⟩) jf (O .u8 ((I:Int)/256))).setCell (p:=⟨g,2,none⟩) jf (O .u8 nm.length);obtain⟨w2,jT⟩:∃w2,w2=(((w1.setCell (aw g 0) (O .u8 ((I:Int)%256))).setCell (aw g 1) (O .u8 ((I:Int)/256))).setCell (aw g 2) (O .u8 nm.length)).drew:=⟨_,rfl⟩
 rw[<-jT];have tJ:Own aJ 5 w2 g (an (g,0) 16 16) (bx I::bx (I/256)::bx nm.length::bt 13 0):=by rw[jT];exact C9
 have df:Below w w w2:=by rw[jT];exact bJ.drew
 have BS2:aF w2 w 167 #[O aa I,.string (aX nm)]:=by rw[jT];exact bs3
 obtain⟨H2,aDi,awR⟩:=cp tJ df BS2;clear jT C9 bJ bs1 bs2 bs3 dh fE iZ aY c0 c1 c2 f0 f1 f2 e0 e1 HO HB B1 tJ df BS2;go_wp2_with fail;refine iE (λW'=>aF W' w 167 #[O aa I,.string (aX nm)]) awR.o (λaY=>?_);refine dG 0 (an (g,0) 16 16) ?_;refine eX 1 (an (g,3) 13 13) ?_;refine aS 2 w 1 ?_;refine kS 3 (.string (aX nm)) (λ_ aK=>aK.aj (i:=1) rfl) ?_;refine bY 4 (λK' hK=>?_);refine aaw rfl (.tmp 35) (.tmp 37) rfl g g 16 16 3 13 13 _ rfl H2.o nm rfl ae ae ?_;intro w3 tN cO;refine hK.out _ _ (awR.drew.below cO aT) (λqX=>?_)
 refine eH ?_;go_wp2;go_ret2;rw[HE.o];refine⟨⟨_,rfl,?_⟩,?_⟩
 .rw[HW.o];have Jr:=tN.mono jf;have e:(bx I::bx (I/256)::bx nm.length::bt 13 (0:UInt8)).take 3++nm++(bx I::bx (I/256)::bx nm.length::bt 13 (0:UInt8)).drop (3+nm.length)=Dir.slotL ⟨(I:Int),nm⟩:=by
   have hd:(bx I::bx (I/256)::bx nm.length::bt 13 (0:UInt8)).drop (3+nm.length)=bt (13-nm.length) 0:=by rw[<-dr];show(bt 13 (0:UInt8)).drop nm.length=_;rw[List.drop_replicate]
   rw[hd];rfl
  rw[e] at Jr;exact Jr
 .exact aDi.drew.trans (cO.mono jf)
def Eo (b:List UInt8) (w:World) (x:Ending) w':=x=ar (ao #[aq1 (Dir.jX b).1,aq (Dir.jX b).2.1,O aa (Dir.jX b).2.2])/\Below w w w'
theorem aeb (x y:Nat) (hx:x<256) (hy:y<256):bits .or .i64 x (y*256)=((x+256*y:Nat)):=by
 have h1:x|||y*256=x+256*y:=by have h:=Nat.two_pow_add_eq_or_of_lt (i:=8) (b:=x) hx y;rw[Nat.or_comm,Nat.mul_comm y 256,Nat.add_comm];exact h.symm
 have e:(y:Int)*256=((y*256:Nat):Int):=ae;rw[e];have a1:(de 64 ((y*256:Nat):Int)).toNat=y*256:=zL _ ae;have a2:(de 64 (x:Int)).toNat=x:=zL _ ae;show IntKind.i64.wrap ((de 64 (x:Int)|||de 64 ((y*256:Nat):Int)).toNat:Int)=_;rw[BitVec.toNat_or,a1,a2,h1];exact bq _ ⟨ae,ae⟩
theorem aaL (e:yZ):(#[O aa e.i,.string (aX e.nm)]:Array Value).all (·.oneCell')=true:=by simp[Value.oneCell']
theorem TV:(prog.info? 167).map (·.size)=some 2:=az
theorem o8 {b E w w'} (h:Dir.jX b=(Dir.none_,false,E)) (hb:Below w.heap.size w w'):Eo b w (.returned (ao #[.agg #[O aa 0,.string ⟨#[]⟩],aq false,O aa E])) w':=by unfold Eo;rw[h];exact⟨rfl,hb⟩
theorem ahs a n c b w (hx:Bytes w w a n b) (h:n≠16):
  Calls prog 212 #[an a n c] w (Eo b w):=by
 have h1:((n:Int) !=16)=true:=by rw[bne_iff_ne];omega
 have HB:=ag (λw'=>o8 (w:=w) (w':=w') (b:=b) (E:=1) (by unfold Dir.jX;rw[ev (by rw[hx.len];exact h)]));clear hx h
 go_in
 go_wp2;refine bodyPost_ret (v:=ao #[.agg #[O aa 0,.string ⟨#[]⟩],aq false,O aa 1]) (by simp[results,Tryz.results212,go_sem]) rfl (HB.o _ ((aE _ _).alloc av _))
theorem aec a c b w (hx:Bytes w w a 16 b) (h:Dir.QD b=true):
  Calls prog 212 #[an a 16 c] w (Eo b w):=by
 obtain⟨HB,he⟩:=cn (λw'=>o8 (w:=w) (w':=w') (b:=b) (E:=0) (by unfold Dir.jX;rw[eo (by rw[hx.len];omega),ev h])) (uw a 16 c b _ (hx.alloc (.cells #[O aa 0,.string ⟨#[]⟩] 167)));rw[h] at he;have b0:=aF.new w 167 #[O aa 0,.string ⟨#[]⟩];have bP:=(aE w w).alloc av (.cells #[O aa 0,.string ⟨#[]⟩] 167);clear hx h
 go_in
 go_wp2_with fail;refine he.cj ?_;go_wp2;refine bodyPost_ret (v:=ao #[.agg #[O aa 0,.string ⟨#[]⟩],aq false,O aa 0]) (by simp[results,Tryz.results212,go_sem]) rfl (HB.o _ ((aE _ _).alloc av _))
theorem MR {w B a n b} (hx:Bytes w B a n b) (hn:0<n):∃g o,a=some ⟨g,o,none⟩/\g<B/\∀k,k<n->w.cell? (aw g (o+k))=some (O .u8 (b.getD k 0).toNat):=by obtain⟨h1,h2,h3⟩:=hx;obtain⟨g,o,ha,aT,hc⟩:=h3 ae;refine⟨g,o,ha,aT,λk hk=>?_⟩;rw[hc k ae,db,cX ae];rfl
theorem aht a c b w (hx:Bytes w w a 16 b) (h:Dir.QD b=false) (hn:13<Dir.MP b):
  Calls prog 212 #[an a 16 c] w (Eo b w):=by
 obtain⟨HB,he⟩:=cn (λw'=>o8 (w:=w) (w':=w') (b:=b) (E:=50) (by unfold Dir.jX;rw[eo (by rw[hx.len];omega),eo (by rw[h];simp),ev hn])) (uw a 16 c b _ (hx.alloc (.cells #[O aa 0,.string ⟨#[]⟩] 167)));rw[h] at he;obtain⟨g,o,rfl,aT,hc⟩:=MR (hx.alloc (.cells #[O aa 0,.string ⟨#[]⟩] 167)) ae;have c2:=hc 2 ae;have aZ:=(b.getD 2 0).toNat_lt;unfold Dir.MP at hn;generalize (b.getD 2 0).toNat=N at*;have g1:decide (13<(N:Int))=true:=ez ae;clear hx h hc hn
 go_in
 go_wp2_with fail;refine he.cj ?_;go_wp2;refine bodyPost_ret (v:=ao #[.agg #[O aa 0,.string ⟨#[]⟩],aq false,O aa 50]) (by simp[results,Tryz.results212,go_sem]) rfl (HB.o _ ((aE _ _).alloc av _))
theorem alN a c b w (hx:Bytes w w a 16 b) (UK:16<=c) (h:Dir.QD b=false) (hn:¬13<Dir.MP b):
  Calls prog 212 #[an a 16 c] w (Eo b w):=by
 obtain⟨HR,he⟩:=cn (show Dir.jX b=if Dir.iD (Dir.XM b)=0/\b=Dir.slotL (Dir.XM b) then(Dir.XM b,true,0) else(Dir.none_,false,50) by unfold Dir.jX;rw[eo (by rw[hx.len];omega),eo (by rw[h];simp),eo hn]) (uw a 16 c b _ (hx.alloc (.cells #[O aa 0,.string ⟨#[]⟩] 167)));rw[h] at he;have bP:=(aE w w).alloc av (.cells #[O aa 0,.string ⟨#[]⟩] 167);have wO:=hx.on bP;have br:=aF.new w 167 #[O aa 0,.string ⟨#[]⟩];obtain⟨w1,ku⟩:=aW (w.alloc (.cells #[O aa 0,.string ⟨#[]⟩] 167));rw[<-ku] at he bP wO br;have aoj:=wO.drop (l:=3) ae UK;have hcut:=aoj.take (k:=Dir.MP b) ae;rw[show(b.drop 3).take (Dir.MP b)=Dir.XL b from rfl] at hcut;have N9:(Dir.XL b).length=Dir.MP b:=hcut.len;have Xc:Dir.XM b=⟨((Dir.inN b:Nat):Int),Dir.XL b⟩:=rfl;have yf:Dir.inN b=(b.getD 0 0).toNat+256*(b.getD 1 0).toNat:=rfl;obtain⟨g,o,rfl,aT,hc⟩:=MR wO ae;have CV:Dir.MP b=(b.getD 2 0).toNat:=rfl;have y0:=(b.getD 0 0).toNat_lt;have y1:=(b.getD 1 0).toNat_lt;have HC:=ag (show∀W,Below w1 w1 W->W.cell? (aw g o)=some (O .u8 ((b.getD 0 0).toNat))/\W.cell? (aw g (o+1))=some (O .u8 ((b.getD 1 0).toNat))/\W.cell? (aw g (o+2))=some (O .u8 ((b.getD 2 0).toNat)) from
  λW hb=>⟨(hb.cell aT).trans (hc 0 ae),(hb.cell aT).trans (hc 1 ae),(hb.cell aT).trans (hc 2 ae)⟩)
 rw[<-CV] at HC;obtain⟨HX,awS,HW⟩:=cp wO hcut (λW=>GY (Dir.XM b) W (by rw[Xc];simp only[N9];omega));unfold FC at HW;rw[Xc] at HR HW;have Vb:=aeb (b.getD 0 0).toNat (b.getD 1 0).toNat y0 y1;rw[<-yf] at Vb;have aG2:Dir.inN b<65536:=ae;generalize Dir.MP b=N at*;generalize Dir.inN b=I at*;generalize Dir.XL b=nm at*;generalize (b.getD 0 0).toNat=x0 at*;generalize (b.getD 1 0).toNat=x1 at*;obtain⟨HBR,bV,HL⟩:=cp br bP hx.len;have c2:=(HC.o w1 (aE _ _)).2.2;have g1:decide (13<(N:Int))=false:=ey ae;have pK:N<=13:=ae;have q3:IntKind.i64.wrap (3+(N:Int))=3+(N:Int):=bq _ ⟨ae,ae⟩;have f1:(0:Int)<=3+(N:Int):=ae;have f2:3+(N:Int)<=(c:Int):=ae;have f3:(3:Int)<=max (3+(N:Int)) 0:=ae;have f4:(3+(N:Int)).toNat-3=N:=ae;have f5:¬c=3:=ae;rw[show iQ (g,o) c 3=(g,o+3) by unfold iQ;rw[eo f5];exact congrArg some (Addr.add_mid g o 3)] at awS;clear hx h hc hn wO bP br aoj hcut Xc yf CV
 go_in
 go_wp2_with fail;rw[<-ku];have ao6:w.heap.size<w1.heap.size:=by rw[ku];simp
 clear ku;refine he.cj ?_;go_wp2_with fail;have q1:IntKind.i64.wrap (x1:Int)=(x1:Int):=bq _ ⟨ae,ae⟩;have q0:IntKind.i64.wrap (x0:Int)=(x0:Int):=bq _ ⟨ae,ae⟩;have q2:IntKind.i64.wrap ((x1:Int)*256)=(x1:Int)*256:=bq _ ⟨ae,ae⟩;refine iE (λW'=>Below w1 w1 W') (aE _ _).drew (λaY=>?_);refine dG 0 (an (g,o) 16 c) ?_;refine aS 1 g o ?_;refine kS 2 (O .u8 x0) (λW aK=>(HC.o W aK).1) ?_;refine iR 3 (x0:Int) ?_;refine dG 4 (an (g,o) 16 c) ?_;refine aS 5 g (o+1) ?_;refine kS 6 (O .u8 x1) (λW aK=>(HC.o W aK).2.1) ?_;refine iR 7 (x1:Int) ?_;refine iR 8 ((x1:Int)*256) ?_;refine iR 9 (I:Int) ?_;refine dG 10 (an (g,o) 16 c) ?_;refine dI 11 (N:Int) ?_;refine iR 12 (3+(N:Int)) ?_;refine eX 13 (an (g,o+3) N (c-3:Nat)) ?_;refine kS 14 (.string (aX nm)) (λ_ aK=>P9 (c:=(c-3:Nat)) (awS.on aK)) ?_;refine eX 15 (.agg #[O aa I,.string (aX nm)]) ?_;refine bY 16 (λK' hK=>?_);go_simp;refine hK.out _ _ ((aE _ _).alloc av _).drew (λdh=>?_)
 refine bY 17 (λK' hK=>?_);go_simp;refine hK.out _ _ ((aE _ _).alloc av _).drew (λfE=>?_)
 refine eH ?_;obtain⟨w2,jT⟩:∃w2,w2=(w1.alloc (.cells #[O aa I,.string (aX nm)] 167)).drew:=⟨_,rfl⟩
 rw[<-jT];have be2:aF w2 w1 167 #[O aa I,.string (aX nm)]:=by rw[jT];exact(aF.new _ _ _).drew
 have aZ:Below w1 w1 w2:=by rw[jT];exact((aE _ _).alloc av _).drew
 have br2:=HBR.ah aZ;have wP:=HX.on aZ;have awT:=bV.trans (aZ.mono (Nat.le_of_lt ao6));obtain⟨BE2,BR2,NK,aDj⟩:=cr be2 br2 wP awT;have e0:=be2.aj (i:=0) rfl;have e1:=be2.aj (i:=1) rfl;clear jT be2 aZ br2 wP awT aY dh fE c2;go_wp2_with fail;go_call(HW.o _) as e w3 ⟨⟨v,rfl,ho⟩,hb⟩;have HO:=ag ho;have be3:=BE2.ah hb;have br3:=BR2.ah hb;obtain⟨BE3,BR3,IQ,aq3⟩:=cr be3 br3 (NK.on hb) (aDj.aA hb);have x0:=be3.aj (i:=0) rfl;have x1:=be3.aj (i:=1) rfl;obtain⟨hwl,hws⟩:=cn (Dir.aaI ⟨(I:Int),nm⟩) (show Dir.iD ⟨(I:Int),nm⟩=0->Dir.lu ⟨(I:Int),nm⟩=Dir.slotL ⟨(I:Int),nm⟩ from λh=>ev h);clear ho hb be3 br3;by_cases hE:Dir.iD ⟨(I:Int),nm⟩=0
 case neg=>
  have hr:=ag (λw9=>o8 (w:=w) (w':=w9) (b:=b) (HR.trans (eo (λh=>hE h.1))));generalize Dir.iD ⟨(I:Int),nm⟩=E at*;have g2:(E==0)=false:=by simpa using hE
  have g3:(E !=0)=true:=by simpa using hE
  clear hE hwl hws
  go_wp2_with (refine aH rfl rfl _ _ _ rfl w #[O aa 0,.string ⟨#[]⟩] rfl rfl 167 #[O aa 0,.string ⟨#[]⟩] BR3 rfl TV (aaL ⟨0,[]⟩) ?_)
  have q:=BR3.row #[O aa 0,.string ⟨#[]⟩];have z0:=q.aj (i:=0) rfl;have z1:=q.aj (i:=1) rfl;refine bodyPost_ret (v:=ao #[.agg #[O aa 0,.string ⟨#[]⟩],aq false,O aa 50]) (by simp[results,Tryz.results212,go_sem, *]) rfl (hr.o _ (aq3.bU av _))
 case pos=>
  have hlen:=hwl.o hE;have wZ:=ag (hws.o hE);have tC:=ag (show Dir.jX b=if b=Dir.slotL ⟨(I:Int),nm⟩ then(⟨(I:Int),nm⟩,true,0) else(Dir.none_,false,50) by
   rw[HR.o];by_cases h:b=Dir.slotL ⟨(I:Int),nm⟩
   .rw[ev h,ev ⟨hE,h⟩]
   .rw[eo h,eo (λg=>h g.2)])
  rw[hE];rw[wZ.o] at HO hlen;clear hE hwl hws wZ HR HW;generalize Dir.slotL ⟨(I:Int),nm⟩=sl at*;obtain⟨a3,c3,rfl,_⟩:=HO.bG (n:=16) hlen;have HY:=ag (HO.arr ae);have HQ:=ag (yG (g,o) a3 16 16 c c3 b sl w3 IQ HY);by_cases hD:b=sl
  case neg=>
   have hr:=ag (λw9=>o8 (w:=w) (w':=w9) (b:=b) (tC.trans (eo hD)));rw[ey hD] at HQ;clear hD tC hlen;go_wp2_with fail;go_call HQ as e w4 ⟨rfl,hb⟩;obtain⟨BR4,aq4⟩:=cn (BR3.ah hb) (aq3.aA hb);clear hb
   go_wp2_with (refine aH rfl rfl _ _ _ rfl w #[O aa 0,.string ⟨#[]⟩] rfl rfl 167 #[O aa 0,.string ⟨#[]⟩] BR4 rfl TV (aaL ⟨0,[]⟩) ?_)
   have q:=BR4.row #[O aa 0,.string ⟨#[]⟩];have z0:=q.aj (i:=0) rfl;have z1:=q.aj (i:=1) rfl;refine bodyPost_ret (v:=ao #[.agg #[O aa 0,.string ⟨#[]⟩],aq false,O aa 50]) (by simp[results,Tryz.results212,go_sem, *]) rfl (hr.o _ (aq4.bU av _))
  case pos=>
   have hr:=ag (tC.trans (ev hD));rw[ez hD] at HQ;clear hD tC hlen;go_wp2_with fail;go_call HQ as e w4 ⟨rfl,hb⟩;have be4:=BE3.ah hb;have e40:=be4.aj (i:=0) rfl;have e41:=be4.aj (i:=1) rfl;obtain⟨BR4,aq4⟩:=cn (BR3.ah hb) (aq3.aA hb);clear hb be4
   go_wp2_with (refine aH rfl rfl _ _ _ rfl w #[O aa I,.string (aX nm)] rfl rfl 167 #[O aa 0,.string ⟨#[]⟩] BR4 rfl TV (aaL ⟨(I:Int),nm⟩) ?_)
   have q:=BR4.row #[O aa I,.string (aX nm)];have z0:=q.aj (i:=0) rfl;have z1:=q.aj (i:=1) rfl;refine bodyPost_ret (v:=ao #[.agg #[O aa I,.string (aX nm)],aq true,O aa 0]) (by simp[results,Tryz.results212,go_sem, *]) rfl ⟨?_,aq4.bU av _⟩;rw[hr.o];rfl
theorem MS a n c b w (hx:Bytes w w a n b) (UK:n<=c):
  Calls prog 212 #[an a n c] w (Eo b w):=by
 by_cases h1:n=16
 .subst h1
  cases h2:Dir.QD b
  .by_cases h3:13<Dir.MP b
   .exact aht a c b w hx h2 h3
   .exact alN a c b w hx UK h2 h3
  .exact aec a c b w hx h2
 .exact ahs a n c b w hx h1
end
section
open RowKit Maps WideMaps
theorem ahu:Keyed prog 9:=string_keyed Tryz.underlying9
theorem alO w:(zeroValue 3).run prog w= .ok (O aa 0) w:=az
theorem ahv l (h:l.length<=maxLen):keyOf prog 9 (.string (aX l))=some (.string l):=by have:=keyOf_string_mk Tryz.underlying9 (s:=aX l) (by rw[qR];exact h);exact this
def NameSet (w:World) (B k:Nat) (l:List (List UInt8)):=
 ∃D:DataW Unit,w.ownsMap prog 9 (plainElem prog 3) B k D/\Maps.IsMap D/\∀nm,Maps.has D (.string nm)=l.contains nm
theorem NameSet.made (w:World):NameSet (w.alloc (.map #[] 0)) w 0 []:=⟨.map [],World.ownsMap_made _ _ _ _,⟨[],rfl⟩,λ_=>rfl⟩
theorem NameSet.on {w w' B k l} (h:NameSet w B k l) (hb:Below w w w'):NameSet w' B k l:=by obtain⟨D,h,h2⟩:=h;have aT:=h.lt;obtain⟨es,clock,hh,r⟩:=h;exact⟨D,⟨es,clock,(hb.block B aT).trans hh,r⟩,h2⟩
theorem NameSet.mono {w B k k' l} (h:NameSet w B k l) (hk:k<=k'):NameSet w B k' l:=by obtain⟨D,h,h2⟩:=h;exact⟨D,h.mono hk,h2⟩
section
variable {w:World} {ops:Array Oper} {rest:List Oper} {o:Oper} {a:Act} {Q:Exit->Act->World->Prop} {B k:Nat} {l:List (List UInt8)}
theorem iL (hg:o.guard=none) m x (wJ:o.op=Op.lookup 321 m x true) (hm:a.eval m= .map (some B)) (bz:NameSet w B k l) nm (hl:nm.length<=maxLen)
  (hx:a.eval x= .string (aX nm)) (hK:∀c,wpList prog ops Q rest (a.put o.dst (ao #[O aa c,aq (l.contains nm)])) w):wpList prog ops Q (o::rest) a w:=by
 obtain⟨D,bz,_,hh⟩:=bz;refine wpList_lookup_own_ok_int w hg m x 321 wJ 9 3 .i64 ahu Tryz.underlying321 Tryz.underlying3 (alO _) B k D hm bz _ _ hx (ahv nm hl) ?_;intro c _ _;rw[hh];exact hK c
theorem Jf (hg:o.guard=none) m x v (wJ:o.op=Op.mapUpdate 321 m x v) (hm:a.eval m= .map (some B)) (bz:NameSet w B k l) (hk:k<maxLen) nm (hl:nm.length<=maxLen) i (hi:(Lit.int .i64 i).wf=true)
  (hx:a.eval x= .string (aX nm)) (hv:a.eval v=O aa i) (hK:∀w',Hid (NameSet w' B (k+1) (l++[nm]))->Hid (w.grownBy w' (some B))->wpList prog ops Q rest (a.put o.dst undef) w'):wpList prog ops Q (o::rest) a w:=by
 obtain⟨D,bz,hD,hh⟩:=bz;refine wpList_mapUpdate_own w hg m x v 321 wJ 9 3 ahu Tryz.underlying321 _ B k D hm bz hk _ _ _ hx hv (ahv nm hl) _ [] (plainElem_int Tryz.underlying3 hi) ?_;intro w' h1 h2;refine hK w' (ag ⟨_,h1,hD.put _ _,λnm'=>?_⟩) (ag h2);by_cases he:nm'=nm
 .subst he;rw[Maps.has_put_same hD (by trivial)];simp
 .rw[Maps.has_put_other (by intro h;injection h with h;exact he h),hh];rw[List.contains_append];simp[he]
end
namespace Dir
def uX (b:List UInt8) k:=(b.drop (16*k)).take 16
def rd b k:=jX (uX b k)
def seen b
 |0=>[]
 |k+1=>if (rd b k).2.1=true then seen b k++[(rd b k).1.nm] else seen b k
def XN b k:=decide ((rd b k).2.2=0)&& !((rd b k).2.1&&(seen b k).contains (rd b k).1.nm)
def Ah b
 |0=>true
 |k+1=>Ah b k&&XN b k
def cnt (b:List UInt8):=b.length/16
def MV b:=decide (cnt b=0)||(rd b (cnt b-1)).2.1
def sF b:=decide (b.length%16=0)&&Ah b (cnt b)&&MV b
theorem aed {b k m} (h:k<=m) (hm:Ah b m=true):Ah b k=true:=by
 induction m with
 |zero=>
  obtain rfl:k=0:=ae;exact hm
 |succ m ih=>
  rcases Nat.lt_or_ge k (m+1) with h2|h2
  .rw[Ah,du] at hm;exact ih ae hm.1
  .obtain rfl:k=m+1:=ae;exact hm
theorem alP {b k} (h:k<cnt b) (hn:XN b k=false):sF b=false:=by
 cases hg:sF b
 .rfl
 .rw[sF,du,du] at hg;have:=aed (k:=k+1) ae hg.1.2;rw[Ah,hn,Bool.and_false] at this;cases this
theorem aee {b k} (h:k+1=cnt b) (hn:(rd b k).2.1=false):sF b=false:=by unfold sF MV;rw[show cnt b-1=k by omega,hn,ey (by omega:¬cnt b=0)];simp
theorem ahw {b} (h:Ah b (cnt b)=true) (hl:cnt b=0\/(rd b (cnt b-1)).2.1=true):sF b=decide (b.length%16=0):=by
 unfold sF MV;rw[h];rcases hl with hl|hl
 .rw[ez hl];simp
 .rw[hl];simp
theorem aq5 b:(jX b).1.nm.length<=13:=by
 cases h:(jX b).2.1
 .rw[aaK h];simp[none_]
 .exact(vT ((xe _).1 (aaJ h).1).2).2
end Dir
theorem zg a n c w (hn:n<=140737488355328):Calls prog 156 #[an a n c] w λe w'=>e=ar (O aa (n/16:Nat))/\w=w':=by
 have q:(n:Int)/16=((n/16:Nat):Int):=ae;have hq:n/16<=140737488355328:=ae;generalize n/16=m at*
 go_in
 go_wp2;go_ret;exact⟨rfl,rfl⟩
theorem Cf a n c k b w (hx:Bytes w w a n b) (uD:n<=c) (hk:k<n/16):
  Calls prog 158 #[an a n c,O aa k] w λe w'=>(∃a' c',e=ar (an a' 16 c')/\16<=c'/\a'=iQ a c (16*k)/\Bytes w w a' 16 (Dir.uX b k))/\w=w':=by
 have AA:=hx.room;have hc:=vK a n c (16*k) (16*k+16) ae ae;have HY:=ag ((hx.drop (l:=16*k) ae uD).take (k:=16) ae);have UK:16<=c-16*k:=ae;rw[show 16*k+16-16*k=16 by omega,show((16*k:Nat):Int)=(k:Int)*16 by omega,show((16*k+16:Nat):Int)=((k:Int)+1)*16 by omega] at hc;have q1:IntKind.i64.wrap ((k:Int)*16)=(k:Int)*16:=bq _ ⟨ae,ae⟩;have q2:IntKind.i64.wrap ((k:Int)+1)=(k:Int)+1:=bq _ ⟨ae,ae⟩;have q3:IntKind.i64.wrap (((k:Int)+1)*16)=((k:Int)+1)*16:=bq _ ⟨ae,ae⟩;clear hx
 go_in
 go_wp2;go_ret;exact⟨⟨_,_,rfl,UK,rfl,HY⟩,rfl⟩
end
end Go.Proofs.YtnieckfelfoopaaGreat

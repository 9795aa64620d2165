/- With at most two blocks that fail, at any strokes, a file system on a small chip answers its puts, gets and syncs as one whose chip has no faults; its blocks wear alike, and it does not become read-only. Condition: the given statement's own alone (a torn page of the given bytes is no valid tag); that both file systems can be mounted is proved, not assumed. -/
import Derived.ProofKit
import Derived.OpenShut
import Derived.ShutString
import Derived.ChangeOld
import Derived.SizedLaws
import Derived.Lib.SmallJoins
import Derived.Test.YtnieckfelfoopaaGreatFsPar
open And renaming intro->cJ
open Go.AllReadyH renaming cons->bX,nil->cN
open Go.IntWalk renaming i64_in->bq
open Go.RowKit.Below renaming refl->aE
open Go.World renaming size_alloc->bR,cell?_setCell_far->cK,size_setCell->cT
open List renaming replicate->bt,mem_map->bw,length_append->bE,length_map->bO,mem_append->cv,range->cz,append_nil->cC,length_cons->cD,map_cons->cE,mem_singleton->cG,length_take->cI,nodup_cons->cR,getElem_mem->cS,length_nil->cV,length_drop->dk,map_congr_left->dp
open Nat renaming le_refl->bp,le_trans->bB,zero_le->bN,lt_of_lt_of_le->cM
open UInt8 renaming ofNat->bx,toNat_ofNat'->eh
open Go.Value renaming int->O,slice->an,tuple->ao,bool->aq
open Go.IntKind renaming i64->aa
open Go.Ending renaming returned->ar
open Go.RowKit renaming Hid->aL
open Go.Proofs.Tryz (prog)
set_option maxRecDepth 100000
set_option maxHeartbeats 16000000
namespace Go.Proofs.YtnieckfelfoopaaGreat
open Lib (hid)
section
open RowKit fG
variable {NB B P T:Nat} {Q:Nat->Prop} {w w':World} {f:Fm} {s:Ps} {fi:Nf} {n:Nat} {X:List UInt8}
theorem GX {P ops o a w K Q E} (mF:o.guard=none) ty x y (ho:o.op= .store ty x y)
  g cells (hx:a.eval x= .pointer (some ⟨g,0,none⟩)) (hy:a.eval y= .agg cells)
  t old (hg:aF w g t old) (hi:(P.info? ty).map (·.size)=some cells.size)
  (hold:old.size=cells.size) (h1:cells.all (·.oneCell')=true)
  (h:K (a.put o.dst undef) (w.setRow g cells)):if Region.wanted o (yielded ops a.tmps)=true then Oper.wp P o a w K Q else E:=by
 have hw:Region.wanted o (yielded ops a.tmps)=true:=by simp[Region.wanted,mF]
 rw[ev hw];exact wp_store_row ty x y ho g cells hx hy t old hg hi hold h1 h
theorem KO {Dv s' k c sl a mo} (h:bZ NB B Q w P f s) (hT:qK w T P) (yD:¬Q T) (h1:1<=n) (h2:n<=s.ino) (h3:s.ino<=100000) (h4:(n-1)/2<s.tb)
  (hw:aO.Wf s fi.io) (hx:Bytes w w a 16 sl) (hc:16<=c) (hk:16*k+16<=67968) (VL:Room.vS 64 (gQ (aO.yl s.g fi.io)) ((16*k/64:Nat)) (((16*k+16+63)/64:Nat))=(mo,0)) (hmo:mo<=s.np-s.us.length)
  (zJ:aO.ac4 1 s fi.io (16*k) sl) (YM:∀bl o,a=some ⟨bl,o,none⟩->¬Q bl/\bl<w) (hs:s'=(aO.Jy 1 s fi.io (16*k) sl).1) (hf:Dv=bD fi (max fi.s ((16*k+16:Nat))) (aO.Jy 1 s fi.io (16*k) sl).2)
  (htb:s'.tb=s.tb) (ac5:s'.ino=s.ino) (hr:aO.Right (bH Dv)):
  Calls prog 101 #[T,O aa n,GL fi,O aa k,an a 16 c] w λe w'=>e=ar (O aa 0)/\kF NB B Q w w' P f (gI s' n (bH Dv)):=by
 have hlen:=hx.len;have hb:=(aE w w).alloc av (.cells (dZ fi) 107);obtain⟨sV,HT0,HTl,RJ,yg⟩:=ct (h.on hb) hT hT.lt (hT.on hb) (hx.on hb);obtain⟨VM,Oz,HH,Zx,HB⟩:=ct (aF.new w 107 (dZ fi)) yD h h.base hb;have HWc:=ag (show∀W:World,bZ NB B Q W P f s->Bytes W W a 16 sl->w.heap.size<=W.heap.size->Calls prog 80 #[P,.agg (dZ fi),O aa ((k:Int)*16),an a 16 c] W λe w'=>e=ar (ao #[.agg (dZ Dv),O aa 0])/\kF NB B Q W w' P f s' from λW hW hX iG=>by
  have h:=yB (fuel:=1) (off:=16*k) hW hw hX hc (λe=>by rw[e] at hlen;cases hlen) ae hk VL hmo zJ λbl o e=>⟨(YM bl o e).1,by have:=(YM bl o e).2;omega⟩
  rw[<-hs,<-hf] at h;rw[show(k:Int)*16=((16*k:Nat):Int) from ae];exact h)
 have jI:=ag (show∀(W:World) (U:Nat->Prop),bZ NB B U W P f s'->qK W T P->¬U T->Calls prog 81 #[T,O aa n,.agg (dZ Dv)] W λe w'=>e=ar (O aa 0)/\kF NB B U W w' P f (gI s' n (bH Dv)) from λW U hW hT hU=>
  kG hW hT hU h1 (by rw[ac5];exact h2) (by rw[ac5];exact h3) (by rw[htb];exact h4) (bH Dv) hr)
 have q1:=bq ((k:Int)*16) ⟨ae,ae⟩;have ac6:(dZ Dv).all (·.oneCell')=true:=kL Dv;clear h hT yD hb hx hw VL hmo zJ YM hs hf htb ac5 hr hlen h1 h2 h3 h4 hk;unfold GL
 go_in
 go_upto_region 1 with fail;generalize w.alloc (.cells (dZ fi) 107)=W1 at*;obtain⟨HPd,HTd,HLd⟩:=cp (sV.on (ak W1)) (RJ.on (ak W1)) (VM.ah (ak W1));obtain⟨HXd,sW,iO⟩:=cp (yg.on (ak W1)) (HB.aA (ak W1)) (λW (h1:qK W T P) (h2:aF W w 107 (dZ fi))=>(⟨h1.c0,h2⟩:W.cell? (aw T 0)=some (.pointer (aw P 0))/\aF W w 107 (dZ fi)));refine iE (λW'=>W'.cell? (aw T 0)=some (.pointer (aw P 0))/\aF W' w 107 (dZ fi)) (iO.o _ HTd HLd) (λaY=>?_);generalize W1.drew=W0 at*;refine dw 0 T 0 ?_;refine aS 1 T 0 ?_;refine aS 2 T 0 ?_;refine kS 3 P (λ_ aK=>aK.1) ?_;refine jE 4 (.agg (dZ fi)) rfl (λ_ aK=>by obtain⟨y0,y1,y2,y3,y4,y5,y6,y7,y8,y9,GR⟩:=ji aK.2;unfold dZ;go_simp) ?_;refine dI 5 (k:Int) ?_;refine iR 6 ((k:Int)*16) ?_;refine dG 7 (an a 16 c) ?_;refine wpAnyH_ready (rs:=[8,12]) az au ?_;refine bX rfl (λK' hK=>?_) (bX rfl (λK' hK=>?_) (cN))
 .go_simp;go_call(HWc.o W0 HPd HXd sW.size) as e W2 ⟨rfl,jU⟩;obtain⟨ui,EZ,xW⟩:=cp jU (HTd.kq jU.2 Oz) (HLd.kq jU.2 (HH.aV av));clear jU;refine hK.out _ _ (iO.o _ EZ xW) (λfE=>?_)
  refine dG 9 (ao #[.agg (dZ Dv),O aa 0]) ?_;refine dG 10 (.agg (dZ Dv)) ?_;refine dI 11 0 ?_;refine bY 12 (λK' hK=>?_);go_simp;have bJ:=(aE W2 W2).alloc av (.cells bc 107);obtain⟨rG,HT3,wR,jM⟩:=cr (aF.new W2 107 bc) (EZ.on bJ) (xW.ah bJ) (bJ.bU av (dZ Dv));clear bJ;refine hK.out _ _ (iO.o _ HT3 wR) (λiZ=>?_)
  refine bY 13 (λK' hK=>?_);refine GX rfl _ _ _ rfl (W2.heap.size) (dZ Dv) rfl rfl 107 _ rG.o RP rfl ac6 ?_;obtain⟨HI4,Y4,PT,NJ⟩:=cr (rG.row (dZ Dv)) (EZ.on jM) (xW.ah jM) (kF.behind (Kq.of sW) (ui.on jM HPd.base) Zx);generalize (W2.alloc (.cells bc 107)).setRow W2 (dZ Dv)=W4 at*;refine hK.out _ _ (iO.o _ Y4 PT) (λqX=>?_)
  refine dI 14 0 ?_;refine eH ?_;clear aY fE iZ qX ac6;obtain⟨y0,y1,y2,y3,y4,y5,y6,y7,y8,y9,GR⟩:=ji HI4.o;have afT:=ag (jI.o W4 _ NJ.o.1 Y4 λh=>Oz.o (fA h HTl));unfold dZ at afT;go_wp2_with fail;go_call afT as e W5 ⟨rfl,vM⟩;have HP5:=ag (NJ.aA vM);clear vM y0 y1 y2 y3 y4 y5 y6 y7 y8 y9 GR;go_wp2;go_ret;exact⟨rfl,HP5⟩
 .go_simp;have bJ:=(aE W0 W0).alloc av (.cells bc 107);obtain⟨rG,HT3,wR,pU,IQ⟩:=ct (aF.new W0 107 bc) (HTd.on bJ) (HLd.ah bJ) (HPd.on bJ) (HXd.on bJ);obtain⟨cO,HJQ⟩:=cn (sW.aA bJ) (HPd.aV av);obtain⟨J,hJ⟩:=aW W0.heap.size;have HJw:=ag (show w.heap.size<=J from by rw[hJ];exact sW.size);rw[<-hJ] at rG HJQ;have HJ:=ag hJ;clear bJ;refine hK.out _ _ (iO.o _ HT3 wR) (λiZ=>?_)
  rw[<-hJ];clear hJ;generalize W0.alloc (.cells bc 107)=W3 at*;refine bY 8 (λK' hK=>?_);go_simp;go_call(HWc.o W3 pU IQ cO.size) as e W2 ⟨rfl,jU⟩;obtain⟨ui,EZ,xW,JC⟩:=cr jU (HT3.kq jU.2 Oz) (wR.kq jU.2 (HH.aV av)) (rG.kq jU.2 HJQ);clear jU;refine hK.out _ _ (iO.o _ EZ xW) (λfE=>?_)
  refine dG 9 (ao #[.agg (dZ Dv),O aa 0]) ?_;refine dG 10 (.agg (dZ Dv)) ?_;refine dI 11 0 ?_;refine bY 13 (λK' hK=>?_);refine GX rfl _ _ _ rfl J (dZ Dv) rfl rfl 107 _ JC.o RP rfl ac6 ?_;have hkr:=gJ W2 J (dZ Dv);obtain⟨HI4,Y4,PT⟩:=cp (JC.row (dZ Dv)) (EZ.kq hkr λe=>by have:=HTl.o;have:=HJw.o;omega) (show aF (W2.setRow J (dZ Dv)) w 107 (dZ fi) from xW.kq hkr λe=>by have:=VM.lt;have:=HJ.o;have:=HLd.lt;omega);have NJ:=ag (HH.fin (ui.o.1.kq hkr λq hq e=>by
   subst e;exact HJQ.o (fA hq rG.lt)) (λq hq=>by
   rcases hq with h1|h1
   .exact .inl h1
   .exact .inr (by have:=cO.size;omega)) (((Kq.of (T:=Q) cO).trans ui.o.2).aA hkr λq e=> .inr (by have:=HJw.o;omega)) λq hq=> .inl hq)
  clear hkr;generalize W2.setRow J (dZ Dv)=W4 at*;refine hK.out _ _ (iO.o _ Y4 PT) (λqX=>?_)
  refine dI 14 0 ?_;refine eH ?_;clear aY fE iZ qX ac6;obtain⟨y0,y1,y2,y3,y4,y5,y6,y7,y8,y9,GR⟩:=ji HI4.o;have afT:=ag (jI.o W4 _ NJ.o.1 Y4 λh=>Oz.o (fA h HTl));unfold dZ at afT;go_wp2_with fail;go_call afT as e W5 ⟨rfl,vM⟩;have HP5:=ag (NJ.aA vM);clear vM y0 y1 y2 y3 y4 y5 y6 y7 y8 y9 GR;go_wp2;go_ret;exact⟨rfl,HP5⟩
end
section
open RowKit fG
variable {NB B P T:Nat} {Q:Nat->Prop} {w w':World} {f:Fm} {s:Ps} {fi:Nf} {n:Nat} {X:List UInt8}
theorem RU {VN r s' Dv} (h:bZ NB B Q w P f s) (hT:qK w T P) (yD:¬Q T) (d:AZ s n fi X) nm (ht1:1<=VN) (ht2:VN<=s.ino) (he:Dir.akv X ⟨VN,nm⟩=0) (hrm:∀r',Dir.KQ X r'->r'=r) (PY:r<=4000) (g:VO s fi r (Dir.slotL ⟨VN,nm⟩) s' Dv):
  Calls prog 52 #[T,O aa n,.string (aX nm),O aa VN] w λe w'=>e=ar (O aa 0)/\kF NB B Q w w' P f (gI s' n (bH Dv)):=by
 obtain⟨VP,IU,hno⟩:=Dir.akw he;have wZ:=Dir.P7 ⟨VN,nm⟩ (Dir.vT ((Dir.xe _).1 IU).2).2;have N9:=(Dir.vT ((Dir.xe _).1 IU).2).2;have hfn:Dir.jk X nm=(-1,0):=Dir.akx hno;have hwl:Dir.lu ⟨VN,nm⟩=Dir.slotL ⟨VN,nm⟩:=ev IU;have HD:=ag (A7 h hT yD d);have aky:=d.big;obtain⟨JF,Oj,HTw,VQ,HZ⟩:=ct (λ(W:World) (hW:bZ NB B Q W P f s) (hT:qK W T P)=>rM hW hT ht1 ht2 aky) (show∀W:World,Calls prog 100 #[.agg #[O aa VN,.string (aX nm)]] W λe w'=>(∃v,e=ar (ao #[v,O aa 0])/\Own aJ 5 w' W v (Dir.slotL ⟨VN,nm⟩))/\Below W W w' from λW=>by have h:=GY ⟨VN,nm⟩ W (by show nm.length<=_;simp only at N9;omega);unfold FC at h;rw[IU,hwl] at h;exact h) (show∀(W:World) (a:Option Addr) (c:Nat),bZ NB B Q W P f s->qK W T P->Bytes W W a 16 (Dir.slotL ⟨VN,nm⟩)->16<=c->(∀bl o,a=some ⟨bl,o,none⟩->¬Q bl/\bl<W.heap.size)->Calls prog 101 #[T,O aa n,.agg (dZ fi),O aa r,an a 16 c] W λe w'=>e=ar (O aa 0)/\kF NB B Q W w' P f (gI s' n (bH Dv)) from λW a c hW hT hx hc YM=>by obtain⟨mo,m1,m2⟩:=g.more;exact KO hW hT yD d.lo d.hi d.big d.pg d.wf hx hc ae m1 m2 g.ok YM g.hs g.hf g.tb g.ino g.right) hrm d.z2;obtain⟨HG,HFn,UQ,Zx,Oz⟩:=ct VP hfn wZ h.base yD;obtain⟨HT,HQb⟩:=cn hT h.bnd;unfold GL dZ at HD;clear h hT yD d he hrm PY g ht1 ht2 aky VP IU hno wZ N9 hfn hwl
 go_in
 go_wp2_with fail;go_call HD as e W2 ⟨⟨v,rfl,ho⟩,hp,hk⟩;obtain⟨a2,c2,rfl,Dw⟩:=ho.bG rfl;obtain⟨tJ,HC2,ui,ja,EZ⟩:=ct ho Dw hp hk (HT.kq hk Oz);clear ho hp hk HD Dw;have JC:=ag (aF.new W2 107 bc);obtain⟨W3,rF⟩:∃W3,W3=(W2.alloc (.cells bc 107)).setRow W2 fi:=⟨_,rfl⟩
 have bJ:Below W2 W2 W3:=by rw[rF];exact((aE _ W2).alloc av _).bU av _
 obtain⟨qY,HW3,pU⟩:=cp (show aF W3 W2 107 (dZ fi) from by rw[rF];exact JC.row _) rF (ui.on bJ);obtain⟨HT3,tN,jZ⟩:=cp (EZ.on bJ) (tJ.on bJ) (ja.on bJ);clear rF bJ
 go_wp2_with (refine aH rfl rfl _ _ _ rfl W2 fi rfl rfl 107 bc JC rfl dC (kL fi) ?_;rw[<-HW3.o])
 obtain⟨I9,hI9⟩:=aW W2.heap.size;have HI9:=ag hI9;rw[<-hI9] at qY⊢;clear hI9;go_call(JF.o W3 pU HT3) as e W4 ⟨rfl,eG⟩;obtain⟨NJ,Y4,x9,kX,HI4⟩:=ct (pU.on eG) (HT3.on eG) (tN.on eG) (jZ.on eG) (qY.ah eG);clear eG;go_wp2_with fail;go_call(Oj.o W4) as e W5 ⟨⟨v,rfl,ho⟩,eQ⟩;obtain⟨a5,c5,rfl,Y7⟩:=ho.bG UQ.o;obtain⟨Fq,HC5⟩:=cn (ho.arr (by rw[UQ.o];decide)) Y7;have HQa:=ag (show∀bl o,a5=some ⟨bl,o,none⟩->¬Q bl/\bl<W5.heap.size from λbl o e=>by
  obtain⟨g,rfl,h1,h2⟩:=ho.addr (by rw[UQ.o];omega);injection e with e
  injection e with e
  subst e;exact⟨NJ.aV h1,h2⟩)
 obtain⟨HP5,HT5,Gs,wS,oZ⟩:=ct (NJ.on eQ) (Y4.on eQ) (x9.on eQ) (kX.on eQ) (HI4.ah eQ);clear ho eQ Y7;have hl:=HZ.o;have NK:=ag (Gs.arr ae);clear hl;go_wp2_with fail;go_call(BD a2 _ c2 X nm W5 NK HC2) as e W6 ⟨rfl,fJ⟩;rw[HFn.o];obtain⟨HP6,HT6,Y9,ql,Bz⟩:=ct (HP5.on fJ) (HT5.on fJ) (NK.on fJ) (wS.on fJ) (oZ.ah fJ);obtain⟨HY6,HQ6⟩:=cn (Fq.on fJ) (λbl o e=>cJ (HQa.o bl o e).1 (cM (HQa.o bl o e).2 fJ.size));clear fJ;go_upto_region 13 with fail;have nJ:=ak W6;obtain⟨HPd,HTd,HXd,xX,tK⟩:=ct (HP6.on nJ) (HT6.on nJ) (Y9.on nJ) (ql.on nJ) (Bz.ah nJ);obtain⟨HYd,HQd⟩:=cn (HY6.on nJ) (λbl o e=>cJ (HQ6.o bl o e).1 (cM (HQ6.o bl o e).2 nJ.size));clear nJ;refine iE (λW'=>aF W' I9 107 (dZ fi)) tK.o (λaY=>?_);generalize W6.drew=W7 at*;refine dw 0 T 0 ?_;refine dI 1 (n:Int) ?_;refine jE 2 (.agg (dZ fi)) rfl (λ_ aK=>by obtain⟨y0,y1,y2,y3,y4,y5,y6,y7,y8,y9,GR⟩:=ji aK;unfold dZ;go_simp) ?_;refine dG 3 (an a2 X.length c2) ?_;refine dG 5 (an a5 16 c5) ?_;refine bY 4 (λK' hK=>?_);go_simp;go_call(Zy a2 _ c2 X W7 HXd HC2) as e w_ ⟨⟨r,rfl,hr⟩,rfl⟩;obtain rfl:=VQ.o _ hr;clear hr;refine hK.out _ _ (tK) (λdh=>?_)
 refine bY 6 (λK' hK=>?_);go_simp;go_call(HTw.o W7 a5 c5 HPd HTd HYd HC5 HQd) as e W8 ⟨rfl,hp8⟩;obtain⟨HP8,YQ⟩:=cn (kF.behind xX hp8 Zx) (tK.kq hp8.2 (by rw[HI9.o];exact ui.aV av));clear hp8;refine hK.out _ _ (YQ) (λfE=>?_)
 refine dI 7 0 ?_;refine eH ?_;clear aY dh fE;go_wp2;go_ret;exact⟨rfl,HP8⟩
end
section
open RowKit Maps ChangeMaps dY fG Bo
section
variable {NB B P X T Z:Nat} {Q:Nat->Prop} {w w':World} {f:Fm} {s:Ps} {L:List Nat}
theorem IV (h:bZ NB B Q w P f s) (hL:L.Nodup) (hd:∀n,s.dy n↔n∈L):Calls prog 83 #[P] w λe w'=>e=ar (O aa L.length)/\w=w':=by
 obtain⟨U,D,dl,R,h1,h2,_⟩:=id h;have c7:w.cell? (P,7)=some (.map (some D)):=h1.hP.aj rfl;have hlen:dl.length=L.length:=by
  have ha:=Ps.mW (l:=dl.map Dp.n) (l':=L) h1.hD.uq λx hx=>by obtain⟨d,hd',rfl⟩:=bw.1 hx;exact(hd _).1 ((h1.dy _).2 (by show(uC.get dl (uC.kf d)).isSome=true;rw[Enc.Fg h1.hD.uq hd'];rfl))
  have hb:=Ps.mW (l:=L) (l':=dl.map Dp.n) hL λx hx=>by
   have h3:=(h1.dy x).1 ((hd x).2 hx)
   cases hz:uC.get dl x with
   |none=>rw[hz] at h3;cases h3
   |some d=>obtain⟨hm,hk⟩:=Enc.get_mem hz;exact bw.2 ⟨d,hm,hk⟩
  rw[bO] at ha hb;omega
 obtain⟨es,ck,he,hes⟩:=h1.hD.size;have hl:∀ty,(Builtin.len_ #[153] ty #[.map (some D)]).run prog w= .ok (O aa dl.length) w:=λty=>by rw[<-hes];simp[Builtin.len_,run_underlying Tryz.underlying153,MapKept.run_getObj_map he,goInt]
 clear h h1 h2 he hes hL hd
 go_in
 go_wp2;go_ret;exact⟨by rw[<-hlen];rfl,rfl⟩
structure Cl (f:Fm):Prop where
 no:f.no=[]
 go:f.go=[]
 gh:f.g.gh=λ_=>True
 s0:∃x,aI f.se 0=some x/\x.t.s+1=f.seq
 len:f.se.length<=10
 ky:∀q,(aI f.se q).isSome=true->q<=38
theorem Cl.of {R} (h:cu 16 B R w f) (ho:Od f):Cl f:=
 ⟨ho.no,ho.go,ho.gh,ho.s0,by have:=RV h ho;grind,λq hq=>by
  rcases Nat.lt_or_ge q 2 with h1|h1
  .omega
  .rw[ho.key q h1] at hq;cases hq⟩
theorem Cl.next {R f1 f' g tx} (h:Cl f) (hd:RX NB f f1 λq=>q≠0/\(jw f q).isSome=true/\¬s.There q) (hc:CmD NB f1 L g tx f') (hm:cu NB B R w f')
  (hL:∀q∈L,s.There q) (ht:s.tb=2) (hu:s.us.length<=7) (hub:∀q∈s.us,q<=38):Cl f'/\f'.seq=f.seq+L.length+1/\f'.g.C=f.g.C/\Uq f'.se:=by
 have e1:f1.seq=f.seq/\f1.g=f.g:=by rw[hd.eq];exact⟨rfl,rfl⟩
 have Az:∀q,(aI f'.se q).isSome=true->q=0\/s.There q:=λq hq=>by
  by_cases h0:q=0
  .exact .inl h0
  .refine .inr ?_;have hv:=hc.vw q h0;by_cases JG:q∈L
   .exact hL q JG
   .rw[eo JG] at hv;have hv2:(vw f' q).isSome=true:=by unfold vw jw;rw[hc.no,hc.go];grind
    rw[hv] at hv2;unfold vw at hv2;rw[Option.isSome_map] at hv2;by_cases hT:s.There q
    .exact hT
    .exfalso;by_cases hK:(jw f q).isSome=true
     .rw[hd.gone h.no q ⟨h0,hK,hT⟩] at hv2;cases hv2
     .rw[hd.cur h.no h.go q λhk=>hK hk.2.1] at hv2;exact hK hv2
 refine⟨⟨hc.no,hc.go,by rw[hc.gh,e1.2];exact h.gh,?_,?_,λq hq=>?_⟩,by rw[hc.seq,e1.1],by rw[hc.C,e1.2],hm.hS.uq⟩
 .have hv:=hc.vw0;unfold vw jw at hv;rw[hc.no,hc.go] at hv;have hv:Option.map sk (aI f'.se 0)=some (⟨2,0,f1.seq+L.length,f1.ep⟩,ig tx):=hv;obtain⟨x,hx,hs⟩:=Option.map_eq_some_iff.1 hv;have h2:x.t=⟨2,0,f1.seq+L.length,f1.ep⟩:=congrArg Prod.fst hs;exact⟨x,hx,by rw[h2,hc.seq]⟩
 .have h1:=Ps.mW (l:=f'.se.map λe:En=>e.t.p) (l':=0::1::2::s.us) hm.hS.uq λq hq=>by
   rcases Az q (dK.2 hq) with h|h|h
   .grind
   .grind
   .simp[h]
  grind
 .rcases Az q hq with h|h|h
  .omega
  .omega
  .exact hub q h
theorem KT (h:fK B Q w X T Z f s) (ho:Cl f) (hL:L.Nodup) (hd:∀n,s.dy n↔n∈L) (hl:L.length<=6) (ht:s.tb=2) (h2:s.np=36/\s.ino=4) (hu:s.us.length<=7) (hub:∀q∈s.us,q<=38) (ER:f.seq<=170):
  Calls prog 33 #[X] w λe w'=>e=ar (O aa 0)/\∃f',CQ B Q w w' X T Z f' s.clean/\Cl f'/\f'.seq=f.seq+L.length+1/\f'.g.C=f.g.C:=by
 have hLT:∀q∈L,s.There q:=λq hq=>by
  obtain⟨U,D,dl,R,h1,_,_⟩:=h.hP;have h3:=(h1.dy q).1 ((hd q).2 hq)
  cases hz:uC.get dl q with
  |none=>rw[hz] at h3;cases h3
  |some d=>obtain⟨hm,hk⟩:=Enc.get_mem hz;have h4:=h1.dt d hm;rw[show d.n=q from hk] at h4;exact h4
 have HNx:=ag (λ(f1 f':Fm) (W:World) (hW:kF 16 B Q w W Z f' s.clean) (hd:RX 16 f f1 λq=>q≠0/\(jw f q).isSome=true/\¬s.There q) (hc:CmD 16 f1 L s.g (A8 s.tb s.np s.ino) f')=>show Cl f'/\f'.seq=f.seq+L.length+1/\f'.g.C=f.g.C from by
  obtain⟨R,hm,_⟩:=hW.1.ft;obtain⟨a,b,c,_⟩:=ho.next hd hc hm hLT ht hu hub
  exact⟨a,b,c⟩)
 have FD:=ag (λ(W:World) (hW:fK B Q W X T Z f s) (a:Option Addr) (c:Nat) (hx:Bytes W W a 56 (A8 s.tb s.np s.ino)) (hxQ:∀b o,a=some ⟨b,o,none⟩->¬Q b)=>
  xP (c:=c) hW.hP hL hd ho.no ho.go ho.s0 ae hl ho.len ER (λq hq=>by have:=ho.ky q hq;omega) (by rw[ho.gh];intros;trivial) (by rw[ho.gh];trivial) hx hxQ)
 obtain⟨HT,HH⟩:=cn (λW=>BF (tb:=s.tb) (np:=s.np) (ino:=s.ino) ae ae ae W) h;have c0:=h.c0;have c1:=h.c1;clear h ho hL hd hl ht h2 hu hub ER hLT
 go_in
 go_wp2_with fail;refine(iF HH.hT).cj ?_;go_wp2_with fail;go_call(jF HH.hP) as e w1 ⟨rfl,bP⟩;obtain⟨nz,bV⟩:=cn (HH.on bP) bP;clear bP;go_wp2_with fail;refine(dV nz.hP).cj ?_;go_wp2_with fail;go_call(HT.o w1) as e w2 ⟨⟨a,c,rfl,bz⟩,aZ⟩;obtain⟨Jt,df,HXx⟩:=cp (nz.on aZ) (bV.aA aZ) (bz.arr (by unfold A8;rw[Dx];omega));have HXn:=ag (show∀b o,a=some ⟨b,o,none⟩->¬Q b from λb o e hq=>by
  obtain⟨g,e2,hg,_⟩:=bz.addr (by unfold A8;rw[Dx];omega);rw[e2] at e;injection e with e
  injection e with e
  have:=(HH.hP.bnd b hq).2;have:=bV.size;omega)
 clear bz aZ;go_wp2_with fail;go_call(FD.o w2 Jt a c HXx HXn) as e w3 ⟨rfl,f1,f',uh,hdp,hcm⟩;have apD:=kF.from_ df.o uh HH.hP.base;obtain⟨k1,k2,k3⟩:=HNx.o f1 f' w3 apD hdp hcm;obtain⟨HR,HK⟩:=cn (HH.ofR apD k3) (cJ k1 (cJ k2 k3));clear uh hcm apD k1 k2 k3 hdp;go_wp2;go_ret;exact⟨rfl,f',HR,HK⟩
theorem kY (h:fK B Q w X T Z f s) (hL:L.Nodup) (hd:∀n,s.dy n↔n∈L) (hl:L.length<16):
  Calls prog 32 #[X] w λe w'=>e=ar (O aa 0)/\Below w w w':=by
 have HD:=ag (λW (hW:fK B Q W X T Z f s)=>IV hW.hP hL hd);obtain⟨l,hll⟩:=aW L.length;rw[<-hll] at HD hl;have g1:¬(16:Int)<=(l:Int):=ae;have HH:=ag h;have c0:=h.c0;have c1:=h.c1;clear h hL hd hll hl
 go_in
 go_wp2_with fail;refine(jb HH).cj ?_;go_wp2_with fail;refine(iF HH.hT).cj ?_;go_wp2_with fail;go_call(tY HH.hP) as e w1 ⟨rfl,bP⟩;obtain⟨nz,bV⟩:=cn (HH.on bP) bP;clear bP;go_wp2_with fail;refine(HD.o w1 nz).cj ?_;go_wp2;go_ret;exact⟨rfl,bV⟩
theorem Rj (h:fK B Q w X T Z f s) (ho:Cl f) (hL:L.Nodup) (hd:∀n,s.dy n↔n∈L) (hl:L.length<=6) (ht:s.tb=2) (h2:s.np=36/\s.ino=4) (hu:s.us.length<=7) (hub:∀q∈s.us,q<=38) (ER:f.seq<=170):
  Calls prog 13 #[X] w λe w'=>e=ar (O aa 0)/\∃f',CQ B Q w w' X T Z f' s.clean/\Cl f'/\f'.seq=f.seq+L.length+1/\f'.g.C=f.g.C:=by
 obtain⟨FD,HCh,HH⟩:=cp (λW (hW:fK B Q W X T Z f s)=>KT hW ho hL hd hl ht h2 hu hub ER) (kY h hL hd ae) h;clear h hL hd hl ho h2 ht hu hub ER
 go_in
 go_wp2_with fail;go_call HCh as e w1 ⟨rfl,bP⟩;obtain⟨nz,bV⟩:=cn (HH.on bP) bP;clear bP;go_wp2_with fail;go_call(FD.o w1 nz) as e w2 ⟨rfl,f',hr,hk⟩;obtain⟨HR,HK⟩:=cn hr hk;clear hr hk;go_wp2;go_ret;exact⟨rfl,f',CQ.from_ bV HR HH,HK⟩
end
end
section
open RowKit Maps ChangeMaps dY fG vG Ad
def hsC (i fl o:Int):List Value:=[O aa i,O aa fl,O aa o,O aa 0,O aa 0,O aa 0,O aa 0,O aa 0,O aa 0,O aa 0,O aa 0,O aa 0,O aa 0,O aa 0,O aa 0,O aa 0,O aa 0,O aa 0,O aa 0,O aa 0,O aa 0,O aa 0,O aa 0,O aa 0,O aa 0,O aa 0,O aa 0,O aa 0,O aa 0,O aa 0,O aa 0,O aa 0,O aa 0,O aa 0,O aa 0,O aa 0,O aa 0,O aa 0,O aa 0,O aa 0,O aa 0,O aa 0,O aa 0,O aa 0,O aa 0,O aa 0,O aa 0,O aa 0]
theorem apE:(prog.info? 88).map (·.size)=some 48:=az
theorem RQ:(prog.info? 87).map (·.size)=some 3:=az
theorem afW fl o W:(Instr.index 88 (.agg (hsC 0 fl o).toArray) (O aa 0)).run prog W= .ok (.agg #[O aa 0,O aa fl,O aa o]) W:=az
section
variable {B X T Z m rp j C C':Nat} {Q:Nat->Prop} {w w':World} {f:Fm} {s:Ps} {i fl o:Int} {fi:Nf} {P R:Nat->Nat} {Y:Nat->List UInt8}
theorem afX (h:aF w X 90 (GM C C' i fl o)):w.rangeAt X 2 (hsC i fl o):=λj v hv=>by rw[h.cell,Nat.add_comm];grind[GM,hsC]
theorem Du (h:aF w X 90 (GM C C' i fl o)):w.there X 2 3:=λj hj=>by
 refine⟨?_,h.frozen _⟩;rw[h.cell];grind[GM]
theorem CQ.behind {w1 w2 f' s'} (hb:Kq Q w w1) (h:CQ B Q w1 w2 X T Z f s) (h0:fK B Q w X T Z f' s'):CQ B Q w w2 X T Z f s:=by have hk:=kF.behind (NB:=16) hb (show kF 16 B Q w1 w2 Z f s from⟨h.1.hP,h.2⟩) h0.hP.base;exact⟨⟨h.1.hX,h.1.hT,hk.1,hk.far h0.nT h0.ltT,hk.far h0.nX h0.YL⟩,hk.2⟩
theorem rJ (h:fK B Q w X T Z f s) (hd:Hnd w X 0 fl o):Calls prog 76 #[X] w λe w'=>e=ar (O aa 0)/\Below w w w':=by
 have hr:=afX (h.blk hd);obtain⟨HR,HB⟩:=cn hr (aE w w);clear h hd hr
 go_in
 go_upto_block 2 with(refine wpList_load_mid rfl _ _ rfl X 2 rfl (hsC 0 fl o) _ HR Tryz.underlying88 rfl apE ?_)
 unfold hsC
 go_loopw [3,4,9] (λ_ _ v9 wq=>v9=O aa 0/\wq=w) (λ_ _ _ _=>0)
 case atStart=>exact⟨rfl,rfl⟩
 case round=>obtain⟨rfl,rfl⟩:=hrel;have hix:=afW fl o;unfold hsC at hix;go_wp2;go_ret;exact⟨rfl,HB.alloc av _⟩
theorem IK (h:fK B Q w X T Z f s) (g:Fz s m rp P R Y) (hm:m<3):
  Calls prog 75 #[X,O aa 1,.string (aX (JE m)),O aa 22] w λe w'=>e=ar (ao #[O aa 0,O aa 0])/\bZ 16 B Q w' Z f s/\Kq Q w w':=by
 have P8:=ag (show Calls prog 45 #[T,O aa 1,.string (aX (JE m))] w λe w'=>e=ar (ao #[O aa 0,O aa 60])/\bZ 16 B Q w' Z f s/\Kq Q w w' from IW h.hP h.hT h.nT g.afY (JE m) (apF m hm));have c1:=h.c1;generalize JE m=nm at*;clear h g hm
 go_in
 go_wp2_with fail;go_call P8 as e w1 ⟨rfl,yc,fO⟩;obtain⟨sV,ES⟩:=cn yc fO;clear yc fO;go_wp2;go_ret2;exact⟨rfl,sV,ES⟩
theorem IJ (h:fK B Q w X T Z f s) (g:Fz s m rp P R Y) (hj:j<m):
  Calls prog 75 #[X,O aa 1,.string (aX (JE j)),O aa 22] w λe w'=>e=ar (ao #[O aa (j+2),O aa 0])/\bZ 16 B Q w' Z f s/\Kq Q w w':=by
 have P8:=ag (show Calls prog 45 #[T,O aa 1,.string (aX (JE j))] w λe w'=>e=ar (ao #[O aa ((j:Int)+2),O aa 0])/\bZ 16 B Q w' Z f s/\Kq Q w w' from by have h1:=uN h.hP h.hT h.nT g.afY (JE j) (by rw[Dy m g.m3 j hj];exact Int.natCast_nonneg j);rw[Dy m g.m3 j hj] at h1;exact h1);obtain⟨a1,a2⟩:=g.KI hj;have GK:=g.m3;obtain⟨fi,jg⟩:=aW (fN 1 (Y j).length (P j) (R j));rw[<-jg] at a1;have fO:fi.k=1:=by rw[jg];rfl
 obtain⟨HI,HH⟩:=cn (show∀W:World,bZ 16 B Q W Z f s->qK W T Z->Calls prog 79 #[T,O aa ((j:Int)+2)] W λe w'=>e=ar (ao #[.agg (dZ fi),O aa 0])/\bZ 16 B Q w' Z f s/\Kq Q W w' from λW hW hT=>by have h:=eY (n:=j+2) hW hT ae (by rw[g.tb.ino];omega) (by rw[g.tb.ino];omega) (by rw[g.tb.tb];omega);rw[a1,a2] at h;exact h) h;have c1:=h.c1;obtain⟨iH,HJ⟩:=cn fO (show(1:Int)<=(j:Int)+2 from ae);obtain⟨y,hy⟩:∃y:Int,y=(j:Int)+2:=⟨_,rfl⟩
 rw[<-hy] at P8 HI⊢;generalize JE j=nm at*;clear h g hj a1 a2 GK jg fO hy
 go_in
 go_wp2_with fail;go_call P8 as e w1 ⟨rfl,yc,fO⟩;obtain⟨nz,ES⟩:=cn (HH.ask yc fO) fO;have c1:=nz.c1;clear yc fO;go_wp2_with fail;go_call(HI.o w1 nz.hP nz.hT) as e w2 ⟨rfl,jU,eU⟩;obtain⟨Jt,IP⟩:=cn (nz.ask jU eU) (ES.trans eU);clear jU eU;have qi:=ag (aF.new w2 107 bc);obtain⟨w3,jO⟩:=aW ((w2.alloc (.cells bc 107)).setRow w2 (dZ fi));have mD:Below w2 w2 w3:=by rw[jO];exact((aE _ w2).alloc av _).bU av _
 have tX:aF w3 w2 107 (dZ fi):=by rw[jO];exact qi.row _
 obtain⟨qj,nC,yt,Ar⟩:=cr jO (Jt.on mD) tX mD;clear jO mD tX;unfold dZ at qj;have HQ3:=ag (IP.on Ar);have y0:=yt.aj (i:=0) (v:=O aa fi.k) rfl;rw[iH.o] at y0
 go_wp2_with (refine aH rfl rfl _ _ _ rfl w2 fi rfl rfl 107 bc qi rfl dC (kL fi) ?_;rw[<-qj.o])
 go_ret2;exact⟨rfl,nC.hP,HQ3⟩
theorem IM (h:fK B Q w X T Z f s) (g:Fz s m rp P R Y) (hj:j<m):
  Calls prog 75 #[X,O aa 1,.string (aX (JE j)),O aa 1] w λe w'=>e=ar (ao #[O aa (j+2),O aa 0])/\bZ 16 B Q w' Z f s/\Kq Q w w':=by
 have P8:=ag (show Calls prog 45 #[T,O aa 1,.string (aX (JE j))] w λe w'=>e=ar (ao #[O aa ((j:Int)+2),O aa 0])/\bZ 16 B Q w' Z f s/\Kq Q w w' from by have h1:=uN h.hP h.hT h.nT g.afY (JE j) (by rw[Dy m g.m3 j hj];exact Int.natCast_nonneg j);rw[Dy m g.m3 j hj] at h1;exact h1);obtain⟨a1,a2⟩:=g.KI hj;have GK:=g.m3;obtain⟨fi,jg⟩:=aW (fN 1 (Y j).length (P j) (R j));rw[<-jg] at a1;have fO:fi.k=1:=by rw[jg];rfl
 obtain⟨HI,HH⟩:=cn (show∀W:World,bZ 16 B Q W Z f s->qK W T Z->Calls prog 79 #[T,O aa ((j:Int)+2)] W λe w'=>e=ar (ao #[.agg (dZ fi),O aa 0])/\bZ 16 B Q w' Z f s/\Kq Q W w' from λW hW hT=>by have h:=eY (n:=j+2) hW hT ae (by rw[g.tb.ino];omega) (by rw[g.tb.ino];omega) (by rw[g.tb.tb];omega);rw[a1,a2] at h;exact h) h;have c1:=h.c1;obtain⟨iH,HJ⟩:=cn fO (show(1:Int)<=(j:Int)+2 from ae);obtain⟨y,hy⟩:∃y:Int,y=(j:Int)+2:=⟨_,rfl⟩
 rw[<-hy] at P8 HI⊢;generalize JE j=nm at*;clear h g hj a1 a2 GK jg fO hy
 go_in
 go_wp2_with fail;go_call P8 as e w1 ⟨rfl,yc,fO⟩;obtain⟨nz,ES⟩:=cn (HH.ask yc fO) fO;have c1:=nz.c1;clear yc fO;go_wp2_with fail;go_call(HI.o w1 nz.hP nz.hT) as e w2 ⟨rfl,jU,eU⟩;obtain⟨Jt,IP⟩:=cn (nz.ask jU eU) (ES.trans eU);clear jU eU;have qi:=ag (aF.new w2 107 bc);obtain⟨w3,jO⟩:=aW ((w2.alloc (.cells bc 107)).setRow w2 (dZ fi));have mD:Below w2 w2 w3:=by rw[jO];exact((aE _ w2).alloc av _).bU av _
 have tX:aF w3 w2 107 (dZ fi):=by rw[jO];exact qi.row _
 obtain⟨qj,nC,yt,Ar⟩:=cr jO (Jt.on mD) tX mD;clear jO mD tX;unfold dZ at qj;have HQ3:=ag (IP.on Ar);have y0:=yt.aj (i:=0) (v:=O aa fi.k) rfl;rw[iH.o] at y0
 go_wp2_with (refine aH rfl rfl _ _ _ rfl w2 fi rfl rfl 107 bc qi rfl dC (kL fi) ?_;rw[<-qj.o])
 go_ret2;exact⟨rfl,nC.hP,HQ3⟩
theorem Ox {s1 s2 pI} (h:fK B Q w X T Z f s) (g:Fz s m rp P R Y) (hm:m<3) (n:auE s m rp s1 s2 pI):
  Calls prog 46 #[X,O aa 1,.string (aX (JE m)),O aa 1] w λe w'=>e=ar (ao #[O aa (m+2),O aa 0])/\CQ B Q w w' X T Z f (gI (gI s2 1 (bH (dN 1 (16*(m+1)) pI))) (m+2) (bH (fN 1 0 0 0))):=by
 have ac5:=g.tb.ino;have htb:=g.tb.tb;have HMk:=ag (show Calls prog 94 #[T,O aa 1] w λe w'=>e=ar (ao #[O aa ((m:Int)+2),O aa 0])/\kF 16 B Q w w' Z f s1 from by
  rw[n.h1];exact OA (m:=m+2) (kd:=1) (.inl rfl) h.hP h.hT h.nT ae ae ae ae (λj h1 h2=>by
   by_cases e:j=1
   .subst e;obtain⟨b1,b2⟩:=g.auF;exact⟨b2,by rw[b1];show(2:Int)≠0;decide⟩
   .obtain⟨q,rfl⟩:∃q,j=q+2:=⟨j-2,ae⟩
    obtain⟨b1,b2⟩:=g.KI (j:=q) ae;exact⟨b2,by rw[b1];show(1:Int)≠0;decide⟩) (by
   obtain⟨b1,b2⟩:=g.auG (j:=m) av hm;exact⟨b2,by rw[b1];rfl⟩))
 have e1:s1.ino=4:=by rw[n.h1];exact ac5
 have e2:s1.tb=2:=by rw[n.h1];exact htb
 have HAd:=ag (λ(W:World) (U:Nat->Prop) (hW:fK B U W X T Z f s1)=>show Calls prog 52 #[T,O aa 1,.string (aX (JE m)),O aa ((m:Int)+2)] W λe w'=>e=ar (O aa 0)/\kF 16 B U W w' Z f (gI s2 1 (bH (dN 1 (16*(m+1)) pI))) from
  RU (n:=1) (VN:=m+2) (r:=m) hW.hP hW.hT hW.nT n.dir (JE m) ae ae (akA m hm) (λr' hr=>afZ hm hr) ae n.slot)
 obtain⟨s3,EN⟩:=aW (gI s2 1 (bH (dN 1 (16*(m+1)) pI)));rw[<-EN] at HAd⊢;have e3:s3.ino=4:=by rw[EN];exact n.slot.ino.trans e1
 have e4:s3.tb=2:=by rw[EN];exact n.slot.tb.trans e2
 have Rz:=ag (λ(W:World) (U:Nat->Prop) (hW:fK B U W X T Z f s3)=>show Calls prog 81 #[T,O aa ((m:Int)+2),.agg #[O aa 1,O aa 1,O aa 0,O aa 0,O aa 0,O aa 0,O aa 0,O aa 0,O aa 0,O aa 0,O aa 0]] W λe w'=>e=ar (O aa 0)/\kF 16 B U W w' Z f (gI s3 (m+2) (bH (fN 1 0 0 0))) from
  kG (n:=m+2) hW.hP hW.hT hW.nT ae ae ae ae (bH (fN 1 0 0 0)) (Fh ae ae ae ae))
 have HH:=ag h;have c1:=h.c1;generalize JE m=nm at*;obtain⟨y,hy⟩:∃y:Int,y=(m:Int)+2:=⟨_,rfl⟩
 rw[<-hy] at HMk HAd Rz⊢;clear h g hm n ac5 htb e1 e2 EN e3 e4 hy
 go_in
 go_wp2_with fail;go_call HMk as e w1 ⟨rfl,yc⟩;have EJ:=ag (HH.ofR yc rfl);have c1:=EJ.o.1.c1;clear yc HMk;go_wp2_with fail;go_call(HAd.o w1 _ EJ.o.1) as e w2 ⟨rfl,jU⟩;have tC:=ag (EJ.aA (EJ.o.1.ofR jU rfl) HH.ltT HH.YL);have c1:=tC.o.1.c1;clear jU HAd;go_wp2_with fail;go_call(Rz.o w2 _ tC.o.1) as e w3 ⟨rfl,wL⟩;have CY:=ag (tC.aA (tC.o.1.ofR wL rfl) HH.ltT HH.YL);clear wL Rz;go_wp2;go_ret2;exact⟨rfl,CY⟩
end
structure Stp B Q w X T Z f s U J fj W:Prop where
 m:fK B U W X T Z f s
 k:Kq Q w W
 u:∀q,U q->Q q\/w<=q
 j:aF W J 107 (dZ fj)
 nj:¬U J
section
variable {B X T Z J:Nat} {Q U:Nat->Prop} {w W W0 W3 W5 W7 W9:World} {f f1 f':Fm} {s s1 s':Ps} {fj:Nf}
theorem Stp.after (h:CQ B Q w W5 X T Z f1 s1) (hJ:W5=J) (hb:Below W5 W5 W7) (hj:aF W7 J 107 (dZ fj)):∃U,Stp B Q w X T Z f1 s1 U J fj W7:=
 ⟨Up Q w W5,h.1.on hb,h.2.on hb,λ_ hq=>hq.imp id λh=>h.1,hj,λhq=>h.1.hP.aV (Nat.le_of_eq hJ) hq⟩
theorem Stp.before (h0:fK B Q w X T Z f s) (hk:Kq Q w W0) (h:fK B Q W0 X T Z f s) (hb:Below W0 W0 W3) (hr:CQ B Q W3 W5 X T Z f1 s1) (hJ:J=W0) (h7:Kq (λq=>q=J) W5 W7) (hj:aF W7 J 107 (dZ fj)) (hl:J<W3):∃U,Stp B Q w X T Z f1 s1 U J fj W7:=by have hs:=hk.size;have EN:=hb.size;have hnj:¬Up Q W3 W5 J:=λhq=>h.hP.aV (Nat.le_of_eq hJ.symm) (fA hq hl);have hT:=h0.ltT;have hX:=h0.YL;exact⟨Up Q W3 W5,hr.1.far h7 ae ae (λq hq e=>hnj (e▸hq)),((hk.on hb).trans hr.2).aA h7 λq hq=> .inr ae,λq hq=>hq.imp id λh=>ae,hj,hnj⟩
theorem Stp.on (h:Stp B Q w X T Z f s U J fj W) (hb:Below W W W7):Stp B Q w X T Z f s U J fj W7:=⟨h.m.on hb,h.k.on hb,h.u,h.j.ah hb,h.nj⟩
theorem Stp.fin (h:Stp B Q w X T Z f1 s1 U J fj W) (h0:fK B Q w X T Z f s) (k:CQ B U W W9 X T Z f' s'):CQ B Q w W9 X T Z f' s':=by
 have hs:=h.k.size;have mQ:=k.2.size;have hT:=h0.ltT;have hX:=h0.YL;have hb:=h0.hP.base;refine⟨⟨k.1.hX,k.1.hT,k.1.hP.more (λq hq=>?_) (λq hq=>?_),λhq=>h0.nT (fA hq hT),λhq=>h0.nX (fA hq hX)⟩,h.k.aA k.2 h.u⟩
 .have hl:=(k.1.hP.bnd q hq).2;rcases hq with hq|hq
  .exact(h.u q hq).imp id λh=>⟨h,hl⟩
  .exact .inr ae
 .rcases hq with hq|hq
  .have:=h0.hP.bnd q hq;omega
  .omega
theorem Stp.ask (h:Stp B Q w X T Z f s U J fj W) (hp:bZ 16 B U W7 Z f s) (hk:Kq U W W7):Stp B Q w X T Z f s U J fj W7:=⟨h.m.ask hp hk,h.k.aA hk h.u,h.u,h.j.kq hk h.nj,h.nj⟩
end
end
section
open RowKit fG aO
variable {NB B P:Nat} {Q:Nat->Prop} {w w':World} {f:Fm} {s:Ps}
theorem KL {fi} {z tt:Nat} {ns rs} (h:bZ NB B Q w P f s) (hz:fi.s=(z:Int)) (ht:tt<384)
  (hns:(gQ (yl s.g fi.io)).reverse=(ns.map λn:Nat=>n)++rs) (hk:∀n∈ns,(tt+63)/64<=n) (hr:∀x,rs.head?=some x->x<(((tt+63)/64:Nat))) (zJ:VE ns s fi.io):
  Calls prog 108 #[P,GL fi,O aa tt] w λe w'=>e=ar (ao #[GL (bD fi tt (trL ns s fi.io).2),O aa 0])/\kF NB B Q w w' P f (trT (trL ns s fi.io).1 (trL ns s fi.io).2 z tt):=by
 have HH:=ag h;have HZ:=ag hz;have HW:=ag zJ.wf;have Vs:=ag zJ;have HNs:=ag hns;have VF:=ag hk;have HRs:=ag hr;have UI:=ag zJ.wf.dl;have Fj:=ag (bB (Fp (yl s.g fi.io)) (Zu h.ok fi.io));have hln:=Fj.o;have N9:=congrArg List.length hns;rw[List.length_reverse,bE,bO] at N9;obtain⟨N,hN⟩:=aW ((gQ (yl s.g fi.io)).length);rw[<-hN] at hln N9;have HNl:=ag N9;have HN:=ag hN;unfold GL dZ;have g0:¬(tt:Int)<0:=ae;have g3:¬(67968:Int)<(tt:Int):=ae;have g6:=bq (64:Int) ⟨ae,ae⟩;have g7:=bq ((tt:Int)+64) ⟨ae,ae⟩;have g8:=bq ((tt:Int)+64-1) ⟨ae,ae⟩;have g9:IntKind.i64.wrap (Int.tdiv ((tt:Int)+64-1) 64)=((tt:Int)+64-1)/64:=by rw[Int.tdiv_eq_ediv_of_nonneg ae];exact bq (((tt:Int)+64-1)/64) ⟨ae,ae⟩
 have HMs:=ag (show Ino.most 64=67968 from aB);clear h hz hns hk hr zJ hN N9
 go_in
 have aZ:Below w w ((w.alloc (.cells (dZ fi) 107)).alloc (.cells bc 107)):=((aE _ w).alloc av _).alloc au _;have qm:=(aF.new w 107 (dZ fi)).alloc (.cells bc 107);have tZ:=aF.new (w.alloc (.cells (dZ fi) 107)) 107 bc;have mQ:((w.alloc (.cells (dZ fi) 107)).alloc (.cells bc 107)).heap.size=w.heap.size+2:=au;simp only[bR] at tZ;unfold dZ at aZ qm tZ mQ;have df:=ag aZ;have HZ0:=ag qm;have HZ1:=ag tZ;have qN:=ag mQ;clear aZ qm tZ mQ;go_wp2_with fail;generalize (w.alloc (.cells fi 107)).alloc (.cells bc 107)=w2 at*;have ui:=ag (HH.o.on df.o);refine(dV ui.o).cj ?_;go_wp2_with fail;refine(BB 64 w2).cj ?_;rw[HMs.o];obtain⟨y0,y1,y2,y3,y4,y5,y6,y7,y8,y9,GR⟩:=HZ0.o.c11;have CS:=ag (show∀k,w.heap.size<=k->¬Q k from λk hk=>HH.o.aV hk);go_upto_region 8 with fail;obtain⟨w3,Zv⟩:=aW (w2.alloc (.cells (nfA P fi) 204));have bJ:Below w2 w2 w3:=by rw[Zv];exact(aE _ w2).alloc av _
 have hn3:vg w3 w2 P fi:=by rw[Zv];exact vg.made w2 UI.o P
 have EN:w3.heap.size=w2.heap.size+1:=by rw[Zv];simp
 have HW3:=ag Zv;obtain⟨F,hF⟩:=aW w2.heap.size;rw[<-hF] at hn3 EN;have HF:=ag (show F=w.heap.size+2 from hF.trans qN.o);have pU:=ag (ui.o.on bJ);have rG:=ag hn3;have cO:=ag (df.o.aA bJ);have RH:=ag (HZ0.o.ah bJ);have CY:=ag (HZ1.o.ah bJ);rw[<-hF,show w2.alloc (.cells #[P,O aa fi.k,O aa fi.l,O aa fi.s,O aa (nd fi 0),O aa (nd fi 1),O aa (nd fi 2),O aa (nd fi 3),O aa (nd fi 4),O aa (nd fi 5),O aa fi.io.s,O aa fi.io.b] 204)=w3 from HW3.o.symm];clear y0 y1 y2 y3 y4 y5 y6 y7 y8 y9 GR bJ hn3 Zv hF ui;have IG:=ag (yC (fi:=fi) pU.o HW.o);unfold GL dZ at IG;obtain⟨y0,y1,y2,y3,y4,y5,y6,y7,y8,y9,GR⟩:=RH.o.c11;go_wp2_with fail;refine(dV pU.o).cj ?_;go_wp2_with fail;go_call IG.o as e w4 ⟨⟨v,rfl,ho⟩,PS,oQ⟩;obtain⟨a4,c4,rfl,_⟩:=ho.bG HN.o.symm;have x9:=ag ho;have NJ:=ag PS;have kX:=ag oQ;clear ho PS oQ y0 y1 y2 y3 y4 y5 y6 y7 y8 y9 GR;go_wp2_with fail;go_call(Oq (an a4 N c4) _ w3 w4 x9.o (by rw[<-HN.o];omega)) as e w1 ⟨rfl,ho,hb⟩;rw[HNs.o] at ho;have fO:Kq Q w3 w1:=⟨hb.os.trans kX.o.os,hb.tape.trans kX.o.tape,hb.output.trans kX.o.output,bB kX.o.size hb.size,λk hk hn=>(hb.block k ae).trans (kX.o.block k hk hn)⟩
 have yc:bZ NB B Q w1 P f s:=NJ.o.kq (T:=λk=>w3.heap.size<=k) (RI hb) λq hq h3=>by have:=(pU.o.bnd q hq).2;omega
 have Rq:=ag ho;have iH:=ag fO;have Dh:=ag (show¬Q F from CS.o F (by have:=HF.o;omega));have zK:=ag (show F<w1.heap.size by have:=fO.size;omega);have aAU:=ag (RH.o.kq fO (CS.o _ av));have EJ:=ag (CY.o.kq fO (CS.o _ ae));have HI:=ag (show II NB B Q w1 F P f s fi fi.io w1 from⟨yc.more (λq h=> .inl h) λq h=>by
  rcases h with h|h
  ·exact yc.bnd q h
  ·omega,rG.o.kq fO Dh.o,Kq.refl _ _,λq h=>(yc.bnd q h).2,yc.base⟩)
 have VG:=ag (show∀W,Kq (λq=>Q q\/q=F) w1 W->Own kC 3 W w3 (an a4 N c4) (ns.map (λn:Nat=>(n:Int))++rs) from λW hW=>Rq.o.kq hW λq hq h=>by
  have h1:=Rq.o.aN q hq;rcases h with h|h
  ·have:=(pU.o.bnd q h).2;omega
  ·have:=HF.o;omega)
 obtain⟨R,hR⟩:=aW (trL ns s fi.io);have HR:=ag hR;clear ho hb fO yc hR x9 NJ kX IG;have hkp:((tt:Int)+64-1)/64=(((tt+63)/64:Nat):Int):=ae
 go_upto_block 1 with fail;have HWf:∀(l:List Nat) (s':Ps) (jv:zO.Io),VE l s' jv->Wf (trL l s' jv).1 (trL l s' jv).2:=λl=>by
  induction l with
  |nil=>exact λ_ _ h=>h
  |cons n l ih=>exact λs' jv h=>ih _ _ h.2
 have HWR:=ag (show Wf R.1 R.2 from by rw[HR.o];exact HWf _ _ _ Vs.o);clear HWf
 go_cut [] (λwx=>Hid (II NB B Q w1 F P f R.1 fi R.2 wx))
 case first=>
  go_wp2_with fail
  go_loopw [13,51] (λ_ v51 wr=>∃(i:Nat) (l:List Nat) (s':Ps) (jv:zO.Io),v51=O aa i/\i<=ns.length/\Hid (ns.drop i=l)/\Hid (VE l s' jv/\trL l s' jv=R)/\Hid (II NB B Q w1 F P f s' fi jv wr)) (λ_ v51 _=>N-(intOf v51).toNat)
  case atStart=>exact⟨0,ns,s,fi.io,rfl,bN _,ag rfl,ag ⟨Vs.o,HR.o.symm⟩,HI⟩
  case round=>
   obtain⟨i,l,s',jv,rfl,hi,HL,HT,UL⟩:=hrel;have HOw:=ag (VG.o wr UL.o.k);have z0:(0:Int)<=(i:Int):=ae;by_cases h0:i<ns.length
   ·have z1:(i:Int)<(N:Int):=by have:=HNl.o;omega
    obtain⟨n,hn⟩:=aW (ns[i]);have hd:ns.drop i=n::ns.drop (i+1):=by rw[List.drop_eq_getElem_cons h0,hn]
    have hl:l=n::ns.drop (i+1):=HL.o.symm.trans hd;subst hl;have HKn:=ag (show(tt+63)/64<=n from VF.o n (by rw[hn];exact cS _));have RJ:=ag (show ank s' jv n from HT.o.1.1);have EZ:=ag (show VE (ns.drop (i+1)) (tr1 s' jv n).1 (tr1 s' jv n).2/\trL (ns.drop (i+1)) (tr1 s' jv n).1 (tr1 s' jv n).2=R from⟨HT.o.1.2,HT.o.2⟩);obtain⟨g,rfl,_,_⟩:=Rq.o.addr (by rw[bE,bO];omega);obtain⟨hy,_⟩:=HOw.o.dU (k:=i) (by rw[bE,bO];omega);rw[List.getElem_append_left (by rw[bO];exact h0),List.getElem_map,<-hn] at hy;have hy:wr.cell? (g,i)=some (O aa n):=hy;have z2:¬(n:Int)<((tt:Int)+63)/64:=by have:=HKn.o;omega
    have q9:=bq ((i:Int)+1) ⟨ae,ae⟩;obtain⟨At,RN⟩:=aW (Dq s'.g jv n);have HAc:=ag (show Calls prog 135 #[F,O aa n] wr (vO NB B (Up Q w1 wr) P f s' (O aa At) wr) from by rw[RN];exact uj UL.o.p UL.o.n (UL.o.far Dh.o zK.o) RJ.o.wf RJ.o.hn);have UM:=ag RN;have HUs:=ag (show At∈s'.us from RN▸RJ.o.us);have HSo:=ag (show VH (s'.del At) jv n 0 from RN▸RJ.o.set);have HI1:=ag hi;clear hn hd RN hi;go_wp2_with fail;go_call HAc.o as e W2 ⟨rfl,jU,eU⟩;have JC:=ag (UL.o.asked Dh.o zK.o jU eU);clear jU eU;go_wp2_with fail;go_call(Ot JC.o.p HUs.o) as e W3 ⟨rfl,wL⟩;have rG:=ag (JC.o.call Dh.o zK.o wL);clear wL;go_wp2_with fail;go_call(Dt rG.o.p rG.o.n (rG.o.far Dh.o zK.o) HSo.o) as e W4 UN;have HN4:=ag (rG.o.set UN);obtain⟨⟨_,rfl⟩,_⟩:=UN;go_wp2_with fail;go_roundw
    case rel=>refine⟨i+1,ns.drop (i+1),(tr1 s' jv n).1,(tr1 s' jv n).2,by go_num,h0,ag rfl,EZ,hid ?_⟩;have:=HN4.o;unfold tr1;rw[<-UM.o];exact this
    case measure=>have:=HNl.o;simp[intOf];omega
   ·obtain rfl:i=ns.length:=ae;have hl:l=[]:=HL.o.symm.trans (List.drop_length ..);subst hl;have HE:=ag (show R=(s',jv) from HT.o.2.symm);have EO:=ag (show II NB B Q w1 F P f R.1 fi R.2 wr from by rw[HE.o];exact UL.o);rcases hrs:rs with _|⟨x,rs'⟩
    ·have z1:¬((ns.length:Nat):Int)<(N:Int):=by have:=HNl.o;rw[hrs,cV] at this;omega
     clear h0 hi hrs;go_wp2_with fail;go_meet
     case rel=>exact EO
    ·have z1:((ns.length:Nat):Int)<(N:Int):=by have:=HNl.o;rw[hrs,cD] at this;omega
     have z2:x<((tt:Int)+63)/64:=by have:=HRs.o x (by rw[hrs];rfl);omega
     obtain⟨g,rfl,_,_⟩:=Rq.o.addr (by rw[bE,hrs,cD];omega);obtain⟨hy0,_⟩:=HOw.o.dU (k:=ns.length) (by rw[bE,bO,hrs,cD];omega);rw[List.getElem_append_right (by rw[bO];omega)] at hy0;simp only[bO,Nat.sub_self] at hy0;have hy:wr.cell? (g,ns.length)=some (O aa x):=by rw[hy0];subst hrs;rfl
     clear hy0 h0 hi hrs;go_wp2_with fail;go_meet
     case rel=>exact EO
 case rest=>
  have HNc:=hcut;generalize wc=W5 at*;have q1:=bq ((tt:Int)/64) ⟨ae,ae⟩;have q2:IntKind.i64.wrap (Int.tdiv (tt:Int) 64)=(tt:Int)/64:=by rw[Int.tdiv_eq_ediv_of_nonneg ae];exact q1
  have q3:Int.tmod (tt:Int) 64=(tt:Int)%64:=Int.tmod_eq_emod_of_nonneg ae;have q4:=bq ((tt:Int)%64) ⟨ae,ae⟩;obtain⟨At,RN⟩:=aW (Dq R.1.g R.2 (tt/64));have HAc:=ag (show Calls prog 135 #[F,O aa ((tt:Int)/64)] W5 (vO NB B (Up Q w1 W5) P f R.1 (O aa At) W5) from by rw[RN,show(tt:Int)/64=((tt/64:Nat):Int) from ae];exact uj HNc.o.p HNc.o.n (HNc.o.far Dh.o zK.o) HWR.o ae);have UM:=ag RN;clear RN;go_wp2_with fail;go_call HAc.o as e W6 ⟨rfl,hp6,tH⟩;have Jz:=ag (HNc.o.asked Dh.o zK.o hp6 tH);have HZ6:=ag (aAU.o.kq Jz.o.k λh=>h.elim (CS.o _ av) (λe=>by have:=HF.o;omega));have y2:=HZ6.o.aj (i:=2) (v:=O aa fi.s) rfl;rw[HZ.o] at y2;clear hp6 tH HAc HNc;obtain⟨b,hb⟩:∃b:Bool,b=decide (At≠0/\tt%64≠0/\tt<z):=⟨_,rfl⟩
  have HBb:=ag hb;clear hb;go_upto_region 20 with fail
  go_cut [85] from 72 to 86 (λv wx=>v=aq b/\wx=W6)
  case first=>
   by_cases c1:At=0
   ·have gz:((At:Int) !=0)=false:=by rw[bne_eq_false_iff_eq];omega
    have hbf:b=false:=HBb.o.trans (ey ae);subst hbf;go_wp2_with fail;go_meet
    case rel=>exact⟨rfl,rfl⟩
   ·have gz:((At:Int) !=0)=true:=by rw[bne_iff_ne];omega
    by_cases c2:tt%64=0
    ·have gy:((tt:Int)%64 !=0)=false:=by rw[bne_eq_false_iff_eq];omega
     have hbf:b=false:=HBb.o.trans (ey ae);subst hbf;go_wp2_with fail;go_meet
     case rel=>exact⟨rfl,rfl⟩
    ·have gy:((tt:Int)%64 !=0)=true:=by rw[bne_iff_ne];omega
     by_cases c3:tt<z
     ·have gx:(tt:Int)<(z:Int):=ae;have hbf:b=true:=HBb.o.trans (ez ae);subst hbf;go_wp2_with fail;go_meet
      case rel=>exact⟨rfl,rfl⟩
     ·have gx:¬(tt:Int)<(z:Int):=ae;have hbf:b=false:=HBb.o.trans (ey ae);subst hbf;go_wp2_with fail;go_meet
      case rel=>exact⟨rfl,rfl⟩
  case rest=>
   obtain⟨rfl,rfl⟩:=hcut;go_upto_if 85 with fail
   go_cut [] from 86 to 105 (λwx=>Hid (II NB B Q w1 F P f (trT R.1 R.2 z tt) fi R.2 wx))
   case first=>
    by_cases hc:At≠0/\tt%64≠0/\tt<z
    ·have hbt:b=true:=HBb.o.trans (ez hc);subst hbt;have YP:=ag (show trT R.1 R.2 z tt=R.1.put At (trX (R.1.g At) tt) from by unfold trT;rw[<-UM.o,ev hc]);have EP:=ag (show R.1.There At from by have h:=HWR.o.at_ (n:=tt/64) ae;rw[<-UM.o] at h;exact h.there hc.1);have Fq:=ag (Jz.o.p.ok.sz At EP.o);have q5:(0:Int)<=(tt:Int)%64:=ae;have q6:(tt:Int)%64<=64:=ae;obtain⟨M6,hM6⟩:=aW (tt%64);have hm6:M6<64:=ae;have vP:=ag hM6;rw[show(tt:Int)%64=(M6:Int) from ae] at*;clear hc hM6;go_wp2_with fail;go_call(mV Jz.o.p EP.o) as e W7 ⟨⟨v,rfl,ho⟩,hp7,oP⟩;obtain⟨a7,c7,rfl,_⟩:=ho.bG Fq.o;obtain⟨g,rfl,jf,_⟩:=ho.addr (by rw[Fq.o];omega);have auz:=kE (g,0) 64 c7 M6 ae;have uB:=ag ho;have HP7:=ag hp7;have yh:=ag oP;clear ho hp7 oP jf
     go_wp2_with (refine Ou rfl _ rfl wc g 64 c7 M6 (R.1.g At) _ (64-M6) (c7-M6) rfl rfl uB.o ae ae ?_;intro W8 VI UG)
     have HN8:=ag (Jz.o.got Dh.o zK.o HP7.o yh.o UG.o);have hx8:=VI.o;rw[show M6+(64-M6)=64 by omega,List.drop_eq_nil_of_le (by rw[Fq.o];omega),cC] at hx8;replace hx8:Own aJ 5 W8 wc (an (g,0) 64 c7) (trX (R.1.g At) tt):=by unfold trX;rw[<-vP.o];exact hx8
     go_call(wY HN8.o.p EP.o (g,0) c7 (trX (R.1.g At) tt) (hx8.arr (by rw[akr Fq.o];decide))) as e W9 ⟨rfl,RD⟩;have HN9:=ag (HN8.o.call Dh.o zK.o RD);clear RD hx8 auz;go_wp2_with fail;go_meet
     case rel=>rw[YP.o];exact HN9
    ·have hbf:b=false:=HBb.o.trans (ey hc);subst hbf;have YP:=ag (show trT R.1 R.2 z tt=R.1 from by unfold trT;rw[<-UM.o,eo hc]);clear hc;go_wp2_with fail;go_meet
     case rel=>rw[YP.o];exact Jz
   case rest=>
    have JD:=hcut;generalize wc=wr at*;have Dc:=JD.o.n.cells;have e1:wr.cell? (F,1)=some (O aa fi.k):=Dc.aj (i:=1) rfl;have e2:wr.cell? (F,2)=some (O aa fi.l):=Dc.aj (i:=2) rfl;have e3:wr.cell? (F,3)=some (O aa fi.s):=Dc.aj (i:=3) rfl;have e4:wr.cell? (F,4)=some (O aa (nd (bD fi (tt:Int) R.2) 0)):=Dc.aj (i:=4) rfl;have e5:wr.cell? (F,5)=some (O aa (nd (bD fi (tt:Int) R.2) 1)):=Dc.aj (i:=5) rfl;have e6:wr.cell? (F,6)=some (O aa (nd (bD fi (tt:Int) R.2) 2)):=Dc.aj (i:=6) rfl;have e7:wr.cell? (F,7)=some (O aa (nd (bD fi (tt:Int) R.2) 3)):=Dc.aj (i:=7) rfl;have e8:wr.cell? (F,8)=some (O aa (nd (bD fi (tt:Int) R.2) 4)):=Dc.aj (i:=8) rfl;have e9:wr.cell? (F,9)=some (O aa (nd (bD fi (tt:Int) R.2) 5)):=Dc.aj (i:=9) rfl;have e10:wr.cell? (F,10)=some (O aa R.2.s):=Dc.aj (i:=10) rfl;have e11:wr.cell? (F,11)=some (O aa R.2.b):=Dc.aj (i:=11) rfl;have f3:=Dc.frozen 3;have hst:Kq (λq=>q=F) wr (wr.setCell (F,3) (O aa tt)):=Kq.one (F,3) _;have hF2:F≠w.heap.size+1:=by have:=HF.o;omega
    have hr1:aF wr (w.heap.size+1) 107 bc:=EJ.o.kq JD.o.k λh=>h.elim (CS.o _ ae) (λe=>hF2 e.symm);have HR9:=ag (hr1.kq hst λe=>hF2 e.symm);have jI:=ag hst;have HP9:=ag (JD.o.p.kq hst λq hq e=>JD.o.far Dh.o zK.o (e▸hq));have GU:=ag (((((Kq.of (T:=λq=>Q q\/q=F) cO.o).trans (iH.o.mono λq h=> .inl h))).trans JD.o.k).trans (hst.mono λq h=> .inr h));have UO:=ag (show w3.heap.size<=w1.heap.size from iH.o.size);clear Dc hst hr1 q1 q2 q3 q4 hkp
    go_wp2_with (refine aH rfl rfl _ _ _ rfl (w.heap.size+1) #[O aa fi.k,O aa fi.l,O aa tt,O aa (nd (bD fi (tt:Int) R.2) 0),O aa (nd (bD fi (tt:Int) R.2) 1),O aa (nd (bD fi (tt:Int) R.2) 2),O aa (nd (bD fi (tt:Int) R.2) 3),O aa (nd (bD fi (tt:Int) R.2) 4),O aa (nd (bD fi (tt:Int) R.2) 5),O aa R.2.s,O aa R.2.b] rfl rfl 107 bc HR9.o rfl RP (kL (bD fi (tt:Int) R.2)) ?_)
    rw[<-HR.o];obtain⟨W9,hW9⟩:∃W,W=(wr.setCell (F,3) (O aa tt)).setRow (w.heap.size+1) #[O aa fi.k,O aa fi.l,O aa tt,O aa (nd (bD fi (tt:Int) R.2) 0),O aa (nd (bD fi (tt:Int) R.2) 1),O aa (nd (bD fi (tt:Int) R.2) 2),O aa (nd (bD fi (tt:Int) R.2) 3),O aa (nd (bD fi (tt:Int) R.2) 4),O aa (nd (bD fi (tt:Int) R.2) 5),O aa R.2.s,O aa R.2.b]:=⟨_,rfl⟩
    rw[<-hW9];have afO:aF W9 (w.heap.size+1) 107 #[O aa fi.k,O aa fi.l,O aa tt,O aa (nd (bD fi (tt:Int) R.2) 0),O aa (nd (bD fi (tt:Int) R.2) 1),O aa (nd (bD fi (tt:Int) R.2) 2),O aa (nd (bD fi (tt:Int) R.2) 3),O aa (nd (bD fi (tt:Int) R.2) 4),O aa (nd (bD fi (tt:Int) R.2) 5),O aa R.2.s,O aa R.2.b]:=by rw[hW9];exact HR9.o.row _
    have AU:=gJ (wr.setCell (F,3) (O aa tt)) (w.heap.size+1) #[O aa fi.k,O aa fi.l,O aa tt,O aa (nd (bD fi (tt:Int) R.2) 0),O aa (nd (bD fi (tt:Int) R.2) 1),O aa (nd (bD fi (tt:Int) R.2) 2),O aa (nd (bD fi (tt:Int) R.2) 3),O aa (nd (bD fi (tt:Int) R.2) 4),O aa (nd (bD fi (tt:Int) R.2) 5),O aa R.2.s,O aa R.2.b];rw[<-hW9] at AU;obtain⟨z0,z1,z2,z3,z4,z5,z6,z7,z8,z9,z10⟩:=afO.c11;refine bodyPost_ret (v:=ao #[GL (bD fi (tt:Int) R.2),O aa 0]) (by simp[results,Tryz.results108,go_sem,GL,dZ,bD,z0,z1,z2,z3,z4,z5,z6,z7,z8,z9,z10]) rfl ⟨rfl,?_⟩;have mQ:=qN.o;refine HH.o.fin (HP9.o.kq AU λq hq e=>?_) (λq hq=>?_) (GU.o.aA AU λq e=> .inr ae) λq hq=>?_
    ·have:=JD.o.q;rcases hq with h1|h1
     ·have:=(HH.o.bnd q h1).2;omega
     ·have:=UO.o;have:=HF.o;omega
    ·rcases hq with h1|h1
     ·exact .inl h1
     ·have:=UO.o;have:=HF.o;exact .inr ae
    ·rcases hq with h1|h1
     ·exact .inl h1
     ·exact .inr (by have:=HF.o;omega)
end
section
open RowKit Maps ChangeMaps dY fG vG Ad
section
variable {B X T Z m rp j:Nat} {Q:Nat->Prop} {w w':World} {f:Fm} {s s1:Ps} {P R:Nat->Nat} {Y:Nat->List UInt8} {ns:List Nat}
theorem GV (h:fK B Q w X T Z f s) (g:Fz s m rp P R Y) (hj:j<m) (c:apA s (P j) (R j) ns s1):
  Calls prog 77 #[X,O aa (j+2),O aa 0] w λe w'=>e=ar (O aa 0)/\CQ B Q w w' X T Z f (gI s1 (j+2) (bH (fN 1 0 0 0))):=by
 obtain⟨a1,a2⟩:=g.KI hj;have GK:=g.m3;have hsm:=c.sm;obtain⟨fi,jg⟩:=aW (fN 1 (Y j).length (P j) (R j));obtain⟨fj,hfj⟩:=aW (fN 1 0 0 0);rw[<-jg] at a1;have HI:=ag (show∀W:World,bZ 16 B Q W Z f s->qK W T Z->Calls prog 79 #[T,O aa ((j:Int)+2)] W λe w'=>e=ar (ao #[.agg (dZ fi),O aa 0])/\bZ 16 B Q w' Z f s/\Kq Q W w' from λW hW hT=>by have h:=eY (n:=j+2) hW hT ae (by rw[g.tb.ino];omega) (by rw[g.tb.ino];omega) (by rw[g.tb.tb];omega);rw[a1,a2] at h;exact h);have YP:=ag (show∀W:World,bZ 16 B Q W Z f s->Calls prog 108 #[Z,.agg fi,O aa 0] W λe w'=>e=ar (ao #[.agg fj,O aa 0])/\kF 16 B Q W w' Z f s1 from λW hW=>by
  have h:=KL (fi:=fi) (z:=(Y j).length) (tt:=0) (ns:=ns) (rs:=[]) hW (by rw[jg];rfl) ae (by rw[jg,cC];exact c.rev) (λn _=>bN n) (λx hx=>by cases hx) (by rw[jg];exact c.ok);have e:aO.trL ns s fi.io=(s1,qx 0 0):=by rw[jg];exact c.hs
  rw[e] at h;have e2:aO.trT s1 (qx 0 0) (Y j).length 0=s1:=eo λh=>h.2.1 rfl;rw[e2] at h;have e3:GL (bD fi ((0:Nat):Int) (qx 0 0))= .agg (dZ fj):=by rw[jg,hfj];rfl
  rw[e3] at h;exact h)
 have Rz:=ag (λ(W:World) (U:Nat->Prop) (hW:fK B U W X T Z f s1)=>show Calls prog 81 #[T,O aa ((j:Int)+2),.agg fj] W λe w'=>e=ar (O aa 0)/\kF 16 B U W w' Z f (gI s1 (j+2) (bH (fN 1 0 0 0))) from by have h:=kG (n:=j+2) hW.hP hW.hT hW.nT ae (by rw[hsm.2.2.1,g.tb.ino];omega) (by rw[hsm.2.2.1,g.tb.ino];omega) (by rw[hsm.1,g.tb.tb];omega) (bH (fN 1 0 0 0)) (Fh (l:=1) (z:=0) (p:=0) (q:=0) ae ae ae ae);rw[hfj];exact h);have HH:=ag h;have c1:=h.c1;obtain⟨y,hy⟩:∃y:Int,y=(j:Int)+2:=⟨_,rfl⟩
 rw[<-hy] at HI Rz⊢;generalize gI s1 (j+2) (bH (fN 1 0 0 0))=s2 at*;clear h g hj c a1 a2 GK hsm jg hfj hy
 go_in
 go_wp2_with fail;go_call(HI.o w HH.o.hP HH.o.hT) as e w2 ⟨rfl,jU,eU⟩;have Jt:=ag (HH.o.ask jU eU);have ja:=ag eU;clear jU eU;have qi:=ag (aF.new w2 107 bc);obtain⟨w3,jO⟩:=aW ((w2.alloc (.cells bc 107)).setRow w2 (dZ fi));have mD:Below w2 w2 w3:=by rw[jO];exact((aE _ w2).alloc av _).bU av _
 have tX:aF w3 w2 107 (dZ fi):=by rw[jO];exact qi.o.row _
 have qj:=ag jO;have nC:=ag (Jt.o.on mD);have yt:=ag tX;have Ar:=ag mD;clear jO mD tX;unfold dZ at qj
 go_upto_region 4 with(refine aH rfl rfl _ _ _ rfl w2 fi rfl rfl 107 bc qi.o rfl dC (kL fi) ?_;rw[<-qj.o])
 obtain⟨Ib,hIb⟩:=aW w2.heap.size;have ann:=ag hIb;rw[<-hIb] at yt⊢;clear hIb qj qi;have je:=ag (show Below w3 w3 w3.drew from ak w3);have HIq:=ag (show¬Q Ib from Jt.o.hP.aV (by rw[ann.o];exact bp _));have iO:=ag (λW (h1:aF W Ib 107 (dZ fi)) (h2:W.cell? (X,1)=some (.pointer (T,0)))=>cJ h1 h2);have pO:=ag (nC.o.on je.o);have tK:=ag (yt.o.ah je.o);have xX:=ag (show Kq Q w w3.drew from(ja.o.on Ar.o).on je.o);clear nC yt ja Jt ann Ar;refine iE (λW'=>aF W' Ib 107 (dZ fi)/\W'.cell? (X,1)=some (.pointer (T,0))) (iO.o _ tK.o pO.o.c1) (λaY=>?_);generalize w3.drew=W0 at*;refine dw 0 X 0 ?_;refine aS 1 X 0 ?_;refine aS 2 X 1 ?_;refine kS 3 T (λ_ aK=>aK.2) ?_;refine jE 5 (.agg fi) rfl (λ_ aK=>by obtain⟨y0,y1,y2,y3,y4,y5,y6,y7,y8,y9,GR⟩:=ji aK.1;go_simp) ?_;refine dI 6 0 ?_;refine wpAnyH_ready (rs:=[4,11]) az au ?_;refine bX rfl (λK' hK=>?ga) (bX rfl (λK' hK=>?gb) cN)
 case' gb=>
  obtain⟨Jb,xY⟩:=aW W0.heap.size;obtain⟨W3,rF⟩:=aW (W0.alloc (.cells bc 107));have bJ:Below W0 W0 W3:=by rw[rF];exact(aE _ W0).alloc av _
  have rG:=ag (show aF W3 Jb 107 bc from by rw[rF,xY];exact aF.new _ _ _);have nC:=ag (pO.o.on bJ);have qY:=ag (tK.o.ah bJ);have cO:=ag bJ;have uZ:=ag (show Jb=W0.heap.size from xY);clear bJ;go_simp;rw[<-rF,<-xY];refine hK.out _ _ (iO.o _ qY.o nC.o.c1) (λiZ=>?_)
  clear rF xY;refine bY 4 (λK' hK=>?_);go_simp;refine(iF nC.o.hT).cj ?_;refine hK.out _ _ (iO.o _ qY.o nC.o.c1) (λdh=>?_)
  refine bY 7 (λK' hK=>?_);go_simp;go_call(YP.o W3 nC.o.hP) as e W5 ⟨rfl,vM⟩;have wX:=nC.o.ofR vM rfl;clear vM;have ou:=ag wX;have oZ:=ag (qY.o.kq wX.2 HIq.o);clear wX;refine hK.out _ _ (iO.o _ oZ.o ou.o.1.c1) (λnZ=>?_)
  refine dG 8 (ao #[.agg fj,O aa 0]) ?_;refine dG 9 (.agg fj) ?_;refine dI 10 0 ?_;have zM:=ag (rG.o.kq ou.o.2 (by rw[uZ.o];exact pO.o.hP.aV av));obtain⟨W7,qF⟩:=aW (W5.setRow Jb (dZ fj));have oP:Kq (λq=>q=Jb) W5 W7:=by rw[qF];exact gJ _ _ _
  have vN:=ag (oZ.o.kq oP (by have h1:=tK.o.lt;rw[uZ.o];omega));have Ol:=ag (Stp.before HH.o xX.o pO.o cO.o ou.o uZ.o oP (show aF W7 Jb 107 (dZ fj) from by rw[qF];exact zM.o.row _) rG.o.lt);have xZ:=ag (show∃U,fK B U W7 X T Z f s1 from by obtain⟨U,h⟩:=Ol.o;exact⟨U,h.m⟩);clear oP;refine bY 12 (λK' hK=>?_);refine gV rfl _ _ _ rfl Jb (dZ fj) rfl rfl 107 _ zM.o dC rfl (kL fj) ?_;rw[<-qF];obtain⟨U7,xZ⟩:=xZ.o;refine hK.out _ _ (iO.o _ vN.o xZ.c1) (λqM=>?_)
  refine dI 13 0 ?_;refine eH ?_;clear qF aY iZ nZ qM ou oZ rG zM nC qY cO uZ vN xZ U7;clear dh
 case' ga=>
  go_simp;refine(iF pO.o.hT).cj ?_;refine hK.out _ _ (iO.o _ tK.o pO.o.c1) (λdh=>?_)
  refine wpAnyH_ready (rs:=[7,11]) az au ?_;refine bX rfl (λK' hK=>?gc) (bX rfl (λK' hK=>?gd) cN)
  case' gd=>
   obtain⟨Jb,xY⟩:=aW W0.heap.size;obtain⟨W3,rF⟩:=aW (W0.alloc (.cells bc 107));have bJ:Below W0 W0 W3:=by rw[rF];exact(aE _ W0).alloc av _
   have rG:=ag (show aF W3 Jb 107 bc from by rw[rF,xY];exact aF.new _ _ _);have nC:=ag (pO.o.on bJ);have qY:=ag (tK.o.ah bJ);have cO:=ag bJ;have uZ:=ag (show Jb=W0.heap.size from xY);clear bJ;go_simp;rw[<-rF,<-xY];refine hK.out _ _ (iO.o _ qY.o nC.o.c1) (λiZ=>?_)
   clear rF xY;refine bY 7 (λK' hK=>?_);go_simp;go_call(YP.o W3 nC.o.hP) as e W5 ⟨rfl,vM⟩;have wX:=nC.o.ofR vM rfl;clear vM;have ou:=ag wX;have oZ:=ag (qY.o.kq wX.2 HIq.o);clear wX;refine hK.out _ _ (iO.o _ oZ.o ou.o.1.c1) (λnZ=>?_)
   refine dG 8 (ao #[.agg fj,O aa 0]) ?_;refine dG 9 (.agg fj) ?_;refine dI 10 0 ?_;have zM:=ag (rG.o.kq ou.o.2 (by rw[uZ.o];exact pO.o.hP.aV av));obtain⟨W7,qF⟩:=aW (W5.setRow Jb (dZ fj));have oP:Kq (λq=>q=Jb) W5 W7:=by rw[qF];exact gJ _ _ _
   have vN:=ag (oZ.o.kq oP (by have h1:=tK.o.lt;rw[uZ.o];omega));have Ol:=ag (Stp.before HH.o xX.o pO.o cO.o ou.o uZ.o oP (show aF W7 Jb 107 (dZ fj) from by rw[qF];exact zM.o.row _) rG.o.lt);have xZ:=ag (show∃U,fK B U W7 X T Z f s1 from by obtain⟨U,h⟩:=Ol.o;exact⟨U,h.m⟩);clear oP;refine bY 12 (λK' hK=>?_);refine gV rfl _ _ _ rfl Jb (dZ fj) rfl rfl 107 _ zM.o dC rfl (kL fj) ?_;rw[<-qF];obtain⟨U7,xZ⟩:=xZ.o;refine hK.out _ _ (iO.o _ vN.o xZ.c1) (λqM=>?_)
   refine dI 13 0 ?_;refine eH ?_;clear qF aY iZ nZ qM ou oZ rG zM nC qY cO uZ vN xZ U7;clear dh
  case' gc=>
   go_simp;go_call(YP.o W0 pO.o.hP) as e W5 ⟨rfl,vM⟩;have wX:=pO.o.ofR vM rfl;clear vM;have ou:=ag wX;have oZ:=ag (tK.o.kq wX.2 HIq.o);clear wX;refine hK.out _ _ (iO.o _ oZ.o ou.o.1.c1) (λnZ=>?_)
   refine dG 8 (ao #[.agg fj,O aa 0]) ?_;refine dG 9 (.agg fj) ?_;refine dI 10 0 ?_;obtain⟨Jb,xY⟩:=aW W5.heap.size;obtain⟨W6,GN⟩:=aW (W5.alloc (.cells bc 107));obtain⟨W7,qF⟩:=aW (W6.setRow Jb (dZ fj));have fJ:Below W5 W5 W6:=by rw[GN];exact(aE _ W5).alloc av _
   have Jz:=ag (show aF W6 Jb 107 bc from by rw[GN,xY];exact aF.new _ _ _);have HH6:=ag (ou.o.1.on fJ);have Bz:=ag (oZ.o.ah fJ);have jr:Below W5 W5 W7:=by rw[qF,GN,xY];exact((aE _ W5).alloc av _).bU av _
   have Ol:=ag (Stp.after (CQ.behind xX.o ou.o HH.o) xY.symm jr (by rw[qF];exact Jz.o.row _));have vN:=ag (oZ.o.ah jr);have xZ:=ag (ou.o.1.on jr);clear fJ jr;refine bY 11 (λK' hK=>?_);go_simp;rw[<-GN,<-xY];refine hK.out _ _ (iO.o _ Bz.o HH6.o.c1) (λqy=>?_)
   refine bY 12 (λK' hK=>?_);refine gV rfl _ _ _ rfl Jb (dZ fj) rfl rfl 107 _ Jz.o dC rfl (kL fj) ?_;rw[<-qF];refine hK.out _ _ (iO.o _ vN.o xZ.o.c1) (λqM=>?_)
   refine dI 13 0 ?_;refine eH ?_;clear GN qF xY aY nZ qy qM ou oZ Jz HH6 Bz vN xZ;clear dh
 all_goals
  clear iO tK HIq YP HI pO xX;obtain⟨U,hst⟩:=Ol.o;have HST:=ag hst;clear hst;have c1:=HST.o.m.c1;go_upto_region 7 with fail;have HSg:=ag (λW (h1:aF W Jb 107 (dZ fj)) (h2:W.cell? (X,1)=some (.pointer (T,0)))=>cJ h1 h2);have qG:=ag (HST.o.on (ak W7));refine iE (λW'=>aF W' Jb 107 (dZ fj)/\W'.cell? (X,1)=some (.pointer (T,0))) (HSg.o _ qG.o.j qG.o.m.c1) (λaY=>?_);generalize W7.drew=W8 at*;refine dw 0 X 0 ?_;refine aS 1 X 0 ?_;refine aS 2 X 1 ?_;refine kS 3 T (λ_ aK=>aK.2) ?_;refine dI 4 y ?_;refine jE 5 (.agg fj) rfl (λ_ aK=>by obtain⟨y0,y1,y2,y3,y4,y5,y6,y7,y8,y9,GR⟩:=ji aK.1;go_simp) ?_;refine bY 6 (λK' hK=>?_);go_simp;go_call(Rz.o W8 _ qG.o.m) as e W9 ⟨rfl,RD⟩;have HJ9:=ag (qG.o.j.kq RD.2 qG.o.nj);have HR9:=ag (qG.o.m.ofR RD rfl);clear RD;refine hK.out _ _ (HSg.o _ HJ9.o HR9.o.1.c1) (λIA=>?_)
  refine dI 7 0 ?_;refine eH ?_;clear aY IA;go_wp2;go_ret;exact⟨rfl,qG.o.fin HH.o HR9.o⟩
end
end
section
open RowKit
section
variable {w W:World} {b:Nat} {fl m:Int} {r:Bool}
theorem iq (hc:W.cell? (b,0)=some (O aa fl)) (hz:(bits .and .i64 fl m !=0)=r):
  Calls prog 129 #[O aa m,b] W λe w'=>e=ar (aq r)/\W=w':=by
 go_in
 go_wp2;go_ret;rw[<-hz];exact⟨rfl,rfl⟩
theorem AY w:Calls prog 74 #[O aa 22] w λe w'=>e=ar (aq true)/\Below w w w':=by
 have HB:=ag (bA w (.cells #[O aa 22] 3));have hn:=aF.new w 3 #[O aa 22];have c1:=hn.aj (i:=0) (v:=O aa 22) rfl;clear hn
 go_in
 go_upto_region 1 with fail;generalize w.alloc (.cells #[O aa 22] 3)=W at*;go_wp2_with fail;refine(iq (m:=1) (r:=false) c1 aB).cj ?_;go_wp2_with fail;refine(iq (m:=2) (r:=true) c1 aB).cj ?_;go_wp2_with fail;refine(iq (m:=4) (r:=true) c1 aB).cj ?_;go_wp2_with fail;refine(iq (m:=2) (r:=true) c1 aB).cj ?_;go_wp2;go_ret;exact⟨rfl,HB.o⟩
theorem Ov w:Calls prog 74 #[O aa 1] w λe w'=>e=ar (aq true)/\Below w w w':=by
 have HB:=ag (bA w (.cells #[O aa 1] 3));have hn:=aF.new w 3 #[O aa 1];have c1:=hn.aj (i:=0) (v:=O aa 1) rfl;clear hn
 go_in
 go_upto_region 1 with fail;generalize w.alloc (.cells #[O aa 1] 3)=W at*;go_wp2_with fail;refine(iq (m:=1) (r:=true) c1 aB).cj ?_;go_wp2_with fail;refine(iq (m:=4) (r:=false) c1 aB).cj ?_;go_wp2_with fail;refine(iq (m:=8) (r:=false) c1 aB).cj ?_;go_wp2_with fail;refine(iq (m:=2) (r:=false) c1 aB).cj ?_;go_wp2_with fail;refine(iq (m:=48) (r:=false) c1 aB).cj ?_;go_wp2;go_ret;exact⟨rfl,HB.o⟩
end
end
section
open RowKit Maps ChangeMaps dY fG vG Ad
namespace Ad
def pJ j:=[47,bx (48+j)]
theorem afP:∀j,j<3->ed.parse (pJ j)=([JE j],0):=iW
structure afL (s:Ps) m j (Y:Nat->List UInt8) s' pI P' R' Y':Prop where
 z:Fz s' (max m (j+1)) pI P' R' Y'
 e:Y' j=[]
 k:∀i,i≠j->i<m->Y' i=Y i
 dy:∀n,s'.dy n->s.dy n\/n=1+(j+1)/2\/(j=m/\(n=1\/n=pI))
end Ad
section
variable {B X T Z m rp j:Nat} {Q:Nat->Prop} {w w':World} {f:Fm} {s s1:Ps} {fl o:Int} {P R:Nat->Nat} {Y:Nat->List UInt8} {ns L:List Nat}
theorem abJ a b c:(#[O aa a,O aa b,O aa c]:Array Value).all (·.oneCell')=true:=by simp[Value.oneCell']
theorem pV (h:fK B Q w X T Z f s) (hj:j<3):Calls prog 44 #[X,.string (aX (pJ j))] w λe w'=>e=ar (ao #[O aa 1,.string (aX (JE j)),O aa 0])/\bZ 16 B Q w' Z f s/\Kq Q w w':=
 KN (ns:=λ_=>1) h (by show 2<=_;omega) (afP j hj) au (by show 1<=100;omega) ⟨rfl,λi h=>absurd h (Nat.not_lt_zero i)⟩
theorem IC (h:fK B Q w X T Z f s) (hd:Hnd w X 0 fl o) (g:Fz s m rp P R Y) (hj:j<m) (hL:L.Nodup) (hdy:∀n,s.dy n↔n∈L) (hl:L.length<16):
  Calls prog 29 #[X,.string (aX (pJ j)),O aa 22] w λe w'=>e=ar (ao #[O aa 0,O aa 0])/\∃s' pI P' R' Y',afL s m j Y s' pI P' R' Y'/\KH B Q w w' X T Z f s' (j+2) 22 0:=by
 have Zt:j<3:=cM hj g.m3;obtain⟨ns,s1,hcu⟩:=VJ g.tb (g.VB j hj);have HCh:=ag (λW (hW:fK B Q W X T Z f s)=>kY hW hL hdy hl);have HFo:=ag (λW (hW:fK B Q W X T Z f s)=>IJ hW g hj);have HCu:=ag (λW U (hW:fK B U W X T Z f s)=>GV hW g hj hcu);have HF:=ag (show afL s m j Y (gI s1 (j+2) (bH (fN 1 0 0 0))) rp (JA P j 0) (JA R j 0) (JA Y j []) from⟨by rw[Nat.max_eq_left ae];exact g.cut hj hcu,bT _ _ _,λi hi _=>dJ hi,λn hn=>by
  rcases hn with hn|hn
  ·exact .inr (.inl ae)
  ·exact .inl (hcu.dy n hn)⟩)
 clear hcu;have HPa:=ag (λW (hW:fK B Q W X T Z f s)=>pV hW Zt);have HVa:=ag (λW (hW:fK B Q W X T Z f s) (hd:Hnd W X 0 fl o)=>rJ hW hd);have HH:=ag h;have HD:=ag hd;generalize pJ j=l at*;generalize JE j=nm at*;have hy0:(1:Int)<(j:Int)+2:=ae;generalize (j:Int)+2=y at HFo HCu hy0⊢;clear h hd g hj Zt hL hdy hl
 go_in
 go_wp2_with fail;refine(jb HH.o).cj ?_;go_wp2_with fail;go_call(AY w) as e w1 ⟨rfl,bP⟩;have nz:=ag (HH.o.on bP);have HD1:=ag (HD.o.on bP);have iH:=ag (show Kq Q w w1 from Kq.of bP);clear bP;go_wp2_with fail;go_call(HCh.o w1 nz.o) as e w2 ⟨rfl,aZ⟩;have Jt:=ag (nz.o.on aZ);have HD2:=ag (HD1.o.on aZ);have ja:=ag (iH.o.on aZ);clear aZ;go_wp2_with fail;go_call(HPa.o w2 Jt.o) as e w3 ⟨rfl,wL,mr⟩;have nC:=ag (Jt.o.ask wL mr);have HD3:=ag (HD2.o.kq mr HH.o.nX);have jZ:=ag (ja.o.trans mr);clear wL mr;go_wp2_with fail;go_call(HFo.o w3 nC.o) as e w4 ⟨rfl,PS,oQ⟩;have HH4:=ag (nC.o.ask PS oQ);have Zw:=ag (HD3.o.kq oQ HH.o.nX);have kX:=ag (jZ.o.trans oQ);clear PS oQ;go_wp2_with fail;go_call(HVa.o w4 HH4.o Zw.o) as e w5 ⟨rfl,eQ⟩;have HH5:=ag (HH4.o.on eQ);have P6:=ag (Zw.o.on eQ);have wS:=ag (kX.o.on eQ);clear eQ;go_wp2_with fail;go_call(HCu.o w5 _ HH5.o) as e w7 ⟨rfl,hr7⟩;have CU:=ag (CQ.behind wS.o hr7 HH.o);clear hr7;have VK:=ag (HD.o.kq CU.o.2 HH.o.nX);have BC:=ag ((CU.o.h VK.o).aA (CU.o.1.aks VK.o y 22 0));have EP:=ag (Du (CU.o.1.blk VK.o))
 go_wp2_with (refine wpList_store_mid rfl _ _ _ rfl X 2 #[O aa y,O aa 22,O aa 0] rfl rfl EP.o RQ (abJ _ _ _) ?_)
 go_ret2;exact⟨rfl,_,_,_,_,_,HF.o,BC.o⟩
theorem IE (h:fK B Q w X T Z f s) (hd:Hnd w X 0 fl o) (g:Fz s j rp P R Y) (Zt:j<3) (hL:L.Nodup) (hdy:∀n,s.dy n↔n∈L) (hl:L.length<16):
  Calls prog 29 #[X,.string (aX (pJ j)),O aa 22] w λe w'=>e=ar (ao #[O aa 0,O aa 0])/\∃s' pI P' R' Y',afL s j j Y s' pI P' R' Y'/\KH B Q w w' X T Z f s' (j+2) 22 0:=by
 obtain⟨s1,s2,pI,hn,hz⟩:=g.new (m:=j) Zt;obtain⟨s3,EN⟩:=aW (gI (gI s2 1 (bH (dN 1 (16*(j+1)) pI))) (j+2) (bH (fN 1 0 0 0)));obtain⟨ns,s4,hcu⟩:=VJ hz.tb (hz.VB j (Nat.lt_succ_self j));have HCh:=ag (λW (hW:fK B Q W X T Z f s)=>kY hW hL hdy hl);have HFo:=ag (λW (hW:fK B Q W X T Z f s)=>IK hW g Zt);have HMa:=ag (λW (hW:fK B Q W X T Z f s)=>Ox hW g Zt hn);have HCu:=ag (λW U (hW:fK B U W X T Z f _)=>GV hW hz (Nat.lt_succ_self j) hcu);rw[<-EN] at HMa HCu hcu hz;have HF:=ag (show afL s j j Y (gI s4 (j+2) (bH (fN 1 0 0 0))) pI (JA (JA P j 0) j 0) (JA (JA R j 0) j 0) (JA (JA Y j []) j []) from⟨by rw[Nat.max_eq_right ae];exact hz.cut (Nat.lt_succ_self j) hcu,bT _ _ _,λi hi _=>(dJ hi).trans (dJ hi),λn h1=>by
  rcases h1 with h1|h1
  ·exact .inr (.inl ae)
  ·have h2:=hcu.dy n h1;rw[EN] at h2;rcases h2 with h2|h2|h2
   ·exact .inr (.inl ae)
   ·exact .inr (.inr ⟨rfl,.inl ae⟩)
   ·rcases hn.dy n h2 with h3|h3|h3
    ·exact .inl h3
    ·exact .inr (.inl h3)
    ·exact .inr (.inr ⟨rfl,.inr h3⟩)⟩)
 clear hcu hz hn EN;have HPa:=ag (λW (hW:fK B Q W X T Z f s)=>pV hW Zt);have HVa:=ag (λW (hW:fK B Q W X T Z f s) (hd:Hnd W X 0 fl o)=>rJ hW hd);have HH:=ag h;have HD:=ag hd;generalize pJ j=l at*;generalize JE j=nm at*;have hy0:(1:Int)<(j:Int)+2:=ae;generalize (j:Int)+2=y at HMa HCu hy0⊢;clear h hd g Zt hL hdy hl
 go_in
 go_wp2_with fail;refine(jb HH.o).cj ?_;go_wp2_with fail;go_call(AY w) as e w1 ⟨rfl,bP⟩;have nz:=ag (HH.o.on bP);have HD1:=ag (HD.o.on bP);have iH:=ag (show Kq Q w w1 from Kq.of bP);clear bP;go_wp2_with fail;go_call(HCh.o w1 nz.o) as e w2 ⟨rfl,aZ⟩;have Jt:=ag (nz.o.on aZ);have HD2:=ag (HD1.o.on aZ);have ja:=ag (iH.o.on aZ);clear aZ;go_wp2_with fail;go_call(HPa.o w2 Jt.o) as e w3 ⟨rfl,wL,mr⟩;have nC:=ag (Jt.o.ask wL mr);have HD3:=ag (HD2.o.kq mr HH.o.nX);have jZ:=ag (ja.o.trans mr);clear wL mr;go_wp2_with fail;go_call(HFo.o w3 nC.o) as e w4 ⟨rfl,PS,oQ⟩;have HH4:=ag (nC.o.ask PS oQ);have Zw:=ag (HD3.o.kq oQ HH.o.nX);have kX:=ag (jZ.o.trans oQ);clear PS oQ;go_wp2_with fail;go_call(HVa.o w4 HH4.o Zw.o) as e w5 ⟨rfl,eQ⟩;have HH5:=ag (HH4.o.on eQ);have P6:=ag (Zw.o.on eQ);have wS:=ag (kX.o.on eQ);clear eQ;go_wp2_with fail;go_call(HMa.o w5 HH5.o) as e w6 ⟨rfl,IL⟩;have HR6:=ag (CQ.behind wS.o IL HH.o);clear IL;go_wp2_with fail;go_call(HCu.o w6 _ HR6.o.1) as e w7 ⟨rfl,hr7⟩;have CU:=ag (HR6.o.aA hr7 HH.o.ltT HH.o.YL);clear hr7;have VK:=ag (HD.o.kq CU.o.2 HH.o.nX);have BC:=ag ((CU.o.h VK.o).aA (CU.o.1.aks VK.o y 22 0));have EP:=ag (Du (CU.o.1.blk VK.o))
 go_wp2_with (refine wpList_store_mid rfl _ _ _ rfl X 2 #[O aa y,O aa 22,O aa 0] rfl rfl EP.o RQ (abJ _ _ _) ?_)
 go_ret2;exact⟨rfl,_,_,_,_,_,HF.o,BC.o⟩
theorem Oo (h:fK B Q w X T Z f s) (hd:Hnd w X 0 fl o) (g:Fz s m rp P R Y) (hj:j<m):
  Calls prog 29 #[X,.string (aX (pJ j)),O aa 1] w λe w'=>e=ar (ao #[O aa 0,O aa 0])/\KH B Q w w' X T Z f s (j+2) 1 0:=by
 have HFo:=ag (λW (hW:fK B Q W X T Z f s)=>IM hW g hj);have Zt:j<3:=cM hj g.m3;have HPa:=ag (λW (hW:fK B Q W X T Z f s)=>pV hW Zt);have HVa:=ag (λW (hW:fK B Q W X T Z f s) (hd:Hnd W X 0 fl o)=>rJ hW hd);have HH:=ag h;have HD:=ag hd;generalize pJ j=l at*;generalize JE j=nm at*;have hy0:(1:Int)<(j:Int)+2:=ae;generalize (j:Int)+2=y at HFo hy0⊢;clear h hd g hj Zt
 go_in
 go_wp2_with fail;refine(jb HH.o).cj ?_;go_wp2_with fail;go_call(Ov w) as e w1 ⟨rfl,bP⟩;have nz:=ag (HH.o.on bP);have HD1:=ag (HD.o.on bP);have iH:=ag (show Kq Q w w1 from Kq.of bP);clear bP;have Jt:=ag nz.o;have HD2:=ag HD1.o;have ja:=ag iH.o;generalize w1=w2 at*;go_wp2_with fail;go_call(HPa.o w2 Jt.o) as e w3 ⟨rfl,wL,mr⟩;have nC:=ag (Jt.o.ask wL mr);have HD3:=ag (HD2.o.kq mr HH.o.nX);have jZ:=ag (ja.o.trans mr);clear wL mr;go_wp2_with fail;go_call(HFo.o w3 nC.o) as e w4 ⟨rfl,PS,oQ⟩;have HH4:=ag (nC.o.ask PS oQ);have Zw:=ag (HD3.o.kq oQ HH.o.nX);have kX:=ag (jZ.o.trans oQ);clear PS oQ;go_wp2_with fail;go_call(HVa.o w4 HH4.o Zw.o) as e w5 ⟨rfl,eQ⟩;have HH5:=ag (HH4.o.on eQ);have P6:=ag (Zw.o.on eQ);have wS:=ag (kX.o.on eQ);clear eQ;have CU:=ag (HH.o.acY HH5.o.hP wS.o);generalize w5=w7 at*;have VK:=ag (HD.o.kq CU.o.2 HH.o.nX);have BC:=ag ((CU.o.h VK.o).aA (CU.o.1.aks VK.o y 1 0));have EP:=ag (Du (CU.o.1.blk VK.o))
 go_wp2_with (refine wpList_store_mid rfl _ _ _ rfl X 2 #[O aa y,O aa 1,O aa 0] rfl rfl EP.o RQ (abJ _ _ _) ?_)
 go_ret2;exact⟨rfl,BC.o⟩
end
section
variable {B X T Z m rp j:Nat} {Q:Nat->Prop} {w w':World} {f:Fm} {s s1:Ps} {i fl o:Int} {P R:Nat->Nat} {Y:Nat->List UInt8} {ns L:List Nat}
theorem rE (hd:Hnd w X i fl o) (hi:i≠0):Calls prog 78 #[X,O aa 0] w λe w'=>e=ar (ao #[(X,2),O aa 0])/\w=w':=by
 obtain⟨C,T,hx⟩:=hd;have c2:w.cell? (X,2)=some (O aa i):=hx.aj rfl;clear hx
 go_in
 go_wp2;go_ret2;exact⟨rfl,rfl⟩
theorem Oy (h:fK B Q w X T Z f s) (g:Fz s m rp P R Y) (hj:j<m):
  Calls prog 140 #[X,O aa (j+2)] w λe w'=>e=ar (O aa 0)/\bZ 16 B Q w' Z f s/\Kq Q w w':=by
 obtain⟨a1,a2⟩:=g.KI hj;have GK:=g.m3;obtain⟨fi,jg⟩:=aW (fN 1 (Y j).length (P j) (R j));rw[<-jg] at a1;have fO:fi.l=1:=by rw[jg];rfl
 have HI:=ag (show∀W:World,bZ 16 B Q W Z f s->qK W T Z->Calls prog 79 #[T,O aa ((j:Int)+2)] W λe w'=>e=ar (ao #[.agg (dZ fi),O aa 0])/\bZ 16 B Q w' Z f s/\Kq Q W w' from λW hW hT=>by have h:=eY (n:=j+2) hW hT ae (by rw[g.tb.ino];omega) (by rw[g.tb.ino];omega) (by rw[g.tb.tb];omega);rw[a1,a2] at h;exact h);have HH:=ag h;have c1:=h.c1;have iH:=ag fO;generalize (j:Int)+2=y at HI⊢;clear h g hj a1 a2 GK jg fO
 go_in
 go_wp2_with fail;go_call(HI.o w HH.o.hP HH.o.hT) as e w2 ⟨rfl,jU,eU⟩;have Jt:=ag (HH.o.ask jU eU);have IP:=ag eU;clear jU eU;have qi:=ag (aF.new w2 107 bc);obtain⟨w3,jO⟩:=aW ((w2.alloc (.cells bc 107)).setRow w2 (dZ fi));have mD:Below w2 w2 w3:=by rw[jO];exact((aE _ w2).alloc av _).bU av _
 have tX:aF w3 w2 107 (dZ fi):=by rw[jO];exact qi.o.row _
 have qj:=ag jO;have nC:=ag (Jt.o.on mD);have yt:=ag tX;have Ar:=ag mD;clear jO mD tX;unfold dZ at qj;have HQ3:=ag (IP.o.on Ar.o);have y1:=yt.o.aj (i:=1) (v:=O aa fi.l) rfl;rw[iH.o] at y1
 go_wp2_with (refine aH rfl rfl _ _ _ rfl w2 fi rfl rfl 107 bc qi.o rfl dC (kL fi) ?_;rw[<-qj.o])
 go_ret;exact⟨rfl,nC.o.hP,HQ3.o⟩
theorem RS (h:fK B Q w X T Z f s) (g:Fz s m rp P R Y) (hj:j<m) (hd:Hnd w X (j+2) fl o):
  Calls prog 82 #[X,(X,2)] w λe w'=>e=ar (O aa 0)/\KH B Q w w' X T Z f s 0 0 0:=by
 have HLo:=ag (λW U (hW:fK B U W X T Z f s)=>Oy hW g hj);generalize (j:Int)+2=y at HLo hd;have HS:=ag (h.aks hd 0 0 0);have EP:=ag (Du (h.blk hd));have c2:=(h.blk hd).aj (i:=2) (v:=O aa y) rfl;clear h g hj hd
 go_in
 go_wp2_with (refine wpList_store_mid rfl _ _ _ rfl X 2 #[O aa 0,O aa 0,O aa 0] rfl rfl EP.o RQ (abJ _ _ _) ?_)
 generalize w.setCells X 2 [O aa 0,O aa 0,O aa 0]=w1 at*;go_call(HLo.o w1 _ HS.o.1) as e w2 ⟨rfl,jU,eU⟩;have qN:=ag (HS.o.aA (HS.o.1.aAX HS.o.2.2 jU eU));clear jU eU;go_wp2;go_ret;exact⟨rfl,qN.o⟩
theorem AV (h:fK B Q w X T Z f s) (g:Fz s m rp P R Y) (hj:j<m) (hd:Hnd w X (j+2) fl o):
  Calls prog 31 #[X,O aa 0] w λe w'=>e=ar (O aa 0)/\KH B Q w w' X T Z f s 0 0 0:=by
 have HSh:=ag (RS h g hj hd);have HHa:=ag (rE hd ae);have HH:=ag h;clear h g hj hd
 go_in
 go_wp2_with fail;refine(jb HH.o).cj ?_;go_wp2_with fail;refine HHa.o.cj ?_;go_wp2_with fail;go_call HSh.o as e w1 ⟨rfl,hs⟩;have HS:=ag hs;clear hs;go_wp2;go_ret;exact⟨rfl,HS.o⟩
end
section
variable {B X T Z m rp j n c p q:Nat} {Q:Nat->Prop} {w w':World} {f:Fm} {s s1:Ps} {i fl o:Int} {P R:Nat->Nat} {Y:Nat->List UInt8} {ns L:List Nat} {a:Option Addr} {b:List UInt8}
theorem Oh (h:fK B Q w X T Z f s) (g:Fz s m rp P R Y) (hj:j<m) (hYe:Y j=[]) (hd:Hnd w X (j+2) 22 0) (hL:L.Nodup) (hdy:∀n,s.dy n↔n∈L) (hl:L.length<16) (hx:Bytes w w a n b) (uD:n<=c) (hb:b≠[]) (hn:n<=128) (YM:∀bl o,a=some ⟨bl,o,none⟩->¬Q bl) (wg:WrG s b s1 p q):
  Calls prog 30 #[X,O aa 0,an a n c] w λe w'=>e=ar (ao #[O aa n,O aa 0])/\∃o,KH B Q w w' X T Z f (gI s1 (j+2) (bH (fN 1 b.length p q))) (j+2) 22 o:=by
 obtain⟨a1,a2⟩:=g.KI hj;have GK:=g.m3;obtain⟨fi,jg⟩:=aW (fN 1 (Y j).length (P j) (R j));have a1':=a1;rw[<-jg] at a1';have HI:=ag (show∀W:World,bZ 16 B Q W Z f s->qK W T Z->Calls prog 79 #[T,O aa ((j:Int)+2)] W λe w'=>e=ar (ao #[.agg (dZ fi),O aa 0])/\bZ 16 B Q w' Z f s/\Kq Q W w' from λW hW hT=>by have h:=eY (n:=j+2) hW hT ae (by rw[g.tb.ino];omega) (by rw[g.tb.ino];omega) (by rw[g.tb.tb];omega);rw[a1',a2] at h;exact h);have hfl:=g.VB j hj;have Oi:=hfl.p0 hYe;have YN:=hfl.q0 (by rw[hYe];exact bN _);have hln:=hx.len;obtain⟨mo,NT,EY⟩:=wg.more;obtain⟨w1',w2',w3',w4'⟩:=wg.lo;have hsm:=wg.sm;rw[hYe,Oi,YN] at jg;obtain⟨fj,hfj⟩:=aW (fN 1 b.length p q);have hlb:∀bl o,a=some ⟨bl,o,none⟩->bl<w.heap.size:=λbl o e=>by
  obtain⟨bl',o',e',h1,_⟩:=hx.2.2 (by have:=List.length_pos_iff.2 hb;omega);rw[e'] at e;injection e with e
  injection e with e
  omega
 have Oj:=ag (show∀(W:World) (U:Nat->Prop),bZ 16 B U W Z f s->Bytes W W a n b->(∀bl o,a=some ⟨bl,o,none⟩->¬U bl/\bl<W.heap.size)->Calls prog 80 #[Z,.agg fi,O aa 0,an a n c] W λe w'=>e=ar (ao #[.agg fj,O aa 0])/\kF 16 B U W w' Z f s1 from λW U hW hX hA=>by
  have h:=yB (fi:=fi) (fuel:=2) (off:=0) (mo:=mo) hW (by rw[jg];exact wf2 (.inl rfl) (.inl rfl)) hX uD hb ae ae (by rw[jg,<-hln];exact NT) EY (by rw[jg];exact wg.ok) hA;have e:aO.Jy 2 s fi.io 0 b=(s1,qx p q):=by rw[jg];exact wg.hs
  rw[e] at h;have e3:GL (bD fi (max fi.s ((0+n:Nat):Int)) (qx p q))= .agg (dZ fj):=by rw[jg,hfj,show max (fN 1 ([]:List UInt8).length 0 0).s ((0+n:Nat):Int)=(b.length:Int) from by show max (0:Int) _=_;omega];rfl
  rw[e3] at h;exact h)
 obtain⟨Rz,HCh,HHa,HH⟩:=cr (λ(W:World) (U:Nat->Prop) (hW:fK B U W X T Z f s1)=>show Calls prog 81 #[T,O aa ((j:Int)+2),.agg fj] W λe w'=>e=ar (O aa 0)/\kF 16 B U W w' Z f (gI s1 (j+2) (bH (fN 1 b.length p q))) from by have h:=kG (n:=j+2) hW.hP hW.hT hW.nT ae (by rw[hsm.2.2.1,g.tb.ino];omega) (by rw[hsm.2.2.1,g.tb.ino];omega) (by rw[hsm.1,g.tb.tb];omega) (bH (fN 1 b.length p q)) (Fh (l:=1) ae ae w3' w4');rw[hfj];exact h) (kY h hL hdy hl) (λW (hd:Hnd W X ((j:Int)+2) 22 0)=>rE hd ae) h;generalize (j:Int)+2=i at HI hd HHa Rz⊢;generalize gI s1 (j+2) (bH (fN 1 b.length p q))=s2 at Rz⊢;have hX:=h.blk hd;obtain⟨C,hC⟩:=aW f.g.C;rw[<-hC] at hX;obtain⟨fl,VC⟩:∃fl:Int,fl=22:=⟨_,rfl⟩
 obtain⟨o,ho⟩:∃o:Int,o=0:=⟨_,rfl⟩
 rw[<-VC,<-ho] at hX hd;obtain⟨HX0,HD,zK,HO,HY⟩:=ct hX hd VC ho hx;obtain⟨HQ0,HLb,HN⟩:=cp YM hlb hn;clear h g hj hYe hd hL hdy hl hx uD hb YM wg a1 a1' a2 GK jg hfl Oi YN hln NT EY w1' w2' w3' w4' hsm hfj hlb hX hC VC ho hn
 go_in
 go_wp2_with fail;go_call HCh as e wc ⟨rfl,hbc⟩;obtain⟨HHc,HXc,HKc,HDc⟩:=cr (HH.on hbc) (HX0.ah hbc) (show Kq Q w wc from Kq.of hbc) (HD.on hbc);clear hbc HCh;go_wp2_with fail;refine(HHa.o wc (by have h:=HDc.o;rw[zK.o,HO.o] at h;exact h)).cj ?_;have c3:=HXc.aj (i:=3) (v:=O aa fl) rfl;rw[zK.o] at c3;go_upto_region 9 with fail;have je:=ag (show Below wc wc wc.drew from ak wc);obtain⟨pO,tK,xX⟩:=cp (HHc.on je) (show aF wc.drew X 90 (GM C T i fl o) from HXc.ah je) (show Kq Q w wc.drew from HKc.on je);refine iE (λW'=>aF W' X 90 (GM C T i fl o)) tK.o (λaY=>?_);generalize wc.drew=W0 at*;refine dw 0 X 0 ?_;refine aS 1 X 0 ?_;refine aS 2 X 1 ?_;refine kS 3 T (λ_ aK=>aK.aj (i:=1) (v:= T) rfl) ?_;refine dw 4 X 2 ?_;refine aS 5 X 2 ?_;refine aS 6 X 2 ?_;refine jV 7 i (λ_ aK=>aK.aj (i:=2) (v:=O aa i) rfl) ?_;refine wpAnyH_ready (rs:=[8,12]) az au ?_;refine bX rfl (λK' hK=>?_) (bX rfl (λK' hK=>?_) cN)
 rotate_left 1
 obtain⟨Jb,xY⟩:=aW W0.heap.size;obtain⟨W3,rF⟩:=aW (W0.alloc (.cells bc 107));have bJ:Below W0 W0 W3:=by rw[rF];exact(aE _ W0).alloc av _
 obtain⟨rG,nC,qY,cO,uZ⟩:=ct (show aF W3 Jb 107 bc from by rw[rF,xY];exact aF.new _ _ _) (pO.on bJ) (tK.ah bJ) bJ (show Jb=W0.heap.size from xY);clear bJ;go_simp;rw[<-rF,<-xY];refine hK.out _ _ (qY) (λiZ=>?_)
 clear rF xY;refine bY 8 (λK' hK=>?_);go_simp;go_call(HI.o W3 nC.hP nC.hT) as e W5 ⟨rfl,vM,KJ⟩;have wX:=nC.acY vM KJ;clear vM KJ;obtain⟨ou,oZ⟩:=cn wX (qY.kq wX.2 HH.nX);clear wX;refine hK.out _ _ (oZ) (λnZ=>?_)
 refine dG 9 (ao #[.agg fi,O aa 0]) ?_;refine dG 10 (.agg fi) ?_;refine dI 11 0 ?_;have zM:=ag (rG.kq ou.o.2 (by rw[uZ.o];exact pO.hP.aV av));obtain⟨W7,qF⟩:=aW (W5.setRow Jb (dZ fi));have oP:Kq (λq=>q=Jb) W5 W7:=by rw[qF];exact gJ _ _ _
 obtain⟨vN,Ol⟩:=cn (oZ.kq oP (by have h1:=tK.lt;rw[uZ.o];omega)) (Stp.before HH xX pO cO ou uZ oP (show aF W7 Jb 107 (dZ fi) from by rw[qF];exact zM.row _) rG.lt);have xZ:=ag (show∃U,fK B U W7 X T Z f s from by obtain⟨U,h⟩:=Ol.o;exact⟨U,h.m⟩);clear oP;refine bY 13 (λK' hK=>?_);refine gV rfl _ _ _ rfl Jb (dZ fi) rfl rfl 107 _ zM.o dC rfl (kL fi) ?_;rw[<-qF];obtain⟨U7,xZ⟩:=xZ.o;refine hK.out _ _ (vN) (λqM=>?_)
 refine dI 14 0 ?_;refine eH ?_;clear qF aY iZ nZ qM ou oZ rG zM nC qY cO uZ vN xZ U7
 rotate_right 1
 go_simp;go_call(HI.o W0 pO.hP pO.hT) as e W5 ⟨rfl,vM,KJ⟩;have wX:=pO.acY vM KJ;clear vM KJ;obtain⟨ou,oZ⟩:=cn wX (tK.kq wX.2 HH.nX);clear wX;refine hK.out _ _ (oZ) (λnZ=>?_)
 refine dG 9 (ao #[.agg fi,O aa 0]) ?_;refine dG 10 (.agg fi) ?_;refine dI 11 0 ?_;obtain⟨Jb,xY⟩:=aW W5.heap.size;obtain⟨W6,GN⟩:=aW (W5.alloc (.cells bc 107));obtain⟨W7,qF⟩:=aW (W6.setRow Jb (dZ fi));have fJ:Below W5 W5 W6:=by rw[GN];exact(aE _ W5).alloc av _
 obtain⟨Jz,HH6,Bz⟩:=cp (show aF W6 Jb 107 bc from by rw[GN,xY];exact aF.new _ _ _) (ou.o.1.on fJ) (oZ.ah fJ);have jr:Below W5 W5 W7:=by rw[qF,GN,xY];exact((aE _ W5).alloc av _).bU av _
 obtain⟨Ol,vN,xZ⟩:=cp (Stp.after (CQ.behind xX ou HH) xY.symm jr (by rw[qF];exact Jz.row _)) (oZ.ah jr) (ou.o.1.on jr);clear fJ jr;refine bY 12 (λK' hK=>?_);go_simp;rw[<-GN,<-xY];refine hK.out _ _ (Bz) (λqy=>?_)
 refine bY 13 (λK' hK=>?_);refine gV rfl _ _ _ rfl Jb (dZ fi) rfl rfl 107 _ Jz.o dC rfl (kL fi) ?_;rw[<-qF];refine hK.out _ _ (vN) (λqM=>?_)
 refine dI 14 0 ?_;refine eH ?_;clear GN qF xY aY nZ qy qM ou oZ Jz HH6 Bz vN xZ
 all_goals
  clear pO tK xX HI HHa je c3;obtain⟨U1,hst⟩:=Ol.o;obtain⟨HST,HX7,x8,HYb,aki⟩:=ct hst (show aF W7 X 90 (GM C T i fl o) from HX0.kq hst.k HH.nX) hst.m hst.k.size (HY.kq av hst.k HQ0);obtain⟨HQa,HYl,HJn⟩:=cp (show∀bl o,a=some ⟨bl,o,none⟩->¬U1 bl from λbl o e hu=>(hst.u bl hu).elim (HQ0.o bl o e) λh=>by have:=HLb.o bl o e;omega) (show∀bl o,a=some ⟨bl,o,none⟩->bl<W7.heap.size from λbl o e=>cM (HLb.o bl o e) hst.k.size) hst.nj;clear hst Ol;have c4:=HX7.aj (i:=4) (v:=O aa o) rfl;rw[HO.o] at c4;have c3:=HX7.aj (i:=3) (v:=O aa fl) rfl;rw[zK.o] at c3;go_upto_region 15 with fail;clear c3 c4;obtain⟨je,iO⟩:=cn (show Below W7 W7 W7.drew from ak W7) (λW (h1:aF W Jb 107 (dZ fi)) (h2:W.cell? (X,1)=some (.pointer (T,0)))=>cJ h1 h2);obtain⟨pO,tK,xX⟩:=cp (x8.on je) (show aF W7.drew Jb 107 (dZ fi) from HST.j.ah je) (show Kq U1 W7 W7.drew from Kq.of je);refine iE (λW'=>aF W' Jb 107 (dZ fi)/\W'.cell? (X,1)=some (.pointer (T,0))) (iO.o _ tK pO.c1) (λaY=>?_);generalize W7.drew=V0 at*;refine dw 0 X 0 ?_;refine aS 1 X 0 ?_;refine aS 2 X 1 ?_;refine kS 3 T (λ_ aK=>aK.2) ?_;refine jE 5 (.agg fi) rfl (λ_ aK=>by obtain⟨y0,y1,y2,y3,y4,y5,y6,y7,y8,y9,GR⟩:=ji aK.1;go_simp) ?_;refine dI 6 0 ?_;refine dG 7 (an a n c) ?_;refine wpAnyH_ready (rs:=[4,12]) az au ?_;refine bX rfl (λK' hK=>?_) (bX rfl (λK' hK=>?_) cN)
  rotate_left 1
  obtain⟨Kb,Om⟩:=aW V0.heap.size;obtain⟨V3,rF⟩:=aW (V0.alloc (.cells bc 107));have bJ:Below V0 V0 V3:=by rw[rF];exact(aE _ V0).alloc av _
  obtain⟨rG,nC,qY,cO,uZ⟩:=ct (show aF V3 Kb 107 bc from by rw[rF,Om];exact aF.new _ _ _) (pO.on bJ) (tK.ah bJ) bJ (show Kb=V0.heap.size from Om);clear bJ;go_simp;rw[<-rF,<-Om];refine hK.out _ _ (iO.o _ qY nC.c1) (λiZ=>?_)
  clear rF Om;refine bY 4 (λK' hK=>?_);go_simp;refine(iF nC.hT).cj ?_;refine hK.out _ _ (iO.o _ qY nC.c1) (λdh=>?_)
  refine bY 8 (λK' hK=>?_);go_simp;go_call(Oj.o V3 _ nC.hP ((aki.kq HYb (show Kq U1 W7 V3 from xX.on cO) HQa).mono (by have:=HYb.o;have:=xX.size;have:=cO.size;omega)) λbl o e=>⟨HQa bl o e,by have:=HYl.o bl o e;have:=xX.size;have:=cO.size;omega⟩) as e V5 ⟨rfl,vM⟩;have wX:=nC.ofR vM rfl;clear vM;obtain⟨ou,oZ⟩:=cn wX (qY.kq wX.2 HJn);clear wX;refine hK.out _ _ (iO.o _ oZ ou.o.1.c1) (λnZ=>?_)
  refine dG 9 (ao #[.agg fj,O aa 0]) ?_;refine dG 10 (.agg fj) ?_;refine dI 11 0 ?_;have zM:=ag (rG.kq ou.o.2 (by rw[uZ.o];exact pO.hP.aV av));obtain⟨V7,qF⟩:=aW (V5.setRow Kb (dZ fj));have oP:Kq (λq=>q=Kb) V5 V7:=by rw[qF];exact gJ _ _ _
  obtain⟨vN,HT7⟩:=cn (oZ.kq oP (by have h1:=tK.lt;rw[uZ.o];omega)) (Stp.before x8 xX pO cO ou uZ oP (show aF V7 Kb 107 (dZ fj) from by rw[qF];exact zM.row _) rG.lt);have xZ:=ag (show∃U,fK B U V7 X T Z f s1 from by obtain⟨U,h⟩:=HT7.o;exact⟨U,h.m⟩);clear oP;refine bY 13 (λK' hK=>?_);refine gV rfl _ _ _ rfl Kb (dZ fj) rfl rfl 107 _ zM.o dC rfl (kL fj) ?_;rw[<-qF];obtain⟨U7,xZ⟩:=xZ.o;refine hK.out _ _ (iO.o _ vN xZ.c1) (λqM=>?_)
  refine dI 14 0 ?_;refine eH ?_;clear qF aY iZ nZ qM ou oZ rG zM nC qY cO uZ vN xZ U7;clear dh
  rotate_right 1
  go_simp;refine(iF pO.hT).cj ?_;refine hK.out _ _ (iO.o _ tK pO.c1) (λdh=>?_)
  refine wpAnyH_ready (rs:=[8,12]) az au ?_;refine bX rfl (λK' hK=>?_) (bX rfl (λK' hK=>?_) cN)
  rotate_left 1
  obtain⟨Kb,Om⟩:=aW V0.heap.size;obtain⟨V3,rF⟩:=aW (V0.alloc (.cells bc 107));have bJ:Below V0 V0 V3:=by rw[rF];exact(aE _ V0).alloc av _
  obtain⟨rG,nC,qY,cO,uZ⟩:=ct (show aF V3 Kb 107 bc from by rw[rF,Om];exact aF.new _ _ _) (pO.on bJ) (tK.ah bJ) bJ (show Kb=V0.heap.size from Om);clear bJ;go_simp;rw[<-rF,<-Om];refine hK.out _ _ (iO.o _ qY nC.c1) (λiZ=>?_)
  clear rF Om;refine bY 8 (λK' hK=>?_);go_simp;go_call(Oj.o V3 _ nC.hP ((aki.kq HYb (show Kq U1 W7 V3 from xX.on cO) HQa).mono (by have:=HYb.o;have:=xX.size;have:=cO.size;omega)) λbl o e=>⟨HQa bl o e,by have:=HYl.o bl o e;have:=xX.size;have:=cO.size;omega⟩) as e V5 ⟨rfl,vM⟩;have wX:=nC.ofR vM rfl;clear vM;obtain⟨ou,oZ⟩:=cn wX (qY.kq wX.2 HJn);clear wX;refine hK.out _ _ (iO.o _ oZ ou.o.1.c1) (λnZ=>?_)
  refine dG 9 (ao #[.agg fj,O aa 0]) ?_;refine dG 10 (.agg fj) ?_;refine dI 11 0 ?_;have zM:=ag (rG.kq ou.o.2 (by rw[uZ.o];exact pO.hP.aV av));obtain⟨V7,qF⟩:=aW (V5.setRow Kb (dZ fj));have oP:Kq (λq=>q=Kb) V5 V7:=by rw[qF];exact gJ _ _ _
  obtain⟨vN,HT7⟩:=cn (oZ.kq oP (by have h1:=tK.lt;rw[uZ.o];omega)) (Stp.before x8 xX pO cO ou uZ oP (show aF V7 Kb 107 (dZ fj) from by rw[qF];exact zM.row _) rG.lt);have xZ:=ag (show∃U,fK B U V7 X T Z f s1 from by obtain⟨U,h⟩:=HT7.o;exact⟨U,h.m⟩);clear oP;refine bY 13 (λK' hK=>?_);refine gV rfl _ _ _ rfl Kb (dZ fj) rfl rfl 107 _ zM.o dC rfl (kL fj) ?_;rw[<-qF];obtain⟨U7,xZ⟩:=xZ.o;refine hK.out _ _ (iO.o _ vN xZ.c1) (λqM=>?_)
  refine dI 14 0 ?_;refine eH ?_;clear qF aY iZ nZ qM ou oZ rG zM nC qY cO uZ vN xZ U7;clear dh
  rotate_right 1
  go_simp;go_call(Oj.o V0 _ pO.hP ((aki.kq HYb (show Kq U1 W7 V0 from xX.o) HQa).mono (by have:=HYb.o;have:=xX.size;omega)) λbl o e=>⟨HQa bl o e,by have:=HYl.o bl o e;have:=xX.size;omega⟩) as e V5 ⟨rfl,vM⟩;have wX:=pO.ofR vM rfl;clear vM;obtain⟨ou,oZ⟩:=cn wX (tK.kq wX.2 HJn);clear wX;refine hK.out _ _ (iO.o _ oZ ou.o.1.c1) (λnZ=>?_)
  refine dG 9 (ao #[.agg fj,O aa 0]) ?_;refine dG 10 (.agg fj) ?_;refine dI 11 0 ?_;obtain⟨Kb,Om⟩:=aW V5.heap.size;obtain⟨V6,GN⟩:=aW (V5.alloc (.cells bc 107));obtain⟨V7,qF⟩:=aW (V6.setRow Kb (dZ fj));have fJ:Below V5 V5 V6:=by rw[GN];exact(aE _ V5).alloc av _
  obtain⟨Jz,HH6,Bz⟩:=cp (show aF V6 Kb 107 bc from by rw[GN,Om];exact aF.new _ _ _) (ou.o.1.on fJ) (oZ.ah fJ);have jr:Below V5 V5 V7:=by rw[qF,GN,Om];exact((aE _ V5).alloc av _).bU av _
  obtain⟨HT7,vN,xZ⟩:=cp (Stp.after (CQ.behind xX ou x8) Om.symm jr (by rw[qF];exact Jz.row _)) (oZ.ah jr) (ou.o.1.on jr);clear fJ jr;refine bY 12 (λK' hK=>?_);go_simp;rw[<-GN,<-Om];refine hK.out _ _ (iO.o _ Bz HH6.c1) (λqy=>?_)
  refine bY 13 (λK' hK=>?_);refine gV rfl _ _ _ rfl Kb (dZ fj) rfl rfl 107 _ Jz.o dC rfl (kL fj) ?_;rw[<-qF];refine hK.out _ _ (iO.o _ vN xZ.c1) (λqM=>?_)
  refine dI 14 0 ?_;refine eH ?_;clear GN qF Om aY nZ qy qM ou oZ Jz HH6 Bz vN xZ;clear dh
  all_goals
   clear pO tK xX je iO Oj aki HQa HYl HYb;obtain⟨U2,apr⟩:=HT7.o;obtain⟨aAL,HX9⟩:=cn apr (show aF V7 X 90 (GM C T i fl o) from HX7.kq apr.k x8.nX);clear apr HT7;go_upto_region 18 with fail;obtain⟨HSg,qG,HX8⟩:=cp (λW (h1:aF W Kb 107 (dZ fj)) (h2:aF W X 90 (GM C T i fl o))=>cJ h1 h2) (aAL.on (ak V7)) (HX9.ah (ak V7));refine iE (λW'=>aF W' Kb 107 (dZ fj)/\aF W' X 90 (GM C T i fl o)) (HSg.o _ qG.j HX8) (λaY=>?_);generalize V7.drew=V8 at*;refine dw 0 X 0 ?_;refine aS 1 X 0 ?_;refine aS 2 X 1 ?_;refine kS 3 T (λ_ aK=>aK.2.aj (i:=1) (v:= T) rfl) ?_;refine dw 4 X 2 ?_;refine aS 5 X 2 ?_;refine aS 6 X 2 ?_;refine jV 7 i (λ_ aK=>aK.2.aj (i:=2) (v:=O aa i) rfl) ?_;refine jE 8 (.agg fj) rfl (λ_ aK=>by obtain⟨y0,y1,y2,y3,y4,y5,y6,y7,y8,y9,GR⟩:=ji aK.1;go_simp) ?_;refine bY 9 (λK' hK=>?_);go_simp;go_call(Rz.o V8 _ qG.m) as e V9 ⟨rfl,RD⟩;obtain⟨HJ9,HXv,HR9⟩:=cp (qG.j.kq RD.2 qG.nj) (show aF V9 X 90 (GM C T i fl o) from HX8.kq RD.2 qG.m.nX) (qG.m.ofR RD rfl);clear RD;refine hK.out _ _ (HSg.o _ HJ9 HXv) (λIA=>?_)
   refine dI 10 0 ?_;refine eH ?_;clear aY IA;have q1:=bq (n:Int) ⟨ae,by have:=HN.o;omega⟩;have f4:=HXv.frozen 4;have c4:=HXv.aj (i:=4) (v:=O aa o) rfl;obtain⟨HRw,HDw⟩:=cn (HST.fin HH (qG.fin x8 HR9)) (show Hnd V9 X i fl o from⟨_,_,HXv⟩);have IB:=ag ((HRw.h HDw).aA (HRw.o.1.set1 HDw (n:Int)));go_wp2;go_ret2;exact⟨rfl,_,by have h:=IB.o;rw[zK.o] at h;exact h⟩
end
section
variable {B X T Z m rp j:Nat} {Q:Nat->Prop} {w w':World} {f:Fm} {s s1:Ps} {i fl o:Int} {P R:Nat->Nat} {Y:Nat->List UInt8} {ns L:List Nat}
theorem RF (h:fK B Q w X T Z f s) (g:Fz s m rp P R Y) (hj:j<m) (hd:Hnd w X (j+2) 1 0) (hY:Y j≠[]):
  Calls prog 34 #[X,O aa 0,O aa 1024] w λe w'=>(∃a c,e=ar (ao #[an a (Y j).length c,O aa 0])/\Own aJ 5 w' w (an a (Y j).length c) (Y j)/\∃o U,fK B U w' X T Z f s/\(∀q,U q->Q q\/w<=q)/\Kq (λq=>Q q\/q=X) w w'/\Hnd w' X (j+2) 1 o/\∀q,(Value.slice a (Y j).length c).ownBlock=some q->¬U q):=by
 obtain⟨a1,a2⟩:=g.KI hj;have GK:=g.m3;obtain⟨fi,jg⟩:=aW (fN 1 (Y j).length (P j) (R j));have a1':=a1;rw[<-jg] at a1';have HI:=ag (show∀W:World,bZ 16 B Q W Z f s->qK W T Z->Calls prog 79 #[T,O aa ((j:Int)+2)] W λe w'=>e=ar (ao #[.agg (dZ fi),O aa 0])/\bZ 16 B Q w' Z f s/\Kq Q W w' from λW hW hT=>by have h:=eY (n:=j+2) hW hT ae (by rw[g.tb.ino];omega) (by rw[g.tb.ino];omega) (by rw[g.tb.tb];omega);rw[a1',a2] at h;exact h);have hfl:=g.VB j hj;have mF:=hfl.gd;have xO:=hfl.read g.no0 hY;have hlen:=hfl.len;have sU:=ag (show∀(W:World) (U:Nat->Prop),bZ 16 B U W Z f s->Calls prog 87 #[Z,.agg fi,O aa 0,O aa 1024] W (RG 16 B U Z f s (Y j) W) from λW U hW=>by
  have h:=AQ (fi:=fi) (off:=0) (n:=1024) (z:=(Y j).length) hW (by rw[jg];exact wf2 mF.1 mF.2) ae (by rw[jg];rfl) ae ae;have e:aO.VD 20 s fi.io 0 (0+min 1024 ((Y j).length-0))=Y j:=by rw[jg];exact xO
  rw[e] at h;exact h)
 obtain⟨HHa,HH,HHc,HKc⟩:=cr (rE hd ae) h h (Kq.refl Q w);generalize (j:Int)+2=i at HI hd HHa⊢;have hX:=h.blk hd;obtain⟨n,hn⟩:=aW ((Y j).length);rw[<-hn] at hlen⊢;have HN:=ag hn;generalize Y j=b at*;obtain⟨C,hC⟩:=aW f.g.C;have HC:=ag hC;rw[<-hC] at hX;obtain⟨fl,VC⟩:∃fl:Int,fl=1:=⟨_,rfl⟩
 obtain⟨o,ho⟩:∃o:Int,o=0:=⟨_,rfl⟩
 rw[<-VC,<-ho] at hX hd;obtain⟨HXc,HD⟩:=cn hX hd;have c3:=hX.aj (i:=3) (v:=O aa fl) rfl;rw[VC] at c3;obtain⟨zK,HO⟩:=cn VC ho;clear h g hj hd a1 a1' a2 GK jg hfl mF xO hX hn hY hC VC ho
 go_in
 go_wp2_with fail;refine(jb HH).cj ?_;go_wp2_with fail;refine HHa.cj ?_;go_upto_region 9 with fail;have je:=ag (show Below w w w.drew from ak w);obtain⟨pO,tK,xX⟩:=cp (HHc.on je) (show aF w.drew X 90 (GM C T i fl o) from HXc.ah je) (show Kq Q w w.drew from HKc.on je);refine iE (λW'=>aF W' X 90 (GM C T i fl o)) tK.o (λaY=>?_);generalize w.drew=W0 at*;refine dw 0 X 0 ?_;refine aS 1 X 0 ?_;refine aS 2 X 1 ?_;refine kS 3 T (λ_ aK=>aK.aj (i:=1) (v:= T) rfl) ?_;refine dw 4 X 2 ?_;refine aS 5 X 2 ?_;refine aS 6 X 2 ?_;refine jV 7 i (λ_ aK=>aK.aj (i:=2) (v:=O aa i) rfl) ?_;refine wpAnyH_ready (rs:=[8,12]) az au ?_;refine bX rfl (λK' hK=>?_) (bX rfl (λK' hK=>?_) cN)
 rotate_left 1
 obtain⟨Jb,xY⟩:=aW W0.heap.size;obtain⟨W3,rF⟩:=aW (W0.alloc (.cells bc 107));have bJ:Below W0 W0 W3:=by rw[rF];exact(aE _ W0).alloc av _
 obtain⟨rG,nC,qY,cO,uZ⟩:=ct (show aF W3 Jb 107 bc from by rw[rF,xY];exact aF.new _ _ _) (pO.on bJ) (tK.ah bJ) bJ (show Jb=W0.heap.size from xY);clear bJ;go_simp;rw[<-rF,<-xY];refine hK.out _ _ (qY) (λiZ=>?_)
 clear rF xY;refine bY 8 (λK' hK=>?_);go_simp;go_call(HI.o W3 nC.hP nC.hT) as e W5 ⟨rfl,vM,KJ⟩;have wX:=nC.acY vM KJ;clear vM KJ;obtain⟨ou,oZ⟩:=cn wX (qY.kq wX.2 HH.nX);clear wX;refine hK.out _ _ (oZ) (λnZ=>?_)
 refine dG 9 (ao #[.agg fi,O aa 0]) ?_;refine dG 10 (.agg fi) ?_;refine dI 11 0 ?_;have zM:=ag (rG.kq ou.o.2 (by rw[uZ.o];exact pO.hP.aV av));obtain⟨W7,qF⟩:=aW (W5.setRow Jb (dZ fi));have oP:Kq (λq=>q=Jb) W5 W7:=by rw[qF];exact gJ _ _ _
 obtain⟨vN,Ol⟩:=cn (oZ.kq oP (by have h1:=tK.lt;rw[uZ.o];omega)) (Stp.before HH xX pO cO ou uZ oP (show aF W7 Jb 107 (dZ fi) from by rw[qF];exact zM.row _) rG.lt);have xZ:=ag (show∃U,fK B U W7 X T Z f s from by obtain⟨U,h⟩:=Ol.o;exact⟨U,h.m⟩);clear oP;refine bY 13 (λK' hK=>?_);refine gV rfl _ _ _ rfl Jb (dZ fi) rfl rfl 107 _ zM.o dC rfl (kL fi) ?_;rw[<-qF];obtain⟨U7,xZ⟩:=xZ.o;refine hK.out _ _ (vN) (λqM=>?_)
 refine dI 14 0 ?_;refine eH ?_;clear qF aY iZ nZ qM ou oZ rG zM nC qY cO uZ vN xZ U7
 rotate_right 1
 go_simp;go_call(HI.o W0 pO.hP pO.hT) as e W5 ⟨rfl,vM,KJ⟩;have wX:=pO.acY vM KJ;clear vM KJ;obtain⟨ou,oZ⟩:=cn wX (tK.kq wX.2 HH.nX);clear wX;refine hK.out _ _ (oZ) (λnZ=>?_)
 refine dG 9 (ao #[.agg fi,O aa 0]) ?_;refine dG 10 (.agg fi) ?_;refine dI 11 0 ?_;obtain⟨Jb,xY⟩:=aW W5.heap.size;obtain⟨W6,GN⟩:=aW (W5.alloc (.cells bc 107));obtain⟨W7,qF⟩:=aW (W6.setRow Jb (dZ fi));have fJ:Below W5 W5 W6:=by rw[GN];exact(aE _ W5).alloc av _
 obtain⟨Jz,HH6,Bz⟩:=cp (show aF W6 Jb 107 bc from by rw[GN,xY];exact aF.new _ _ _) (ou.o.1.on fJ) (oZ.ah fJ);have jr:Below W5 W5 W7:=by rw[qF,GN,xY];exact((aE _ W5).alloc av _).bU av _
 obtain⟨Ol,vN,xZ⟩:=cp (Stp.after (CQ.behind xX ou HH) xY.symm jr (by rw[qF];exact Jz.row _)) (oZ.ah jr) (ou.o.1.on jr);clear fJ jr;refine bY 12 (λK' hK=>?_);go_simp;rw[<-GN,<-xY];refine hK.out _ _ (Bz) (λqy=>?_)
 refine bY 13 (λK' hK=>?_);refine gV rfl _ _ _ rfl Jb (dZ fi) rfl rfl 107 _ Jz.o dC rfl (kL fi) ?_;rw[<-qF];refine hK.out _ _ (vN) (λqM=>?_)
 refine dI 14 0 ?_;refine eH ?_;clear GN qF xY aY nZ qy qM ou oZ Jz HH6 Bz vN xZ
 all_goals
  clear pO tK xX HI HHa je;obtain⟨U,hst⟩:=Ol.o;obtain⟨HST,HX7⟩:=cn hst (show aF W7 X 90 (GM C T i fl o) from HXc.kq hst.k HH.nX);clear hst Ol c3;have c1:=HST.m.c1;go_upto_region 12 with fail;obtain⟨HSg,qG,HX8⟩:=cp (λW (h1:aF W Jb 107 (dZ fi)) (h2:aF W X 90 (GM C T i fl o))=>cJ h1 h2) (HST.on (ak W7)) (HX7.ah (ak W7));refine iE (λW'=>aF W' Jb 107 (dZ fi)/\aF W' X 90 (GM C T i fl o)) (HSg.o _ qG.j HX8) (λaY=>?_);generalize W7.drew=W8 at*;refine dw 0 X 0 ?_;refine aS 1 X 0 ?_;refine aS 2 X 1 ?_;refine kS 3 T (λ_ aK=>aK.2.aj (i:=1) (v:= T) rfl) ?_;refine jE 5 (.agg fi) rfl (λ_ aK=>by obtain⟨y0,y1,y2,y3,y4,y5,y6,y7,y8,y9,GR⟩:=ji aK.1;go_simp) ?_;refine dw 6 X 2 ?_;refine aS 7 X 2 ?_;refine aS 8 X 4 ?_;refine jV 9 o (λ_ aK=>aK.2.aj (i:=4) (v:=O aa o) rfl) ?_;refine dI 10 1024 ?_;refine bY 4 (λK' hK=>?_);go_simp;refine(iF qG.m.hT).cj ?_;refine hK.out _ _ (HSg.o _ qG.j HX8) (λdh=>?_)
  refine bY 11 (λK' hK=>?_);go_simp;rw[HO.o];go_call(sU.o W8 _ qG.m.hP) as e W9 ⟨⟨v,rfl,hv⟩,RD,AU⟩;obtain⟨a,c,rfl,_⟩:=hv.bG (n:=n) HN.symm;obtain⟨HV,HVb,afK,HX9⟩:=cr (hv.mono qG.k.size) (λq hq=>hv.aN q hq) (qG.ask RD AU) (show aF W9 X 90 (GM C T i fl o) from HX8.kq AU qG.m.nX);clear hv RD AU;refine hK.out _ _ (HSg.o _ afK.j HX9) (λIA=>?_)
  refine dG 12 (ao #[an a n c,O aa 0]) ?_;refine dG 13 (an a n c) ?_;refine dI 14 0 ?_;refine dG 15 (an a n c) ?_;refine dI 16 0 ?_;refine eH ?_;clear aY dh IA;have c4:=HX9.aj (i:=4) (v:=O aa o) rfl;rw[HO.o] at c4;have q1:=bq (n:Int) ⟨ae,ae⟩;have f4:=HX9.frozen 4;have HD9:=ag (show Hnd W9 X i fl o from⟨_,_,HX9⟩);obtain⟨IB,akk,aAO⟩:=cp (afK.m.set1 HD9 (n:Int)) (show Kq (λq=>Q q\/q=X) w (W9.setCell (X,4) (O aa n)) from(afK.k.mono λ_ h=> .inl h).setCell (.inl (.inr rfl)) _) (show Own aJ 5 (W9.setCell (X,4) (O aa n)) w (an a n c) b from by exact HV.kq (Kq.one (X,4) _) λq hq e=>by have e:q=X:=e;have:=(HV.aN q hq).1;have:=HH.YL;omega);go_wp2;go_ret2;exact⟨a,c,rfl,aAO,_,_,IB.o.1,λq hq=>hq.elim (afK.u q) λh=> .inr (bB afK.k.size h.1),akk,by have h:=IB.o.2.2;rw[zK.o] at h;exact h,λq hq hu=>qG.m.hP.aV (HVb.o q hq).1 (fA hu (HVb.o q hq).2)⟩
end
namespace Ad
structure aoW (s:Ps) m j (Y:Nat->List UInt8) b s' pI P' R' Y':Prop where
 z:Fz s' (max m (j+1)) pI P' R' Y'
 e:Y' j=b
 k:∀i,i≠j->i<m->Y' i=Y i
 dy:∀n,s'.dy n->s.dy n\/n=1+(j+1)/2\/(j=m/\(n=1\/n=pI))\/n=P' j\/n=R' j
 sh:b.length<=64->R' j=0
theorem listOf (p:Nat->Prop):∀C:List Nat,∃L:List Nat,L.Nodup/\(∀n,n∈L↔p n/\n∈C)/\L.length<=C.length
 |[]=>⟨[],List.nodup_nil,λn=>⟨λh=>(by cases h),λh=>h.2⟩,bp _⟩
 |a::C=>by
  obtain⟨L,h1,h2,h3⟩:=listOf p C;by_cases h:p a/\a∉L
  .refine⟨a::L,cR.2 ⟨h.2,h1⟩,λn=>?_,Nat.succ_le_succ h3⟩;grind
  grind
theorem Ri {p:Nat->Prop} (C:List Nat) (h:∀n,p n->n∈C):∃L:List Nat,L.Nodup/\(∀n,p n↔n∈L)/\L.length<=C.length:=by obtain⟨L,h1,h2,h3⟩:=listOf p C;grind
end Ad
theorem fG.bZ.dyT {NB B P n Q w f s} (h:bZ NB B Q w P f s) (hd:s.dy n):s.There n:=by
 obtain⟨U,D,dl,R,h1,_,_⟩:=h;have h3:=(h1.dy n).1 hd
 cases hz:uC.get dl n with
 |none=>rw[hz] at h3;cases h3
 |some d=>obtain⟨hm,hk⟩:=Enc.get_mem hz;have h4:=h1.dt d hm;rw[show d.n=n from hk] at h4;exact h4
section
variable {B X T Z m rp j n c:Nat} {Q:Nat->Prop} {w w':World} {f:Fm} {s s1:Ps} {fl o:Int} {P R:Nat->Nat} {Y:Nat->List UInt8} {L:List Nat} {a:Option Addr} {b:List UInt8}
theorem Vj (h:fK B Q w X T Z f s) (g:Fz s m rp P R Y) (hj:j<=m) (Zt:j<3) (hd:Hnd w X 0 fl o) (hdy:∀n,¬s.dy n) (hx:Bytes w w a n b) (uD:n<=c) (hb:b≠[]) (hn:n<=128) (YM:∀bl o,a=some ⟨bl,o,none⟩->¬Q bl/\bl≠X):
  Calls prog 12 #[X,.string (aX (pJ j)),an a n c] w λe w'=>e=ar (aq true)/\∃s' pI P' R' Y',aoW s m j Y b s' pI P' R' Y'/\KH B Q w w' X T Z f s' 0 0 0:=by
 have YO:=ag (show Calls prog 29 #[X,.string (aX (pJ j)),O aa 22] w λe w'=>e=ar (ao #[O aa 0,O aa 0])/\∃s' pI P' R' Y',afL s m j Y s' pI P' R' Y'/\KH B Q w w' X T Z f s' ((j:Int)+2) 22 0 from by
  rcases Nat.lt_or_ge j m with h1|h1
  .exact IC (L:=[]) h hd g h1 List.nodup_nil (λn=>⟨λh=>absurd h (hdy n),λh=>by cases h⟩) aB
  .obtain rfl:j=m:=ae;exact IE (L:=[]) h hd g Zt List.nodup_nil (λn=>⟨λh=>absurd h (hdy n),λh=>by cases h⟩) aB)
 obtain⟨HH,HX,HB,HN,HQ⟩:=ct h hx hb (cJ uD hn) YM;obtain⟨HDy,HJ⟩:=cn hdy (cJ hj Zt);have HL:=ag (show∀bl o,a=some ⟨bl,o,none⟩->bl<w.heap.size from λbl o e=>by
  obtain⟨bl',o',e',h1,_⟩:=hx.2.2 (by have:=hx.len;have:=List.length_pos_iff.2 hb;omega);rw[e'] at e;injection e with e
  injection e with e
  omega)
 generalize pJ j=l at*;clear h g hj Zt hd hdy hx uD hb hn YM
 go_in
 go_wp2_with fail;go_call YO as e w1 ⟨rfl,s1,rp1,P1,R1,Y1,ho,hs⟩;obtain⟨HO,HS⟩:=cn ho hs;have BA:∀bl o,a=some ⟨bl,o,none⟩->¬Up Q w w1 bl:=λbl o e hu=>(HQ.o bl o e).1 (fA hu (HL.o bl o e));have wO:Bytes w1 w1 a n b:=(HX.kq av hs.2.1 λbl o e hu=>hu.elim (HQ.o bl o e).1 (HQ.o bl o e).2).mono hs.2.1.size;obtain⟨L,hL1,hL2,hL3⟩:=Ri (p:=s1.dy) [1+(j+1)/2,1,rp1] λq hq=>by
  rcases ho.dy q hq with h|h|⟨_,h|h⟩
  .exact absurd h (HDy.o q)
  .rw[h];simp
  .rw[h];simp
  .rw[h];simp
 have hjm:j<max m (j+1):=cM (Nat.lt_succ_self j) (Nat.le_max_right _ _);have gB:b.length<=128:=by have:=HN.o;have:=HX.len;omega
 obtain⟨s2,p,q,hw⟩:=akn (b:=b) ho.z.tb (bB ho.z.len ae) HB.o gB;have Oj:=ag (Oh hs.1 ho.z hjm ho.e hs.2.2 hL1 hL2 (by have:L.length<=3:=hL3;omega) wO HN.o.1 HB HN.o.2 BA hw);have hz:=ho.z.write hjm ho.e gB hw;have HPw:=ag (show aoW s m j Y b (gI s2 (j+2) (bH (fN 1 b.length p q))) rp1 (JA P1 j p) (JA R1 j q) (JA Y1 j b) from⟨hz,bT _ _ _,λi hi hm=>(dJ hi).trans (ho.k i hi hm),λn hn=>by
  rw[bT,bT];rcases hn with hn|hn
  .exact .inr (.inl ae)
  .rcases hw.dy n hn with h|h|h
   .rcases ho.dy n h with h|h|h
    .exact .inl h
    .exact .inr (.inl h)
    .exact .inr (.inr (.inl h))
   .exact .inr (.inr (.inr (.inl h)))
   .exact .inr (.inr (.inr (.inr h))),λh=>by rw[bT];exact hw.new.2.2.2.1 h⟩)
 have HCl:=ag (λ(W:World) (U:Nat->Prop) (o:Int) (hW:fK B U W X T Z f (gI s2 (j+2) (bH (fN 1 b.length p q)))) (hd:Hnd W X ((j:Int)+2) 22 o)=>AV hW hz hjm hd);generalize gI s2 (j+2) (bH (fN 1 b.length p q))=s3 at*;clear ho hs BA wO hL1 hL2 hL3 hjm gB hw hz YO;go_wp2_with fail;go_call Oj as e w2 ⟨rfl,o2,mQ⟩;have qN:=ag (HS.aA mQ);clear mQ;go_wp2_with fail;go_call(HCl.o w2 _ o2 qN.o.1 qN.o.2.2) as e w3 ⟨rfl,EN⟩;have AX:=ag (qN.aA EN);clear EN;go_wp2;go_ret;exact⟨rfl,s3,rp1,_,_,_,HPw,AX⟩
theorem fK.aAQ {U w2 w3 f' s' i' fl' o'} (h0:fK B Q w X T Z f s) (hk:Kq (λq=>Q q\/q=X) w w2) (hU:∀q,U q->Q q\/w<=q) (k:KH B U w2 w3 X T Z f' s' i' fl' o'):KH B Q w w3 X T Z f' s' i' fl' o':=by
 have hs:=hk.size;have mQ:=k.size;have hT:=h0.ltT;have hX:=h0.YL;have hb:=h0.hP.base;refine⟨⟨k.1.hX,k.1.hT,k.1.hP.more (λq hq=>?_) (λq hq=>?_),λhq=>h0.nT (fA hq hT),λhq=>h0.nX (fA hq hX)⟩,hk.aA k.2.1 λq hq=>?_,k.2.2⟩
 .have hl:=(k.1.hP.bnd q hq).2;grind[Up]
 .rcases hq with hq|hq
  .have:=h0.hP.bnd q hq;omega
  .omega
 grind
theorem Vk (h:fK B Q w X T Z f s) (g:Fz s m rp P R Y) (hj:j<m) (hd:Hnd w X 0 fl o) (hY:Y j≠[]):
  Calls prog 14 #[X,.string (aX (pJ j))] w λe w'=>(∃a c,e=ar (ao #[an a (Y j).length c,aq true])/\Own aJ 5 w' w (an a (Y j).length c) (Y j))/\KH B Q w w' X T Z f s 0 0 0:=by
 obtain⟨YO,sU,HCl,HH⟩:=cr (Oo h hd g hj) (λ(W:World) (U:Nat->Prop) (hW:fK B U W X T Z f s) (hd:Hnd W X ((j:Int)+2) 1 0)=>RF hW g hj hd hY) (λ(W:World) (U:Nat->Prop) (o:Int) (hW:fK B U W X T Z f s) (hd:Hnd W X ((j:Int)+2) 1 o)=>AV hW g hj hd) h;generalize pJ j=l at*;generalize (j:Int)+2=y at*;obtain⟨n,hn⟩:=aW ((Y j).length);rw[<-hn] at sU⊢;generalize Y j=b at*;clear h g hj hd hY hn
 go_in
 go_wp2_with fail;go_call YO as e w1 ⟨rfl,jA⟩;have pG:=ag jA;clear jA;go_wp2_with fail;go_call(sU.o w1 _ pG.o.1 pG.o.2.2) as e w2 ⟨a,c,rfl,hv,o2,U,hm,hu,hk,hh,hn⟩;obtain⟨HV,HVb,JB,ja,HU2⟩:=ct (hv.mono pG.size) (λq hq=>hv.aN q hq) hm (show Kq (λq=>Q q\/q=X) w w2 from pG.o.2.1.aA hk λq hq=>hq.elim (λh=>h.elim (λh=> .inl (.inl h)) λh=> .inr h.1) λh=> .inl (.inr h)) (show∀q,U q->Q q\/w.heap.size<=q from λq hq=>(hu q hq).elim (λh=>h.imp id λh=>h.1) λh=> .inr (bB pG.size h));obtain⟨HD2,HVn,HXl⟩:=cp hh hn (show∀q,(Value.slice a n c).ownBlock=some q->q≠X from λq hq e=>by have:=(hv.aN q hq).1;have:=pG.size;have:=HH.YL;omega);clear hv hm hu hk hh hn;go_wp2_with fail;go_call(HCl.o w2 _ o2 JB HD2) as e w3 ⟨rfl,EN⟩;obtain⟨AX,HV3⟩:=cn (HH.aAQ ja HU2 EN) (show Own aJ 5 w3 w (an a n c) b from HV.kq EN.2.1 λq hq h=>h.elim (HVn.o q hq) (HXl.o q hq));clear EN;go_wp2;go_ret2;exact⟨⟨a,c,rfl,HV3⟩,AX⟩
end
theorem Zc {P fn} {p q:Tmp} {ty} (h:fn.results=#[.cell p ty,.tmp q]) tmps (w:World) (g:Nat) t cs fr d
  (hp:tmps.getD p undef= .pointer (some ⟨g,0,none⟩)) (hg:w.heap[g]?=some (.cells cs t fr))
  (hu:P.underlying ty=some d) (hd:(match d with| .struct _| .array _ _=>true|_=>false)=true) (hi:(P.info? ty).map (·.size)=some cs.size) v (hv:tmps.getD q undef=v):
  (results fn tmps).run P w= .ok (ao #[.agg cs,v]) w:=by
 have hp':tmps[p]?.getD undef= g:=by simpa using hp
 have hv':tmps[q]?.getD undef=v:=by simpa using hv
 simp[results,h,hp',hv',asAddr,run_loadVar_row w g t ty cs fr d hg hu hd hi]
theorem Zb:(prog.info? 46).map (·.size)=some 5:=az
theorem amW a b c d e:(#[O aa a,O aa b,O aa c,O aa d,aq e]:Array Value).all (·.oneCell')=true:=by simp[Value.oneCell']
theorem ajG a b c d:(#[O aa a,O aa b,O aa c,O aa d]:Array Value).all (·.oneCell')=true:=by simp[Value.oneCell']
theorem ajH:(prog.info? 93).map (·.size)=some 4:=az
section
variable {B X T Z m rp:Nat} {Q:Nat->Prop} {w w':World} {f:Fm} {s:Ps} {P R:Nat->Nat} {Y:Nat->List UInt8}
theorem Ad.Fz.any (g:Fz s m rp P R Y) {n} (h1:1<=n) (h2:n<=4):∃fi,ind s n=bH fi/\wQ s n=0:=by
 obtain⟨a,b⟩:=g.tb.nd n h1 h2;rw[a,b];unfold E8;by_cases e1:n=1
 .rw[ev e1];exact⟨_,rfl,rfl⟩
 .rw[eo e1];by_cases e2:n<m+2
  .rw[ev e2];exact⟨_,rfl,rfl⟩
  .rw[eo e2];exact⟨⟨0,0,0,qx 0 0⟩,rfl,rfl⟩
theorem QZ (h:fK B Q w X T Z f s) (g:Fz s m rp P R Y):Calls prog 42 #[T] w λe w'=>(∃u,e=ar (O aa u))/\bZ 16 B Q w' Z f s/\Kq Q w w':=by
 obtain⟨HI,HLy,HH⟩:=cp (λ(n:Nat) (h1:1<=n) (h2:n<=4)=>show∃fi:Nf,∀W:World,bZ 16 B Q W Z f s->qK W T Z->Calls prog 79 #[T,O aa n] W λe w'=>e=ar (ao #[.agg (dZ fi),O aa 0])/\bZ 16 B Q w' Z f s/\Kq Q W w' from by obtain⟨fi,a1,a2⟩:=g.any h1 h2;refine⟨fi,λW hW hT=>?_⟩;have h:=eY (n:=n) hW hT ae (by rw[g.tb.ino];omega) (by rw[g.tb.ino];omega) (by rw[g.tb.tb];omega);rw[a1,a2] at h;exact h) (λ(W:World) (hW:bZ 16 B Q W Z f s)=>show Calls prog 40 #[Z] W λe w'=>e=ar (.agg #[O aa 2,O aa 3,O aa 36,O aa 4])/\Below W W w' from by have h:=jF hW;rw[g.tb.tb,g.tb.np,g.tb.ino] at h;exact h) h;clear h g
 go_in
 go_wp2
 go_loopw [3,4,5,6] (λv3 v4 _ _ wr=>∃k n:Nat,v3=O aa k/\v4=O aa n/\k<=n/\1<=n/\n<=5/\Hid (fK B Q wr X T Z f s/\Kq Q w wr)) (λ_ v4 _ _ _=>5-(intOf v4).toNat)
 case atStart=>exact⟨0,1,rfl,rfl,ae,ae,ae,ag ⟨HH,Kq.refl _ _⟩⟩
 case round=>
  obtain⟨k,n,rfl,rfl,hk,UH,YK,HW⟩:=hrel;have Vg:=afo (O aa 2) (O aa 3) (O aa 36) (O aa 4);have c0:=HW.o.1.hT.c0;go_wp2_with fail;go_call(HLy.o wr HW.o.1.hP) as e w1 ⟨rfl,bP⟩;obtain⟨nz,iH⟩:=cn (HW.o.1.on bP) (HW.o.2.on bP);clear bP HW;by_cases aT:n<=4
  .have g1:(n:Int)<=4:=ae;obtain⟨fi,jg⟩:=HI.o n UH aT;have HIn:=ag jg;clear jg;have q1:=bq ((k:Int)+1) ⟨ae,ae⟩;have q2:=bq ((n:Int)+1) ⟨ae,ae⟩;go_wp2_with fail;go_call(HIn.o w1 nz.hP nz.hT) as e w2 ⟨rfl,jU,eU⟩;obtain⟨Jt,ja⟩:=cn (nz.ask jU eU) (iH.trans eU);clear jU eU;have qi:=ag (aF.new w2 107 bc);obtain⟨w3,jO⟩:=aW ((w2.alloc (.cells bc 107)).setRow w2 (dZ fi));have mD:Below w2 w2 w3:=by rw[jO];exact((aE _ w2).alloc av _).bU av _
   have tX:aF w3 w2 107 (dZ fi):=by rw[jO];exact qi.row _
   obtain⟨qj,nC,yt,Ar⟩:=cr jO (Jt.on mD) tX mD;clear jO mD tX;unfold dZ at qj;have jZ:=ag (ja.on Ar);have y0:=yt.aj (i:=0) (v:=O aa fi.k) rfl;by_cases hz:fi.k=0
   .rw[hz] at y0
    go_wp2_with (refine aH rfl rfl _ _ _ rfl w2 fi rfl rfl 107 bc qi rfl dC (kL fi) ?_;rw[<-qj.o])
    go_roundw
    case rel=>exact⟨k,n+1,rfl,by go_num,ae,ae,ae,ag ⟨nC,jZ⟩⟩
    case measure=>simp[intOf];omega
   .have tu:(fi.k==0)=false:=by simpa using hz
    go_wp2_with (refine aH rfl rfl _ _ _ rfl w2 fi rfl rfl 107 bc qi rfl dC (kL fi) ?_;rw[<-qj.o])
    go_roundw
    case rel=>exact⟨k+1,n+1,by go_num,by go_num,ae,ae,ae,ag ⟨nC,jZ⟩⟩
    case measure=>simp[intOf];omega
  .have g1:¬(n:Int)<=4:=ae;go_wp2;go_ret;exact⟨⟨_,rfl⟩,nz.hP,iH⟩
theorem JZ (h:fK B Q w X T Z f s) (g:Fz s m rp P R Y):Calls prog 17 #[X] w λe w'=>(∃r u,e=ar (ao #[.agg #[O aa 36,O aa r,O aa 4,O aa u,aq false],O aa 0]))/\bZ 16 B Q w' Z f s/\Kq Q w w':=by
 obtain⟨HU,HRo⟩:=cn (λW (hW:fK B Q W X T Z f s)=>QZ hW g) (λW (hW:fK B Q W X T Z f s)=>show Calls prog 41 #[Z] W λe w'=>e=ar (O aa (36-(s.us.length:Int)))/\Below W W w' from by have h:=Au hW.hP;rw[g.tb.np] at h;exact h);have hul:=g.len;obtain⟨rm,hrm⟩:∃rm:Int,rm=36-(s.us.length:Int):=⟨_,rfl⟩
 rw[<-hrm] at HRo;have q1:=bq (36-rm) ⟨ae,ae⟩;have HLy:=ag (λ(W:World) (hW:bZ 16 B Q W Z f s)=>show Calls prog 40 #[Z] W λe w'=>e=ar (.agg #[O aa 2,O aa 3,O aa 36,O aa 4])/\Below W W w' from by have h:=jF hW;rw[g.tb.tb,g.tb.np,g.tb.ino] at h;exact h);have gu:=(aE w w).alloc av (.cells #[O aa 0,O aa 0,O aa 0,O aa 0,aq false] 46);obtain⟨Aw,HH0,gX⟩:=cp (aF.new w 46 #[O aa 0,O aa 0,O aa 0,O aa 0,aq false]) (h.on gu) gu;obtain⟨HRp,HRx,HRt⟩:=cp (h.hP.aV (bp w)) (show X≠w.heap.size from Nat.ne_of_lt h.YL) (show T≠w.heap.size from Nat.ne_of_lt h.ltT);clear h g hul hrm gu
 go_in
 go_wp2_with fail;obtain⟨Rp,hRp⟩:=aW w.heap.size;rw[<-hRp] at Aw HRp HRx HRt⊢;have HRe:=ag (show w.heap.size<=Rp from ae);clear hRp;generalize w.alloc (.cells #[O aa 0,O aa 0,O aa 0,O aa 0,aq false] 46)=w0 at*;refine(jb HH0).cj ?_;have c1:=HH0.c1;go_wp2_with fail;refine(iF HH0.hT).cj ?_;go_wp2_with fail;go_call(HLy.o w0 HH0.hP) as e w1 ⟨rfl,bP⟩;obtain⟨nz,EJ,bV⟩:=cp (HH0.on bP) (Aw.ah bP) (gX.aA bP);clear bP c1;have HNL:=ag (aF.new w1 93 #[O aa 0,O aa 0,O aa 0,O aa 0]);obtain⟨w2,jT⟩:=aW ((w1.alloc (.cells #[O aa 0,O aa 0,O aa 0,O aa 0] 93)).setRow w1 #[O aa 2,O aa 3,O aa 36,O aa 4]);have aZ:Below w1 w1 w2:=by rw[jT];exact((aE _ w1).alloc av _).bU av _
 have Y5:aF w2 w1 93 #[O aa 2,O aa 3,O aa 36,O aa 4]:=by rw[jT];exact HNL.row _
 obtain⟨HW2,Jt,tC⟩:=cp jT (nz.on aZ) (EJ.ah aZ);obtain⟨df,xW,HLe⟩:=cp (bV.aA aZ) Y5 (show¬Q w1.heap.size/\w1.heap.size≠Rp from⟨nz.hP.aV av,by have:=EJ.lt;omega⟩);clear jT aZ Y5
 go_upto_region 6 with(refine aH rfl rfl _ _ _ rfl w1 #[O aa 2,O aa 3,O aa 36,O aa 4] rfl rfl 93 #[O aa 0,O aa 0,O aa 0,O aa 0] HNL rfl ajH (ajG _ _ _ _) ?_;rw[<-HW2.o])
 obtain⟨Lb,hLb⟩:=aW w1.heap.size;rw[<-hLb] at xW HLe⊢;clear hLb HW2 HNL;obtain⟨je,iO⟩:=cn (show Below w2 w2 w2.drew from ak w2) (λW (h1:aF W Lb 93 #[O aa 2,O aa 3,O aa 36,O aa 4]) (h2:W.cell? (X,1)=some (.pointer (T,0)))=>cJ h1 h2);obtain⟨pO,sU,HLd,xX⟩:=cr (Jt.on je) (tC.ah je) (xW.ah je) (show Kq Q w w2.drew from Kq.of (df.aA je));refine iE (λW'=>aF W' Lb 93 #[O aa 2,O aa 3,O aa 36,O aa 4]/\W'.cell? (X,1)=some (.pointer (T,0))) (iO.o _ HLd pO.c1) (λaY=>?_);generalize w2.drew=W0 at*;refine aS 0 Lb 2 ?_;refine jV 1 36 (λ_ aK=>aK.1.aj (i:=2) (v:=O aa 36) rfl) ?_;refine aS 2 Lb 2 ?_;refine jV 3 36 (λ_ aK=>aK.1.aj (i:=2) (v:=O aa 36) rfl) ?_;refine dw 4 Z 0 ?_;refine aS 7 Lb 3 ?_;refine jV 8 4 (λ_ aK=>aK.1.aj (i:=3) (v:=O aa 4) rfl) ?_;refine dw 9 X 0 ?_;refine aS 10 X 0 ?_;refine aS 11 X 1 ?_;refine kS 12 T (λ_ aK=>aK.2) ?_;refine dw 14 Z 0 ?_;refine bY 5 (λK' hK=>?_);go_simp;go_call(HRo.o W0 pO) as e W3 ⟨rfl,bJ⟩;obtain⟨nC,CY,wR,jZ⟩:=cr (pO.on bJ) (sU.ah bJ) (HLd.ah bJ) (xX.on bJ);clear bJ;refine hK.out _ _ (iO.o _ wR nC.c1) (λiZ=>?_)
 refine iR 6 (36-rm) ?_;refine bY 13 (λK' hK=>?_);go_simp;go_call(HU.o W3 nC) as e W4 ⟨⟨u,rfl⟩,PS,oQ⟩;obtain⟨HH4,HR4,PT,kX⟩:=cr (nC.ask PS oQ) (CY.kq oQ HRp) (wR.kq oQ HLe.o.1) (jZ.trans oQ);clear PS oQ;refine hK.out _ _ (iO.o _ PT HH4.c1) (λqX=>?_)
 refine bY 15 (λK' hK=>?_);go_simp;go_call(tY HH4.hP) as e W5 ⟨rfl,eQ⟩;obtain⟨HH5,ou,HL5,wS⟩:=cr (HH4.on eQ) (HR4.ah eQ) (PT.ah eQ) (kX.on eQ);clear eQ;refine hK.out _ _ (iO.o _ HL5 HH5.c1) (λnZ=>?_)
 refine eX 16 (.agg #[O aa 36,O aa (36-rm),O aa 4,O aa u,aq false]) ?_;refine bY 17 (λK' hK=>?_);refine gV rfl _ _ _ rfl Rp #[O aa 36,O aa (36-rm),O aa 4,O aa u,aq false] rfl rfl 46 _ ou.o Zb rfl (amW _ _ _ _ _) ?_;obtain⟨w6,hw6⟩:=aW (W5.setRow Rp #[O aa 36,O aa (36-rm),O aa 4,O aa u,aq false]);rw[<-hw6];have tH:Kq (λq=>q=Rp) W5 w6:=by rw[hw6];exact gJ _ _ _
 obtain⟨HR6,HH6,NH,ql⟩:=cr (show aF w6 Rp 46 #[O aa 36,O aa (36-rm),O aa 4,O aa u,aq false] from by rw[hw6];exact ou.row _) (HH5.far tH HRt HRx λq hq e=>HRp.o (e▸hq)) (HL5.kq tH HLe.o.2) (wS.aA tH λq hq=> .inr (by rw[hq];exact HRe.o));clear hw6 tH;refine hK.out _ _ (iO.o _ NH HH6.c1) (λqy=>?_)
 refine dI 18 0 ?_;refine eH ?_;clear aY iZ qX nZ qy;go_wp2;refine bodyPost_ret (Zc rfl _ _ Rp _ _ _ _ rfl HR6.o Tryz.underlying46 rfl Zb _ rfl) rfl ?_;exact⟨⟨_,_,rfl⟩,HH6.hP,ql.o⟩
end
end
section
open RowKit
def Q5:=bt 16 bv0
theorem afq u:(Instr.makeSlice 74 (O aa 16) (O aa 16)).run prog u= .ok (an (u,0) 16 16) (u.alloc (.cells (Q5.flatMap EK).toArray 121)):=by
 kernel_rfl
theorem ajL (u:World) base (hb:base<=u.heap.size):bQ 5 EK 121 (u.alloc (.cells (Q5.flatMap EK).toArray 121)) base (an (u,0) 16 16) Q5:=
 ⟨afr,NV,.inr ⟨u.heap.size,16,_,rfl,hb,heap_alloc_new u _,bp _,aB,NV,NV⟩⟩
def Zd (ps:Nat->Nat) k j:=if j<k then Ir (ps j) (fresh 0) else bv0
structure BlJ g w wr k ps:Prop where
 hG:aF wr g 60 #[O aa 16,O aa 8,O aa 64]
 hC:aF wr (g+2) 76 (chQ 16 (g+1) 0 0 0)
 hB:bQ 5 EK 121 wr g (an (g+1,0) 16 16) ((cz 16).map (Zd ps k))
 hP:∀j,j<k->Own CZ 23 wr g (an (ps j,0) 8 8) lh/\g+2<ps j/\ps j<wr
 inj:∀i j,i<k->j<k->ps i=ps j->i=j
 hb:Below g w wr
theorem BlJ.on {g k w wr w' ps} (h:BlJ g w wr k ps) (hb:Below wr wr w'):BlJ g w w' k ps:=by obtain⟨h1,h2,h3,h4,h5,h6⟩:=h;exact⟨h1.ah hb,h2.ah hb,h3.on hb,λj hj=>⟨(h4 j hj).1.on hb,(h4 j hj).2.1,cM (h4 j hj).2.2 hb.size⟩,h5,h6.trans (hb.mono (Nat.le_of_lt h1.lt))⟩
theorem BlJ.step {g k w wr ps} (h:BlJ g w wr k ps) (hk:k<16):
  BlJ g w ((wr.alloc (.cells (lh.map CZ).toArray 23)).setCell (g+1,k*5) (an (wr,0) 8 8)) (k+1) (upd ps k wr):=by
 have aT:=h.hC.lt;have hbe:=h.hb;have ho:=Ze wr g ae;have hold:=λj hj=>(h.hP j hj).2.2;have ajM:=h.inj;have iG:(wr.alloc (.cells (lh.map CZ).toArray 23)).heap.size=wr.heap.size+1:=au;obtain⟨h1,h2,h3,h4,h5,h6⟩:=h.on ((aE wr wr).alloc av (.cells (lh.map CZ).toArray 23));generalize wr.alloc (.cells (lh.map CZ).toArray 23)=wp at*;have C9:=h3.set (i:=k) (j:=0) (u:=an (wr.heap.size,0) 8 8) (y:=Ir wr (fresh 0)) (by simpa using hk) ae (by rw[List.getElem_map,List.getElem_range,Zd,eo (Nat.lt_irrefl _)];rfl);refine⟨h1.far au _,h2.far au _,?_,λj hj=>?_,λi j hi hj e=>?_,h6.setCell (p:=⟨g+1,k*5,none⟩) au _⟩
 .have e:((cz 16).map (Zd ps k)).set k (Ir wr (fresh 0))=(cz 16).map (Zd (upd ps k wr) (k+1)):=by
   apply List.ext_getElem
   .simp
   .intro i g1 g2;rw[List.getElem_set];simp only[List.getElem_map,List.getElem_range,Zd];by_cases e:k=i
    .subst e;rw[ev rfl,ev ae,upd_same]
    .rw[eo e,aG _ _ (Ne.symm e)];grind
  rw[e] at C9;exact C9
 .by_cases e:j=k
  .subst e;rw[upd_same];exact⟨ho.far (by simp[Value.ownBlock];omega) _,aT,by rw[cT];omega⟩
  .rw[aG _ _ e];obtain⟨p1,p2,p3⟩:=h4 j ae;exact⟨p1.far (by simp[Value.ownBlock];omega) _,p2,by rw[cT];exact p3⟩
 .by_cases e1:i=k
  .by_cases e2:j=k
   .rw[e1,e2]
   .rw[e1,upd_same,aG _ _ e2] at e;have:=hold j ae;omega
  .by_cases e2:j=k
   .rw[e2,upd_same,aG _ _ e1] at e;have:=hold i ae;omega
   .rw[aG _ _ e1,aG _ _ e2] at e;exact ajM i j ae ae e
theorem Q8 w:
  Calls prog 58 #[.agg #[O aa 16,O aa 8,O aa 64]] w λe w'=>e=ar (.pointer (some ⟨w+2,0,none⟩))/\∃ps,BlJ w w w' 16 ps:=by
 have B1:=aF.new w 60 #[O aa 16,O aa 8,O aa 64];have hb:=(aE w w).alloc av (.cells #[O aa 16,O aa 8,O aa 64] 60);obtain⟨w1,ku⟩:=aW (w.alloc (.cells #[O aa 16,O aa 8,O aa 64] 60));obtain⟨g,hg⟩:=aW w.heap.size;have jA:w1.heap.size=g+1:=by rw[ku,hg];simp
 rw[<-ku] at B1 hb;rw[<-hg] at B1 hb⊢;obtain⟨sW,HB,pG⟩:=cp (show aF w1.drew g 60 #[O aa 16,O aa 8,O aa 64] from B1) hb jA;have wI:=afq w1.drew;have HBg:=ag B1;have hC0:=aF.new (w1.alloc (.cells (Q5.flatMap EK).toArray 121)) 76 (chQ 16 (g+1) 0 0 0);have hG0:=(B1.alloc (.cells (Q5.flatMap EK).toArray 121)).alloc (.cells (chQ 16 (g+1) 0 0 0) 76);have hO0:=(ajL w1 g ae).alloc (.cells (chQ 16 (g+1) 0 0 0) 76);have hB0:=(hb.alloc ae (.cells (Q5.flatMap EK).toArray 121)).alloc (by simp;omega) (.cells (chQ 16 (g+1) 0 0 0) 76);rw[bR,jA] at hC0;rw[jA] at hO0;have HI:=ag (show BlJ g w ((w1.alloc (.cells (Q5.flatMap EK).toArray 121)).alloc (.cells (chQ 16 (g+1) 0 0 0) 76)) 0 (λ_=>0) from⟨hG0,hC0,hO0,λ_ h=>absurd h ae,λ_ _ h=>absurd h ae,hB0⟩);clear B1 hb hC0 hG0 hO0 hB0
 go_in
 go_wp2_with fail;rw[<-ku,<-hg];clear ku hg jA;refine iE (λW'=>aF W' g 60 #[O aa 16,O aa 8,O aa 64]) sW.o (λaY=>?_);refine jE 0 (.agg #[O aa 16,O aa 8,O aa 64]) rfl (λ_ aK=>by have y0:=aK.aj (i:=0) rfl;have y1:=aK.aj (i:=1) rfl;have y2:=aK.aj (i:=2) rfl;go_simp) ?_;refine aS 1 g 0 ?_;refine jV 2 16 (λ_ aK=>aK.aj (i:=0) rfl) ?_;refine bY 3 (λK' hK=>?_);go_simp;refine hK.out _ _ (HBg.alloc _).drew (λdh=>?_)
 refine eX 4 (.agg #[O aa 16,O aa 8,O aa 64,an (w1.heap.size,0) 16 16,an none 0 0,O aa 0,aq false,O aa 0,O aa 0]) ?_;refine bY 5 (λK' hK=>?_);go_simp;refine hK.out _ _ ((HBg.alloc _).alloc _).drew (λfE=>?_)
 refine dw 6 (w1.heap.size+1) 0 ?_;refine eH ?_;clear aY dh fE wI;rw[pG.o];change Exit.then _ _ _ _ ((w1.alloc (.cells (Q5.flatMap EK).toArray 121)).alloc (.cells (chQ 16 (g+1) 0 0 0) 76)).drew;have qY:=HI.on (ak _);generalize ((w1.alloc (.cells (Q5.flatMap EK).toArray 121)).alloc (.cells (chQ 16 (g+1) 0 0 0) 76)).drew=w3 at*;have c3:w3.cell? (g+1+1,3)=some (an (g+1,0) 16 16):=qY.hC.aj rfl;have HJ:=ag qY;clear HI qY HB sW HBg pG;go_wp2_with fail
 go_loopw [4,16] (λ_ i wr=>∃k:Nat,k<=16/\i=O aa k/\∃ps,BlJ g w wr k ps) (λ_ i _=>16-(intOf i).toNat)
 case atStart=>exact⟨0,ae,rfl,_,HJ⟩
 case round=>
  obtain⟨k,hk,rfl,ps,hI⟩:=hrel;have HI:=ag hI;clear HJ;by_cases aT:k<16
  .have hst:=(hI.step aT).on (ak _);have jI:=ag hst;have wI:=Rf wr.drew;have k0:(0:Int)<=(k:Int):=ae;have k1:(k:Int)<16:=ae;have e3:wr.drew.cell? (g+1+1,3)=some (an (g+1,0) 16 16):=(hI.on (ak _)).hC.aj rfl;have e1:wr.drew.cell? (g,1)=some (O aa 8):=(hI.on (ak _)).hG.aj rfl;have hgl:=hI.hC.lt;have HA:=ag (hI.on (((aE wr wr).alloc av (.cells (lh.map CZ).toArray 23)).drew));obtain⟨z1,z2⟩:=HA.hB.dU (i:=k) (j:=0) (by simpa using aT) ae;obtain⟨vz,z3⟩:∃vz,((wr.alloc (.cells (lh.map CZ).toArray 23)).drew).cell? (g+1,k*5)=some vz:=⟨_,z1⟩
   have z4:((wr.alloc (.cells (lh.map CZ).toArray 23)).drew).frozen? (g+1,k*5)=false:=z2;clear hst z1 z2 hI;go_upto_region 5 with fail;refine iE (λW'=>W'.cell? (g+1+1,3)=some (an (g+1,0) 16 16)/\W'.cell? (g,1)=some (O aa 8)) ⟨e3,e1⟩ (λaY=>?_);refine dw 0 (g+1+1) 0 ?_;refine aS 1 (g+1+1) 0 ?_;refine aS 2 (g+1+1) 3 ?_;refine kS 3 (an (g+1,0) 16 16) (λ_ aK=>aK.1) ?_;refine dI 4 (k:Int) ?_;refine aS 5 g 1 ?_;refine jV 6 8 (λ_ aK=>aK.2) ?_;refine bY 7 (λK' hK=>?_);go_simp;have hlC:g+1+1<wr.drew.heap.size:=hgl;have hlG:g<wr.drew.heap.size:=by show g<wr.heap.size;omega
   have fM:=(aE wr.drew wr.drew).alloc av (.cells (lh.map CZ).toArray 23);refine hK.out _ _ ⟨(fM.cell (p:=⟨g+1+1,3,none⟩) hlC).trans aY.1,(fM.cell (p:=⟨g,1,none⟩) hlG).trans aY.2⟩ (λdh=>?_)
   refine aS 8 (g+1) (k*5) ?_;refine aS 9 (g+1) (k*5) ?_;refine bY 10 (λK' hK=>?_);go_simp;refine hK.out _ _ ⟨(cK _ _ _ _ au).trans dh.1,(cK _ _ _ _ au).trans dh.2⟩ (λfE=>?_)
   refine eH ?_;clear aY dh fE wI fM;go_wp2_with fail;go_roundw
   case rel=>exact⟨k+1,ae,by go_num,_,jI⟩
   case measure=>simp[intOf];omega
  .obtain rfl:k=16:=ae;clear hI;go_wp2_with fail;go_ret;exact⟨rfl,_,HI⟩
theorem BlJ.chm {g B w wr ps} (h:BlJ g w wr 16 ps) (hB:B<=g):eu 16 B (λq=>g<=q/\q<wr) wr (g+2) (g+1) ps (λ_=>fresh 0):=by
 obtain⟨h1,h2,h3,h4,h5,h6⟩:=h;have aT:=h2.lt;have e:(cz 16).map (Zd ps 16)=(cz 16).map λk=>Ir (ps k) (fresh 0):=dp λj hj=>by rw[Zd,ev (List.mem_range.1 hj)]
 rw[e] at h3;refine⟨⟨an none 0 0,0,0,0,h2,.inl ⟨rfl,rfl⟩⟩,h3.mono (bN _),λk hk=>⟨lh,rfl,(h4 k hk).1.mono (bN _),λi hi=>?_⟩,⟨ae,λj hj=>?_,λj hj=>?_,h5⟩,λq hq=>?_,λq hq=>ae,λq hq=>hq.2⟩
 .exact List.eq_of_mem_replicate (n:=8) (cS hi)
 .grind
 .grind
 .rcases hq with rfl|rfl|⟨j,hj,rfl⟩
  .exact⟨ae,aT⟩
  .exact⟨ae,ae⟩
  grind
theorem Vh w:
  Calls prog 21 #[.agg #[O aa 16,O aa 8,O aa 64],an none 0 0] w λe w'=>(∃S C BL ps,e=ar (ao #[.pointer (some ⟨C,0,none⟩),O aa 0])/\eu 16 w S w' C BL ps (λ_=>fresh 0))/\Below w w w':=by
 obtain⟨B1,gX⟩:=cn (aF.new w 60 #[O aa 16,O aa 8,O aa 64]) ((aE w w).alloc av (.cells #[O aa 16,O aa 8,O aa 64] 60))
 go_in
 obtain⟨c0,c1,c2⟩:=B1.c3;go_wp2_with fail;go_call(Gw 16 aB aB _) as e w1 ⟨rfl,hb⟩;have bV:=ag (gX.aA hb);have B2:=B1.ah hb;clear hb c0 c1 c2 gX B1;obtain⟨c0,c1,c2⟩:=B2.c3;clear B2;go_wp2_with fail;go_call(Q8 _) as e w2 ⟨rfl,ps,hI⟩;obtain⟨df,HC⟩:=cn (bV.aA hI.hb) (hI.chm (B:=w.heap.size) bV.size);generalize w1.heap.size=g at*;clear hI c0 c1 c2;go_wp2
 go_loopw [8,16] (λ_ i wr=>i=O aa 0/\wr=w2) (λ_ _ _=>0)
 case atStart=>exact⟨rfl,rfl⟩
 case round=>obtain⟨rfl,rfl⟩:=hrel;go_wp2;go_ret2;exact⟨⟨_,_,_,_,rfl,HC⟩,df⟩
end
section
open RowKit Maps ChangeMaps dY fG Bo
def aft (NB:Nat) (g:Mg):={g with bl:=upd g.bl NB {g.bl NB with bad:=true,aC:=0,nx:=2}}
def Zf (NB:Nat) (f:Fm):={f with g:=aft NB f.g}
namespace dY
theorem Fi.scr {NB n x g E} (h:Fi NB n x g E) (hb:(g.bl NB).bad=false) (hg:g.gh=λ_=>True):Fi NB n x (aft NB g) E:=by
 have ho:∀k,k<NB->(aft NB g).bl k=g.bl k:=λk hk=>aG _ _ (Nat.ne_of_lt hk);have hs:(aft NB g).bl NB={g.bl NB with bad:=true,aC:=0,nx:=2}:=upd_same _ _ _;refine⟨h.nb,⟨h.w.len,λk hk=>by rw[ho k hk];exact h.w.bk k hk,h.w.gap,h.w.opn,h.w.even,h.w.hm,h.w.hl⟩,λe he=>?_,h.ok,h.res,h.bad,λk i L _ _ _=>?_,λk hk hs i hi=>by rw[ho k hk];exact h.er k hk hs i hi,?_,?_,λ_ L=>?_,λe=>?_⟩
 .have hk:=h.w.hm e.b (List.mem_append_left _ (bw.2 ⟨e,he,rfl⟩));obtain⟨a1,a2,a3⟩:=h.pg e he;exact⟨by rw[ho _ hk];exact a1,by rw[ho _ hk];exact a2,a3⟩
 .show g.gh L;rw[hg];trivial
 .rw[hs];have:=h.md hb;show Gc.count 4 g.l+2<=2;omega
 .grind
 .show g.gh L;rw[hg];trivial
 .rw[hs] at e;cases e
theorem Fc.scr {NB f} (h:Fc NB f) (hb:(f.g.bl NB).bad=false) (hg:f.g.gh=λ_=>True):Fc NB (Zf NB f):=
 ⟨h.fi.scr hb hg,h.fr,h.cap,h.ov,h.sq,h.gk,h.n0,h.g0,h.zi.row rfl rfl⟩
end dY
theorem Cl.scr {NB f} (h:Cl f):Cl (Zf NB f):=⟨h.no,h.go,h.gh,h.s0,h.len,h.ky⟩
section
variable {B X T Z m cd:Nat} {Q:Nat->Prop} {w:World} {f:Fm} {s:Ps} {ad:Option Addr} {data:List UInt8} {v:Value} {rs:List Fs}
theorem J3 (h:fK B Q w X T Z f s) (hb:(f.g.bl 16).bad=false) (hg:f.g.gh=λ_=>True) (hl:bQ 3 Va 35 w 0 v rs) (hn:rs.length<=2) (h0:∀y∈rs,0<=y.no/\y.kind=3/\y.a=ad/\y.n=m/\y.c=cd) (hx:Bytes w w ad m data) (hm:data.length<=96) (hlQ:∀g,v.ownBlock=some g->¬Q g) (hdQ:m≠0->∀b o,ad=some ⟨b,o,none⟩->¬Q b):
  Calls prog 10 #[f.g.C,v] w λe w'=>e=ar (O aa 0)/\fK B (Up Q w w') w' X T Z (Zf 16 f) s/\Kq (λk=>k=f.g.C) w w'/\Q f.g.C:=by
 obtain⟨U,D,dl,R,hp,hQ,nJ⟩:=h.hP;obtain⟨S,hf,hR,hRb⟩:=hp.hf;have hRQ:∀q,R q->Q q:=λq hq=>hQ q (.inr (.inr (.inr (.inl hq))));have hSR:∀q,S q->R q:=λq hq=>hR q (.inr (.inr (.inr hq)));have hSC:S f.g.C:=hf.hg.hc.hS _ (.inl rfl);have hQC:=hRQ _ (hSR _ hSC);refine(J4 hf.hg.hc hl hn h0 hx hm (λg e hs=>hlQ g e (hRQ _ (hSR _ hs))) λhm0 b o e hs=>hdQ hm0 b o e (hRQ _ (hSR _ hs))).mono ?_;rintro e w' ⟨rfl,hc,hk⟩;have iG:=hk.size;have aT:∀q,R q->q<w.heap.size:=λq hq=>(hRb q hq).2;have hnR:∀q,q<w.heap.size->¬R q->¬Up R w w' q:=λq hl hn hu=>hn (fA hu hl);have hM:fF 16 B (Up S w w') w' (aft 16 f.g):=⟨hf.hg.hM.kq hk λe=>hf.hg.sM (e▸hSC),hf.hg.hL.kq hk λg hgo e=>by obtain rfl:=dP _ _ _ _ hgo;exact hf.hg.sL (e▸hSC),hc,hf.hg.ne,λhu=>hf.hg.sM (fA hu hf.hg.hM.lt),λhu=>hf.hg.sL (fA hu (hf.hg.hL.aN _ rfl).2),hf.hg.bM,hf.hg.bL,hf.hg.nb⟩
 have Dc:=hf.mgr hM (hk.mono λq e=> .inr (.inr (e▸hSC))) (λq h=>h) rfl rfl rfl rfl rfl;have hft:cu 16 B (Up R w w') w' (Zf 16 f):=⟨_,Dc,λq hq=>by
  rcases hq with hq|hq|hq|hq|hq
  .exact .inl (hR q (.inl hq))
  .exact .inl (hR q (.inr (.inl hq)))
  .exact .inl (hR q (.inr (.inr (.inl hq))))
  .exact .inl (hSR q hq)
  .exact .inr hq,λq hq=>by
  rcases hq with hq|hq
  .have:=hRb q hq;omega
  .have:=h.hP.base;omega⟩
 have di:∀q,¬R q->¬q=f.g.C:=λq hn e=>hn (e▸hSR _ hSC);have hDl:=hp.hD.lt;have hUl:=hp.hU.lt;have hpc:yu 16 B (Up R w w') w' Z U D dl (Zf 16 f) s:=⟨hp.hP.kq hk (di _ hp.nr.1),hp.hU.same (hk.block _ hUl (di _ hp.nr.2.1)),hp.hD.same (hk.block _ hDl (di _ hp.nr.2.2)),hft,hp.fc.scr hb hg,hp.ok,hp.bd,hp.dt,λd hd=>(hp.ow d hd).kq hk λq hq=>di q (hp.nu d hd q hq).2.2.2,hp.g,hp.ne,⟨hnR _ hp.hP.lt hp.nr.1,hnR _ hUl hp.nr.2.1,hnR _ hDl hp.nr.2.2⟩,λd hd q hq=>⟨(hp.nu d hd q hq).1,(hp.nu d hd q hq).2.1,(hp.nu d hd q hq).2.2.1,hnR q ((hp.ow d hd).aN q hq).2 (hp.nu d hd q hq).2.2.2⟩,hp.dy⟩
 have hnQ:∀q,q<w.heap.size->¬Q q->¬Up Q w w' q:=λq hl hn hu=>hn (fA hu hl);have at7:∀q,¬Q q->¬q=f.g.C:=λq hn e=>hn (e▸hQC);refine⟨rfl,⟨?_,h.hT.kq hk (at7 _ h.nT),⟨U,D,dl,_,hpc,λq hq=>?_,λq hq=>?_⟩,hnQ _ h.ltT h.nT,hnQ _ h.YL h.nX⟩,hk,hQC⟩
 .obtain⟨a,b,c,hX⟩:=h.hX;exact⟨a,b,c,hX.kq hk (at7 _ h.nX)⟩
 .rcases hq with hq|hq|hq|hq|hq
  .exact .inl (hQ q (.inl hq))
  .exact .inl (hQ q (.inr (.inl hq)))
  .exact .inl (hQ q (.inr (.inr (.inl hq))))
  .exact hq.imp (hRQ q) id
  .exact .inl (hQ q (.inr (.inr (.inr (.inr hq)))))
 .rcases hq with hq|hq
  .have:=nJ q hq;omega
  .have:=h.hP.base;omega
end
end
section
open RowKit Maps ChangeMaps dY fG Bo Opn
def Mtd (w:World) (e:Ending) w':=
 ∃B X T Z Q f,e=ar (ao #[.pointer (some ⟨X,0,none⟩),.pointer (some ⟨f.g.C,0,none⟩)])/\w.heap.size<=B/\fK B Q w' X T Z f (Ps.gY f 2 36 4)/\Hnd w' X 0 0 0/\w<=X/\w<=T/\Od f/\Below w w w'
theorem Aq w:Calls prog 5 #[O aa 16] w (Mtd w):=by
 go_in
 go_wp2_with fail;go_call(Vh w) as e w1 ⟨⟨S,C,BL,ps,rfl,hc⟩,bP⟩;obtain⟨HC,bV⟩:=cn hc bP;clear hc bP;go_wp2_with fail;go_call(J5 HC) as e w2 ⟨rfl,Q,f,hf,hd,hfC,hQ,hK⟩;obtain⟨HF,HD,HFC,df,HQ⟩:=ct hf hd hfC (show Below w w w2 from bV.trans (hK.below (λq hq=>HC.lo q hq) bV.size)) (show∀q,Q q->w.heap.size<=q from λq hq=>(hQ q hq).elim (HC.lo q) λh=>by have:=bV.size;omega);clear hf hd hfC hQ hK;go_wp2_with fail;go_call(show Calls prog 23 #[C] w2 _ from by have h:=NW HF HD.o;rw[HFC.o] at h;exact h) as e w3 ⟨X,T,Z,Q2,f2,rfl,hm,hd,hX,hT,hC2,hO,hK⟩;obtain⟨HXT,HDd,HM⟩:=cp (show w.heap.size<=X/\w.heap.size<=T from by have:=df.size;omega) hd hm;obtain⟨HCC,HO,cO⟩:=cp (show f2.g.C=C from hC2) hO (show Below w w w3 from df.trans (hK.below HQ df.size));clear hm hd hX hT hC2 hO hK;go_wp2;go_ret2;exact⟨w.heap.size,X,T,Z,Q2,f2,by rw[HCC.o];rfl,bp _,HM,HDd,HXT.o.1,HXT.o.2,HO,cO⟩
end
section
open RowKit Maps ChangeMaps dY fG Bo vG Ad
namespace Ad
def eqN (a b:aO):=decide (a.k=b.k/\a.l=b.l/\a.s=b.s/\a.d0=b.d0/\a.d1=b.d1/\a.d2=b.d2/\a.d3=b.d3/\a.d4=b.d4/\a.d5=b.d5/\a.a=b.a/\a.b=b.b)
theorem Rh {a b} (h:eqN a b=true):a=b:=by
 obtain⟨h1,h2,h3,h4,h5,h6,h7,h8,h9,J6,Zg⟩:=of_decide_eq_true h
 cases a;cases b
 grind
theorem Fz.start {f} (ho:Od f) (zJ:(Ps.gY f 2 36 4).Ok):Fz (Ps.gY f 2 36 4) 0 0 (λ_=>0) (λ_=>0) λ_=>[]:=by
 have h1:(Ps.gY f 2 36 4).g 1=aO.putAt fG.zeros 0 (bH (dN 1 0 0)):=by show(if 1<=1/\1<=2 then EL f [] 1 else[])=_;rw[ev ae];obtain⟨e,he,hd⟩:=ho.fo.v1;unfold EL;rw[show uC.get [] 1=none from rfl];unfold vw;rw[he];exact hd
 have h2:(Ps.gY f 2 36 4).g 2=fG.zeros:=by show(if 1<=2/\2<=2 then EL f [] 2 else[])=_;rw[ev ae];unfold EL;rw[show uC.get [] 2=none from rfl];unfold vw;rw[ho.fo.vn 2 ae];rfl
 have hzb:∀k:Nat,k<2->eqN (aO.qA fG.zeros (k:Int)) zN=true/\aO.aI fG.zeros (k:Int)=0:=iW;have h3b:(eqN (aO.qA (aO.putAt fG.zeros 0 (bH (dN 1 0 0))) ((0:Nat):Int)) (bH (dN 1 0 0))=true/\aO.aI (aO.putAt fG.zeros 0 (bH (dN 1 0 0))) ((0:Nat):Int)=0)/\eqN (aO.qA (aO.putAt fG.zeros 0 (bH (dN 1 0 0))) ((1:Nat):Int)) zN=true/\aO.aI (aO.putAt fG.zeros 0 (bH (dN 1 0 0))) ((1:Nat):Int)=0:=iW;refine⟨⟨rfl,rfl,rfl,zJ,λn n1 n2=>?_⟩,bN _,λ_=>rfl,λh=>ae,λj hj=>ae,⟨λ_=>0,λh=>ae,λj hj=>ae⟩,λn hn=>by cases hn⟩;unfold ind wQ E8;obtain rfl|rfl|rfl|rfl:n=1\/n=2\/n=3\/n=4:=ae
 .show aO.qA ((Ps.gY f 2 36 4).g 1) ((0:Nat):Int)=_/\aO.aI ((Ps.gY f 2 36 4).g 1) ((0:Nat):Int)=0;rw[h1];exact⟨Rh h3b.1.1,h3b.1.2⟩
 .show aO.qA ((Ps.gY f 2 36 4).g 1) ((1:Nat):Int)=_/\aO.aI ((Ps.gY f 2 36 4).g 1) ((1:Nat):Int)=0;rw[h1];exact⟨Rh h3b.2.1,h3b.2.2⟩
 .show aO.qA ((Ps.gY f 2 36 4).g 2) ((0:Nat):Int)=_/\aO.aI ((Ps.gY f 2 36 4).g 2) ((0:Nat):Int)=0;rw[h2];exact⟨Rh (hzb 0 ae).1,(hzb 0 ae).2⟩
 .show aO.qA ((Ps.gY f 2 36 4).g 2) ((1:Nat):Int)=_/\aO.aI ((Ps.gY f 2 36 4).g 2) ((1:Nat):Int)=0;rw[h2];exact⟨Rh (hzb 1 ae).1,(hzb 1 ae).2⟩
def sqB k:=4+5*min k 3+4*(k-min k 3)
def Sy B Q w X T Z C k:=
 ∃f s rp P R Y,fK B Q w X T Z f s/\Fz s (min k 3) rp P R Y/\(∀n,¬s.dy n)/\Cl f/\Hnd w X 0 0 0/\f.seq<=sqB k/\f.g.C=C
def SyP B Q w X T Z C k b:=
 ∃f s0 s rp P R Y Y0,fK B Q w X T Z f s/\aoW s0 (min k 3) (k%3) Y0 b s rp P R Y/\(∀n,¬s0.dy n)/\Cl f/\Hnd w X 0 0 0/\f.seq<=sqB k/\f.g.C=C
def SyG B Q w X T Z C k b:=
 ∃f s rp P R Y,fK B Q w X T Z f s/\Fz s (min (k+1) 3) rp P R Y/\Y (k%3)=b/\(∀n,¬s.dy n)/\Cl f/\Hnd w X 0 0 0/\f.seq<=sqB (k+1)/\f.g.C=C
end Ad
section
variable {B X T Z C k n c:Nat} {Q U:Nat->Prop} {w w':World} {a:Option Addr} {b:List UInt8}
theorem Ad.Sy.far (h:Sy B Q w X T Z C k) (hk:Kq U w w') (hT:¬U T) (hX:¬U X) (hQ:∀q,Q q->¬U q):Sy B Q w' X T Z C k:=by obtain⟨f,s,rp,P,R,Y,h1,h2,h3,h4,h5,h6,h7⟩:=h;exact⟨f,s,rp,P,R,Y,h1.far hk hT hX hQ,h2,h3,h4,h5.kq hk hX,h6,h7⟩
theorem Ad.SyP.far (h:SyP B Q w X T Z C k b) (hk:Kq U w w') (hT:¬U T) (hX:¬U X) (hQ:∀q,Q q->¬U q):SyP B Q w' X T Z C k b:=by obtain⟨f,s0,s,rp,P,R,Y,Y0,h1,h2,h3,h4,h5,h6,h7⟩:=h;exact⟨f,s0,s,rp,P,R,Y,Y0,h1.far hk hT hX hQ,h2,h3,h4,h5.kq hk hX,h6,h7⟩
theorem Ad.SyG.far (h:SyG B Q w X T Z C k b) (hk:Kq U w w') (hT:¬U T) (hX:¬U X) (hQ:∀q,Q q->¬U q):SyG B Q w' X T Z C k b:=by obtain⟨f,s,rp,P,R,Y,h1,h2,h2',h3,h4,h5,h6,h7⟩:=h;exact⟨f,s,rp,P,R,Y,h1.far hk hT hX hQ,h2,h2',h3,h4,h5.kq hk hX,h6,h7⟩
theorem Gu (h:Sy B Q w X T Z C k) (hx:Bytes w w a n b) (uD:n<=c) (hb:b≠[]) (hn:n<=128) (YM:∀bl o,a=some ⟨bl,o,none⟩->¬Q bl/\bl≠X):
  Calls prog 12 #[X,.string (aX (pJ (k%3))),an a n c] w λe w'=>e=ar (aq true)/\SyP B (Up Q w w') w' X T Z C k b/\Kq (λq=>Q q\/q=X) w w':=by
 obtain⟨f,s,rp,P,R,Y,h1,h2,h3,h4,h5,h6,h7⟩:=h;refine(Vj h1 h2 ae ae h5 h3 hx uD hb hn YM).mono ?_;rintro e w' ⟨rfl,s',pI,P',R',Y',hp,hs⟩;exact⟨rfl,⟨f,s,s',pI,P',R',Y',Y,hs.1,hp,h3,h4,hs.2.2,h6,h7⟩,hs.2.1⟩
theorem Ad.ajO k:max (min k 3) (k%3+1)=min (k+1) 3:=ae
theorem CX (h:SyP B Q w X T Z C k b) (hk:k<40) (hb:k<3->b.length<=64):
  Calls prog 13 #[X] w λe w'=>e=ar (O aa 0)/\SyG B (Up Q w w') w' X T Z C k b/\Kq Q w w':=by
 obtain⟨f,s0,s,rp,P,R,Y,Y0,h1,h2,h3,h4,h5,h6,h7⟩:=h;have hz:=h2.z;rw[ajO] at hz;have Az:∀n,s.dy n->n≠0:=λn hn=>by
  rcases fG.bZ.dyT h1.hP hn with h|h
  .omega
  .exact hz.no0 n h
 obtain⟨L,l1,l2,l3⟩:∃L:List Nat,L.Nodup/\(∀n,s.dy n↔n∈L)/\L.length<=if k<3 then 4 else 3:=by
  by_cases h:k<3
  .rw[ev h];refine Ri [1+(k%3+1)/2,1,rp,P (k%3)] λn hn=>?_;rcases h2.dy n hn with h'|h'|⟨_,h'|h'⟩|h'|h'
   .exact absurd h' (h3 n)
   .rw[h'];simp
   .rw[h'];simp
   .rw[h'];simp
   .rw[h'];simp
   .exact absurd (h'.trans (h2.sh (hb h))) (Az n hn)
  .rw[eo h];refine Ri [1+(k%3+1)/2,P (k%3),R (k%3)] λn hn=>?_;rcases h2.dy n hn with h'|h'|⟨h',_⟩|h'|h'
   .exact absurd h' (h3 n)
   .rw[h'];simp
   .omega
   .rw[h'];simp
   .rw[h'];simp
 unfold sqB at h6;have hl:L.length<=4/\(3<=k->L.length<=3):=by split at l3<;>omega
 refine(Rj h1 h4 l1 l2 ae hz.tb.tb ⟨hz.tb.np,hz.tb.ino⟩ hz.len (λq hq=>(hz.tb.us hq).2) ae).mono ?_;rintro e w' ⟨rfl,f',hr,hc,hs,hC⟩;exact⟨rfl,⟨f',s.clean,rp,P,R,Y,hr.1,hz.clean _,h2.e,λn h=>h,hc,h5.kq hr.2 h1.nX,by unfold sqB;omega,hC.trans h7⟩,hr.2⟩
theorem Gv (h:SyG B Q w X T Z C k b) (hb:b≠[]):
  Calls prog 14 #[X,.string (aX (pJ (k%3)))] w λe w'=>(∃a c,e=ar (ao #[an a b.length c,aq true])/\Own aJ 5 w' w (an a b.length c) b)/\Sy B (Up Q w w') w' X T Z C (k+1)/\Kq (λq=>Q q\/q=X) w w':=by
 obtain⟨f,s,rp,P,R,Y,h1,h2,h2',h3,h4,h5,h6,h7⟩:=h;subst h2';refine(Vk h1 h2 ae h5 hb).mono ?_;rintro e w' ⟨ha,hs⟩;exact⟨ha,⟨f,s,rp,P,R,Y,hs.1,h2,h3,h4,hs.2.2,h6,h7⟩,hs.2.1⟩
theorem Vf (h:Sy B Q w X T Z C k) (hk:k<=40):
  Calls prog 16 #[C] w λe w'=>(∃d,d<=4/\e=ar (O aa d))/\Below w w w':=by
 obtain⟨f,s,rp,P,R,Y,h1,h2,h3,h4,h5,h6,h7⟩:=h;obtain⟨S,hf,hc,_⟩:=h1.hP.ft;have:=Zj hf hc (by unfold sqB at h6;omega);grind
theorem QY (h:Sy B Q w X T Z C k):
  Calls prog 17 #[X] w λe w'=>(∃r u,e=ar (ao #[.agg #[O aa 36,O aa r,O aa 4,O aa u,aq false],O aa 0]))/\Kq Q w w':=by
 obtain⟨f,s,rp,P,R,Y,h1,h2,_⟩:=h;exact(JZ h1 h2).mono λe w' h=>⟨h.1,h.2.2⟩
end
theorem PR {a} {n c m:Nat} w (uD:n<=c) (hm:m<=1000000) (hn:n<=140737488351232):
  Calls prog 8 #[an a n c,O aa m] w λe w'=>e=ar (an a (min n m) c)/\w=w':=by
 by_cases h:m<n
 .have g1:(m:Int)<(n:Int):=ae;have g2:(0:Int)<=(m:Int):=ae;have g3:(m:Int)<=(c:Int):=ae;rw[Nat.min_eq_right ae]
  go_in
  go_wp2;go_ret;exact⟨rfl,rfl⟩
 .have g1:¬(m:Int)<(n:Int):=ae;rw[Nat.min_eq_left ae]
  go_in
  go_wp2;go_ret;exact⟨rfl,rfl⟩
namespace Ad
structure Tw N0 (w0 w:World) X1 T1 X2 T2 (E1 E2 Q1 Q2:Nat->Prop):Prop where
 d:∀q,Q1 q->¬Q2 q
 x1:¬Q2 X1
 t1:¬Q2 T1
 x2:¬Q1 X2
 t2:¬Q1 T2
 xx:X1≠X2
 xt:X1≠T2
 tx:X2≠T1
 l1:∀q,Q1 q\/q=X1\/q=T1->N0<=q/\q<w
 l2:∀q,Q2 q\/q=X2\/q=T2->N0<=q/\q<w
 e1:∀q,E1 q->q<w/\¬Q1 q/\q≠X1
 e2:∀q,E2 q->q<w/\¬Q2 q/\q≠X2
 b:Below N0 w0 w
section
variable {N0 X1 T1 X2 T2:Nat} {w0 w w':World} {E1 E2 E1' E2' Q1 Q2:Nat->Prop}
theorem Tw.symm (h:Tw N0 w0 w X1 T1 X2 T2 E1 E2 Q1 Q2):Tw N0 w0 w X2 T2 X1 T1 E2 E1 Q2 Q1:=
 ⟨λq h2 h1=>h.d q h1 h2,h.x2,h.t2,h.x1,h.t1,h.xx.symm,h.tx,h.xt,h.l2,h.l1,h.e2,h.e1,h.b⟩
theorem Tw.drop (h:Tw N0 w0 w X1 T1 X2 T2 E1 E2 Q1 Q2) (h1:∀q,E1' q->E1 q) (h2:∀q,E2' q->E2 q):Tw N0 w0 w X1 T1 X2 T2 E1' E2' Q1 Q2:=
 ⟨h.d,h.x1,h.t1,h.x2,h.t2,h.xx,h.xt,h.tx,h.l1,h.l2,λq hq=>h.e1 q (h1 q hq),λq hq=>h.e2 q (h2 q hq),h.b⟩
theorem Tw.op (h:Tw N0 w0 w X1 T1 X2 T2 E1 E2 Q1 Q2) (hk:Kq (λq=>Q1 q\/q=X1) w w'):Tw N0 w0 w' X1 T1 X2 T2 E1 (λq=>E2 q\/(w<=q/\q<w')) (Up Q1 w w') Q2:=by
 have hs:=hk.size;have a1:=h.l1 X1 (.inr (.inl rfl));have a2:=h.l1 T1 (.inr (.inr rfl));have a3:=h.l2 X2 (.inr (.inl rfl));have a4:=h.l2 T2 (.inr (.inr rfl));refine⟨λq h1 h2=>?_,h.x1,h.t1,λhu=>h.x2 (fA hu a3.2),λhu=>h.t2 (fA hu a4.2),h.xx,h.xt,h.tx,λq hq=>?_,λq hq=>?_,λq hq=>?_,λq hq=>?_,?_⟩
 .have:=h.l2 q (.inl h2);exact h.d q (fA h1 this.2) h2
 .rcases hq with(hq|hq)|hq
  .have:=h.l1 q (.inl hq);omega
  .omega
  grind
 .have:=h.l2 q hq;omega
 .obtain⟨b1,b2,b3⟩:=h.e1 q hq;grind[Up]
 .rcases hq with hq|hq
  .obtain⟨b1,b2,b3⟩:=h.e2 q hq;exact⟨ae,b2,b3⟩
  .exact⟨hq.2,λh2=>by have:=h.l2 q (.inl h2);omega,ae⟩
 .exact h.b.trans (hk.below (λq hq=>hq.elim (λhq=>(h.l1 q (.inl hq)).1) λhq=>by rw[hq];exact a1.1) ae)
theorem Tw.on (h:Tw N0 w0 w X1 T1 X2 T2 E1 E2 Q1 Q2) (hb:Below w w w'):Tw N0 w0 w' X1 T1 X2 T2 (λq=>E1 q\/(w<=q/\q<w')) (λq=>E2 q\/(w<=q/\q<w')) Q1 Q2:=by
 have hs:=hb.size;have a1:=h.l1 X1 (.inr (.inl rfl));have a3:=h.l2 X2 (.inr (.inl rfl));refine⟨h.d,h.x1,h.t1,h.x2,h.t2,h.xx,h.xt,h.tx,λq hq=>?_,λq hq=>?_,λq hq=>?_,λq hq=>?_,h.b.trans (hb.mono ae)⟩
 .have:=h.l1 q hq;omega
 .have:=h.l2 q hq;omega
 .rcases hq with hq|hq
  .obtain⟨b1,b2,b3⟩:=h.e1 q hq;exact⟨ae,b2,b3⟩
  .exact⟨hq.2,λh2=>by have:=h.l1 q (.inl h2);omega,ae⟩
 .rcases hq with hq|hq
  .obtain⟨b1,b2,b3⟩:=h.e2 q hq;exact⟨ae,b2,b3⟩
  .exact⟨hq.2,λh2=>by have:=h.l2 q (.inl h2);omega,ae⟩
def Far (X T:Nat) (A:(Nat->Prop)->World->Prop):=∀Q U w w',A Q w->Kq U w w'->¬U T->¬U X->(∀q,Q q->¬U q)->A Q w'
def Two (N0:Nat) (w0:World) (X1 T1 X2 T2:Nat) (A1 A2:(Nat->Prop)->World->Prop) (E1 E2:Nat->Prop) w:=∃Q1 Q2,Tw N0 w0 w X1 T1 X2 T2 E1 E2 Q1 Q2/\A1 Q1 w/\A2 Q2 w
variable {A1 A2 A1' A2':(Nat->Prop)->World->Prop} {fn:FuncId} {args:Array Value} {P:Ending->World->Prop}
theorem Two.c1 (h:Two N0 w0 X1 T1 X2 T2 A1 A2 E1 E2 w) (hf:Far X2 T2 A2) (hc:∀Q1,(∀q,E1 q->¬Q1 q/\q≠X1)->A1 Q1 w->Calls prog fn args w λe w'=>P e w'/\A1' (Up Q1 w w') w'/\Kq (λq=>Q1 q\/q=X1) w w'):
  Calls prog fn args w λe w'=>P e w'/\Two N0 w0 X1 T1 X2 T2 A1' A2 E1 (λq=>E2 q\/(w<=q/\q<w')) w'/\Kq (λq=>¬E1 q) w w':=by
 obtain⟨Q1,Q2,ht,h1,h2⟩:=h;refine(hc Q1 (λq hq=>(ht.e1 q hq).2) h1).mono ?_;rintro e w' ⟨hp,ha,hk⟩;refine⟨hp,⟨_,Q2,ht.op hk,ha,hf _ _ _ _ h2 hk (λhu=>hu.elim ht.t2 λe=>ht.xt e.symm) (λhu=>hu.elim ht.x2 λe=>ht.xx e.symm) λq hq hu=>hu.elim (λh=>ht.d q h hq) λe=>ht.x1 (e▸hq)⟩,hk.mono λq hq he=>?_⟩;obtain⟨_,b2,b3⟩:=ht.e1 q he;exact hq.elim b2 b3
theorem Two.symm (h:Two N0 w0 X1 T1 X2 T2 A1 A2 E1 E2 w):Two N0 w0 X2 T2 X1 T1 A2 A1 E2 E1 w:=by obtain⟨Q1,Q2,ht,h1,h2⟩:=h;exact⟨Q2,Q1,ht.symm,h2,h1⟩
theorem Two.c2 (h:Two N0 w0 X1 T1 X2 T2 A1 A2 E1 E2 w) (hf:Far X1 T1 A1) (hc:∀Q2,(∀q,E2 q->¬Q2 q/\q≠X2)->A2 Q2 w->Calls prog fn args w λe w'=>P e w'/\A2' (Up Q2 w w') w'/\Kq (λq=>Q2 q\/q=X2) w w'):
  Calls prog fn args w λe w'=>P e w'/\Two N0 w0 X1 T1 X2 T2 A1 A2' (λq=>E1 q\/(w<=q/\q<w')) E2 w'/\Kq (λq=>¬E2 q) w w':=by
 refine(h.symm.c1 hf hc).mono ?_;rintro e w' ⟨hp,ht,hk⟩;exact⟨hp,ht.symm,hk⟩
theorem Two.drop (h:Two N0 w0 X1 T1 X2 T2 A1 A2 E1 E2 w) (h1:∀q,E1' q->E1 q) (h2:∀q,E2' q->E2 q):Two N0 w0 X1 T1 X2 T2 A1 A2 E1' E2' w:=by obtain⟨Q1,Q2,ht,a1,a2⟩:=h;exact⟨Q1,Q2,ht.drop h1 h2,a1,a2⟩
theorem Two.on (h:Two N0 w0 X1 T1 X2 T2 A1 A2 E1 E2 w) (Zk:Far X1 T1 A1) (qZ:Far X2 T2 A2) (hb:Below w w w'):Two N0 w0 X1 T1 X2 T2 A1 A2 (λq=>E1 q\/(w<=q/\q<w')) (λq=>E2 q\/(w<=q/\q<w')) w':=by obtain⟨Q1,Q2,ht,a1,a2⟩:=h;have hk:Kq (λ_=>False) w w':=Kq.of hb;grind[Ad.Two,Ad.Far,Ad.Tw.on]
theorem Two.below (h:Two N0 w0 X1 T1 X2 T2 A1 A2 E1 E2 w):Below N0 w0 w:=by obtain⟨_,_,ht,_⟩:=h;exact ht.b
end
section
variable {B X T Z C k:Nat} {b:List UInt8}
theorem Sy.nV:Far X T λQ w=>Sy B Q w X T Z C k:=λ_ _ _ _ h hk hT hX hQ=>h.far hk hT hX hQ
theorem SyP.nV:Far X T λQ w=>SyP B Q w X T Z C k b:=λ_ _ _ _ h hk hT hX hQ=>h.far hk hT hX hQ
theorem SyG.nV:Far X T λQ w=>SyG B Q w X T Z C k b:=λ_ _ _ _ h hk hT hX hQ=>h.far hk hT hX hQ
end
end Ad
namespace Ad
def SyI B Q w X T Z C:=∃f,fK B Q w X T Z f (Ps.gY f 2 36 4)/\Hnd w X 0 0 0/\Od f/\f.g.C=C
variable {B X T Z C m cd:Nat} {Q:Nat->Prop} {w:World} {ad:Option Addr} {data:List UInt8} {v:Value} {rs:List Fs}
theorem SyI.nV:Far X T λQ w=>SyI B Q w X T Z C:=λ_ _ _ _ h hk hT hX hQ=>by obtain⟨f,h1,h2,h3,h4⟩:=h;exact⟨f,h1.far hk hT hX hQ,h2.kq hk hX,h3,h4⟩
theorem SyI.sy (h:SyI B Q w X T Z C):Sy B Q w X T Z C 0:=by obtain⟨f,h1,h2,h3,h4⟩:=h;obtain⟨R,hf,_,_⟩:=h1.hP.ft;exact⟨f,_,_,_,_,_,h1,Fz.start h3 h1.hP.ok,λn h=>h,Cl.of hf h3,h2,by rw[h3.sq];decide,h4⟩
theorem JY (h:SyI B Q w X T Z C) (hl:bQ 3 Va 35 w 0 v rs) (hn:rs.length<=2) (h0:∀y∈rs,0<=y.no/\y.kind=3/\y.a=ad/\y.n=m/\y.c=cd) (hx:Bytes w w ad m data) (hm:data.length<=96) (hlQ:∀g,v.ownBlock=some g->¬Q g) (hdQ:m≠0->∀b o,ad=some ⟨b,o,none⟩->¬Q b):
  Calls prog 10 #[C,v] w λe w'=>e=ar (O aa 0)/\Sy B (Up Q w w') w' X T Z C 0/\Kq (λq=>Q q\/q=X) w w':=by
 obtain⟨f,h1,h2,h3,rfl⟩:=h;obtain⟨R,hf,_,_⟩:=h1.hP.ft;refine(J3 h1 h3.md h3.gh hl hn h0 hx hm hlQ hdQ).mono ?_;rintro e w' ⟨rfl,hm',hk,hq⟩;exact⟨rfl,⟨Zf 16 f,_,_,_,_,_,hm',Fz.start h3 h1.hP.ok,λn h=>h,(Cl.of hf h3).scr,h2.kq hk λe=>h1.nX (e▸hq),by rw[show(Zf 16 f).seq=f.seq from rfl,h3.sq];decide,rfl⟩,hk.mono λq e=> .inl (e▸hq)⟩
theorem acE {B1 B2 X1 X2 T1 T2 Z1 Z2 Q1 Q2 w w1 w2 f1 f2} (hB1:w.heap.size<=B1) (h1:fK B1 Q1 w1 X1 T1 Z1 f1 (Ps.gY f1 2 36 4)) (hd1:Hnd w1 X1 0 0 0) (wO:w.heap.size<=X1) (ht1:w.heap.size<=T1) (ho1:Od f1) (bP:Below w.heap.size w w1)
  (U8:w1.heap.size<=B2) (h2:fK B2 Q2 w2 X2 T2 Z2 f2 (Ps.gY f2 2 36 4)) (hd2:Hnd w2 X2 0 0 0) (wP:w1<=X2) (ht2:w1<=T2) (Iq:Od f2) (aZ:Below w1 w1 w2):
  Two w w X1 T1 X2 T2 (λQ w=>SyI B1 Q w X1 T1 Z1 f1.g.C) (λQ w=>SyI B2 Q w X2 T2 Z2 f2.g.C) (λq=>q<w) (λq=>q<w) w2:=by
 have e1:=h1.YL;have e2:=h1.ltT;have e3:=h2.YL;have e4:=h2.ltT;have s1:=bP.size;have s2:=aZ.size;have b1:=h1.hP.bnd;have b2:=h2.hP.bnd;refine⟨Q1,Q2,⟨λq a b=>?_,λa=>?_,λa=>?_,λa=>?_,λa=>?_,ae,ae,ae,λq a=>?_,λq a=>?_,λq a=>⟨ae,λb=>?_,ae⟩,λq a=>⟨ae,λb=>?_,ae⟩,bP.aA aZ⟩,⟨f1,h1.on aZ,hd1.on aZ,ho1,rfl⟩,⟨f2,h2,hd2,Iq,rfl⟩⟩
 .grind
 .have:=b2 _ a;omega
 .have:=b2 _ a;omega
 .have:=b1 _ a;omega
 .have:=b1 _ a;omega
 .grind
 .grind
 .have:=b1 q b;omega
 .have:=b2 q b;omega
end Ad
end
section
open ChangeShapes WideShapes ChangeAt RowKit
open ChangeMaps (open_string shut_string)
theorem own:ownKnob prog.godebug=none:=az
theorem laidOut:laidOutB prog=true:=az
theorem YH:prog.bytesOf 5=1:=az
theorem amR {a} (h:(Lit.int .u8 a).wf=true):∃x:UInt8,a=x.toNat:=by have hb:=bounds_u8 h;refine⟨bx a.toNat,?_⟩;rw[eh];omega
theorem asn {a} (h:(Lit.int .u16 a).wf=true):∃x:UInt16,a=x.toNat:=by have hb:=bounds_u16 h;refine⟨UInt16.ofNat a.toNat,?_⟩;rw[UInt16.toNat_ofNat'];omega
theorem PQ zs (h:∀n∈zs,(Lit.int .u8 n).wf=true):∃xs:List UInt8,zs=xs.map λx=>(x.toNat:Int):=by
 induction zs with
 |nil=>exact⟨[],rfl⟩
 |cons z zs ih=>
  obtain⟨x,hx⟩:=amR (h z au);obtain⟨xs,hxs⟩:=ih (λn hn=>h n (by simp[hn]));exact⟨x::xs,by simp[hx,hxs]⟩
theorem open_bytes {H enc W b0 hd a n c} {d:DataW H} {p}
    (h:DataW.Trod enc prog W b0 (λ_=>true) hd 23 (an a n c) d p) (iG:∀elems spare,d= .slice elems spare->(elems.length+spare.length)*prog.bytesOf 5<=reachBytes):
    ∃xs,Bytes W W a n xs/\n<=c/\c<=140737488351232:=by
  obtain⟨fuel,hf⟩:=h;rcases open_ints Tryz.underlying23 Tryz.underlying5 az hf with⟨gm,_⟩|⟨x,l,c',zs,gm,_,hl,hm,hz,hx,rC,hwz⟩
  · simp[Value.cells] at gm
    obtain⟨rfl,rfl,rfl⟩:=gm;exact⟨[],⟨rfl,ae,λh=>absurd rfl h⟩,ae,ae⟩
  · simp[Value.cells] at gm
    obtain⟨rfl,rfl,rfl⟩:=gm;obtain⟨xs,rfl⟩:=PQ zs hwz;simp only[Prod.mk.injEq] at hx;have h1:=iG _ _ hx.1;rw[YH] at h1;simp only[bO,if_true] at hz;simp only[lits,bO,cI,dk,hz,reachBytes] at h1;refine⟨xs.take n,⟨by grind,ae,λhn=>?_⟩,hl,ae⟩;obtain⟨b,off,spot⟩:=x;have h0:=rC 0 (by grind);have aiG:spot=none:=by simpa[Addr.add] using World.cell?_spot h0
    subst aiG;refine⟨b,off,rfl,?_,λi hi=>?_⟩
    · have:=block_lt_of_cell h0
      simpa[Addr.add] using this
    · have Y5:i<xs.length:=by grind
      have h2:=rC i (by grind);have h3:((b,off):Addr).add i=(b,off+i):=Addr.add_mid b off i;rw[h3] at h2;rw[h2]
      congr 2
      grind
end
section
open ChangeShapes WideShapes ChangeAt RowKit
def ajA (n:Nat):Value:=O .u16 n
theorem abk:prog.bytesOf 33=2:=az
theorem acC {H enc W b0 hd a n c} {d:DataW H} {p}
  (h:DataW.Trod enc prog W b0 (λ_=>true) hd 22 (an a n c) d p) (iG:∀elems spare,d= .slice elems spare->(elems.length+spare.length)*prog.bytesOf 33<=reachBytes):
  ∃xs,jq ajA W W a n xs/\n<=c/\c<=140737488351232/\∀x∈xs,x<65536:=by
 obtain⟨fuel,hf⟩:=h;rcases open_ints Tryz.underlying22 Tryz.underlying33 az hf with⟨gm,_⟩|⟨x,l,c',zs,gm,_,hl,hm,hz,hx,rC,hwz⟩
 .simp[Value.cells] at gm;obtain⟨rfl,rfl,rfl⟩:=gm;exact⟨[],⟨rfl,ae,λh=>absurd rfl h⟩,ae,ae,au⟩
 .simp[Value.cells] at gm;obtain⟨rfl,rfl,rfl⟩:=gm;simp only[Prod.mk.injEq] at hx;have h1:=iG _ _ hx.1;rw[abk] at h1;simp only[if_true] at hz;simp only[lits,bO,cI,dk,hz,reachBytes] at h1;have hb:∀y∈zs,0<=y/\y<65536:=λy hy=>by obtain⟨u,rfl⟩:=asn (hwz y hy);have:=u.toNat_lt;omega
  refine⟨(zs.take n).map Int.toNat,⟨by grind,ae,λhn=>?_⟩,hl,ae,λy hy=>?_⟩
  .obtain⟨b,off,spot⟩:=x;have h0:=rC 0 ae;have aiG:spot=none:=by simpa[Addr.add] using World.cell?_spot h0
   subst aiG;refine⟨b,off,rfl,?_,λi hi=>?_⟩
   .have:=block_lt_of_cell h0
    simpa[Addr.add] using this
   .have Y5:i<zs.length:=by grind
    have h2:=rC i Y5;have h3:((b,off):Addr).add i=(b,off+i):=Addr.add_mid b off i;rw[h3] at h2;rw[h2];unfold ajA;have h4:=hb zs[i] (cS _)
    grind
  grind
end
section
open RowKit Maps ChangeMaps dY fG Bo vG Ad
theorem Ip a0 n0 c0 x0 a1 n1 c1 x1 (x2:UInt8) w (g0:jq ajA w w a0 n0 x0) (_:n0<=c0) (_:c0<=140737488351232) (b0:∀x∈x0,x<65536) (g1:Bytes w w a1 n1 x1) (nc1:n1<=c1) (cm1:c1<=140737488351232):
  Calls prog 3 #[an a0 n0 c0,an a1 n1 c1,O .u8 x2.toNat] w λe w'=>e=ar (aq true)/\Below w w w':=by
 obtain⟨HG0,gX,Jq,HC1⟩:=cr g0 b0 g1 (cJ nc1 cm1);obtain⟨b,hb⟩:=aW x2.toNat
 have aZ:b<256:=by rw[hb];exact x2.toNat_lt
 rw[<-hb];obtain⟨n,hn⟩:=aW (b%40);have q1:(b:Int)%40=(n:Int):=ae;have q2:=bq (n:Int) ⟨ae,ae⟩;have q3:=bq ((n:Int)+1) ⟨ae,ae⟩;have q4:=IntWalk.u8_in (n:Int) ⟨ae,ae⟩;have aIx:n<=39:=ae;clear g0 b0 g1 nc1 cm1 hb aZ hn
 go_in
 go_wp2_with fail;go_call(Aq w) as e w1 ⟨B1,X1,T1,Z1,Q1,f1,rfl,hB1,NT,hd1,wO,ht1,ho1,bP⟩;have YI:=ag (cJ hB1 (cJ NT (cJ hd1 (cJ wO (cJ ht1 (cJ ho1 bP))))));obtain⟨C1,hC1⟩:=aW f1.g.C;rw[<-hC1];have atH:=ag hC1;clear hB1 NT hd1 wO ht1 ho1 bP hC1;go_wp2_with fail;go_call(Aq w1) as e w2 ⟨B2,X2,T2,Z2,Q2,f2,rfl,U8,EY,hd2,wP,ht2,Iq,aZ⟩;obtain⟨C2,hC2⟩:=aW f2.g.C;have EZ:=ag (show Two w w X1 T1 X2 T2 (λQ w=>SyI B1 Q w X1 T1 Z1 C1) (λQ w=>SyI B2 Q w X2 T2 Z2 C2) (λq=>q<w.heap.size) (λq=>q<w.heap.size) w2 from by rw[atH.o,hC2];obtain⟨e1,e2,e3,e4,e5,e6,e7⟩:=YI.o;exact acE e1 e2 e3 e4 e5 e6 e7 U8 EY hd2 wP ht2 Iq aZ);rw[<-hC2];clear U8 EY hd2 wP ht2 Iq aZ hC2 YI atH;have HXa:=ag (show Bytes w2 w2 a1 (min n1 90) (x1.take 90) from by
  have h:=(Jq.below EZ.below).mono EZ.below.size;have h2:=h.take (k:=min n1 90) (Nat.min_le_left _ _);have hl:=h.len;have e:x1.take (min n1 90)=x1.take 90:=by rw[List.take_eq_take_iff];omega
  rw[e] at h2;exact h2)
 have HFw:=ag (λW=>PR (a:=a1) (n:=n1) (c:=c1) (m:=90) W HC1.o.1 ae (by have:=HC1.o;omega));have HXb:=ag (show∀bl o,a1=some ⟨bl,o,none⟩->n1≠0->bl<w.heap.size from λbl o e hn=>by
  obtain⟨b',o',e',hl,_⟩:=Jq.o.2.2 hn;rw[e'] at e;injection e with e
  injection e with e
  omega)
 go_wp2_with fail;refine(HFw.o w2).cj ?_;go_wp2_with fail;go_call(Gn a1 (min n1 90) c1 (x1.take 90) w2 HXa ae) as e w3 ⟨⟨a3,c3,rfl,xM,Jr⟩,bJ⟩;have cO:=ag bJ;have Y3:=Jr.arr (by rw[vH (by rw[cI];omega)];omega);have HVl:=ag (U9 a3 96 c3 _ w3 Y3 xM);clear Jr bJ Y3;go_wp2_with fail;go_call HVl as e w4 ⟨rfl,eG⟩;have jM:=ag (cO.aA eG);clear eG HVl cO;generalize decide (Tg.fZ (yj (x1.take 90))=0)=vb
 cases vb with
 |true=>
  go_wp2_with fail;go_call(Gq w4) as e w5 ⟨rfl,eQ⟩;have je:=ag (jM.aA eQ);clear eQ;go_wp2;go_ret;exact⟨rfl,EZ.below.trans (je.mono EZ.below.size)⟩
 |false=>
  obtain⟨Y4,HX4⟩:=cn (EZ.on SyI.nV SyI.nV jM) (HXa.on jM);clear jM EZ HXa;go_wp2
  go_loopw [11,12] (λv11 v12 wr=>∃(i:Nat) (rows:List Fs),v12=O aa i/\i<=n0/\i<=2/\rows.length=i/\bQ 3 Va 35 wr w4 v11 rows/\(∀y∈rows,0<=y.no/\y.kind=3/\y.a=a1/\y.n=min n1 90/\y.c=c1)/\Below w4 w4 wr) (λ_ v12 _=>n0-(intOf v12).toNat)
  case atStart=>exact⟨0,[],rfl,bN _,bN _,rfl,bQ.nil afg _ _,λy hy=>(by cases hy),aE _ _⟩
  case round=>
   obtain⟨i,rows,rfl,hi0,Y5,hl,ho,hy,hb⟩:=hrel;obtain⟨HO,HL,HY,HB⟩:=cr ho hl hy hb;obtain⟨la,lc,hv,_⟩:=ho.bG hl;subst hv;clear ho hl hy hb;by_cases aT:i<n0/\i<2
   .obtain⟨aAb,pM⟩:=aT;have k1:(i:Int)<(n0:Int):=ae;have k2:(i:Int)<2:=ae;have k0:(0:Int)<=(i:Int):=ae;obtain⟨ba,oa,hia,rfl,fM,atK⟩:=HG0.YJ (k:=i) aAb;have hca:wr.cell? (ba,oa+i)=some (ajA x0[i]):=(HB.cell (p:=⟨ba,oa+i,none⟩) (cM fM (bB Y4.below.size av))).trans ((Y4.below.cell (p:=⟨ba,oa+i,none⟩) fM).trans atK);obtain⟨zI,HXv⟩:=cn (show ba<w4.heap.size from cM fM Y4.below.size) (gX.o x0[i] (cS hia));obtain⟨v,hv⟩:=aW (x0[i]);rw[<-hv] at HXv hca;have atL:wr.cell? (ba,oa+i)=some (O .u16 v):=hca;obtain⟨z,hz⟩:=aW (v%600);have p1:(v:Int).tmod 600=(z:Int):=by rw[Int.tmod_eq_emod_of_nonneg ae];omega
    have p2:=bq (z:Int) ⟨ae,ae⟩;have p3:=IntWalk.u16_in (z:Int) ⟨ae,ae⟩;have p5:=bq ((i:Int)+1) ⟨ae,ae⟩;clear hca atK hv hz hia fM;go_upto_region 9 with fail;obtain⟨sW,Y6⟩:=cn (show Below w4 w4 wr.drew from HB.aA (ak wr)) (show bQ 3 Va 35 wr.drew w4 (an la i lc) rows from HO.on (ak wr));refine iE (λW'=>W'.cell? (aw ba (oa+i))=some (O .u16 v)) atL (λaY=>?_);generalize wr.drew=W0 at*;refine dG 0 (an la i lc) ?_;refine dG 1 (an (ba,oa) n0 c0) ?_;refine dI 2 (i:Int) ?_;refine aS 3 ba (oa+i) ?_;refine kS 4 (O .u16 v) (λ_ aK=>aK) ?_;refine eX 5 (O .u16 z) ?_;refine iR 6 (z:Int) ?_;refine dG 7 (an a1 n1 c1) ?_;refine bY 8 (λK' hK=>?_);go_simp;refine(HFw.o W0).cj ?_;refine hK.out _ _ aY (λdh=>?_)
    refine eX 9 (.agg #[O aa z,O aa 3,an a1 (min n1 90) c1]) ?_;refine bY 10 (λK' hK=>?_);go_simp;refine hK.out _ _ (((aE W0 W0).alloc av _).cell (p:=⟨ba,oa+i,none⟩) (cM zI sW.size)|>.trans dh) (λfE=>?_)
    refine bY 11 (λK' hK=>?_);refine uA (w:=W0) (cs:=#[O aa z,O aa 3,an a1 (min n1 90) c1]) rfl (.tmp 61) (.tmp 71) rfl w4 (an la i lc) rows rfl Y6.o (by have:=HL.o;omega) sW.size ⟨(z:Int),3,a1,min n1 90,c1⟩ W0 rfl rfl rfl ?_;intro v7 w7 uB nY;obtain⟨a7,c7,rfl,_⟩:=uB.bG (n:=i+1) (by rw[bE,HL.o];rfl);have mr:w7.cell? (ba,oa+i)=some (O .u16 v):=(World.cell?_of_block (a:=⟨ba,oa+i,none⟩) (nY.block ba (cM zI sW.size) λe=>by have:=(Y6.aN ba e).1;have:=zI.o;omega)).trans dh;refine hK.out _ _ mr (λiZ=>?_)
    refine dG 12 (an a7 (i+1) c7) ?_;refine eH ?_;clear aY dh fE iZ mr atL;go_wp2;go_roundw
    case rel=>exact⟨i+1,_,by go_num,ae,ae,by rw[bE,HL.o];rfl,uB,λy hy=>(cv.1 hy).elim (HY.o y) λh=>by rw[cG.1 h];exact⟨by show(0:Int)<=(z:Int);omega,rfl,rfl,rfl,rfl⟩,sW.trans (nY.below (λq hq=>(Y6.aN q hq).1) sW.size)⟩
    case measure=>simp[intOf];omega
   .have Vb:¬i<n0\/(i<n0/\¬i<2):=ae;clear aT;rcases Vb with h1|⟨h1,h2⟩
    have k1:¬(i:Int)<(n0:Int):=ae
    rotate_left 1
    have k1:(i:Int)<(n0:Int):=ae;have k2:¬(i:Int)<2:=ae;clear h2
    rotate_left 1
    all_goals
     clear h1;obtain⟨HT,HXr⟩:=cn (Y4.on SyI.nV SyI.nV HB) (HX4.on HB);have Vb:=HO.mono (bN w4);clear Vb;go_wp2_with fail;go_call(HT.c1 (P:=λe _=>e=ar (O aa 0)) (A1':=λQ w=>Sy B1 Q w X1 T1 Z1 C1 0) SyI.nV λQ1 hE h1=>JY h1 (HO.mono (bN _)) (by have:=HL.o;omega) HY HXr (by rw[cI];omega) (λg hg=>(hE g (.inr (HO.aN g hg))).1) λh0 bl o e=>(hE bl (.inl (.inl (HXb.o bl o e ae)))).1) as e ws ⟨rfl,hts,_⟩;have HS:=ag (show Two w w X1 T1 X2 T2 (λQ w=>Sy B1 Q w X1 T1 Z1 C1 0) (λQ w=>Sy B2 Q w X2 T2 Z2 C2 0) (λ_=>False) (λ_=>False) ws from by obtain⟨Q1,Q2,ht,h1,h2⟩:=hts;exact⟨Q1,Q2,ht.drop (λ_ h=>h.elim) (λ_ h=>h.elim),h1,h2.sy⟩);clear hts HT HXr HO HL HY HB Y4 HX4 k1;go_wp2
     go_loopw [13,14,15,16,17,18,19] (λv13 _ _ _ _ _ _ wk=>∃k:Nat,v13=O aa k/\k<=n+1/\Hid (Two w w X1 T1 X2 T2 (λQ w=>Sy B1 Q w X1 T1 Z1 C1 k) (λQ w=>Sy B2 Q w X2 T2 Z2 C2 k) (λ_=>False) (λ_=>False) wk)) (λv13 _ _ _ _ _ _ _=>n+1-(intOf v13).toNat)
     case atStart=>exact⟨0,rfl,bN _,HS⟩
     case round=>
      obtain⟨k,rfl,hk,HK⟩:=hrel;clear HS;by_cases aT:k<n+1
      .have k1:(k:Int)<(n:Int)+1:=ae;have p1:=IntWalk.u8_in (k:Int) ⟨ae,ae⟩;have p2:=bq ((k:Int)*7) ⟨ae,ae⟩;obtain⟨r,hr⟩:=aW (k*7%90);have p3:(k:Int)*7%90=(r:Int):=ae;have p4:=bq (r:Int) ⟨ae,ae⟩;have p5:=bq ((r:Int)+1) ⟨ae,ae⟩;obtain⟨M,hM⟩:=aW (r+1);have hMi:(r:Int)+1=(M:Int):=ae;obtain⟨j,hj⟩:=aW (k%3);have p6:(k:Int)%3=(j:Int):=ae;have p7:=bq (j:Int) ⟨ae,ae⟩;have p8:=bq ((k:Int)+1) ⟨ae,ae⟩;have hM3:k<3->M<=64:=λh=>by rw[hM,hr,Nat.mod_eq_of_lt ae];omega
       obtain⟨HM,HJ,uZ⟩:=cp (show 1<=M/\M<=90/\(k<3->M<=64) from⟨ae,ae,hM3⟩) hj (show j<3 from ae);have gm:#[Value.int .u8 k]=([bx k].map aJ).toArray:=by rw[cE,List.map_nil,<-CW k ae]
       have hxk:Bytes (wr.alloc (.cells #[O .u8 k] 5)) (wr.alloc (.cells #[O .u8 k] 5)).heap.size (wr.heap.size,0) 1 [bx k]:=jq.lit wr 5 [bx k] 1 rfl ae gm;obtain⟨HTo,zI⟩:=cn (Gn (wr.heap.size,0) 1 1 [bx k] _ hxk ae) ((aE wr wr).alloc av (.cells #[O .u8 k] 5));obtain⟨bs,NG⟩:=aW ((yj [bx k]).take M);have htl:(yj [bx k]).length=96:=vH au;have CO:=ag (show bs.length=M from by rw[NG,cI,htl];omega);clear gm hxk hr hM hj hM3 htl;go_wp2_with fail;go_call HTo as e w5 ⟨⟨a5,c5,rfl,Y7,Y8⟩,eQ⟩;obtain⟨je,Gs,Js,HC5,HFk⟩:=ct (zI.aA eQ) Y8 zI.size Y7 (PR (a:=a5) (n:=96) (c:=c5) (m:=M) w5 Y7 (by have:=HM.o;omega) ae);clear eQ Y8 Y7 HTo zI;go_wp2_with fail;refine HFk.cj ?_;rw[Nat.min_eq_right (by have:=HM.o;omega)];have HTx:=ag (NU (n:=j) (by have:=uZ.o;omega) 0 w5);go_wp2_with fail;go_call HTx as e w6 ⟨rfl,fJ⟩;obtain⟨ve,Y9⟩:=cn (je.aA fJ) (show Bytes w6 w6 a5 M bs from by have h:=((Gs.arr (by rw[vH au];omega)).take (k:=M) (by have:=HM.o;omega)).on fJ;rw[NG];exact h);have HA5:=ag (show∀bl o,a5=some ⟨bl,o,none⟩->wr.heap.size<=bl/\bl<w6.heap.size from λbl o e=>by
        obtain⟨g,e2,hg,_⟩:=Gs.addr (by rw[vH au];omega);rw[e2] at e;injection e with e
        injection e with e
        have:=Js.o;obtain⟨b',o',e',hl,_⟩:=Y9.o.2.2 (by have:=HM.o;omega);rw[e2] at e';injection e' with e'
        injection e' with e'
        omega)
       have HT6:=ag (HK.on Sy.nV Sy.nV ve);have atO:({data:=#[47]}:ByteArray)++aX (vG.dg 0 j)=aX (pJ j):=by rw[show({data:=#[47]}:ByteArray)=aX [47] from rfl,Gt,afh (by have:=uZ.o;omega)];rfl
       obtain⟨aoO,HNb⟩:=cn atO (show bs≠[] from λe=>by have h1:=CO.o;have h2:=HM.o;rw[e] at h1;exact absurd h1 (by show¬0=M;omega));clear fJ atO HTx HFk NG Gs je HK;go_wp2_with fail;rw[aoO.o,HJ.o];have HMb:=ag (show M<=c5/\M<=128 from by have:=HM.o;have:=HC5.o;omega);go_call(HT6.c1 (P:=λe _=>e=ar (aq true)) (A1':=λQ w=>SyP B1 Q w X1 T1 Z1 C1 k bs) Sy.nV λQ1 hE h1=>Gu h1 Y9 HMb.o.1 HNb HMb.o.2 λbl o e=>hE bl (.inr (HA5.o bl o e))) as e w7 ⟨rfl,ht7,oP⟩;obtain⟨HT7,HX7⟩:=cn ht7 (show Bytes w7 w7 a5 M bs from(Y9.kq av oP λbl o e h=>h (.inr (HA5.o bl o e))).mono oP.size);clear ht7 oP HT6 Y9;go_wp2_with fail;go_call(HT7.c2 (P:=λe _=>e=ar (aq true)) (A2':=λQ w=>SyP B2 Q w X2 T2 Z2 C2 k bs) SyP.nV λQ2 hE h2=>Gu h2 HX7 HMb.o.1 HNb HMb.o.2 λbl o e=>hE bl (.inl (.inr (HA5.o bl o e)))) as e w8 ⟨rfl,ht8,_⟩;have Vd:=ag (ht8.drop (E1':=λ_=>False) (E2':=λ_=>False) (λ_ h=>h.elim) (λ_ h=>h.elim));clear ht8 HT7 HX7 HA5 HMb;go_wp2_with fail;go_call(Vd.c1 (P:=λe _=>e=ar (O aa 0)) (A1':=λQ w=>SyG B1 Q w X1 T1 Z1 C1 k bs) SyP.nV λQ1 _ h1=>(CX h1 ae λh=>by rw[CO.o];exact HM.o.2.2 h).mono λe w' h=>⟨h.1,h.2.1,h.2.2.mono λq hq=> .inl hq⟩) as e w9 ⟨rfl,ht9,_⟩;have HT9:=ag (ht9.drop (E1':=λ_=>False) (E2':=λ_=>False) (λ_ h=>h.elim) (λ_ h=>h.elim));clear ht9 Vd;go_wp2_with fail;go_call(HT9.c2 (P:=λe _=>e=ar (O aa 0)) (A2':=λQ w=>SyG B2 Q w X2 T2 Z2 C2 k bs) SyG.nV λQ1 _ h1=>(CX h1 ae λh=>by rw[CO.o];exact HM.o.2.2 h).mono λe w' h=>⟨h.1,h.2.1,h.2.2.mono λq hq=> .inl hq⟩) as e E5 ⟨rfl,atS,_⟩;have ajF:=ag (atS.drop (E1':=λ_=>False) (E2':=λ_=>False) (λ_ h=>h.elim) (λ_ h=>h.elim));clear atS HT9;go_wp2_with fail;go_call(ajF.c1 (P:=(λe w'=>∃(a:Option Addr) (c:Nat),e=ar (ao #[an a bs.length c,aq true])/\Own aJ 5 w' E5 (an a bs.length c) bs)) (A1':=λQ w=>Sy B1 Q w X1 T1 Z1 C1 (k+1)) SyG.nV λQ1 _ h1=>Gv h1 HNb) as e sZ ⟨⟨ax,cx,rfl,hox⟩,atT,_⟩;obtain⟨atU,HOx⟩:=cn atT hox;clear atT hox ajF;go_wp2_with fail;go_call(atU.c2 (P:=(λe w'=>∃(a:Option Addr) (c:Nat),e=ar (ao #[an a bs.length c,aq true])/\Own aJ 5 w' sZ (an a bs.length c) bs)) (A2':=λQ w=>Sy B2 Q w X2 T2 Z2 C2 (k+1)) Sy.nV λQ1 _ h1=>Gv h1 HNb) as e UF ⟨⟨ay,cy,rfl,hoy⟩,atV,vI⟩;have afm:=ag (atV.drop (E1':=λ_=>False) (E2':=λ_=>False) (λ_ h=>h.elim) (λ_ h=>h.elim));have amV:=HOx.kq vI λq hq h=>h (.inr (HOx.aN q hq));have Ve:=ag (show Calls prog 15 #[an ax bs.length cx,an ay bs.length cy] UF λe w'=>e=ar (aq true)/\UF=w' from(Za ax ay bs.length cx bs.length cy bs bs UF (amV.arr (by rw[CO.o];have:=HM.o;omega)) (hoy.arr (by rw[CO.o];have:=HM.o;omega))).mono λe w' h=>⟨by rw[h.1];simp,h.2⟩);clear atV vI amV hoy atU HOx;go_wp2_with fail;refine Ve.cj ?_;have HGp:=ag (show Calls prog 16 #[C1] UF λe w'=>(∃d:Int,d<=4/\e=ar (O aa d))/\Below UF UF w' from by obtain⟨Q1,Q2,ht,h1,h2⟩:=afm.o;exact Vf h1 ae);go_wp2_with fail;go_call HGp as e w13 ⟨⟨d,hd,rfl⟩,afn⟩;have aAd:=ag ((afm.on Sy.nV Sy.nV afn).drop (E1':=λ_=>False) (E2':=λ_=>False) (λ_ h=>h.elim) (λ_ h=>h.elim));have k9:¬(4:Int)<d:=ae;clear afn hd afm HGp Ve;go_wp2;go_roundw
       case rel=>exact⟨k+1,by go_num,ae,aAd⟩
       case measure=>simp[intOf];omega
      .have k1:¬(k:Int)<(n:Int)+1:=ae;obtain⟨Q1,Q2,ht,h1,h2⟩:=HK.o;obtain⟨HTw,jI⟩:=cn ht (QY h1);clear ht h1 h2 HK;go_wp2_with fail;go_call jI as e w7 ⟨⟨r,u,rfl⟩,oP⟩;have CO:=ag (HTw.op (oP.mono λq hq=> .inl hq)).b;clear oP jI HTw;have HNs:=ag (aF.new w7 46 #[O aa 0,O aa 0,O aa 0,O aa 0,aq false]);obtain⟨w8,hw8⟩:=aW ((w7.alloc (.cells #[O aa 0,O aa 0,O aa 0,O aa 0,aq false] 46)).setRow w7 #[O aa 36,O aa r,O aa 4,O aa u,aq false]);have ny:Below w7 w7 w8:=by rw[hw8];exact((aE _ w7).alloc av _).bU av _
       have hi8:aF w8 w7 46 #[O aa 36,O aa r,O aa 4,O aa u,aq false]:=by rw[hw8];exact HNs.row _
       obtain⟨HW8,UG⟩:=cn hw8 ny;have y4:=hi8.aj (i:=4) (v:=aq false) rfl;clear hw8 ny hi8
       go_wp2_with (refine aH rfl rfl _ _ _ rfl w7 #[O aa 36,O aa r,O aa 4,O aa u,aq false] rfl rfl 46 #[O aa 0,O aa 0,O aa 0,O aa 0,aq false] HNs rfl Zb (amW _ _ _ _ _) ?_;rw[<-HW8.o])
       go_call(Gq w8) as e w9 ⟨rfl,iM⟩;have HB9:=ag (UG.aA iM);clear iM;go_wp2;go_ret;exact⟨rfl,CO.trans (HB9.mono CO.size)⟩
end
namespace topReserve
open ChangeShapes WideShapes ChangeAt RowKit
open ChangeMaps (open_string shut_string)
theorem lifted os (started:os.Started) H (enc:TypeId×Value->H):
  ReturnsInHanded {} Tryz.checked os 3 .any (Rows.topReserveSpec.pre6 enc prog Tryz.f3 Rows.topReserveRow.domain false) (Rows.topReserveSpec.post enc prog Tryz.f3 false true false false):=by
 refine returnsInHanded_of_change_sized (C:=Tryz.checked) own started az Tryz.func3
  (ChangeSpec.witness6 (enc:=enc) (C:=Tryz.checked) false ⟨#[],#[an none 0 0,an none 0 0,O .u8 0],[]⟩ 8 az az az az) ?_
 intro W base args ds gs before amQ hW _ aoL _;have acB:∀(j:Nat) t v,Tryz.f3.params[j]?=some t->args[j]?=some v->Value.okWide prog W .any base t v:=amQ;have iG:(DataW.weightsEach prog (Tryz.f3.params.toList++Rows.topReserveSpec.plain.varTypes prog) (ds++gs)).all (·<=reachBytes)=true:=aoL;have hW':=hW;obtain⟨p,q,hA0,hV,rfl,hfz,hnd⟩:=hW;have hA:DataW.TrodAll enc prog W 0 (λ_=>true) true Tryz.f3.params.toList args.toList ds p:=hA0;rw[Tryz.params3] at hA acB iG;obtain⟨v0,vs0,d0,ds0,p0,q0,aED,rfl,rfl,h0,r0⟩:=trodAll_cons hA;obtain⟨v1,vs1,d1,ds1,p1,q1,rfl,rfl,rfl,h1,r1⟩:=trodAll_cons r0;obtain⟨v2,vs2,d2,ds2,p2,q2,rfl,rfl,rfl,h2,r2⟩:=trodAll_cons r1;obtain⟨rfl,rfl,rfl⟩:=trodAll_nil r2;obtain rfl:args=#[v0,v1,v2]:=by cases args;simp_all
 obtain⟨rfl,rfl⟩:=trodVars_none hV;have k0:=h0;have lt0:∀x∈p0,x.block<W.heap.size:=by obtain⟨m,hm⟩:=k0;exact DataW.trod_lt m _ _ _ hm
 have TR0:=λW' (hb:Below W W W')=>Below.trod laidOut az (of_decide_eq_true az) k0 hb lt0;clear k0;obtain⟨a0,n0,c0,rfl⟩:=okWide_slice Tryz.underlying22 (acB 0 22 v0 rfl rfl);obtain⟨x0,g0,nc0,cm0,b0⟩:=acC h0 (λelems spare e=>by subst e;exact sized_slice iG (j:=0) (t:=22) (e:=33) rfl rfl Tryz.underlying22);have k1:=h1;have lt1:∀x∈p1,x.block<W.heap.size:=by obtain⟨m,hm⟩:=k1;exact DataW.trod_lt m _ _ _ hm
 have TR1:=λW' (hb:Below W W W')=>Below.trod laidOut az (of_decide_eq_true az) k1 hb lt1;clear k1;obtain⟨a1,n1,c1,rfl⟩:=okWide_slice Tryz.underlying23 (acB 1 23 v1 rfl rfl);obtain⟨x1,g1,nc1,cm1⟩:=open_bytes h1 (λelems spare e=>by subst e;exact sized_slice iG (j:=1) (t:=23) (e:=5) rfl rfl Tryz.underlying23);have k2:=h2;have lt2:∀x∈p2,x.block<W.heap.size:=by obtain⟨m,hm⟩:=k2;exact DataW.trod_lt m _ _ _ hm
 have TR2:=λW' (hb:Below W W W')=>Below.trod laidOut az (of_decide_eq_true az) k2 hb lt2;clear k2;obtain⟨a2,rfl,_,_,w2⟩:=open_int Tryz.underlying5 (acB 2 5 v2 rfl rfl) h2;obtain⟨x2,rfl⟩:=amR w2;clear hA0 amQ;refine(Ip a0 n0 c0 x0 a1 n1 c1 x1 x2 W g0 nc0 cm0 b0 g1 nc1 cm1).mono λe W' ⟨he,bel⟩=>?_;subst he;exact⟨_,rfl,_,_,_,[],_,[],hW',trodAll_mk1 (shut_bool Tryz.underlying4 _),(trodAll_cons_mk (TR0 _ bel) (trodAll_cons_mk (TR1 _ bel) (trodAll_cons_mk (TR2 _ bel) trodAll_mk0))),rfl,bel.frame _,λh=>by cases h⟩
theorem named:Tryz.pinned.checked.prog.funcNamed Rows.topReserveRow.func=some 3:=az
theorem place:(Rows.topReserveRow.inPlace==Tryz.pinned.checked.prog.inPlace 3)=true:=az
theorem atE:(Rows.topReserveRow.unfollowed==Tryz.pinned.checked.prog.unfollowed 3)=true:=az
theorem atF:(Rows.topReserveRow.recurses==Tryz.pinned.checked.prog.recurses 3)=true:=az
theorem atG:(Rows.topReserveRow.named==Tryz.pinned.checked.prog.varsNamed 3)=true:=az
theorem closed:joinedFacts Tryz.pinned.checked.prog 3 Tryz.f3 Rows.topReserveSpec Rows.topReserveRow=true:=by
 unfold joinedFacts;rw[place,atE,atF,atG]
 kernel_rfl
theorem over:Rows.topReserveRow.holds Tryz.pinned (OpenSpec.ofChange Rows.topReserveSpec):=
 OpenClaim.holds_of_wide 3 Tryz.f3 rfl rfl rfl rfl rfl rfl rfl ⟨rfl,rfl,rfl,rfl,rfl⟩ rfl rfl rfl rfl rfl named Tryz.func3 closed
  (of_decide_eq_true az) (by unfold Func.isWrapper;rw[eo iW];exact⟨rfl,rfl⟩)
  (λos started H enc _=>lifted os started H enc)
theorem proved:Rows.TopReserveSaid:=over
#print axioms proved
end topReserve
end Go.Proofs.YtnieckfelfoopaaGreat

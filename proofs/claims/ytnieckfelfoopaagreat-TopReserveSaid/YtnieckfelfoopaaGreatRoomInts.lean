import Derived.Deep.LoopGhost
import Derived.Shelf.Small.Wraps
import Derived.Shelf.Strconv.Itoa0
import Derived.Shelf.Sort.Plain
import Derived.Shelf.Bits.Mul64
import Derived.Shelf.Slices.Turned
import Derived.Shelf.Slices.Reverse
import Derived.Shelf.Slices.Equal
import Derived.Ground.Names2Prog
import Derived.Shelf.Slices.Clone
import Derived.Shelf.Slices.CompactI
import Derived.Shelf.Slices.SearchI
import Derived.Shelf.Slices.Cells
import Derived.Shelf.Slices.In.SortNone
import Derived.Shelf.Slices.Empties2
import Derived.Ground.SlgnProg
import Derived.Shelf.SlicesE.Reverse
import Derived.Shelf.SlicesE.Clone
import Derived.Test.YtnieckfelfoopaaGreatDirSet
import Derived.Test.YtnieckfelfoopaaGreatTagWrite
open Array renaming replicate->cB
open Bool renaming and_eq_true->du
open Go.AllReadyH renaming cons->bX,nil->cN
open Go.IntWalk renaming i64_in->bq
open Go.RowKit.Below renaming refl->aE
open Go.World renaming size_alloc->bR,cell?_setCell_far->cK,size_setCell->cT
open List renaming replicate->bt,mem_map->bw,length_append->bE,length_map->bO,mem_cons->bS,mem_append->cv,range->cz,map_append->cA,append_nil->cC,map_cons->cE,take_of_length_le->cL,append_assoc->cQ,nodup_cons->cR,getElem?_eq_getElem->cX,not_mem_nil->cY,getD_eq_getElem?_getD->db,getElem?_eq_some_iff->dq,length_replicate->dx,range_succ->dz,eq_nil_of_length_eq_zero->ek
open Nat renaming le_refl->bp,le_trans->bB,zero_le->bN,lt_of_lt_of_le->cM,mul_one->da
open Go.Value renaming int->O,slice->an,tuple->ao,bool->aq
open Go.IntKind renaming i64->aa
open Go.Ending renaming returned->ar
open Go.RowKit renaming Hid->aL
open Go.Proofs.Tryz (prog)
set_option maxRecDepth 100000
set_option maxHeartbeats 16000000
namespace Go.Proofs.YtnieckfelfoopaaGreat
open Lib (hid)
section
open RowKit dY
theorem fU:prog.cellsOf 247=2:=az
def Rsp (NB B:Nat) (R:Nat->Prop) (n:Nat) (f:Fm) (k m:Nat) (w:World) (e:Ending) w':=
 e=ar (O aa 0)/\∃f',oq NB B R w w' f'/\Rsd NB n f f' k m
def agQ NB B q:=∀n R w f k m,cu NB B R w f->Fi NB n [] f.g (f.se++f.no)->Rsq NB f k m->dM NB f.g<=q->n+7*cc (dM NB f.g)+8<=1099511627776->
 Calls prog 283 #[f.F,O aa k] w (Rsp NB B R n f k m w)
section
variable {NB B n:Nat} {R:Nat->Prop} {w:World} {f:Fm}
def Cpd (NB B:Nat) (R:Nat->Prop) (n:Nat) (f:Fm) (j:Nat) (bs:List UInt8) (w:World) (e:Ending) (w':World):=
 ∃(k:Nat) (f1:Fm) (g':Mg),e=ar (ao #[.agg #[O aa k,O aa j],O aa 0])/\oq NB B R w w' {f1 with g:=g'}/\Cps NB n f f1 g' k j bs
theorem Tj q (hR:∀r,r<q->agQ NB B r) (h:cu NB B R w f) (hi:Fi NB n [] f.g (f.se++f.no)) (hq:dM NB f.g<=q) {j} (ho:Opj NB f.g j) (hj:j<=7) (hr:dM NB f.g+(if j=0 then 1 else 0)<=Gc.count 0 f.g.l) (hn:n+cc (dM NB f.g)<=1099511627776)
  a c bs (NL:f.g.gh bs) (NG:Own aJ 5 w 0 (an a 96 c) bs) (AL:∀q,Value.ownBlock (an a 96 c)=some q->¬R q):
  Calls prog 327 #[f.F,an a 96 c] w (Cpd NB B R n f j bs w):=by
 have gX:=h.base;have gu:=bA w (.cells #[O aa 0,O aa 0] 247);have H1:=ag (h.on gu);have HK:=ag (aF.new w 247 #[O aa 0,O aa 0]);have HO:=ag (NG.on gu);have kz:=ag (show bs.length=96 by obtain⟨a',c',hv,_⟩:=NG.form;injection hv with _ h2 _;exact h2.symm);have HZ:=ag (h.aV (bp w));have Kt:=ag AL;have CO:=ag gu;have HRs:=ag hR;have HC0:=ag (Cpj.start hi ho);have HI:=ag hi;have HQ:=ag hq;have HJ:=ag hj;have HR:=ag hr;have HN:=ag hn;have HGh:=ag NL;clear hR h hi hq ho hj hr hn NL NG AL gu
 go_in
 go_wp2_with fail;generalize w.alloc (.cells #[O aa 0,O aa 0] 247)=w1 at*
 go_loopg [6,7,8,11,23,26,54] (dM NB f.g) (λgk _ _ _ _ _ _ _ wr=>Hid (∃f',dM NB f'.g<=gk/\oq NB B R w1 wr f'/\Cpj NB n f f' j))
 case atStart=>exact hid ⟨f,bp _,H1.o.refl,HC0.o⟩
 case round=>
  obtain⟨f',hk,h1,hc⟩:=hrel.o;obtain⟨n',jg,hn'⟩:=hc.fi;have hF:=hc.mi.same.F;have hM:=hc.mi.same.M;have agK:∀q,Value.ownBlock (an a 96 c)=some q->¬Up R w1 wr q:=λq hq=>h1.far (Kt.o q hq) (HO.o.aN q hq).2;have HP:=ag (Hg h1.1 jg (hc.op.room (hc.room HR.o)) (by have:=HN.o;omega) a c bs (by rw[hc.mi.same.gh];exact HGh.o) (h1.own HO.o Kt.o) agK);rw[hM] at HP;have c1:=h1.1.c1;rw[hF,hM] at c1;have nz:=ag h1;have HC:=ag hc;have P8:=ag jg;have JD:=ag hn';have HF:=ag hF;have HM:=ag hM;have HKk:=ag hk;clear hrel hk h1 hc jg hn' hF agK hM;go_wp2_with fail;go_call HP.o as e w2 ⟨k,i,g',h2,⟨rfl,rU,qZ⟩|⟨rfl,hfl,qZ⟩⟩
  ·have av5:Vt ((g'.bl k).qB i)=bs:=by rw[rU.bk];show Vt (upd _ i (some bs) i)=bs;rw[upd_same];rfl
   have H2:=ag (nz.o.aA h2);have hRd:=yS H2.o.1 rU.hk rU.i8;unfold Rdd at hRd;have hC:g'.C=f.g.C:=rU.C.trans HC.o.mi.same.C;rw[show({f' with g:=g'}:Fm).g=g' from rfl,av5,hC] at hRd;have sU:=ag hRd;have aCs:=ag (λq hq=>H2.o.far (Kt.o q hq) (HO.o.aN q hq).2);have tJ:=ag (H2.o.own HO.o Kt.o);have ja:=ag (H2.o.blk HK.o HZ.o);have HZ2:=ag (H2.o.far HZ.o (aF.lt HK.o));have c0:w2.cell? (f.F,0)=some f.g.C:=by have h:=H2.o.1.c0;rw[show({f' with g:=g'}:Fm).F=f.F from HF.o,show({f' with g:=g'}:Fm).g=g' from rfl,hC] at h;exact h
   have HD:=ag (HC.o.done P8.o JD.o rU qZ);obtain rfl:=HC.o.op.at_ rU;clear h2 rU qZ hRd av5 c1 hC;go_wp2_with fail;go_call sU.o as e w3 ⟨⟨a3,c3,rfl,xM,Jr⟩,h3a,h3b⟩;have h3:=H2.o.1.toR h3a h3b;have tN:=ag (h3.own tJ.o aCs.o);have jZ:=ag (h3.blk ja.o HZ2.o);have H3:=ag (H2.o.aA h3);have x9:=ag Jr;clear h3 Jr c0 h3a h3b;go_wp2_with fail;refine(yG a a3 96 96 c c3 bs bs w3 (tN.o.arr (by rw[kz.o];omega)) (x9.o.arr (by rw[kz.o];omega))).mono ?_;rw[ez (rfl:bs=bs)];rintro e w4 ⟨rfl,eG⟩;have kX:=ag (aF.ah jZ.o eG);have jA:=CO.o.size;have H4:=ag (H3.o.on eG (bB gX jA));have NM:=ag (H4.o.tail CO.o gX (((Kq.refl (λq=>q=w.heap.size) w4).setCell (p:=(w.heap.size,0)) (.inl rfl) (O aa k)).setCell (p:=(w.heap.size,1)) (.inl rfl) (O aa i)) λq hq=>by subst hq;exact⟨bp _,aF.lt HK.o,HZ.o⟩);clear eG jA;have k0:=aF.aj (i:=0) kX.o rfl;have k1:=aF.aj (i:=1) kX.o rfl;have f0:=aF.frozen kX.o 0;have f1:=aF.frozen kX.o 1;have hs:=(aF.set kX.o 0 (O aa k)).set 1 (O aa i);have q0:=hs.aj (i:=0) (v:=O aa k) rfl;have q1:=hs.aj (i:=1) (v:=O aa i) rfl;clear hs;have gm:=fU;go_wp2_with fail;refine bodyPost_ret (v:=ao #[.agg #[O aa k,O aa i],O aa 0]) (by simp[results,Tryz.results327,go_sem,q0,q1]) rfl ⟨k,f',g',rfl,NM.o,HD.o⟩
  ·have H2:=ag (nz.o.aA h2);have agM:=HC.o.ask HJ.o HR.o HI.o.lf hfl ⟨_,_,_,P8.o⟩;have NR:dM NB g'+1=dM NB f'.g:=hfl.sk.nxF.1;have HRc:=ag (HRs.o (dM NB g') (by have:=HC.o.ph;have:=HQ.o;omega) (n'+1) (Up R w1 w2) w2 {f' with g:=g'} k j H2.o.1 qZ agM av (by have h1:=JD.o;have h2:=HN.o;rw[<-NR] at h1;have:cc (dM NB g'+1)=8*cc (dM NB g')+10:=rfl;show n'+1+7*cc (dM NB g')+8<=_;omega));rw[show(Value.pointer (some ⟨({f' with g:=g'}:Fm).F,0,none⟩))= f.F from congrArg (λq=>Value.pointer (some ⟨q,0,none⟩)) HF.o] at HRc;have HPh:=ag NR;have zK:=ag hfl;clear h2 agM NR hfl qZ c1;go_wp2_with fail;go_call HRc.o as e w3 ⟨rfl,f2,h3,hrs⟩;have H3:=ag (H2.o.aA h3);have HNx:=ag (HC.o.next JD.o zK.o hrs);have HRh:=ag (show dM NB f2.g<=dM NB g' from hrs.ph);clear h3 hrs;go_wp2_with fail
   go_roundg (dM NB f2.g)
   case measure=>have:=HRh.o;have:=HPh.o;have:=HKk.o;omega
   case rel=>exact hid ⟨f2,bp _,H3.o,HNx.o⟩
end
end
section
open RowKit dY ChangeMaps
theorem aqx:prog.cellsOf 362=4:=az
theorem av6 {SE NO w B a n l} (h:fP 4 (OY SE NO) w B a n l) {k} (hk:k<n):∃x,l[k]?=some x/\∃b o,a=(b,o)/\b<B/\w.cell? (b,o+k*4)=some (.map (some (if x.n then NO else SE)))/\w.cell? (b,o+k*4+1)=some (O .u32 x.e.t.p)/\w.cell? (b,o+k*4+2)=some (O aa x.e.b)/\w.cell? (b,o+k*4+3)=some (O aa x.e.i):=by obtain⟨b,o,nD,ha,hb,hc⟩:=h.YJ hk;exact⟨l[k],cX nD,b,o,ha,hb,hc 0 _ rfl,hc 1 _ rfl,hc 2 _ rfl,hc 3 _ rfl⟩
section
variable {NB B n:Nat} {R:Nat->Prop} {w:World} {f:Fm}
def Mvd (NB B:Nat) (R:Nat->Prop) (n:Nat) (f:Fm) (k:Nat) (w:World) (e:Ending) w':=
 e=ar (O aa 0)/\∃f',oq NB B R w w' f'/\JO NB n f f' k (Gc.at_ f.g.l k).live (Gc.at_ f.g.l k).live []
theorem LJ q (hR:∀r,r<q->agQ NB B r) (h:cu NB B R w f) (hi:Fi NB n [] f.g (f.se++f.no)) (hq:dM NB f.g<=q) {k} (hk:k<NB) (ho:f.g.opn= -1) (hst:(Gc.at_ f.g.l k).st=if (Gc.at_ f.g.l k).live=0 then 3 else 2) (hm7:(Gc.at_ f.g.l k).live<=7) (hf:0<(Gc.at_ f.g.l k).live->dM NB f.g+1<=Gc.count 0 f.g.l) (hn:n+7*cc (dM NB f.g)+8<=1099511627776):
  Calls prog 305 #[f.F,O aa k] w (Mvd NB B R n f k w):=by
 have hb:=hi.w.bk k hk;have mf:(allIn f k).length=(Gc.at_ f.g.l k).live:=by rw[Qu];exact hi.count hk
 have HN:=ag (Tm h k (λe he=>(hi.pg e he).i8) (by have:=hb.l8;omega));have gX:=h.base;have HH:=ag h;have HI:=ag hi;have HO:=ag ho;have HF:=ag hf;have JI:=ag hm7;have HAl:=ag mf;have jI:=ag hst;have HRs:=ag hR;have HQq:=ag hq;have HNn:=ag hn;clear hR hq h hi ho hf hb mf hst hm7 hn
 go_in
 go_wp2_with fail;go_call HN.o as e w1 ⟨⟨a,m,c,L,rfl,hm,hL,hA,Bg⟩,bP⟩;have hmz:m=(Gc.at_ f.g.l k).live:=by have:=hL.length_eq;rw[bO,hA.len,HAl.o] at this;exact this
 obtain⟨M,hM⟩:=aW ((Gc.at_ f.g.l k).live);rw[<-hM] at hmz;subst hmz;have HM:=ag hM;have H1:=ag (HH.o.on bP);have bV:=ag bP;have HA:=ag hA;have ZH:=ag (show JO NB n f f k m 0 L by rw[HM.o];exact aCu HI.o HH.o.hS.uq HH.o.hN.uq hk HO.o jI.o hL);have HA2:=ag Bg;clear bP hL hA hM Bg;go_wp2_with fail
 go_loopw [4,6,7,8,9,10,11,16] (λ_ _ _ _ _ _ _ v wr=>∃j:Nat,j<=m/\v=O aa j/\Hid (∃f',oq NB B R w1 wr f'/\JO NB n f f' k m j (L.drop j))) (λ_ _ _ _ _ _ _ v _=>m-(intOf v).toNat)
 case atStart=>exact⟨0,ae,rfl,⟨f,H1.o.refl,ZH.o⟩⟩
 case round=>
  obtain⟨j,hj,rfl,hX⟩:=hrel;by_cases aT:j<m
  ·obtain⟨f',Zk,qZ⟩:=hX.o;have hA:=HA.o.kq av Zk.2 λb o e h1=>by have:=HA2.o b o e;have:=(HH.o.bnd b h1).2;omega
   obtain⟨x,hx,b,o,rfl,gB,c0,c1,c2,c3⟩:=av6 hA aT;have hdr:L.drop j=x::L.drop (j+1):=by obtain⟨vJ,he⟩:=dq.1 hx;rw[List.drop_eq_getElem_cons vJ,he]
   rw[hdr] at qZ;have UW:=ag Zk;have wM:=ag qZ;have gm:=aqx;have g1:(0:Int)<=(j:Int):=ae;have g2:(j:Int)<(m:Int):=ae;clear hX Zk qZ hA hx hdr;have NM:=ag wM.o.mi.same.F;obtain⟨MB,hMB⟩:=aW (if x.n then f.NO else f.SE);rw[<-hMB] at c0;have HMB:=ag hMB;clear hMB;go_upto_region 4 with fail;have mf:=bA wr (.cells #[.map (some MB),O .u32 x.e.t.p,O aa x.e.b,O aa x.e.i] 362);obtain⟨R1,hR1⟩:=aW (Up R w1 wr);have EJ:=ag hR1;have YI:=ag (show cu NB B R1 (wr.alloc (.cells #[.map (some MB),O .u32 x.e.t.p,O aa x.e.b,O aa x.e.i] 362)) f' by rw[hR1];exact UW.o.1.on mf);have ES:=ag (aF.new wr 362 #[.map (some MB),O .u32 x.e.t.p,O aa x.e.b,O aa x.e.i]);have Ti:=ag (show¬R1 wr by rw[hR1];exact UW.o.1.aV av);have df:=ag mf;clear hR1 mf c0 c1 c2 c3;generalize wr.alloc (.cells #[.map (some MB),O .u32 x.e.t.p,O aa x.e.b,O aa x.e.i] 362)=W1 at*;have HQz:=ag (show∀q:Nat,q<wr.heap.size->q<W1.heap.size from λq hq=>cM hq df.o.size);obtain⟨Q,hQ⟩:=aW wr.heap.size;rw[<-hQ] at ES Ti⊢;have HQe:=ag hQ;clear hQ;have YX:=YI.o.c0;rw[NM.o] at YX;have hq3:W1.cell? ⟨Q,3,none⟩=some (O aa x.e.i):=aF.aj (i:=3) ES.o rfl;have sU:=ag (yS (YI.o.on (ak W1)) hk x.h);refine iE (λW'=>W'.cell? ⟨f.F,0,none⟩=some (.pointer (some ⟨f'.g.C,0,none⟩))/\W'.cell? ⟨Q,3,none⟩=some (O aa x.e.i)) ⟨YX,hq3⟩ (λaY=>?_);refine dw 0 f.F 0 ?_;refine dw 1 f.F 0 ?_;refine aS 2 f.F 0 ?_;refine jE 3 (.pointer (some ⟨f'.g.C,0,none⟩)) rfl (λ_ aK=>by obtain⟨y8,y9⟩:=aK;go_simp) ?_;refine dI 4 (k:Int) ?_;refine aS 5 Q 2 ?_;refine aS 6 Q 3 ?_;refine jE 7 (O aa x.e.i) rfl (λ_ aK=>by obtain⟨y8,y9⟩:=aK;go_simp) ?_;refine bY 8 (λK' hK=>?_);go_simp;go_call sU.o as e W2 ⟨⟨a3,c3,rfl,xM,Jr⟩,EY,eU⟩;have JB:=ag EY;have ja:=ag eU;have tJ:=ag Jr;have dh:W2.cell? ⟨f.F,0,none⟩=some f'.g.C/\W2.cell? (Q,3)=some (O aa x.e.i):=by refine⟨by rw[<-NM.o];exact EY.c0,?_⟩;exact(aF.kq (ES.o.drew) eU Ti.o).aj (i:=3) rfl
   clear EY eU Jr;refine hK.out _ _ dh (λfE=>?_)
   refine dG 9 (ao #[an a3 96 c3,O aa 0]) ?_;refine dG 10 (an a3 96 c3) ?_;refine dI 11 0 ?_;refine dG 12 (an a3 96 c3) ?_;refine dI 13 0 ?_;refine eH ?_;clear aY dh fE YX hq3;have wO:=wM.o.mem x au;have Bh:x.e∈f'.se++f'.no:=by
    obtain⟨_,wP⟩:=wO
    cases hn:x.n
    ·rw[hn] at wP;exact List.mem_append_left _ wP
    ·rw[hn] at wP;exact List.mem_append_right _ wP
   have rU:Vt ((f'.g.bl k).qB x.e.i)=Tg.page x.e.t x.e.d:=by have:=(wM.o.fi.pg x.e Bh).pg;rw[wO.1] at this;rw[this];rfl
   have hO2:=tJ.o;rw[rU] at hO2;have tJ:=ag hO2;have HXk:=ag (wM.o.fi.ok x.e Bh).key;have AL:∀q,Value.ownBlock (an a3 96 c3)=some q->¬R1 q:=λq hq=>YI.o.aV (hO2.aN q hq).1;have HC:=ag (Tj q HRs.o JB.o wM.o.fi (bB wM.o.ph HQq.o) wM.o.op (by have:=JI.o;have:=HM.o;omega) (wM.o.room (HF.o (by have:=HM.o;omega))) (by have h1:=HNn.o;have h2:=D9 wM.o.ph;have h3:j*(cc (dM NB f.g)+1)<=6*(cc (dM NB f.g)+1):=Nat.mul_le_mul_right _ (by have:=JI.o;have:=HM.o;omega);omega) a3 c3 _ (wM.o.fi.al _ _ _ (wM.o.fi.lt Bh) (wM.o.fi.pg x.e Bh).i8 (wM.o.fi.pg x.e Bh).pg) (tJ.o.mono (bN _)) AL);rw[NM.o] at HC;have IP:=ag (aF.kq ES.o.drew ja.o Ti.o);clear wO Bh rU hO2 AL;go_wp2_with fail;go_call HC.o as e W4 ⟨k',f1,g1',rfl,h4,hcp⟩;obtain⟨R2,hR2⟩:=aW (Up R1 W2 W4);have eQ:=bA W4 (.cells #[O aa k',O aa j] 247);obtain⟨W5,hW5⟩:∃W5,W5=W4.alloc (.cells #[O aa k',O aa j] 247):=⟨_,rfl⟩
   rw[<-hW5] at eQ;have hm5:=h4.1.on eQ;have av9:=ag (show¬R2 Q by rw[hR2];exact h4.far Ti.o (aF.lt IP.o));rw[<-hR2] at hm5;have HQ5:=ag ((h4.blk IP.o Ti.o).ah eQ);have HZ5:=ag (show aF W5 W4 247 #[O aa k',O aa j] by rw[hW5];exact aF.new W4 _ _);have je:=ag eQ;have SA:=ag hW5;obtain⟨o6,bF,hm6,tH⟩:=hm5.aCx x.n (MB:=MB) (by rw[HMB.o,show({f1 with g:=g1'}:Fm).NO=f.NO from hcp.mi.same.NO.trans wM.o.mi.same.NO,show({f1 with g:=g1'}:Fm).SE=f.SE from hcp.mi.same.SE.trans wM.o.mi.same.SE]) (NS x k' j) HXk.o;have bF:(Instr.mapUpdate 222 (.map (some MB)) (O .u32 x.e.t.p) (.agg #[O aa k',O aa j])).run prog W5= .ok () (setBlock W5 MB o6):=bF;have vP:=ag hm6;have ql:=ag tH;have tC:=ag hR2;have HCp:=ag hcp;have kX:=ag h4.2;have HZs:=ag (show W4.heap.size<=W5.heap.size from eQ.size);clear hm5 hm6 tH hR2 eQ hcp h4;have q0:=aF.aj (i:=0) HQ5.o rfl;have q1:=aF.aj (i:=1) HQ5.o rfl;have z0:=aF.aj (i:=0) HZ5.o rfl;have z1:=aF.aj (i:=1) HZ5.o rfl;have aCq:=fU;go_upto_region 10 with fail;rw[<-hW5];clear hW5;go_upto_region 11 with fail
   have HQ6:=ag (aF.kq HQ5.o ql.o av9.o);clear bF q0 q1 z0 z1;obtain⟨W6,GN⟩:=aW (setBlock W5 MB o6);rw[<-GN] at vP ql HQ6⊢;clear GN;obtain⟨f2,qZ⟩:∃f2,f2=({f1 with g:=g1',se:=if x.n then f1.se else dA f1.se (NS x k' j),no:=if x.n then dA f1.no (NS x k' j) else f1.no}:Fm):=⟨_,rfl⟩
   have vP:Hid (cu NB B R2 W6 f2):=by rw[qZ];exact vP
   have Wx:=ag (show Same f1 {f2 with g:=f1.g,se:=f1.se,no:=f1.no} by rw[qZ];exact Same.refl f1);have adF:=ag (show f2.se=if x.n then f1.se else dA f1.se (NS x k' j) by rw[qZ]);have adG:=ag (show f2.no=if x.n then dA f1.no (NS x k' j) else f1.no by rw[qZ]);have U3:=ag (show f2.g=g1' by rw[qZ]);have aqy:=ag (show f2.F=f.F by rw[qZ];exact HCp.o.mi.same.F.trans NM.o);clear qZ;obtain⟨gb,gi,hgv⟩:∃gb gi:Nat,plO (aI f2.go x.e.t.p)= .agg #[O aa gb,O aa gi]:=by
    cases aI f2.go x.e.t.p with
    |none=>exact⟨0,0,rfl⟩
    |some e=>exact⟨e.b,e.i,rfl⟩
   obtain⟨gf,hgf⟩:=aW ((aI f2.go x.e.t.p).isSome);have HGf:=ag hgf;have HLk:=ag (λ(W':World) (hW:Below W6 W6 W')=>show(Instr.lookup 222 (.map (some f2.GO)) (O .u32 x.e.t.p) true).run prog W'= .ok (ao #[.agg #[O aa gb,O aa gi],aq gf]) W' by have:=(vP.o.on hW).hG.look HXk.o true;rw[hgv,<-hgf] at this;exact this);have HC7:=ag (λ(W':World) (hW:Below W6 W6 W')=>show W'.cell? (f.F,7)=some (.map (some f2.GO)) by rw[<-aqy.o];exact(vP.o.on hW).c7);have HC1:=ag (λ(W':World) (hW:Below W6 W6 W')=>show W'.cell? (Q,1)=some (O .u32 x.e.t.p) from(HQ6.o.ah hW).aj (i:=1) rfl);clear hgv hgf;have gZ:=ag (show Below W6 W6 W6.drew from ak W6);refine iE (λW'=>Below W6 W6 W') gZ.o (λaY=>?_);generalize W6.drew=W7 at*;refine dw 0 f.F 0 ?_;refine dw 1 f.F 0 ?_;refine aS 2 f.F 7 ?_;refine kS 3 (.map (some f2.GO)) (λ_ aK=>HC7.o _ aK) ?_;refine aS 4 Q 1 ?_;refine kS 5 (O .u32 x.e.t.p) (λ_ aK=>HC1.o _ aK) ?_;refine kS 6 (ao #[.agg #[O aa gb,O aa gi],aq gf]) (λ_ aK=>HLk.o _ aK) ?_;refine dG 7 (ao #[.agg #[O aa gb,O aa gi],aq gf]) ?_;refine dG 8 (.agg #[O aa gb,O aa gi]) ?_;refine dG 9 (aq gf) ?_;refine bY 10 (λK' hK=>?_);go_simp;have dh:=aY.alloc aY.size (.cells #[O aa 0,O aa 0] 247);have hbT:=aF.new W7 247 #[O aa 0,O aa 0];have HT0:=ag aY.size;refine hK.out _ _ dh (λfE=>?_)
   refine bY 11 (λK' hK=>?_);go_simp;have iZ:=aY.alloc aY.size (.cells #[O aa gb,O aa gi] 247);refine hK.out _ _ iZ (λqX=>?_)
   refine dG 12 (aq gf) ?_;refine eH ?_;have x8:=ag (vP.o.on iZ);have HQ7:=ag (HQ6.o.ah iZ);have nY:=ag iZ;clear aY dh fE iZ qX hbT gZ;generalize W7.alloc (.cells #[O aa gb,O aa gi] 247)=W8 at*;have q1:=aF.aj (i:=1) HQ7.o rfl;cases gf
   ·have WG:=x8;have BC:=Wx;have Jd:=adF;have OZ:=adG;have HG8:=U3;have Qb:=ag (Kq.of (T:=R2) nY.o);clear x8 Wx adF adG U3;obtain⟨f3,FP⟩:=aW f2;rw[<-FP] at WG BC Jd OZ HG8;clear FP;have YV:=WG.o.c1;have eF8:f3.F=f.F:=BC.o.F.trans (HCp.o.mi.same.F.trans NM.o);rw[eF8] at YV;have hfx:Fi NB (n+j*(cc (dM NB f.g)+1)+cc (dM NB f'.g)) (k::[]) f3.g (f3.se++f3.no):=by rw[HG8.o,Jd.o,OZ.o];exact wM.o.mid hk HCp.o
    have Lr:=ag (yT WG.o hfx);have Af:=ag (JO.step (f4:={f3 with g:={f3.g with l:=f3.g.l.set k (dD (Gc.at_ f3.g.l k))}}) wM.o hk (by have:=JI.o;have:=HM.o;omega) HO.o ⟨_,_,_,HI.o⟩ HCp.o BC.o Jd.o OZ.o (by rw[HG8.o]));clear hfx eF8;go_wp2_with fail;go_call Lr.o as e W9 ⟨rfl,UY,AU⟩;have HM9:=ag UY;have GU:=ag AU;clear UY AU YV;go_wp2_with fail;go_roundw
    case rel=>
     refine⟨j+1,ae,by go_num,⟨_,?_,Af.o⟩⟩;have WZ:Kq R2 W4 W9:=(((Kq.of je.o).trans ql.o).trans Qb.o).trans GU.o;have hkA:Kq R1 wr W4:=((Kq.of df.o).on (ak W1)).trans (ja.o.trans kX.o);have tZ:wr.heap.size<=W2.heap.size:=bB df.o.size ja.o.size;have tu:=kX.o.size;have hz3:=WZ.size;have hkE:Kq R1 wr W9:=hkA.aA WZ λq hq=>by
      rw[tC.o] at hq;rcases hq with h1|h1
      ·exact .inl h1
      ·exact .inr ae
     have hmE:cu NB B (Up R1 wr W9) W9 _:=HM9.o.more (λq hq=>by
      rw[tC.o] at hq;rcases hq with h1|h1
      ·exact .inl h1
      ·exact .inr ae) λq hq=>by
      rcases hq with h1|h1
      ·exact HM9.o.bnd q (by rw[tC.o];exact .inl h1)
      ·exact⟨by have:=gX;have:=bV.o.size;have:=UW.o.2.size;omega,h1.2⟩
     have:=UW.o.aA (f2:=_) ⟨by rw[EJ.o] at hmE;exact hmE,by rw[EJ.o] at hkE;exact hkE⟩;exact this
    case measure=>simp[intOf];omega
   ·by_cases hp:0<x.e.t.p
    ·have hpi:(0:Int)<(x.e.t.p:Int):=ae;have HPk:=ag hp;go_upto_region 13 with fail;clear q1 hpi hp;obtain⟨sb,si,hsv⟩:∃sb si:Nat,plO (aI f2.se x.e.t.p)= .agg #[O aa sb,O aa si]:=by
      cases aI f2.se x.e.t.p with
      |none=>exact⟨0,0,rfl⟩
      |some e=>exact⟨e.b,e.i,rfl⟩
     obtain⟨S7,qM⟩:∃S7:World->Prop,S7=λW'=>(∃f5,cu NB B R2 W' f5/\f5.F=f.F/\f5.GO=f2.GO/\f5.SE=f2.SE/\f5.se=f2.se)/\aF W' Q 362 #[.map (some MB),O .u32 x.e.t.p,O aa x.e.b,O aa x.e.i]:=⟨_,rfl⟩
     have HLs:=ag (λ(W':World) (hW:S7 W')=>show(Instr.lookup 222 (.map (some f2.SE)) (O .u32 x.e.t.p) false).run prog W'= .ok (.agg #[O aa sb,O aa si]) W' by rw[qM] at hW;obtain⟨⟨f5,e1,e2,e3,e4,e5⟩,_⟩:=hW;have:=e1.hS.look HXk.o false;rw[e5,e4,hsv] at this;exact this);have VK:=ag (λ(W':World) (hW:S7 W')=>show W'.cell? (f.F,7)=some (.map (some f2.GO)) by rw[qM] at hW;obtain⟨⟨f5,e1,e2,e3,e4,e5⟩,_⟩:=hW;rw[<-e2,<-e3];exact e1.c7);have P6:=ag (λ(W':World) (hW:S7 W')=>show W'.cell? (f.F,5)=some (.map (some f2.SE)) by rw[qM] at hW;obtain⟨⟨f5,e1,e2,e3,e4,e5⟩,_⟩:=hW;rw[<-e2,<-e4];exact e1.c5);have HD1:=ag (λ(W':World) (hW:S7 W')=>show W'.cell? (Q,1)=some (O .u32 x.e.t.p) by rw[qM] at hW;exact hW.2.aj (i:=1) rfl);have gZ:=ag (show Below W8 W8 W8.drew from ak W8);have rU:=(x8.o.on gZ.o).awe {x.e with b:=sb,i:=si} HXk.o;obtain⟨o9,agR,UY,AU⟩:=rU;have agR:(Instr.mapUpdate 222 (.map (some f2.GO)) (O .u32 x.e.t.p) (.agg #[O aa sb,O aa si])).run prog W8.drew= .ok () (setBlock W8.drew f2.GO o9):=agR;have HM9:=ag UY;have GU:=ag ((Kq.of (T:=R2) nY.o).trans ((Kq.of (T:=R2) gZ.o).trans AU));have hQ7:=HQ7.o.ah gZ.o;have awf:S7 W8.drew:=by rw[qM];exact⟨⟨f2,x8.o.on gZ.o,aqy.o,rfl,rfl,rfl⟩,hQ7⟩
     have awg:S7 (setBlock W8.drew f2.GO o9):=by rw[qM];exact⟨⟨_,UY,aqy.o,rfl,rfl,rfl⟩,hQ7.kq AU av9.o⟩
     have awh:=ag awg;clear UY AU hsv qM awg hQ7;refine iE S7 awf (λaY=>?_);refine dw 0 f.F 0 ?_;refine dw 1 f.F 0 ?_;refine aS 2 f.F 7 ?_;refine kS 3 (.map (some f2.GO)) (λ_ aK=>VK.o _ aK) ?_;refine aS 4 Q 1 ?_;refine kS 5 (O .u32 x.e.t.p) (λ_ aK=>HD1.o _ aK) ?_;refine dw 6 f.F 0 ?_;refine dw 7 f.F 0 ?_;refine aS 8 f.F 5 ?_;refine kS 9 (.map (some f2.SE)) (λ_ aK=>P6.o _ aK) ?_;refine aS 10 Q 1 ?_;refine kS 11 (O .u32 x.e.t.p) (λ_ aK=>HD1.o _ aK) ?_;refine kS 12 (.agg #[O aa sb,O aa si]) (λ_ aK=>HLs.o _ aK) ?_;refine bY 13 (λK' hK=>?_);go_simp;refine hK.out _ _ awh.o (λIA=>?_);refine eH ?_;obtain⟨W9',awi⟩:=aW (setBlock W8.drew f2.GO o9);rw[<-awi] at HM9 GU⊢;clear agR awf aY IA awi awh HD1 P6 VK HLs;obtain⟨f3,FP⟩:∃f3,f3=({f2 with go:=dA f2.go {x.e with b:=sb,i:=si}}:Fm):=⟨_,rfl⟩
     have hgk:f3.go.map (λe=>e.t.p)=f2.go.map λe=>e.t.p:=by rw[FP];exact Qr (e:={x.e with b:=sb,i:=si}) HGf.o.symm
     have WG:Hid (cu NB B R2 W9' f3):=by rw[FP];exact HM9
     have BC:Hid (Same f1 {f3 with g:=f1.g,se:=f1.se,no:=f1.no}):=ag (by have h6:=Wx.o;rw[FP] at hgk⊢;exact⟨h6.F,h6.SE,h6.NO,h6.GO,h6.LA,h6.M,h6.ML,h6.C,h6.seq,h6.ep,h6.tv,h6.tx,h6.ov,h6.se,h6.no,hgk.trans h6.go,h6.gh⟩);have Jd:Hid (f3.se=if x.n then f1.se else dA f1.se (NS x k' j)):=by rw[FP];exact adF
     have OZ:Hid (f3.no=if x.n then dA f1.no (NS x k' j) else f1.no):=by rw[FP];exact adG
     have HG8:Hid (f3.g=g1'):=by rw[FP];exact U3
     have Qb:=GU;clear x8 HM9 GU Wx adF adG U3 hgk FP nY HQ7;generalize W8=W8o at*;generalize W9'=W8 at*;have YV:=WG.o.c1;have eF8:f3.F=f.F:=BC.o.F.trans (HCp.o.mi.same.F.trans NM.o);rw[eF8] at YV;have hfx:Fi NB (n+j*(cc (dM NB f.g)+1)+cc (dM NB f'.g)) (k::[]) f3.g (f3.se++f3.no):=by rw[HG8.o,Jd.o,OZ.o];exact wM.o.mid hk HCp.o
     have Lr:=ag (yT WG.o hfx);have Af:=ag (JO.step (f4:={f3 with g:={f3.g with l:=f3.g.l.set k (dD (Gc.at_ f3.g.l k))}}) wM.o hk (by have:=JI.o;have:=HM.o;omega) HO.o ⟨_,_,_,HI.o⟩ HCp.o BC.o Jd.o OZ.o (by rw[HG8.o]));clear hfx eF8;go_wp2_with fail;go_call Lr.o as e W9 ⟨rfl,UY,AU⟩;have HM9:=ag UY;have GU:=ag AU;clear UY AU YV;go_wp2_with fail;go_roundw
     case rel=>
      refine⟨j+1,ae,by go_num,⟨_,?_,Af.o⟩⟩;have WZ:Kq R2 W4 W9:=(((Kq.of je.o).trans ql.o).trans Qb.o).trans GU.o;have hkA:Kq R1 wr W4:=((Kq.of df.o).on (ak W1)).trans (ja.o.trans kX.o);have tZ:wr.heap.size<=W2.heap.size:=bB df.o.size ja.o.size;have tu:=kX.o.size;have hz3:=WZ.size;have hkE:Kq R1 wr W9:=hkA.aA WZ λq hq=>by
       rw[tC.o] at hq;rcases hq with h1|h1
       ·exact .inl h1
       ·exact .inr ae
      have hmE:cu NB B (Up R1 wr W9) W9 _:=HM9.o.more (λq hq=>by
       rw[tC.o] at hq;rcases hq with h1|h1
       ·exact .inl h1
       ·exact .inr ae) λq hq=>by
       rcases hq with h1|h1
       ·exact HM9.o.bnd q (by rw[tC.o];exact .inl h1)
       ·exact⟨by have:=gX;have:=bV.o.size;have:=UW.o.2.size;omega,h1.2⟩
      have:=UW.o.aA (f2:=_) ⟨by rw[EJ.o] at hmE;exact hmE,by rw[EJ.o] at hkE;exact hkE⟩;exact this
     case measure=>simp[intOf];omega
    ·have hpi:¬(0:Int)<(x.e.t.p:Int):=ae;have WG:=x8;have BC:=Wx;have Jd:=adF;have OZ:=adG;have HG8:=U3;have Qb:=ag (Kq.of (T:=R2) nY.o);clear x8 Wx adF adG U3;obtain⟨f3,FP⟩:=aW f2;rw[<-FP] at WG BC Jd OZ HG8;clear FP;have YV:=WG.o.c1;have eF8:f3.F=f.F:=BC.o.F.trans (HCp.o.mi.same.F.trans NM.o);rw[eF8] at YV;have hfx:Fi NB (n+j*(cc (dM NB f.g)+1)+cc (dM NB f'.g)) (k::[]) f3.g (f3.se++f3.no):=by rw[HG8.o,Jd.o,OZ.o];exact wM.o.mid hk HCp.o
     have Lr:=ag (yT WG.o hfx);have Af:=ag (JO.step (f4:={f3 with g:={f3.g with l:=f3.g.l.set k (dD (Gc.at_ f3.g.l k))}}) wM.o hk (by have:=JI.o;have:=HM.o;omega) HO.o ⟨_,_,_,HI.o⟩ HCp.o BC.o Jd.o OZ.o (by rw[HG8.o]));clear hfx eF8;go_wp2_with fail;go_call Lr.o as e W9 ⟨rfl,UY,AU⟩;have HM9:=ag UY;have GU:=ag AU;clear UY AU YV;go_wp2_with fail;go_roundw
     case rel=>
      refine⟨j+1,ae,by go_num,⟨_,?_,Af.o⟩⟩;have WZ:Kq R2 W4 W9:=(((Kq.of je.o).trans ql.o).trans Qb.o).trans GU.o;have hkA:Kq R1 wr W4:=((Kq.of df.o).on (ak W1)).trans (ja.o.trans kX.o);have tZ:wr.heap.size<=W2.heap.size:=bB df.o.size ja.o.size;have tu:=kX.o.size;have hz3:=WZ.size;have hkE:Kq R1 wr W9:=hkA.aA WZ λq hq=>by
       rw[tC.o] at hq;rcases hq with h1|h1
       ·exact .inl h1
       ·exact .inr ae
      have hmE:cu NB B (Up R1 wr W9) W9 _:=HM9.o.more (λq hq=>by
       rw[tC.o] at hq;rcases hq with h1|h1
       ·exact .inl h1
       ·exact .inr ae) λq hq=>by
       rcases hq with h1|h1
       ·exact HM9.o.bnd q (by rw[tC.o];exact .inl h1)
       ·exact⟨by have:=gX;have:=bV.o.size;have:=UW.o.2.size;omega,h1.2⟩
      have:=UW.o.aA (f2:=_) ⟨by rw[EJ.o] at hmE;exact hmE,by rw[EJ.o] at hkE;exact hkE⟩;exact this
     case measure=>simp[intOf];omega
  ·obtain rfl:j=m:=ae;have HX:=ag hX.o;clear hX;go_wp2_with fail;go_ret;obtain⟨f',h1,h2⟩:=HX.o;rw[List.drop_eq_nil_of_le (by have:=ZH.o.len;omega)] at h2;rw[HM.o] at h2;exact⟨rfl,f',h1.from_ bV.o gX,h2⟩
end
end
section
open RowKit dY
section
variable {NB B n:Nat} {R:Nat->Prop} {w:World} {f:Fm}
theorem alc q (hR:∀r,r<q->agQ NB B r):agQ NB B q:=by
 intro n R w f k m h hi hs hq hn;have HM:=ag (LJ q hR h hi hq hs.hk hs.op (by rw[hs.live];exact hs.st) (by rw[hs.live];exact hs.m7) (λ_=>hs.fr) hn);have HS:=ag hs;have HI:=ag hi;have gX:=h.base;have c1:=h.c1;clear hR h hi hs hq hn
 go_in
 go_wp2_with fail;go_call HM.o as e w1 ⟨rfl,f1,h1,hm⟩;rw[HS.o.live] at hm;have HMv:=ag hm;have H1:=ag h1;have HF:=ag hm.mi.same.F;have d1:=h1.1.c1;rw[hm.mi.same.F] at d1;have HRt:=ag (O0 h1.1 hm.fi HS.o.hk (by rw[hm.st,ev rfl]));clear h1 hm c1;go_wp2_with fail;go_call HRt.o as e w2 ⟨rfl,EY,eU⟩;have sU:=ag (HMv.o.aqB HS.o (HI.o.w.bk k HS.o.hk).wn);have H2:=ag (H1.o.step EY eU);have d2:=H2.o.1.c1;rw[show({f1 with g:=EW f1.g k}:Fm).F=f.F from HF.o] at d2;have HL:=ag (yR H2.o.1 sU.o.fi);have Vg:=sU.o.fi.lf;obtain⟨cq,hcq⟩:=aW (Gc.count 4 (EW f1.g k).l);have Dw:cq<=2:=by rw[hcq];exact bB (Nat.le_add_right _ _) Vg
 rw[show Gc.count 4 ({f1 with g:=EW f1.g k}:Fm).g.l=cq from hcq.symm] at HL;have g1:¬(2-(cq:Int)<0):=ae;clear EY eU Vg hcq Dw d1;go_wp2_with fail;go_call HL.o as e w3 ⟨rfl,hb⟩;have H3:=ag (H2.o.on hb gX);clear hb;go_wp2;go_ret;exact⟨rfl,_,H3.o,sU.o⟩
theorem D7 q:agQ NB B q:=by
 induction q using Nat.strongRecOn with
 |_ q ih=>exact alc q ih
end
namespace dY
structure Wpd NB n (f:Fm) g' k:Prop where
 fi:Fi NB (n+1) [] g' (f.se++f.no)
 same:Same f {f with g:=g'}
 row:∀q,q≠k->Gc.at_ g'.l q=Gc.at_ f.g.l q
 st:((Gc.at_ g'.l k).st=0/\(Gc.at_ g'.l k).aC=(Gc.at_ f.g.l k).aC+1)\/(Gc.at_ g'.l k).st=4
 opn:g'.opn=f.g.opn
 num:qn g'=qn f.g+1
 ph:dM NB g'<=dM NB f.g
 mo:(g'.bl NB).bad=(f.g.bl NB).bad
section
variable {NB n k:Nat} {f:Fm} {y:Pb}
theorem aqC {ps'} (hi:Fi NB n [] f.g (f.se++f.no)) (hk:k<NB) (hs:(Gc.at_ f.g.l k).st=3) (hw:∀j,j<NB->(Gc.at_ f.g.l j).st≠4->(Gc.at_ f.g.l k).aC<=(Gc.at_ f.g.l j).aC+3) (hy:mG (f.g.bl NB) y true):Wpd NB n f (erG f.g NB y k ps') k:=by
 obtain⟨s1,s2,s3⟩:=hy.nxT;have hlen:=hi.w.len;have hN:(erG f.g NB y k ps').bl NB=y:=(aG _ _ ae).trans (upd_same _ _ _);have IU:=(hi.w.bk k hk).we;have hl:(erG f.g NB y k ps').l=f.g.l.set k ⟨0,0,(Gc.at_ f.g.l k).aC+1,0⟩:=by show f.g.l.set k ⟨0,0,(f.g.bl k).aC+1,0⟩=_;rw[IU]
 have uQ:Gc.at_ (erG f.g NB y k ps').l k=⟨0,0,(Gc.at_ f.g.l k).aC+1,0⟩:=by rw[hl];exact at_set _ _ ae
 have hc:=λs=>Gc.count_set s (l:=f.g.l) (k:=k) ⟨0,0,(Gc.at_ f.g.l k).aC+1,0⟩ ae;refine⟨hi.erase hk (.inr hs) hw hy,⟨rfl,rfl,rfl,rfl,rfl,rfl,rfl,rfl,rfl,rfl,rfl,rfl,rfl,rfl,rfl,rfl,rfl⟩,λq hq=>by rw[hl];exact bC _ _ hq,.inl ⟨by rw[uQ],by rw[uQ]⟩,?_,?_,by unfold dM;grind,by rw[hN,s2]⟩
 ·show(if f.g.opn=(k:Int) then(-1:Int) else f.g.opn)=f.g.opn;rcases hi.w.opn with e|⟨q,q1,q2,q3⟩
  ·rw[e];split<;>rfl
  grind
 ·unfold qn;grind
theorem ald {pg} (hi:Fi NB n [] f.g (f.se++f.no)) (hk:k<NB) (hs:(Gc.at_ f.g.l k).st=3) (hy:mG (f.g.bl NB) y false):Wpd NB n f (erF f.g NB y k pg) k:=by
 obtain⟨s1,s2,s3,s4⟩:=hy.nxF;have hlen:=hi.w.len;have hN:(erF f.g NB y k pg).bl NB=y:=(aG _ _ ae).trans ((aG _ _ ae).trans (upd_same _ _ _));have IU:=(hi.w.bk k hk).we;have hwn:=(hi.w.bk k hk).wn;have hl:(erF f.g NB y k pg).l=f.g.l.set k ⟨4,0,(f.g.bl k).aC+1,0⟩:=by show(f.g.l.set k _).set k ⟨4,0,(upd (upd f.g.bl NB y) k (brk (f.g.bl k) pg) k).aC,0⟩=_;rw[List.set_set,upd_same];rfl
 have hb:∀j,j<NB->(erF f.g NB y k pg).bl j=upd f.g.bl k {brk (f.g.bl k) pg with bad:=true} j:=λj hj=>by show upd (upd (upd f.g.bl NB y) k (brk (f.g.bl k) pg)) k {upd (upd f.g.bl NB y) k (brk (f.g.bl k) pg) k with bad:=true} j=_;rw[qE,upd_same];exact dm.nN _ _ _ j hj
 have uQ:Gc.at_ (erF f.g NB y k pg).l k=⟨4,0,(f.g.bl k).aC+1,0⟩:=by rw[hl];exact at_set _ _ ae
 have hc:=λs=>Gc.count_set s (l:=f.g.l) (k:=k) ⟨4,0,(f.g.bl k).aC+1,0⟩ ae;have Vg:=hi.lf;have Vp:=hi.sk;refine⟨hi.alf hk (.inr hs) hl hb rfl rfl rfl ae rfl rfl rfl rfl (by rw[hN];omega) (by rw[hN];omega) (by rw[hN,s2,s4]) s4,⟨rfl,rfl,rfl,rfl,rfl,rfl,rfl,rfl,rfl,rfl,rfl,rfl,rfl,rfl,rfl,rfl,rfl⟩,λq hq=>by rw[hl];exact bC _ _ hq,.inr (by rw[uQ]),?_,?_,by unfold dM;rw[hN];omega,by rw[hN,s2]⟩
 ·show(if f.g.opn=(k:Int) then(-1:Int) else f.g.opn)=f.g.opn;rcases hi.w.opn with e|⟨q,q1,q2,q3⟩
  ·rw[e];split<;>rfl
  grind
 ·unfold qn;grind
end
end dY
section
variable {NB B n:Nat} {R:Nat->Prop} {w:World} {f:Fm}
theorem aak (h:cu NB B R w f) (hi:Fi NB n [] f.g (f.se++f.no)) {k} (hk:k<NB) (hs:(Gc.at_ f.g.l k).st=3) (hw:∀j,j<NB->(Gc.at_ f.g.l j).st≠4->(Gc.at_ f.g.l k).aC<=(Gc.at_ f.g.l j).aC+3) (hn:n<=1099511627776):
  Calls prog 306 #[f.F,O aa k] w λe w'=>e=ar (O aa 0)/\∃g',oq NB B R w w' {f with g:=g'}/\Wpd NB n f g' k:=by
 have HE:=ag (Tn h hi hk (.inr hs) hn);have gX:=h.base;have c1:=h.c1;have g1:(0:Int)<=(k:Int):=ae;have g2:(k:Int)<(NB:Int):=ae;have HI:=ag hi;have HS:=ag hs;have HW:=ag hw;clear h hi hs hw
 go_in
 go_wp2_with fail;go_call HE.o as e w1 ⟨y,⟨rfl,hy,ps',h1⟩|⟨rfl,hy,pg,h1⟩⟩
 ·have H1:=ag h1;have HY:=ag hy;have c10:=h1.1.c10;simp only at c10;obtain⟨y0,f0⟩:=h1.1.hL.dU (k:=k) (by simpa using hk);rw[List.getElem_replicate] at y0;simp only at y0 f0;have y0:w1.cell? (f.LA,k)=some (aq false):=y0;have hF:=h1.1.yU k;have HF:=ag (h1.step hF.1 hF.2);clear h1 c1 hF hy;go_wp2;go_ret;exact⟨rfl,_,HF.o,aqC HI.o hk HS.o HW.o HY.o⟩
 ·have HD:=ag (ald (pg:=pg) HI.o hk HS.o hy);have c10:=h1.1.c10;simp only at c10;obtain⟨y0,f0⟩:=h1.1.hL.dU (k:=k) (by simpa using hk);rw[List.getElem_replicate] at y0;simp only at y0 f0;have y0:w1.cell? (f.LA,k)=some (aq false):=y0;have hF:=h1.1.yU k;have HF:=ag (h1.step hF.1 hF.2);have d1:=HF.o.1.c1;simp only at d1;have HL:=ag (yR HF.o.1 HD.o.fi);have Vg:=HD.o.fi.lf;obtain⟨cq,hcq⟩:=aW (Gc.count 4 (erF f.g NB y k pg).l);have Dw:cq<=2:=by rw[hcq];exact bB (Nat.le_add_right _ _) Vg
  rw[show Gc.count 4 ({f with g:=erF f.g NB y k pg}:Fm).g.l=cq from hcq.symm] at HL;have g3:¬(2-(cq:Int)<0):=ae;clear h1 c1 hF hy Vg hcq Dw;go_wp2_with fail;go_call HL.o as e w3 ⟨rfl,hb⟩;have H3:=ag (HF.o.on hb gX);clear hb;go_wp2;go_ret;exact⟨rfl,_,H3.o,HD.o⟩
end
section
variable {NB B n:Nat} {R:Nat->Prop} {w:World} {f:Fm}
theorem agS:prog.cellsOf 342=2:=az
theorem adH (h:cu NB B R w f) (hi:Fi NB n [] f.g (f.se++f.no)) {k} (hk:k<NB) (hs:(Gc.at_ f.g.l k).st=3) (ho:f.g.opn= -1) (hw:∀j,j<NB->(Gc.at_ f.g.l j).st≠4->(Gc.at_ f.g.l k).aC<=(Gc.at_ f.g.l j).aC+3) (hn:n+2000<=1099511627776):
  Calls prog 280 #[f.F,.agg #[O aa 1,O aa k]] w λe w'=>e=ar (O aa 0)/\∃g',oq NB B R w w' {f with g:=g'}/\Wpd NB n f g' k:=by
 have gX:=h.base;have gu:=bA w (.cells #[O aa 1,O aa k] 342);have hl0:(Gc.at_ f.g.l k).live=0:=(hi.w.bk k hk).sl hs;have NR:dM NB f.g<=2:=by have:=hi.lf;unfold dM;omega
 have HM:=ag (LJ (dM NB f.g) (λr _=>D7 r) (h.on gu) hi av hk ho (by rw[hl0,ev rfl];exact hs) ae (λh=>ae) (by have:=aae NR;omega));have HK:=ag (aF.new w 342 #[O aa 1,O aa k]);have HZ:=ag (h.aV (bp w));have bV:=ag gu;have HI:=ag hi;have HW:=ag hw;have WB:=ag hs;have HN:=ag hn;have HL0:=ag hl0;have gm:=agS;clear h hi hs ho hw hn gu hl0 NR
 go_in
 go_wp2_with fail;generalize w.alloc (.cells #[O aa 1,O aa k] 342)=w1 at*;go_call HM.o as e w2 ⟨rfl,f1,h1,h2⟩;obtain rfl:f1=f:=by have h3:=h2.zero;exact h3 HL0.o
 have H1:=ag h1;have ja:=ag (h1.blk HK.o HZ.o);have HWp:=ag (aak h1.1 HI.o hk WB.o HW.o (by have:=HN.o;omega));have k1:=aF.aj (i:=1) ja.o rfl;clear h1 h2;go_wp2_with fail;go_call HWp.o as e w3 ⟨rfl,g',h3,hd⟩;have H3:=ag ((H1.o.aA h3).from_ bV.o gX);have HD:=ag hd;clear h3 k1 hd;go_wp2;go_ret;exact⟨rfl,_,H3.o,HD.o⟩
end
end
section
open RowKit
namespace dY
theorem lD {g}:enough g=true↔3<=qn g/\(g.opn≠-1\/4<=qn g):=by unfold enough;grind
def Gcs NB g:=enough g=true\/(g.opn= -1/\qn g=3/\∃k,k<NB/\(Gc.at_ g.l k).st=3/\(Gc.at_ g.l k).aC<Gc.least g.l+4)
theorem aal {l k} room (hk:k<l.length) (hs:(Gc.at_ l k).st=3) (hw:(Gc.at_ l k).aC<Gc.least l+4):∃k':Nat,Gc.next l 8 room=(1,(k':Int))/\k'<l.length/\(Gc.at_ l k').st=3/\(Gc.at_ l k').aC<Gc.least l+4:=by
 unfold Gc.next
 cases h3:Gc.best (Gc.p3 (Gc.least l)) Gc.iy l l.length with
 |some k'=>
  obtain⟨a,b⟩:=Gc.gU h3;unfold Gc.p3 at b;rw[du,Gc.Qv,Gc.aca] at b;exact⟨k',rfl,a,b.1,b.2.2⟩
 |none=>
  have n3:=Gc.vX h3 k hk;unfold Gc.p3 at n3;rw[Gc.Qv.2 hs,Gc.aca.2 ⟨ae,hw⟩] at n3;cases n3
structure Ens NB n (f:Fm) g':Prop where
 fi:Fi NB (n+1) [] g' (f.se++f.no)
 en:enough g'=true
 res:(g'=f.g)\/∃k,k<NB/\(Gc.at_ f.g.l k).st=3/\Wpd NB n f g' k
 id:enough f.g=true->g'=f.g
def Enr NB n f g' i:=(i=0/\g'=f.g)\/(i=1/\enough f.g=false/\∃k,k<NB/\(Gc.at_ f.g.l k).st=3/\Wpd NB n f g' k)
theorem Enr.fi {NB n i f g'} (h:Enr NB n f g' i) (hi:Fi NB n [] f.g (f.se++f.no)):Fi NB (n+1) [] g' (f.se++f.no):=by
 rcases h with⟨_,rfl⟩|⟨_,_,k,_,_,h⟩
 ·exact hi.le (Nat.le_succ _)
 ·exact h.fi
theorem Enr.done {NB n i f g'} (h:Enr NB n f g' i) (hi:Fi NB n [] f.g (f.se++f.no)) (he:enough g'=true):Ens NB n f g':=by
 refine⟨h.fi hi,he,?_,λe=>?_⟩
 ·rcases h with⟨_,rfl⟩|⟨_,_,h⟩
  ·exact .inl rfl
  ·exact .inr h
 ·rcases h with⟨_,rfl⟩|⟨_,e2,_⟩
  ·rfl
  ·rw[e] at e2;cases e2
theorem Enr.no {NB n i f g'} (h:Enr NB n f g' i) (hg:Gcs NB f.g) (he:enough g'=false):i=0/\g'=f.g:=by
 rcases h with h|⟨_,e2,k,_,_,hw⟩
 ·exact h
 ·exfalso;rcases hg with e|⟨_,e,_⟩
  ·rw[e] at e2;cases e2
  ·have:=hw.num;rw[lD.2 ⟨ae,.inr ae⟩] at he;cases he
end dY
section
open dY
variable {NB B n:Nat} {R:Nat->Prop} {w:World} {f:Fm}
def Esd (NB B:Nat) (R:Nat->Prop) (n:Nat) (f:Fm) (w:World) (e:Ending) w':=
 e=ar (O aa 0)/\∃g',oq NB B R w w' {f with g:=g'}/\Ens NB n f g'
theorem D8 (h:cu NB B R w f) (hi:Fi NB n [] f.g (f.se++f.no)) (hg:Gcs NB f.g) (hn:n+2000<=1099511627776):
  Calls prog 249 #[f.F] w (Esd NB B R n f w):=by
 have pK:=hi.nb;obtain⟨aJ3,aJ4⟩:=pK;have c0:=h.c0;have HG:=ag (rO h);have HH:=ag h;have gX:=h.base;have HI:=ag hi;have HGc:=ag hg;have HN:=ag hn;have i1:=bq (8*(NB:Int)) ⟨ae,ae⟩;have i2:=bq (8*(NB:Int)*8) ⟨ae,ae⟩;have gm:=ry;clear h hi hg hn
 go_in
 go_wp2_with fail;go_call HG.o as e w1 ⟨rfl,hb⟩;have bV:=ag hb;unfold uI;clear hb c0;go_wp2_with fail;have df:=ag (bV.o.alloc bV.o.size (.cells #[O aa NB,O aa 8,O aa 64] 60));generalize w1.alloc (.cells #[O aa NB,O aa 8,O aa 64] 60)=w2 at*
 go_loopw [2,4,16] (λ_ _ v wr=>∃i:Nat,v=O aa i/\i<=1/\Hid (∃g',oq NB B R w2 wr {f with g:=g'}/\Enr NB n f g' i)) (λ_ _ v _=>2-(intOf v).toNat)
 case atStart=>exact⟨0,rfl,ae,⟨f.g,(HH.o.on df.o).refl,.inl ⟨rfl,rfl⟩⟩⟩
 case round=>
  obtain⟨i,rfl,hib,hX⟩:=hrel;obtain⟨g',h1,h2⟩:=hX.o;have HIb:=ag hib;have aT:(i:Int)<8*(NB:Int)*8:=ae;have HE:=ag (O1 h1.1 (h2.fi HI.o));have H1:=ag h1;have H2:=ag h2;have hBw:B<=w2.heap.size:=bB gX df.o.size;clear hX h1 h2 hib;simp only at HE
  cases hen:dY.enough g' with
  |true=>
   rw[hen] at HE;have HEn:=ag hen;clear hen;go_wp2_with fail;go_call HE.o as e w3 ⟨rfl,bJ⟩;have H3:=ag ((H1.o.on bJ hBw).from_ df.o gX);clear bJ;go_wp2;go_ret;exact⟨rfl,g',H3.o,H2.o.done HI.o HEn.o⟩
  |false=>
   obtain⟨rfl,rfl⟩:=H2.o.no HGc.o hen;obtain⟨ho,hq,k0,WA,ET,hw0⟩:f.g.opn= -1/\qn f.g=3/\∃k,k<NB/\(Gc.at_ f.g.l k).st=3/\(Gc.at_ f.g.l k).aC<Gc.least f.g.l+4:=by
    rcases HGc.o with e|e
    ·rw[hen] at e;cases e
    ·exact e
   have hlen:=HI.o.w.len;obtain⟨k,hx,hk,hs,hw⟩:=aal (decide (8<=roomOf f.g)) (l:=f.g.l) (k:=k0) ae ET hw0;rw[hlen] at hk;rw[hen] at HE;have HX:=ag hx;have HO:=ag ho;have HW:=ag (show∀j,j<NB->(Gc.at_ f.g.l j).st≠4->(Gc.at_ f.g.l k).aC<=(Gc.at_ f.g.l j).aC+3 from λj hj h4=>by have:=HI.o.w.least hj h4;omega);have WB:=ag hs;have HEn:=ag hen;clear hen hx ho hw hs hq ET hw0 hlen;go_wp2_with fail;go_call HE.o as e w3 ⟨rfl,bJ⟩;have H3:=ag (H1.o.on bJ hBw);have c1:=H3.o.1.c1;clear bJ;go_wp2_with fail;refine(Xa H3.o.1 HI.o (by have:=HN.o;omega)).mono ?_;rw[show Gc.next ({f with g:=f.g}:Fm).g.l 8 (decide (8<=roomOf ({f with g:=f.g}:Fm).g))=(1,(k:Int)) from HX.o];rintro e w4 ⟨rfl,eG⟩;have H4:=ag (H3.o.on eG hBw);rw[show acV (1,(k:Int))= .agg #[O aa 1,O aa k] from rfl];have HAc:=ag (adH H4.o.1 HI.o hk WB.o HO.o HW.o HN.o);clear eG c1;go_wp2_with fail;go_call HAc.o as e w5 ⟨rfl,g2,h5,h6⟩;have H5:=ag (H4.o.aA h5);have H6:=ag h6;clear h5 h6;go_wp2_with fail;go_roundw
   case rel=>exact⟨1,by go_num,ae,⟨g2,H5.o,.inr ⟨rfl,HEn.o,k,hk,WB.o,H6.o⟩⟩⟩
   case measure=>simp[intOf]
end
namespace dY
def Hm (g:Mg):=if g.opn= -1 then 0 else(Gc.at_ g.l g.opn.toNat).nx
def cost (x:Bk):=if x.st=4 then 0 else(x.aC-1)+if x.st=2\/x.st=3 then 1 else 0
def costs (NB:Nat) (g:Mg):=dm.iK (λq=>cost (Gc.at_ g.l q)) NB
structure Zh NB g (E:List En) s (hi:Nat->Nat):Prop where
 a:∀q,q<NB->(Gc.at_ g.l q).st=2->hi q+Hm g<=s
 b:∀e∈E,(Gc.at_ g.l e.b).st=2->e.t.s<hi e.b
 c:∀q r,q<NB->r<NB->q≠r->(Gc.at_ g.l q).st=2->(Gc.at_ g.l r).st=2->hi q+8<=hi r\/hi r+8<=hi q
structure Zi NB z g E s:Prop where
 ex:∃hi,Zh NB g E s hi
 lt:∀e∈E,e.t.s<s
 we:∀q,q<NB->(Gc.at_ g.l q).st≠4->1<=(Gc.at_ g.l q).aC
 cs:8*costs NB g+Hm g<=s+z
theorem vY {c d k} (h:∀i,i<k->c i<=d i):dm.iK c k<=dm.iK d k:=by induction k<;>grind[dm.iK]
theorem Xb {c d k b}:∀{n},k<n->(∀i,i<n->i≠k->c i<=d i)->c k<=d k+b->dm.iK c n<=dm.iK d n+b:=by
 intro n
 induction n with
 |zero=>intro h;omega
 |succ m ih=>
  intro hk he h1;show dm.iK c m+c m<=dm.iK d m+d m+b;by_cases e:k=m
  ·subst e;have:=vY (c:=c) (d:=d) (k:=k) λi hi=>he i ae ae;omega
  grind
theorem Ea c d k:dm.iK (λi=>c i+d i) k=dm.iK c k+dm.iK d k:=by induction k<;>grind[dm.iK]
theorem agT m c k:dm.iK (λi=>m*c i) k=m*dm.iK c k:=by induction k<;>grind[dm.iK]
theorem BP m k:dm.iK (λ_=>m) k=k*m:=by induction k<;>grind[dm.iK]
theorem Zi.keep {NB s z g g' E E'} (h:Zi NB z g E s) (hs:∀q,q<NB->(Gc.at_ g'.l q).st=2->(Gc.at_ g.l q).st=2) (hb:∀e∈E',e.t.s<s/\((Gc.at_ g'.l e.b).st=2->e∈E/\(Gc.at_ g.l e.b).st=2)) (hn:Hm g'<=Hm g) (hc:∀q,q<NB->cost (Gc.at_ g'.l q)<=cost (Gc.at_ g.l q)) (hw:∀q,q<NB->(Gc.at_ g'.l q).st≠4->1<=(Gc.at_ g'.l q).aC):Zi NB z g' E' s:=by
 obtain⟨hi,ha,aZ,Dw⟩:=h.ex;refine⟨⟨hi,λq hq h2=>by grind,λe he h2=>?_,λq r hq hr di h1 h2=>Dw q r hq hr di (hs q hq h1) (hs r hr h2)⟩,λe he=>(hb e he).1,hw,?_⟩
 ·grind
 ·have:=h.cs;have:costs NB g'<=costs NB g:=vY hc;omega
theorem Zi.sub {NB s z g E E'} (h:Zi NB z g E s) (hb:∀e∈E',e∈E):Zi NB z g E' s:=by obtain⟨hi,ha,aZ,Dw⟩:=h.ex;exact⟨⟨hi,ha,λe he=>aZ e (hb e he),Dw⟩,λe he=>h.lt e (hb e he),h.we,h.cs⟩
theorem Zi.row {NB s z g g' E} (h:Zi NB z g E s) (hl:g'.l=g.l) (ho:g'.opn=g.opn):Zi NB z g' E s:=by
 obtain⟨hi,ha,aZ,Dw⟩:=h.ex;have hn:Hm g'=Hm g:=by unfold Hm;rw[hl,ho]
 exact⟨⟨hi,λq hq h2=>by grind,λe he h2=>aZ e he (by rw[hl] at h2;exact h2),λq r hq hr di h1 h2=>Dw q r hq hr di (by rw[hl] at h1;exact h1) (by rw[hl] at h2;exact h2)⟩,h.lt,by rw[hl];exact h.we,by unfold costs;rw[hn,hl];exact h.cs⟩
section
variable {NB n k s z:Nat} {f f1 f2 f':Fm} {g':Mg} {E:List En}
theorem acb {x y} (hw:y.aC=x.aC) (h4:x.st=4->y.st=4) (h2:y.st=2\/y.st=3->x.st=2\/x.st=3):cost y<=cost x:=by
 unfold cost;grind
theorem Zi.drop {g} (h:Zi NB z g E s) (hk:k<g.l.length):Zi NB z {g with l:=g.l.set k (dD (Gc.at_ g.l k))} E s:=by
 have uQ:∀q,q≠k->Gc.at_ (g.l.set k (dD (Gc.at_ g.l k))) q=Gc.at_ g.l q:=λq hq=>bC _ _ hq;have hak:=at_set g.l (dD (Gc.at_ g.l k)) hk;have hst:=LK (Gc.at_ g.l k);have hs:∀q,(Gc.at_ (g.l.set k (dD (Gc.at_ g.l k))) q).st=2->(Gc.at_ g.l q).st=2:=λq hq=>by
  grind
 refine h.keep (λq _ hq=>hs q hq) (λe he=>⟨h.lt e he,λh2=>⟨he,hs _ h2⟩⟩) ?_ (λq _=>?_) λq hq h4=>?_
 ·unfold Hm;show(if g.opn= -1 then 0 else(Gc.at_ (g.l.set k (dD (Gc.at_ g.l k))) g.opn.toNat).nx)<=_;by_cases e:g.opn= -1
  ·grind
  ·rw[eo e,eo e];by_cases e2:g.opn.toNat=k
   ·rw[e2,hak];exact bp _
   grind
 ·show cost (Gc.at_ (g.l.set k (dD (Gc.at_ g.l k))) q)<=_;by_cases e:q=k
  ·rw[e,hak];exact acb rfl (λh4=>ae) λh2=>ae
  grind
 ·have h4:(Gc.at_ (g.l.set k (dD (Gc.at_ g.l k))) q).st≠4:=h4;show 1<=(Gc.at_ (g.l.set k (dD (Gc.at_ g.l k))) q).aC;by_cases e:q=k
  ·rw[e,hak] at h4⊢;rw[e] at hq;exact h.we k hq ae
  ·rw[uQ q e] at h4⊢;exact h.we q hq h4
theorem Wpd.zi {f} (h:Wpd NB n f g' k) (hs:(Gc.at_ f.g.l k).st=3) (hz:Zi NB z f.g E s):Zi NB z g' E s:=by
 have hst:∀q,(Gc.at_ g'.l q).st=2->q≠k:=λq hq e=>by have:=h.st;rw[e] at hq;omega
 have mQ:∀q,(Gc.at_ g'.l q).st=2->(Gc.at_ f.g.l q).st=2:=λq hq=>by rw[h.row q (hst q hq)] at hq;exact hq
 refine hz.keep (λq _=>mQ q) (λe he=>⟨hz.lt e he,λh2=>⟨he,mQ _ h2⟩⟩) ?_ (λq _=>?_) λq hq h4=>?_
 ·unfold Hm;rw[h.opn];by_cases e:f.g.opn= -1
  ·grind
  ·rw[eo e,eo e];by_cases e2:f.g.opn.toNat=k
   ·exfalso;have hf:=h.fi.w.opn;rw[h.opn] at hf;rcases hf with e3|⟨q,q1,q2,q3⟩
    ·exact e e3
    ·have:q=k:=ae;have:=h.st;grind
   ·rw[h.row _ e2];exact bp _
 ·by_cases e:q=k
  ·rw[e];unfold cost;rw[eo (show¬(Gc.at_ f.g.l k).st=4 by omega),ev (show(Gc.at_ f.g.l k).st=2\/(Gc.at_ f.g.l k).st=3 from .inr hs)];rcases h.st with⟨e1,e2⟩|e1
   ·grind
   grind
  ·rw[h.row q e];exact bp _
 ·by_cases e:q=k
  ·rw[e] at h4⊢;rcases h.st with⟨_,e2⟩|e1
   ·omega
   ·exact absurd e1 h4
  ·rw[h.row q e] at h4⊢;exact hz.we q hq h4
theorem Ens.zi {f} (h:Ens NB n f g') (hz:Zi NB z f.g E s):Zi NB z g' E s:=by
 rcases h.res with e|⟨k,_,hs,hw⟩
 ·rw[e];exact hz
 ·exact hw.zi hs hz
structure Prj NB n f f':Prop where
 mi:FY f f' (clo NB f)
 fi:∃n',Fi NB n' [] f'.g (f'.se++f'.no)/\n'+cc (dM NB f'.g)<=n+cc (dM NB f.g)
 en:enough f'.g=true
 lf:Gc.count 4 f'.g.l+dM NB f'.g<=Gc.count 4 f.g.l+dM NB f.g
 ph:dM NB f'.g<=dM NB f.g
 mo:(f'.g.bl NB).bad=(f.g.bl NB).bad
 nw:∀q,c23 f'.g q->c23 f.g q
 nx:Hm f'.g<=Hm f.g
theorem Prj.start (h:Fi NB n [] f.g (f.se++f.no)) (he:enough f.g=true):Prj NB n f f:=⟨FY.refl _ _,⟨n,h,bp _⟩,he,bp _,bp _,rfl,λ_ h=>h,bp _⟩
theorem WY {g} (h:enough g=true) (hl:Gc.count 4 g.l<=2):g.opn≠-1\/0<Gc.count 0 g.l:=by have:=lD.1 h;unfold qn at this;omega
section
variable {g1:Mg} {n':Nat}
theorem Prj.live (hf:Fi NB n' [] f'.g (f'.se++f'.no)) (hP:Fld NB f'.g g1 k):(Gc.at_ f'.g.l k).live<=7/\(Gc.at_ f'.g.l k).live<=Hm f'.g/\(f'.g.opn= -1->(Gc.at_ f'.g.l k).live=0):=by
 unfold Hm;rcases hP.was with⟨e,e2,_⟩|⟨e,e2,_⟩
 ·have:=((hf.w.bk k hP.hk).fr e2).1;omega
 ·have:=(hf.w.bk k hP.hk).op e2;grind
theorem Prj.ask (h:Prj NB n f f') (hl:Gc.count 4 f.g.l+dM NB f.g<=2) (hf:Fi NB n' [] f'.g (f'.se++f'.no)) (hP:Fld NB f'.g g1 k):Rsq NB {f' with g:=g1} k (Gc.at_ f'.g.l k).live:=by
 obtain⟨s1,s2,s3,s4⟩:=hP.sk.nxF;have e1:dM NB g1+1=dM NB f'.g:=s1;have Vg:=h.lf;have hen:=lD.1 h.en;have U4:=hP.c4;unfold qn at hen;refine⟨hP.hk,hP.opn,hP.live,hP.st,(Prj.live hf hP).1,?_,?_,s2.trans s4⟩
 ·show dM NB g1+1<=Gc.count 0 g1.l;rcases hP.was with⟨_,_,e3⟩|⟨_,_,e3⟩<;>omega
 grind
theorem Prj.next (h:Prj NB n f f') (hf:Fi NB n' [] f'.g (f'.se++f'.no)) (hn:n'+cc (dM NB f'.g)<=n+cc (dM NB f.g)) (hP:Fld NB f'.g g1 k) (hR:Rsd NB (n'+1) {f' with g:=g1} f2 k (Gc.at_ f'.g.l k).live):Prj NB n f f2:=by
 obtain⟨s1,s2,s3,s4⟩:=hP.sk.nxF;have e1:dM NB g1+1=dM NB f'.g:=s1;have hX:∀q,clo NB f q->clo NB f' q:=λq hq=>by unfold clo at*;rw[h.mi.row q hq];exact hq
 have hk:∀q,clo NB f' q->q≠k:=λq hq e=>by unfold clo at hq;rw[e] at hq;rcases hP.was with⟨_,e2,_⟩|⟨_,e2,_⟩<;>omega
 have h1:FY f' {f' with g:=g1} (clo NB f'):=FY.mgr hP.M hP.ML hP.C hP.gh (λq hq=>hP.row q (hk q hq)) hP.acd;have h2:=h.mi.trans (h1.trans hR.mi λq hq=>⟨hq.1,hk q hq,by show(Gc.at_ g1.l q).st≠0;rw[hP.row q (hk q hq)];exact hq.2.1⟩) hX;have aqG:dM NB f2.g<=dM NB g1:=hR.ph;have Vg:Gc.count 4 f2.g.l+dM NB f2.g<=Gc.count 4 g1.l+dM NB g1+1:=hR.lf;have hen:=lD.1 h.en;have U4:=hP.c4;obtain⟨l7,lx,l0⟩:=Prj.live hf hP;refine⟨h2,⟨_,hR.fi,?_⟩,lD.2 ?_,?_,?_,hR.mo.trans (s2.trans h.mo),λq hq=>h.nw q ?_,?_⟩
 ·show n'+1+7*cc (dM NB g1)+8+cc (dM NB f2.g)<=_;have hm:=D9 aqG;rw[<-e1] at hn;have:cc (dM NB g1+1)=8*cc (dM NB g1)+10:=rfl;omega
 ·have h3:qn f2.g=qn g1+(if (Gc.at_ f'.g.l k).live=0 then 1 else 0):=hR.num;have h4:3<=qn g1:=by unfold qn at*;rcases hP.was with⟨_,_,e3⟩|⟨_,_,e3⟩<;>omega
  rcases hR.op with⟨e2,e3⟩|⟨e2,a,_,e3,_⟩
  ·grind
  grind
 ·have:=h.lf;omega
 ·have:=h.ph;omega
 ·obtain⟨h3,h4⟩:=hR.nw q hq;unfold c23 at h3⊢;rw[show Gc.at_ ({f' with g:=g1}:Fm).g.l q=Gc.at_ f'.g.l q from hP.row q h4] at h3;exact h3
 ·refine bB ?_ (bB lx h.nx);rcases hR.op with⟨e2,e3⟩|⟨e2,a,_,e3,e4,_⟩
  ·unfold Hm;grind
  ·unfold Hm;grind
theorem Prj.zi (h:Prj NB n f f') (hz:Zi NB z f.g (f.se++f.no) s):Zi NB z f'.g (f'.se++f'.no) s:=by
 obtain⟨m,hf',_⟩:=h.fi;have uF:∀q,q<NB->c23 f'.g q->clo NB f q/\Gc.at_ f'.g.l q=Gc.at_ f.g.l q:=λq hq h2=>by
  have h3:=h.nw q h2;have h4:clo NB f q:=by unfold c23 at h3;exact⟨hq,ae,ae⟩
  exact⟨h4,h.mi.row q h4⟩
 have Vp:∀e∈f'.se++f'.no,e.t.s<s:=by
  have hm:∀l l':List En,l'.map sk=l.map sk->(∀e∈l,e.t.s<s)->∀e∈l',e.t.s<s:=λl l' h1 h2 e he=>by
   have h3:sk e∈l.map sk:=by grind
   obtain⟨x,hx,h4⟩:=bw.1 h3;have h5:x.t=e.t:=congrArg Prod.fst h4;rw[<-h5];exact h2 x hx
  intro e he;rcases cv.1 he with h1|h1
  ·exact hm _ _ h.mi.same.se (λe he=>hz.lt e (List.mem_append_left _ he)) e h1
  ·exact hm _ _ h.mi.same.no (λe he=>hz.lt e (List.mem_append_right _ he)) e h1
 refine hz.keep (λq hq h2=>?_) (λe he=>⟨Vp e he,λh2=>?_⟩) h.nx (λq hq=>acb (h.mi.aC q) (λh4=>?_) λh2=>?_) λq hq h4=>?_
 ·rw[<-(uF q hq (.inl h2)).2];exact h2
 ·obtain⟨h3,h4⟩:=uF e.b (hf'.lt he) (.inl h2);exact⟨h.mi.bk e h3 he,by rw[<-h4];exact h2⟩
 ·rw[h.mi.row q ⟨hq,ae,ae⟩];exact h4
 ·rw[<-(uF q hq h2).2];exact h2
 ·rw[h.mi.aC];refine hz.we q hq λh5=>h4 ?_;rw[h.mi.row q ⟨hq,ae,ae⟩];exact h5
end
theorem Qn.zi {g i bs e0} (h:Qn NB g g' k i bs) (hz:Zi NB z g E s) (hb:e0.b=k) (hs:e0.t.s=s):Zi NB z g' (e0::E) (s+1):=by
 have fO:(Gc.at_ g.l k).st=0\/(Gc.at_ g.l k).st=1:=by rcases h.was with⟨_,e,_⟩|⟨_,e,_⟩<;>omega
 have hnx:Hm g=i:=by
  unfold Hm;rcases h.was with⟨e,_,e2,_⟩|⟨e,_,e2,_⟩
  ·grind
  grind
 obtain⟨hi,ha,aZ,Dw⟩:=hz.ex;have hi8:=h.i8;have hst:=h.st;have an0:∀q,q<NB->q≠k->cost (Gc.at_ g'.l q)<=cost (Gc.at_ g.l q):=λq _ hq=>by rw[h.row q hq];exact bp _
 have aT:∀e∈e0::E,e.t.s<s+1:=λe he=>by
  rcases bS.1 he with rfl|h1
  ·omega
  ·have:=hz.lt e h1;omega
 have IU:∀q,q<NB->(Gc.at_ g'.l q).st≠4->1<=(Gc.at_ g'.l q).aC:=λq hq h4=>by
  by_cases e:q=k
  ·rw[e,h.aC];exact hz.we k h.hk ae
  ·rw[h.row q e] at h4⊢;exact hz.we q hq h4
 have gm:=hz.cs;by_cases e8:i+1=8
 ·rw[ev e8] at hst;have hn':Hm g'=0:=by unfold Hm;rw[h.opn,ev e8,ev rfl]
  refine⟨⟨upd hi k (s+1),λq hq h2=>?_,λe he h2=>?_,λq r hq hr di h1 h2=>?_⟩,aT,IU,?_⟩
  ·rw[hn'];by_cases e:q=k
   ·rw[e,upd_same];omega
   ·rw[aG _ _ e];rw[h.row q e] at h2;have:=ha q hq h2;omega
  ·by_cases e1:e.b=k
   ·rw[e1,upd_same];exact aT e he
   ·rw[aG _ _ e1];rw[h.row _ e1] at h2;grind
  ·by_cases e1:q=k
   ·have e2:r≠k:=λe=>di (e1.trans e.symm);rw[h.row r e2] at h2;rw[e1,upd_same,aG _ _ e2];have:=ha r hr h2;omega
   ·rw[h.row q e1] at h1;rw[aG _ _ e1];by_cases e2:r=k
    ·rw[e2,upd_same];have:=ha q hq h1;omega
    ·rw[h.row r e2] at h2;rw[aG _ _ e2];grind
  ·have h1:=Xb (c:=λq=>cost (Gc.at_ g'.l q)) (d:=λq=>cost (Gc.at_ g.l q)) (n:=NB) (b:=1) h.hk an0 (by show cost (Gc.at_ g'.l k)<=cost (Gc.at_ g.l k)+1;unfold cost;rw[h.aC,hst,eo aB,ev (.inl rfl),eo ae];omega);have h2:costs NB g'<=costs NB g+1:=h1;omega
 ·rw[eo e8] at hst;have hn':Hm g'=i+1:=by unfold Hm;rw[h.opn,eo e8,eo ae,Int.toNat_natCast,h.nx]
  have di:∀q,(Gc.at_ g'.l q).st=2->q≠k:=λq h2 e=>by rw[e,hst] at h2;omega
  refine⟨⟨hi,λq hq h2=>?_,λe he h2=>?_,λq r hq hr Bq h1 h2=>?_⟩,aT,IU,?_⟩
  ·have:=di q h2;rw[h.row q this] at h2;have:=ha q hq h2;omega
  ·have h3:=di _ h2;rw[h.row _ h3] at h2;rcases bS.1 he with rfl|h4
   ·exact absurd hb h3
   ·exact aZ e h4 h2
  ·have h3:=di q h1;have h4:=di r h2;rw[h.row q h3] at h1;rw[h.row r h4] at h2;exact Dw q r hq hr Bq h1 h2
  ·have h1:=vY (c:=λq=>cost (Gc.at_ g'.l q)) (d:=λq=>cost (Gc.at_ g.l q)) (k:=NB) λq hq=>by
    by_cases e:q=k
    ·rw[e];show cost (Gc.at_ g'.l k)<=cost (Gc.at_ g.l k);unfold cost;rw[h.aC,hst,eo aB,eo ae,eo ae];omega
    ·exact an0 q hq e
   have h2:costs NB g'<=costs NB g:=h1;omega
theorem adI p n:((cz n).filter p).length=dm.iK (λq=>if p q then 1 else 0) n:=by induction n<;>grind[dm.iK,dz]
theorem mW {l l':List Nat} (hu:l.Nodup) (h:∀x∈l,x∈l'):l.length<=l'.length:=by
 induction l generalizing l' with
 |nil=>exact bN _
 |cons a l ih=>
  obtain⟨h1,h2⟩:=cR.1 hu;obtain⟨l1,l2,rfl⟩:=List.append_of_mem (h a au);have:=ih (l':=l1++l2) h2 λx hx=>by
   grind
  grind
theorem rY {g:Mg} (hl:g.l.length=NB) t:Gc.count t g.l=dm.iK (λq=>if (Gc.at_ g.l q).st=t then 1 else 0) NB:=by rw[Gc.vZ,hl]
theorem Zi.few {g m} (hf:Fi NB n [] g E) (hz:Zi NB z g E s) (ho:g.opn= -1) (hold:(E.filter λe=>decide (e.t.s+8<=s)).length<=m):Gc.count 2 g.l<=m+1:=by
 obtain⟨hi,ha,hb,hc⟩:=hz.ex;have Gx:Hm g=0:=by unfold Hm;rw[ev ho]
 have hB:Gc.count 2 g.l=((cz NB).filter λq=>decide ((Gc.at_ g.l q).st=2)).length:=by rw[adI,rY hf.w.len];exact dm.xu λq _=>au
 have hu:((cz NB).filter λq=>decide ((Gc.at_ g.l q).st=2)).Nodup:=List.nodup_range.filter _;have Eb:∀q,q∈((cz NB).filter λq=>decide ((Gc.at_ g.l q).st=2))->q<NB/\(Gc.at_ g.l q).st=2:=λq hq=>by grind
 have Xc:∀q,q<NB->(Gc.at_ g.l q).st=2->∃e∈E,e.b=q:=λq hq h2=>by have h3:=hf.count hq;have h4:=(hf.w.bk q hq).fu h2;rw[<-h3] at h4;obtain⟨e,he⟩:=List.exists_mem_of_length_pos h4;grind
 generalize ((cz NB).filter λq=>decide ((Gc.at_ g.l q).st=2))=L at*;have an1:∀q∈L,(∀e∈E,e.b=q->e.t.s+8<=s)->q∈(E.filter λe=>decide (e.t.s+8<=s)).map (·.b):=λq hq h1=>by grind
 rw[hB];have Gz:((E.filter λe=>decide (e.t.s+8<=s)).map (·.b)).length<=m:=by grind
 by_cases hx:∃q∈L,∃e∈E,e.b=q/\s<e.t.s+8
 ·obtain⟨q0,YN,e0,Ff,gu,ET⟩:=hx;have h1:∀q∈L,q≠q0->∀e∈E,e.b=q->e.t.s+8<=s:=λq hq di e he heb=>by
   grind
  have h2:=mW (l:=L) (l':=q0::(E.filter λe=>decide (e.t.s+8<=s)).map (·.b)) hu λq hq=>by
   grind
  grind
 ·have h2:=mW hu λq hq=>an1 q hq λe he heb=>by
   grind
  omega
theorem Zi.gcs {g} (hf:Fi NB n [] g E) (hz:Zi NB z g E s) (h3:3<=qn g) (hN:16<=NB) (hs:s+z<=190) (hold:(E.filter λe=>decide (e.t.s+8<=s)).length<=9):Gcs NB g:=by
 cases hen:enough g with
 |true=>exact .inl hen
 |false=>
  have hno:¬(3<=qn g/\(g.opn≠-1\/4<=qn g)):=λh=>by rw[lD.2 h] at hen;cases hen
  have ho:g.opn= -1:=by
   grind
  have hq:qn g=3:=by
   grind
  refine .inr ⟨ho,hq,?_⟩;have h2:=hz.few hf ho hold;have hlen:=hf.w.len;have hst:∀q,q<NB->(Gc.at_ g.l q).st=0\/(Gc.at_ g.l q).st=2\/(Gc.at_ g.l q).st=3\/(Gc.at_ g.l q).st=4:=λq hq=>by
   have h1:=(hf.w.bk q hq).st;have h2:(Gc.at_ g.l q).st≠1:=λe=>by have:=((hf.w.bk q hq).op e).1;omega
   omega
  have aqH:Gc.count 0 g.l+Gc.count 2 g.l+Gc.count 3 g.l+Gc.count 4 g.l=NB:=by
   rw[rY hlen,rY hlen,rY hlen,rY hlen,<-Ea,<-Ea,<-Ea];have h1:dm.iK (λ_=>1) NB=NB:=by rw[BP,da]
   refine Eq.trans (dm.xu λq hq=>?_) h1;grind
  unfold qn at hq;by_cases hx:∃k,k<NB/\(Gc.at_ g.l k).st=3/\(Gc.at_ g.l k).aC<Gc.least g.l+4
  ·exact hx
  ·exfalso;have aCz:∃k,k<NB/\(Gc.at_ g.l k).st=3:=by
    have hp:0<Gc.count 3 g.l:=ae;unfold Gc.count at hp;obtain⟨x,hx⟩:=List.exists_mem_of_length_pos hp;rw[List.mem_filter] at hx;obtain⟨i,hil,e⟩:=List.getElem_of_mem hx.1;grind[Gc.at_]
   obtain⟨k,hk,mr⟩:=aCz;obtain⟨j,j1,j2,j3⟩:=Gc.agV (l:=g.l) (i:=k) ae (Gc.jm.2 ae);have Qm:1<=Gc.least g.l:=by rw[j3];exact hz.we j ae (Gc.jm.1 j2)
   have h5:dm.iK (λq=>(if (Gc.at_ g.l q).st=2 then 1 else 0)+5*(if (Gc.at_ g.l q).st=3 then 1 else 0)) NB<=costs NB g:=vY λq hq=>by
    show _<=cost (Gc.at_ g.l q);unfold cost;grind
   rw[Ea,agT,<-rY hlen,<-rY hlen] at h5;have h6:=hz.cs;omega
end
end dY
end
section
open RowKit dY
namespace dY
structure Fc NB (f:Fm):Prop where
 fi:Fi NB (100000*f.seq) [] f.g (f.se++f.no)
 fr:3<=qn f.g
 cap:(f.se++f.no).length+2<=8*(NB-3)
 ov:f.ov=false
 sq:1<=f.ep/\f.ep<=f.seq
 gk:∀x∈f.go,(aI f.se x.t.p).isSome=true
 n0:aI f.no 0=none
 g0:aI f.go 0=none
 zi:Zi NB 8 f.g (f.se++f.no) f.seq
def jw (f:Fm) (p:Nat):Option En:=match aI f.no p with
 |some e=>some e
 |none=>if (aI f.go p).isSome then none else aI f.se p
theorem rQ o:∃b i:Nat,plO o= .agg #[O aa b,O aa i]:=by
 cases o with
 |none=>exact⟨0,0,rfl⟩
 |some e=>exact⟨e.b,e.i,rfl⟩
end dY
section
variable {NB B n:Nat} {R:Nat->Prop} {w:World} {f:Fm} {x:List Nat} {E:List En}
theorem DW (h:cu NB B R w f):
  Calls prog 208 #[f.F] w λe w'=>e=ar (O aa 0)/\w=w':=by
 have c0:=h.c0;have HU:=ag (Qd h);clear h
 go_in
 go_wp2_with fail;refine(HU).cj ?_;go_wp2;go_ret;exact⟨rfl,rfl⟩
theorem Hf (h:cu NB B R w f):
  Calls prog 206 #[f.F] w λe w'=>e=ar (O aa 64)/\Below w w w':=by
 have c0:=h.c0;have HU:=ag (rO h);clear h
 go_in
 go_wp2_with fail;go_call HU as e w1 ⟨rfl,hb⟩;have HB:=ag hb;clear hb c0;have hf:=Qa (O aa NB) (O aa 8) (O aa 64);unfold uI;go_wp2;go_ret;exact⟨rfl,HB⟩
theorem jP (hn:5<=NB/\NB<=1000):
  Calls prog 164 #[.agg #[O aa NB,O aa 8,O aa 64],O aa 2,O aa 0] w λe w'=>e=ar (O aa (NB-3))/\Below w w w':=by
 have i1:=bq ((NB:Int)) ⟨ae,ae⟩;have i2:=bq ((NB:Int)-2) ⟨ae,ae⟩;have i3:=bq ((NB:Int)-3) ⟨ae,ae⟩;have e3:(NB:Int)-2-1=(NB:Int)-3:=ae;have gm:=ry;have HB:=ag ((aE w w).alloc av (.cells #[O aa NB,O aa 8,O aa 64] 60));clear hn
 go_in
 go_wp2;go_ret;exact⟨rfl,HB⟩
theorem jG (h:cu NB B R w f) (hi:Fi NB n x f.g E):
  Calls prog 113 #[f.F] w λe w'=>e=ar (O aa ((NB-3)*8-2))/\Below w w w':=by
 have c0:=h.c0;obtain⟨HH,HU,HNb⟩:=cp h (rO h) hi.nb;obtain⟨HD,aCh,hbad⟩:=cp (λ(W:World)=>jP (w:=W) hi.nb) hi.res hi.bad;have i1:=bq (((NB:Int)-3)*8) ⟨by have:=HNb.o;omega,by have:=HNb.o;omega⟩;have i2:=bq (((NB:Int)-3)*8-2) ⟨by have:=HNb.o;omega,by have:=HNb.o;omega⟩;have gm:=ry;clear h hi
 go_in
 go_wp2_with fail;go_call HU as e w1 ⟨rfl,hb⟩;obtain⟨bV,HK⟩:=cn (hb.alloc hb.size (.cells #[O aa NB,O aa 8,O aa 64] 60)) (aF.new w1 60 #[O aa NB,O aa 8,O aa 64]);clear hb c0;unfold uI;go_upto_region 4 with fail;generalize w1.alloc (.cells #[O aa NB,O aa 8,O aa 64] 60)=w2 at*;generalize w1.heap.size=Q at*;obtain⟨gZ,HHo,HKo⟩:=cp (show Below w2 w2 w2.drew from ak w2) (λ(W':World) (hW:Below w2 w2 W')=>(HH.on bV).on hW) (λ(W':World) (hW:Below w2 w2 W')=>aF.ah HK hW);refine iE (λW'=>Below w2 w2 W') gZ.o (λaY=>?_);refine jE 0 (.agg #[O aa NB,O aa 8,O aa 64]) rfl (λW aK=>by have y0:=aF.aj (i:=0) (HKo.o W aK) rfl;have y1:=aF.aj (i:=1) (HKo.o W aK) rfl;have y2:=aF.aj (i:=2) (HKo.o W aK) rfl;go_simp) ?_;refine dw 1 f.F 0 ?_;refine aS 2 f.F 0 ?_;refine aS 3 f.F 2 ?_;refine jE 4 (O aa 2) rfl (λW aK=>by have y9:=(HHo.o W aK).c2;rw[aCh.o] at y9;go_simp) ?_;refine dw 5 f.F 0 ?_;refine aS 6 f.F 0 ?_;refine aS 7 f.F 3 ?_;refine jE 8 (O aa 0) rfl (λW aK=>by have y9:=(HHo.o W aK).c3;rw[hbad.o] at y9;go_simp) ?_;refine aS 10 Q 1 ?_;refine jV 11 8 (λW aK=>aF.aj (i:=1) (HKo.o W aK) rfl) ?_;refine bY 9 (λK' hK=>?_);go_simp;go_call(HD.o _) as e w3 ⟨rfl,bJ⟩;have dh:=aY.aA bJ;clear bJ;refine hK.out _ _ dh (λfE=>?_)
 refine iR 12 (((NB:Int)-3)*8) ?_;refine iR 13 (((NB:Int)-3)*8-2) ?_;refine dI 14 (((NB:Int)-3)*8-2) ?_;refine eH ?_;have cO:=ag (bV.aA fE);clear aY dh fE;go_wp2;go_ret;exact⟨rfl,cO⟩
theorem WW {b l} (h:dH w b l) ty:(Builtin.len_ #[222] ty #[.map (some b)]).run prog w= .ok (O aa l.length) w:=by obtain⟨es,clock,h1,h2⟩:=h.size;rw[<-h2];simp[Builtin.len_,run_underlying Tryz.underlying222,MapKept.run_getObj_map h1,goInt]
theorem G7 (h:cu NB B R w f) (hl:(f.se++f.no).length<=1000000):
    Calls prog 119 #[f.F] w λe w'=>e=ar (O aa (f.se++f.no).length)/\Below w w w':=by
  have HH:=ag h;rw[bE] at hl⊢;obtain⟨a,ha⟩:=aW f.se.length;obtain⟨b,hb⟩:=aW f.no.length;rw[<-ha,<-hb] at hl⊢;obtain⟨HA,HB⟩:=cn ha hb;have i1:=bq ((a:Int)+(b:Int)) ⟨ae,ae⟩;clear h hl ha hb
  go_in
  go_upto_region 3 with fail;have gZ:=ag (show Below w w w.drew from ak w);refine iE (λW'=>Below w w W') gZ.o (λaY=>?_);refine dw 0 f.F 0 ?_;refine aS 1 f.F 0 ?_;refine aS 2 f.F 5 ?_;refine kS 3 (.map (some f.SE)) (λ_ aK=>(HH.on aK).c5) ?_;refine jE 4 (O aa a) rfl (λ_ aK=>by have y9:=λty=>WW (HH.on aK).hS ty;rw[<-HA.o] at y9;go_simp) ?_;refine dw 5 f.F 0 ?_;refine aS 6 f.F 0 ?_;refine aS 7 f.F 6 ?_;refine kS 8 (.map (some f.NO)) (λ_ aK=>(HH.on aK).c6) ?_;refine jE 9 (O aa b) rfl (λ_ aK=>by have y9:=λty=>WW (HH.on aK).hN ty;rw[<-HB.o] at y9;go_simp) ?_;refine iR 10 (((a:Int)+(b:Int))) ?_;refine dI 11 (((a:Int)+(b:Int))) ?_;refine eH ?_;clear aY;go_wp2;go_ret;exact⟨by rw[Int.natCast_add];rfl,gZ⟩
theorem pY (h:cu NB B R w f) (hi:Fi NB n x f.g E) (ho:f.ov=false):
  Calls prog 90 #[f.F] w λe w'=>e=ar (aq false)/\Below w w w':=by
 have HL:=ag (yR h hi);have Vg:=hi.lf;obtain⟨cq,hcq⟩:=aW (Gc.count 4 f.g.l);have FK:=ag (show¬(2-(cq:Int)<0) by omega);rw[<-hcq] at HL;have c1:=h.c1;have c11:=h.c11;rw[ho] at c11;clear h hi ho Vg hcq
 go_in
 go_wp2_with fail;go_call HL as e w1 ⟨rfl,hb⟩;have HB:=ag hb;clear hb c1 c11;go_wp2;go_ret;exact⟨by rw[ey (show¬(2-(cq:Int)<0) by have:=FK.o;omega)];rfl,HB⟩
theorem mZ (h:cu NB B R w f) (hi:Fi NB n x f.g E) (p:Nat) (hp:p<4294967296):
  Calls prog 201 #[f.F,O .u32 p] w λe w'=>e=ar (O aa (if p=0\/(NB-3)*8-2<=(p:Int) then 1 else 0))/\Below w w w':=by
 obtain⟨HR,HC⟩:=cn (DW h) (jG h hi);clear h hi;by_cases h0:p=0
 .subst h0;rw[ev (.inl rfl)]
  go_in
  go_wp2_with fail;refine(HR).cj ?_;go_wp2;go_ret;exact⟨rfl,aE _ _⟩
 .have hz:((p:Int)==0)=false:=by rw[ew];omega
  have iw:=bq (p:Int) ⟨ae,ae⟩;obtain⟨C,hC⟩:∃C,C=((NB:Int)-3)*8-2:=⟨_,rfl⟩
  rw[<-hC] at HC⊢;clear hC;by_cases h1:C<=(p:Int)
  .rw[ev (.inr h1)]
   go_in
   go_wp2_with fail;refine(HR).cj ?_;go_wp2_with fail;go_call HC as e w1 ⟨rfl,hb⟩;have HB:=ag hb;clear hb;go_wp2;go_ret;exact⟨rfl,HB⟩
  .rw[eo (by rintro(e|e);exact h0 e;exact h1 e)]
   go_in
   go_wp2_with fail;refine(HR).cj ?_;go_wp2_with fail;go_call HC as e w1 ⟨rfl,hb⟩;have HB:=ag hb;clear hb;go_wp2;go_ret;exact⟨rfl,HB⟩
end
section
variable {NB B n:Nat} {R:Nat->Prop} {w:World} {f:Fm}
structure PlZ (w:World) Z (b i:Nat):Prop where
 k0:w.cell? ⟨Z,0,none⟩=some (O aa 0)
 k1:w.cell? (Z,1)=some (O aa 0)
 f0:w.frozen? (Z,0)=false
 f1:w.frozen? (Z,1)=false
 q0:((w.setCell (Z,0) (O aa b)).setCell (Z,1) (O aa i)).cell? (Z,0)=some (O aa b)
 q1:((w.setCell (Z,0) (O aa b)).setCell (Z,1) (O aa i)).cell? (Z,1)=some (O aa i)
theorem plZ {Z} (h:aF w Z 247 #[O aa 0,O aa 0]) b i:PlZ w Z b i:=by have hs:=(h.set 0 (O aa b)).set 1 (O aa i);exact⟨h.aj rfl,h.aj rfl,h.frozen 0,h.frozen 1,hs.aj (i:=0) rfl,hs.aj (i:=1) rfl⟩
theorem dH.yL {b l} (h:dH w b l) {p} (hp:p<4294967296) {o} (e1:aI l p=o) {x y:Nat} (e2:plO o= .agg #[O aa x,O aa y]) {t} (e3:o.isSome=t):
  (Instr.lookup 222 (.map (some b)) (O .u32 p) true).run prog w= .ok (ao #[.agg #[O aa x,O aa y],aq t]) w:=by
 have:=h.look hp true;rw[e1,e2,e3] at this;exact this
theorem Qs (h:cu NB B R w f) (p:Nat) (hp:p<4294967296):
  Calls prog 227 #[f.F,O .u32 p] w λe w'=>e=ar (ao #[plO (jw f p),aq (jw f p).isSome])/\Below w w w':=by
 have gm:=fU;have gu:=(aE w w).alloc av (.cells #[O aa 0,O aa 0] 247);obtain⟨H1,HZ,gX⟩:=cp (h.on gu) (aF.new w 247 #[O aa 0,O aa 0]) gu;clear h gu;have HC:=ag (show jw f p=match aI f.no p with
  |some e=>some e
  |none=>if (aI f.go p).isSome then none else aI f.se p from rfl)
 go_in
 go_upto_region 1 with fail;generalize w.alloc (.cells #[O aa 0,O aa 0] 247)=w1 at*;obtain⟨Z,hZ⟩:=aW w.heap.size;rw[<-hZ] at HZ⊢;have HZe:=ag hZ;clear hZ;have c6:=H1.c6;obtain⟨b1,i1,e1⟩:=rQ (aI f.no p);have bP:=(aE w1 w1).alloc av (.cells #[O aa b1,O aa i1] 247);obtain⟨iH,H2,HZ2,bV⟩:=cr (aF.new w1 247 #[O aa b1,O aa i1]) (H1.on bP) (HZ.ah bP) (gX.aA bP);clear bP
 cases hno:aI f.no p with
 |some e=>
  have Qm:=H1.hN.yL hp hno (by rw[<-hno];exact e1) rfl;rw[hno] at HC e1;have HE:=ag e1;clear hno e1;have Qm:(Instr.lookup 222 (.map (some f.NO)) (O .u32 p) true).run prog w1= .ok (ao #[.agg #[O aa b1,O aa i1],aq true]) w1:=Qm;go_upto_region 2 with fail;generalize w1.alloc (.cells #[O aa b1,O aa i1] 247)=w2 at*;obtain⟨k0,k1,f0,f1,q0,q1⟩:=plZ HZ2.o b1 i1;have y0:=aF.aj (i:=0) iH.o rfl;have y1:=aF.aj (i:=1) iH.o rfl;have HF:=ag ((bV.setCell (p:=⟨Z,0,none⟩) (by rw[HZe.o];exact bp _) (O aa b1)).setCell (p:=⟨Z,1,none⟩) (by rw[HZe.o];exact bp _) (O aa i1));go_wp2_with fail;refine bodyPost_ret (v:=ao #[.agg #[O aa b1,O aa i1],aq true]) (by simp[results,Tryz.results227,go_sem,q0,q1]) rfl ⟨?_,HF⟩;rw[HC.o];show _=Ending.returned (ao #[plO (some e),aq true]);rw[HE.o]
 |none=>
  have Qm:=H1.hN.yL hp hno (by rw[<-hno];exact e1) rfl;rw[hno] at HC;clear hno e1;have Qm:(Instr.lookup 222 (.map (some f.NO)) (O .u32 p) true).run prog w1= .ok (ao #[.agg #[O aa b1,O aa i1],aq false]) w1:=Qm;go_upto_region 2 with fail;generalize w1.alloc (.cells #[O aa b1,O aa i1] 247)=w2 at*;clear Qm c6;have c7:=H2.c7;obtain⟨b2,i2,e2⟩:=rQ (aI f.go p);have aZ:=(aE w2 w2).alloc av (.cells #[O aa b2,O aa i2] 247);obtain⟨H3,RH,df⟩:=cp (H2.on aZ) (HZ2.ah aZ) (bV.aA aZ);clear aZ
  cases hgo:aI f.go p with
  |some e=>
   have CV:=H2.hG.yL hp hgo (by rw[<-hgo];exact e2) rfl;rw[hgo] at HC;clear hgo e2;have CV:(Instr.lookup 222 (.map (some f.GO)) (O .u32 p) true).run prog w2= .ok (ao #[.agg #[O aa b2,O aa i2],aq true]) w2:=CV;go_upto_region 5 with fail;generalize w2.alloc (.cells #[O aa b2,O aa i2] 247)=w3 at*;clear CV c7;obtain⟨k0,k1,f0,f1,q0,q1⟩:=plZ RH.o 0 0;have q0:((w3.setCell (Z,0) (O aa 0)).setCell (Z,1) (O aa 0)).cell? (Z,0)=some (O aa 0):=q0;have q1:((w3.setCell (Z,0) (O aa 0)).setCell (Z,1) (O aa 0)).cell? (Z,1)=some (O aa 0):=q1;have HF:=ag ((df.setCell (p:=⟨Z,0,none⟩) (by rw[HZe.o];exact bp _) (O aa 0)).setCell (p:=⟨Z,1,none⟩) (by rw[HZe.o];exact bp _) (O aa 0));go_wp2_with fail;refine bodyPost_ret (v:=ao #[.agg #[O aa 0,O aa 0],aq false]) (by simp[results,Tryz.results227,go_sem,q0,q1]) rfl ⟨?_,HF⟩;rw[HC.o];rfl
  |none=>
   have CV:=H2.hG.yL hp hgo (by rw[<-hgo];exact e2) rfl;rw[hgo] at HC;clear hgo e2;have CV:(Instr.lookup 222 (.map (some f.GO)) (O .u32 p) true).run prog w2= .ok (ao #[.agg #[O aa b2,O aa i2],aq false]) w2:=CV;go_upto_region 5 with fail;generalize w2.alloc (.cells #[O aa b2,O aa i2] 247)=w3 at*;clear CV c7;have c5:=H3.c5;obtain⟨b3,i3,e3⟩:=rQ (aI f.se p);obtain⟨sf,hsf⟩:=Iu ((aI f.se p).isSome);have hl3:=H3.hS.yL hp rfl e3 hsf;have bJ:=(aE w3 w3).alloc av (.cells #[O aa b3,O aa i3] 247);obtain⟨jZ,HZ4,cO,HE,iO⟩:=ct (aF.new w3 247 #[O aa b3,O aa i3]) (RH.ah bJ) (df.aA bJ) e3 hsf;clear bJ e3 hsf;go_upto_region 8 with fail;generalize w3.alloc (.cells #[O aa b3,O aa i3] 247)=w4 at*;clear hl3 c5;obtain⟨k0,k1,f0,f1,q0,q1⟩:=plZ HZ4.o b3 i3;have y0:=aF.aj (i:=0) jZ.o rfl;have y1:=aF.aj (i:=1) jZ.o rfl;have HF:=ag ((cO.setCell (p:=⟨Z,0,none⟩) (by rw[HZe.o];exact bp _) (O aa b3)).setCell (p:=⟨Z,1,none⟩) (by rw[HZe.o];exact bp _) (O aa i3));go_wp2_with fail;refine bodyPost_ret (v:=ao #[.agg #[O aa b3,O aa i3],aq sf]) (by simp[results,Tryz.results227,go_sem,q0,q1]) rfl ⟨?_,HF⟩;rw[HC.o];show _=Ending.returned (ao #[plO (aI f.se p),aq (aI f.se p).isSome]);rw[HE.o,iO.o]
end
section
variable {NB B n:Nat} {R:Nat->Prop} {w:World} {f:Fm} {x:List Nat} {E:List En}
theorem WX (h:cu NB B R w f) (hn:NB<=1000):
  Calls prog 248 #[f.F] w λe w'=>e=ar (O aa 0)/\Below w w w':=by
 have gu:=(aE w w).alloc av (.cells #[aq false,aq true] 4);obtain⟨HH,HK,gX⟩:=cp (h.on gu) (aF.new w 4 #[aq false,aq true]) gu;clear h gu
 go_in
 go_wp2_with fail;generalize w.alloc (.cells #[aq false,aq true] 4)=w1 at*;obtain⟨Q,hQ⟩:=aW w.heap.size;rw[<-hQ] at HK⊢;have HQ:=ag hQ;clear hQ
 go_loopw [4,5,6,9] (λ_ _ _ v wr=>∃i:Nat,i<=2/\v=O aa i/\wr=w1) (λ_ _ _ v _=>2-(intOf v).toNat)
 case atStart=>exact⟨0,ae,rfl,rfl⟩
 case round=>
  obtain⟨i,hi,rfl,hw⟩:=hrel;subst hw;by_cases aT:i<2
  .have hc:∃bv:Bool,wr.cell? (aw Q i)=some (aq bv):=by
    rcases(show i=0\/i=1 by omega) with rfl|rfl
    .exact⟨false,aF.aj HK rfl⟩
    .exact⟨true,aF.aj HK rfl⟩
   obtain⟨bv,hc⟩:=hc;have g1:(0:Int)<=(i:Int):=ae;have g2:(i:Int)<2:=ae;have c10:=HH.c10;go_wp2_with fail
   go_loopw [5,6,18] (λ_ _ v wq=>∃j:Nat,j<=NB/\v=O aa j/\wq=wr) (λ_ _ v _=>NB-(intOf v).toNat)
   case atStart=>exact⟨0,ae,rfl,rfl⟩
   case round=>
    obtain⟨j,hj,rfl,hw⟩:=hrel;subst hw;by_cases hlj:j<NB
    .have y0:wr.cell? (f.LA,j)=some (aq false):=by have y9:=(HH.hL.dU (k:=j) (by simpa using hlj)).1;rw[List.getElem_replicate] at y9;exact y9
     have g3:(0:Int)<=(j:Int):=ae;have g4:(j:Int)<(NB:Int):=ae;go_wp2_with fail;go_roundw
     case rel=>exact⟨j+1,ae,by go_num,trivial⟩
     case measure=>simp[intOf];omega
    .obtain rfl:j=NB:=ae;go_wp2_with fail;go_roundw
     case rel=>exact⟨i+1,ae,by go_num,trivial⟩
     case measure=>simp[intOf];omega
  .obtain rfl:i=2:=ae;go_wp2;go_ret;exact⟨rfl,gX⟩
def Pgm (NB B:Nat) (R:Nat->Prop) (n:Nat) (f:Fm) (bs:List UInt8) (w:World) (e:Ending) w':=
 ∃(k i:Nat) (f1:Fm) (g':Mg),e=ar (ao #[.agg #[O aa k,O aa i],O aa 0])/\oq NB B R w w' {f1 with g:=g'}/\Prj NB n f f1/\Qn NB f1.g g' k i bs/\Fi NB (n+cc (dM NB f.g)) [k] g' (f1.se++f1.no)
theorem OW (h:cu NB B R w f) (hi:Fi NB n [] f.g (f.se++f.no)) (he:dY.enough f.g=true) (hn:n+2200<=1099511627776) a c bs (NL:f.g.gh bs) (NG:Own aJ 5 w 0 (an a 96 c) bs) (AL:∀q,Value.ownBlock (an a 96 c)=some q->¬R q):
  Calls prog 250 #[f.F,an a 96 c] w (Pgm NB B R n f bs w):=by
 have gX:=h.base;have gu:=(aE w w).alloc av (.cells #[O aa 0,O aa 0] 247);obtain⟨H1,HK,HO,HZ,Kt⟩:=ct (h.on gu) (aF.new w 247 #[O aa 0,O aa 0]) (NG.on gu) (h.aV (bp w)) AL;obtain⟨CO,HC0,HI⟩:=cp gu (Prj.start hi he) hi;have NR:dM NB f.g<=2:=by have:=hi.lf;unfold dM;omega
 obtain⟨HN,HGh⟩:=cn (show n+cc (dM NB f.g)+2000<=1099511627776 by have:=aae NR;omega) NL;clear h hi he hn NL NG AL gu NR;have gm:=fU
 go_in
 go_wp2_with fail;generalize w.alloc (.cells #[O aa 0,O aa 0] 247)=w1 at*;obtain⟨Z,hZ⟩:=aW w.heap.size;rw[<-hZ] at HK HZ⊢;have HZe:=ag hZ;clear hZ
 go_loopg [6,7,8,9,11,22,25,30] (dM NB f.g) (λgk _ _ _ _ _ _ _ _ wr=>Hid (∃f',dM NB f'.g<=gk/\oq NB B R w1 wr f'/\Prj NB n f f'))
 case atStart=>exact hid ⟨f,bp _,H1.refl,HC0⟩
 case round=>
  obtain⟨f',hk,h1,hc⟩:=hrel.o;obtain⟨n',jg,hn'⟩:=hc.fi;have hF:=hc.mi.same.F;have hM:=hc.mi.same.M;have agK:∀q,Value.ownBlock (an a 96 c)=some q->¬Up R w1 wr q:=λq hq=>h1.far (Kt.o q hq) (HO.aN q hq).2;have HP:=ag (Hg h1.1 jg (WY hc.en (by have:=jg.lf;omega)) (by have:=HN.o;omega) a c bs (by rw[hc.mi.same.gh];exact HGh.o) (h1.own HO Kt) agK);rw[hM] at HP;have c1:=h1.1.c1;rw[hF,hM] at c1;obtain⟨nz,HC,P8⟩:=cp h1 hc jg;obtain⟨JD,HF,HKk⟩:=cp hn' hF hk;clear hrel hk h1 hc jg hn' hF agK hM;go_wp2_with fail;go_call HP as e w2 ⟨k,i,g',h2,⟨rfl,rU,qZ⟩|⟨rfl,hfl,qZ⟩⟩
  .have H2:=ag (nz.aA h2);obtain⟨ja,IG,aCj⟩:=cp (H2.blk HK HZ) rU (qZ.le (m:=n+cc (dM NB f.g)) (by have:=JD.o;have:=agL (dM NB f'.g);omega));clear h2 rU qZ c1;obtain⟨k0,k1,f0,f1,q0,q1⟩:=plZ ja.o k i;have NM:=ag (H2.tail CO gX (((Kq.refl (λq=>q=Z) w2).setCell (p:=⟨Z,0,none⟩) (.inl rfl) (O aa k)).setCell (p:=⟨Z,1,none⟩) (.inl rfl) (O aa i)) λq hq=>by subst hq;exact⟨by rw[HZe.o];exact bp _,aF.lt HK,HZ⟩);go_wp2_with fail;refine bodyPost_ret (v:=ao #[.agg #[O aa k,O aa i],O aa 0]) (by simp[results,Tryz.results250,go_sem,q0,q1]) rfl ⟨k,i,f',g',rfl,NM,HC,IG,aCj⟩
  .have H2:=ag (nz.aA h2);have agM:=HC.ask HI.lf P8.o hfl;have NR:dM NB g'+1=dM NB f'.g:=hfl.sk.nxF.1;have HRc:=ag (D7 (B:=B) (dM NB g') (n'+1) (Up R w1 w2) w2 {f' with g:=g'} k _ H2.o.1 qZ agM av (by have h1:=JD.o;have h2:=HN.o;rw[<-NR] at h1;have:cc (dM NB g'+1)=8*cc (dM NB g')+10:=rfl;show n'+1+7*cc (dM NB g')+8<=_;omega));rw[show(Value.pointer (some ⟨({f' with g:=g'}:Fm).F,0,none⟩))= f.F from congrArg (λq=>Value.pointer (some ⟨q,0,none⟩)) HF.o] at HRc;obtain⟨HPh,zK⟩:=cn NR hfl;clear h2 agM NR hfl qZ c1;go_wp2_with fail;go_call HRc as e w3 ⟨rfl,f2,h3,hrs⟩;have H3:=ag (H2.aA h3);have hnx:=HC.next P8.o JD.o zK.o hrs
   have HRh:=ag (show dM NB f2.g<=dM NB g' from hrs.ph);obtain⟨n2,qZ,YK⟩:=hnx.fi;have hE:=D8 H3.o.1 qZ (.inl hnx.en) (by have:=HN.o;omega);rw[hnx.mi.same.F] at hE;obtain⟨HE,HNx⟩:=cn hE hnx;clear h3 hrs hnx qZ YK hE;go_wp2_with fail;go_call HE as e w4 ⟨rfl,g3,h4,OX⟩;obtain rfl:=OX.id HNx.en;have H4:=ag (H3.aA h4);clear h4 OX;go_wp2_with fail
   go_roundg (dM NB f2.g)
   case measure=>have:=HRh.o;have:=HPh.o;have:=HKk.o;omega
   case rel=>exact hid ⟨f2,bp _,H4,HNx⟩
end
theorem avZ:prog.cellsOf 67=4:=az
section
variable {NB B n:Nat} {R:Nat->Prop} {w:World} {f:Fm}
def Ptd (NB B:Nat) (R:Nat->Prop) (n:Nat) (f:Fm) (t:Tg) (pay:List UInt8) (w:World) (e:Ending) (w':World):=
 ∃(k i:Nat) (f1:Fm) (g':Mg),e=ar (ao #[.agg #[O aa k,O aa i],O aa 0])/\oq NB B R w w' {f1 with g:=g',seq:=f.seq+1}/\Same f f1/\Qn NB f1.g g' k i (Tg.page t pay)/\Fi NB (n+1000) [k] g' (f1.se++f1.no)/\3<=qn g'/\∀z s,Zi NB z f.g (f.se++f.no) s->Zi NB z f1.g (f1.se++f1.no) s
theorem dY.Ens.same {g'} (h:Ens NB n f g'):Same f {f with g:=g'}:=by
 rcases h.res with e|⟨k,_,_,hw⟩
 .rw[e];exact Same.refl f
 .exact hw.same
theorem dY.Qn.qn3 {g g' k i bs} (h:Qn NB g g' k i bs) (he:dY.enough g=true):3<=qn g':=by obtain⟨h1,h2⟩:=lD.1 he;have:=h.c4;unfold qn at*;rcases h.was with⟨a1,_,_,a4⟩|⟨a1,_,_,a4⟩<;>omega
theorem Lt (hgc:Gcs NB f.g) (h:cu NB B R w f) (hi:Fi NB n [] f.g (f.se++f.no)) (hn:n<=1099511000000)
  (kd p:Nat) (hk:kd=1\/kd=2) (hp:p<8192) (hs:1<=f.seq/\f.seq<=1000000000) (he:1<=f.ep/\f.ep<=1000000000) a c pay (NL:f.g.gh (Tg.page ⟨kd,p,f.seq,f.ep⟩ pay)) (hx:Bytes w w a 64 pay) (AL:∀b o,a=some ⟨b,o,none⟩->¬R b):
  Calls prog 207 #[f.F,.agg #[O aa kd,O .u32 p,O .u64 0,O .u64 0],an a 64 c] w (Ptd NB B R n f ⟨kd,p,f.seq,f.ep⟩ pay w):=by
 have HGc:=ag hgc;have gX:=h.base;obtain⟨t,ht⟩:∃t:Tg,t=⟨(kd:Int),p,f.seq,f.ep⟩:=⟨_,rfl⟩
 have agN:Tg.Right t:=by rw[ht];exact⟨by rcases hk with rfl|rfl<;>simp,hp,hs.1,by show f.seq<_;omega,he.1,by show f.ep<_;omega⟩
 obtain⟨HT,HRt⟩:=cn ht agN;obtain⟨w1,ku⟩:∃w1,w1=(w.alloc (.cells #[O aa kd,O .u32 p,O .u64 0,O .u64 0] 67)).alloc (.cells #[O aa 0,O aa 0] 247):=⟨_,rfl⟩
 have bP:Below w w w1:=by rw[ku];exact((aE _ w).alloc av _).alloc au _
 have BA:aF w1 w 67 #[O aa kd,O .u32 p,O .u64 0,O .u64 0]:=by rw[ku];exact(aF.new w _ _).alloc _
 have tZ:aF w1 (w.heap.size+1) 247 #[O aa 0,O aa 0]:=by have:=aF.new (w.alloc (.cells #[O aa kd,O .u32 p,O .u64 0,O .u64 0] 67)) 247 #[O aa 0,O aa 0];rw[bR] at this;rw[ku];exact this
 obtain⟨HW1,bV,ES,HZ1,Ti⟩:=ct ku bP BA tZ (h.aV (bp w));obtain⟨CS,H1,yg,Kt,HAb⟩:=ct (show¬R (w.heap.size+1) from h.aV (Nat.le_succ w)) (h.on bP) (hx.on bP) AL (show∀b o,a=some ⟨b,o,none⟩->b<w.heap.size from λb o e=>by obtain⟨b',o',e',aT,_⟩:=hx.2.2 ae;rw[e] at e';injection e' with e';injection e' with e';omega);obtain⟨HI,HN,SY,HEp,HGh⟩:=ct hi hn hs he (show f.g.gh (Tg.page t pay) by rw[ht];exact NL);have pK:=hi.nb;clear hgc NL h hi hn hk hs he hx AL ht agN bP BA tZ
 go_in
 go_upto_region 1 with fail;rw[<-ku];clear ku;go_wp2_with fail;go_call(WX H1 pK.2) as e w2 ⟨rfl,aZ⟩;obtain⟨H2,IP,HZ2,NK,df⟩:=ct (H1.on aZ) (ES.ah aZ) (HZ1.ah aZ) (yg.on aZ) (bV.aA aZ);clear aZ;go_wp2_with fail;go_call(D8 H2 HI HGc (by have:=HN.o;omega)) as e w3 ⟨rfl,gE,h3,OX⟩;obtain⟨f1,Zk⟩:∃f1,f1=({f with g:=gE}:Fm):=⟨_,rfl⟩
 rw[<-Zk] at h3;have iP:Same f f1:=by rw[Zk];exact OX.same
 have jg:Fi NB (n+1) [] f1.g (f1.se++f1.no):=by rw[Zk];exact OX.fi
 have hen:dY.enough f1.g=true:=by rw[Zk];exact OX.en
 obtain⟨HZt,H4,HS,P8,HEn⟩:=ct (show∀z s,Zi NB z f.g (f.se++f.no) s->Zi NB z f1.g (f1.se++f1.no) s by rw[Zk];exact λz s hz=>OX.zi hz) h3 iP jg hen;obtain⟨HQ3,RH,IQ⟩:=cp (h3.blk IP Ti) (h3.blk HZ2 CS) ((NK.kq av h3.2 Kt).mono h3.2.size);have c8:=h3.1.c8;have c9:=h3.1.c9;rw[iP.F,iP.seq] at c8;rw[iP.F,iP.ep] at c9;clear h3 iP jg hen OX Zk;go_upto_region 7 with fail;have hd:=HQ3.drew;have y2:=aF.aj (i:=2) hd rfl;have y3:=aF.aj (i:=3) hd rfl;have u2:=aF.frozen hd 2;have u3:=aF.frozen hd 3;have jA:=hd.set 2 (O .u64 f.seq);have v3:=jA.aj (i:=3) (v:=O .u64 0) rfl;have x3:=jA.frozen 3;have HQ4:=ag (jA.set 3 (O .u64 f.ep));have hFQ:f.F≠w.heap.size:=by have h1:=H2.inF;exact λe=>Ti.o (e▸h1)
 have HFQ:=ag hFQ;clear hd jA hFQ;obtain⟨W,hW⟩:=aW w3.drew;have hc:W.cell? (f.F,8)=some (O .u64 f.seq)/\W.cell? (f.F,9)=some (O .u64 f.ep):=by rw[hW];exact⟨c8,c9⟩
 rw[<-hW] at y2 y3 u2 u3 v3 x3 HQ4;have JM:=ag hW;clear c8 c9;have far:∀(U:World) (i:Nat) (u:Value),(U.cell? (aw f.F 8)=some (O .u64 f.seq)/\U.cell? (aw f.F 9)=some (O .u64 f.ep))->(U.setCell (aw w.heap.size i) u).cell? (aw f.F 8)=some (O .u64 f.seq)/\(U.setCell (aw w.heap.size i) u).cell? (aw f.F 9)=some (O .u64 f.ep):=λU i u hU=>
  ⟨(cK U ⟨w.heap.size,i,none⟩ (f.F,8) u (Ne.symm HFQ.o)).trans hU.1,(cK U (w.heap.size,i) (f.F,9) u (Ne.symm HFQ.o)).trans hU.2⟩
 have FAR:=ag far;clear far;refine iE (λW'=>W'.cell? (aw f.F 8)=some (O .u64 f.seq)/\W'.cell? (aw f.F 9)=some (O .u64 f.ep)) (by rw[<-JM.o];exact hc) (λaY=>?_);rw[<-hW] at aY⊢;clear hW hc;refine dw 0 f.F 0 ?_;refine dw 1 f.F 0 ?_;refine aS 2 f.F 8 ?_;refine jE 3 (O .u64 f.seq) rfl (λ_ aK=>by obtain⟨y8,y9⟩:=aK;go_simp) ?_;refine dw 4 f.F 0 ?_;refine dw 5 f.F 0 ?_;refine aS 6 f.F 9 ?_;refine jE 7 (O .u64 f.ep) rfl (λ_ aK=>by obtain⟨y8,y9⟩:=aK;go_simp) ?_;refine aS 8 w 2 ?_;refine bY 9 (λK' hK=>?_);go_simp;have dh:=FAR.o W 2 (O .u64 f.seq) aY;refine hK.out _ _ dh (λfE=>?_)
 refine aS 10 w 3 ?_;refine bY 11 (λK' hK=>?_);go_simp;have iZ:=FAR.o _ 3 (O .u64 f.ep) dh;refine hK.out _ _ iZ (λqX=>?_);refine eH ?_;clear aY dh fE iZ qX y2 y3 u2 u3 v3 x3;obtain⟨Z,hZ⟩:=aW (w.heap.size+1);rw[<-hZ] at HZ2 RH CS⊢;have HZe:=ag hZ;clear hZ;obtain⟨Q,hQ⟩:=aW w.heap.size;obtain⟨HQe,wS⟩:=cn hQ (((Kq.of (T:=λq=>q=Q) (ak w3)).setCell (p:=⟨w.heap.size,2,none⟩) (.inl hQ.symm) (O .u64 f.seq)).setCell (p:=⟨w.heap.size,3,none⟩) (.inl hQ.symm) (O .u64 f.ep));rw[<-JM.o] at wS;generalize (W.setCell (w.heap.size,2) (O .u64 f.seq)).setCell (w.heap.size,3) (O .u64 f.ep)=W5 at*;rw[<-hQ] at HQ4 Ti ES⊢;clear hQ;obtain⟨R1,hR1⟩:=aW (Up R w2 w3);have EJ:=ag hR1;have alb:¬R1 Q:=by rw[hR1];exact H4.far Ti.o (by rw[HQe.o];exact IP.lt)
 have av2:¬R1 (Z):=by rw[hR1];exact H4.far CS.o HZ2.lt
 have hm5:cu NB B R1 W5 f1:=by rw[hR1];exact H4.o.1.kq wS.o λq hq e=>by rw[hR1] at alb;exact alb (e▸hq)
 obtain⟨Ql,aJR,aqt,Fq,HZ5⟩:=ct hm5 alb av2 ((IQ.kq av wS λb o e h1=>by have:=HAb.o b o e;have:=HQe.o;omega).mono wS.size) (RH.kq wS λe=>by have:=HQe.o;have:=HZe.o;omega);have z0:=aF.aj (i:=0) HQ4.o rfl;have z1:=aF.aj (i:=1) HQ4.o rfl;have z2:=aF.aj (i:=2) HQ4.o rfl;have z3:=aF.aj (i:=3) HQ4.o rfl;have gm:=avZ;clear hR1 hm5 alb av2;have Oj:=ag (Hl t a 64 c pay W5 HRt (.inl rfl) Fq);rw[show tagV t= .agg #[O aa kd,O .u32 p,O .u64 f.seq,O .u64 f.ep] by rw[HT.o]] at Oj;go_wp2_with fail;go_call Oj as e W6 ⟨⟨v6,rfl,ho6⟩,fJ⟩;have anV:(Tg.page t pay).length=96:=by rw[Tg.rX,Fq.len]
 obtain⟨a6,c6,rfl,hc6⟩:=ho6.bG anV;obtain⟨BQ,ve,vP,HZ6⟩:=cr ho6 fJ (Ql.on fJ) (HZ5.ah fJ);have d8:=vP.c8;have u8:=vP.frz 8;rw[HS.F,HS.seq] at d8;rw[HS.F] at u8;have i8:=IntWalk.u64_in ((f.seq:Int)+1) ⟨ae,by have:=SY.o;omega⟩;have hm7:=vP.aqn 8 (O .u64 ((f.seq:Int)+1)) {f1 with seq:=f.seq+1} (by unfold Qp;simp) rfl rfl rfl rfl rfl rfl rfl rfl rfl rfl rfl;rw[show((f1.F,8):Addr)=(f.F,8) by rw[HS.F]] at hm7;have x8:=ag hm7;have hF1:R1 f.F:=by have:=vP.inF;rw[HS.F] at this;exact this
 have yh:=ag ((Kq.refl R1 W6).setCell (p:=⟨f.F,8,none⟩) (.inl hF1) (O .u64 ((f.seq:Int)+1)));clear z0 z1 z2 z3 fJ ho6 hm7 hF1 anV;go_upto_region 12 with fail;clear d8 u8;generalize W6.setCell (f.F,8) (O .u64 ((f.seq:Int)+1))=W7 at*;have aqu:∀q,Value.ownBlock (an a6 96 c6)=some q->¬R1 q:=λq hq=>Ql.aV (BQ.aN q hq).1;obtain⟨uB,HZ7⟩:=cn ((BQ.kq yh aqu).mono (bN _)) (HZ6.kq yh aqt);have HP:=ag (OW x8 P8 HEn (by have:=HN.o;omega) a6 c6 _ (show f1.g.gh (Tg.page t pay) by rw[HS.gh];exact HGh.o) uB aqu);rw[show(Value.pointer (some ⟨({f1 with seq:=f.seq+1}:Fm).F,0,none⟩))= f.F from congrArg (λq=>Value.pointer (some ⟨q,0,none⟩)) HS.F] at HP;clear aqu;go_wp2_with fail;go_call HP as e W8 ⟨k,i,f8,g',rfl,h8,aqv,rU,jg⟩;have av3:f8.seq=f.seq+1:=aqv.mi.same.seq;have av4:dM NB f1.g<=2:=by have:=P8.lf;unfold dM;omega
 obtain⟨HCc,HPj,Jd,HZ8,H8⟩:=ct (aae av4) aqv av3 (h8.blk HZ7 aqt) h8;obtain⟨IG,aCo,aCp⟩:=cp rU jg (h8.far aqt HZ7.lt);clear h8 rU jg aqv av3 av4;obtain⟨k0,k1,f0,f1',q0,q1⟩:=plZ HZ8.o k i;have aCq:=fU;go_wp2_with fail;refine bodyPost_ret (v:=ao #[.agg #[O aa k,O aa i],O aa 0]) (by simp[results,Tryz.results207,go_sem,q0,q1]) rfl ⟨k,i,{f8 with seq:=f.seq},g',rfl,?_,HS.trans ?_,by have h9:=IG.o;rw[HT.o] at h9;exact h9,aCo.le (by have:=HCc.o;show n+1+cc (dM NB f1.g)<=_;omega),IG.qn3 HPj.en,λz s hz=>HPj.zi (HZt.o z s hz)⟩
 rotate_left
 .have h9:=HPj.mi.same;exact⟨h9.F,h9.SE,h9.NO,h9.GO,h9.LA,h9.M,h9.ML,h9.C,HS.seq.symm,h9.ep,h9.tv,h9.tx,h9.ov,h9.se,h9.no,h9.go,h9.gh⟩
 show oq NB B R w _ {f8 with g:=g',seq:=f.seq+1};rw[<-Jd.o];have s2:=df.size;have s3:=H4.o.2.size;have s5:=wS.size;have s6:=ve.size;have s7:=yh.size;have s8:=H8.o.2.size;have aqw:∀q,R1 q->R q\/(w.heap.size<=q/\q<w3.heap.size):=λq hq=>by
  rw[EJ.o] at hq;rcases hq with h1|h1
  .exact .inl h1
  .exact .inr ⟨ae,h1.2⟩
 have hkz:Kq (λq=>q=Z) W8 ((W8.setCell (Z,0) (O aa k)).setCell (Z,1) (O aa i)):=((Kq.refl (λq=>q=Z) W8).setCell (p:=⟨Z,0,none⟩) (.inl rfl) _).setCell (p:=⟨Z,1,none⟩) (.inl rfl) _;have UY:=H8.o.1.kq hkz λq hq e=>aCp.o (e▸hq);refine⟨UY.more (λq hq=>?_) λq hq=>?_,?_⟩
 .rcases hq with h1|h1
  .rcases aqw q h1 with h2|h2
   .exact .inl h2
   .exact .inr ⟨h2.1,by simp only[cT];omega⟩
  .exact .inr ⟨ae,by simp only[cT];omega⟩
 .rcases hq with h1|h1
  .exact UY.bnd q (.inl (by rw[EJ.o];exact .inl h1))
  .exact⟨ae,h1.2⟩
 .have mr:Kq R w w3:=(Kq.of df).trans H4.o.2;have KJ:Kq R w W5:=mr.aA wS.o λq e=> .inr (by rw[e,HQe.o];exact bp _);have oP:Kq R w W7:=(KJ.on ve).aA yh.o λq hq=>by
   rcases aqw q hq with h2|h2
   .exact .inl h2
   .exact .inr h2.1
  have hk8:Kq R w W8:=oP.aA H8.o.2 λq hq=>by
   rcases aqw q hq with h2|h2
   .exact .inl h2
   .exact .inr h2.1
  exact hk8.aA hkz λq e=> .inr (by have:=HZe.o;omega)
end
end
section
open RowKit
structure Pr NB B R w R' W f:Prop where
 ft:cu NB B R' W f
 kq:Kq R w W
 up:∀q,R' q->Up R w W q
 bn:∀q,R q->B<=q/\q<w
section
variable {NB B:Nat} {R R' T:Nat->Prop} {w W W':World} {f f':Fm}
theorem Pr.start (h:cu NB B R w f):Pr NB B R w R w f:=⟨h,Kq.refl _ _,λ_ hq=> .inl hq,h.bnd⟩
theorem Pr.up_ {q} (h:Pr NB B R w R' W f) (hs:W<=W'.heap.size) (hq:R' q):Up R w W' q:=by
 rcases h.up q hq with h1|h1
 .exact .inl h1
 .exact .inr ⟨h1.1,ae⟩
theorem Pr.on (h:Pr NB B R w R' W f) (hb:Below W W W'):Pr NB B R w R' W' f:=⟨h.ft.on hb,h.kq.on hb,λ_ hq=>h.up_ hb.size hq,h.bn⟩
theorem Pr.same (h:Pr NB B R w R' W f) (h1:cu NB B R' W' f') (h2:Kq R' W W'):Pr NB B R w R' W' f':=
 ⟨h1,h.kq.aA h2 λq hq=>by rcases h.up q hq with h3|h3;exact .inl h3;exact .inr h3.1,λ_ hq=>h.up_ h2.size hq,h.bn⟩
theorem Pr.step (h:Pr NB B R w R' W f) (h1:oq NB B R' W W' f'):Pr NB B R w (Up R' W W') W' f':=by
 have hs:=h.kq.size;refine⟨h1.1,h.kq.aA h1.2 λq hq=>by rcases h.up q hq with h3|h3;exact .inl h3;exact .inr h3.1,λq hq=>?_,h.bn⟩;grind[oq,Up,Kq.size,Pr.up_]
theorem Pr.mine (h:Pr NB B R w R' W f) (hk:Kq T W W') (hT:∀q,T q->w<=q/\¬R' q):Pr NB B R w R' W' f:=
 ⟨h.ft.kq hk λq hq ht=>(hT q ht).2 hq,h.kq.aA hk λq hq=> .inr (hT q hq).1,λ_ hq=>h.up_ hk.size hq,h.bn⟩
theorem Pr.fin (h:Pr NB B R w R' W f) (hB:B<=w):oq NB B R w W f:=by
 refine⟨h.ft.more h.up λq hq=>?_,h.kq⟩;rcases hq with h1|h1
 .have:=h.bn q h1;have:=h.kq.size;omega
 .exact⟨ae,h1.2⟩
end
namespace dY
theorem D5 {l l'} (h:l'.map sk=l.map sk) p:(aI l' p).map sk=(aI l p).map sk:=by
 unfold aI
 induction l generalizing l' with
 |nil=>
  cases l' with
  |nil=>rfl
  |cons a t=>cases h
 |cons b t ih=>
  cases l' with
  |nil=>cases h
  |cons a s=>
   rw[cE,cE] at h;injection h with h1 h2
   have hp:a.t.p=b.t.p:=congrArg (λy=>y.1.p) h1;grind
theorem jL {l l'} (h:l'.map sk=l.map sk) p:(aI l' p).isSome=(aI l p).isSome:=by
 have:=congrArg Option.isSome (D5 h p)
 simpa using this
theorem Qq {l l'} (h:l'.map (λe=>e.t.p)=l.map λe=>e.t.p) p:(aI l' p).isSome=(aI l p).isSome:=by
 unfold aI
 induction l generalizing l' with
 |nil=>
  cases l' with
  |nil=>rfl
  |cons a t=>cases h
 |cons b t ih=>
  cases l' with
  |nil=>cases h
  |cons a s=>
   grind
theorem lT {l e} (hu:Uq l) q:aI (dA l e) q=if q=e.t.p then some e else aI l q:=by
 cases hg:aI l e.t.p with
 |some x=>
  obtain⟨hx,hp⟩:=dW hg;obtain⟨l1,l2,rfl⟩:=List.append_of_mem hx;obtain⟨n1,n2⟩:=wW hu;rw[JL hu hp];unfold aI;grind
 |none=>
  have hn:=kJ hg;rw[o7 λx hx=>hn x hx];unfold aI;grind
theorem qQ l p q:aI (kQ l p) q=if q=p then none else aI l q:=by
 unfold aI kQ;grind
theorem ak4 {l e} (hu:Uq l):Uq (dA l e):=by
 cases hg:aI l e.t.p with
 |some x=>
  obtain⟨hx,hp⟩:=dW hg;unfold Uq;rw[Qr (by rw[hg];rfl)];exact hu
 |none=>
  have hn:=kJ hg;rw[o7 λx hx=>hn x hx];unfold Uq at*;grind
section
variable {NB n k:Nat} {x:List Nat} {g:Mg} {E:List En} {e e0:En}
theorem Fi.avL (h:Fi NB n x g E) (hk:k∈x):k<g.l.length:=by rw[h.w.len];exact h.ltx hk
end
theorem Qn.gp {NB k i g g' t pay} (h:Qn NB g g' k i (Tg.page t pay)):Gp g' ⟨t,pay,k,i⟩:=by
 refine⟨?_,?_,h.i8⟩
 .show(g'.bl k).qB i=_;rw[h.bk];exact upd_same _ _ _
 .show i<(g'.bl k).nx;rw[h.bk];exact Nat.lt_succ_self _
def Drp NB g g':=qn g<=qn g'/\∀z E s,Zi NB z g E s->Zi NB z g' E s
theorem Drp.refl NB g:Drp NB g g:=⟨bp _,λ_ _ _ h=>h⟩
theorem Drp.drop {NB k g g'} (h:Drp NB g g') (hk:k<g'.l.length):Drp NB g {g' with l:=g'.l.set k (dD (Gc.at_ g'.l k))}:=by refine⟨bB h.1 ?_,λz E s hz=>(h.2 z E s hz).drop hk⟩;unfold qn;show _<=Gc.count 0 (g'.l.set k (dD (Gc.at_ g'.l k)))+Gc.count 4 (g'.l.set k (dD (Gc.at_ g'.l k)));rw[rW aB hk,rW aB hk];exact bp _
theorem Zi.put {NB k i s z g g' bs se no e0} (h:Qn NB g g' k i bs) (hz:Zi NB z g (se++no) s) (hb:e0.b=k) (hs:e0.t.s=s):Zi NB z g' (se++dA no e0) (s+1):=by
 refine(h.zi hz hb hs).sub λe he=>?_;rcases cv.1 he with h1|h1
 .grind
 .rcases D6 h1 with rfl|h2
  .grind
  grind
structure Wrd NB (f f':Fm) p pay:Prop where
 fc:Fc NB f'
 F:f'.F=f.F
 C:f'.g.C=f.g.C
 gh:f'.g.gh=f.g.gh
 tx:f'.tx=f.tx
 se:f'.se.map sk=f.se.map sk
 no:∀q,(aI f'.no q).map sk=if q=p then some (⟨1,p,f.seq,f.ep⟩,pay) else(aI f.no q).map sk
 go:∀q,(aI f'.go q).isSome=if q=p then false else(aI f.go q).isSome
 len:f'.no.length=f.no.length+if (aI f.no p).isSome then 0 else 1
 seq:f'.seq=f.seq+1
 ep:f'.ep=f.ep
 zt:∀z,Zi NB z f.g (f.se++f.no) f.seq->Zi NB z f'.g (f'.se++f'.no) f'.seq
theorem wrd {NB k i p m f f1 f' pay} (h:Fc NB f) (hS:Same f f1) (hu:Uq f1.no) (yc:1<=p)
  (jg:Fi NB m [] f'.g (f1.se++dA f1.no ⟨⟨1,p,f.seq,f.ep⟩,pay,k,i⟩)) (hm:m<=100000*f.seq+100000) (vk:3<=qn f'.g) (hzi:∀z,Zi NB z f.g (f.se++f.no) f.seq->Zi NB z f'.g (f1.se++dA f1.no ⟨⟨1,p,f.seq,f.ep⟩,pay,k,i⟩) (f.seq+1)) (pR:(aI f.no p).isSome=true\/(f.se++f.no).length+3<=8*(NB-3))
  (hC:f'.g.C=f.g.C) (hGh:f'.g.gh=f.g.gh) (hF:f'.F=f1.F) (htx:f'.tx=f1.tx) (vC:f'.se=f1.se) (hno:f'.no=dA f1.no ⟨⟨1,p,f.seq,f.ep⟩,pay,k,i⟩) (hgo:f'.go=kQ f1.go p) (ER:f'.seq=f.seq+1) (UU:f'.ep=f1.ep) (hov:f'.ov=f1.ov):Wrd NB f f' p pay:=by
 have hlen:(dA f1.no ⟨⟨1,p,f.seq,f.ep⟩,pay,k,i⟩).length=f.no.length+if (aI f.no p).isSome then 0 else 1:=by rw[WV];have h1:=congrArg List.length hS.no;simp only[bO] at h1;rw[h1,jL hS.no]
 refine⟨⟨?_,vk,?_,by rw[hov,hS.ov];exact h.ov,?_,λx hx=>?_,?_,?_,by rw[vC,hno,ER];exact hzi _ h.zi⟩,hF.trans hS.F,hC,hGh,htx.trans hS.tx,by rw[vC];exact hS.se,λq=>?_,λq=>?_,?_,ER,UU.trans hS.ep,by rw[vC,hno,ER];exact hzi⟩
 .rw[vC,hno,ER];exact jg.le ae
 .rw[vC,hno,bE,hlen];have h1:=congrArg List.length hS.se;simp only[bO] at h1;have h2:=h.cap;grind
 .rw[ER,UU,hS.ep];have:=h.sq;omega
 .rw[hgo] at hx;rw[vC,jL hS.se];have wO:x∈f1.go:=(List.mem_filter.1 hx).1;have:x.t.p∈f.go.map λe=>e.t.p:=by rw[<-hS.go];grind
  obtain⟨y,hy,hyp⟩:=bw.1 this;rw[<-hyp];exact h.gk y hy
 .rw[hno,lT hu,eo (show¬0=p by omega)];have:=jL hS.no 0;rw[h.n0] at this
  cases hg:aI f1.no 0 with
  |none=>rfl
  |some e=>grind
 .rw[hgo,qQ,eo (show¬0=p by omega)];have:=Qq hS.go 0;rw[h.g0] at this
  cases hg:aI f1.go 0 with
  |none=>rfl
  |some e=>grind
 .rw[hno,lT hu];by_cases hq:q=p
  .rw[ev hq,ev hq];rfl
  .rw[eo hq,eo hq];exact D5 hS.no q
 .rw[hgo,qQ];by_cases hq:q=p
  .grind
  .rw[eo hq,eo hq];exact Qq hS.go q
 .rw[hno];exact hlen
end dY
end
section
open RowKit dY
theorem ak5 u:(Instr.makeSlice 23 (O aa 8) (O aa 64)).run prog u= .ok (an (u,0) 8 64) (u.alloc (.cells (cB 64 (O .u8 0)) 5)):=az
theorem Own.anu {α f e w base a n c} {xs:List α} (h:Own f e w base (an a n c) xs) {k} (hk:k<=n):Own f e w base (an a k c) (xs.take k):=by
 refine⟨au,?_⟩;rcases h.2 with⟨hv,hn⟩|⟨g,cap,cur,hv,jf,hg,hc,hm,hs,ht⟩
 .grind
 .injection hv with h1 h2 h3
  subst h1 h2 h3;have hl:(xs.take k).length=k:=by grind
  refine .inr ⟨g,c,cur,by rw[hl],jf,hg,by rw[hl];omega,hm,hs,?_⟩;rw[hl,List.map_take,<-ht,List.take_take]
  congr 1
  omega
theorem ZY a c tx w (hx:Bytes w w a 56 tx):
  Calls prog 209 #[O aa 2,O aa 0,an a 56 c] w λe w'=>(∃a' c',e=ar (an a' 64 c')/\Own aJ 5 w' w (an a' 64 c') ([2,0,0,0,0,0,0,0]++tx))/\Below w w w':=by
 have wI:=ak5;have hl:=hx.len;have ho:=(kU w w 64 av ae).anu (k:=8) ae;have hb:=(aE w w).alloc av (.cells (cB 64 (O .u8 0)) 5);have HX:=ag (hx.on hb);have ho:Own aJ 5 (w.alloc (.cells (cB 64 (O .u8 0)) 5)) w (an (w.heap.size,0) 8 64) [0,0,0,0,0,0,0,0]:=ho;generalize ku:w.alloc (.cells (cB 64 (O .u8 0)) 5)=w1 at*;obtain⟨c0,f0⟩:=ho.dU (k:=0) au;have h0:=ho.set 0 2;obtain⟨c1,f1⟩:=h0.dU (k:=1) au;have h1:=h0.set 1 0;obtain⟨c2,f2⟩:=h1.dU (k:=2) au;have h2:=h1.set 2 0;obtain⟨c3,f3⟩:=h2.dU (k:=3) au;have h3:=h2.set 3 0;have h3:Own aJ 5 ((((w1.setCell (w.heap.size,0) (O .u8 2)).setCell (w.heap.size,1) (O .u8 0)).setCell (w.heap.size,2) (O .u8 0)).setCell (w.heap.size,3) (O .u8 0)) w (an (w.heap.size,0) 8 64) [2,0,0,0,0,0,0,0]:=h3;have bJ:=(((hb.setCell (p:=⟨w.heap.size,0,none⟩) av (O .u8 2)).setCell (p:=⟨w.heap.size,1,none⟩) av (O .u8 0)).setCell (p:=⟨w.heap.size,2,none⟩) av (O .u8 0)).setCell (p:=⟨w.heap.size,3,none⟩) av (O .u8 0);obtain⟨HO,HB,IQ⟩:=cp h3 bJ (hx.on bJ);have c0:w1.cell? (w.heap.size,0)=some (O .u8 0):=c0;have c1:(w1.setCell (w.heap.size,0) (O .u8 2)).cell? (w.heap.size,1)=some (O .u8 0):=c1;have f1:(w1.setCell (w.heap.size,0) (O .u8 2)).frozen? (w.heap.size,1)=false:=f1;have c2:((w1.setCell (w.heap.size,0) (O .u8 2)).setCell (w.heap.size,1) (O .u8 0)).cell? (w.heap.size,2)=some (O .u8 0):=c2;have f2:((w1.setCell (w.heap.size,0) (O .u8 2)).setCell (w.heap.size,1) (O .u8 0)).frozen? (w.heap.size,2)=false:=f2;have c3:(((w1.setCell (w.heap.size,0) (O .u8 2)).setCell (w.heap.size,1) (O .u8 0)).setCell (w.heap.size,2) (O .u8 0)).cell? (w.heap.size,3)=some (O .u8 0):=c3;have f3:(((w1.setCell (w.heap.size,0) (O .u8 2)).setCell (w.heap.size,1) (O .u8 0)).setCell (w.heap.size,2) (O .u8 0)).frozen? (w.heap.size,3)=false:=f3;clear hx hl ho hb h0 h1 h2 h3 bJ HX
 go_in
 go_upto_region 2 with fail;clear ku;go_upto_region 3 with fail;clear c0 c1 c2 c3 f0 f1 f2 f3
 go_wp2_with (at_builtin;refine ik rfl _ _ rfl w _ [2,0,0,0,0,0,0,0] rfl HO _ a 56 c tx rfl IQ au (by have:=HB.size;exact this) ?_;intro v4 w4 x9 jM)
 go_ret;obtain⟨a4,c4,rfl,_⟩:=x9.bG (n:=64) (by rw[bE,IQ.len];rfl);exact⟨⟨a4,c4,rfl,x9⟩,HB.trans jM⟩
end
section
open RowKit
namespace dY
theorem xk {l l'} (h:l.Perm l') (hu:Uq l):Uq l':=(h.map (λe:En=>e.t.p)).nodup_iff.1 hu
theorem Tf {l l'} (h:Uq (l++l')):Uq l:=by unfold Uq at*;rw[cA,List.nodup_append] at h;exact h.1
theorem zU {d e} (h:Uq (d++[e])) q:aI (d++[e]) q=if q=e.t.p then some e else aI d q:=by have h2:∀x∈d,x.t.p≠e.t.p:=(wW (l2:=[]) h).1;rw[<-o7 (l:=d) (e:=e) h2];exact lT (Tf h) q
theorem zS {l l'} (h:l.Perm l') (hu:Uq l) q:aI l q=aI l' q:=by
 have hu':=xk h hu
 cases hg:aI l' q with
 |none=>exact rP λe he=>kJ hg e (h.mem_iff.1 he)
 |some x=>
  obtain⟨h1,rfl⟩:=dW hg;exact zT hu (h.mem_iff.2 h1)
structure Sl1 NB m (f2 f3:Fm) d:Prop where
 fi:∃rest,(d++rest).Perm f2.no/\Fi NB (m+d.length) [] f3.g (f3.se++rest)
 se:∀q,aI f3.se q=match aI d q with
  |some e=>some e
  |none=>aI f2.se q
 go:∀q,(aI f3.go q).isSome=if (aI d q).isSome then false else(aI f2.go q).isSome
 gos:∀x∈f3.go,x∈f2.go
 fr:Drp NB f2.g f3.g
 eq:f3={f2 with g:=f3.g,se:=f3.se,go:=f3.go}
 len:f3.se.length+(f2.no.length-d.length)+(if (aI d 0).isSome=true/\(aI f2.se 0).isSome=true then 1 else 0)<=f2.se.length+f2.no.length
 C:f3.g.C=f2.g.C
 M:f3.g.M=f2.g.M
 ML:f3.g.ML=f2.g.ML
 gh:f3.g.gh=f2.g.gh
theorem avu {NB m f2} (h:Fi NB m [] f2.g (f2.se++f2.no)):Sl1 NB m f2 f2 []:=
 ⟨⟨f2.no,List.Perm.refl _,h⟩,λ_=>rfl,λ_=>rfl,λ_ h=>h,Drp.refl _ _,rfl,by rw[eo (by rintro⟨e,_⟩;cases e)];simp,rfl,rfl,rfl,rfl⟩
section
variable {NB m:Nat} {f2 f3 f4:Fm} {d:List En} {e e0:En}
theorem Sl1.not (h:Sl1 NB m f2 f3 d) (hu:Uq f2.no) (he:e∈f2.no) (hd:e∉d):Uq (d++[e])/\aI d e.t.p=none/\∃kP,(d++e::kP).Perm f2.no/\Fi NB (m+d.length) [] f3.g (f3.se++e::kP):=by
 obtain⟨rest,h1,h2⟩:=h.fi;have hm:e∈rest:=by
  grind
 obtain⟨l1,l2,rfl⟩:=List.append_of_mem hm;have hp:(l1++e::l2).Perm (e::(l1++l2)):=List.perm_middle;have h3:(d++e::(l1++l2)).Perm f2.no:=(hp.symm.append_left d).trans h1;have YW:Uq (d++[e]):=by
  have:Uq ((d++[e])++(l1++l2)):=by rw[cQ];exact xk h3.symm hu
  exact Tf this
 exact⟨YW,rP (wW (l2:=[]) YW).1,l1++l2,h3,h2.perm (hp.append_left f3.se)⟩
theorem Sl1.fin (h:Sl1 NB m f2 f3 d) (hu:Uq f2.no) (hus:Uq f3.se) (he:e∈f2.no) (hd:e∉d) (jg:∀kP,(d++e::kP).Perm f2.no->Fi NB (m+d.length) [] f3.g (f3.se++e::kP)->Fi NB (m+d.length+1) [] f4.g (dA f3.se e++kP)) (vk:Drp NB f2.g f4.g)
  (vC:f4.se=dA f3.se e) (hgo:f4.go=kQ f3.go e.t.p) (heq:f4={f3 with g:=f4.g,se:=f4.se,go:=f4.go}) (hC:f4.g.C=f3.g.C) (hM:f4.g.M=f3.g.M) (UZ:f4.g.ML=f3.g.ML) (hGh:f4.g.gh=f3.g.gh):Sl1 NB m f2 f4 (d++[e]):=by
 obtain⟨YW,hn,kP,h1,h2⟩:=h.not hu he hd;refine⟨⟨kP,by grind,?_⟩,λq=>?_,λq=>?_,λx hx=>?_,vk,?_,?_,hC.trans h.C,hM.trans h.M,UZ.trans h.ML,hGh.trans h.gh⟩
 .grind
 .rw[vC,lT hus,zU YW];by_cases hq:q=e.t.p
  .rw[ev hq,ev hq]
  .rw[eo hq,eo hq];exact h.se q
 .rw[hgo,qQ,zU YW];by_cases hq:q=e.t.p
  .grind
  .rw[eo hq,eo hq];exact h.go q
 .rw[hgo] at hx;exact h.gos x (List.mem_filter.1 hx).1
 .rw[heq]
  conv=>lhs;rw[h.eq]
 .have hlen:=h.len;have hdl:d.length+1<=f2.no.length:=by have:=h1.length_eq;grind
  have hsp:=h.se e.t.p;rw[hn] at hsp;have hsp:aI f3.se e.t.p=aI f2.se e.t.p:=hsp;rw[vC,WV,bE,List.length_singleton,hsp,zU YW];grind
theorem adD {se kP} (hus:Uq se) (Ff:e0∈se) (hp:e0.t.p=e.t.p):(e0::(dA se e++kP)).Perm (se++e::kP):=by have h1:=FX hus Ff hp;have h2:(e0::(dA se e++kP)).Perm (e::(se++kP)):=h1.append_right kP;exact h2.trans List.perm_middle.symm
structure Sl2 NB m (f3 f4:Fm) (d:List En):Prop where
 fi:Fi NB (m+d.length) [] f4.g f4.se
 se:∀q,aI f4.se q=if (aI d q).isSome then none else aI f3.se q
 fr:Drp NB f3.g f4.g
 eq:f4={f3 with g:=f4.g,se:=f4.se}
 C:f4.g.C=f3.g.C
 M:f4.g.M=f3.g.M
 ML:f4.g.ML=f3.g.ML
 gh:f4.g.gh=f3.g.gh
theorem avw {NB m f3} (h:Fi NB m [] f3.g f3.se):Sl2 NB m f3 f3 []:=⟨h,λ_=>rfl,Drp.refl _ _,rfl,rfl,rfl,rfl,rfl⟩
theorem adC {l} (hu:Uq l) (he:e∈l):(e::kQ l e.t.p).Perm l:=by obtain⟨l1,l2,rfl⟩:=List.append_of_mem he;rw[ab7 hu];exact List.perm_middle.symm
theorem Sl1.all (h:Sl1 NB m f2 f3 d) (hp:d.Perm f2.no):Fi NB (m+f2.no.length) [] f3.g f3.se:=by obtain⟨rest,h1,h2⟩:=h.fi;have hl:=hp.length_eq;have hr:rest=[]:=ek (by have:=h1.length_eq;grind);grind
theorem Sl1.gk (h:Sl1 NB m f2 f3 d) (hg:∀x∈f2.go,(aI f2.se x.t.p).isSome=true):∀x∈f3.go,(aI f3.se x.t.p).isSome=true:=λx hx=>by
 rw[h.se]
 cases hd:aI d x.t.p with
 |none=>exact hg x (h.gos x hx)
 |some e=>rfl
theorem Sl2.old (h:Sl2 NB m f3 f4 d) (hu:Uq f3.go) (hg:∀x∈f3.go,(aI f3.se x.t.p).isSome=true) (hr:∃rest,(d++rest).Perm f3.go) (he:e∈f3.go) (hd:e∉d):Uq (d++[e])/\∃e0,aI f4.se e.t.p=some e0:=by
 obtain⟨rest,h1⟩:=hr;have hm:e∈rest:=by
  grind
 obtain⟨l1,l2,rfl⟩:=List.append_of_mem hm;have hp:(l1++e::l2).Perm (e::(l1++l2)):=List.perm_middle;have h3:(d++e::(l1++l2)).Perm f3.go:=(hp.symm.append_left d).trans h1;have YW:Uq (d++[e]):=by
  have:Uq ((d++[e])++(l1++l2)):=by rw[cQ];exact xk h3.symm hu
  exact Tf this
 refine⟨YW,?_⟩;have hn:aI d e.t.p=none:=rP (wW (l2:=[]) YW).1;have h4:=h.se e.t.p;rw[hn] at h4;have h4:aI f4.se e.t.p=aI f3.se e.t.p:=h4;have h5:=hg e he;rw[<-h4] at h5
 cases hz:aI f4.se e.t.p with
 |none=>rw[hz] at h5;cases h5
 |some x=>exact⟨x,rfl⟩
theorem Sl2.fin {f5} (h:Sl2 NB m f3 f4 d) (hu:Uq (d++[e])) (jg:Fi NB (m+d.length+1) [] f5.g (kQ f4.se e.t.p)) (vk:Drp NB f3.g f5.g)
  (vC:f5.se=kQ f4.se e.t.p) (heq:f5={f4 with g:=f5.g,se:=f5.se}) (hC:f5.g.C=f4.g.C) (hM:f5.g.M=f4.g.M) (UZ:f5.g.ML=f4.g.ML) (hGh:f5.g.gh=f4.g.gh):Sl2 NB m f3 f5 (d++[e]):=by
 refine⟨?_,λq=>?_,vk,?_,hC.trans h.C,hM.trans h.M,UZ.trans h.ML,hGh.trans h.gh⟩
 .grind
 .rw[vC,qQ,zU hu];by_cases hq:q=e.t.p
  .grind
  .rw[eo hq,eo hq];exact h.se q
 .rw[heq]
  conv=>lhs;rw[h.eq]
end
end dY
end
section
open RowKit dY
def vW (f:Fm):Tg:=⟨2,0,f.seq,f.ep⟩
def ig (tx:List UInt8):=[2,0,0,0,0,0,0,0]++tx
structure Sld NB (f f':Fm) tl:Prop where
 fc:Fc NB f'
 F:f'.F=f.F
 C:f'.g.C=f.g.C
 gh:f'.g.gh=f.g.gh
 no:f'.no=[]
 go:f'.go=[]
 sq:f'.seq=f.seq+1
 ep:f'.ep=f.ep+1
 tx:f'.tx=tl
 se:∀q,(aI f'.se q).map sk=if q=0 then some (vW f,ig tl) else match (aI f.no q).map sk with
  |some x=>some x
  |none=>if (aI f.go q).isSome then none else(aI f.se q).map sk
 zt:∀z,Zi NB z f.g (f.se++f.no) f.seq->Zi NB z f'.g (f'.se++f'.no) f'.seq
namespace dY
theorem vV {α:Type}:∀{l l':List α},l.Nodup->(∀x∈l,x∈l')->l.length<=l'.length
 |[],_,_,_=>bN _
 |x::t,l',hn,hs=>by
  obtain⟨l1,l2,rfl⟩:=List.append_of_mem (hs x au);rw[cR] at hn;have:=vV (l:=t) (l':=l1++l2) hn.2 λy hy=>by
   grind
  grind
theorem dK {l p}:(aI l p).isSome=true↔p∈l.map λe=>e.t.p:=by
 constructor
 .intro h
  cases hz:aI l p with
  |none=>rw[hz] at h;cases h
  |some x=>obtain⟨h2,h3⟩:=dW hz;grind
 .intro h;obtain⟨e,he,rfl⟩:=bw.1 h
  cases hz:aI l e.t.p with
  |none=>exact absurd rfl (kJ hz e he)
  |some x=>rfl
theorem Z9 {l l'} (hu:Uq l) (h:∀q,(aI l q).isSome=true->(aI l' q).isSome=true):l.length<=l'.length:=by have:=vV (l:=l.map λe:En=>e.t.p) (l':=l'.map λe:En=>e.t.p) hu λp hp=>dK.1 (h p (dK.2 hp));grind
theorem sld {NB m k i f f1 f2 f3 f4 f' g' d d2 tx bs} (h:Fc NB f) (hs:Same f f1)
  (qZ:f2=({f1 with g:=g',seq:=f.seq+1,no:=dA f1.no ⟨vW f,ig tx,k,i⟩})) (hm:m=100000*f.seq+1000)
  (h1:Sl1 NB m f2 f3 d) (hp:d.Perm f2.no) (h2:Sl2 NB (m+f2.no.length) f3 f4 d2) (jU:d2.Perm f3.go)
  (ZT:Uq f1.no) (YW:Uq f2.no) (hu3:Uq f3.go) (hu4:Uq f4.se) (pK:NB<=1000) (hq3:3<=qn g') (hP:Qn NB f1.g g' k i bs) (hZ:∀z,Zi NB z f.g (f.se++f.no) f.seq->Zi NB z f1.g (f1.se++f1.no) f.seq) (hC:g'.C=f.g.C) (hGh:g'.gh=f.g.gh)
  (hcp:(aI f.se 0).isSome=true\/(f.se++f.no).length+3<=8*(NB-3))
  (a1:f'.F=f.F) (a2:f'.g=f4.g) (a3:f'.se=f4.se) (a4:f'.no=[]) (a5:f'.go=[]) (a6:f'.seq=f.seq+1) (a7:f'.ep=f.ep+1) (a8:f'.tx=tx) (a9:f'.ov=f.ov):Sld NB f f' tx:=by
 have hn:∀q,aI d q=aI f2.no q:=zS hp (xk hp.symm YW);have hno:∀q,aI f2.no q=if q=0 then some ⟨vW f,ig tx,k,i⟩ else aI f1.no q:=λq=>by rw[qZ];exact lT ZT q
 have aqs:f2.se=f1.se:=by rw[qZ]
 have aCf:f2.go=f1.go:=by rw[qZ]
 have hgo:∀q,(aI f2.go q).isSome=(aI f.go q).isSome:=λq=>by rw[Bool.eq_iff_iff,dK,dK,aCf,hs.go]
 have vC:∀q,(aI f2.se q).map sk=(aI f.se q).map sk:=λq=>by rw[aqs];exact D5 hs.se q
 have ak6:∀q,(aI f1.no q).map sk=(aI f.no q).map sk:=λq=>D5 hs.no q;have hd2:∀q,aI d2 q=aI f3.go q:=zS jU (xk jU.symm hu3);have avS:f2.no.length=f1.no.length+1:=by
  have h0:aI f1.no 0=none:=by
   have:=jL hs.no 0;rw[h.n0] at this
   cases hz:aI f1.no 0 with
   |none=>rfl
   |some x=>grind
  rw[qZ];show(dA f1.no _).length=_;rw[o7 λx hx=>kJ h0 x hx];simp
 have aJJ:f4.se.length<=f3.se.length:=Z9 hu4 λq hq=>by
  rw[h2.se] at hq;grind
 have YU:f3.go.length<=f3.se.length:=Z9 hu3 λq hq=>by
  rw[h1.go] at hq;split at hq
  .cases hq
  .rename_i hz;rw[hgo] at hq;obtain⟨x,hx,e⟩:=bw.1 (dK.1 hq);have h5:=h.gk x hx;rw[e,<-jL hs.se,<-aqs] at h5;rw[h1.se]
   grind
 have ak7:=h1.len;rw[hp.length_eq,hn,hno,ev rfl,avS,Nat.sub_self,aqs,jL hs.se] at ak7;have hlE:=hs.aCg;rw[bE] at hlE;have pR:=h.cap;have aJL:=jU.length_eq;have tu:∀z,Zi NB z f.g (f.se++f.no) f.seq->Zi NB z f2.g (f2.se++f2.no) (f.seq+1):=λz hz=>by rw[qZ];exact Zi.put hP (hZ z hz) rfl rfl
 have hz4:∀z,Zi NB z f.g (f.se++f.no) f.seq->Zi NB z f4.g (f4.se++[]) (f.seq+1):=λz hz=>(h2.fr.2 z _ _ (h1.fr.2 z _ _ (tu z hz))).sub λe he=>by
  rw[cC] at he;have e1:=zT hu4 he;rw[h2.se] at e1;split at e1
  .cases e1
  .rw[h1.se] at e1
   cases hz:aI d e.t.p with
   |some y=>
    rw[hz] at e1;injection e1 with e1
    subst e1;exact List.mem_append_right _ (hp.mem_iff.1 (dW hz).1)
   |none=>
    rw[hz] at e1;exact List.mem_append_left _ (dW e1).1
 have apI:3<=qn f4.g:=by have k1:=h1.fr.1;have k2:=h2.fr.1;grind
 refine⟨⟨?_,?_,?_,a9.trans h.ov,?_,?_,?_,?_,by rw[a2,a3,a4,a6];exact hz4 _ h.zi⟩,a1,?_,?_,a4,a5,a6,a7,a8,λq=>?_,by grind⟩
 .rw[a2,a3,a4,a6,cC];refine h2.fi.le ?_;split at ak7<;>omega
 .rw[a2];exact apI
 .grind
 .rw[a6,a7];have:=h.sq;omega
 .rw[a5];intro x hx;cases hx
 .rw[a4];rfl
 .rw[a5];rfl
 .rw[a2,h2.C,h1.C,qZ];exact hC
 .rw[a2,h2.gh,h1.gh,qZ];exact hGh
 .rw[a3,h2.se,hd2,h1.go,hn,hno,h1.se,hn,hno];by_cases hq:q=0
  .rw[ev hq,ev hq];rfl
  .rw[eo hq,eo hq];have h6:=ak6 q;rw[<-h6]
   cases hz:aI f1.no q with
   |some x=>rfl
   |none=>
    show Option.map sk (if (aI f2.go q).isSome=true then none else aI f2.se q)=if (aI f.go q).isSome=true then none else(aI f.se q).map sk
    rw[hgo]
    split
    .rfl
    .exact vC q
end dY
end
section
open RowKit Maps ChangeMaps
section
variable {NB B:Nat} {R:Nat->Prop} {w w1 w2:World} {f f':Fm}
theorem cu.swap (h:cu NB B R w f) (hb:Below w w w1) (hk:Kq (λq=>q=f.F) w1 w2)
  (hF:aF w2 f.F 225 (Qp NB f')) (h1:f'.F=f.F) (h2:f'.SE=f.SE) (h5:f'.LA=f.LA) (h6:f'.g=f.g) (h7:f'.se=f.se)
  (hN:(f'.NO=f.NO/\f'.no=f.no)\/(w<=f'.NO/\dH w1 f'.NO f'.no))
  (hG:(f'.GO=f.GO/\f'.go=f.go)\/(w<=f'.GO/\dH w1 f'.GO f'.go))
  (hT:(f'.tv=f.tv/\f'.tx=f.tx)\/Own aJ 5 w1 w f'.tv f'.tx)
  (di:f'.NO≠f'.GO) (hnt:∀q,f'.tv.ownBlock=some q->q≠f'.NO/\q≠f'.GO):oq NB B R w w2 f':=by
 have hB:=h.base;obtain⟨S,a1,a2,a3⟩:=h;have jA:=hb.size;have mQ:=hk.size;have hkw:Kq (λq=>q=f.F) w w2:=(Kq.of hb).trans hk;have nd:=a1.nd;simp only[cR,bS,cY,or_false,not_or] at nd;obtain⟨⟨n1,n2,n3,n4⟩,⟨n5,n6,n7⟩,⟨n8,n9⟩,n10,_⟩:=nd;have aT:∀q,Hb f q->q<w.heap.size:=λq hq=>a1.hi hq;have lF:=aT f.F (.inl rfl);have lS:=aT f.SE (.inr (.inl rfl));have lN:=aT f.NO (.inr (.inr (.inl rfl)));have lG:=aT f.GO (.inr (.inr (.inr (.inl rfl))));have lL:=aT f.LA (.inr (.inr (.inr (.inr (.inl rfl)))));have hold:∀q,q<w.heap.size->q≠f.F->w2.heap[q]?=w.heap[q]?:=λq hq e=>hkw.block q hq e;have hNF:f'.NO≠f.F/\f'.NO≠f.SE/\f'.NO≠f.LA:=by
  grind
 have hGF:f'.GO≠f.F/\f'.GO≠f.SE/\f'.GO≠f.LA:=by
  grind
 have hTF:∀q,f'.tv.ownBlock=some q->(f.tv.ownBlock=some q\/w.heap.size<=q)/\q≠f.F/\q≠f.SE/\q≠f.LA:=λq hq=>by
  rcases hT with⟨e,_⟩|e
  .rw[e] at hq;have:=a1.nt q hq;grind
  .have:=(e.aN q hq).1;exact⟨.inr this,ae⟩
 have hH:∀q,Hb f' q->Hb f q\/w.heap.size<=q:=λq hq=>by
  rcases hq with rfl|rfl|rfl|rfl|rfl|hq
  .exact .inl (.inl h1)
  .exact .inl (.inr (.inl h2))
  .rcases hN with⟨e,_⟩|⟨e,_⟩
   .exact .inl (.inr (.inr (.inl e)))
   .exact .inr e
  .rcases hG with⟨e,_⟩|⟨e,_⟩
   .exact .inl (.inr (.inr (.inr (.inl e))))
   .exact .inr e
  .exact .inl (.inr (.inr (.inr (.inr (.inl h5)))))
  .rcases(hTF q hq).1 with e|e
   .exact .inl (.inr (.inr (.inr (.inr (.inr e)))))
   .exact .inr e
 have hc:FtC NB B S w2 f':=by
  refine⟨by rw[h1];exact hF,?_,?_,?_,?_,?_,?_,?_,?_,?_,?_⟩
  .rw[h2,h7];exact a1.hS.same (hold _ lS (Ne.symm n1))
  .rcases hN with⟨e,e'⟩|⟨_,e⟩
   .rw[e,e'];exact a1.hN.same (hold _ lN (Ne.symm n2))
   .exact e.same (hk.block _ e.lt hNF.1)
  .rcases hG with⟨e,e'⟩|⟨_,e⟩
   .rw[e,e'];exact a1.hG.same (hold _ lG (Ne.symm n3))
   .exact e.same (hk.block _ e.lt hGF.1)
  .rw[h5];exact a1.hL.kq hkw λq hq=>by obtain rfl:=dP _ _ _ _ hq;exact Ne.symm n4
  .rcases hT with⟨e,e'⟩|e
   .rw[e,e'];exact a1.hT.kq hkw λq hq e2=>a1.nt q hq (by rw[e2];simp)
   .exact .of (e.kq hk λq hq=>(hTF q hq).2.1)
  .rw[h6];exact a1.hg.kq hkw λq hq e=>a1.ns _ (.inl rfl) (e▸hq)
  .rw[h1,h2,h5];simp only[cR,bS,cY,or_false,not_or];exact⟨⟨n1,Ne.symm hNF.1,Ne.symm hGF.1,n4⟩,⟨Ne.symm hNF.2.1,Ne.symm hGF.2.1,n7⟩,⟨di,hNF.2.2⟩,hGF.2.2,au,List.nodup_nil⟩
  .intro q hq;rw[h1,h2,h5];simp only[bS,cY,or_false,not_or];exact⟨(hTF q hq).2.1,(hTF q hq).2.2.1,(hnt q hq).1,(hnt q hq).2,(hTF q hq).2.2.2⟩
  .intro q hq hs;rw[h6] at hs;rcases hH q hq with e|e
   .exact a1.ns q e hs
   .have:=a1.avW hs;omega
  .intro q hq;rcases hH q hq with e|e
   .exact a1.lo q e
   .omega
 refine⟨⟨S,hc,λq hq=>?_,λq hq=>?_⟩,hkw.mono λq e=>e▸a2 _ (.inl (.inl rfl))⟩
 .rcases hq with hq|hq
  .rcases hH q hq with e|e
   .exact .inl (a2 q (.inl e))
   .exact .inr ⟨e,hc.hi hq⟩
  .rw[h6] at hq;exact .inl (a2 q (.inr hq))
 .rcases hq with e|e
  .have:=a3 q e;omega
  .omega
end
end
section
open RowKit dY
theorem JJ u:(Instr.makeSlice 223 (O aa 16) (O aa 16)).run prog u= .ok (an (u,0) 16 16) (u.alloc (.cells ((bt 16 false).map pW).toArray 4)):=by
 kernel_rfl
theorem agp u:(Instr.makeSlice 116 (O aa 16) (O aa 16)).run prog u= .ok (an (u,0) 16 16) (u.alloc (.cells ((bt 16 0).map naV).toArray 3)):=by
 kernel_rfl
def yJ k:=bt k true++bt (16-k) false
theorem agk {k} (h:k<16):(yJ k).set k true=yJ (k+1):=by unfold yJ;rw[List.set_append_right _ _ au,dx,Nat.sub_self,show 16-k=(16-(k+1))+1 by omega,List.replicate_succ,List.set_cons_zero,List.replicate_succ',cQ];rfl
theorem DF {k} (h:k<=16):(yJ k).length=16:=by unfold yJ;simp;omega
def once (k:Nat) j:=if j<k then fresh 1 else fresh 0
theorem agl k:upd (once k) k (fresh 1)=once (k+1):=by grind[upd,once]
theorem adp:once 0=λ_=>fresh 0:=by
 funext j
 exact eo (Nat.not_lt_zero _)
theorem JK k:(once k k).bad=false/\(once k k).aC=0:=by unfold once;rw[eo (Nat.lt_irrefl _)];exact⟨rfl,rfl⟩
theorem DI k j:(once k j).bad=false:=by
 unfold once
 split<;>rfl
theorem FO k j:(once k j).aC<=1:=by
 unfold once
 split
 .exact bp 1
 .exact bN 1
theorem aab:bW (once 16) (yJ 16) (bt 16 0) 16=bt 16 ⟨0,0,1,0⟩:=by
 apply List.ext_getElem
 .simp[bW]
 .intro i h1 h2;have hi:i<16:=by grind
  simp only[bW,List.getElem_map,List.getElem_range,List.getElem_replicate];unfold yQ once yJ;rw[ev hi];have e:(bt 16 true++bt (16-16) false).getD i false=true:=by grind
  rw[e];rfl
def ZL (M ML C BL cap:Nat) (ps:Nat->Nat) (P:List UInt8->Prop):Mg:=⟨M,ML,C,BL,cap,ps,once 16,bt 16 ⟨0,0,1,0⟩,-1,2,0,false,P⟩
theorem apT {M ML C BL cap ps P}:(⟨M,ML,C,BL,cap,ps,once 16,bW (once 16) (yJ 16) (bt 16 0) 16,-1,2,0,decide (4<(Gc.greatest (bW (once 16) (yJ 16) (bt 16 0) 16):Int)-Gc.least (bW (once 16) (yJ 16) (bt 16 0) 16)),P⟩)=ZL M ML C BL cap ps P:=by rw[aab];rfl
theorem ak8 M ML C BL cap ps P:dm.Inv 16 (ZL M ML C BL cap ps P) [] 100000:=by
 have uQ:∀k,k<16->Gc.at_ (bt 16 (⟨0,0,1,0⟩:Bk)) k=⟨0,0,1,0⟩:=λk hk=>by rw[Gc.at_,db,List.getElem?_replicate,ev hk];rfl
 refine⟨by simp[ZL],λk hk=>?_,λi j hi hj _ _=>?_,.inl rfl,rfl,au,au⟩
 .unfold ZL;dsimp only;rw[uQ k hk];unfold once;rw[ev hk];exact⟨aB,rfl,aB,aB,λe=>(by cases e),λ_=>⟨rfl,rfl⟩,λe=>(by cases e),λe=>(by cases e),rfl,aB,λ_=>rfl,λ_=>rfl,λe=>(by cases e)⟩
 .unfold ZL;grind
def fm0 (F SE NO GO LA:Nat) (g:Mg):Fm:=⟨F,SE,NO,GO,LA,g,[],[],[],1,1,an none 0 0,[],false⟩
theorem dY.Zi.up {NB s z y g E} (h:Zi NB z g E s) (hz:z<=y):Zi NB y g E s:=⟨h.ex,h.lt,h.we,by have:=h.cs;omega⟩
theorem agJ F SE NO GO LA M ML C BL cap ps P:Zi 16 0 (fm0 F SE NO GO LA (ZL M ML C BL cap ps P)).g [] 1:=by
 have uQ:∀k,k<16->Gc.at_ (bt 16 (⟨0,0,1,0⟩:Bk)) k=⟨0,0,1,0⟩:=λk hk=>by rw[Gc.at_,db,List.getElem?_replicate,ev hk];rfl
 refine⟨⟨λ_=>0,λq hq h=>?_,λe h=>(by cases h),λq r hq hr _ h=>?_⟩,λe h=>(by cases h),λq hq _=>?_,?_⟩
 .have h:(Gc.at_ (bt 16 (⟨0,0,1,0⟩:Bk)) q).st=2:=h;grind
 .have h:(Gc.at_ (bt 16 (⟨0,0,1,0⟩:Bk)) q).st=2:=h;grind
 .show 1<=(Gc.at_ (bt 16 (⟨0,0,1,0⟩:Bk)) q).aC;grind
 .have h1:costs 16 (fm0 F SE NO GO LA (ZL M ML C BL cap ps P)).g=0:=by show dm.iK (λq=>cost (Gc.at_ (bt 16 (⟨0,0,1,0⟩:Bk)) q)) 16=0;refine(dm.xu (d:=λ_=>0) λq hq=>?_).trans ((BP 0 16).trans (Nat.mul_zero _));rw[uQ q hq];rfl
  rw[h1];exact bN 1
theorem apU F SE NO GO LA M ML C BL cap ps P:Fc 16 (fm0 F SE NO GO LA (ZL M ML C BL cap ps P)):=by
 refine⟨⟨⟨aB,aB⟩,ak8 M ML C BL cap ps P,λe h=>(by cases h),λe h=>(by cases h),rfl,rfl,λk i L hk hi h=>?_,λk hk _ i hi=>?_,?_,?_,λh=>?_,λ_=>?_⟩,?_,(show(0:Nat)+2<=8*(16-3) by decide),rfl,⟨bp _,bp _⟩,λx h=>(by cases h),rfl,rfl,(agJ F SE NO GO LA M ML C BL cap ps P).up aB⟩
 .have h1:(once 16 k).qB i=some L:=h;rw[once,ev hk] at h1;cases h1
 .show(once 16 k).qB i=none↔(once 16 k).nx<=i;rw[once,ev hk];exact⟨λ_=>bN _,λ_=>rfl⟩
 .show Gc.count 4 (bt 16 (⟨0,0,1,0⟩:Bk))+(once 16 16).nx<=2;rw[once,eo aB];decide
 .show(once 16 16).aC<=100000*1;exact bB (FO _ _) aB
 .have h:(once 16 16).bad=true:=h;rw[DI] at h;cases h
 .show Gc.count 4 (bt 16 (⟨0,0,1,0⟩:Bk))=0;decide
 .show 3<=Gc.count 0 (bt 16 (⟨0,0,1,0⟩:Bk))+Gc.count 4 (bt 16 (⟨0,0,1,0⟩:Bk));decide
structure Fmd f tx:Prop where
 fc:Fc 16 f
 no:f.no=[]
 go:f.go=[]
 sq:f.seq=2
 ep:f.ep=2
 tv:f.tx=tx
 se:∀q,(aI f.se q).map sk=if q=0 then some ((⟨2,0,1,1⟩),ig tx) else none
 z0:Zi 16 0 f.g (f.se++f.no) f.seq
def gsF (f:Fm) P:={f with g:={f.g with gh:=P}}
theorem dY.Fc.ghost {NB f P} (h:Fc NB f) (hP:∀L,f.g.gh L->P L):Fc NB (gsF f P):=⟨h.fi.ghost hP,h.fr,h.cap,h.ov,h.sq,h.gk,h.n0,h.g0,h.zi.row rfl rfl⟩
theorem Fmd.ghost {f tx P} (h:Fmd f tx) (hP:∀L,f.g.gh L->P L):Fmd (gsF f P) tx:=⟨h.fc.ghost hP,h.no,h.go,h.sq,h.ep,h.tv,h.se,h.z0.row rfl rfl⟩
theorem fmd {F SE NO GO LA M ML C BL cap ps P f' tx} (h:Sld 16 (fm0 F SE NO GO LA (ZL M ML C BL cap ps P)) f' tx):Fmd f' tx/\f'.F=F/\f'.g.C=C/\f'.g.gh=P:=by refine⟨⟨h.fc,h.no,h.go,h.sq,h.ep,h.tx,λq=>?_,h.zt 0 (agJ F SE NO GO LA M ML C BL cap ps P)⟩,h.F,h.C,h.gh⟩;rw[h.se];rfl
section
variable {NB B:Nat} {S T:Nat->Prop} {w:World} {f:Fm}
theorem akM (hF:aF w f.F 225 (Qp NB f)) (hS:dH w f.SE f.se) (hN:dH w f.NO f.no) (hG:dH w f.GO f.go) (hL:Own pW 4 w 0 (an (f.LA,0) NB NB) (bt NB false)) (hv:f.tv=an none 0 0) (hx:f.tx=[]) (hg:fF NB B S w f.g)
  (nd:[f.F,f.SE,f.NO,f.GO,f.LA].Nodup) (ns:∀q,q∈[f.F,f.SE,f.NO,f.GO,f.LA]->¬Sm f.g S q/\B<=q/\T q) (hT:∀q,Sm f.g S q->T q) (hb:∀q,T q->B<=q/\q<w):cu NB B T w f:=by
 have hq:∀q,Hb f q->q∈[f.F,f.SE,f.NO,f.GO,f.LA]:=λq hq=>by
  rcases hq with e|e|e|e|e|e
  .rw[e];simp
  .rw[e];simp
  .rw[e];simp
  .rw[e];simp
  .rw[e];simp
  .rw[hv] at e;cases e
 refine⟨S,⟨hF,hS,hN,hG,hL,?_,hg,nd,λq e=>?_,λq h=>(ns q (hq q h)).1,λq h=>(ns q (hq q h)).2.1⟩,λq h=>?_,hb⟩
 .rw[hv,hx];exact .of (B:=0) (Own.nil _ _)
 .rw[hv] at e;cases e
 grind
end
end
section
open RowKit dY ChangeMaps Maps
section
variable {NB B n:Nat} {R:Nat->Prop} {w:World} {f:Fm}
theorem jH.put {w b r c l d l'} (h:jH w b r l d) (hm:dH w c l') (h1:c≠b) (h2:c≠r) o:jH (setBlock w c o) b r l d/\(setBlock w c o).rangeLeft b r=w.rangeLeft b r:=by have hg:=iI hm o;have q1:=hg.block b h.ltb λe=>h1 (Option.some.inj e).symm;have q2:=hg.block r h.ltr λe=>h2 (Option.some.inj e).symm;exact⟨h.same q1 q2,oG q1 q2⟩
theorem cu.hiT (h:cu NB B R w f) {q} (hq:f.tv.ownBlock=some q):q<w:=by obtain⟨S,a1,_⟩:=h;exact a1.hi (.inr (.inr (.inr (.inr (.inr hq)))))
theorem jH.kq {T w w' b r l d} (h:jH w b r l d) (hk:Kq T w w') (h1:¬T b) (h2:¬T r):jH w' b r l d/\w'.rangeLeft b r=w.rangeLeft b r:=by grind[Kq.block,jH.ltb,jH.ltr,jH.same,oG]
def akZ NB B R w f tx W Z:=
 ∃k i f1 g' R2,Pr NB B R w R2 W {f1 with g:=g',seq:=f.seq+1}/\Same f f1/\Qn NB f1.g g' k i (Tg.page (vW f) (ig tx))/\Fi NB (100000*f.seq+1000) [k] g' (f1.se++f1.no)/\(3<=qn g'/\∀z s,Zi NB z f.g (f.se++f.no) s->Zi NB z f1.g (f1.se++f1.no) s)/\aF W Z 247 #[O aa k,O aa i]/\¬R2 Z/\w<=Z
def SL NB B R w R2 m r f2 W:=∃d f3,jH W f2.NO r f2.no d/\Pr NB B R w R2 W f3/\Sl1 NB m f2 f3 d
def SM NB B R w R2 m r f3 W:=∃d f4,jH W f3.GO r f3.go d/\Pr NB B R w R2 W f4/\Sl2 NB m f3 f4 d
theorem He (hgc:Gcs NB f.g) (h:cu NB B R w f) (hc:Fc NB f) (ER:f.seq<=1000000) a c tx (NL:f.g.gh (Tg.page (vW f) (ig tx))) (hx:Bytes w w a 56 tx) (AL:∀b o,a=some ⟨b,o,none⟩->¬R b) (hcp:(aI f.se 0).isSome=true\/(f.se++f.no).length+3<=8*(NB-3)):
  Calls prog 148 #[f.F,an a 56 c] w λe w'=>e=ar (O aa 0)/\∃f',oq NB B R w w' f'/\Sld NB f f' tx:=by
 have HGc:=ag hgc;clear hgc;have gX:=h.base;have pK:=hc.fi.nb;obtain⟨HRy,Js,HH,HC,HX⟩:=ct (DW h) (Hf h) h hc hx;obtain⟨Kt,SY,HCp,HAb⟩:=cr AL ER hcp (show∀b o,a=some ⟨b,o,none⟩->b<w.heap.size from λb o e=>by obtain⟨b',o',e',aT,_⟩:=hx.2.2 ae;rw[e] at e';injection e' with e';injection e' with e';omega);have gm:=fU;have HGh:=ag NL;clear NL h hc hx AL ER hcp
 go_in
 go_wp2_with fail;refine(HRy.o).cj ?_;go_wp2_with fail;go_call Js.o as e w1 ⟨rfl,bP⟩;obtain⟨H1,bV⟩:=cn (HH.o.on bP) bP;clear bP;go_wp2_with fail;go_call(pY H1.o HC.o.fi HC.o.ov) as e w2 ⟨rfl,aZ⟩;obtain⟨df,H2⟩:=cn (bV.o.aA aZ) (H1.o.on aZ);clear aZ;go_upto_region 8 with fail;obtain⟨hLt,aBY,agn⟩:=cp pK HC.o.fi.res HC.o.fi.bad
 go_cut [6,7] (λv6 v7 wx=>v7=O aa 0/\∃Z,v6= .pointer (some ⟨Z,0,none⟩)/\Hid (akZ NB B R w f tx wx Z))
 case first=>
  obtain⟨pO,HPt⟩:=cn (λ(W:World) (hW:Below w w W)=>ZY a c tx W (HX.o.on hW)) (λ(W:World) (hW:Below w w W) (a4:Option Addr) (c4:Nat) (h4:Bytes W W a4 64 (ig tx)) (h5:∀b o,a4=some ⟨b,o,none⟩->¬R b)=>show Calls prog 207 #[f.F,.agg #[O aa 2,O .u32 0,O .u64 0,O .u64 0],an a4 64 c4] W (Ptd NB B R (100000*f.seq) f (vW f) (ig tx) W) from
   Lt HGc.o (HH.o.on hW) HC.o.fi (by have:=SY.o;omega) 2 0 (.inr rfl) ae ⟨by have:=HC.o.sq;omega,by have:=SY.o;omega⟩ ⟨by have:=HC.o.sq;omega,by have:=HC.o.sq;have:=SY.o;omega⟩ a4 c4 (ig tx) HGh.o h4 h5)
  have aY:w2.drew.cell? (f.F,2)=some (O aa 2)/\w2.drew.cell? (f.F,3)=some (O aa 0):=by have h1:=(H2.o.on (ak w2)).c2;have h2:=(H2.o.on (ak w2)).c3;rw[aBY.o] at h1;rw[agn.o] at h2;exact⟨h1,h2⟩
  obtain⟨gZ,HSb,cO⟩:=cp aY (λ(W W':World) (hW:Below W W W') (h1:W.cell? (aw f.F 2)=some (O aa 2)/\W.cell? (aw f.F 3)=some (O aa 0))=>(⟨bu h1.1 hW,bu h1.2 hW⟩:W'.cell? (aw f.F 2)=some (O aa 2)/\W'.cell? (aw f.F 3)=some (O aa 0))) (df.o.aA (ak w2));clear aY;refine iE (λW'=>W'.cell? (aw f.F 2)=some (O aa 2)/\W'.cell? (aw f.F 3)=some (O aa 0)) gZ.o (λaY=>?_);generalize w2.drew=W at*;clear gZ;refine dw 0 f.F 0 ?_;refine eX 1 (.agg #[O aa 2,O .u32 0,O .u64 0,O .u64 0]) ?_;refine dw 2 f.F 0 ?_;refine aS 3 f.F 0 ?_;refine aS 4 f.F 2 ?_;refine jE 5 (O aa 2) rfl (λ_ aK=>by obtain⟨y8,y9⟩:=aK;go_simp) ?_;refine dw 6 f.F 0 ?_;refine aS 7 f.F 0 ?_;refine aS 8 f.F 3 ?_;refine jE 9 (O aa 0) rfl (λ_ aK=>by obtain⟨y8,y9⟩:=aK;go_simp) ?_;refine dG 10 (an a 56 c) ?_;refine wpAnyH_ready (rs:=[11,16]) az au ?_;refine bX rfl (λK' hK=>?_) (bX rfl (λK' hK=>?_) cN)
  .go_simp;go_call(pO.o W cO.o) as e W4 ⟨⟨a4,c4,rfl,FU⟩,eG⟩;have dh:=HSb.o W W4 eG aY;have hB4:=cO.o.aA eG;refine hK.out _ _ dh (λfE=>?_)
   refine wpAnyH_ready (rs:=[12,16]) az au ?_;refine bX rfl (λK' hK=>?_) (bX rfl (λK' hK=>?_) cN)
   .go_simp;go_call(HPt.o W4 hB4 _ _ (FU.arr (by rw[bE,HX.o.len];simp)) λb o e h1=>by have h2:=(HH.o.bnd b h1).2;have h3:=(FU.aN b (by rw[e];rfl)).1;have h4:=cO.o.size;omega) as e W6 ⟨k,i,f1,g',rfl,h6,iP,rU,jg,vk⟩;have qy:W6.cell? (f.F,2)=some (O aa 2)/\W6.cell? (f.F,3)=some (O aa 0):=by have q1:=h6.1.c2;have q2:=h6.1.c3;rw[show({f1 with g:=g',seq:=f.seq+1}:Fm).F=f.F from iP.F] at q1 q2;rw[show({f1 with g:=g',seq:=f.seq+1}:Fm).g.res=2 from jg.res] at q1;rw[show({f1 with g:=g',seq:=f.seq+1}:Fm).g.bad=0 from jg.bad] at q2;exact⟨q1,q2⟩
    refine hK.out _ _ qy (λqM=>?_)
    refine dG 13 (ao #[.agg #[O aa k,O aa i],O aa 0]) ?_;refine dG 14 (.agg #[O aa k,O aa i]) ?_;refine dI 15 0 ?_
    refine bY 16 (λK' hK=>?_);go_simp;have hS8:=HSb.o W6 _ ((aE _ _).alloc av (.cells #[O aa 0,O aa 0] 247)) qy;refine hK.out _ _ hS8 (λIA=>?_)
    refine bY 17 (λK' hK=>?_);go_simp;have DJ:=(aE W6 W6).alloc av (.cells #[O aa k,O aa i] 247);have DU:=HSb.o W6 _ DJ qy;have hOut:akZ NB B R w f tx (W6.alloc (.cells #[O aa k,O aa i] 247)) W6.heap.size:=by have hp:=((Pr.start HH.o).on hB4).step h6;exact⟨k,i,f1,g',_,hp.on DJ,iP,rU,jg,vk,aF.new W6 _ _,hp.ft.aV av,bB hB4.size h6.2.size⟩
    refine hK.out _ _ DU (λLD=>?_);refine dI 18 0 ?_;refine eH ?_;have oJ:=ag hOut;clear hOut;go_wp2_with fail;go_meet
    case rel=>exact⟨rfl,_,rfl,oJ.o⟩
   .go_simp;have hbz:=(aE W4 W4).alloc av (.cells #[O aa 0,O aa 0] 247);have nZ:=HSb.o W4 _ hbz dh;have hz:=aF.new W4 247 #[O aa 0,O aa 0];have hzn:=HH.o.aV (show w.heap.size<=W4.heap.size from hB4.size);have hB5:=hB4.aA hbz;have Y8:=FU.on hbz;refine hK.out _ _ nZ (λaBZ=>?_)
    refine bY 12 (λK' hK=>?_);go_simp;go_call(HPt.o _ hB5 _ _ (Y8.arr (by rw[bE,HX.o.len];simp)) λb o e h1=>by have h2:=(HH.o.bnd b h1).2;have h3:=(Y8.aN b (by rw[e];rfl)).1;have h4:=cO.o.size;omega) as e W6 ⟨k,i,f1,g',rfl,h6,iP,rU,jg,vk⟩;have qy:W6.cell? (f.F,2)=some (O aa 2)/\W6.cell? (f.F,3)=some (O aa 0):=by have q1:=h6.1.c2;have q2:=h6.1.c3;rw[show({f1 with g:=g',seq:=f.seq+1}:Fm).F=f.F from iP.F] at q1 q2;rw[show({f1 with g:=g',seq:=f.seq+1}:Fm).g.res=2 from jg.res] at q1;rw[show({f1 with g:=g',seq:=f.seq+1}:Fm).g.bad=0 from jg.bad] at q2;exact⟨q1,q2⟩
    refine hK.out _ _ qy (λqM=>?_)
    refine dG 13 (ao #[.agg #[O aa k,O aa i],O aa 0]) ?_;refine dG 14 (.agg #[O aa k,O aa i]) ?_;refine dI 15 0 ?_;have hzk:=h6.blk hz hzn;obtain⟨k0,k1,f0,f1',q0,q1⟩:=plZ hzk k i;refine bY 17 (λK' hK=>?_);go_simp;have hkz:Kq (λq=>q=W4.heap.size) W6 ((W6.setCell (W4.heap.size,0) (O aa k)).setCell (W4.heap.size,1) (O aa i)):=((Kq.refl (λq=>q=W4.heap.size) W6).setCell (p:=⟨W4.heap.size,0,none⟩) (.inl rfl) _).setCell (p:=⟨W4.heap.size,1,none⟩) (.inl rfl) _;have hFz:f.F≠W4.heap.size:=λe=>hzn (e▸HH.o.inF);have DU:((W6.setCell (W4.heap.size,0) (O aa k)).setCell (W4.heap.size,1) (O aa i)).cell? (f.F,2)=some (O aa 2)/\((W6.setCell (W4.heap.size,0) (O aa k)).setCell (W4.heap.size,1) (O aa i)).cell? (f.F,3)=some (O aa 0):=by have hb:=hkz.block f.F (by have:=h6.1.ltF;rw[show({f1 with g:=g',seq:=f.seq+1}:Fm).F=f.F from iP.F] at this;exact this) hFz;exact⟨(World.cell?_of_block (a:=⟨f.F,2,none⟩) hb).trans qy.1,(World.cell?_of_block (a:=⟨f.F,3,none⟩) hb).trans qy.2⟩
    have hOut:akZ NB B R w f tx ((W6.setCell (W4.heap.size,0) (O aa k)).setCell (W4.heap.size,1) (O aa i)) (W4.heap.size):=by have hp:=((Pr.start HH.o).on hB5).step h6;have agz:=h6.far hzn (aF.lt hz);exact⟨k,i,f1,g',_,hp.mine hkz λq hq=>by subst hq;exact⟨hB4.size,agz⟩,iP,rU,jg,vk,(hzk.set 0 (O aa k)).set 1 (O aa i),agz,hB4.size⟩
    refine hK.out _ _ DU (λLD=>?_);refine dI 18 0 ?_;refine eH ?_;have oJ:=ag hOut;clear hOut;go_wp2_with fail;go_meet
    case rel=>exact⟨rfl,_,rfl,oJ.o⟩
  .go_simp;have hbz:=(aE W W).alloc av (.cells #[O aa 0,O aa 0] 247);have nZ:=HSb.o W _ hbz aY;have qm:=aF.new W 247 #[O aa 0,O aa 0];have hzn:=HH.o.aV (show w.heap.size<=W.heap.size from cO.o.size);have hB5:=cO.o.aA hbz;refine hK.out _ _ nZ (λaBZ=>?_)
   refine bY 11 (λK' hK=>?_);go_simp;go_call(pO.o _ hB5) as e W4 ⟨⟨a4,c4,rfl,FU⟩,eG⟩;have dh:=HSb.o _ W4 eG nZ;have hB4:=hB5.aA eG;have hz:=qm.ah eG;refine hK.out _ _ dh (λfE=>?_)
   refine bY 12 (λK' hK=>?_);go_simp;go_call(HPt.o W4 hB4 _ _ (FU.arr (by rw[bE,HX.o.len];simp)) λb o e h1=>by have h2:=(HH.o.bnd b h1).2;have h3:=(FU.aN b (by rw[e];rfl)).1;have h4:=hB5.size;omega) as e W6 ⟨k,i,f1,g',rfl,h6,iP,rU,jg,vk⟩;have qy:W6.cell? (f.F,2)=some (O aa 2)/\W6.cell? (f.F,3)=some (O aa 0):=by have q1:=h6.1.c2;have q2:=h6.1.c3;rw[show({f1 with g:=g',seq:=f.seq+1}:Fm).F=f.F from iP.F] at q1 q2;rw[show({f1 with g:=g',seq:=f.seq+1}:Fm).g.res=2 from jg.res] at q1;rw[show({f1 with g:=g',seq:=f.seq+1}:Fm).g.bad=0 from jg.bad] at q2;exact⟨q1,q2⟩
   refine hK.out _ _ qy (λqM=>?_)
   refine dG 13 (ao #[.agg #[O aa k,O aa i],O aa 0]) ?_;refine dG 14 (.agg #[O aa k,O aa i]) ?_;refine dI 15 0 ?_;have hzk:=h6.blk hz hzn;obtain⟨k0,k1,f0,f1',q0,q1⟩:=plZ hzk k i;refine bY 17 (λK' hK=>?_);go_simp;have hkz:Kq (λq=>q=W.heap.size) W6 ((W6.setCell (W.heap.size,0) (O aa k)).setCell (W.heap.size,1) (O aa i)):=((Kq.refl (λq=>q=W.heap.size) W6).setCell (p:=⟨W.heap.size,0,none⟩) (.inl rfl) _).setCell (p:=⟨W.heap.size,1,none⟩) (.inl rfl) _;have hFz:f.F≠W.heap.size:=λe=>hzn (e▸HH.o.inF);have DU:((W6.setCell (W.heap.size,0) (O aa k)).setCell (W.heap.size,1) (O aa i)).cell? (f.F,2)=some (O aa 2)/\((W6.setCell (W.heap.size,0) (O aa k)).setCell (W.heap.size,1) (O aa i)).cell? (f.F,3)=some (O aa 0):=by have hb:=hkz.block f.F (by have:=h6.1.ltF;rw[show({f1 with g:=g',seq:=f.seq+1}:Fm).F=f.F from iP.F] at this;exact this) hFz;exact⟨(World.cell?_of_block (a:=⟨f.F,2,none⟩) hb).trans qy.1,(World.cell?_of_block (a:=⟨f.F,3,none⟩) hb).trans qy.2⟩
   have hOut:akZ NB B R w f tx ((W6.setCell (W.heap.size,0) (O aa k)).setCell (W.heap.size,1) (O aa i)) (W.heap.size):=by have hp:=((Pr.start HH.o).on hB4).step h6;have agz:=h6.far hzn (aF.lt hz);exact⟨k,i,f1,g',_,hp.mine hkz λq hq=>by subst hq;exact⟨cO.o.size,agz⟩,iP,rU,jg,vk,(hzk.set 0 (O aa k)).set 1 (O aa i),agz,cO.o.size⟩
   refine hK.out _ _ DU (λLD=>?_);refine dI 18 0 ?_;refine eH ?_;have oJ:=ag hOut;clear hOut;go_wp2_with fail;go_meet
   case rel=>exact⟨rfl,_,rfl,oJ.o⟩
 case rest=>
  obtain⟨rfl,Z,rfl,hOut⟩:=hcut;obtain⟨k,i,f1,g',R2,OV,iP,rU,jg,vk,hz,hzn,hzw⟩:=hOut.o;obtain⟨Ve,IG,P8,HFr,CS⟩:=ct iP rU jg vk hzn;obtain⟨HZw,aB2⟩:=cn hzw (show Uq f1.no from OV.ft.hN.uq);obtain⟨fa,hfa⟩:∃fa,fa=({f1 with g:=g',seq:=f.seq+1}:Fm):=⟨_,rfl⟩
  rw[<-hfa] at OV;have hFa:fa.F=f.F:=by rw[hfa];exact iP.F
  have WM:=OV.ft.on (ak wc);obtain⟨o3,bF,GK,mr⟩:=WM.ap9 ⟨vW f,ig tx,k,i⟩ (by show(0:Nat)<_;omega);have bF:(Instr.mapUpdate 222 (.map (some fa.NO)) (O .u32 0) (.agg #[O aa k,O aa i])).run prog wc.drew= .ok () (setBlock wc.drew fa.NO o3):=bF;have iZ:wc.drew.cell? (f.F,6)=some (.map (some fa.NO))/\wc.drew.cell? (Z,0)=some (O aa k)/\wc.drew.cell? (Z,1)=some (O aa i):=⟨by rw[<-hFa];exact WM.c6,hz.drew.aj (i:=0) rfl,hz.drew.aj (i:=1) rfl⟩
  have hz3:=hz.drew.kq mr hzn;have qX:(setBlock wc.drew fa.NO o3).cell? (f.F,6)=some (.map (some fa.NO))/\(setBlock wc.drew fa.NO o3).cell? (Z,0)=some (O aa k)/\(setBlock wc.drew fa.NO o3).cell? (Z,1)=some (O aa i):=⟨by rw[<-hFa];exact GK.c6,hz3.aj (i:=0) rfl,hz3.aj (i:=1) rfl⟩
  obtain⟨AX,HS4,Ag,HFa,aB3⟩:=ct iZ qX ((OV.on (ak wc)).same GK mr) hfa hFa;clear OV iP rU jg vk hz hzn hzw hOut WM GK mr iZ qX hz3 hfa hFa;go_upto_region 11 with fail;refine iE (λW'=>W'.cell? (aw f.F 6)=some (.map (some fa.NO))/\W'.cell? (aw Z 0)=some (O aa k)/\W'.cell? (aw Z 1)=some (O aa i)) AX.o (λaY=>?_);refine dw 0 f.F 0 ?_;refine dw 1 f.F 0 ?_;refine aS 2 f.F 6 ?_;refine jE 3 (.map (some fa.NO)) rfl (λ_ aK=>by obtain⟨y7,y8,y9⟩:=aK;go_simp) ?_;refine jE 4 (.agg #[O aa k,O aa i]) rfl (λ_ aK=>by obtain⟨y7,y8,y9⟩:=aK;go_simp) ?_;refine bY 5 (λK' hK=>?_);go_simp;refine hK.out _ _ HS4.o (λnZ=>?_);refine eH ?_;clear bF aY nZ AX HS4;obtain⟨W3,rF⟩:=aW (setBlock wc.drew fa.NO o3);rw[<-rF] at Ag⊢;clear rF;obtain⟨f2,qZ⟩:∃f2,f2=({fa with no:=dA fa.no ⟨vW f,ig tx,k,i⟩}:Fm):=⟨_,rfl⟩
  rw[<-qZ] at Ag;obtain⟨wM,aqi⟩:=cn qZ (show f2.F=f.F by rw[qZ];exact aB3.o);have Gx:aI f1.no 0=none:=by
   have:=jL Ve.o.no 0;rw[HC.o.n0] at this
   cases hg:aI f1.no 0 with
   |none=>rfl
   |some e=>rw[hg] at this;cases this
  have aqj:Fi NB (100000*f.seq+1000) [] f2.g (f2.se++f2.no):=by rw[qZ,HFa.o];refine P8.o.add IG.o.gp ⟨⟨.inr rfl,by show(0:Nat)<_;omega,by show 1<=f.seq;have:=HC.o.sq;omega,by show f.seq<_;have:=SY.o;omega,by show 1<=f.ep;have:=HC.o.sq;omega,by show f.ep<_;have:=HC.o.sq;have:=SY.o;omega⟩,by show(ig tx).length=64;unfold ig;rw[bE,HX.o.len];rfl⟩ ?_;show(f1.se++dA f1.no ⟨vW f,ig tx,k,i⟩).Perm (⟨vW f,ig tx,k,i⟩::(f1.se++f1.no));rw[o7 λx hx=>kJ Gx x hx,<-cQ];exact(List.perm_append_comm (l₁:=f1.se++f1.no))
  have HGk:=ag (show∀x∈f2.go,(aI f2.se x.t.p).isSome=true from λx hx=>by rw[qZ,HFa.o] at hx⊢;have hx:x∈f1.go:=hx;show(aI f1.se x.t.p).isSome=true;rw[jL Ve.o.se];have h1:x.t.p∈f1.go.map λe=>e.t.p:=bw.2 ⟨x,hx,rfl⟩;rw[Ve.o.go] at h1;obtain⟨y,hy,e⟩:=bw.1 h1;rw[<-e];exact HC.o.gk y hy);obtain⟨m,hm⟩:=aW (100000*f.seq+1000);rw[<-hm] at aqj;obtain⟨HMm,aB4,HN0,HUn⟩:=cr hm (avu aqj) Gx Ag.o.ft.hN.uq;have c6:=Ag.o.ft.c6;rw[aqi.o] at c6;clear qZ Gx aqj hm
  go_wp2_with (at_range;refine jl _ rfl _ rfl f2.NO f2.no rfl Ag.o.ft.hN ?_;intro w4 hr4 eG UN)
  clear c6;obtain⟨avv,Aw,HRw⟩:=cp (show SL NB B R w R2 m W3 f2 w4 from⟨[],f2,hr4.o,Ag.o.on eG.o,aB4.o⟩) (Ag.o.ft.aV (bp W3)) (show w.heap.size<=W3.heap.size from Ag.o.kq.size);obtain⟨r,hr⟩:=aW W3.heap.size;rw[<-hr] at avv Aw HRw⊢;clear hr hr4 eG UN
  go_loopw [8,9,10,11,57] (λ_ _ _ _ _ wr=>Hid (SL NB B R w R2 m r f2 wr)) (λ_ _ _ _ _ wr=>wr.rangeLeft f2.NO r)
  case atStart=>exact avv.o
  case round=>
   obtain⟨d,f3,xO,OV,wZ⟩:=hrel.o;obtain⟨sU,EU,UQ,HE3⟩:=cr xO OV wZ wZ.eq;clear hrel xO OV wZ
   go_wp2_with (at_next;refine jK _ rfl _ rfl f2.NO r f2.no d rfl sU.o ?_ ?_)
   .intro yM;obtain⟨m3,GK⟩:=aW (m+f2.no.length);have Qk:=ag GK;have FV:=UQ.o.all yM;rw[<-GK] at FV;obtain⟨aB5,HPm,HUg⟩:=cp (avw FV) yM EU.o.ft.hG.uq;have avx:∀x∈f2.go,(aI f2.se x.t.p).isSome=true:=HGk.o;have aB6:=ag (UQ.o.gk avx);have c7:=EU.o.ft.c7;have hFF:f3.F=f.F:=by rw[HE3.o];exact aqi.o
    rw[hFF] at c7;have NM:=ag hFF;clear FV yM hFF GK avx
    go_wp2_with (at_range;refine jl _ rfl _ rfl f3.GO f3.go rfl EU.o.ft.hG ?_;intro w7 hr7 jr hs7)
    clear c7;obtain⟨avy,HRm,HRx⟩:=cp (show SM NB B R w R2 m3 wr f3 w7 from⟨[],f3,hr7.o,EU.o.on jr.o,aB5.o⟩) (EU.o.ft.aV (bp wr)) (show w.heap.size<=wr.heap.size from EU.o.kq.size);obtain⟨r2,PY⟩:=aW wr.heap.size;rw[<-PY] at avy HRm HRx⊢;clear PY hr7 jr hs7;simp only[aP]
    go_loopw [12,95] (λ_ _ wr=>Hid (SM NB B R w R2 m3 r2 f3 wr)) (λ_ _ wr=>wr.rangeLeft f3.GO r2)
    case atStart=>exact avy.o
    case round=>
     obtain⟨d2,f4,xO,OV,wZ⟩:=hrel.o;obtain⟨avz,Td,agA,HE4⟩:=cr xO OV wZ wZ.eq;clear hrel xO OV wZ
     go_wp2_with (at_next;refine jK _ rfl _ rfl f3.GO r2 f3.go d2 rfl avz.o ?_ ?_)
     .intro agB;obtain⟨aB8,HF4⟩:=cn agB (show f4.F=f.F by rw[HE4.o];exact NM.o);clear agB;go_upto_region 25 with fail;have UX:=@run_makeMap prog;obtain⟨W20,adA⟩:=aW ((wr.alloc (.map #[] 0)).alloc (.map #[] 0));have adB:Below wr wr W20:=by rw[adA];exact((aE _ _).alloc av _).alloc au _
      have Qo:=Td.o.ft.on adB;have c6:=Qo.c6;have c7:=Qo.c7;have z6:=Qo.frz 6;have z7:=Qo.frz 7;rw[HF4.o] at c6 c7 z6 z7;obtain⟨W21,ak2⟩:=aW ((W20.setCell (f.F,6) (.map (some wr))).setCell (f.F,7) (.map (some (wr.heap.size+1))));obtain⟨f5,hf5⟩:∃f5,f5=({f4 with NO:=wr.heap.size,GO:=wr.heap.size+1,no:=[],go:=[]}:Fm):=⟨_,rfl⟩
      have anT:oq NB B R2 wr W21 f5:=by
       refine Td.o.ft.swap adB ?_ ?_ (by rw[hf5]) (by rw[hf5]) (by rw[hf5]) (by rw[hf5]) (by rw[hf5]) (.inr ?_) (.inr ?_) (.inl (by rw[hf5];exact⟨rfl,rfl⟩)) (by rw[hf5];show wr.heap.size≠wr.heap.size+1;omega) (λq hq=>?_)
       .rw[ak2,<-HF4.o];have h1:Kq (λq=>q=f4.F) W20 (W20.setCell (f4.F,6) (.map (some wr))):=Kq.one (f4.F,6) _;have h2:Kq (λq=>q=f4.F) (W20.setCell (f4.F,6) (.map (some wr))) ((W20.setCell (f4.F,6) (.map (some wr))).setCell (f4.F,7) (.map (some (wr.heap.size+1)))):=Kq.one (f4.F,7) _;exact h1.trans h2
       .rw[ak2,<-HF4.o];have h1:=(Qo.hF.set 6 (.map (some wr))).set 7 (.map (some (wr.heap.size+1)));have h2:((Qp NB f4).setIfInBounds 6 (.map (some wr))).setIfInBounds 7 (.map (some (wr.heap.size+1)))=Qp NB f5:=by rw[hf5];unfold Qp;simp
        rw[h2] at h1;exact h1
       .rw[hf5,adA];exact⟨bp _,(dH.made wr).alloc _⟩
       .rw[hf5,adA];have h1:=dH.made (wr.alloc (.map #[] 0));rw[bR] at h1;exact⟨Nat.le_succ _,h1⟩
       .have h1:q<wr.heap.size:=Td.o.ft.hiT (by rw[hf5] at hq;exact hq);rw[hf5];show q≠wr.heap.size/\q≠wr.heap.size+1;omega
      obtain⟨WS,SC⟩:=cn (Td.o.step anT) hf5;clear adB Qo anT hf5;rw[adA] at c6 c7 z6 z7;go_upto_region 26 with fail;rw[<-adA,<-ak2];clear adA ak2 c6 c7 z6 z7 UX;have avA:f5.ep=f.ep:=by rw[SC.o,HE4.o,HE3.o,wM.o,HFa.o];exact Ve.o.ep
      have hF5:f5.F=f.F:=by rw[SC.o];exact HF4.o
      have c9:=WS.o.ft.c9;have z9:=WS.o.ft.frz 9;rw[hF5] at c9 z9;rw[avA] at c9;have UU:f.ep<=1000000:=by have:=HC.o.sq;have:=SY.o;omega
      have avC:=WS.o.ft.aqn 9 (O .u64 ((f.ep:Int)+1)) {f5 with ep:=f.ep+1} (by unfold Qp;simp) rfl rfl rfl rfl rfl rfl rfl rfl rfl rfl rfl;have avD:Kq (Up R2 wr W21) W21 (W21.setCell (f5.F,9) (O .u64 ((f.ep:Int)+1))):=(Kq.one (f5.F,9) _).mono λq e=>e▸WS.o.ft.inF;have yP:=ag (WS.o.same avC avD);rw[show((f5.F,9):Addr)=(f.F,9) by rw[hF5]] at yP;obtain⟨avE,aqo⟩:=cn (show Bytes (W21.setCell (f.F,9) (O .u64 ((f.ep:Int)+1))) w a 56 tx from(HX.o.kq av yP.o.kq Kt.o)) hF5;clear avC avD hF5 avA;go_wp2_with fail;refine(iY a 56 c tx _ (avE.o.mono yP.o.kq.size)).mono ?_;rintro e9 W23 ⟨⟨v9,rfl,ho9⟩,iM⟩;obtain⟨a9,k9,rfl,AU⟩:=ho9.bG avE.o.len;have HZ9:=ag z9;clear z9 UU;have c4:=(yP.o.ft.on iM).c4;have z4:=(yP.o.ft.on iM).frz 4;have hF9:=(yP.o.ft.on iM).hF;have c4:W23.cell? (f5.F,4)=some f5.tv:=c4;have z4:W23.frozen? (f5.F,4)=false:=z4;have NQ:oq NB B (Up R2 wr W21) (W21.setCell (f.F,9) (O .u64 ((f.ep:Int)+1))) (W23.setCell (f5.F,4) (an a9 56 k9)) {f5 with ep:=f.ep+1,tv:=(an a9 56 k9),tx:=tx}:=by
       refine yP.o.ft.swap iM (Kq.one (f5.F,4) (an a9 56 k9)) ?_ rfl rfl rfl rfl rfl (.inl ⟨rfl,rfl⟩) (.inl ⟨rfl,rfl⟩) (.inr ho9) yP.o.ft.PZ.2.2 (λq hq=>?_)
       .have h1:=hF9.set 4 (an a9 56 k9);have h2:(Qp NB {f5 with ep:=f.ep+1}).setIfInBounds 4 (an a9 56 k9)=Qp NB {f5 with ep:=f.ep+1,tv:=(an a9 56 k9),tx:=tx}:=by unfold Qp;simp
        rw[h2] at h1;exact h1
       .have h1:=(ho9.aN q hq).1;have h2:=yP.o.ft.hN.lt;have h3:=yP.o.ft.hG.lt;exact⟨λe=>absurd h2 (by show¬f5.NO<_;rw[show f5.NO=q from e.symm];omega),λe=>absurd h3 (by show¬f5.GO<_;rw[show f5.GO=q from e.symm];omega)⟩
      have agC:=(yP.o.step NQ).fin gX;rw[aqo.o] at c4 z4;rw[show((f5.F,4):Addr)=(f.F,4) by rw[aqo.o]] at agC;have aqg:=ag agC;clear agC NQ hF9 ho9 iM;go_wp2;go_ret;have h2:=agA.o;rw[Qk.o] at h2;refine⟨rfl,_,aqg.o,sld HC.o Ve.o (by rw[wM.o,HFa.o]) HMm.o UQ.o HPm.o h2 aB8.o aB2.o HUn.o HUg.o Td.o.ft.hS.uq pK.2 HFr.o.1 IG.o (λz hz=>HFr.o.2 z _ hz) ?_ ?_ HCp.o aqo.o ?_ ?_ ?_ ?_ ?_ rfl rfl ?_⟩
      .rw[IG.o.C];exact Ve.o.C
      .rw[IG.o.gh];exact Ve.o.gh
      .show f5.g=f4.g;rw[SC.o]
      .show f5.se=f4.se;rw[SC.o]
      .show f5.no=[];rw[SC.o]
      .show f5.go=[];rw[SC.o]
      .show f5.seq=f.seq+1;rw[SC.o,HE4.o,HE3.o,wM.o,HFa.o]
      .show f5.ov=f.ov;rw[SC.o,HE4.o,HE3.o,wM.o,HFa.o];exact Ve.o.ov
     .intro e w6 he IL U0 hs6 OM hen;rw[uP] at hen⊢;have VF:=ag (EU.o.ft.hG.key he.o.1);have tH:Kq (λq=>q=r2) wr w6:=(Kq.grown U0.o).mono λq e=>(Option.some.inj e).symm;have OQ:=ag (Td.o.mine tH λq hq=>by subst hq;exact⟨HRx.o,HRm.o⟩);obtain⟨hU2,e0,Ff⟩:=agA.o.old HUg.o aB6.o avz.o.rest he.o.1 he.o.2;obtain⟨agD,UU⟩:=dW Ff;have hfd:Fi NB (m3+d2.length) (e0.b::[]) f4.g (kQ f4.se e.t.p):=by have h1:=agA.o.fi.del (adC Td.o.ft.hS.uq agD);rw[UU] at h1;exact h1
      obtain⟨Af,HU2,Lr⟩:=cp hfd hU2 (DX (OQ.o.ft.on (ak w6)) hfd);have hsv:plO (aI f4.se e.t.p)= .agg #[O aa e0.b,O aa e0.i]:=by rw[Ff];rfl
      obtain⟨HF4,HS4,HNg,HNr⟩:=cr (show f4.F=f.F by rw[HE4.o];exact NM.o) (show f4.SE=f3.SE by rw[HE4.o]) (show f3.GO≠f4.g.ML by have:=Td.o.ft.avG.2.1;rw[show f4.GO=f3.GO by rw[HE4.o]] at this;exact this) (show r2≠f4.g.ML from λh1=>HRm.o (h1▸by have:=Td.o.ft;obtain⟨S,_,h2,_⟩:=this;exact h2 _ (.inr (.inr (.inl rfl)))));obtain⟨S7,qM⟩:∃S7:World->Prop,S7=λW'=>∃f5,cu NB B R2 W' f5/\f5.F=f.F/\f5.SE=f4.SE/\f5.se=f4.se/\f5.g.M=f4.g.M:=⟨_,rfl⟩
      obtain⟨HLs,HD1,P6⟩:=cp (λ(W':World) (hW:S7 W')=>show(Instr.lookup 222 (.map (some f4.SE)) (O .u32 e.t.p) false).run prog W'= .ok (.agg #[O aa e0.b,O aa e0.i]) W' by rw[qM] at hW;obtain⟨f5,e1,e2,e3,e4,e5⟩:=hW;have:=e1.hS.look VF.o false;rw[e4,e3,hsv] at this;exact this) (λ(W':World) (hW:S7 W')=>show W'.cell? (aw f.F 1)=some (.pointer (aw f4.g.M 0)) by rw[qM] at hW;obtain⟨f5,e1,e2,e3,e4,e5⟩:=hW;rw[<-e2,<-e5];exact e1.c1) (λ(W':World) (hW:S7 W')=>show W'.cell? (aw f.F 5)=some (.map (some f4.SE)) by rw[qM] at hW;obtain⟨f5,e1,e2,e3,e4,e5⟩:=hW;rw[<-e2,<-e3];exact e1.c5);have avI:S7 w6.drew:=by rw[qM];exact⟨f4,OQ.o.ft.on (ak w6),HF4.o,rfl,rfl,rfl⟩
      have avJ:=ag (λ(W':World) (f5:Fm) (h1:cu NB B R2 W' f5) (h2:f5.F=f.F/\f5.SE=f4.SE/\f5.se=f4.se/\f5.g.M=f4.g.M)=>show S7 W' by rw[qM];exact⟨f5,h1,h2⟩);clear tH hfd hU2 hsv Ff agD UU qM;go_upto_region 23 with fail;refine iE S7 avI (λaY=>?_);refine dw 0 f.F 0 ?_;refine dw 1 f.F 0 ?_;refine aS 2 f.F 1 ?_;refine kS 3 f4.g.M (λ_ aK=>HD1.o _ aK) ?_;refine dw 4 f.F 0 ?_;refine dw 5 f.F 0 ?_;refine aS 6 f.F 5 ?_;refine kS 7 (.map (some f4.SE)) (λ_ aK=>P6.o _ aK) ?_;refine dG 8 (O .u32 e.t.p) ?_;refine kS 9 (.agg #[O aa e0.b,O aa e0.i]) (λ_ aK=>HLs.o _ aK) ?_;refine dI 10 (e0.b:Int) ?_;refine bY 11 (λK' hK=>?_);go_simp;refine Lr.o.mono ?_;rintro e9 oH ⟨rfl,ZZ,Z4,Ja⟩;have avK:=avJ.o oH _ ZZ ⟨HF4.o,rfl,rfl,rfl⟩;obtain⟨Z5,agE⟩:∃Z5,Z5=({f4 with g:={f4.g with l:=f4.g.l.set e0.b (dD (Gc.at_ f4.g.l e0.b))}}:Fm):=⟨_,rfl⟩
      have yx:=ag (show∀f5:Fm,f5.g=Z5.g->f5.se=kQ Z5.se e.t.p->f5={Z5 with g:=f5.g,se:=f5.se}->Sl2 NB m3 f3 f5 (d2++[e]) from λf5 h1 h2 h4=>by
       subst agE;refine agA.o.fin HU2.o ?_ ?_ h2 h4 (by rw[h1]) (by rw[h1]) (by rw[h1]) (by rw[h1])
       .rw[h1];exact Af.o.drop
       .rw[h1];exact agA.o.fr.drop (Af.o.avL au))
      obtain⟨HSb,HFb⟩:=cn (show Z5.SE=f3.SE by rw[agE];exact HS4.o) (show Z5.F=f.F by rw[agE];exact HF4.o);have kN:Hid (Pr NB B R w R2 oH Z5):=by rw[agE];exact(OQ.o.on (ak w6)).same ZZ Z4
      have Z7:=(IL.o.on (ak w6)).kq Ja (HNg.o) (HNr.o);obtain⟨WT,OU⟩:=cn Z7.1 (show oH.rangeLeft f3.GO r2<wr.rangeLeft f3.GO r2 by rw[Z7.2,IL.o.1.ug (ak w6)];exact OM.o);refine hK.out _ _ avK (λaCa=>?_);refine eH ?_;clear aY avI avK aCa avJ HD1 P6 HLs Lr ZZ Z4 Ja Z7 agE;have c5:=kN.o.ft.c5;rw[HFb.o] at c5;obtain⟨o12,rV,LG,vI⟩:=kN.o.ft.delS VF.o 0;have rV:∀ty,(Builtin.delete_ #[222,64] ty #[.map (some Z5.SE),O .u32 e.t.p]).run prog oH= .ok (ao #[]) (setBlock oH Z5.SE o12):=λty=>rV;have yI:Z5.SE≠f3.GO:=by rw[HSb.o];exact EU.o.ft.PZ.2.1
      have DY:Z5.SE≠r2:=λh1=>HRm.o (h1▸by have:=kN.o.ft;obtain⟨S,_,h2,_⟩:=this;exact h2 _ (.inl (.inr (.inl rfl))));have DZ:=WT.o.put kN.o.ft.hS yI DY o12;obtain⟨Lh,agF,LH,WU⟩:=cr DZ.1 (show(setBlock oH Z5.SE o12).rangeLeft f3.GO r2<wr.rangeLeft f3.GO r2 by rw[DZ.2];exact OU.o) (kN.o.same LG vI) (yx.o {Z5 with se:=kQ Z5.se e.t.p} rfl rfl rfl);clear LG vI DZ yI DY;go_wp2_with fail;go_roundw
      case rel=>exact⟨_,_,Lh.o,LH.o,WU.o⟩
      case measure=>exact agF.o
   .intro e w6 he IL U0 hs6 OM hen;rw[uP] at hen⊢;have VF:=ag (Ag.o.ft.hN.key he.o.1);have tH:Kq (λq=>q=r) wr w6:=(Kq.grown U0.o).mono λq e=>(Option.some.inj e).symm;have OQ:=ag (EU.o.mine tH λq hq=>by subst hq;exact⟨HRw.o,Aw.o⟩);have jr:=(aE w6 w6).alloc av (.cells #[O aa e.b,O aa e.i] 247);obtain⟨S9,HT7,ak3,CU,HL7⟩:=ct (OQ.o.on jr) (aF.new w6 247 #[O aa e.b,O aa e.i]) (OQ.o.ft.aV (bp w6)) (IL.o.on jr) (show(w6.alloc (.cells #[O aa e.b,O aa e.i] 247)).rangeLeft f2.NO r<wr.rangeLeft f2.NO r by rw[IL.o.1.ug jr];exact OM.o);have c5:=S9.o.ft.c5;have hFF:f3.F=f.F:=by rw[HE3.o];exact aqi.o
    rw[hFF] at c5;have NM:=ag hFF;obtain⟨b2,i2,e2⟩:=rQ (aI f3.se e.t.p);obtain⟨old,hold⟩:=Iu ((aI f3.se e.t.p).isSome);have hl7:=S9.o.ft.hS.yL VF.o rfl e2 hold;have ny:=(aE _ _).alloc (bp (w6.alloc (.cells #[O aa e.b,O aa e.i] 247)).heap.size) (.cells #[O aa b2,O aa i2] 247);obtain⟨DR,Vd,HR8⟩:=cp (S9.o.on ny) (HT7.o.ah ny) (CU.o.on ny);have ZN:=CU.o.1.ug ny;obtain⟨VI,VG,HE2,avM,avN⟩:=ct (aF.new (w6.alloc (.cells #[O aa e.b,O aa e.i] 247)) 247 #[O aa b2,O aa i2]) (S9.o.ft.aV (bp (w6.alloc (.cells #[O aa e.b,O aa e.i] 247)).heap.size)) e2 hold ZN;clear tH jr hFF e2 hold ny ZN;go_upto_region 16 with fail;clear c5 hl7;obtain⟨T9,hT9⟩:=aW wr.heap.size;have avO:w6.heap.size=T9:=hs6.trans hT9.symm;obtain⟨W8,Wu⟩:∃W8,W8=(w6.alloc (.cells #[O aa e.b,O aa e.i] 247)).alloc (.cells #[O aa b2,O aa i2] 247):=⟨_,rfl⟩
    have JI:=ag (show W8.rangeLeft f2.NO r<wr.rangeLeft f2.NO r by rw[Wu,avN.o];exact HL7.o);rw[bR] at VI VG;rw[<-Wu] at DR Vd HR8 VI⊢;rw[avO] at Vd ak3 VI VG;rw[<-hT9] at⊢;clear Wu hT9 avO avN HL7;have HUs:=ag DR.o.ft.hS.uq;cases old
    .have hno:aI f3.se e.t.p=none:=by have:=avM.o;cases hg:aI f3.se e.t.p with|none=>rfl|some e=>rw[hg] at this;cases this
     obtain⟨kW,FW⟩:=aW f3;obtain⟨yx,HSE,HGO,DT⟩:=cr (show∀f4:Fm,f4.g=kW.g->f4.se=dA kW.se e->f4.go=kQ kW.go e.t.p->f4={kW with g:=f4.g,se:=f4.se,go:=f4.go}->Sl1 NB m f2 f4 (d++[e]) from λf4 h1 h2 h3 h4=>by subst FW;refine UQ.o.fin HUn.o HUs.o he.o.1 he.o.2 (λkP q1 q2=>?_) (by rw[h1];exact UQ.o.fr) h2 h3 h4 (by rw[h1]) (by rw[h1]) (by rw[h1]) (by rw[h1]);rw[h1,o7 λx hx=>kJ hno x hx,cQ];exact q2.le ae) (show kW.SE=f2.SE by rw[FW,HE3.o]) (show kW.GO=f2.GO by rw[FW,HE3.o]) (show kW.F=f.F by rw[FW];exact NM.o);have kN:Hid (Pr NB B R w R2 W8 kW):=by rw[FW];exact DR
     have WT:=HR8;have OU:=JI;have HT9:=Vd;clear FW hno DR HR8 JI Vd;obtain⟨oH,aCe⟩:=aW W8;subst aCe;have hpn:=(kN.o.ft.on (ak oH)).aqp e VF.o;obtain⟨OT,bF,Lu,LC⟩:=hpn;have bF:(Instr.mapUpdate 222 (.map (some kW.SE)) (O .u32 e.t.p) (.agg #[O aa e.b,O aa e.i])).run prog oH.drew= .ok () (setBlock oH.drew kW.SE OT):=bF;have yI:kW.SE≠f2.NO:=by rw[HSE.o];exact Ag.o.ft.PZ.1
     have DY:kW.SE≠r:=λh1=>Aw.o (h1▸by have:=kN.o.ft;obtain⟨S,_,h2,_⟩:=this;exact h2 _ (.inl (.inr (.inl rfl))));have Z8:=(WT.o.on (ak oH)).put ((kN.o.ft.on (ak oH)).hS) yI DY OT;obtain⟨agG,agH,qo⟩:=cp Z8.1 (show(setBlock oH.drew kW.SE OT).rangeLeft f2.NO r<wr.rangeLeft f2.NO r by rw[Z8.2];exact OU.o) ((kN.o.on (ak oH)).same Lu LC);have DU:oH.drew.cell? (f.F,5)=some (.map (some kW.SE))/\oH.drew.cell? (T9,0)=some (O aa e.b)/\oH.drew.cell? (T9,1)=some (O aa e.i):=by refine⟨by rw[<-DT.o];exact(kN.o.ft.on (ak oH)).c5,HT9.o.drew.aj (i:=0) rfl,HT9.o.drew.aj (i:=1) rfl⟩
     have LD:(setBlock oH.drew kW.SE OT).cell? (f.F,5)=some (.map (some kW.SE))/\(setBlock oH.drew kW.SE OT).cell? (T9,0)=some (O aa e.b)/\(setBlock oH.drew kW.SE OT).cell? (T9,1)=some (O aa e.i):=by have hT:=HT9.o.drew.kq LC ak3.o;exact⟨by rw[<-DT.o];exact Lu.c5,hT.aj (i:=0) rfl,hT.aj (i:=1) rfl⟩
     obtain⟨IB,ZU⟩:=cn DU LD;clear Lu LC DU LD Z8 yI DY;go_upto_region 18 with fail;refine iE (λW'=>W'.cell? (aw f.F 5)=some (.map (some kW.SE))/\W'.cell? (aw T9 0)=some (O aa e.b)/\W'.cell? (aw T9 1)=some (O aa e.i)) IB.o (λaY=>?_);refine dw 0 f.F 0 ?_;refine dw 1 f.F 0 ?_;refine aS 2 f.F 5 ?_;refine jE 3 (.map (some kW.SE)) rfl (λ_ aK=>by obtain⟨y7,y8,y9⟩:=aK;go_simp) ?_;refine dG 4 (O .u32 e.t.p) ?_;refine jE 5 (.agg #[O aa e.b,O aa e.i]) rfl (λ_ aK=>by obtain⟨y7,y8,y9⟩:=aK;go_simp) ?_;refine bY 6 (λK' hK=>?_);go_simp;refine hK.out _ _ ZU.o (λZG=>?_);refine eH ?_;clear bF aY ZG IB ZU;obtain⟨W11,WN⟩:=aW (setBlock oH.drew kW.SE OT);rw[<-WN] at qo agG agH⊢;clear WN;have c7:=qo.o.ft.c7;have c7:W11.cell? (kW.F,7)=some (.map (some kW.GO)):=c7;rw[DT.o] at c7;obtain⟨o12,rV,LG,vI⟩:=qo.o.ft.aqa VF.o 0;have rV:∀ty,(Builtin.delete_ #[222,64] ty #[.map (some kW.GO),O .u32 e.t.p]).run prog W11= .ok (ao #[]) (setBlock W11 kW.GO o12):=λty=>rV;have yI:kW.GO≠f2.NO:=by rw[HGO.o];exact Ne.symm Ag.o.ft.PZ.2.2
     have DY:kW.GO≠r:=λh1=>Aw.o (h1▸by have:=kN.o.ft;obtain⟨S,_,h2,_⟩:=this;exact h2 _ (.inl (.inr (.inr (.inr (.inl rfl))))));have DZ:=agG.o.put qo.o.ft.hG yI DY o12;obtain⟨Lh,agF,LH,WU⟩:=cr DZ.1 (show(setBlock W11 kW.GO o12).rangeLeft f2.NO r<wr.rangeLeft f2.NO r by rw[DZ.2];exact agH.o) (qo.o.same LG vI) (yx.o {kW with se:=dA kW.se e,go:=kQ kW.go e.t.p} rfl rfl rfl rfl);clear LG vI DZ yI DY;go_wp2_with fail;go_roundw
     case rel=>exact⟨_,_,Lh.o,LH.o,WU.o⟩
     case measure=>exact agF.o
    .obtain⟨e0,hno⟩:∃e0,aI f3.se e.t.p=some e0:=by have:=avM.o;cases hg:aI f3.se e.t.p with|none=>rw[hg] at this;cases this|some e=>exact⟨e,rfl⟩
     obtain⟨Ff,UU⟩:=dW hno;have adB:b2=e0.b:=by have:=HE2.o;rw[hno] at this;have h9:WH e0.b e0.i= .agg #[O aa b2,O aa i2]:=this;unfold WH at h9;simp only[Value.agg.injEq,Array.mk.injEq,List.cons.injEq,Value.int.injEq,true_and,and_true] at h9;omega
     have UI:=ag (show∀kP,Fi NB (m+d.length) [] f3.g (f3.se++e::kP)->Fi NB (m+d.length) (b2::[]) f3.g (dA f3.se e++kP) from λkP q=>by rw[adB];exact q.del (adD HUs.o Ff UU));obtain⟨_,_,avP,_,q0⟩:=UQ.o.not HUn.o he.o.1 he.o.2;have Af:=ag (UI.o avP q0);have Lr:=ag (DX (DR.o.ft.on (ak W8)) Af.o);have avQ:W8.drew.cell? (f.F,1)=some (.pointer (f3.g.M,0))/\W8.drew.cell? (T9+1,0)=some (O aa b2):=⟨by rw[<-NM.o];exact(DR.o.ft.on (ak W8)).c1,VI.o.drew.aj (i:=0) rfl⟩
     obtain⟨avR,HML⟩:=cn avQ (show f2.NO≠f3.g.ML/\r≠f3.g.ML from⟨by have h1:=DR.o.ft.avG.1;rw[show f3.NO=f2.NO by rw[HE3.o]] at h1;exact h1,λh1=>Aw.o (h1▸by have:=DR.o.ft;obtain⟨S,_,h2,_⟩:=this;exact h2 _ (.inr (.inr (.inl rfl))))⟩);clear hno Ff UU adB q0 avQ;go_upto_region 17 with fail;refine iE (λW'=>W'.cell? (aw f.F 1)=some (.pointer (aw f3.g.M 0))/\W'.cell? ⟨T9+1,0,none⟩=some (O aa b2)) avR.o (λaY=>?_);refine dw 0 f.F 0 ?_;refine dw 1 f.F 0 ?_;refine aS 2 f.F 1 ?_;refine jE 3 f3.g.M rfl (λ_ aK=>by obtain⟨y8,y9⟩:=aK;go_simp) ?_;refine aS 4 (T9+1) 0 ?_;refine jE 5 (O aa b2) rfl (λ_ aK=>by obtain⟨y8,y9⟩:=aK;go_simp) ?_;refine bY 6 (λK' hK=>?_);go_simp;refine Lr.o.mono ?_;rintro e9 oH ⟨rfl,ZZ,Z4,Ja⟩;obtain⟨kW,FW⟩:∃kW,kW=({f3 with g:={f3.g with l:=f3.g.l.set b2 (dD (Gc.at_ f3.g.l b2))}}:Fm):=⟨_,rfl⟩
     have dh:oH.cell? (f.F,1)=some (.pointer (f3.g.M,0))/\oH.cell? (T9+1,0)=some (O aa b2):=by refine⟨?_,(VI.o.drew.kq Z4 VG.o).aj (i:=0) rfl⟩;have h9:=ZZ.c1;have h9:oH.cell? (f3.F,1)=some (.pointer (f3.g.M,0)):=h9;rw[NM.o] at h9;exact h9
     have yx:=ag (show∀f4:Fm,f4.g=kW.g->f4.se=dA kW.se e->f4.go=kQ kW.go e.t.p->f4={kW with g:=f4.g,se:=f4.se,go:=f4.go}->Sl1 NB m f2 f4 (d++[e]) from λf4 h1 h2 h3 h4=>by
      subst FW;refine UQ.o.fin HUn.o HUs.o he.o.1 he.o.2 (λkP q1 q2=>?_) ?_ h2 h3 h4 (by rw[h1]) (by rw[h1]) (by rw[h1]) (by rw[h1])
      .rw[h1];exact(UI.o kP q2).drop
      .rw[h1];exact UQ.o.fr.drop (Af.o.avL au))
     obtain⟨HSE,HGO,DT⟩:=cp (show kW.SE=f2.SE by rw[FW,HE3.o]) (show kW.GO=f2.GO by rw[FW,HE3.o]) (show kW.F=f.F by rw[FW];exact NM.o);have kN:Hid (Pr NB B R w R2 oH kW):=by rw[FW];exact(DR.o.on (ak W8)).same ZZ Z4
     have Z7:=(HR8.o.on (ak W8)).kq Ja HML.o.1 HML.o.2;obtain⟨WT,OU,HT9⟩:=cp Z7.1 (show oH.rangeLeft f2.NO r<wr.rangeLeft f2.NO r by rw[Z7.2];exact JI.o) (Vd.o.drew.kq Z4 ak3.o);clear ZZ Z4 Ja FW Z7;refine hK.out _ _ dh (λfE=>?_);refine eH ?_;clear aY dh fE avR Lr DR HR8 JI Vd;have hpn:=(kN.o.ft.on (ak oH)).aqp e VF.o;obtain⟨OT,bF,Lu,LC⟩:=hpn;have bF:(Instr.mapUpdate 222 (.map (some kW.SE)) (O .u32 e.t.p) (.agg #[O aa e.b,O aa e.i])).run prog oH.drew= .ok () (setBlock oH.drew kW.SE OT):=bF;have yI:kW.SE≠f2.NO:=by rw[HSE.o];exact Ag.o.ft.PZ.1
     have DY:kW.SE≠r:=λh1=>Aw.o (h1▸by have:=kN.o.ft;obtain⟨S,_,h2,_⟩:=this;exact h2 _ (.inl (.inr (.inl rfl))));have Z8:=(WT.o.on (ak oH)).put ((kN.o.ft.on (ak oH)).hS) yI DY OT;obtain⟨agG,agH,qo⟩:=cp Z8.1 (show(setBlock oH.drew kW.SE OT).rangeLeft f2.NO r<wr.rangeLeft f2.NO r by rw[Z8.2];exact OU.o) ((kN.o.on (ak oH)).same Lu LC);have DU:oH.drew.cell? (f.F,5)=some (.map (some kW.SE))/\oH.drew.cell? (T9,0)=some (O aa e.b)/\oH.drew.cell? (T9,1)=some (O aa e.i):=by refine⟨by rw[<-DT.o];exact(kN.o.ft.on (ak oH)).c5,HT9.o.drew.aj (i:=0) rfl,HT9.o.drew.aj (i:=1) rfl⟩
     have LD:(setBlock oH.drew kW.SE OT).cell? (f.F,5)=some (.map (some kW.SE))/\(setBlock oH.drew kW.SE OT).cell? (T9,0)=some (O aa e.b)/\(setBlock oH.drew kW.SE OT).cell? (T9,1)=some (O aa e.i):=by have hT:=HT9.o.drew.kq LC ak3.o;exact⟨by rw[<-DT.o];exact Lu.c5,hT.aj (i:=0) rfl,hT.aj (i:=1) rfl⟩
     obtain⟨IB,ZU⟩:=cn DU LD;clear Lu LC DU LD Z8 yI DY;go_upto_region 18 with fail;refine iE (λW'=>W'.cell? (aw f.F 5)=some (.map (some kW.SE))/\W'.cell? (aw T9 0)=some (O aa e.b)/\W'.cell? (aw T9 1)=some (O aa e.i)) IB.o (λaY=>?_);refine dw 0 f.F 0 ?_;refine dw 1 f.F 0 ?_;refine aS 2 f.F 5 ?_;refine jE 3 (.map (some kW.SE)) rfl (λ_ aK=>by obtain⟨y7,y8,y9⟩:=aK;go_simp) ?_;refine dG 4 (O .u32 e.t.p) ?_;refine jE 5 (.agg #[O aa e.b,O aa e.i]) rfl (λ_ aK=>by obtain⟨y7,y8,y9⟩:=aK;go_simp) ?_;refine bY 6 (λK' hK=>?_);go_simp;refine hK.out _ _ ZU.o (λZG=>?_);refine eH ?_;clear bF aY ZG IB ZU;obtain⟨W11,WN⟩:=aW (setBlock oH.drew kW.SE OT);rw[<-WN] at qo agG agH⊢;clear WN;have c7:=qo.o.ft.c7;have c7:W11.cell? (kW.F,7)=some (.map (some kW.GO)):=c7;rw[DT.o] at c7;obtain⟨o12,rV,LG,vI⟩:=qo.o.ft.aqa VF.o 0;have rV:∀ty,(Builtin.delete_ #[222,64] ty #[.map (some kW.GO),O .u32 e.t.p]).run prog W11= .ok (ao #[]) (setBlock W11 kW.GO o12):=λty=>rV;have yI:kW.GO≠f2.NO:=by rw[HGO.o];exact Ne.symm Ag.o.ft.PZ.2.2
     have DY:kW.GO≠r:=λh1=>Aw.o (h1▸by have:=kN.o.ft;obtain⟨S,_,h2,_⟩:=this;exact h2 _ (.inl (.inr (.inr (.inr (.inl rfl))))));have DZ:=agG.o.put qo.o.ft.hG yI DY o12;obtain⟨Lh,agF,LH,WU⟩:=cr DZ.1 (show(setBlock W11 kW.GO o12).rangeLeft f2.NO r<wr.rangeLeft f2.NO r by rw[DZ.2];exact agH.o) (qo.o.same LG vI) (yx.o {kW with se:=dA kW.se e,go:=kQ kW.go e.t.p} rfl rfl rfl rfl);clear LG vI DZ yI DY;go_wp2_with fail;go_roundw
     case rel=>exact⟨_,_,Lh.o,LH.o,WU.o⟩
     case measure=>exact agF.o
end
end
end Go.Proofs.YtnieckfelfoopaaGreat
namespace Go.Proofs
open Shelf
def Tryz.XV:Go.Shelf.Ren:=⟨fun|189=>204|125=>247|257=>246|128=>275|129=>276|294=>266|295=>267|296=>268|297=>269|298=>270|299=>271|216=>272|300=>273|301=>274|328=>296|329=>297|330=>298|331=>299|332=>300|215=>301|343=>325|n=>n,fun|28=>116|3=>3|46=>196|0=>0|51=>64|53=>65|4=>4|183=>331|182=>330|131=>239|5=>5|9=>9|218=>354|222=>358|228=>376|229=>158|n=>n,fun|n=>n⟩
theorem Tryz.lays189:Go.Proofs.Lays.n189 prog Tryz.XV:={
 mixed:=az
 f125:=Tryz.func247.trans (congrArg some az)
 f128:=Tryz.func275.trans (congrArg some az)
 f129:=Tryz.func276.trans (congrArg some az)
 f189:=Tryz.func204.trans (congrArg some az)
 f215:=Tryz.func301.trans (congrArg some az)
 f216:=Tryz.func272.trans (congrArg some az)
 f257:=Tryz.func246.trans (congrArg some az)
 f294:=Tryz.func266.trans (congrArg some az)
 f295:=Tryz.func267.trans (congrArg some az)
 f296:=Tryz.func268.trans (congrArg some az)
 f297:=Tryz.func269.trans (congrArg some az)
 f298:=Tryz.func270.trans (congrArg some az)
 f299:=Tryz.func271.trans (congrArg some az)
 f300:=Tryz.func273.trans (congrArg some az)
 f301:=Tryz.func274.trans (congrArg some az)
 f328:=Tryz.func296.trans (congrArg some az)
 f329:=Tryz.func297.trans (congrArg some az)
 f330:=Tryz.func298.trans (congrArg some az)
 f331:=Tryz.func299.trans (congrArg some az)
 f332:=Tryz.func300.trans (congrArg some az)
 f343:=Tryz.func325.trans (congrArg some az)
 t0:=Tryz.underlying0
 a0:=Tryz.isAgg0
 z0:=Tryz.sizeOf0
 v0:=Tryz.zeroValue0
 t3:=Tryz.underlying3
 a3:=Tryz.isAgg3
 z3:=Tryz.sizeOf3
 v3:=Tryz.zeroValue3
 t4:=Tryz.underlying4
 a4:=Tryz.isAgg4
 z4:=Tryz.sizeOf4
 v4:=Tryz.zeroValue4
 t5:=Tryz.underlying5
 a5:=Tryz.isAgg5
 z5:=Tryz.sizeOf5
 v5:=Tryz.zeroValue5
 t9:=Tryz.underlying9
 a9:=Tryz.isAgg9
 z9:=Tryz.sizeOf9
 v9:=Tryz.zeroValue9
 t28:=Tryz.underlying116
 a28:=Tryz.isAgg116
 z28:=Tryz.sizeOf116
 v28:=Tryz.zeroValue116
 t46:=Tryz.underlying196
 a46:=Tryz.isAgg196
 z46:=Tryz.sizeOf196
 v46:=Tryz.zeroValue196
 t51:=Tryz.underlying64
 a51:=Tryz.isAgg64
 z51:=Tryz.sizeOf64
 v51:=Tryz.zeroValue64
 t53:=Tryz.underlying65
 a53:=Tryz.isAgg65
 z53:=Tryz.sizeOf65
 v53:=Tryz.zeroValue65
 t131:=Tryz.underlying239
 a131:=Tryz.isAgg239
 z131:=Tryz.sizeOf239
 v131:=Tryz.zeroValue239
 t182:=Tryz.underlying330
 a182:=Tryz.isAgg330
 z182:=Tryz.sizeOf330
 v182:=Tryz.zeroValue330
 t183:=Tryz.underlying331
 a183:=Tryz.isAgg331
 z183:=Tryz.sizeOf331
 v183:=Tryz.zeroValue331
 t218:=Tryz.underlying354
 a218:=Tryz.isAgg354
 z218:=Tryz.sizeOf354
 v218:=Tryz.zeroValue354
 t222:=Tryz.underlying358
 a222:=Tryz.isAgg358
 z222:=Tryz.sizeOf358
 v222:=Tryz.zeroValue358
 t228:=Tryz.underlying376
 a228:=Tryz.isAgg376
 z228:=Tryz.sizeOf376
 v228:=Tryz.zeroValue376
 t229:=Tryz.underlying158
 a229:=Tryz.isAgg158
 z229:=Tryz.sizeOf158
 v229:=Tryz.zeroValue158}
open Go.Sort RowKit in
theorem Tryz.slices_Sort_int (blk off cap:Nat) (zs:List Int) (w:World) (hH:Holds (Value.int .i64) w blk off zs.toArray) (adx:blk<w.heap.size) (iG:zs.length<4611686018427387904):
  Calls prog 204 #[an (blk,off) zs.length cap] w λe w'=>
   e=ar (ao #[])/\∃n os,w'=grow (putRow (Value.int .i64) (Sort.ahead w n) blk off (zs.mergeSort λx y=>decide (x<=y)).toArray) os:=Any.slices_Sort_int Tryz.lays189 blk off cap zs w hH adx iG
def Tryz.lays112_ren:Go.Shelf.Ren:=⟨fun|112=>160|n=>n,fun|28=>116|3=>3|4=>4|0=>0|n=>n,fun|n=>n⟩
theorem Tryz.lays112:Go.Proofs.Lays.n112 prog Tryz.lays112_ren:={
 mixed:=az
 f112:=Tryz.func160.trans (congrArg some az)
 t0:=Tryz.underlying0
 a0:=Tryz.isAgg0
 z0:=Tryz.sizeOf0
 v0:=Tryz.zeroValue0
 t3:=Tryz.underlying3
 a3:=Tryz.isAgg3
 z3:=Tryz.sizeOf3
 v3:=Tryz.zeroValue3
 t4:=Tryz.underlying4
 a4:=Tryz.isAgg4
 z4:=Tryz.sizeOf4
 v4:=Tryz.zeroValue4
 t28:=Tryz.underlying116
 a28:=Tryz.isAgg116
 z28:=Tryz.sizeOf116
 v28:=Tryz.zeroValue116}
open RowKit Lib Go.Sort in
theorem Tryz.slices_Reverse_int (blk off cap:Nat) (zs:List Int) (w:World) (hH:Holds (Value.int .i64) w blk off zs.toArray) (iG:zs.length<=9223372036854775807):
  Calls prog 160 #[an (blk,off) zs.length cap] w λe w'=>e=ar (ao #[])/\∃n,w'=putRow (Value.int .i64) (Sort.ahead w n) blk off zs.reverse.toArray:=Any.slices_Reverse_int Tryz.lays112 blk off cap zs w hH iG
open RowKit Lib Go.Sort in
theorem Tryz.slices_Reverse_int_empty (a:Option Addr) (cap:Nat) (w:World):
  Calls prog 160 #[an a 0 cap] w λe w'=>e=ar (ao #[])/\w'=w:=Any.slices_Reverse_int_empty Tryz.lays112 a cap w
def Tryz.Px:Go.Shelf.Ren:=⟨fun|15=>235|n=>n,fun|22=>116|3=>3|4=>4|n=>n,fun|n=>n⟩
theorem Tryz.laysNm215:Go.Proofs.Lays2.n15 prog Tryz.Px:={
 mixed:=az
 f15:=Tryz.func235.trans (congrArg some az)
 t3:=Tryz.underlying3
 a3:=Tryz.isAgg3
 z3:=Tryz.sizeOf3
 v3:=Tryz.zeroValue3
 t4:=Tryz.underlying4
 a4:=Tryz.isAgg4
 z4:=Tryz.sizeOf4
 v4:=Tryz.zeroValue4
 t22:=Tryz.underlying116
 a22:=Tryz.isAgg116
 z22:=Tryz.sizeOf116
 v22:=Tryz.zeroValue116
 i3:=by kernel_rfl}
open RowKit Lib in
theorem Tryz.slices_Clone_int (b off n c:Nat) (zs:List Int) (w:World) (hz:n<=zs.length) (aky:n*8<=140737488355328) (hc:∀j,j<zs.length->w.cell? (aw b (off+j))=some (O aa (zs.getD j 0))):
  Calls prog 235 #[an (b,off) n c] w λe w'=>∃v',e=ar v'/\w'.ownsRow w 3 1 v' n ((zs.take n).map (Value.int .i64))/\v'≠ an none 0 0/\Below w w w':=Any.slices_Clone_int Tryz.laysNm215 b off n c zs w hz aky hc
open RowKit Lib in
theorem Tryz.slices_Clone_int_nil (n c:Nat) (w:World):
  Calls prog 235 #[an none n c] w λe w'=>e=ar (an none 0 0)/\w'=w:=Any.slices_Clone_int_nil Tryz.laysNm215 n c w
open RowKit Lib in
theorem Tryz.slices_Clone_int_zero (a:Addr) (c:Nat) (w:World):
  Calls prog 235 #[an (some a) 0 c] w λe w'=>∃v',e=ar v'/\w'.ownsRow w 3 1 v' 0 []/\v'≠ an none 0 0/\Below w w w':=Any.slices_Clone_int_zero Tryz.laysNm215 a c w
def Tryz.Py:Go.Shelf.Ren:=⟨fun|20=>236|n=>n,fun|22=>116|3=>3|4=>4|0=>0|n=>n,fun|n=>n⟩
theorem Tryz.QF:Go.Proofs.Lays2.n20 prog Tryz.Py:={
 mixed:=az
 f20:=Tryz.func236.trans (congrArg some az)
 t0:=Tryz.underlying0
 a0:=Tryz.isAgg0
 z0:=Tryz.sizeOf0
 v0:=Tryz.zeroValue0
 t3:=Tryz.underlying3
 a3:=Tryz.isAgg3
 z3:=Tryz.sizeOf3
 v3:=Tryz.zeroValue3
 t4:=Tryz.underlying4
 a4:=Tryz.isAgg4
 z4:=Tryz.sizeOf4
 v4:=Tryz.zeroValue4
 t22:=Tryz.underlying116
 a22:=Tryz.isAgg116
 z22:=Tryz.sizeOf116
 v22:=Tryz.zeroValue116
 i3:=by kernel_rfl}
open RowKit Lib Go.Sort in
theorem Tryz.slices_Compact_int (blk off cap:Nat) (zs:List Int) (w:World) (hH:Holds (Value.int .i64) w blk off zs.toArray) (iG:zs.length<=9223372036854775807) (pR:zs.length<=cap):
  Calls prog 236 #[an (blk,off) zs.length cap] w λe w'=>e=ar (an (aw blk off) (Lib.compact zs).length cap)/\∃q,w'=putRow (Value.int .i64) (Sort.ahead w q) blk off (Lib.compact zs++bt (zs.length-(Lib.compact zs).length) 0).toArray:=Any.slices_Compact_int Tryz.QF blk off cap zs w hH iG pR
open RowKit Lib Go.Sort in
theorem Tryz.slices_Compact_int_empty (a:Option Addr) (cap:Nat) (w:World):
  Calls prog 236 #[an a 0 cap] w λe w'=>e=ar (an a 0 cap)/\w'=w:=Any.slices_Compact_int_empty Tryz.QF a cap w
open RowKit Go.Sort in
theorem Tryz.slices_Sort_int_none (p:Option Addr) (cap:Nat) (w:World):
  Calls prog 204 #[an p 0 cap] w λe w'=>e=ar (ao #[])/\w'=w:=Any.slices_Sort_int_none Tryz.lays189 p cap w
end Go.Proofs
namespace Go.Proofs.YtnieckfelfoopaaGreat
open RowKit
theorem Own.cut {α f e w base g n c m} {xs:List α} (h:Own f e w base (an (some ⟨g,0,none⟩) n c) xs) (hm:m<=xs.length):Own f e w base (an (g,0) m c) (xs.take m):=by
 rcases h.2 with⟨hv,_⟩|⟨g',cap,cur,hv,jf,hg,pR,hmx,iG,ht⟩
 .cases hv
 .injection hv with e1 e2 e3
  injection e1 with e1
  injection e1 with e1
  subst e1 e3;have hl:(xs.take m).length=m:=by grind
  refine⟨by grind,.inr ⟨g,c,cur,by rw[hl],jf,hg,by rw[hl];omega,hmx,iG,?_⟩⟩;rw[hl,List.map_take,<-ht,List.take_take]
  congr 1
  omega
theorem Own.aaQ {α} [Inhabited α] {f e w base g n c k xs} (h:Own f e w base (an (some ⟨g,0,none⟩) n c) xs) (ys:List α) (hl:ys.length=xs.length) os:
  Own f e (Sort.grow (Sort.putRow f (Sort.ahead w k) g 0 ys.toArray) os) base (an (g,0) n c) ys/\Below base w (Sort.grow (Sort.putRow f (Sort.ahead w k) g 0 ys.toArray) os):=by
 rcases h.2 with⟨hv,_⟩|⟨g',cap,cur,hv,jf,hg,pR,hmx,iG,ht⟩
 .cases hv
 .injection hv with e1 e2 e3
  injection e1 with e1
  injection e1 with e1
  subst e1 e3;have aT:g<w.heap.size:=by
   grind
  have adx:∀j,(Sort.grow (Sort.putRow f (Sort.ahead w k) g 0 ys.toArray) os).heap[j]?=if j<w.heap.size then(if g=j then w.heap[j]?.map (Sort.onCells (Sort.putCells f 0 ys.toArray)) else w.heap[j]?) else os[j-w.heap.size]?:=λj=>by simp only[Sort.grow,Sort.putRow,Sort.mapBlock,Sort.ahead,Array.getElem?_append,Array.size_modify,Array.getElem?_modify]
  refine⟨⟨by grind,.inr ⟨g,c,Sort.putCells f 0 ys.toArray cur,by rw[hl,e2],jf,?_,by rw[hl];exact pR,hmx,?_,?_⟩⟩,?_⟩
  .rw[adx g,ev aT,ev rfl,hg];rfl
  .simp[Sort.putCells,iG]
  .apply List.ext_getElem?;intro i;rw[List.getElem?_take,List.getElem?_map];by_cases hi:i<ys.length
   .rw[ev ae];have hic:i<cur.size:=ae;simp[Sort.putCells,hi,hic]
   grind
  .refine⟨rfl,rfl,rfl,au,λj hj=>?_⟩;grind
theorem Gh {w base g n c xs} (h:Own kC 3 w base (an (some ⟨g,0,none⟩) n c) xs):Sort.Holds (Value.int .i64) w g 0 xs.toArray:=λj hj=>by
 grind[kC,Own.dU]
def sortL (xs:List Int):=xs.mergeSort λx y=>decide (x<=y)
theorem zY xs:(sortL xs).length=xs.length:=List.length_mergeSort ..
theorem Ci v xs base w (h:Own kC 3 w base v xs) (hl:xs.length<=1000000):
  Calls prog 204 #[v] w λe w'=>e=ar (ao #[])/\Own kC 3 w' base v (sortL xs)/\Below base w w':=by
 obtain⟨a,c,rfl,_⟩:=h.bG (n:=xs.length) rfl;by_cases h0:xs.length=0
 .have hx:xs=[]:=ek h0;subst hx;exact(Tryz.slices_Sort_int_none a c w).mono λe w' ⟨he,hw⟩=>⟨he,by rw[hw,show sortL []=[] by simp[sortL]];exact h,by rw[hw];exact aE _ _⟩
 .obtain⟨g,rfl,jf,hgl⟩:=h.addr ae;refine(Tryz.slices_Sort_int g 0 c xs w (Gh h) hgl ae).mono ?_;rintro e w' ⟨he,k,os,rfl⟩;exact⟨he,h.aaQ _ (zY xs) os⟩
theorem XW (xs:List Int):(Lib.compact xs).length<=xs.length:=by unfold Lib.compact Lib.compactUpTo;grind
theorem uY v xs base w (h:Own kC 3 w base v xs) (hl:xs.length<=1000000):
  Calls prog 236 #[v] w λe w'=>∃v',e=ar v'/\Own kC 3 w' base v' (Lib.compact xs)/\Below base w w':=by
 obtain⟨a,c,rfl,hc⟩:=h.bG (n:=xs.length) rfl;by_cases h0:xs.length=0
 .have hx:xs=[]:=ek h0;subst hx;exact(Tryz.slices_Compact_int_empty a c w).mono λe w' ⟨he,hw⟩=>⟨_,he,by rw[hw];exact h,by rw[hw];exact aE _ _⟩
 .obtain⟨g,rfl,jf,hgl⟩:=h.addr ae;refine(Tryz.slices_Compact_int g 0 c xs w (Gh h) ae hc).mono ?_;rintro e w' ⟨he,k,rfl⟩;have uF:=XW xs;have hr:=h.aaQ (k:=k) (Lib.compact xs++bt (xs.length-(Lib.compact xs).length) 0) (by grind) #[];rw[Sort.grow_empty] at hr;refine⟨_,he,?_,hr.2⟩;have:=hr.1.cut (m:=(Lib.compact xs).length) (by grind);rw[List.take_left'] at this
  .exact this
  .rfl
theorem awZ:(prog.info? 3).map (λi=>(i.zero,i.size,i.bytes))=some (some (O aa 0),1,8):=az
theorem Ub a n c xs w (hx:jq kC w w a n xs) (hn:n<=1000000):
  Calls prog 235 #[an a n c] w λe w'=>(∃v,e=ar v/\Own kC 3 w' w v xs)/\Below w w w':=by
 have hl:=hx.len
 cases a with
 |none=>
  have hn:xs=[]:=by
   grind[jq]
  subst hn;exact(Tryz.slices_Clone_int_nil n c w).mono λe w' ⟨he,hw⟩=>⟨⟨_,he,Own.nil _ _⟩,by rw[hw];exact aE _ _⟩
 |some p=>
  by_cases h0:n=0
  .subst h0;have hx0:xs=[]:=ek hl;subst hx0;exact(Tryz.slices_Clone_int_zero p c w).mono λe w' ⟨v',he,ho,_,hb⟩=>⟨⟨_,he,ho⟩,hb⟩
  .obtain⟨b,o,ha,_,hc⟩:=hx.2.2 h0;injection ha with ha
   subst ha;refine(Tryz.slices_Clone_int b o n c xs w ae ae (λj hj=>by grind[kC])).mono ?_;rintro e w' ⟨v',he,ho,_,hb⟩;rw[cL ae] at ho;refine⟨⟨v',he,?_⟩,hb⟩;unfold Own;rw[hl];exact ho
end Go.Proofs.YtnieckfelfoopaaGreat
namespace Go.Proofs.YtnieckfelfoopaaGreat
open RowKit
theorem Oq v xs base w (h:Own kC 3 w base v xs) (hl:xs.length<=1000000):
  Calls prog 160 #[v] w λe w'=>e=ar (ao #[])/\Own kC 3 w' base v xs.reverse/\Below base w w':=by
 obtain⟨a,c,rfl,_⟩:=h.bG (n:=xs.length) rfl;by_cases h0:xs.length=0
 .have hx:xs=[]:=ek h0;subst hx;exact(Tryz.slices_Reverse_int_empty a c w).mono λe w' ⟨he,hw⟩=>⟨he,by rw[hw];exact h,by rw[hw];exact aE _ _⟩
 .obtain⟨g,rfl,jf,hgl⟩:=h.addr ae;refine(Tryz.slices_Reverse_int g 0 c xs w (Gh h) ae).mono ?_;rintro e w' ⟨he,k,rfl⟩;have hr:=h.aaQ (k:=k) xs.reverse (by rw[List.length_reverse]) #[];rw[Sort.grow_empty] at hr;exact⟨he,hr⟩
end Go.Proofs.YtnieckfelfoopaaGreat
namespace Go.Proofs.YtnieckfelfoopaaGreat
open RowKit
section
variable {w:World} {ops:Array Oper} {rest:List Oper} {o:Oper} {ac:Act} {Q:Exit->Act->World->Prop}
theorem ack {K} s x
  (ho:o.op= .call {callee:= .builtin .append,args:=#[s,x],argTypes:=#[116,116]}) base
  v xs (hs:ac.eval s=v) (bz:Own kC 3 w base v xs) B a m c ys (hx:ac.eval x=an a m c) (hy:jq kC w B a m ys)
  (fB:xs.length+m<=10000000) (dE:base<=w)
  (h:∀v' w',Own kC 3 w' base v' (xs++ys)->w.grownBy w' v.ownBlock->(v'.ownBlock=v.ownBlock\/v'.ownBlock=some w.heap.size)->K (ac.put o.dst v') w'):o.wp prog ac w K Q:=by
 obtain⟨i0,hi,qm,tZ,tu⟩:=info_parts awZ;exact uJ s x 116 ho base 3 i0 _ 8 Tryz.underlying116 hi qm tZ tu rfl afF v xs hs bz B a m c ys hx hy ae (by simp only[maxLen];omega) dE h
theorem Uc (mF:o.guard=none) s x
  (ho:o.op= .call {callee:= .builtin .append,args:=#[s,x],argTypes:=#[116,116]}) base
  v xs (hs:ac.eval s=v) (bz:Own kC 3 w base v xs) B a m c ys (hx:ac.eval x=an a m c) (hy:jq kC w B a m ys)
  (fB:xs.length+m<=10000000) (dE:base<=w)
  (h:∀v' w',Hid (Own kC 3 w' base v' (xs++ys))->Hid (Below base w w')->wpList prog ops Q rest (ac.put o.dst v') w'):wpList prog ops Q (o::rest) ac w:=
 wpList_plain mF λ_ hK=>ack s x ho base v xs hs bz B a m c ys hx hy fB dE λv' w' h1 h2 _=>hK _ _ (h v' w' (ag h1) (ag (kD (aE base w) bz h2 dE)))
theorem XX {cs} (mF:o.guard=none) s x
  (ho:o.op= .call {callee:= .builtin .append,args:=#[s,x],argTypes:=#[116,116]}) base
  v xs (hs:ac.eval s=v) (bz:Own kC 3 w base v xs) y (hx:ac.eval x=an (w,0) 1 1) (gm:cs=#[O aa y])
  (fB:xs.length<=1000000) (dE:base<=w)
  (h:∀v' w',Hid (Own kC 3 w' base v' (xs++[y]))->Hid (Below base w w')->wpList prog ops Q rest (ac.put o.dst v') w'):wpList prog ops Q (o::rest) ac (w.alloc (.cells cs 3)):=
 Uc mF s x ho base v xs hs (bz.alloc _) _ _ 1 1 [y] hx (jq.lit w 3 [y] 1 rfl ae gm) ae (by simp;omega) λv' w' h1 h2=>
  h v' w' h1 (ag (((aE base w).alloc dE _).trans h2))
end
theorem jq.atI {w B a n xs} (h:jq kC w B a n xs) {k} (hk:k<n):
  ∃b o,∃h',a=some ⟨b,o,none⟩/\b<B/\w.cell? (aw b (o+k))=some (O aa xs[k]):=h.YJ hk
end Go.Proofs.YtnieckfelfoopaaGreat

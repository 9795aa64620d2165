import Derived.Deep.RegionWith
import Derived.Lib.Bytealg
import Derived.Laws.Externs
import Derived.Test.YtnieckfelfoopaaGreatDirUndo
import Derived.Test.YtnieckfelfoopaaGreatNodWrite
open And renaming intro->cJ
open Array renaming replicate->cB,replicate_succ->dT,replicate_zero->ee
open Go.AllReadyH renaming cons->bX,nil->cN
open Go.IntWalk renaming i64_in->bq
open Go.RowKit.Below renaming refl->aE
open Go.World renaming size_alloc->bR,size_setCell->cT
open List renaming replicate->bt,mem_map->bw,length_append->bE,mem_cons->bS,mem_append->cv,range->cz,append_nil->cC,length_cons->cD,map_cons->cE,mem_singleton->cG,length_take->cI,take_of_length_le->cL,nil_append->cP,append_assoc->cQ,size_toArray->cU,length_nil->cV,getElem?_eq_getElem->cX,not_mem_nil->cY,getD_eq_getElem?_getD->db,cons_append->dj,length_drop->dk,length_replicate->dx,range_succ->dz,append_toArray->ef,eq_nil_of_length_eq_zero->ek
open Nat renaming le_refl->bp,le_trans->bB,zero_le->bN
open UInt8 renaming ofNat->bx,toNat_ofNat'->eh
open Go.Value renaming int->O,slice->an,tuple->ao,bool->aq
open Go.IntKind renaming i64->aa
open Go.Ending renaming returned->ar
open Go.RowKit renaming Hid->aL
open Go.Proofs.Tryz (prog)
set_option maxRecDepth 100000
set_option maxHeartbeats 16000000
namespace Go.Proofs.YtnieckfelfoopaaGreat
open Lib (hid)
section
open RowKit fG aO
variable {NB B P:Nat} {Q:Nat->Prop} {w w':World} {f:Fm} {s:Ps}
namespace aO
def Yk (s:Ps) (io:zO.Io) n:=if Dq s.g io n=0 then zeros else s.g (Dq s.g io n)
def Jo off e:=min 64 (off%64+(e-off))
def rdB s io off e:=((Yk s io (off/64)).take (Jo off e)).drop (off%64)
def VD:Nat->Ps->zO.Io->Nat->Nat->List UInt8
 |0,_,_,_,_=>[]
 |m+1,s,io,off,e=>if off<e then rdB s io off e++VD m s io (off+(Jo off e-off%64)) e else[]
theorem ami {off e} (h:off<e):off%64<Jo off e/\Jo off e<=64/\off+(Jo off e-off%64)<=e:=by unfold Jo;omega
theorem Ym {s} (ho:s.Ok) {io} (hw:Wf s io) {n} (hn:n<1062):(Yk s io n).length=64:=by
 unfold Yk
 split
 .exact wC
 .rename_i h;exact ho.sz _ ((hw.at_ hn).there h)
theorem amj {s} (ho:s.Ok) {io} (hw:Wf s io) {off e} (hn:off/64<1062):(rdB s io off e).length=Jo off e-off%64:=by unfold rdB;rw[dk,cI,Ym ho hw hn];unfold Jo;omega
end aO
theorem aie {B W W'} (h:Below B W W'):Kq (λk=>B<=k) W W':=⟨h.os,h.tape,h.output,h.size,λk _ h1=>h.block k ae⟩
def RG (NB B:Nat) (Q:Nat->Prop) (P:Nat) (f:Fm) (s:Ps) (x:List UInt8) (w:World) (e:Ending) w':=
 (∃v,e=ar (ao #[v,O aa 0])/\Own aJ 5 w' w v x)/\bZ NB B Q w' P f s/\Kq Q w w'
theorem Nr {fi} {off n z e:Nat} {R} (h:bZ NB B Q w P f s) (hw:Wf s fi.io) (hn:n<=1024) (hz:fi.s=(z:Int)) (tu:z<=384) (amk:off<=384) (he:e=off+min n (z-off)) (hR:R=VD 20 s fi.io off e):
  Calls prog 87 #[P,GL fi,O aa off,O aa n] w (RG NB B Q P f s R w):=by
 obtain⟨HH,HW,UI⟩:=cp h hw hw.dl;obtain⟨HZz,HR,HE0⟩:=cp hz hR he;clear hR he;unfold GL dZ;have g0:¬(off:Int)<0:=ae;have g1:¬(n:Int)<0:=ae;have g2:¬(1024:Int)<(n:Int):=ae;clear h hw
 go_in
 rw[hz];obtain⟨w2,jT⟩:∃W,W=w.alloc (.cells #[O aa fi.k,O aa fi.l,O aa z,O aa (nd fi 0),O aa (nd fi 1),O aa (nd fi 2),O aa (nd fi 3),O aa (nd fi 4),O aa (nd fi 5),O aa fi.io.s,O aa fi.io.b] 107):=⟨_,rfl⟩
 have aZ:Below w w w2:=by rw[jT];exact(aE _ w).alloc av _
 have qm:aF w2 w 107 #[O aa fi.k,O aa fi.l,O aa z,O aa (nd fi 0),O aa (nd fi 1),O aa (nd fi 2),O aa (nd fi 3),O aa (nd fi 4),O aa (nd fi 5),O aa fi.io.s,O aa fi.io.b]:=by rw[jT];exact aF.new w _ _
 have mQ:w2.heap.size=w.heap.size+1:=by rw[jT];simp
 obtain⟨df,HZ0,qN,ui,HW2⟩:=ct aZ qm mQ (HH.on aZ) jT;clear aZ qm mQ hz jT;by_cases aT:off<z
 .have gz:¬(z:Int)<=(off:Int):=ae;go_upto_region 8 with fail;rw[<-HW2.o];obtain⟨w1,ku⟩:∃W,W=w2.alloc (.cells #[.pointer (some ⟨P,0,none⟩),O aa fi.k,O aa fi.l,O aa z,O aa (nd fi 0),O aa (nd fi 1),O aa (nd fi 2),O aa (nd fi 3),O aa (nd fi 4),O aa (nd fi 5),O aa fi.io.s,O aa fi.io.b] 204):=⟨_,rfl⟩
  rw[<-ku];have bP:Below w2 w2 w1:=by rw[ku];exact(aE _ w2).alloc av _
  have UH:vg w1 (w.heap.size+1) P fi:=by rw[ku,<-qN.o,<-HZz.o];exact vg.made w2 UI.o P
  have jA:w1.heap.size=w.heap.size+2:=by rw[ku];simp[qN.o]
  have y2:=(HZ0.ah bP).aj (i:=2) rfl;obtain⟨sV,iH,HN1⟩:=cp (ui.on bP) ((Kq.of (T:=Q) df).on bP) UH;have he:=HE0.o;have h1:=bq ((z:Int)-(off:Int)) ⟨ae,ae⟩;have h2:min (n:Int) ((z:Int)-(off:Int))=(e:Int)-(off:Int):=ae;have h3:=bq ((off:Int)+((e:Int)-(off:Int))) ⟨ae,ae⟩;have h4:(off:Int)+((e:Int)-(off:Int))=(e:Int):=ae;have HE:=ag (show off<=e/\e<=off+1024/\e<=z by omega);clear ku bP UH he;go_wp2_with fail;refine(dV sV).mono ?_;rintro e9 w_ ⟨rfl,rfl⟩;clear y2 h1 h2 h3 h4;go_wp2_with fail;obtain⟨HF,pG⟩:=cn (show¬Q (w.heap.size+1) from HH.aV ae) jA;have wI:=ahz;have hl0:=HE.o
  go_loopw [2,12,14,15,16,17,18] (λv2 v12 _ _ _ _ _ wr=>∃(bI fu:Nat) (acc:List UInt8),v2=O aa bI/\Own aJ 5 wr w1 v12 acc/\bI<=e/\(bI<e->(e+63)/64-bI/64<=fu)/\acc.length+(e-bI)<=1024/\acc++VD fu s fi.io bI e=R/\bZ NB B Q wr P f s/\vg wr (w.heap.size+1) P fi/\Kq Q w1 wr) (λv2 _ _ _ _ _ _ _=>100000-(intOf v2).toNat)
  case atStart=>exact⟨off,20,[],rfl,Own.nil _ _,ae,λ_=>ae,by simp;omega,by rw[HR.o];rfl,sV,HN1,Kq.refl _ _⟩
  case round=>
   obtain⟨bI,fu,acc,rfl,ho',hle,hfu,hac,hR',hp',hn',nD⟩:=hrel;obtain⟨HO',HP',JD,HK',HR'⟩:=ct ho' hp' hn' nD hR';clear ho' hp' hn' nD hR';by_cases pM:bI<e
   .have h1:=hfu pM;obtain⟨fu,rfl⟩:∃k,fu=k+1:=⟨fu-1,ae⟩
    have HFu:=ag (show(e+63)/64-bI/64<=fu+1 from h1);obtain⟨k,hk⟩:=aW (bI/64);obtain⟨Aw,CO,JF⟩:=cp (show(acc++rdB s fi.io bI e)++VD fu s fi.io (bI+(Jo bI e-bI%64)) e=R from by rw[<-HR'.o,cQ];exact congrArg _ (ev pM).symm) (amj HH.ok HW (off:=bI) (e:=e) ae) (Ym HH.ok HW (n:=k) ae);obtain⟨HRb,nz,HHe⟩:=cp (show rdB s fi.io bI e=((Yk s fi.io k).take (Jo bI e)).drop (bI%64) by rw[hk];rfl) (ami pM) (show Jo bI e=min 64 (bI%64+(e-bI)) from rfl);obtain⟨L,hL⟩:=aW (Jo bI e);rw[<-hL] at Aw CO HRb nz HHe;obtain⟨X,hX⟩:=aW (rdB s fi.io bI e);rw[<-hX] at Aw CO HRb;obtain⟨At,RN⟩:=aW (Dq s.g fi.io k);have UM:=ag RN;obtain⟨pg,rU⟩:=aW (Yk s fi.io k);have IG:=ag (show pg=if At=0 then zeros else s.g At from by rw[rU,RN];rfl);rw[<-rU] at HRb JF;have HAc:=ag (λW (hp:bZ NB B Q W P f s) (hn:vg W (w.heap.size+1) P fi)=>(show Calls prog 135 #[.pointer (some ⟨w.heap.size+1,0,none⟩),O aa ((bI:Int)/64)] W (vO NB B Q P f s (O aa At) W) from by rw[RN,show(bI:Int)/64=(k:Int) from ae];exact uj hp hn HF HW ae));have q0:IntKind.i64.wrap (Int.tdiv (bI:Int) 64)=(k:Int):=by rw[Int.tdiv_eq_ediv_of_nonneg ae];rw[show(bI:Int)/64=(k:Int) from ae];exact bq (k:Int) ⟨ae,ae⟩
    have EP:=ag (show At≠0->s.There At from λh0=>by rw[RN] at h0⊢;exact(HW.at_ ae).there h0);clear h1 hfu hL hX RN rU hk;go_upto_region 13 with fail;have fM:Below wr wr (wr.alloc (.cells (cB 64 (O .u8 0)) 5)):=(aE _ wr).alloc av _;obtain⟨HZr,HPa,HNa⟩:=cp ((kU wr wr 64 av ae).mono (show w1.heap.size<=wr.heap.size from HK'.size)) (HP'.on fM) (JD.on fM);obtain⟨HKa,HOa,HZb⟩:=cp (HK'.on fM) (HO'.kq (Kq.of (T:=Q) fM) λq hq h=>by have:=(HO'.aN q hq).1;have:=(HH.bnd q h).2;omega) (show∀q,u12.ownBlock=some q->q≠wr.heap.size from λq hq=>by have:=(HO'.aN q hq).2;omega);clear fM wI;generalize wr.alloc (.cells (cB 64 (O .u8 0)) 5)=W at*;generalize wr.heap.size=g at*;go_wp2_with fail;refine(HAc.o W HPa HNa).mono ?_;rintro e9 W2 ⟨rfl,jU,eU⟩;obtain⟨axT,arW⟩:=cn jU eU;clear jU eU;go_upto_if 63 with fail
    go_cut [14] from 52 to 94 (λv14 wx=>∃g c,v14=an (some ⟨g,0,none⟩) 64 c/\Hid (64<=c)/\Hid (Bytes wx wx (some ⟨g,0,none⟩) 64 pg)/\Hid (bZ NB B Q wx P f s)/\Hid (Kq Q W wx))
    case first=>
     by_cases h0:At=0
     .have gz:((At:Int)==0)=true:=by rw[beq_iff_eq];omega
      have HPz:=ag (show pg=zeros from IG.trans (ev h0));clear h0;go_wp2_with fail;go_meet
      case rel=>
       refine⟨g,64,rfl,ag av,hid ?_,axT,arW⟩;rw[HPz.o];have hz:Own aJ 5 W2 w1 (an (some ⟨g,0,none⟩) 64 64) zeros:=HZr.kq arW.o λq hq h=>by have:=(HZr.aN q hq).1;have:=(HH.bnd q h).2;omega
       exact hz.arr aB
     .have gz:((At:Int)==0)=false:=by rw[ew];omega
      obtain⟨HPz,EZ⟩:=cn (show pg=s.g At from IG.trans (eo h0)) (EP.o h0);clear h0;go_wp2_with fail;refine(mV axT EZ).mono ?_;rintro e9 W3 ⟨⟨v,rfl,ho⟩,wL,mr⟩;have Y3:=wL.ok.sz At EZ.o;obtain⟨a3,c3,rfl,xM⟩:=ho.bG Y3;obtain⟨g3,rfl,_,_⟩:=ho.addr (by rw[Y3];omega);obtain⟨IQ,EM,pU,jZ⟩:=cr (show Bytes W3 W3 (some ⟨g3,0,none⟩) 64 pg from by rw[HPz.o];exact ho.arr (by rw[Y3];decide)) xM wL (arW.trans mr);clear ho wL mr Y3 xM;go_wp2_with fail;go_meet
      case rel=>exact⟨g3,c3,rfl,EM,IQ,pU,jZ⟩
    case rest=>
     obtain⟨g4,c4,rfl,N8,HX4,NJ,kX⟩:=hcut;generalize wc=W4 at*;clear q0;have hh1:=nz.o;have hhe:=HHe.o;have aoE:∀u,(Instr.slice 23 (an (some ⟨g4,0,none⟩) 64 c4) (some (O aa ((bI:Int)%64))) (some (O aa L)) none).run prog u= .ok (an (some ⟨g4,bI%64,none⟩) (L-bI%64:Nat) (c4-bI%64:Nat)) u:=λu=>by have h:=vK (some ⟨g4,0,none⟩) 64 c4 (bI%64) L ae (by have:=N8.o;omega) u;rw[iQ,eo (by have:=N8.o;omega)] at h;rw[show(bI:Int)%64=((bI%64:Nat):Int) from ae,h];show Result.ok (Value.slice (some (((g4,0):Addr).add (bI%64))) _ _) u=_;rw[Addr.add_mid,Nat.zero_add]
     obtain⟨aEh,HS5,HP5⟩:=cp aoE (show w1.heap.size<=W4.drew.heap.size from bB HKa.size (bB kX.size (ak W4).size)) (NJ.on (ak W4));obtain⟨wS,zM,Gs⟩:=cp ((HKa.trans kX).on (ak W4)) ((HNa.kq kX HF).on (ak W4)) ((HOa.kq kX λq hq h=>by have:=(HOa.aN q hq).1;have:=(HH.bnd q h).2;omega).kq (Kq.of (T:=λ_=>False) (ak W4)) λq hq h=>h);have Fq:=ag (show Bytes W4.drew W4.drew (g4,bI%64) (L-bI%64) X from by
      have h1:=((HX4.on (ak W4)).take (show L<=64 by omega)).drop (l:=bI%64) (c:=c4) ae (by have:=N8.o;omega);rw[iQ,eo (by have:=N8.o;omega),<-HRb.o] at h1;have e:((g4,0):Addr).add (bI%64)=(g4,bI%64):=by rw[Addr.add_mid,Nat.zero_add]
      rw[<-e];exact h1)
     clear aoE;have q2:=bq ((bI:Int)%64) ⟨ae,ae⟩;have q3:Int.tmod (bI:Int) 64=(bI:Int)%64:=Int.tmod_eq_emod_of_nonneg ae;have q4:=bq ((bI:Int)%64+(e:Int)) ⟨ae,ae⟩;have q5:=bq ((bI:Int)%64+(e:Int)-(bI:Int)) ⟨ae,ae⟩;have q6:min (64:Int) ((bI:Int)%64+(e:Int)-(bI:Int))=(L:Int):=ae;have q7:L<=c4:=by have:=N8.o;omega
     clear hh1 hhe;go_upto_region 19 with fail;refine iE (λ_=>True) trivial (λaY=>?_);refine dG 0 (an (g4,0) 64 c4) ?_;refine dI 1 (bI:Int) ?_;refine dI 2 64 ?_;refine iR 3 ((bI:Int)%64) ?_;refine dI 4 64 ?_;refine dI 5 (bI:Int) ?_;refine dI 6 64 ?_;refine iR 7 ((bI:Int)%64) ?_;refine dI 8 (e:Int) ?_;refine iR 9 (((bI:Int)%64+(e:Int))) ?_;refine dI 10 (bI:Int) ?_;refine iR 11 (((bI:Int)%64+(e:Int)-(bI:Int))) ?_;refine iR 12 (L:Int) ?_;refine kS 13 (an (g4,bI%64) (L-bI%64:Nat) (c4-bI%64:Nat)) (λ_ aK=>aEh.o) ?_;refine dG 14 (an (g4,bI%64) (L-bI%64:Nat) (c4-bI%64:Nat)) ?_;refine eH ?_;clear aY q2 q3 q4 q5 q6;generalize W4.drew=W5 at*;obtain⟨pl,uh⟩:=aW (L-bI%64);rw[<-uh];rw[<-uh] at Fq Aw CO;have hh1:=nz.o;rw[<-uh] at hh1;obtain⟨arX,aEi,HGk⟩:=cp (show 1<=pl/\bI+pl<=e/\pl<=64 by omega) (show bI+pl<e->(bI+pl)%64=0 by have:=HHe.o;omega) (bq ((bI:Int)+(pl:Int)) ⟨ae,ae⟩);have gk:=HGk.o;have aLG:acc.length+pl<=1024:=by have:=arX.o;omega
     clear hh1 uh
     go_wp2_with (at_builtin;refine ik rfl _ _ rfl w1 u12 acc rfl Gs _ (g4,bI%64) pl (c4-bI%64) X rfl Fq ae HS5 ?_;intro v6 W6 BQ ve)
     have ql:=ag (aie ve);have hs6:=pG.o;go_roundw
     case rel=>
      have h1:=arX.o;refine⟨bI+pl,fu,acc++X,by go_num,BQ,ae,λh=>?_,?_,Aw,HP5.kq ql λq hq h=>?_,zM.kq ql ae,wS.aA ql λq h=> .inr h⟩
      .have:=aEi.o h;have:=HFu.o;omega
      .rw[bE,CO.o];omega
      .have:=(HH.bnd q hq).2;omega
     case measure=>have h1:=arX.o;have h2:=HGk.o;simp only[intOf];omega
   .have ge:¬(bI:Int)<(e:Int):=ae;have HRe:=ag (show R=acc from by
     rw[<-HR'.o]
     cases fu with
     |zero=>exact cC _
     |succ k=>rw[show VD (k+1) s fi.io bI e=[] from eo pM,cC])
    go_wp2_with fail;go_ret2;exact⟨⟨_,rfl,by rw[HRe.o];exact HO'.mono (by have:=pG.o;omega)⟩,HP',iH.trans HK'⟩
 .have gz:(z:Int)<=(off:Int):=ae;have tC:=ag (show R=[] from HR.trans (eo (by have:=HE0.o;omega)));go_wp2_with fail;rw[<-HW2.o];go_ret2;exact⟨⟨_,rfl,by rw[tC.o];exact Own.nil _ _⟩,ui,Kq.of df⟩
theorem AQ {fi} {off n z:Nat} (h:bZ NB B Q w P f s) (hw:Wf s fi.io) (hn:n<=1024) (hz:fi.s=(z:Int)) (tu:z<=384) (amk:off<=384):
  Calls prog 87 #[P,GL fi,O aa off,O aa n] w (RG NB B Q P f s (VD 20 s fi.io off (off+min n (z-off))) w):=
 Nr h hw hn hz tu amk rfl rfl
end
section
open RowKit fG
variable {NB B P T:Nat} {Q:Nat->Prop} {w w':World} {f:Fm} {s:Ps}
def qK w T P:=aF w T 150 #[.pointer (some ⟨P,0,none⟩)]
theorem qK.c0 (h:qK w T P):w.cell? (T,0)=some (.pointer (P,0)):=aF.aj h (i:=0) rfl
theorem qK.on (h:qK w T P) (hb:Below w w w'):qK w' T P:=aF.ah h hb
theorem qK.kq {U} (h:qK w T P) (hk:Kq U w w') (hT:¬U T):qK w' T P:=aF.kq h hk hT
theorem qK.lt (h:qK w T P):T<w:=aF.lt h
def ind (s:Ps) (n:Nat):=aO.qA (s.g (1+(n-1)/2)) (((n-1)%2:Nat))
def wQ (s:Ps) (n:Nat):=aO.aI (s.g (1+(n-1)/2)) (((n-1)%2:Nat))
def gI (s:Ps) (n:Nat) i:=s.put (1+(n-1)/2) (aO.putAt (s.g (1+(n-1)/2)) ((n-1)%2) i)
theorem SG:(prog.info? 93).map (·.size)=some 4:=az
theorem afo a b c d:∀u,(Instr.field 93 (.agg #[a,b,c,d]) 3).run prog u= .ok d u:=λu=>az
theorem SH a b c d:(#[O aa a,O aa b,O aa c,O aa d]:Array Value).all (·.oneCell')=true:=by simp[Value.oneCell']
theorem jF (h:bZ NB B Q w P f s):Calls prog 40 #[P] w λe w'=>e=ar (.agg #[O aa s.tb,O aa (s.tb+1),O aa s.np,O aa s.ino])/\Below w w w':=by
 have hb:=(aE w w).alloc av (.cells #[O aa 0,O aa 0,O aa 0,O aa 0] 93);have h1:=h.on hb;have c1:=h1.c1;have c2:=h1.c2;have c3:=h1.c3;have c4:=h1.c4;obtain⟨HB,HL⟩:=cn hb (aF.new w 93 #[O aa 0,O aa 0,O aa 0,O aa 0]);clear h hb h1
 go_in
 go_wp2_with (refine aH rfl rfl _ _ _ rfl w #[O aa s.tb,O aa ((s.tb:Int)+1),O aa s.np,O aa s.ino] rfl rfl 93 #[O aa 0,O aa 0,O aa 0,O aa 0] HL rfl SG (SH _ _ _ _) ?_)
 have hr:=HL.row #[O aa s.tb,O aa ((s.tb:Int)+1),O aa s.np,O aa s.ino];obtain⟨z0,z1,z2,z3⟩:=hr.c4;refine bodyPost_ret (v:= .agg #[O aa s.tb,O aa ((s.tb:Int)+1),O aa s.np,O aa s.ino]) (by simp[results,Tryz.results40,go_sem,z0,z1,z2,z3]) rfl ⟨rfl,?_⟩;exact below_setRow HB.o av _
theorem rM (h:bZ NB B Q w P f s) (hT:qK w T P) {n} (h1:1<=n) (h2:n<=s.ino) (h3:s.ino<=100000):
  Calls prog 99 #[T,O aa n] w λe w'=>e=ar (ao #[O aa ((1+(n-1)/2:Nat)),O aa (((n-1)%2:Nat)),O aa 0])/\Below w w w':=by
 obtain⟨HP,HT⟩:=cn h hT;have c0:=hT.c0;have g1:¬(n:Int)<1:=ae;have g2:¬(s.ino:Int)<(n:Int):=ae;have HPp:=ag (show Ino.eF 64=2 from aB);have q1:=bq ((n:Int)-1) ⟨ae,ae⟩;have q2:IntKind.i64.wrap (Int.tdiv ((n:Int)-1) 2)=((n:Int)-1)/2:=by rw[Int.tdiv_eq_ediv_of_nonneg ae];exact bq (((n:Int)-1)/2) ⟨ae,ae⟩
 have q3:=bq (1+((n:Int)-1)/2) ⟨ae,ae⟩;have q4:Int.tmod ((n:Int)-1) 2=((n:Int)-1)%2:=Int.tmod_eq_emod_of_nonneg ae;have q5:=bq (((n:Int)-1)%2) ⟨ae,ae⟩;have qf:=afo (O aa s.tb) (O aa ((s.tb:Int)+1)) (O aa s.np) (O aa s.ino);clear h hT
 go_in
 go_wp2_with fail;go_call(jF HP) as e w1 ⟨rfl,hb⟩;obtain⟨bV,sV⟩:=cn hb (HP.on hb);have c1:=(HT.on hb).c0;clear hb;go_wp2_with fail;refine(dV sV).cj ?_;go_wp2_with fail;refine(oN 64 w1).cj ?_;rw[HPp.o];go_wp2_with fail;refine iE (λ_=>True) trivial (λaY=>?_);refine dI 0 (n:Int) ?_;refine iR 1 ((n:Int)-1) ?_;refine dI 2 2 ?_;refine iR 3 (((n:Int)-1)/2) ?_;refine iR 4 (1+((n:Int)-1)/2) ?_;refine dI 5 (n:Int) ?_;refine iR 6 ((n:Int)-1) ?_;refine dI 7 2 ?_;refine iR 8 (((n:Int)-1)%2) ?_;refine dI 9 (1+((n:Int)-1)/2) ?_;refine dI 10 (((n:Int)-1)%2) ?_;refine dI 11 0 ?_;refine eH ?_;clear aY;go_wp2_with fail;refine bodyPost_ret (v:=ao #[O aa (1+((n:Int)-1)/2),O aa (((n:Int)-1)%2),O aa 0]) (by simp[results,Tryz.results99,go_sem]) rfl ?_;rw[show((1+(n-1)/2:Nat):Int)=1+((n:Int)-1)/2 from ae,show(((n-1)%2:Nat):Int)=((n:Int)-1)%2 from ae];exact⟨rfl,bV.drew⟩
theorem eY (h:bZ NB B Q w P f s) (hT:qK w T P) {n} (h1:1<=n) (h2:n<=s.ino) (h3:s.ino<=100000) (h4:(n-1)/2<s.tb):
  Calls prog 79 #[T,O aa n] w λe w'=>e=ar (ao #[tV (ind s n),O aa (wQ s n)])/\bZ NB B Q w' P f s/\Kq Q w w':=by
 have Az:s.There (1+(n-1)/2):= .inl ⟨ae,ae⟩;have hlen:=h.ok.sz _ Az;have hb:=(aE w w).alloc av (.cells bc 107);obtain⟨sV,RJ,VM,Ti,HB⟩:=ct (h.on hb) (hT.on hb) (aF.new w 107 bc) (h.aV av) hb;obtain⟨EP,kz,HP⟩:=cp Az hlen h;obtain⟨pg,rU⟩:=aW (1+(n-1)/2);obtain⟨k,hk⟩:=aW ((n-1)%2);have JF:=ag (show∀w:World,bZ NB B Q w P f s->qK w T P->Calls prog 99 #[T,O aa n] w λe w'=>e=ar (ao #[O aa pg,O aa k,O aa 0])/\Below w w w' from λw h hT=>by rw[rU,hk];exact rM h hT h1 h2 h3);have e1:ind s n=aO.qA (s.g pg) (k:Int):=by rw[rU,hk];rfl
 have e2:wQ s n=aO.aI (s.g pg) (k:Int):=by rw[rU,hk];rfl
 rw[<-rU] at EP kz;rw[e1,e2];clear h hT hb Az hlen rU hk h1 h2 h3 h4 e1 e2
 go_in
 go_wp2_with fail;generalize w.alloc (.cells bc 107)=W1 at*;go_call(JF.o W1 sV RJ) as e w2 ⟨rfl,aZ⟩;obtain⟨ui,df⟩:=cn (sV.on aZ) (HB.aA aZ);have c2:=(RJ.on aZ).c0;have xW:=ag (VM.ah aZ);clear aZ sV;go_wp2_with fail;go_call(mV ui EP) as e w3 ⟨⟨v,rfl,ho⟩,wL,mr⟩;obtain⟨a3,c3,rfl,xM⟩:=ho.bG kz.o;obtain⟨pU,jZ,IQ,wR,EM⟩:=ct wL (((Kq.of (T:=Q) df)).trans mr) (ho.arr (by rw[kz.o];decide)) (xW.kq mr Ti) xM;clear ho wL mr xM c2;go_wp2_with fail;go_call(FM a3 64 c3 (s.g pg) (k:Int) w3 IQ EM) as e w4 ⟨rfl,eG⟩;obtain⟨r,hr⟩:∃r,r=aO.qA (s.g pg) (k:Int):=⟨_,rfl⟩
 obtain⟨er,her⟩:∃er,er=aO.aI (s.g pg) (k:Int):=⟨_,rfl⟩
 rw[<-hr,<-her];obtain⟨kX,NJ,PT,EJ,tC⟩:=ct (jZ.on eG) (pU.on eG) (wR.ah eG) hr her;clear hr her eG jZ pU wR
 go_wp2_with (refine aH rfl rfl _ _ _ rfl w r rfl rfl 107 bc PT rfl dC (zC r) ?_)
 have q:=PT.row r;obtain⟨z0,z1,z2,z3,z4,z5,z6,z7,z8,z9,z10⟩:=q.c11;refine bodyPost_ret (v:=ao #[.agg r,O aa er]) (by simp[results,Tryz.results79,go_sem,z0,z1,z2,z3,z4,z5,z6,z7,z8,z9,z10]) rfl ⟨by rw[EJ.o,tC.o],NJ.kq (gJ w4 w r) λq hq e=>Ti.o (e▸hq),kX.aA (gJ w4 w r) λq e=> .inr ae⟩
theorem ah6 {x:List UInt8} (hx:x.length=64) {k:Nat} (hk:k<2):aO.In x.length k:=by rw[hx];exact⟨ae,by rw[show Ino.eF ((64:Nat):Int)=2 from aB];omega⟩
theorem kG (h:bZ NB B Q w P f s) (hT:qK w T P) (yD:¬Q T) {n} (h1:1<=n) (h2:n<=s.ino) (h3:s.ino<=100000) (h4:(n-1)/2<s.tb) i (hr:aO.Right i):
  Calls prog 81 #[T,O aa n,tV i] w λe w'=>e=ar (O aa 0)/\kF NB B Q w w' P f (gI s n i):=by
 have Az:s.There (1+(n-1)/2):= .inl ⟨ae,ae⟩;have hlen:=h.ok.sz _ Az;have hb:=(aE w w).alloc av (.cells i 107);obtain⟨sV,RJ,VM,Ti,Oz⟩:=ct (h.on hb) (hT.on hb) (aF.new w 107 i) (h.aV av) yD;obtain⟨Zx,HB,EP⟩:=cp h.base hb Az;obtain⟨kz,HIn,HR⟩:=cp hlen (ah6 hlen (k:=(n-1)%2) ae) hr;obtain⟨pg,rU⟩:=aW (1+(n-1)/2);obtain⟨k,hk⟩:=aW ((n-1)%2);have JF:=ag (show∀w:World,bZ NB B Q w P f s->qK w T P->Calls prog 99 #[T,O aa n] w λe w'=>e=ar (ao #[O aa pg,O aa k,O aa 0])/\Below w w w' from λw h hT=>by rw[rU,hk];exact rM h hT h1 h2 h3);have e1:gI s n i=s.put pg (aO.putAt (s.g pg) k i):=by rw[rU,hk];rfl
 rw[<-rU] at EP kz;rw[<-rU,<-hk] at HIn;rw[e1];clear h hT hb Az hlen rU hk h1 h2 h3 h4 e1 yD hr
 go_in
 go_wp2_with fail;generalize w.alloc (.cells i 107)=W1 at*;go_call(JF.o W1 sV RJ) as e w2 ⟨rfl,aZ⟩;obtain⟨ui,EZ,df⟩:=cp (sV.on aZ) (RJ.on aZ) (HB.aA aZ);have c2:=EZ.c0;have xW:=ag (VM.ah aZ);clear aZ sV;go_wp2_with fail;go_call(mV ui EP) as e w3 ⟨⟨v,rfl,ho⟩,wL,mr⟩;obtain⟨a3,c3,rfl,xM⟩:=ho.bG kz.o;obtain⟨pU,jZ,IQ,wR,HT3⟩:=ct wL (((Kq.of (T:=Q) df)).trans mr) (ho.arr (by rw[kz.o];decide)) (xW.kq mr Ti) (EZ.kq mr Oz);clear ho wL mr xM c2;obtain⟨y0,y1,y2,y3,y4,y5,y6,y7,y8,y9,GR⟩:=wR.c11;go_wp2_with fail;go_call(aa2 a3 64 c3 (s.g pg) (k:Int) i w3 IQ) as e w4 ⟨v,rfl,ho,eG⟩;have e3:aO.dA (s.g pg) (k:Int) i=0:=by unfold aO.dA;rw[ev HIn.o,ev HR.o]
 have e4:aO.aeC (s.g pg) (k:Int) i=aO.putAt (s.g pg) k i:=by unfold aO.aeC;rw[ev ⟨HIn,HR⟩,Int.toNat_natCast]
 rw[e4] at ho;rw[e3];have e5:(aO.putAt (s.g pg) k i).length=64:=by rw[aO.Ac (by rw[kz.o];have:=aO.wF HIn.o;rw[kz.o] at this;omega),kz.o]
 obtain⟨a4,c4,rfl,_⟩:=ho.bG e5;obtain⟨HX4,NJ,kX⟩:=cp (ho.arr (by rw[e5];decide)) (pU.on eG) (jZ.on eG);have c4':=(HT3.on eG).c0;clear ho eG e3 e4 e5 y0 y1 y2 y3 y4 y5 y6 y7 y8 y9 GR;go_wp2_with fail;go_call(wY NJ EP a4 c4 _ HX4) as e w5 ⟨rfl,vM⟩;have HP5:=ag (kF.behind kX vM Zx);clear vM c4';go_wp2;go_ret;exact⟨rfl,HP5⟩
end
section
open RowKit fG
variable {NB B P T:Nat} {Q:Nat->Prop} {w w':World} {f:Fm} {s:Ps}
def bH (fi:Nf):aO:=⟨fi.k,fi.l,fi.s,nd fi 0,nd fi 1,nd fi 2,nd fi 3,nd fi 4,nd fi 5,fi.io.s,fi.io.b⟩
structure Tdr NB B Q W3 P f s v X W:Prop where
 p:bZ NB B Q W P f s
 k:Kq Q W3 W
 o:Own aJ 5 W W3 v X
 q:∀q,Q q->q<W3
theorem Tdr.on {W3 W W' v X} (h:Tdr NB B Q W3 P f s v X W) (hb:Below W W W'):Tdr NB B Q W3 P f s v X W':=
 ⟨h.p.on hb,h.k.on hb,h.o.on hb,h.q⟩
theorem Tdr.ask {W3 W W' v X} (h:Tdr NB B Q W3 P f s v X W) (hp:bZ NB B Q W' P f s) (hk:Kq Q W W'):Tdr NB B Q W3 P f s v X W':=
 ⟨hp,h.k.trans hk,h.o.kq hk λq hq hQ=>by have:=(h.o.aN q hq).1;have:=h.q q hQ;omega,h.q⟩
theorem Tdr.app {W3 W W' v v' X X'} (h:Tdr NB B Q W3 P f s v X W) (ho:Own aJ 5 W' W3 v' X') (hb:Below W3 W W'):Tdr NB B Q W3 P f s v' X' W':=by refine⟨h.p.kq (T:=λk=>W3.heap.size<=k) (RI hb) λq hq h3=>by have:=h.q q hq;omega,⟨hb.os.trans h.k.os,hb.tape.trans h.k.tape,hb.output.trans h.k.output,bB h.k.size hb.size,λk hk hn=>(hb.block k hk).trans (h.k.block k hk hn)⟩,ho,h.q⟩
theorem ji {W I fi} (h:aF W I 107 (dZ fi)):W.cell? (I,0)=some (O aa fi.k)/\W.cell? (I,1)=some (O aa fi.l)/\W.cell? (I,2)=some (O aa fi.s)/\W.cell? (I,3)=some (O aa (nd fi 0))/\W.cell? (I,4)=some (O aa (nd fi 1))/\W.cell? (I,5)=some (O aa (nd fi 2))/\W.cell? (I,6)=some (O aa (nd fi 3))/\W.cell? (I,7)=some (O aa (nd fi 4))/\W.cell? (I,8)=some (O aa (nd fi 5))/\W.cell? (I,9)=some (O aa fi.io.s)/\W.cell? (I,10)=some (O aa fi.io.b):=
 ⟨h.aj (i:=0) rfl,h.aj (i:=1) rfl,h.aj (i:=2) rfl,h.aj (i:=3) rfl,h.aj (i:=4) rfl,h.aj (i:=5) rfl,h.aj (i:=6) rfl,h.aj (i:=7) rfl,h.aj (i:=8) rfl,h.aj (i:=9) rfl,h.aj (i:=10) rfl⟩
theorem Uw {fi} {n z:Nat} {X} (h:bZ NB B Q w P f s) (hT:qK w T P) (yD:¬Q T) (h1:1<=n) (h2:n<=s.ino) (h3:s.ino<=100000) (h4:(n-1)/2<s.tb)
  (hi:ind s n=bH fi) (he:wQ s n=0) (eU:fi.k=2) (hz:fi.s=z) (tu:z<=384) (hw:aO.Wf s fi.io) (hX:X.length=z) (xO:∀off,off<z->aO.VD 20 s fi.io off (off+min 1024 (z-off))=(X.drop off).take (min 1024 (z-off))):
  Calls prog 98 #[T,O aa n] w λe w'=>(∃v,e=ar (ao #[GL fi,v,O aa 0])/\Own aJ 5 w' w v X)/\bZ NB B Q w' P f s/\Kq Q w w':=by
 have hb:=(aE w w).alloc av (.cells bc 107);have sV:=ag (h.on hb);have RJ:=ag (hT.on hb);have VM:=ag (aF.new w 107 bc);have Ti:=ag (h.aV av);have HQb:=ag h.bnd;have Oz:=ag yD;have HB:=ag hb;have HI:=ag (show∀W:World,bZ NB B Q W P f s->qK W T P->Calls prog 79 #[T,O aa n] W λe w'=>e=ar (ao #[.agg (dZ fi),O aa 0])/\bZ NB B Q w' P f s/\Kq Q W w' from λW hW hT=>by have h:=eY hW hT h1 h2 h3 h4;rw[hi,he] at h;exact h);have sU:=ag (show∀W:World,∀off:Nat,bZ NB B Q W P f s->off<z->Calls prog 87 #[P,.agg (dZ fi),O aa off,O aa 1024] W (RG NB B Q P f s ((X.drop off).take (min 1024 (z-off))) W) from λW off hW ho=>by have h:=AQ (n:=1024) (off:=off) hW hw ae hz tu ae;rw[xO off ho] at h;exact h);have HX:=ag hX;have HZ:=ag hz;have ja:=ag eU;clear h hT yD hb hi he xO hX hz eU hw h1 h2 h3 h4
 go_in
 go_wp2_with fail;generalize w.alloc (.cells bc 107)=W1 at*;go_call(HI.o W1 sV RJ) as e W2 ⟨rfl,jU,eU⟩;have ui:=ag jU;have EZ:=ag (RJ.kq eU Oz);have xW:=ag (VM.kq eU Ti);have HKw:=ag ((Kq.of (T:=Q) HB).trans eU);have Js:=ag (show w.heap.size<W2.heap.size from xW.lt);clear jU eU;have JC:=ag (aF.new W2 107 bc);obtain⟨W3,rF⟩:=aW ((W2.alloc (.cells bc 107)).setRow W2 (dZ fi));have bJ:Below W2 W2 W3:=by rw[rF];exact((aE _ W2).alloc av _).bU av _
 have hi3:aF W3 W2 107 (dZ fi):=by rw[rF];exact JC.row _
 have HW3:=ag rF;have pU:=ag (ui.on bJ);have HT3:=ag (EZ.on bJ);have wR:=ag (xW.ah bJ);have jZ:=ag (HKw.on bJ);have qY:=ag hi3;have cO:=ag bJ;have y0:=hi3.aj (i:=0) (v:=O aa fi.k) rfl;have y2:=hi3.aj (i:=2) (v:=O aa fi.s) rfl;rw[ja.o] at y0;rw[HZ.o] at y2;obtain⟨I7,hI7⟩:=aW W2.heap.size;clear rF bJ hi3
 go_wp2_with (refine aH rfl rfl _ _ _ rfl W2 (dZ fi) rfl rfl 107 bc JC rfl dC (kL fi) ?_;rw[<-HW3.o])
 rw[<-hI7];have vN:=ag hI7;have HTd:=ag (show Tdr NB B Q W3 P f s (an none 0 0) (X.take 0) W3 from⟨pU,Kq.refl _ _,Own.nil _ _,λq hq=>(pU.bnd q hq).2⟩);have HTf:=ag (show∀W,Kq Q W3 W->qK W T P from λW hW=>HT3.kq hW Oz.o);have HIf:=ag (show∀W,Kq Q W3 W->aF W I7 107 (dZ fi) from λW hW=>by rw[hI7];exact qY.kq hW (ui.aV av));have HLf:=ag (show∀W,Kq Q W3 W->aF W w 107 bc from λW hW=>wR.kq hW Ti.o);have aEj:=ag (show w.heap.size<=W3.heap.size from jZ.o.size);clear y0 y2 hI7
 go_loopw [9,10,11,12] (λv9 v10 _ _ wr=>∃off:Nat,v10=O aa off/\off<=z/\Hid (Tdr NB B Q W3 P f s v9 (X.take off) wr)) (λ_ v10 _ _ _=>z-(intOf v10).toNat)
 case atStart=>exact⟨0,rfl,bN _,HTd⟩
 case round=>
  obtain⟨off,rfl,amk,HD⟩:=hrel;clear HTd;have y2:=(HIf.o wr HD.o.k).aj (i:=2) (v:=O aa fi.s) rfl;rw[HZ.o] at y2;have NI:=HX.o;have HTl:=ag (show(X.take off).length=off from by rw[cI];omega);clear NI;by_cases aT:off<z
  .have g1:(off:Int)<(z:Int):=ae;go_upto_region 10 with fail;obtain⟨a9,c9,hv9,_⟩:=HD.o.o.bG HTl.o;subst hv9;have HDd:=ag (HD.o.on (ak wr));refine iE (λW'=>W'.cell? (T,0)=some (.pointer (P,0))/\aF W' I7 107 (dZ fi)) ⟨(HTf.o _ HDd.o.k).c0,HIf.o _ HDd.o.k⟩ (λaY=>?_);generalize wr.drew=W4 at*;refine dw 0 T 0 ?_;refine aS 1 T 0 ?_;refine aS 2 T 0 ?_;refine kS 3 P (λ_ aK=>aK.1) ?_;refine jE 4 (.agg (dZ fi)) rfl (λ_ aK=>by obtain⟨y0,y1,y2,y3,y4,y5,y6,y7,y8,y9,GR⟩:=ji aK.2;unfold dZ;go_simp) ?_;refine dI 5 (off:Int) ?_;refine bY 6 (λK' hK=>?_);go_simp;go_call(sU.o W4 off HDd.o.p aT) as e W5 ⟨⟨v,rfl,ho⟩,vM,KJ⟩;obtain⟨m,hm⟩:=aW (min 1024 (z-off));rw[<-hm] at ho;have Gz:((X.drop off).take m).length=m:=by rw[cI,dk,HX.o];omega
   obtain⟨a5,c5,rfl,_⟩:=ho.bG Gz;have Gs:=ag (ho.arr (by rw[Gz];omega));have P6:=ag (HDd.o.ask vM KJ);have HM:=ag (show 0<m/\off+m<=z from ae);have aoO:=ag (show X.take off++(X.drop off).take m=X.take (off+m) from by rw[List.take_add]);clear ho vM KJ hm Gz;refine hK.out _ _ (⟨(HTf.o _ P6.o.k).c0,HIf.o _ P6.o.k⟩) (λnZ=>?_)
   refine dG 7 (ao #[an a5 m c5,O aa 0]) ?_;refine dG 8 (an a5 m c5) ?_;refine dI 9 0 ?_;refine dG 10 (an a5 m c5) ?_;refine dI 11 0 ?_;refine eH ?_;clear aY nZ;have EY:=HM.o;obtain⟨aeD,Iq⟩:=aW (off+m);have tJ:=ag (show aeD<=z/\off<aeD from ae);have axU:=ag (aoO.o.trans (by rw[Iq]):X.take off++(X.drop off).take m=X.take aeD);have xW:=ag (show(X.take aeD).length=aeD from by rw[cI,HX.o];omega);have KJ:=P6.o.k.size;clear Iq EY
   go_wp2_with (at_builtin;refine ik rfl _ _ rfl W3 _ (X.take off) rfl P6.o.o _ a5 m c5 _ rfl Gs.o (by have:=HM.o;rw[HTl.o];omega) KJ ?_;intro v6 W6 BQ ve;have ho6:=BQ.o;rw[axU.o] at ho6;obtain⟨a6,c6,hv6,_⟩:=ho6.bG xW.o;subst hv6;have HD6:=ag (P6.o.app ho6 ve.o);clear ho6)
   go_roundw
   case rel=>exact⟨aeD,rfl,tJ.o.1,HD6⟩
   case measure=>have:=tJ.o;simp[intOf];omega
  .have g1:¬(off:Int)<(z:Int):=ae;obtain rfl:off=z:=ae;have HO:=ag HD.o.o;have HXt:=ag (show X.take off=X from cL (by rw[HX.o];omega));have y:=HIf.o wr HD.o.k;obtain⟨y0,y1,y2',y3,y4,y5,y6,y7,y8,y9,GR⟩:=ji y;rw[HZ.o] at y2';have HLr:=ag (HLf.o wr HD.o.k);clear y2
   go_wp2_with (refine aH rfl rfl _ _ _ rfl w #[O aa fi.k,O aa fi.l,O aa off,O aa (nd fi 0),O aa (nd fi 1),O aa (nd fi 2),O aa (nd fi 3),O aa (nd fi 4),O aa (nd fi 5),O aa fi.io.s,O aa fi.io.b] rfl rfl 107 bc HLr.o rfl dC (zC ⟨fi.k,fi.l,(off:Int),nd fi 0,nd fi 1,nd fi 2,nd fi 3,nd fi 4,nd fi 5,(fi.io.s:Int),(fi.io.b:Int)⟩) ?_)
   have q:=HLr.o.row #[O aa fi.k,O aa fi.l,O aa off,O aa (nd fi 0),O aa (nd fi 1),O aa (nd fi 2),O aa (nd fi 3),O aa (nd fi 4),O aa (nd fi 5),O aa fi.io.s,O aa fi.io.b];obtain⟨z0,z1,z2,z3,z4,z5,z6,z7,z8,z9,z10⟩:=q.c11;have hkr:=gJ wr w #[O aa fi.k,O aa fi.l,O aa off,O aa (nd fi 0),O aa (nd fi 1),O aa (nd fi 2),O aa (nd fi 3),O aa (nd fi 4),O aa (nd fi 5),O aa fi.io.s,O aa fi.io.b];refine bodyPost_ret (v:=ao #[.agg #[O aa fi.k,O aa fi.l,O aa off,O aa (nd fi 0),O aa (nd fi 1),O aa (nd fi 2),O aa (nd fi 3),O aa (nd fi 4),O aa (nd fi 5),O aa fi.io.s,O aa fi.io.b],u9,O aa 0]) (by simp[results,Tryz.results98,go_sem,z0,z1,z2,z3,z4,z5,z6,z7,z8,z9,z10]) rfl ⟨⟨u9,by unfold GL dZ;rw[HZ.o],?_⟩,HD.o.p.kq hkr λq hq e=>Ti.o (e▸hq),(jZ.o.trans HD.o.k).aA hkr λq e=> .inr ae⟩;have ho:=HO.o;rw[HXt.o] at ho;exact(ho.kq hkr λq hq e=>by have:=(ho.aN q hq).1;have:=cO.o.size;have:=Js.o;omega).mono aEj.o
end
section
open RowKit fG
variable {NB B P T:Nat} {Q:Nat->Prop} {w w':World} {f:Fm} {s:Ps} {fi:Nf} {n:Nat} {X:List UInt8}
structure AZ (s:Ps) n fi (X:List UInt8):Prop where
 lo:1<=n
 hi:n<=s.ino
 big:s.ino<=100000
 pg:(n-1)/2<s.tb
 nd:ind s n=bH fi
 er:wQ s n=0
 k2:fi.k=2
 z:fi.s=X.length
 z2:X.length<=384
 wf:aO.Wf s fi.io
 rd:∀off,off<X.length->aO.VD 20 s fi.io off (off+min 1024 (X.length-off))=(X.drop off).take (min 1024 (X.length-off))
theorem A7 (h:bZ NB B Q w P f s) (hT:qK w T P) (yD:¬Q T) (d:AZ s n fi X):
  Calls prog 98 #[T,O aa n] w λe w'=>(∃v,e=ar (ao #[GL fi,v,O aa 0])/\Own aJ 5 w' w v X)/\bZ NB B Q w' P f s/\Kq Q w w':=
 Uw h hT yD d.lo d.hi d.big d.pg d.nd d.er d.k2 d.z d.z2 d.wf rfl d.rd
theorem yH (h:bZ NB B Q w P f s) (hT:qK w T P) (yD:¬Q T) (d:AZ s n fi X):
  Calls prog 92 #[T,O aa n] w λe w'=>(∃v,e=ar (ao #[v,O aa 0])/\Own aJ 5 w' w v X)/\bZ NB B Q w' P f s/\Kq Q w w':=by
 have HD:=ag (A7 h hT yD d);unfold GL dZ at HD;clear h hT yD d
 go_in
 go_wp2_with fail;go_call HD as e W2 ⟨⟨v,rfl,ho⟩,hp,hk⟩;obtain⟨HO,HP,HK⟩:=cp ho hp hk;clear ho hp hk HD;have JC:=ag (aF.new W2 107 bc);have bJ:Below W2 W2 ((W2.alloc (.cells bc 107)).setRow W2 fi):=((aE _ W2).alloc av _).bU av _;have cO:=ag bJ;clear bJ
 go_wp2_with (refine aH rfl rfl _ _ _ rfl W2 fi rfl rfl 107 bc JC rfl dC (kL fi) ?_)
 go_ret2;exact⟨⟨v,rfl,HO.on cO⟩,HP.on cO,HK.on cO⟩
theorem uN (h:bZ NB B Q w P f s) (hT:qK w T P) (yD:¬Q T) (d:AZ s n fi X) nm (hf:0<=(Dir.jk X nm).1):
  Calls prog 45 #[T,O aa n,.string (aX nm)] w λe w'=>e=ar (ao #[O aa (Dir.jk X nm).2,O aa 0])/\bZ NB B Q w' P f s/\Kq Q w w':=by
 obtain⟨HD,HZ⟩:=cn (yH h hT yD d) d.z2;have g1:¬(Dir.jk X nm).1<0:=ae;clear h hT yD d hf
 go_in
 go_wp2_with fail;go_call HD as e W2 ⟨⟨v,rfl,ho⟩,hp,hk⟩;obtain⟨a,c,rfl,hc⟩:=ho.bG rfl;obtain⟨HX,HC,HP,HK⟩:=cr (ho.arr (by have:=HZ.o;omega)) hc hp hk;clear ho hp hk HD hc;go_wp2_with fail;go_call(BD a _ c X nm W2 HX HC) as e W3 ⟨rfl,hb⟩;have HB:=ag hb;clear hb;obtain⟨r,hr⟩:=aW (Dir.jk X nm);rw[<-hr] at g1⊢;have HR:=ag hr;clear hr;go_wp2;go_ret2;exact⟨by rw[<-HR.o];rfl,HP.on HB,HK.on HB⟩
end
section
open fG zO
namespace vG
def zD (p:Nat):Io:=⟨[p,0,0,0,0,0],0,0⟩
def dN (l z p:Nat):Nf:=⟨2,l,z,zD p⟩
def pad (X:List UInt8):=X++bt (64-X.length) 0
theorem JU {X} (h:X.length<=64):(pad X).length=64:=by unfold pad;rw[bE,dx];omega
variable {s:Ps} {p n k:Nat}
theorem at0 g p:aO.Dq g (zD p) 0=p:=rfl
theorem wf1 (h:aO.Gd s p):aO.Wf s (zD p):=by
 refine⟨rfl,λn hn=>?_,rfl,rfl⟩;obtain rfl|rfl|rfl|rfl|rfl|rfl:n=0\/n=1\/n=2\/n=3\/n=4\/n=5:=ae
 .exact h
 all_goals exact .inl rfl
theorem aa1 {l z p} (hl:l<=1000) (hz:z<=64) (hp:p<8192):aO.Right (bH (dN l z p)):=by rw[aO.sQ (i:=bH (dN l z p)) (by show(2:Int)≠0;omega),show bH (dN l z p)=⟨2,l,z,p,0,0,0,0,0,0,0⟩ from rfl];unfold aO.Used aO.PI aO.Pg;grind
theorem yl1 g p:aO.yl g (zD p)=if p=0 then[] else[(0,p,0)]:=by
 unfold aO.yl zD;by_cases h:p=0
 .subst h;simp[dz,aO.ptrs]
 .simp[dz,aO.ptrs,h]
theorem aoF g p:gQ (aO.yl g (zD p))=if p=0 then[] else[0]:=by
 rw[yl1];by_cases h:p=0
 .rw[ev h,ev h];rfl
 .rw[eo h,eo h];rfl
theorem Yl:Room.vS 64 [] 0 1=(1,0):=iW
theorem aih:Room.vS 64 [0] 0 1=(0,0):=by
 have e:Room.row (Room.all [0] 0 1)=[0]:=Room.Nq (List.pairwise_singleton _ _) λx=>by rw[show Room.all [0] 0 1=[0,0] from rfl];simp
 unfold Room.vS;rw[e,show Room.file 64 [0]=(1,0) by decide+kernel];rfl
theorem rd1 {X} (hX:X.length<=64) (hp:X≠[]->p≠0/\s.g p=pad X) {off} (ho:off<X.length):aO.VD 20 s (zD p) off (off+min 1024 (X.length-off))=(X.drop off).take (min 1024 (X.length-off)):=by
 obtain⟨Oi,hg⟩:=hp (by grind);have e1:off+min 1024 (X.length-off)=X.length:=ae;have e2:(X.drop off).take (min 1024 (X.length-off))=X.drop off:=cL (by grind);have h64:off/64=0:=ae;have hm:off%64=off:=ae;have hH:aO.Jo off X.length=X.length:=by unfold aO.Jo;omega
 rw[e1,e2];show(if off<X.length then aO.rdB s (zD p) off X.length++aO.VD 19 s (zD p) (off+(aO.Jo off X.length-off%64)) X.length else[])=_;rw[ev ho,hH,hm,show off+(X.length-off)=X.length by omega];have e3:aO.VD 19 s (zD p) X.length X.length=[]:=eo ae;rw[e3,cC];unfold aO.rdB aO.Yk;rw[h64,hH,hm,at0,eo Oi,hg];unfold pad;rw[List.take_left'];rfl
end vG
structure VO s (fi:Nf) k sl s' Dv:Prop where
 hs:s'=(aO.Jy 1 s fi.io (16*k) sl).1
 hf:Dv=bD fi (max fi.s ((16*k+16:Nat))) (aO.Jy 1 s fi.io (16*k) sl).2
 more:∃mo,Room.vS 64 (gQ (aO.yl s.g fi.io)) ((16*k/64:Nat)) (((16*k+16+63)/64:Nat))=(mo,0)/\mo<=s.np-s.us.length
 ok:aO.ac4 1 s fi.io (16*k) sl
 tb:s'.tb=s.tb
 ino:s'.ino=s.ino
 right:aO.Right (bH Dv)
namespace vG
variable {s:Ps} {p n k l z:Nat} {sl:List UInt8}
theorem aii {x} (hs:sl.length=16) (hk:k<4):aO.wrX x (16*k) sl=x.take (16*k)++sl++x.drop (16*k+16):=by grind[aO.Ap,aO.wrX,cL]
theorem aij {io off b} (hb:b≠[]):aO.Jy 1 s io off b=aO.PL s io off b:=by grind[aO.Jy]
theorem aid (hp:p∈s.us) (hs:sl.length=16) (hk:k<4) (hz:z<=64) (hl:l<=1000) (ho:s.Ok) (hb:s.tb+s.np<8192) (hu:s.us.length<=s.np) (Oi:p≠0):
  VO s (dN l z p) k sl (s.put p ((s.g p).take (16*k)++sl++(s.g p).drop (16*k+16))) (dN l (max z (16*k+16)) p):=by
 have wZ:sl≠[]:=by grind
 have h64:16*k/64=0:=ae;have hg:=ho.sz p (.inr hp);have uh:=ho.us p hp;have he:aO.QN s (zD p) 0=(s,zD p,p):=eo (by rw[at0];exact Oi);have hw:aO.Jy 1 s (zD p) (16*k) sl=(s.put p ((s.g p).take (16*k)++sl++(s.g p).drop (16*k+16)),zD p):=by rw[aij wZ];unfold aO.PL;rw[h64,he,aii hs hk]
 refine⟨by show _=(aO.Jy 1 s (zD p) (16*k) sl).1;rw[hw],?_,⟨0,?_,ae⟩,.inr ⟨⟨wf1 (.inr hp),ae,λh=>?_,?_,?_⟩,?_⟩,rfl,rfl,aa1 hl ae ae⟩
 .show _=bD (dN l z p) _ (aO.Jy 1 s (zD p) (16*k) sl).2;rw[hw];unfold bD dN;grind
 .show Room.vS 64 (gQ (aO.yl s.g (zD p))) _ _=_;rw[aoF,eo Oi,h64,show(16*k+16+63)/64=1 by omega];exact aih
 .rw[show(dN l z p).io=zD p from rfl,h64,at0] at h;exact absurd h Oi
 .show(aO.QN s (zD p) (16*k/64)).1.There (aO.QN s (zD p) (16*k/64)).2.2;rw[h64,he];exact .inr hp
 .show(aO.QN s (zD p) (16*k/64)).2.1.d.length=6;rw[h64,he];rfl
 .show sl.drop (aO.Ap (16*k) sl)=[];exact List.drop_eq_nil_of_le (by unfold aO.Ap;omega)
theorem aic (hn:s.Nx p) (hs:sl.length=16) (hl:l<=1000) (ho:s.Ok) (hb:s.tb+s.np<8192) (hu:s.us.length<s.np):
  VO s (dN l 0 0) 0 sl ((s.add p).put p (sl++bt 48 0)) (dN l 16 p):=by
 have wZ:sl≠[]:=by grind
 have hlo:=hn.lo;have hhi:=hn.hi;have hnx:=Ps.acy hn;have zJ:=ho.add hn;have e0:(s.add p).g p=fG.zeros:=fD _ _ _;have he:aO.QN s (zD 0) 0=(s.add p,zD p,p):=by have e1:aO.QN s (zD 0) 0=((aO.CB (s.add s.nx) (zD 0) 0 s.nx).1,(aO.CB (s.add s.nx) (zD 0) 0 s.nx).2,s.nx):=ev rfl;rw[e1,hnx];rfl
 have hx:aO.wrX fG.zeros (16*0) sl=sl++bt 48 0:=by rw[aii hs ae];rfl
 have hw:aO.Jy 1 s (zD 0) (16*0) sl=((s.add p).put p (sl++bt 48 0),zD p):=by rw[aij wZ];unfold aO.PL;grind
 have Az:(s.add p).There p:= .inr (List.mem_append_right _ (cG.2 rfl));refine⟨by show _=(aO.Jy 1 s (zD 0) (16*0) sl).1;rw[hw],?_,⟨1,?_,ae⟩,.inr ⟨⟨wf1 (.inl rfl),ae,λ_=>⟨hu,?_⟩,?_,?_⟩,?_⟩,rfl,rfl,aa1 hl ae ae⟩
 .show _=bD (dN l 0 0) _ (aO.Jy 1 s (zD 0) (16*0) sl).2;rw[hw];rfl
 .show Room.vS 64 (gQ (aO.yl s.g (zD 0))) _ _=_;rw[aoF,ev rfl];exact Yl
 .show aO.VH (s.add s.nx) (zD 0) 0 s.nx;rw[hnx];exact⟨rfl,ae,ae⟩
 .show(aO.QN s (zD 0) 0).1.There (aO.QN s (zD 0) 0).2.2;rw[he];exact Az
 .show(aO.QN s (zD 0) 0).2.1.d.length=6;rw[he];rfl
 .show sl.drop (aO.Ap (16*0) sl)=[];exact List.drop_eq_nil_of_le (by unfold aO.Ap;omega)
end vG
end
section
open RowKit fG
variable {NB B P T:Nat} {Q:Nat->Prop} {w w':World} {f:Fm} {s:Ps} {n:Nat}
theorem Bd w (P:Nat):Calls prog 115 #[P] w λe w'=>e=ar (ao #[w,O aa 0])/\qK w' w P/\Below w w w':=by
 obtain⟨HN,HB⟩:=cn (show qK (w.alloc (.cells #[P] 150)) w P from aF.new w _ _) ((aE w w).alloc av (.cells #[P] 150))
 go_in
 go_wp2;go_ret2;exact⟨rfl,HN,HB⟩
theorem PH {m} (h:bZ NB B Q w P f s) (hT:qK w T P) (yD:¬Q T) (h1:1<=m) (h2:m<=s.ino) (h3:s.ino<=100000) (h4:(m-1)/2<s.tb)
  (hF:∀j,1<=j->j<m->wQ s j=0/\(ind s j).k≠0) (hM:wQ s m=0/\(ind s m).k=0):
  Calls prog 151 #[T] w λe w'=>e=ar (O aa m)/\bZ NB B Q w' P f s/\Kq Q w w':=by
 obtain⟨HP,HT,Oz⟩:=cp h hT yD;have HI:=ag (show∀(W:World) (j:Nat),bZ NB B Q W P f s->qK W T P->1<=j->j<=m->Calls prog 79 #[T,O aa j] W λe w'=>e=ar (ao #[tV (ind s j),O aa 0])/\bZ NB B Q w' P f s/\Kq Q W w' from λW j hW hT hj1 hj2=>by
  have h:=eY hW hT hj1 ae h3 (n:=j) ae;have he:wQ s j=0:=by
   by_cases e:j=m
   .rw[e];exact hM.1
   .exact(hF j hj1 ae).1
  rw[he] at h;exact h)
 obtain⟨HF,HM,HB⟩:=cp hF hM (show m<=s.ino/\s.ino<=100000 from⟨h2,h3⟩);have qf:=afo (O aa s.tb) (O aa ((s.tb:Int)+1)) (O aa s.np) (O aa s.ino);clear h hT yD hF hM h2 h3 h4
 go_in
 go_wp2_with fail
 go_loopw [3,4,5] (λv3 _ _ wr=>∃j:Nat,v3=O aa j/\1<=j/\j<=m/\Hid (bZ NB B Q wr P f s)/\Hid (Kq Q w wr)) (λv3 _ _ _=>m-(intOf v3).toNat)
 case atStart=>exact⟨1,rfl,bp _,h1,HP,ag (Kq.refl _ _)⟩
 case round=>
  obtain⟨j,rfl,hj1,hj2,EU,HKr⟩:=hrel;have nI:=HB.o;have g1:(j:Int)<=(s.ino:Int):=ae;have YP:=ag (HT.kq HKr Oz);have c0:=YP.c0;have q9:=bq ((j:Int)+1) ⟨ae,ae⟩;clear nI;go_wp2_with fail;go_call(jF EU) as e W1 ⟨rfl,bP⟩;obtain⟨sV,iH,RJ⟩:=cp (EU.on bP) (HKr.on bP) (YP.on bP);clear bP c0;go_wp2_with fail;go_call(HI.o W1 j sV RJ hj1 hj2) as e W2 ⟨rfl,jU,eU⟩;obtain⟨r,hr⟩:=aW (ind s j);rw[<-hr];obtain⟨VQ,HN⟩:=cn hr (aF.new W2 107 bc);obtain⟨W3,rF⟩:=aW ((W2.alloc (.cells bc 107)).setRow W2 r);have bJ:Below W2 W2 W3:=by rw[rF];exact((aE _ W2).alloc av _).bU av _
  have hi3:aF W3 W2 107 r:=by rw[rF];exact HN.row _
  have y0:=hi3.aj (i:=0) (v:=O aa r.k) rfl;obtain⟨HW3,pU,jZ⟩:=cp rF (jU.on bJ) ((iH.trans eU).on bJ);clear hr jU eU bJ hi3 rF;by_cases hjm:j<m
  .have g2:(r.k==0)=false:=by rw[ew,VQ.o];exact(HF.o j hj1 hjm).2
   go_wp2_with (refine aH rfl rfl _ _ _ rfl W2 r rfl rfl 107 bc HN rfl dC (zC r) ?_;rw[<-HW3.o])
   go_roundw
   case rel=>exact⟨j+1,by go_num,ae,ae,pU,jZ⟩
   case measure=>simp[intOf];omega
  .obtain rfl:j=m:=ae;have g2:(r.k==0)=true:=by rw[beq_iff_eq,VQ.o];exact HM.o.2
   go_wp2_with (refine aH rfl rfl _ _ _ rfl W2 r rfl rfl 107 bc HN rfl dC (zC r) ?_;rw[<-HW3.o])
   go_ret;exact⟨rfl,pU,jZ⟩
theorem aey {kd} (hk:kd=1\/kd=2):aO.Right ⟨kd,0,0,0,0,0,0,0,0,0,0⟩:=by rw[aO.sQ (by show kd≠0;omega)];unfold aO.Used aO.PI aO.Pg;simp only;omega
theorem OA {m kd} (hkd:kd=1\/kd=2) (h:bZ NB B Q w P f s) (hT:qK w T P) (yD:¬Q T) (h1:1<=m) (h2:m<=s.ino) (h3:s.ino<=100000) (h4:(m-1)/2<s.tb)
  (hF:∀j,1<=j->j<m->wQ s j=0/\(ind s j).k≠0) (hM:wQ s m=0/\(ind s m).k=0):
  Calls prog 94 #[T,O aa kd] w λe w'=>e=ar (ao #[O aa m,O aa 0])/\kF NB B Q w w' P f (gI s m ⟨kd,0,0,0,0,0,0,0,0,0,0⟩):=by
 obtain⟨HFr,jI,Zx,Oz,HT⟩:=ct (PH h hT yD h1 h2 h3 h4 hF hM) (show∀W:World,bZ NB B Q W P f s->qK W T P->Calls prog 81 #[T,O aa m,tV ⟨kd,0,0,0,0,0,0,0,0,0,0⟩] W λe w'=>e=ar (O aa 0)/\kF NB B Q W w' P f (gI s m ⟨kd,0,0,0,0,0,0,0,0,0,0⟩) from λW hW hT=>kG hW hT yD h1 h2 h3 h4 _ (aey hkd)) h.base yD hT;have g1:((m:Int)==0)=false:=by rw[ew];omega
 have hg:kd=1\/kd=2:=hkd;clear h hT yD hF hM h1 h2 h3 h4 hkd
 go_in
 rcases hg with rfl|rfl
 all_goals
  go_wp2_with fail;go_call HFr as e W2 ⟨rfl,hp,hk⟩;obtain⟨HP,HK,EZ⟩:=cp hp hk (HT.kq hk Oz);clear hp hk;go_wp2_with fail;go_call(jI.o W2 HP EZ) as e W3 ⟨rfl,wL⟩;have pU:=ag (kF.behind HK wL Zx);clear wL;go_wp2;go_ret2;exact⟨rfl,pU⟩
end
section
open fG zO
namespace vG
def zN:aO:=⟨0,0,0,0,0,0,0,0,0,0,0⟩
def Tb (s:Ps) (I:Nat->aO):=∀n,1<=n->n<=20->ind s n=I n/\wQ s n=0
structure Pg k (X:Nat->List UInt8) (s:Ps):Prop where
 tb:s.tb=10
 np:s.np=156
 ino:s.ino=20
 ok:s.Ok
 us:∀p,p∈s.us↔11<=p/\p<11+k
 pg:∀j,j<k->(X j).length<=64/\s.g (11+j)=pad (X j)
 no:∀j,k<=j->X j=[]
variable {s:Ps} {k n j:Nat} {X:Nat->List UInt8} {I:Nat->aO} {sl:List UInt8} {i:aO}
theorem Pg.len (h:Pg k X s):s.us.length=k:=by
 have h1:=Ps.mW (l:=s.us) (l':=(cz k).map (11+·)) h.ok.nd λx hx=>by have:=(h.us x).1 hx;exact bw.2 ⟨x-11,List.mem_range.2 ae,ae⟩
 have h2:=Ps.mW (l:=(cz k).map (11+·)) (l':=s.us) (by
  unfold List.Nodup;rw[List.pairwise_map];exact List.nodup_range.imp λh e=>h ae) λx hx=>by
  obtain⟨i,hi,rfl⟩:=bw.1 hx;have:=List.mem_range.1 hi;exact(h.us _).2 ae
 grind
theorem Pg.nx (h:Pg k X s) (hk:k<=100):s.Nx (11+k):=
 ⟨by rw[h.tb];omega,by rw[h.tb,h.np];omega,λhm=>by have:=(h.us _).1 hm;omega,λm h1 h2=>(h.us m).2 (by rw[h.tb] at h1;omega)⟩
def aD7 (k:Nat) (X:Nat->List UInt8) n:=if n<=k+1 then bH (dN 1 (X (n-1)).length (if n<=k then 10+n else 0)) else zN
structure Dp k X s:Prop where
 pg:Pg k X s
 tb:Tb s (aD7 k X)
def eqB (a b:aO):=a.k==b.k&&a.l==b.l&&a.s==b.s&&a.d0==b.d0&&a.d1==b.d1&&a.d2==b.d2&&a.d3==b.d3&&a.d4==b.d4&&a.d5==b.d5&&a.a==b.a&&a.b==b.b
theorem agd {a b} (h:eqB a b=true):a=b:=by obtain⟨a1,a2,a3,a4,a5,a6,a7,a8,a9,a10,a11⟩:=a;obtain⟨b1,b2,b3,b4,b5,b6,b7,b8,b9,b10,b11⟩:=b;unfold eqB at h;grind
end vG
end
section
open fG zO vG
namespace Ad
def zN:aO:=⟨0,0,0,0,0,0,0,0,0,0,0⟩
def qx (p q:Nat):Io:=⟨[p,q,0,0,0,0],0,0⟩
def fN (l z p q:Nat):Nf:=⟨1,l,z,qx p q⟩
theorem aD8 g p q:aO.Dq g (qx p q) 0=p:=rfl
theorem aD9 g p q:aO.Dq g (qx p q) 1=q:=rfl
variable {s s':Ps} {p q n j k m rp:Nat} {I:Nat->aO} {i:aO} {X x b:List UInt8}
theorem wf2 (h:aO.Gd s p) (h2:aO.Gd s q):aO.Wf s (qx p q):=by
 refine⟨rfl,λn hn=>?_,rfl,rfl⟩;obtain rfl|rfl|rfl|rfl|rfl|rfl:n=0\/n=1\/n=2\/n=3\/n=4\/n=5:=ae
 .exact h
 .exact h2
 all_goals exact .inl rfl
theorem Fh {l z p q} (hl:l<=1000) (hz:z<=1000) (hp:p<8192) (hq:q<8192):aO.Right (bH (fN l z p q)):=by rw[aO.sQ (i:=bH (fN l z p q)) (by show(1:Int)≠0;omega),show bH (fN l z p q)=⟨1,l,z,p,q,0,0,0,0,0,0⟩ from rfl];unfold aO.Used aO.PI aO.Pg;grind
theorem yl2 g p q:aO.yl g (qx p q)=(if p=0 then[] else[(0,p,0)])++if q=0 then[] else[(1,q,0)]:=by
 unfold aO.yl qx;by_cases h:p=0
 .by_cases h2:q=0
  .subst h;subst h2;simp[dz,aO.ptrs]
  .subst h;simp[dz,aO.ptrs,h2]
 .by_cases h2:q=0
  .subst h2;simp[dz,aO.ptrs,h]
  .simp[dz,aO.ptrs,h,h2]
theorem Yj g p q:gQ (aO.yl g (qx p q))=(if p=0 then[] else[0])++if q=0 then[] else[1]:=by grind[gQ,Ad.yl2]
theorem more2:Room.vS 64 [] 0 2=(2,0):=by
 have e:Room.row (Room.all [] 0 2)=[0,1]:=Room.Nq aB λx=>by rw[show Room.all [] 0 2=[0,1] from rfl]
 unfold Room.vS;rw[e,show Room.file 64 [0,1]=(2,0) by decide+kernel,show Room.file 64 []=(0,0) by decide+kernel];rfl
structure Tb (s:Ps) (I:Nat->aO):Prop where
 tb:s.tb=2
 np:s.np=36
 ino:s.ino=4
 ok:s.Ok
 nd:∀n,1<=n->n<=4->ind s n=I n/\wQ s n=0
theorem Tb.tab (h:Tb s I) (hn:n<4):(s.g (1+n/2)).length=64:=h.ok.sz _ (.inl ⟨ae,by rw[h.tb];omega⟩)
theorem QM s n i {m} (e:(m-1)/2=(n-1)/2):(gI s n i).g (1+(m-1)/2)=aO.putAt (s.g (1+(n-1)/2)) ((n-1)%2) i:=by rw[e];exact fD _ _ _
theorem amf s n i {m} (e:(m-1)/2≠(n-1)/2):(gI s n i).g (1+(m-1)/2)=s.g (1+(m-1)/2):=dS ae
def upI (I:Nat->aO) (n:Nat) i:=λm=>if m=n then i else I m
theorem Tb.gI (h:Tb s I) (h1:1<=n) (h2:n<=4) (hr:aO.Right i):Tb (gI s n i) (upI I n i):=by
 have hl:=h.tab (n:=n-1) ae;refine⟨h.tb,h.np,h.ino,h.ok.put (.inl ⟨ae,by rw[h.tb];omega⟩) (by rw[aO.Ac ae,hl]),λm m1 m2=>?_⟩;have yf:=ah6 hl (k:=(n-1)%2) ae;obtain⟨a1,a2⟩:=h.nd m m1 m2;unfold upI;by_cases e:m=n
 .subst e;rw[ev rfl];unfold ind wQ;rw[QM s m i rfl];have h9:=aO.ah7 (xs:=s.g (1+(m-1)/2)) (k:=(((m-1)%2:Nat):Int)) (i:=i) yf hr;grind
 .rw[eo e,<-a1,<-a2];unfold ind wQ;by_cases e2:(m-1)/2=(n-1)/2
  .rw[QM s n i e2,e2];have h9:=aO.aez (xs:=s.g (1+(n-1)/2)) (k:=(((n-1)%2:Nat):Int)) (t:=(((m-1)%2:Nat):Int)) (i:=i) yf ae;grind
  .rw[amf s n i e2];exact⟨rfl,rfl⟩
theorem Tb.far (h:Tb s I) (h1:s'.tb=s.tb) (h2:s'.np=s.np) (h3:s'.ino=s.ino) (ho:s'.Ok) (hg:∀p,1<=p->p<=2->s'.g p=s.g p):Tb s' I:=by refine⟨h1.trans h.tb,h2.trans h.np,h3.trans h.ino,ho,λm m1 m2=>?_⟩;have:=h.nd m m1 m2;unfold ind wQ at this⊢;grind
theorem Tb.congr (h:Tb s I) {J} (e:∀n,1<=n->n<=4->I n=J n):Tb s J:=⟨h.tb,h.np,h.ino,h.ok,λn h1 h2=>by rw[<-e n h1 h2];exact h.nd n h1 h2⟩
theorem Tb.us (h:Tb s I) (hp:p∈s.us):3<=p/\p<=38:=by have:=h.ok.us p hp;rw[h.tb,h.np] at this;omega
structure Fil (s:Ps) p q (X:List UInt8):Prop where
 len:X.length<=128
 p0:X=[]->p=0
 q0:X.length<=64->q=0
 pu:X≠[]->p∈s.us/\s.g p=pad (X.take 64)
 qu:64<X.length->q∈s.us/\q≠p/\s.g q=pad (X.drop 64)
theorem Fil.nil s:Fil s 0 0 []:=⟨bN _,λ_=>rfl,λ_=>rfl,λh=>absurd rfl h,λh=>absurd h aB⟩
theorem Fil.far (h:Fil s p q X) (hu:∀n,n≠0->n=p\/n=q->n∈s.us->n∈s'.us/\s'.g n=s.g n) (h0:∀n∈s.us,n≠0):Fil s' p q X:=
 ⟨h.len,h.p0,h.q0,λhx=>by
  obtain⟨h1,h2⟩:=h.pu hx;grind,λhx=>by
  obtain⟨h1,h2,h5⟩:=h.qu hx;grind⟩
theorem Fil.gd (h:Fil s p q X):aO.Gd s p/\aO.Gd s q:=by
 refine⟨?_,?_⟩
 .by_cases e:X=[]
  .exact .inl (h.p0 e)
  .exact .inr (h.pu e).1
 .rcases Nat.lt_or_ge 64 X.length with e|e
  .exact .inr (h.qu e).1
  .exact .inl (h.q0 e)
theorem Fil.read (h:Fil s p q X) (hz:∀n∈s.us,n≠0) (h1:X≠[]):aO.VD 20 s (qx p q) 0 (0+min 1024 (X.length-0))=X:=by
 have hl:=h.len;have hlp:=List.length_pos_iff.2 h1;obtain⟨hp,hg⟩:=h.pu h1;have Oi:=hz p hp;rw[show 0+min 1024 (X.length-0)=X.length by omega];show(if 0<X.length then aO.rdB s (qx p q) 0 X.length++aO.VD 19 s (qx p q) (0+(aO.Jo 0 X.length-0%64)) X.length else[])=X;rw[ev hlp];have hb:aO.rdB s (qx p q) 0 X.length=X.take 64:=by unfold aO.rdB aO.Yk;rw[show(0:Nat)/64=0 from rfl,aD8,eo Oi,hg,show(0:Nat)%64=0 from rfl,List.drop_zero];unfold aO.Jo pad;grind
 rw[hb];rcases Nat.lt_or_ge 64 X.length with e|e
 .obtain⟨hq,_,hgq⟩:=h.qu e;have hH:aO.Jo 0 X.length=64:=by unfold aO.Jo;omega
  rw[hH,show 0+(64-0%64)=64 from rfl];show X.take 64++(if 64<X.length then aO.rdB s (qx p q) 64 X.length++aO.VD 18 s (qx p q) (64+(aO.Jo 64 X.length-64%64)) X.length else[])=X;rw[ev e];have hH2:aO.Jo 64 X.length=X.length-64:=by unfold aO.Jo;omega
  have aZ:aO.rdB s (qx p q) 64 X.length=X.drop 64:=by unfold aO.rdB aO.Yk;rw[show(64:Nat)/64=1 from rfl,aD9,eo (hz q hq),hgq,hH2,show(64:Nat)%64=0 from rfl,List.drop_zero];unfold pad;grind
  have e3:aO.VD 18 s (qx p q) (64+(aO.Jo 64 X.length-64%64)) X.length=[]:=eo (by rw[hH2];omega);rw[aZ,e3,cC,List.take_append_drop]
 .have hH:aO.Jo 0 X.length=X.length:=by unfold aO.Jo;omega
  rw[hH];have e3:aO.VD 19 s (qx p q) (0+(X.length-0%64)) X.length=[]:=eo ae;rw[e3,cC,cL e]
def JE j:=[bx (48+j)]
def PK (j:Nat):yZ:=⟨j+2,JE j⟩
def sS m:=(cz m).flatMap λj=>Dir.slotL (PK j)
theorem Us:∀m,m<=3->(sS m).length=16*m:=aB
theorem ah8:∀m,m<3->(Dir.slotL (PK m)).length=16:=aB
theorem Dy:∀m,m<=3->∀j,j<m->Dir.jk (sS m) (JE j)=((j:Int),(j:Int)+2):=iW
theorem apF:∀m,m<3->(Dir.jk (sS m) (JE m)).1<0:=iW
theorem akA:∀m,m<3->Dir.akv (sS m) (PK m)=0:=iW
theorem afZ (hm:m<3) {r} (h:Dir.KQ (sS m) r):r=m:=by
 have h2:=h.2.1;have h3:=h.2.2;have hc:Dir.cnt (sS m)=m:=by have:∀m,m<3->Dir.cnt (sS m)=m:=aB;exact this m hm
 have hz:∀m,m<3->∀r,r<m->Dir.QD (Dir.uX (sS m) r)=false:=aB;grind
theorem ah9 (hm:m<3):(pad (sS m)).take (16*m)++Dir.slotL (PK m)++(pad (sS m)).drop (16*m+16)=pad (sS (m+1)):=by have:∀m,m<3->(pad (sS m)).take (16*m)++Dir.slotL (PK m)++(pad (sS m)).drop (16*m+16)=pad (sS (m+1)):=iW;exact this m hm
def E8 (m rp:Nat) (P Q:Nat->Nat) (X:Nat->List UInt8) n:=if n=1 then bH (dN 1 (16*m) rp) else if n<m+2 then bH (fN 1 (X (n-2)).length (P (n-2)) (Q (n-2))) else zN
def JA {α:Type} (f:Nat->α) k v:=λj=>if j=k then v else f j
theorem bT {α} f k (v:α):JA f k v k=v:=ev rfl
theorem dJ {α f k j} {v:α} (h:j≠k):JA f k v j=f j:=eo h
structure Fz s m rp P Q X:Prop where
 tb:Tb s (E8 m rp P Q X)
 m3:m<=3
 r0:m=0->rp=0
 ru:0<m->rp∈s.us/\s.g rp=pad (sS m)
 VB:∀j,j<m->Fil s (P j) (Q j) (X j)
 ow:∃o:Nat->Nat,(0<m->o rp=0)/\∀j,j<m->(P j≠0->o (P j)=j+1)/\(Q j≠0->o (Q j)=j+1)
 us:∀n∈s.us,n=rp\/∃j,j<m/\(n=P j\/n=Q j)
section
variable {P Q:Nat->Nat} {Y:Nat->List UInt8}
theorem Fz.no0 (h:Fz s m rp P Q Y):∀n∈s.us,n≠0:=λn hn=>by have:=h.tb.us hn;omega
theorem Fz.len (h:Fz s m rp P Q Y):s.us.length<=7:=by
 have h1:=Ps.mW (l:=s.us) (l':=rp::[P 0,Q 0,P 1,Q 1,P 2,Q 2]) h.tb.ok.nd λx hx=>by
  rcases h.us x hx with rfl|⟨j,hj,h2⟩
  .grind
  .have:=h.m3;grind
 exact h1
theorem Fz.auF (h:Fz s m rp P Q Y):ind s 1=bH (dN 1 (16*m) rp)/\wQ s 1=0:=by have:=h.tb.nd 1 ae ae;unfold E8 at this;rw[ev rfl] at this;exact this
theorem Fz.KI (h:Fz s m rp P Q Y) (hj:j<m):ind s (j+2)=bH (fN 1 (Y j).length (P j) (Q j))/\wQ s (j+2)=0:=by have h3:=h.m3;have:=h.tb.nd (j+2) ae ae;grind[Ad.E8]
theorem Fz.auG (h:Fz s m rp P Q Y) (hj:m<=j) (h3:j<3):ind s (j+2)=zN/\wQ s (j+2)=0:=by have:=h.tb.nd (j+2) ae ae;grind[Ad.E8]
theorem Fz.aoC (h:Fz s m rp P Q Y):rp<8192/\(0<m->rp≠0):=by
 rcases Nat.eq_zero_or_pos m with e|e
 .have:=h.r0 e;exact⟨ae,λh=>ae⟩
 .have:=h.tb.us (h.ru e).1;exact⟨ae,λ_=>ae⟩
theorem aia {s I} (t:Tb s I) (h1:I 1=bH (dN 1 (16*m) rp)) (hm:m<=3) (hr:0<m->rp∈s.us/\s.g rp=pad (sS m)) (hr0:m=0->rp=0):AZ s 1 (dN 1 (16*m) rp) (sS m):=by
 have hl:=Us m hm;obtain⟨a1,a2⟩:=t.nd 1 ae ae;refine⟨ae,by rw[t.ino];omega,by rw[t.ino];omega,by rw[t.tb];omega,a1.trans h1,a2,rfl,by rw[hl];rfl,ae,wf1 ?_,λoff ho=>rd1 ae (λhx=>?_) ho⟩
 .rcases Nat.eq_zero_or_pos m with e|e
  .exact .inl (hr0 e)
  .exact .inr (hr e).1
 .have hp:0<m:=by
   grind
  have:=t.us (hr hp).1;exact⟨ae,(hr hp).2⟩
theorem Fz.afY (h:Fz s m rp P Q Y):AZ s 1 (dN 1 (16*m) rp) (sS m):=aia h.tb (by unfold E8;rw[ev rfl]) h.m3 h.ru h.r0
theorem Fz.clean (h:Fz s m rp P Q Y) d:Fz {s with dy:=d} m rp P Q Y:=
 ⟨⟨h.tb.tb,h.tb.np,h.tb.ino,⟨h.tb.ok.us,h.tb.ok.nd,h.tb.ok.sz,h.tb.ok.no⟩,h.tb.nd⟩,h.m3,h.r0,h.ru,λj hj=>⟨(h.VB j hj).len,(h.VB j hj).p0,(h.VB j hj).q0,(h.VB j hj).pu,(h.VB j hj).qu⟩,h.ow,h.us⟩
end
end Ad
namespace Ad
variable {s s':Ps} {p q n j k m rp:Nat} {I:Nat->aO} {X x b:List UInt8}
structure apA s p q ns s':Prop where
 hs:aO.trL ns s (qx p q)=(s',qx 0 0)
 rev:(gQ (aO.yl s.g (qx p q))).reverse=ns.map λn:Nat=>(n:Int)
 ok:aO.VE ns s (qx p q)
 us:∀n,n∈s'.us↔n∈s.us/\n≠p/\n≠q
 g:∀n,n≠p->n≠q->s'.g n=s.g n
 sm:s'.tb=s.tb/\s'.np=s.np/\s'.ino=s.ino/\s'.Ok
 dy:∀n,s'.dy n->s.dy n
theorem Ut (s:Ps) p n:n∈(s.del p).us↔n∈s.us/\n≠p:=by show n∈s.us.filter (·!=p)↔_;rw[List.mem_filter];simp
theorem VJ (t:Tb s I) (f:Fil s p q X):∃ns s',apA s p q ns s':=by
 have hz:∀n∈s.us,n≠0:=λn hn=>by have:=t.us hn;omega
 by_cases hX:X=[]
 .obtain rfl:=f.p0 hX;obtain rfl:=f.q0 (by grind);refine⟨[],s,rfl,by rw[Yj];rfl,wf2 (.inl rfl) (.inl rfl),λn=>⟨λh=>⟨h,hz n h,hz n h⟩,λh=>h.1⟩,λn _ _=>rfl,⟨rfl,rfl,rfl,t.ok⟩,λn h=>h⟩
 .obtain⟨hp,hg⟩:=f.pu hX;have Oi:=hz p hp;have hpb:=t.us hp;have hd:(s.del p).Ok:=t.ok.del (by rw[t.tb];omega);rcases Nat.lt_or_ge 64 X.length with hl|hl
  .obtain⟨hq,hqp,hgq⟩:=f.qu hl;have YN:=hz q hq;have hqb:=t.us hq;have hpd:p∈(s.del q).us:=(Ut s q p).2 ⟨hp,Ne.symm hqp⟩;have hd2:((s.del q).del p).Ok:=(t.ok.del (by rw[t.tb];omega)).del (by show s.tb<p;rw[t.tb];omega);refine⟨[1,0],(s.del q).del p,rfl,?_,⟨⟨wf2 (.inr hp) (.inr hq),aB,hq,⟨rfl,aB,aB⟩⟩,⟨wf2 (.inr hpd) (.inl rfl),aB,hpd,⟨rfl,aB,aB⟩⟩,wf2 (.inl rfl) (.inl rfl)⟩,λn=>?_,λn h1 h2=>?_,⟨rfl,rfl,rfl,hd2⟩,λn h=>h.1.1⟩
   .rw[Yj,eo Oi,eo YN];rfl
   .rw[Ut,Ut];grind
   .exact(dS h1).trans (dS h2)
  .obtain rfl:=f.q0 hl;refine⟨[0],s.del p,rfl,?_,⟨⟨wf2 (.inr hp) (.inl rfl),aB,hp,⟨rfl,aB,aB⟩⟩,wf2 (.inl rfl) (.inl rfl)⟩,λn=>?_,λn h1 _=>dS h1,⟨rfl,rfl,rfl,hd⟩,λn h=>h.1⟩
   .rw[Yj,eo Oi,ev rfl];rfl
   .rw[Ut];grind
structure WrG s b s' p q:Prop where
 hs:aO.Jy 2 s (qx 0 0) 0 b=(s',qx p q)
 more:∃mo,Room.vS 64 (gQ (aO.yl s.g (qx 0 0))) ((0/64:Nat)) (((0+b.length+63)/64:Nat))=(mo,0)/\mo<=s.np-s.us.length
 ok:aO.ac4 2 s (qx 0 0) 0 b
 new:p∉s.us/\p≠0/\q∉s.us/\(b.length<=64->q=0)/\(64<b.length->q≠0)
 us:∀n,n∈s'.us↔n∈s.us\/n=p\/(n=q/\q≠0)
 g:∀n,n≠p->(n≠q\/q=0)->s'.g n=s.g n
 VB:Fil s' p q b
 lo:2<p/\(q≠0->2<q)/\p<8192/\q<8192
 sm:s'.tb=s.tb/\s'.np=s.np/\s'.ino=s.ino/\s'.Ok
 dy:∀n,s'.dy n->s.dy n\/n=p\/n=q
theorem acx b {off} (ho:off%64=0):aO.wrX fG.zeros off b=pad (b.take 64):=by grind[aO.wrX,fG.zeros,vG.pad,aO.Ap]
theorem Uu {s io n} (hn:aO.Dq s.g io n=0) (h6:n<6) (hx:s.Nx p):aO.QN s io n=(s.add p,{io with d:=io.d.set n p},p):=by have e1:aO.QN s io n=((aO.CB (s.add s.nx) io n s.nx).1,(aO.CB (s.add s.nx) io n s.nx).2,s.nx):=ev hn;rw[e1,Ps.acy hx];unfold aO.CB;rw[ev h6]
theorem QO {s io n} (hn:aO.Dq s.g io n=0) (h6:n<6) (hx:s.Nx p) (hw:aO.Wf s io) (hu:s.us.length<s.np) (h9:p<8192):aO.aib s io n:=by
 have he:=Uu hn h6 hx;refine⟨hw,h6,λ_=>⟨hu,hw.dl,h6,by rw[Ps.acy hx];exact h9⟩,?_,?_⟩
 .rw[he];exact .inr (List.mem_append_right _ (cG.2 rfl))
 .rw[he];show(io.d.set n p).length=6;rw[List.length_set];exact hw.dl
theorem akn (t:Tb s I) (hl:s.us.length<=30) (hb:b≠[]) (aZ:b.length<=128):∃s' p q,WrG s b s' p q:=by
 have hbp:=List.length_pos_iff.2 hb;obtain⟨p,hx⟩:=Ps.Nx.ex (s:=s) (by rw[t.np];omega);have hlo:=hx.lo;have hhi:=hx.hi;rw[t.tb] at hlo hhi;rw[t.np] at hhi;have Oi:p≠0:=ae;have hwf:aO.Wf s (qx 0 0):=wf2 (.inl rfl) (.inl rfl);have aEa:(pad (b.take 64)).length=64:=JU (by grind);have ZT:∀n,n∈(s.add p).us↔n∈s.us\/n=p:=λn=>by show n∈s.us++[p]↔_;grind
 have arV:((s.add p).put p (pad (b.take 64))).Ok:=(t.ok.add hx).put (.inr ((ZT p).2 (.inr rfl))) aEa;have OX:=Uu (s:=s) (io:=qx 0 0) (n:=0) rfl aB hx;have ku:aO.PL s (qx 0 0) 0 b=((s.add p).put p (pad (b.take 64)),qx p 0):=by unfold aO.PL;rw[show(0:Nat)/64=0 from rfl,OX];show((s.add p).put p (aO.wrX ((s.add p).g p) 0 b),qx p 0)=_;rw[show(s.add p).g p=fG.zeros from fD _ _ _,acx b rfl]
 obtain⟨s1,jA⟩:=aW ((s.add p).put p (pad (b.take 64)));have qP:∀n,n≠p->s1.g n=s.g n:=λn hn=>by rw[jA];exact(dS hn).trans (dS hn)
 have hgp:s1.g p=pad (b.take 64):=by rw[jA];exact fD _ _ _
 have aeB:∀n,n∈s1.us↔n∈s.us\/n=p:=λn=>by rw[jA];exact ZT n
 have amg:∀n,s1.dy n->s.dy n\/n=p:=λn hn=>by
  rw[jA] at hn;rcases hn with h|h|h
  .exact .inr h
  .exact .inr h
  .exact .inl h
 have PM:s1.tb=s.tb/\s1.np=s.np/\s1.ino=s.ino:=by rw[jA];exact⟨rfl,rfl,rfl⟩
 rw[<-jA] at arV ku;have hul:s1.us.length=s.us.length+1:=by rw[jA];show(s.us++[p]).length=_;simp
 have Gx:0∉s.us:=λh=>by have:=t.us h;omega
 have aea:aO.Jy 2 s (qx 0 0) 0 b=aO.Jy 1 s1 (qx p 0) (0+aO.Ap 0 b) (b.drop (aO.Ap 0 b)):=by show(if b=[] then(s,qx 0 0) else aO.Jy 1 (aO.PL s (qx 0 0) 0 b).1 (aO.PL s (qx 0 0) 0 b).2 (0+aO.Ap 0 b) (b.drop (aO.Ap 0 b)))=_;rw[eo hb,ku]
 have axP:aO.aib s (qx 0 0) (0/64):=QO rfl aB hx hwf (by rw[t.np];omega) ae;clear jA;rcases Nat.lt_or_ge 64 b.length with aT|hle
 .have hk:aO.Ap 0 b=64:=by unfold aO.Ap;omega
  rw[hk] at aea;obtain⟨q,hxq⟩:=Ps.Nx.ex (s:=s1) (by rw[PM.2.1,t.np];omega);have qlo:=hxq.lo;have qhi:=hxq.hi;rw[PM.1,t.tb] at qlo qhi;rw[PM.2.1,t.np] at qhi;have hqn:=hxq.new;rw[aeB] at hqn;have hqp:q≠p:=λe=>hqn (.inr e);have hd:b.drop 64≠[]:=by intro e;have:=congrArg List.length e;rw[dk] at this;simp at this;omega
  have hdl:(b.drop 64).length<=64:=by rw[dk];omega
  have axR:(pad (b.drop 64)).length=64:=JU hdl;have YW:∀n,n∈(s1.add q).us↔n∈s1.us\/n=q:=λn=>by show n∈s1.us++[q]↔_;rw[cv,cG]
  have amh:((s1.add q).put q (pad (b.drop 64))).Ok:=(arV.add hxq).put (.inr ((YW q).2 (.inr rfl))) axR;have axS:=Uu (s:=s1) (io:=qx p 0) (n:=1) rfl aB hxq;have jT:aO.PL s1 (qx p 0) 64 (b.drop 64)=((s1.add q).put q (pad (b.drop 64)),qx p q):=by unfold aO.PL;rw[show(64:Nat)/64=1 from rfl,axS];show((s1.add q).put q (aO.wrX ((s1.add q).g q) 64 (b.drop 64)),qx p q)=_;rw[show(s1.add q).g q=fG.zeros from fD _ _ _,acx _ rfl,cL (l:=b.drop 64) hdl]
  have eU:aO.Ap 64 (b.drop 64)=(b.drop 64).length:=by unfold aO.Ap;omega
  have aEb:aO.Wf s1 (qx p 0):=wf2 (.inr ((aeB p).2 (.inr rfl))) (.inl rfl);refine⟨(s1.add q).put q (pad (b.drop 64)),p,q,?_,⟨2,?_,by rw[t.np];omega⟩,.inr ⟨axP,?_⟩,⟨hx.new,Oi,λh=>hqn (.inl h),λh=>ae,λ_=>ae⟩,λn=>?_,λn h1 h2=>?_,?_,ae,⟨PM.1,PM.2.1,PM.2.2,amh⟩,λn hn=>?_⟩
  .rw[aea];show(if b.drop 64=[] then(s1,qx p 0) else aO.Jy 0 (aO.PL s1 (qx p 0) 64 (b.drop 64)).1 (aO.PL s1 (qx p 0) 64 (b.drop 64)).2 _ _)=_;rw[eo hd,jT];rfl
  .rw[Yj,ev rfl,ev rfl,show(0+b.length+63)/64=2 by omega];exact more2
  .rw[ku,hk];refine .inr ⟨QO rfl aB hxq aEb (by show s1.us.length<s1.np;rw[PM.2.1,t.np];omega) ae,?_⟩;show(b.drop 64).drop (aO.Ap 64 (b.drop 64))=[];rw[eU];exact List.drop_eq_nil_of_le av
  .show n∈(s1.add q).us↔_;rw[YW,aeB];have YN:q≠0:=ae;constructor
   .rintro((h|h)|h)
    .exact .inl h
    .exact .inr (.inl h)
    .exact .inr (.inr ⟨h,YN⟩)
   .rintro(h|h|h)
    .exact .inl (.inl h)
    .exact .inl (.inr h)
    .exact .inr h.1
  .have h3:n≠q:=by rcases h2 with h2|h2<;>omega
   exact(dS h3).trans ((dS h3).trans (qP n h1))
  .refine⟨aZ,λh=>absurd h hb,λh=>ae,λ_=>⟨(YW p).2 (.inl ((aeB p).2 (.inr rfl))),?_⟩,λ_=>⟨(YW q).2 (.inr rfl),hqp,fD _ _ _⟩⟩;exact(dS (Ne.symm hqp)).trans ((dS (Ne.symm hqp)).trans hgp)
  .rcases hn with h|h|h
   .exact .inr (.inr h)
   .exact .inr (.inr h)
   .rcases amg n h with h|h
    .exact .inl h
    .exact .inr (.inl h)
 .have hk:aO.Ap 0 b=b.length:=by unfold aO.Ap;omega
  have hdr:b.drop b.length=[]:=List.drop_eq_nil_of_le av;refine⟨s1,p,0,?_,⟨1,?_,by rw[t.np];omega⟩,.inr ⟨axP,?_⟩,⟨hx.new,Oi,Gx,λ_=>rfl,λh=>ae⟩,λn=>?_,λn h1 _=>qP n h1,?_,ae,⟨PM.1,PM.2.1,PM.2.2,arV⟩,λn hn=>(amg n hn).imp id .inl⟩
  .rw[aea,hk,hdr];rfl
  .rw[Yj,ev rfl,ev rfl,show(0+b.length+63)/64=1 by omega];exact Yl
  .rw[ku,hk,hdr];exact .inl rfl
  .rw[aeB];exact⟨λh=>h.imp id .inl,λh=>h.imp id λh=>h.elim id λh=>absurd rfl h.2⟩
  .exact⟨aZ,λh=>absurd h hb,λ_=>rfl,λ_=>⟨(aeB p).2 (.inr rfl),hgp⟩,λh=>ae⟩
end Ad
namespace Ad
variable {s s1 s2 s':Ps} {p q n j k m rp:Nat} {I:Nat->aO} {X x b:List UInt8} {P Q:Nat->Nat} {Y:Nat->List UInt8} {ns:List Nat} {i:aO}
theorem CE (h1:1<=n) (h2:n<=4) (hp:3<=p):(gI s n i).g p=s.g p:=dS ae
theorem Fz.own (h:Fz s m rp P Q Y) (hj:j<m):(P j≠0->P j∈s.us)/\(Q j≠0->Q j∈s.us):=by
 have f:=h.VB j hj;refine⟨λh0=>?_,λh0=>?_⟩
 .by_cases e:Y j=[]
  .exact absurd (f.p0 e) h0
  .exact(f.pu e).1
 .rcases Nat.lt_or_ge 64 (Y j).length with e|e
  .exact(f.qu e).1
  .exact absurd (f.q0 e) h0
theorem Fz.apart (h:Fz s m rp P Q Y) {i} (hi:i<m) (hj:j<m) (hij:i≠j) (hn:n≠0) (h1:n=P i\/n=Q i):n≠P j/\n≠Q j:=by grind[Ad.Fz.ow]
theorem Fz.root (h:Fz s m rp P Q Y) (hj:j<m):rp≠P j/\rp≠Q j:=by
 obtain⟨o,h0,ho⟩:=h.ow;have hr:=h0 ae;have hr0:=h.aoC.2 ae;grind
theorem Fz.cut (h:Fz s m rp P Q Y) (hj:j<m) (c:apA s (P j) (Q j) ns s1):Fz (gI s1 (j+2) (bH (fN 1 0 0 0))) m rp (JA P j 0) (JA Q j 0) (JA Y j []):=by
 have GK:=h.m3;obtain⟨c1,c2,c3,c4⟩:=c.sm;have how:=h.own hj;have t1:Tb s1 (E8 m rp P Q Y):=h.tb.far c1 c2 c3 c4 λn h1 h2=>c.g n (λe=>by
  have:=h.tb.us (how.1 ae);omega) λe=>by
  have:=h.tb.us (how.2 ae);omega
 have t2:=t1.gI (n:=j+2) (i:=bH (fN 1 0 0 0)) ae ae (Fh ae ae ae ae);have hg:∀n,n∈s1.us->(gI s1 (j+2) (bH (fN 1 0 0 0))).g n=s.g n:=λn hn=>by obtain⟨h1,h2,h3⟩:=(c.us n).1 hn;have:=h.tb.us h1;rw[CE ae ae ae];exact c.g n h2 h3
 refine⟨t2.congr λn h1 h2=>?_,GK,h.r0,λhm=>?_,λi hi=>?_,?_,λn hn=>?_⟩
 .unfold upI E8;by_cases e:n=j+2
  .rw[ev e,eo ae,ev ae,show n-2=j by omega,bT,bT,bT];rfl
  .rw[eo e];by_cases e1:n=1
   .rw[ev e1,ev e1]
   .rw[eo e1,eo e1];have e2:n-2≠j\/n=0:=ae;by_cases e3:n<m+2
    .rw[ev e3,ev e3,dJ ae,dJ ae,dJ ae]
    grind
 .obtain⟨r1,r2⟩:=h.ru hm;obtain⟨r3,r4⟩:=h.root hj;have yf:=(c.us rp).2 ⟨r1,r3,r4⟩;exact⟨yf,(hg rp yf).trans r2⟩
 .by_cases e:i=j
  .subst e;rw[bT,bT,bT];exact Fil.nil _
  .rw[dJ e,dJ e,dJ e];refine(h.VB i hi).far (λn h0 h1 hn=>?_) h.no0;obtain⟨a1,a2⟩:=h.apart hi hj e h0 h1;have yf:=(c.us n).2 ⟨hn,a1,a2⟩;exact⟨yf,hg n yf⟩
 .obtain⟨o,o1,o2⟩:=h.ow;refine⟨o,o1,λi hi=>?_⟩;by_cases e:i=j
  .subst e;rw[bT,bT];grind
  .rw[dJ e,dJ e];exact o2 i hi
 .obtain⟨h1,h2,h3⟩:=(c.us n).1 hn;rcases h.us n h1 with e|⟨i,hi,e⟩
  .exact .inl e
  .have hij:i≠j:=by grind
   exact .inr ⟨i,hi,by rw[dJ hij,dJ hij];exact e⟩
theorem Fz.write (h:Fz s m rp P Q Y) (hj:j<m) (hY:Y j=[]) (hb:b.length<=128) (c:WrG s b s1 p q):Fz (gI s1 (j+2) (bH (fN 1 b.length p q))) m rp (JA P j p) (JA Q j q) (JA Y j b):=by
 have GK:=h.m3;obtain⟨c1,c2,c3,c4⟩:=c.sm;obtain⟨l1,l2,l3,l4⟩:=c.lo;obtain⟨n1,n2,n3,n4,n5⟩:=c.new;have di:∀n,n∈s.us->n≠p/\(n≠q\/q=0):=λn hn=>⟨λe=>n1 (e▸hn),.inl λe=>n3 (e▸hn)⟩
 have t1:Tb s1 (E8 m rp P Q Y):=h.tb.far c1 c2 c3 c4 λn h1 h2=>c.g n ae (by
  grind)
 have t2:=t1.gI (n:=j+2) (i:=bH (fN 1 b.length p q)) ae ae (Fh ae ae l3 l4);have hg0:∀n,3<=n->(gI s1 (j+2) (bH (fN 1 b.length p q))).g n=s1.g n:=λn hn=>CE ae ae hn;have hg:∀n,n∈s.us->(gI s1 (j+2) (bH (fN 1 b.length p q))).g n=s.g n:=λn hn=>by have:=h.tb.us hn;rw[hg0 n ae];exact c.g n (di n hn).1 (di n hn).2
 have yf:∀n,n∈s.us->n∈(gI s1 (j+2) (bH (fN 1 b.length p q))).us:=λn hn=>(c.us n).2 (.inl hn);refine⟨t2.congr λn h1 h2=>?_,GK,h.r0,λhm=>?_,λi hi=>?_,?_,λn hn=>?_⟩
 .unfold upI E8;by_cases e:n=j+2
  .rw[ev e,eo ae,ev ae,show n-2=j by omega,bT,bT,bT]
  .rw[eo e];by_cases e1:n=1
   .rw[ev e1,ev e1]
   .rw[eo e1,eo e1];by_cases e3:n<m+2
    .rw[ev e3,ev e3,dJ ae,dJ ae,dJ ae]
    grind
 .obtain⟨r1,r2⟩:=h.ru hm;grind
 .by_cases e:i=j
  .subst e;rw[bT,bT,bT];have f:=c.VB;refine f.far (λn h0 h1 hn=>⟨hn,hg0 n ?_⟩) λn hn=>?_
   .grind
   .have:=t1.us hn;omega
  .rw[dJ e,dJ e,dJ e];exact(h.VB i hi).far (λn _ _ hn=>⟨yf n hn,hg n hn⟩) h.no0
 .obtain⟨o,o1,o2⟩:=h.ow;refine⟨λn=>if n=p\/n=q then j+1 else o n,λhm=>?_,λi hi=>?_⟩
  .have r1:=(h.ru hm).1;grind
  .by_cases e:i=j
   .subst e;rw[bT,bT];grind
   .rw[dJ e,dJ e];obtain⟨w1,w2⟩:=h.own hi;grind
 .rcases(c.us n).1 hn with h1|h1|h1
  .rcases h.us n h1 with e|⟨i,hi,e⟩
   .exact .inl e
   .by_cases e2:i=j
    .subst e2;have Oi:=(h.VB i hi).p0 hY;have YN:=(h.VB i hi).q0 (by rw[hY];exact bN _);have:=h.no0 n h1;omega
    .exact .inr ⟨i,hi,by rw[dJ e2,dJ e2];exact e⟩
  .exact .inr ⟨j,hj,by rw[bT];exact .inl h1⟩
  .exact .inr ⟨j,hj,by rw[bT,bT];exact .inr h1.1⟩
structure auE s m rp s1 s2 pI:Prop where
 h1:s1=gI s (m+2) ⟨1,0,0,0,0,0,0,0,0,0,0⟩
 dir:AZ s1 1 (dN 1 (16*m) rp) (sS m)
 slot:VO s1 (dN 1 (16*m) rp) m (Dir.slotL (PK m)) s2 (dN 1 (16*(m+1)) pI)
 dy:∀n,s2.dy n->s.dy n\/n=1+(m+1)/2\/n=pI
 rpl:3<=pI
 rpe:0<m->pI=rp
theorem Fz.new (h:Fz s m rp P Q Y) (hm:m<3):∃s1 s2 pI,auE s m rp s1 s2 pI/\Fz (gI (gI s2 1 (bH (dN 1 (16*(m+1)) pI))) (m+2) (bH (fN 1 0 0 0))) (m+1) pI (JA P m 0) (JA Q m 0) (JA Y m []):=by
 have hr1:aO.Right ⟨1,0,0,0,0,0,0,0,0,0,0⟩:=aB;have t1:=h.tb.gI (n:=m+2) ae ae hr1;obtain⟨s1,jA⟩:=aW (gI s (m+2) ⟨1,0,0,0,0,0,0,0,0,0,0⟩);have ZT:s1.us=s.us:=by rw[jA];rfl
 have qP:∀n,3<=n->s1.g n=s.g n:=λn hn=>by rw[jA];exact CE ae ae hn
 have amg:∀n,s1.dy n->s.dy n\/n=1+(m+1)/2:=λn hn=>by
  rw[jA] at hn;rcases hn with e|e
  .exact .inr ae
  .exact .inl e
 rw[<-jA] at t1;have wZ:=ah8 m hm;have hru:0<m->rp∈s1.us/\s1.g rp=pad (sS m):=λh0=>by obtain⟨a,b⟩:=h.ru h0;have:=h.tb.us a;grind
 have aEc:AZ s1 1 (dN 1 (16*m) rp) (sS m):=aia t1 (by unfold upI E8;grind) h.m3 hru h.r0;have hul:s1.us.length<=7:=by rw[ZT];exact h.len
 have key:∃s2 pI,VO s1 (dN 1 (16*m) rp) m (Dir.slotL (PK m)) s2 (dN 1 (16*(m+1)) pI)/\(∀n,s2.dy n->s1.dy n\/n=pI)/\3<=pI/\pI<=38/\(0<m->pI=rp)/\(∀n,n∈s2.us↔n∈s1.us\/n=pI)/\(∀n,n≠pI->s2.g n=s1.g n)/\s2.g pI=pad (sS (m+1))/\(m=0->pI∉s1.us)/\s2.tb=s1.tb/\s2.np=s1.np/\s2.ino=s1.ino/\s2.Ok:=by
  rcases Nat.eq_zero_or_pos m with e|e
  .subst e;obtain rfl:=h.r0 rfl;obtain⟨p,hx⟩:=Ps.Nx.ex (s:=s1) (by rw[t1.np];omega);have hlo:=hx.lo;have hhi:=hx.hi;rw[t1.tb] at hlo hhi;rw[t1.np] at hhi;have g:=aic (p:=p) (sl:=Dir.slotL (PK 0)) (l:=1) hx wZ ae t1.ok (by rw[t1.tb,t1.np];omega) (by rw[t1.np];omega);have hp:Dir.slotL (PK 0)++bt 48 0=pad (sS 1):=iW;rw[hp] at g;have NT:∀n,n∈(s1.add p).us↔n∈s1.us\/n=p:=λn=>by show n∈s1.us++[p]↔_;rw[cv,cG]
   refine⟨_,p,g,λn hn=>?_,ae,ae,λh=>ae,NT,λn hn=>(dS hn).trans (dS hn),fD _ _ _,λ_=>hx.new,rfl,rfl,rfl,(t1.ok.add hx).put (.inr ((NT p).2 (.inr rfl))) (JU (by rw[Us 1 ae];omega))⟩;rcases hn with h1|h1|h1
   .exact .inr h1
   .exact .inr h1
   .exact .inl h1
  .obtain⟨r1,r2⟩:=hru e;have hrb:=t1.us r1;have g:=aid (p:=rp) (k:=m) (sl:=Dir.slotL (PK m)) (z:=16*m) (l:=1) r1 wZ ae ae ae t1.ok (by rw[t1.tb,t1.np];omega) (by rw[t1.np];omega) ae;rw[r2,ah9 hm,show max (16*m) (16*m+16)=16*(m+1) by omega] at g;exact⟨_,rp,g,λn hn=>hn.elim .inr .inl,ae,ae,λ_=>rfl,λn=>⟨.inl,λh=>h.elim id λe=>e▸r1⟩,λn hn=>dS hn,fD _ _ _,λh=>ae,rfl,rfl,rfl,t1.ok.put (.inr r1) (JU (by rw[Us (m+1) ae];omega))⟩
 obtain⟨s2,pI,g,k1,k2,k2',k3,k4,k5,k6,k7,k8,k9,k10,k11⟩:=key;have t2:Tb s2 _:=t1.far k8 k9 k10 k11 λn h1 h2=>k5 n ae;have t3:=t2.gI (n:=1) (i:=bH (dN 1 (16*(m+1)) pI)) ae ae (aa1 ae ae ae);have t4:=t3.gI (n:=m+2) (i:=bH (fN 1 0 0 0)) ae ae (Fh ae ae ae ae);refine⟨s1,s2,pI,⟨jA,aEc,g,λn hn=>(k1 n hn).elim (λh=>(amg n h).imp id .inl) λh=> .inr (.inr h),k2,k3⟩,?_⟩;have hgo:∀n,3<=n->n≠pI->(gI (gI s2 1 (bH (dN 1 (16*(m+1)) pI))) (m+2) (bH (fN 1 0 0 0))).g n=s.g n:=λn h1 h2=>by rw[CE ae ae h1,CE ae ae h1,k5 n h2,qP n h1]
 have hus:∀n,n∈(gI (gI s2 1 (bH (dN 1 (16*(m+1)) pI))) (m+2) (bH (fN 1 0 0 0))).us↔n∈s.us\/n=pI:=λn=>by rw[<-ZT];exact k4 n
 have bz:∀j,j<m->∀n,n≠0->(n=P j\/n=Q j)->n∈s.us/\n≠pI:=λj hj n h0 h1=>by
  obtain⟨w1,w2⟩:=h.own hj;obtain⟨r1,r2⟩:=h.root hj;have:=k3 ae;rcases h1 with rfl|rfl
  .exact⟨w1 h0,by rw[this];exact Ne.symm r1⟩
  .exact⟨w2 h0,by rw[this];exact Ne.symm r2⟩
 refine⟨t4.congr λn h1 h2=>?_,ae,λh=>ae,λ_=>⟨(hus pI).2 (.inr rfl),?_⟩,λj hj=>?_,?_,λn hn=>?_⟩
 .unfold upI E8;by_cases e:n=m+2
  .rw[ev e,eo ae,ev ae,show n-2=m by omega,bT,bT,bT];rfl
  .rw[eo e];by_cases e1:n=1
   .rw[ev e1,ev e1]
   .rw[eo e1,eo e1,eo e,eo e1];by_cases e3:n<m+2
    .rw[ev e3,ev ae,dJ ae,dJ ae,dJ ae]
    .rw[eo e3,eo ae]
 .rw[CE ae ae k2,CE ae ae k2];exact k6
 .by_cases e:j=m
  .subst e;rw[bT,bT,bT];exact Fil.nil _
  .rw[dJ e,dJ e,dJ e];refine(h.VB j ae).far (λn h0 h1 hn=>?_) h.no0;have:=h.tb.us hn;exact⟨(hus n).2 (.inl hn),hgo n ae (bz j ae n h0 h1).2⟩
 .obtain⟨o,o1,o2⟩:=h.ow;refine⟨JA o pI 0,λ_=>bT _ _ _,λj hj=>?_⟩;by_cases e:j=m
  .subst e;rw[bT,bT];exact⟨λh=>absurd rfl h,λh=>absurd rfl h⟩
  .rw[dJ e,dJ e];exact⟨λh0=>(dJ (bz j ae _ h0 (.inl rfl)).2).trans ((o2 j ae).1 h0),λh0=>(dJ (bz j ae _ h0 (.inr rfl)).2).trans ((o2 j ae).2 h0)⟩
 .rcases(hus n).1 hn with h1|h1
  .rcases h.us n h1 with e|⟨i,hi,e⟩
   .rcases Nat.eq_zero_or_pos m with e0|e0
    .have:=h.r0 e0;have:=h.no0 n h1;omega
    .exact .inl (e.trans (k3 e0).symm)
   .exact .inr ⟨i,ae,by rw[dJ ae,dJ ae];exact e⟩
  .exact .inl h1
end Ad
end
section
open RowKit dY ChangeMaps Maps
theorem apP {α} (f:Nat->α) k:upd f k (f k)=f:=by
 funext j
 by_cases e:j=k
 .rw[e,upd_same]
 .rw[aG _ _ e]
theorem Lp {NB B C BL S w ps bl} (h:eu NB B S w C BL ps bl) (hm:(bl NB).bad=false) (PX:(bl NB).aC<=1099511627776) {k} (hk:k<NB) (bP:(bl k).bad=false) (hw:(bl k).aC<=1099511627776):
  Calls prog 166 #[C,O aa k] w λe w'=>e=ar (O aa 0)/\(∃ps',eu NB B (Up S w w') w' C BL ps' (upd bl k (fresh ((bl k).aC+1))))/\Kq S w w':=by
 refine(Be h PX hk bP hw).mono ?_;rintro e w' ⟨y,⟨h1,h2,ps',h3⟩|⟨_,⟨h2,_⟩,_⟩,hq⟩
 .rcases h2 with⟨_,rfl⟩|⟨h2,_⟩
  .rw[apP] at h3;grind
  .rw[hm] at h2;cases h2
 .rw[hm] at h2;cases h2
structure FmI B S (w:World) C BL G gb k S' ps' wr:Prop where
 hc:eu 16 B S' wr C BL ps' (once k)
 hG:aF wr G 60 #[O aa 16,O aa 8,O aa 64]
 ho:Own pW 4 wr w (an (some ⟨gb,0,none⟩) 16 16) (yJ k)
 hk:Kq S w wr
 up:∀q,S' q->Up S w wr q
 nG:¬S' G
 nb:¬S' gb
 lG:w<=G
 lb:w<=gb
 ne:gb≠G
section
variable {B C BL G gb k:Nat} {S S':Nat->Prop} {w wr w':World} {ps ps' ps2:Nat->Nat}
theorem FmI.on (h:FmI B S w C BL G gb k S' ps' wr) (hb:Below wr wr w'):FmI B S w C BL G gb k S' ps' w':=
 ⟨h.hc.on hb,h.hG.ah hb,h.ho.on hb,h.hk.on hb,λq hq=>by rcases h.up q hq with e|e;exact .inl e;exact .inr ⟨e.1,by have:=hb.size;omega⟩,h.nG,h.nb,h.lG,h.lb,h.ne⟩
theorem FmI.erase (h:FmI B S w C BL G gb k S' ps' wr) (hc:eu 16 B (Up S' wr w') w' C BL ps2 (upd (once k) k (fresh 1))) (hq:Kq S' wr w') (hk:k<16):
  w'.cell? (gb,k)=some (aq ((yJ k)[k]'(by rw[DF ae];exact hk)))/\w'.frozen? (gb,k)=false/\FmI B S w C BL G gb (k+1) (Up S' wr w') ps2 (w'.setCell (gb,k) (aq true)):=by
 have hs:=hq.size;have lG:=h.hG.lt;have lb:=(h.ho.aN gb rfl).2;have ho:=h.ho.kq hq λq e=>by obtain rfl:=dP _ _ _ _ e;exact h.nb
 have hG:=h.hG.kq hq h.nG;obtain⟨c1,c2⟩:=ho.dU (k:=k) (by rw[DF ae];exact hk);have Iq:=ho.set k true;rw[agk hk] at Iq;rw[agl] at hc;have nG:¬Up S' wr w' G:=λe=>h.nG (fA e lG);have nb:¬Up S' wr w' gb:=λe=>h.nb (fA e lb);refine⟨c1,c2,hc.kq (Kq.one (gb,k) (aq true)) (λq hq e=>nb (by obtain rfl:q=gb:=e;exact hq)),hG.far (by simpa using Ne.symm h.ne) _,Iq,?_,λq hq=>?_,nG,nb,h.lG,h.lb,h.ne⟩
 .refine(h.hk.aA hq λq hq=>?_).setCell (.inr h.lb) _;rcases h.up q hq with e|e
  .exact .inl e
  .exact .inr e.1
 .rw[show Up S w (w'.setCell (gb,k) (aq true)) q=Up S w w' q by unfold Up;rw[cT]];rcases hq with e|e
  .rcases h.up q e with e|e
   .exact .inl e
   .exact .inr ⟨e.1,ae⟩
  .exact .inr ⟨by have:=h.hk.size;omega,e.2⟩
def ZJ (C s:Nat):Array Value:=#[C,.pointer none,O aa 2,O aa 0,an none 0 0,.map (some s),.map (some (s+1)),.map (some (s+1+1)),O .u64 1,O .u64 1,an (s+1+1+1,0) 16 16,aq false]
def ZK (w:World) (C:Nat):=((((w.alloc (.map #[] 0)).alloc (.map #[] 0)).alloc (.map #[] 0)).alloc (.cells ((bt 16 false).map pW).toArray 4)).alloc (.cells (ZJ C w) 225)
theorem agm w C:(ZK w C).heap.size=w+1+1+1+1+1:=by unfold ZK;simp
theorem Qh w C:Below w.heap.size w (ZK w C):=by unfold ZK;exact(((((aE _ _).alloc av _).alloc au _).alloc (by simp;omega) _).alloc (by simp;omega) _).alloc (by simp;omega) _
theorem apQ {w8 sZ P M ML cap s} (hSB:∀q,S q->B<=q/\q<w) (hB0:B<=w) (hs:s=w8.heap.size) (hi:FmI B S w C BL G gb 16 S' ps' w8) (hb:Below (ZK w8 C).heap.size (ZK w8 C) sZ) (hM:(ZK w8 C).heap.size<=M) (UZ:(ZK w8 C).heap.size<=ML) (hg:fF 16 B S' sZ (ZL M ML C BL cap ps' P)):
  sZ.cell? (s+1+1+1+1,1)=some (.pointer none)/\sZ.frozen? (s+1+1+1+1,1)=false/\oq 16 B S w (sZ.setCell (s+1+1+1+1,1) M) (fm0 (s+1+1+1+1) s (s+1) (s+1+1) (s+1+1+1) (ZL M ML C BL cap ps' P)):=by
 have iG:=agm w8 C;rw[<-hs] at iG;have hF9:aF (ZK w8 C) (s+1+1+1+1) 225 (ZJ C s):=by have h1:=aF.new ((((w8.alloc (.map #[] 0)).alloc (.map #[] 0)).alloc (.map #[] 0)).alloc (.cells ((bt 16 false).map pW).toArray 4)) 225 (ZJ C w8);simp only[bR] at h1;rw[hs];exact h1
 have hF:=hF9.ah hb;have hold:∀q,q<s+1+1+1+1->(sZ.setCell ⟨s+1+1+1+1,1,none⟩ (.pointer (aw M 0))).heap[q]?=(ZK w8 C).heap[q]?:=λq hq=>(heap_setCell_other _ _ _ _ (by grind)).trans (hb.block q ae);have BA:Kq (λq=>q=s+1+1+1+1) sZ (sZ.setCell (s+1+1+1+1,1) M):=Kq.one ⟨_,_,none⟩ _;have hS':∀q,S' q->B<=q/\q<s:=λq hq=>⟨hi.hc.lo q hq,by rw[hs];exact hi.hc.hi q hq⟩
 have hw:=hi.hk.size;have hBs:B<=w8.heap.size:=hi.hc.base;have aFL:=hb.size;have hkw:Kq S w (sZ.setCell (s+1+1+1+1,1) M):=((hi.hk.on (Qh w8 C)).on hb).setCell (p:=⟨s+1+1+1+1,1,none⟩) (.inr (by grind)) _;have ao0:M<sZ.heap.size:=hg.hi M (.inl rfl);have aFM:ML<sZ.heap.size:=hg.hi ML (.inr (.inl rfl));have hBw:∀q,Up S w (sZ.setCell ⟨s+1+1+1+1,1,none⟩ (.pointer (aw M 0))) q->B<=q/\q<(sZ.setCell ⟨s+1+1+1+1,1,none⟩ (.pointer (aw M 0))).heap.size:=λq hq=>by
  rw[cT] at*;rcases hq with e|e
  .have:=hSB q e;omega
  .rw[cT] at e;omega
 refine⟨hF.aj rfl,hF.frozen 1,akM (S:=S') ?_ ?_ ?_ ?_ ?_ rfl rfl ?_ ?_ ?_ ?_ hBw,hkw⟩
 .exact hF.set 1 _
 .refine dH.same (w:=ZK w8 C) ?_ (hold s ae);have h1:=((((dH.made w8).alloc (.map #[] 0)).alloc (.map #[] 0)).alloc (.cells ((bt 16 false).map pW).toArray 4)).alloc (.cells (ZJ C w8) 225);rw[hs];exact h1
 .refine dH.same (w:=ZK w8 C) ?_ (hold (s+1) ae);have h1:=(((dH.made (w8.alloc (.map #[] 0))).alloc (.map #[] 0)).alloc (.cells ((bt 16 false).map pW).toArray 4)).alloc (.cells (ZJ C w8) 225);simp only[bR] at h1;rw[hs];exact h1
 .refine dH.same (w:=ZK w8 C) ?_ (hold (s+1+1) ae);have h1:=((dH.made ((w8.alloc (.map #[] 0)).alloc (.map #[] 0))).alloc (.cells ((bt 16 false).map pW).toArray 4)).alloc (.cells (ZJ C w8) 225);simp only[bR] at h1;rw[hs];exact h1
 .have h1:=Own.made (f:=pW) (e:=4) (w:=((w8.alloc (.map #[] 0)).alloc (.map #[] 0)).alloc (.map #[] 0)) (base:=0) (xs:=bt 16 false) (bN _) (by simp[maxLen]);have h2:=h1.alloc (.cells (ZJ C w8) 225);simp only[bR,dx] at h2;have h3:Own pW 4 (ZK w8 C) 0 (an (s+1+1+1,0) 16 16) (bt 16 false):=by rw[hs];exact h2
  exact(h3.on hb).kq BA λq e=>by obtain rfl:=dP _ _ _ _ e;omega
 .refine hg.kq BA λq hq e=>?_;rcases hq with e1|e1|e1
  .have:q=M:=e1;omega
  .have:q=ML:=e1;omega
  .have:=hS' q e1;omega
 .simp[fm0];omega
 .intro q hq;simp only[fm0,bS,cY,or_false] at hq;refine⟨λh1=>?_,ae,.inr ⟨ae,by rw[cT];omega⟩⟩;rcases h1 with e1|e1|e1
  .have:q=M:=e1;omega
  .have:q=ML:=e1;omega
  .have:=hS' q e1;omega
 .intro q hq;rcases hq with e1|e1|e1
  .have:q=M:=e1;exact .inr ⟨ae,by rw[cT];omega⟩
  .have:q=ML:=e1;exact .inr ⟨ae,by rw[cT];omega⟩
  .rcases hi.up q e1 with e2|e2
   .exact .inl e2
   .exact .inr ⟨e2.1,by rw[cT];omega⟩
def Qi tx L:=L=Tg.page ⟨2,0,1,1⟩ (ig tx)
def aBu (B:Nat) (S:Nat->Prop) (C:Nat) (tx:List UInt8) (w:World) (e:Ending) w':=
 ∃f,e=ar (ao #[.pointer (some ⟨f.F,0,none⟩),O aa 0])/\oq 16 B S w w' f/\f.g.C=C/\Fmd f tx/\f.g.gh=Qi tx
theorem OL (h:eu 16 B S w C BL ps (λ_=>fresh 0)) a c tx (hx:Bytes w w a 56 tx) (AL:∀b o,a=some ⟨b,o,none⟩->¬S b):
  Calls prog 111 #[C,O aa 2,an a 56 c] w (aBu B S C tx w):=by
 rw[<-adp] at h;obtain⟨HU,HH,HG⟩:=cp (rq h) h (λ(W:World) (hW:Below w w W)=>dQ (h.on hW));obtain⟨HX,Kt,HAb⟩:=cp hx AL (show∀b o,a=some ⟨b,o,none⟩->b<w.heap.size from λb o e=>by obtain⟨b',o',e',aT,_⟩:=hx.2.2 ae;rw[e] at e';injection e' with e';injection e' with e';omega);have qZ:=Qa (O aa 16) (O aa 8) (O aa 64);have gm:=ry;obtain⟨zI,HDa⟩:=cn (λ(W:World) (hW:Below w w W)=>pX (h.on hW) aB (λk _=>DI 0 k)) (λ(W:World)=>show Calls prog 164 #[.agg #[O aa 16,O aa 8,O aa 64],O aa 2,O aa 0] W λe w'=>e=ar (O aa 13)/\Below W W w' from jP (w:=W) (NB:=16) aB);clear h hx AL
 go_in
 go_wp2_with fail;refine(HU).cj ?_;go_wp2_with fail;go_call(HG.o w (aE _ _)) as e w1 ⟨rfl,bP⟩;have bV:=ag bP;clear bP;unfold uI;go_wp2_with fail;go_call(HG.o w1 bV) as e w2 ⟨rfl,aZ⟩;have bJ:=(bV.aA aZ).alloc (bV.aA aZ).size (.cells #[O aa 16,O aa 8,O aa 64] 60);obtain⟨df,G9,oC⟩:=cp bJ (aF.new w2 60 #[O aa 16,O aa 8,O aa 64]) (bV.aA aZ).size;clear aZ bJ;unfold uI;go_upto_region 8 with fail;have Js:=ag (λq (e:S q)=>HH.hi q e);generalize w2.alloc (.cells #[O aa 16,O aa 8,O aa 64] 60)=w3 at*;generalize w2.heap.size=G at*;obtain⟨HBw,HGd⟩:=cn (df.aA (ak w3)) (show aF w3.drew G 60 #[O aa 16,O aa 8,O aa 64] from G9.ah (ak w3));refine iE (λW'=>aF W' G 60 #[O aa 16,O aa 8,O aa 64]) HGd.o (λaY=>?_);generalize w3.drew=W at*;refine jE 0 (.agg #[O aa 16,O aa 8,O aa 64]) rfl (λ_ aK=>by have y0:=aK.aj (i:=0) rfl;have y1:=aK.aj (i:=1) rfl;have y2:=aK.aj (i:=2) rfl;go_simp) ?_;refine dI 1 2 ?_;refine dw 2 C 0 ?_;refine bY 3 (λK' hK=>?_);go_simp;go_call(zI.o W HBw) as e w4 ⟨rfl,eG⟩;have qX:=aY.ah eG;have jM:=ag (HBw.aA eG);clear eG;refine hK.out _ _ qX (λnZ=>?_)
 refine bY 4 (λK' hK=>?_);go_simp;go_call(HDa.o w4) as e w5 ⟨rfl,eQ⟩;have qy:=nZ.ah eQ;have je:=ag (jM.aA eQ);clear eQ;refine hK.out _ _ qy (λqM=>?_)
 refine eX 5 (aq false) ?_;refine eH ?_;have yF:=ag qy;have g0:=qy.aj (i:=0) (v:=O aa 16) rfl;clear aY qX nZ qy qM HGd G9 HBw df jM bV;have wI:=JJ;go_upto_region 11 with fail;generalize hwa:w5.alloc _=w6;have HF0:=ag (show FmI B S w C BL G w5 0 S ps w6 from by rw[<-hwa];have fJ:=(aE w5 w5).alloc av (.cells ((bt 16 false).map pW).toArray 4);have YT:=je.size;have hg:=yF.lt;have nH:=oC.o;exact⟨HH.on (je.aA fJ),yF.ah fJ,Own.made (f:=pW) (e:=4) (w:=w5) (base:=w.heap.size) (xs:=bt 16 false) YT (by simp[maxLen]),Kq.of (je.aA fJ),λq hq=> .inl hq,λe=>by have:=Js.o _ e;omega,λe=>by have:=Js.o _ e;omega,nH,YT,ae⟩);generalize w5.heap.size=gb at*;clear hwa g0 wI yF je zI;go_wp2_with fail
 go_loopw [10,11,51] (λ_ _ i wr=>∃(k:Nat) (S':Nat->Prop) (ps':Nat->Nat),k<=16/\i=O aa k/\FmI B S w C BL G gb k S' ps' wr) (λ_ _ i _=>16-(intOf i).toNat)
 case atStart=>exact⟨0,S,ps,ae,rfl,HF0⟩
 case round=>
  obtain⟨k,S',ps',hk,rfl,hi⟩:=hrel;clear HF0;by_cases aT:k<16
  .have WA:(0:Int)<=(k:Int):=ae;have fO:(k:Int)<16:=ae;have fM:=oV hi.hc aT;have her:=Lp hi.hc (DI k _) (bB (FO k _) aB) aT (JK k).1 (by rw[(JK k).2];decide);rw[(JK k).1] at fM;rw[(JK k).2] at her;obtain⟨agn,HEr,HI⟩:=cp fM her hi;clear fM her hi;go_wp2_with fail;refine agn.cj ?_;go_wp2_with fail;go_call HEr as e w7 ⟨rfl,⟨ps2,hc⟩,hq⟩;obtain⟨c1,c2,h2⟩:=HI.erase hc hq aT;have H2:=ag h2;clear hc hq h2;generalize (yJ k)[k]'(by rw[DF ae];exact aT)=bk at*;go_wp2_with fail;go_roundw
   case rel=>exact⟨k+1,_,_,ae,by go_num,H2⟩
   case measure=>simp[intOf];omega
  .obtain rfl:k=16:=ae;obtain⟨HI,agn⟩:=cn hi (pX hi.hc aB (λk _=>DI 16 k));clear hi;go_wp2_with fail;go_call agn as e w7 ⟨rfl,jr⟩;have vN:=ag (HI.on jr);clear jr;have g0:=vN.hG.aj (i:=0) (v:=O aa 16) rfl;have g1:=vN.hG.aj (i:=1) (v:=O aa 8) rfl;have g2:=vN.hG.aj (i:=2) (v:=O aa 64) rfl;go_wp2_with fail;go_call(HDa.o w7) as e w8 ⟨rfl,ny⟩;have YQ:=ag (vN.on ny);clear ny g0 g1 g2;have g0:(((w8.alloc (.map #[] 0)).alloc (.map #[] 0)).alloc (.map #[] 0)).cell? (G,0)=some (O aa 16):=(((YQ.hG.alloc _).alloc _).alloc _).aj rfl;have wI:=JJ;have UX:=@run_makeMap prog;go_upto_region 27 with fail;generalize hw9:World.alloc _ _=w9;have au2:w9=ZK w8 C:=hw9.symm;obtain⟨s,hs⟩:=aW w8.heap.size;rw[<-hs];obtain⟨HW9,WB⟩:=cn au2 hs;clear hw9 au2 hs g0 wI UX;have iM:Below w8 w8 w9:=by rw[HW9.o];exact Qh w8 C
   have HB9:=ag iM;have g0:=(YQ.hG.ah iM).aj (i:=0) (v:=O aa 16) rfl;clear iM;have hmi:=agp w9;obtain⟨HLv,CO⟩:=cn (show Own naV 3 (w9.alloc (.cells ((bt 16 0).map naV).toArray 3)) w9 (an (w9.heap.size,0) 16 16) (bt 16 0) from Own.made (f:=naV) (e:=3) (w:=w9) (base:=w9.heap.size) (xs:=bt 16 0) av (by simp[maxLen])) ((aE w9 w9).alloc av (.cells ((bt 16 0).map naV).toArray 3));generalize hcz:(Obj.cells ((bt 16 0).map naV).toArray 3)=oz at*;clear hcz;go_wp2_with fail;have adt:=ag ((YQ.on HB9).on CO);refine(Ha adt.hc aB aB (λk _=>bB (FO 16 k) aB) _ 16 (yJ 16) (adt.ho.arr (by rw[DF av];decide)) _ 16 _ (HLv.arr au) (λk hk=>by
    have e:(bt 16 0).getD k 0=0:=by rw[db,List.getElem?_replicate];split<;>rfl
    rw[e];exact⟨ae,λ_=>rfl⟩) 2 0).mono ?_
   rintro e sZ ⟨M,ML,cap,rfl,hM,UZ,hm,hb⟩;rw[show(⟨M,ML,C,BL,cap,ps',once 16,bW (once 16) (yJ 16) (bt 16 0) 16,-1,((2:Nat):Int),((0:Nat):Int),decide (4<(Gc.greatest (bW (once 16) (yJ 16) (bt 16 0) 16):Int)-Gc.least (bW (once 16) (yJ 16) (bt 16 0) 16)),λ_=>True⟩:Mg)=ZL M ML C BL cap ps' (λ_=>True) from apT] at hm;have hm:fF 16 B S' sZ (ZL M ML C BL cap ps' (Qi tx)):=hm.ghost (Qi tx);have iG:=CO.size;obtain⟨c1,z1,h12⟩:=apQ (λq hq=>⟨HH.lo q hq,HH.hi q hq⟩) HH.base WB.o YQ.o (sZ:=sZ) (M:=M) (ML:=ML) (cap:=cap) (by rw[<-HW9.o];exact CO.aA hb) (by rw[<-HW9.o];omega) (by rw[<-HW9.o];omega) hm;have H12:=ag h12;clear hb hm hM UZ iG h12 hmi g0 HLv adt CO;have HFc:=ag (apU (s+1+1+1+1) s (s+1) (s+1+1) (s+1+1+1) M ML C BL cap ps' (Qi tx));generalize hf0:fm0 (s+1+1+1+1) s (s+1) (s+1+1) (s+1+1+1) (ZL M ML C BL cap ps' (Qi tx))=f0 at*;have HF0:=ag hf0.symm;have hfF:f0.F=s+1+1+1+1:=by rw[<-hf0];rfl
   clear hf0;have aBw:=ag ((HX.kq av H12.o.2 Kt).mono H12.o.2.size);have vC:=He (by rw[HF0.o];exact Or.inl (show dY.enough (ZL M ML C BL cap ps' (Qi tx))=true from rfl)) H12.o.1 HFc.o (by rw[HF0.o];exact(show 1<=1000000 by decide)) a c tx (by rw[HF0.o];exact rfl) aBw.o (λb o e h1=>Kt.o b o e (fA h1 (HAb.o b o e))) (.inr (by rw[HF0.o];exact(show(0:Nat)+3<=8*(16-3) by decide)));rw[hfF] at vC;have Rz:=ag vC;clear vC;go_wp2_with fail;go_call Rz as e w13 ⟨rfl,f',vk,hsd⟩;rw[HF0.o] at hsd;obtain⟨q1,q2,q3,q4⟩:=fmd hsd;obtain⟨HQ4,H13,HQ,HQ3,IP⟩:=ct q4 (H12.aA vk) q1 q3 q2;clear q1 q2 q3 q4 vk hsd;go_wp2_with fail;go_ret2;exact⟨f',by rw[IP.o];rfl,H13,HQ3,HQ,HQ4⟩
end
end
section
open RowKit
namespace Bo
def sel (tb np ino:Nat)
 |0=>tb
 |1=>np
 |_=>ino
def txt (tb np ino:Nat):Nat->List UInt8
 |0=>[67,85,78,69,1]++bt 51 0
 |k+1=>((txt tb np ino k).set (6+2*k) (bx (sel tb np ino k))).set (7+2*k) (bx (sel tb np ino k/256))
def Qj:List UInt8:=[67,85,78,69]++bt 52 0
def A8 tb np ino:=txt tb np ino 3
theorem Dx tb np ino k:(txt tb np ino k).length=56:=by
 induction k with
 |zero=>rfl
 |succ k ih=>grind[Bo.txt]
end Bo
open Bo
def WC (xs:List UInt8):=(xs.map aJ).toArray
theorem SK xs i x:(WC xs).setIfInBounds i (aJ x)=WC (xs.set i x):=by unfold WC;rw[List.setIfInBounds_toArray,List.map_set]
theorem aF.ownB {w g base n xs} (h:aF w g 5 (WC xs)) (hb:base<=g) (hn:xs.length=n) (h9:n<=1000000):Own aJ 5 w base (an (g,0) n n) xs:=by subst hn;refine⟨by grind,.inr ⟨g,xs.length,WC xs,rfl,hb,h,bp _,by simp only[maxLen];omega,by grind[WC],?_⟩⟩;grind[WC,cL]
theorem au5 u:(Instr.makeSlice 23 (O aa 56) (O aa 56)).run prog u= .ok (an (u,0) 56 56) (u.alloc (.cells (cB 56 (O .u8 0)) 5)):=GG 56 ae u
theorem agq g w (h:aF w g 5 (cB 56 (O .u8 0))) ty:
  (Builtin.copy_ #[23,9] ty #[an (g,0) 56 56,.string {data:=#[67,85,78,69]}]).run prog w= .ok (O aa 4) (w.setRow g (WC Qj)):=by
 have bF:=Lib.run_copy_row_string (P:=prog) w 23 9 ty 5 g 0 56 56 {data:=#[67,85,78,69]} _ 5 Tryz.underlying23 Fa h aB aB;rw[bF];rfl
theorem BF {tb np ino:Nat} (h1:tb<65536) (h2:np<65536) (h3:ino<65536) w:
  Calls prog 85 #[.agg #[O aa tb,O aa (tb+1),O aa np,O aa ino],O aa 56] w λe w'=>(∃a c,e=ar (an a 56 c)/\Own aJ 5 w' w (an a 56 c) (A8 tb np ino))/\Below w w w':=by
 have au6:∀k,sel tb np ino k<65536:=λk=>by unfold sel;split<;>omega
 have aBx:=ag au6;have wI:=au5;have HL:=ag (aF.new w 93 #[O aa tb,O aa ((tb:Int)+1),O aa np,O aa ino]);have bP:=(aE w w).alloc av (.cells #[O aa tb,O aa ((tb:Int)+1),O aa np,O aa ino] 93);have bV:=ag bP;clear bP au6 h1 h2 h3
 go_in
 go_upto_region 4 with fail;have Jq:=ag (aF.new (w.alloc (.cells #[O aa tb,O aa ((tb:Int)+1),O aa np,O aa ino] 93)) 5 (cB 56 (O .u8 0)));have aZ:=(aE _ (w.alloc (.cells #[O aa tb,O aa ((tb:Int)+1),O aa np,O aa ino] 93))).alloc av (.cells (cB 56 (O .u8 0)) 5);obtain⟨xW,df⟩:=cn (HL.ah aZ) (bV.aA aZ);rw[bR] at Jq;obtain⟨G,hG⟩:=aW (w.heap.size+1);obtain⟨Lb,hLb⟩:=aW w.heap.size;have G9:=ag (show w.heap.size<=G/\G≠Lb from ae);rw[<-hG] at Jq⊢;rw[<-hLb] at xW⊢;clear aZ hG hLb wI HL bV;generalize (w.alloc (.cells #[O aa tb,O aa ((tb:Int)+1),O aa np,O aa ino] 93)).alloc (.cells (cB 56 (O .u8 0)) 5)=W1 at*;have hcp:=agq G W1 Jq.o;obtain⟨oC,wR,cO⟩:=cp (Jq.row (WC Qj)) (xW.apd (Ne.symm G9.o.2) (WC Qj)) (df.bU G9.o.1 (WC Qj));have c4:=oC.aj (i:=4) (v:=O .u8 0) rfl;have f4:=oC.frozen 4;have HG4:=ag (show aF ((W1.setRow G (WC Qj)).setCell (G,4) (O .u8 1)) G 5 (WC (txt tb np ino 0)) from by have h:=oC.set 4 (aJ 1);rw[SK] at h;exact h);have hl4:=wR.far (p:=⟨G,4,none⟩) (Ne.symm G9.o.2) (O .u8 1);obtain⟨PT,jM⟩:=cn hl4 (cO.setCell (p:=⟨G,4,none⟩) G9.o.1 (O .u8 1));have l0:=hl4.aj (i:=0) (v:=O aa tb) rfl;have l2:=hl4.aj (i:=2) (v:=O aa np) rfl;have l3:=hl4.aj (i:=3) (v:=O aa ino) rfl;clear hl4 Jq oC xW wR df cO;go_upto_region 6 with fail;generalize (W1.setRow G (WC Qj)).setCell (G,4) (O .u8 1)=W4 at*;clear hcp c4 f4;clear W1;go_wp2_with fail
 go_loopw [6,7,23] (λ_ _ v23 wr=>∃k:Nat,v23=O aa k/\k<=3/\Hid (aF wr G 5 (WC (txt tb np ino k)))/\Hid (Below w w wr)) (λ_ _ v23 _=>3-(intOf v23).toNat)
 case atStart=>exact⟨0,rfl,ae,HG4,jM⟩
 case round=>
  obtain⟨k,rfl,hk,HG,HB⟩:=hrel;clear HG4 jM PT l0 l2 l3;by_cases aT:k<3
  .obtain⟨x,hx⟩:=aW (sel tb np ino k);have hx6:x<65536:=by rw[hx];exact aBx.o k
   have afH:∀u:World,(Instr.index 220 (.agg #[O aa tb,O aa np,O aa ino]) (O aa k)).run prog u= .ok (O aa x) u:=λu=>by rw[hx];rcases(show k=0\/k=1\/k=2 by omega) with rfl|rfl|rfl<;>kernel_rfl
   have e1:txt tb np ino (k+1)=((txt tb np ino k).set (6+2*k) (bx x)).set (7+2*k) (bx (x/256)):=by rw[hx];rfl
   have HE:=ag e1;have hlen:=Dx tb np ino k;generalize txt tb np ino k=t0 at*;obtain⟨HI1,ZF⟩:=cn (show Value.int .u8 ((x:Int)%256)=aJ (bx x) from by rw[Kz,eh];rfl) (show Value.int .u8 ((x:Int)/256%256)=aJ (bx (x/256)) from by rw[Kz,eh];rfl);have hgt:∀(t:List UInt8) i,t.length=56->i<56->∃b:UInt8,(WC t)[i]?=some (O .u8 b.toNat):=λt i ht hi=>⟨t[i]'ae,by unfold WC;rw[List.getElem?_toArray,List.getElem?_map,cX ae];rfl⟩
   have HX:=ag hx;have j1:=bq (2*(k:Int)) ⟨ae,ae⟩;have j2:=bq (6+2*(k:Int)) ⟨ae,ae⟩;have j3:=bq (7+2*(k:Int)) ⟨ae,ae⟩;have j4:=bq ((k:Int)+1) ⟨ae,ae⟩;have p1:(0:Int)<=6+2*(k:Int):=ae;have p2:(6:Int)+2*(k:Int)<56:=ae;have p3:(0:Int)<=7+2*(k:Int):=ae;have p4:(7:Int)+2*(k:Int)<56:=ae;have p5:(0:Int)<=(k:Int):=ae;have p6:(k:Int)<3:=ae;have p7:(6+2*(k:Int)).toNat=6+2*k:=ae;have p8:(7+2*(k:Int)).toNat=7+2*k:=ae;obtain⟨b1,e4⟩:=hgt t0 (6+2*k) hlen ae;obtain⟨b2,e5⟩:=hgt t0 (7+2*k) hlen ae;have c2:=HG.aj (i:=6+2*k) e4;have f2:=HG.frozen (6+2*k);have c3:=HG.aj (i:=7+2*k) e5;have f3:=HG.frozen (7+2*k);obtain⟨HK,KZ⟩:=cn hk aT;clear hx e1 hlen hx6 hk aT e4 e5 hgt;go_wp2;go_roundw
   case rel=>refine⟨k+1,by go_num,by have:=KZ.o;omega,hid ?_,ag ((HB.setCell (p:=⟨G,6+2*k,none⟩) G9.o.1 _).setCell (p:=⟨G,7+2*k,none⟩) G9.o.1 _)⟩;rw[HE.o,HI1.o,ZF.o,<-SK,<-SK];exact(HG.set _ _).set _ _
   case measure=>have:=KZ.o;simp[intOf];omega
  .obtain rfl:k=3:=ae;go_wp2;go_ret;exact⟨⟨_,_,rfl,HG.ownB G9.o.1 (Dx _ _ _ _) ae⟩,HB⟩
end
section
open RowKit dY fG Bo Opn
namespace Bo
def Sv:=A8 2 36 4
def Qe:=aO.putAt fG.zeros 0 (bH (vG.dN 1 0 0))
def fmP L:=L=Tg.page ⟨2,0,1,1⟩ (ig (bt 56 0))\/L=Tg.page ⟨1,1,2,2⟩ Qe\/L=Tg.page ⟨2,0,3,2⟩ (ig Sv)
theorem SN:Qe.length=64:=iW
theorem DD:Sv.length=56:=Dx _ _ _ _
structure Fd f:Prop where
 sd:Sd f 2 Sv
 sq:f.seq=4
 v1:vw f 1=some (⟨1,1,2,2⟩,Qe)
 vn:∀q,2<=q->vw f q=none
variable {f f':Fm}
theorem agr (h:Fmd f (bt 56 0)) q (hq:q≠0):vw f q=none:=by rw[G6,h.no,h.go,h.se,eo hq];rfl
theorem akP (h:Fmd f (bt 56 0)) (hu:Uq f.se):f.se.length<=1:=Wn hu λq hq=>by
 have h1:=h.se q;by_cases e:q=0
 .omega
 .rw[eo e] at h1
  cases hz:aI f.se q with
  |none=>rw[hz] at hq;cases hq
  |some x=>rw[hz] at h1;cases h1
theorem abW (h:Fmd f (bt 56 0)) q (hq:(aI f.se q).isSome=true):q=0:=by
 have h1:=h.se q;by_cases e:q=0
 .exact e
 .rw[eo e] at h1
  cases hz:aI f.se q with
  |none=>rw[hz] at hq;cases hq
  |some x=>rw[hz] at h1;cases h1
theorem apV (h:Fmd f (bt 56 0)):∃x,aI f.se 0=some x/\x.t.s+1=f.seq:=by
 have h1:=h.se 0;rw[ev rfl] at h1
 cases hz:aI f.se 0 with
 |none=>rw[hz] at h1;cases h1
 |some x=>
  rw[hz] at h1;injection h1 with h1
  have h2:x.t=_:=congrArg Prod.fst h1;exact⟨x,rfl,by rw[h2,h.sq]⟩
theorem au7 (h:Fmd f (bt 56 0)) (hg:f.g.gh=fmP) {g} (qP:g 1=Qe) (hc:CmD 16 f [1] g Sv f') (hu:Uq f'.se):Fd f':=by
 have hv1:vw f' 1=some (⟨1,1,2,2⟩,Qe):=by
  have h1:=hc.vw 1 ae;rw[ev (cG.2 rfl)] at h1;obtain⟨sq,a,b,e⟩:=h1;rw[e,h.ep,qP];rw[h.sq] at a b;grind
 have hvn:∀q,2<=q->vw f' q=none:=λq hq=>by have h1:=hc.vw q ae;rw[eo (by grind)] at h1;rw[h1];exact agr h q ae
 have hv0:vw f' 0=some (⟨2,0,3,2⟩,ig Sv):=by rw[hc.vw0,h.sq,h.ep];rfl
 have ER:f'.seq=4:=by rw[hc.seq,h.sq];rfl
 have hhl:(ig Sv).length=64:=by unfold ig;rw[bE,DD];rfl
 refine⟨⟨hc.fc,hc.no,hc.go,λL hL=>?_,by rw[hc.ep,h.ep],⟨_,hv0,rfl,by rw[ER]⟩,λq hq=>?_,hu,hc.zt 0 h.z0,ae⟩,ER,hv1,hvn⟩
 .rw[hc.gh,hg] at hL;rw[ER];rcases hL with rfl|rfl|rfl
  .exact⟨⟨2,0,1,1⟩,_,rfl,aB,by simp[ig],aB,aB,aB,_,hv0,aB,λe=>by cases e⟩
  .exact⟨⟨1,1,2,2⟩,_,rfl,aB,SN,aB,aB,aB,_,hv1,aB,λ_=>⟨rfl,rfl⟩⟩
  .exact⟨⟨2,0,3,2⟩,_,rfl,aB,hhl,aB,aB,aB,_,hv0,aB,λ_=>⟨rfl,rfl⟩⟩
 grind
end Bo
end
section
open RowKit
theorem Lc w:
  Calls prog 112 #[O aa 64,O aa 102] w λe w'=>e=ar (ao #[.agg #[O aa 2,O aa 3,O aa 36,O aa 4],O aa 0])/\Below w w w':=by
 have HPC:=ag (mY 64);have hp:Ino.eF 64=2:=aB;rw[hp] at HPC;clear hp
 go_in
 go_wp2_with fail;refine(HPC.o _).cj ?_;go_wp2
 go_region_with (go_at_call 154;refine(HPC.o _).cj ?_)
 all_goals
  go_wp2;refine bodyPost_ret (v:=ao #[.agg #[O aa 2,O aa 3,O aa 36,O aa 4],O aa 0]) (by simp[results,Tryz.results112,go_sem];try decide) rfl ⟨rfl,?_⟩
  repeat (first|(with_reducible exact aE _ _)|((with_reducible refine Below.drew ?_))|((with_reducible refine Below.setCell ?_ au _))|((with_reducible refine Below.alloc ?_ au _)))
end
section
open RowKit dY fG Bo Opn
theorem au8 u:(Instr.makeSlice 23 (O aa 56) (O aa 56)).run prog u= .ok (an (u,0) 56 56) (u.alloc (.cells (cB 56 (O .u8 0)) 5)):=GG 56 ae u
section
variable {B C BL:Nat} {S:Nat->Prop} {ps:Nat->Nat} {w:World}
def anz (B:Nat) (S:Nat->Prop) (C:Nat) (w w':World):=∃Q f,cu 16 B Q w' f/\Bo.Fd f/\f.g.C=C/\(∀q,Q q->S q\/w<=q)/\Kq S w w'
theorem I4 (h:eu 16 B S w C BL ps (λ_=>fresh 0)):
  Calls prog 59 #[C,O aa 2] w λe w'=>(∃T,e=ar (ao #[.pointer (some ⟨T,0,none⟩),O aa 0]))/\anz B S C w w':=by
 obtain⟨HG,HH⟩:=cn (dQ h) h;have qZ:=Qa (O aa 16) (O aa 8) (O aa 64);have wI:=au8;have hmx:max (0:Int) 56=56:=aB;clear h
 go_in
 go_wp2_with fail;go_call HG as e w1 ⟨rfl,bP⟩;have bV:=ag bP;unfold uI;have mf:=(aE w1 w1).alloc av (.cells (cB 56 (O .u8 0)) 5);obtain⟨df,HC2,NK⟩:=cp (bP.aA mf) ((HH.on bP).on mf) ((kU w1 w1 56 av ae).arr au);have HSn:=ag (show∀b o,(some (aw w1.heap.size 0):Option Addr)=some ⟨b,o,none⟩->¬S b from λb o e hs=>by
  have:=HH.hi b hs;injection e with e
  injection e with e
  have:=bP.size;omega)
 clear bP mf HG;go_wp2_with fail;generalize w1.alloc (.cells (cB 56 (O .u8 0)) 5)=w2 at*;go_call(OL HC2 _ 56 (bt 56 0) NK HSn) as e w3 ⟨f,rfl,vk,hfC,hfd,NL⟩;have FP:cu 16 B (Up S w2 w3) w3 (gsF f fmP):=vk.1.ghost fmP;obtain⟨Af,HF3,EM⟩:=cp (hfd.ghost (P:=fmP) λL hL=>by rw[NL] at hL;exact .inl hL) FP (show(gsF f fmP).g.C=C from hfC);obtain⟨NM,HGh,jZ⟩:=cp (show(gsF f fmP).F=f.F from rfl) (show(gsF f fmP).g.gh=fmP from rfl) ((Kq.of (T:=S) df).trans vk.2);have HU3:=ag (show∀q,Up S w2 w3 q->S q\/w.heap.size<=q from λq hq=>by
  rcases hq with h1|h1
  .exact .inl h1
  .exact .inr (by have:=df.size;omega))
 generalize Up S w2 w3=Q3 at*;rw[<-NM.o];generalize gsF f fmP=f3 at*;clear vk hfC hfd NL FP NM NK HSn HC2 wI;go_wp2_with fail;go_call(show Calls prog 113 #[f3.F] w3 λe w'=>e=ar (O aa 102)/\Below w3 w3 w' from jG HF3 Af.fc.fi) as e w4 ⟨rfl,eG⟩;obtain⟨HF4,kX⟩:=cn (HF3.on eG) (jZ.on eG);clear eG;go_wp2_with fail;go_call(Lc w4) as e w5 ⟨rfl,eQ⟩;obtain⟨SC,wS,zM⟩:=cp (HF4.on eQ) (kX.on eQ) (aF.new w5 93 #[O aa 0,O aa 0,O aa 0,O aa 0]);clear eQ HF3 HF4 jZ kX;obtain⟨w6,hw6⟩:=aW ((w5.alloc (.cells #[O aa 0,O aa 0,O aa 0,O aa 0] 93)).setRow w5 #[O aa 2,O aa 3,O aa 36,O aa 4]);have fJ:Below w5 w5 w6:=by rw[hw6];exact((aE _ w5).alloc av _).bU av _
 obtain⟨NH,HW6,HF6,ql,Fj⟩:=ct (show aF w6 w5 93 #[O aa 2,O aa 3,O aa 36,O aa 4] from by rw[hw6];exact zM.row _) hw6 (SC.on fJ) (wS.on fJ) (SC.aV av);clear hw6 fJ;obtain⟨l0,l1,l2,l3⟩:=NH.c4
 go_wp2_with (refine aH rfl rfl _ _ _ rfl w5 #[O aa 2,O aa 3,O aa 36,O aa 4] rfl rfl 93 #[O aa 0,O aa 0,O aa 0,O aa 0] zM rfl SG (SH _ _ _ _) ?_;rw[<-HW6.o])
 have YO:=ag (show Calls prog 114 #[f3.F,.agg #[O aa 2,O aa 3,O aa 36,O aa 4],an none 0 0] w6 λe w'=>∃Z,e=ar (ao #[.pointer (some ⟨Z,0,none⟩),O aa 0])/\kF 16 B Q3 w6 w' Z f3 (Ps.gY f3 2 36 4)/\w6.heap.size<=Z from
  Bc (tb:=2) (np:=36) (ino:=4) HF6.o Af.fc (by rw[Af.tv,dx]) ae ae ae)
 go_call YO as e w7 ⟨Z,rfl,uh,_⟩;obtain⟨HP7,HL7,yh⟩:=cp uh.1 (NH.kq uh.2 Fj) (ql.aA uh.2 HU3);have HU7:=ag (show∀q,Up Q3 w6 w7 q->S q\/w.heap.size<=q from λq hq=>by
  rcases hq with h1|h1
  .exact HU3.o q h1
  .exact .inr (by have:=ql.size;omega))
 have HLm:=ag (show¬Up Q3 w6 w7 w5 from λh=>Fj.o (fA h NH.lt));generalize Up Q3 w6 w7=Q7 at*;clear uh YO Fj NH HF6 ql zM HW6 l0 l1 l2 l3 HU3 SC wS;go_wp2_with fail;go_call(Bd w7 Z) as e w8 ⟨rfl,ht8,ny⟩;obtain⟨T,hT⟩:=aW w7.heap.size;have Oz:=ag (show¬Q7 T from HP7.aV ae);rw[<-hT] at ht8⊢;obtain⟨Vd,HP8,JI,Qb,HTs⟩:=ct ht8 (HP7.on ny) (HL7.ah ny) (yh.on ny) (show w.heap.size<=T from by rw[hT];exact yh.size);clear ht8 ny hT HP7 HL7 yh;obtain⟨s0,ET⟩:=aW (Ps.gY f3 2 36 4);obtain⟨gZ,HI0⟩:=cn ET (show s0.ino=4/\s0.tb=2/\(∀n,¬s0.dy n)/\s0.g 1=fG.zeros from by rw[ET];refine⟨rfl,rfl,λn h=>h,?_⟩;show EL f3 [] 1=fG.zeros;unfold EL;show(match vw f3 1 with|some y=>y.2|none=>fG.zeros)=_;rw[agr Af.o 1 ae]);rw[<-ET] at HP8;clear ET;have Rz:=ag (show∀W,bZ 16 B Q7 W Z f3 s0->qK W T Z->Calls prog 81 #[T,O aa 1,.agg bh] W λe w'=>e=ar (O aa 0)/\kF 16 B Q7 W w' Z f3 (gI s0 1 (bH (vG.dN 1 0 0))) from λW hW hT=>
  kG hW hT Oz.o (n:=1) ae (by rw[HI0.o.1];omega) (by rw[HI0.o.1];omega) (by rw[HI0.o.2.1];omega) (bH (vG.dN 1 0 0)) aB)
 go_wp2_with fail;go_call(Rz.o w8 HP8 Vd) as e w9 ⟨rfl,RD⟩;obtain⟨HP9,I5,GU⟩:=cp RD.1 (JI.kq RD.2 HLm) (Qb.aA RD.2 HU7);have HU9:=ag (show∀q,Up Q7 w8 w9 q->S q\/w.heap.size<=q from λq hq=>by
  rcases hq with h1|h1
  .exact HU7.o q h1
  .exact .inr (by have:=Qb.size;omega))
 generalize Up Q7 w8 w9=Q9 at*;obtain⟨s1,jA⟩:=aW (gI s0 1 (bH (vG.dN 1 0 0)));have HI1:=ag (show s1.tb=2/\(∀n,s1.dy n↔n∈[1])/\s1.g 1=Qe from by
  rw[jA];refine⟨HI0.o.2.1,λn=>?_,?_⟩
  .show n=1\/s0.dy n↔_;rw[cG];exact⟨λh=>h.elim id λh=>(HI0.o.2.2.1 n h).elim,.inl⟩
  .show nN s0.g 1 (aO.putAt (s0.g 1) 0 (bH (vG.dN 1 0 0))) 1=Qe;rw[fD,HI0.o.2.2.2];rfl)
 rw[<-jA] at HP9;obtain⟨l0,l1,l2,l3⟩:=I5.c4;clear RD jA HP8 JI Qb Vd Rz HI0 gZ HU7 HLm Oz;go_wp2_with fail;go_call(show Calls prog 85 #[.agg #[O aa 2,O aa 3,O aa 36,O aa 4],O aa 56] w9 _ from BF (tb:=2) (np:=36) (ino:=4) ae ae ae w9) as e E5 ⟨⟨a10,c10,rfl,apY⟩,DJ⟩;obtain⟨au9,akk,akR,aBB⟩:=cr (HP9.on DJ) (GU.on DJ) (show Bytes E5 E5 a10 56 Sv from apY.arr (by rw[show(A8 2 36 4).length=56 from DD];decide)) (show∀b o,a10=some ⟨b,o,none⟩->¬Q9 b from λb o e=>HP9.aV (apY.aN b (by rw[e];rfl)).1);clear apY DJ l0 l1 l2 l3 I5;have FD:=ag (xP (L:=[1]) (tx:=Sv) (c:=c10) au9 au HI1.o.2.1 Af.no Af.go (apV Af) aB au (by
  obtain⟨R,hf,_⟩:=au9.ft;have:=akP Af.o hf.hS.uq;omega) (by rw[Af.sq];decide) (λq hq=>by obtain rfl:=abW Af q hq;decide) (λq sq hq h1 h2=>by
   rw[cG] at hq;subst hq;rw[Af.sq] at h1 h2;obtain rfl:sq=2:=by simp at h2;omega
   rw[HGh.o,Af.ep,HI1.o.2.2];exact .inr (.inl rfl)) (by rw[HGh.o,Af.ep,Af.sq];exact .inr (.inr rfl)) akR.o aBB.o)
 go_wp2_with fail;go_call FD as e sZ ⟨rfl,f1,f11,apZ,hdp,ap0⟩;obtain rfl:f1=f3:=hdp.none Af.go λq h=>by have:=abW Af.o q (by have h2:=h.2.1;unfold jw at h2;rw[Af.no,Af.go] at h2;exact h2);exact h.1 this
 obtain⟨aBC,aBD⟩:=cn apZ.1 (akk.aA apZ.2 HU9);have aBE:=ag (show∀q,Up Q9 E5 sZ q->S q\/w.heap.size<=q from λq hq=>by
  rcases hq with h1|h1
  .exact HU9.o q h1
  .exact .inr (by have:=akk.size;omega))
 have ava:=ag ap0;clear apZ ap0 FD hdp;go_wp2;go_ret2;obtain⟨R,hf,_,hR⟩:=aBC.ft;exact⟨⟨_,rfl⟩,R,f11,hf,au7 Af HGh HI1.o.2.2 ava hf.hS.uq,ava.C.trans EM,λq hq=>aBE.o q (hR q hq),aBD⟩
end
end
section
open RowKit Maps ChangeMaps dY fG Bo Opn
namespace Bo
def YR:Enc (Nat×Value):=⟨Prod.fst,iV,Prod.snd,ZM⟩
def uk:=tV (bH (vG.dN 1 0 0))
def zQ (F U K I:Nat) (r1:Int):Array Value:=#[F,O aa 2,O aa 3,O aa 36,O aa 4,O aa 64,.map (some U),.map (some K),.map (some I),an none 0 0,O aa 0,O aa r1,O aa 0,O aa 0]
theorem akJ:(vG.eqB (aO.qA Qe ((0:Nat))) (bH (vG.dN 1 0 0))=true/\aO.aI Qe ((0:Nat))=0)/\vG.eqB (aO.qA Qe ((1:Nat))) vG.zN=true/\aO.aI Qe ((1:Nat))=0:=iW
structure Fo f:Prop where
 fc:Fc 16 f
 v1:∃e,jw f 1=some e/\e.d=Qe
 vn:∀q,2<=q->jw f q=none
theorem Fo.of {f} (hc:Fc 16 f) (h1:vw f 1=some (⟨1,1,2,2⟩,Qe)) (hn:∀q,2<=q->vw f q=none):Fo f:=by
 refine⟨hc,?_,λq hq=>?_⟩
 .obtain⟨e,he,hd,_⟩:=DK h1;exact⟨e,he,hd⟩
 .have:=hn q hq;unfold vw at this
  cases hz:jw f q with
  |none=>rfl
  |some e=>grind
variable {B:Nat} {R:Nat->Prop} {w:World} {f:Fm}
theorem G8 (h:cu 16 B R w f) (ho:Fo f):Calls prog 176 #[f.F,O .u32 1] w λe w'=>(∃a c,e=ar (ao #[an a 64 c,O aa 0])/\64<=c/\Bytes w' w' a 64 Qe)/\cu 16 B R w' f/\Kq R w w':=by obtain⟨e,he,hd⟩:=ho.v1;refine(Bf h ho.fc 1 ae ae ae e he).mono ?_;rintro e w' ⟨⟨v,rfl,hv⟩,hf,hk⟩;rw[hd] at hv;obtain⟨a,c,rfl,hc⟩:=hv.bG SN;exact⟨⟨a,c,rfl,hc,hv.arr (by rw[SN];decide)⟩,hf,hk⟩
theorem Wv (h:cu 16 B R w f) (ho:Fo f) {q:Nat} (hq:2<=q) (JG:q<=2):Calls prog 176 #[f.F,O .u32 q] w λe w'=>e=ar (ao #[an none 0 0,O aa 60])/\cu 16 B R w' f/\Kq R w w':=by refine(xR h ho.fc q ae ae ae (ho.vn q hq)).mono ?_;rintro e w' ⟨rfl,hb⟩;exact⟨rfl,h.on hb,Kq.of hb⟩
end Bo
section
variable {B Sr U K I:Nat} {R:Nat->Prop} {w:World} {f:Fm}
theorem Wq:aO.qA Qe ((0:Nat))=bH (vG.dN 1 0 0)/\aO.aI Qe ((0:Nat))=0:=⟨vG.agd akJ.1.1,akJ.1.2⟩
theorem Ws:aO.qA Qe ((1:Nat))=vG.zN/\aO.aI Qe ((1:Nat))=0:=⟨vG.agd akJ.2.1,akJ.2.2⟩
structure TbW B Sr U K I R w f l W:Prop where
 ft:cu 16 B R W f
 s:aF W Sr 192 (zQ f.F U K I 0)
 i:cZ YR prog 3 W I l
 k:Kq (λq=>R q\/q=I) w W
theorem Le (h:cu 16 B R w f) (ho:Fo f) (hs:aF w Sr 192 (zQ f.F U K I 0)) (hi:cZ YR prog 3 w I []) (hn:¬R Sr/\¬R I) (di:Sr≠I):
  Calls prog 120 #[Sr] w λe w'=>e=ar (aq true)/\TbW B Sr U K I R w f [(1,uk)] w':=by
 obtain⟨HFo,HNr,EO,HW0,HPc⟩:=ct ho hn di (show TbW B Sr U K I R w f [] w from⟨h,hs,hi,Kq.refl _ _⟩) (oN 64 w);rw[show Ino.eF 64=2 from aB] at HPc;have s5:=hs.aj (i:=5) (v:=O aa 64) rfl;clear h ho hs hi hn di
 go_in
 go_wp2_with fail;refine HPc.cj ?_;clear s5 HPc;go_wp2_with fail
 go_loopw [4,5,6,7] (λv4 _ _ _ wr=>∃k:Nat,v4=O aa k/\1<=k/\k<=5/\Hid (TbW B Sr U K I R w f (if k=1 then[] else[(1,uk)]) wr)) (λv4 _ _ _ _=>1000000-(intOf v4).toNat)
 case atStart=>exact⟨1,rfl,ae,ae,HW0⟩
 case round=>
  obtain⟨k,rfl,fO,eU,HW⟩:=hrel;clear HW0;obtain⟨t1,t2,t3,t4⟩:=HW.o;obtain⟨HF,HSr,HI,HK⟩:=cr t1 t2 t3 t4;have s4:=t2.aj (i:=4) (v:=O aa 4) rfl;clear t1 t2 t3 t4 HW;have q1:=bq ((k:Int)+1) ⟨ae,ae⟩;have z0:IntKind.i64.wrap 0=0:=aB;have z1:IntKind.i64.wrap 1=1:=aB;have z2:IntKind.u32.wrap 1=1:=aB;rcases(show k=1\/k=2\/(3<=k/\k<=4)\/k=5 by omega) with rfl|rfl|hk|rfl
  .rw[ev rfl] at HI;rw[show((1:Nat):Int)=1 from rfl] at q1⊢;clear fO eU
   go_upto_region 5 with fail;obtain⟨gZ,iO⟩:=cn (show Below wr wr wr.drew from ak wr) (λW (h1:aF W Sr 192 (zQ f.F U K I 0))=>h1);refine iE (λW'=>aF W' Sr 192 (zQ f.F U K I 0)) (iO.o _ (HSr.ah gZ)) (λaY=>?_);generalize wr.drew=Wd at*;refine dw 0 Sr 0 ?_;refine aS 1 Sr 0 ?_;refine aS 2 Sr 0 ?_;refine kS 3 f.F (λ_ aK=>aK.aj (i:=0) (v:= .pointer (aw f.F 0)) rfl) ?_;refine dI 4 1 ?_;refine iR 5 0 ?_;refine dI 6 2 ?_;refine iR 7 0 ?_;refine iR 8 1 ?_;refine eX 9 (O .u32 1) ?_;refine bY 10 (λK' hK=>?_);go_simp;go_call(G8 (HF.on gZ) HFo) as e W6 ⟨⟨a6,c6,rfl,hc6,hx6⟩,hf,tH⟩;obtain⟨HF6,OI,Bz,ql⟩:=cr hf ((HSr.ah gZ).kq tH HNr.o.1) (show cZ YR prog 3 W6 I [] from(HI.on gZ).same (tH.block I (HI.on gZ).lt HNr.o.2)) ((HK.on gZ).aA tH λq hq=> .inl (.inl hq));clear hf tH;refine hK.out _ _ (iO.o _ OI) (λqy=>?_)
   refine dG 11 (ao #[(an a6 64 c6),O aa 0]) ?_;refine dG 12 (an a6 64 c6) ?_;refine dI 13 0 ?_;refine dG 14 (an a6 64 c6) ?_;refine dI 15 0 ?_;refine eH ?_;clear aY qy gZ iO HF HSr HI HK;have HGt:=ag (FM a6 64 c6 Qe ((0:Nat):Int) W6 hx6 hc6);rw[Wq.1,Wq.2] at HGt;unfold tV at HGt;clear hx6 hc6;go_wp2_with fail;go_call HGt as e W7 ⟨rfl,jr⟩;have ny:Below W7 W7 ((W7.alloc (.cells bc 107)).setRow W7 bh):=((aE _ W7).alloc av _).bU av _;have HN7:=ag (aF.new W7 107 bc);obtain⟨W8,Wu⟩:=aW ((W7.alloc (.cells bc 107)).setRow W7 bh);rw[<-Wu] at ny;obtain⟨JI,HW8,Fj⟩:=cp (show aF W8 W7 107 bh from by rw[Wu];exact HN7.row _) Wu (show I<W7.heap.size from by have:=Bz.lt;have:=jr.size;omega);have iM:=jr.aA ny;obtain⟨HF8,apM,YQ,Qb⟩:=cr (HF6.on iM) (OI.ah iM) (Bz.on iM) (ql.on iM);clear jr ny iM Wu HF6 OI Bz ql HGt;have y0:=JI.aj (i:=0) (v:=O aa 2) rfl
   go_upto_block 12 with(refine aH rfl rfl _ _ _ rfl W7 bh rfl rfl 107 bc HN7 rfl dC (by simp[Value.oneCell']) ?_;rw[<-HW8.o])
   go_upto_region 11 with fail;obtain⟨HSd,HLd,tK⟩:=cp (apM.ah (ak W8)) (JI.ah (ak W8)) (YQ.on (ak W8));obtain⟨Af,xX,iO⟩:=cp (HF8.on (ak W8)) (Qb.on (ak W8)) (λW (h1:aF W Sr 192 (zQ f.F U K I 0)) (h2:aF W W7 107 bh)=>cJ h1 h2);refine iE (λW'=>aF W' Sr 192 (zQ f.F U K I 0)/\aF W' W7 107 bh) (iO.o _ HSd HLd) (λaY=>?_);generalize W8.drew=We at*;refine dw 0 Sr 0 ?_;refine aS 1 Sr 0 ?_;refine aS 2 Sr 8 ?_;refine kS 3 (.map (some I)) (λ_ aK=>aK.1.aj (i:=8) (v:= .map (some I)) rfl) ?_;refine dI 4 1 ?_;refine jE 5 (.agg bh) rfl (λ_ aK=>by have e0:=aK.2.aj (i:=0) rfl;have e1:=aK.2.aj (i:=1) rfl;have e2:=aK.2.aj (i:=2) rfl;have e3:=aK.2.aj (i:=3) rfl;have e4:=aK.2.aj (i:=4) rfl;have e5:=aK.2.aj (i:=5) rfl;have e6:=aK.2.aj (i:=6) rfl;have e7:=aK.2.aj (i:=7) rfl;have e8:=aK.2.aj (i:=8) rfl;have e9:=aK.2.aj (i:=9) rfl;have e10:=aK.2.aj (i:=10) rfl;go_simp) ?_;obtain⟨o,bF,UY,hg9⟩:=tK.put fG.xQ Tryz.underlying190 (1,uk) (fG.IZ (p:=1) ae);replace bF:(Instr.mapUpdate 190 (.map (some I)) (O aa 1) (.agg bh)).run prog We= .ok () (setBlock We I o):=bF;refine bY 6 (λK' hK=>?_);go_simp;have yI:(some I:Option Nat)≠some Sr:=λe=>EO.o (Option.some.inj e).symm;obtain⟨UO,I5,HF9,GU,HI9⟩:=ct (HSd.grown hg9 (λe=>yI e.symm)) (HLd.grown hg9 (λe=>by have:=tK.lt;have:=Fj.o;have:=Option.some.inj e;omega)) (Af.kq (Kq.grown hg9) λq hq e=>HNr.o.2 (by rw[Option.some.inj e];exact hq)) (xX.aA (Kq.grown hg9) λq e=> .inl (.inr (Option.some.inj e).symm)) UY;clear bF UY hg9 yI;refine hK.out _ _ (iO.o _ UO I5) (λIA=>?_)
   refine eH ?_;clear aY IA;go_wp2;go_roundw
   case rel=>exact⟨2,by go_num,ae,ae,ag (by rw[eo ae];exact⟨HF9,UO,HI9,GU⟩)⟩
   case measure=>simp[intOf]
  .rw[eo ae] at HI;rw[show((2:Nat):Int)=2 from rfl] at q1⊢;clear fO eU
   go_upto_region 5 with fail;obtain⟨gZ,iO⟩:=cn (show Below wr wr wr.drew from ak wr) (λW (h1:aF W Sr 192 (zQ f.F U K I 0))=>h1);refine iE (λW'=>aF W' Sr 192 (zQ f.F U K I 0)) (iO.o _ (HSr.ah gZ)) (λaY=>?_);generalize wr.drew=Wd at*;refine dw 0 Sr 0 ?_;refine aS 1 Sr 0 ?_;refine aS 2 Sr 0 ?_;refine kS 3 f.F (λ_ aK=>aK.aj (i:=0) (v:= .pointer (aw f.F 0)) rfl) ?_;refine dI 4 2 ?_;refine iR 5 1 ?_;refine dI 6 2 ?_;refine iR 7 0 ?_;refine iR 8 1 ?_;refine eX 9 (O .u32 1) ?_;refine bY 10 (λK' hK=>?_);go_simp;go_call(G8 (HF.on gZ) HFo) as e W6 ⟨⟨a6,c6,rfl,hc6,hx6⟩,hf,tH⟩;obtain⟨HF6,OI,Bz,ql⟩:=cr hf ((HSr.ah gZ).kq tH HNr.o.1) (show cZ YR prog 3 W6 I [(1,uk)] from(HI.on gZ).same (tH.block I (HI.on gZ).lt HNr.o.2)) ((HK.on gZ).aA tH λq hq=> .inl (.inl hq));clear hf tH;refine hK.out _ _ (iO.o _ OI) (λqy=>?_)
   refine dG 11 (ao #[(an a6 64 c6),O aa 0]) ?_;refine dG 12 (an a6 64 c6) ?_;refine dI 13 0 ?_;refine dG 14 (an a6 64 c6) ?_;refine dI 15 0 ?_;refine eH ?_;clear aY qy gZ iO HF HSr HI HK;have HGt:=ag (FM a6 64 c6 Qe ((1:Nat):Int) W6 hx6 hc6);rw[Ws.1,Ws.2] at HGt;unfold tV at HGt;clear hx6 hc6;go_wp2_with fail;go_call HGt as e W7 ⟨rfl,jr⟩;have ny:Below W7 W7 ((W7.alloc (.cells bc 107)).setRow W7 bc):=((aE _ W7).alloc av _).bU av _;have HN7:=ag (aF.new W7 107 bc);obtain⟨W8,Wu⟩:=aW ((W7.alloc (.cells bc 107)).setRow W7 bc);rw[<-Wu] at ny;obtain⟨JI,HW8,Fj⟩:=cp (show aF W8 W7 107 bc from by rw[Wu];exact HN7.row _) Wu (show I<W7.heap.size from by have:=Bz.lt;have:=jr.size;omega);have iM:=jr.aA ny;obtain⟨HF8,apM,YQ,Qb⟩:=cr (HF6.on iM) (OI.ah iM) (Bz.on iM) (ql.on iM);clear jr ny iM Wu HF6 OI Bz ql HGt;have y0:=JI.aj (i:=0) (v:=O aa 0) rfl
   go_wp2_with (refine aH rfl rfl _ _ _ rfl W7 bc rfl rfl 107 bc HN7 rfl dC (by simp[Value.oneCell']) ?_;rw[<-HW8.o])
   go_roundw
   case rel=>exact⟨3,by go_num,ae,ae,ag (by rw[eo ae];exact⟨HF8,apM,YQ,Qb⟩)⟩
   case measure=>simp[intOf]
  .rw[eo ae] at HI;have hkk:=hk;have Aw:=ag (show∀W,cu 16 B R W f->Fo f->Calls prog 176 #[f.F,O .u32 (1+((k:Int)-1)/2)] W λe w'=>e=ar (ao #[an none 0 0,O aa 60])/\cu 16 B R w' f/\Kq R W w' from λW hW hO=>by rw[show 1+((k:Int)-1)/2=((1+(k-1)/2:Nat):Int) from ae];exact Wv hW hO ae ae);have q2:=bq ((k:Int)-1) ⟨ae,ae⟩;have q3:IntKind.i64.wrap (Int.tdiv ((k:Int)-1) 2)=((k:Int)-1)/2:=by rw[Int.tdiv_eq_ediv_of_nonneg ae];exact bq (((k:Int)-1)/2) ⟨ae,ae⟩
   have q4:=bq (1+((k:Int)-1)/2) ⟨ae,ae⟩;have q5:=IntWalk.u32_in (1+((k:Int)-1)/2) ⟨ae,ae⟩;have g1:(k:Int)<=4:=ae;have KZ:=ag hk;clear fO eU hk hkk
   go_upto_region 5 with fail;obtain⟨gZ,iO⟩:=cn (show Below wr wr wr.drew from ak wr) (λW (h1:aF W Sr 192 (zQ f.F U K I 0))=>h1);refine iE (λW'=>aF W' Sr 192 (zQ f.F U K I 0)) (iO.o _ (HSr.ah gZ)) (λaY=>?_);generalize wr.drew=Wd at*;refine dw 0 Sr 0 ?_;refine aS 1 Sr 0 ?_;refine aS 2 Sr 0 ?_;refine kS 3 f.F (λ_ aK=>aK.aj (i:=0) (v:= .pointer (aw f.F 0)) rfl) ?_;refine dI 4 (k:Int) ?_;refine iR 5 ((k:Int)-1) ?_;refine dI 6 2 ?_;refine iR 7 (((k:Int)-1)/2) ?_;refine iR 8 (1+((k:Int)-1)/2) ?_;refine eX 9 (O .u32 (1+((k:Int)-1)/2)) ?_;refine bY 10 (λK' hK=>?_);go_simp;go_call(Aw.o _ (HF.on gZ) HFo) as e W6 ⟨rfl,hf,tH⟩;obtain⟨HF6,OI,Bz,ql⟩:=cr hf ((HSr.ah gZ).kq tH HNr.o.1) (show cZ YR prog 3 W6 I [(1,uk)] from(HI.on gZ).same (tH.block I (HI.on gZ).lt HNr.o.2)) ((HK.on gZ).aA tH λq hq=> .inl (.inl hq));clear hf tH;refine hK.out _ _ (iO.o _ OI) (λqy=>?_)
   refine dG 11 (ao #[(an none 0 0),O aa 60]) ?_;refine dG 12 (an none 0 0) ?_;refine dI 13 60 ?_;refine dG 14 (an none 0 0) ?_;refine dI 15 60 ?_;refine eH ?_;clear aY qy gZ iO HF HSr HI HK;go_wp2;go_roundw
   case rel=>exact⟨k+1,by go_num,ae,by have:=KZ.o;omega,ag (by rw[eo (by have:=KZ.o;omega)];exact⟨HF6,OI,Bz,ql⟩)⟩
   case measure=>have:=KZ.o;simp[intOf];omega
  .rw[eo ae] at HI;rw[show((5:Nat):Int)=5 from rfl] at q1⊢;clear fO eU;go_wp2;go_ret;exact⟨rfl,HF,HSr,HI,HK⟩
end
theorem uO (Sr:Nat) n fr lv (g:Nat) bs w:
  Calls prog 230 #[Sr,O aa n,O aa 0,O aa fr,O aa lv,.func (.func g) #[] bs] w λe w'=>e=ar (aq true)/\Below w w w':=by
 go_in
 go_wp2;refine bodyPost_ret (v:=aq true) (by simp[results,Tryz.results230,go_sem]) rfl ⟨rfl,?_⟩
 repeat (first|(with_reducible exact aE _ _)|((with_reducible refine Below.alloc ?_ (by simp<;>omega) _)))
theorem Lj Sr F U K I r1 n (g:Nat) bs w (hs:aF w Sr 192 (zQ F U K I r1)):
  Calls prog 178 #[Sr,O aa n,.agg bh,.func (.func g) #[] bs] w λe w'=>e=ar (aq true)/\Below w w w':=by
 have HS:=ag hs;clear hs
 go_in
 have HMo:=ag (λW=>BB 64 W);rw[show Ino.most 64=67968 from rfl] at HMo;have mf:=((aE w w).alloc av (.cells bh 107)).alloc au (.cells #[.func (.func g) #[] bs] 257);obtain⟨HI0,gX⟩:=cn ((aF.new w 107 bh).alloc (.cells #[.func (.func g) #[] bs] 257)) mf;clear mf;go_upto_region 1 with fail;generalize (w.alloc (.cells bh 107)).alloc (.cells #[.func (.func g) #[] bs] 257)=W0 at*;obtain⟨J,hJ⟩:=aW w.heap.size;rw[<-hJ] at HI0⊢;clear hJ;obtain⟨iO,sW,tK⟩:=cp (λW (h1:aF W Sr 192 (zQ F U K I r1)) (h2:aF W J 107 bh)=>cJ h1 h2) (gX.aA (ak W0)) (HI0.ah (ak W0));have HSd:=ag (HS.ah sW);refine iE (λW'=>aF W' Sr 192 (zQ F U K I r1)/\aF W' J 107 bh) (iO.o _ HSd tK) (λaY=>?_);generalize W0.drew=W1 at*;clear HI0 gX;refine aS 0 J 2 ?_;refine jV 1 0 (λ_ aK=>aK.2.aj (i:=2) (v:=O aa 0) rfl) ?_;refine dw 2 Sr 0 ?_;refine aS 3 Sr 0 ?_;refine aS 4 Sr 5 ?_;refine jV 5 64 (λ_ aK=>aK.1.aj (i:=5) (v:=O aa 64) rfl) ?_;refine bY 6 (λK' hK=>?_);go_simp;refine(HMo.o W1).cj ?_;refine hK.out _ _ (iO.o _ HSd tK) (λdh=>?_)
 refine eX 7 (aq false) ?_;refine eH ?_;clear aY dh;go_upto_region 3 with fail
 go_cut [9,10] (λv9 v10 wx=>∃a b:Nat,v9= .pointer (aw a 0)/\v10= .pointer (aw b 0)/\Hid (Below w w wx)/\Hid (aF wx J 107 bh))
 case first=>
  obtain⟨df,ZF,qN⟩:=cp (sW.aA (ak W1)) (tK.ah (ak W1)) (HSd.ah (ak W1));refine iE (λW'=>aF W' Sr 192 (zQ F U K I r1)/\aF W' J 107 bh) (iO.o _ qN ZF) (λaY=>?_);generalize W1.drew=W2 at*;refine aS 0 J 2 ?_;refine jV 1 0 (λ_ aK=>aK.2.aj (i:=2) (v:=O aa 0) rfl) ?_;refine dw 2 Sr 0 ?_;refine aS 3 Sr 0 ?_;refine aS 4 Sr 5 ?_;refine jV 5 64 (λ_ aK=>aK.1.aj (i:=5) (v:=O aa 64) rfl) ?_;refine jE 6 (O aa 0) rfl (λ_ aK=>by(have y9:IntKind.i64.wrap 0=0:=by decide);go_simp) ?_;refine aS 7 J 2 ?_;refine jV 8 0 (λ_ aK=>aK.2.aj (i:=2) (v:=O aa 0) rfl) ?_;refine dw 9 Sr 0 ?_;refine aS 10 Sr 0 ?_;refine aS 11 Sr 5 ?_;refine jV 12 64 (λ_ aK=>aK.1.aj (i:=5) (v:=O aa 64) rfl) ?_;refine iR 13 0 ?_;refine wpAnyH_ready (rs:=[14,15]) az au ?_;refine bX rfl (λK' hK=>?_) (bX rfl (λK' hK=>?_) cN)
  .go_simp;have bJ:=(aE W2 W2).alloc av (.cells #[O aa 0] 3);obtain⟨cO,AX,qY,HA3,HAs⟩:=ct (df.aA bJ) (qN.ah bJ) (ZF.ah bJ) (aF.new W2 3 #[O aa 0]) (show W2.heap.size<(W2.alloc (.cells #[O aa 0] 3)).heap.size from au);clear bJ;refine hK.out _ _ (iO.o _ AX qY) (λiZ=>?_)
   obtain⟨A,hA⟩:=aW W2.heap.size;have HAw:=ag (show w.heap.size<=A/\J<A from⟨by rw[hA];exact df.size,by rw[hA];exact ZF.lt⟩);rw[<-hA] at HA3 HAs⊢;clear hA;generalize W2.alloc (.cells #[O aa 0] 3)=W3 at*;refine bY 15 (λK' hK=>?_);go_simp;have eG:=(aE W3 W3).alloc av (.cells #[O aa 0] 3);obtain⟨jM,HS4,HI4,HA4,Zw⟩:=ct (cO.aA eG) (AX.ah eG) (qY.ah eG) (HA3.ah eG) (aF.new W3 3 #[O aa 0]);clear eG;refine hK.out _ _ (iO.o _ HS4 HI4) (λqX=>?_)
   obtain⟨D,hD⟩:=aW W3.heap.size;have HDw:=ag (show w.heap.size<=D/\A<D from⟨by rw[hD];exact cO.size,by have:=HAs.o;omega⟩);rw[<-hD] at Zw⊢;clear hD;generalize W3.alloc (.cells #[O aa 0] 3)=W4 at*;have aT:=HS.lt;have wO:=HAw.o;have wP:=HDw.o;have c1:=HA4.aj (i:=0) (v:=O aa 0) rfl;have f1:=HA4.frozen 0;obtain⟨HS5,oZ,P6,je⟩:=cr (HS4.far (p:=⟨A,0,none⟩) (show Sr≠A by omega) (O aa 0)) (HI4.far (p:=⟨A,0,none⟩) (show J≠A by omega) (O aa 0)) (Zw.far (p:=⟨A,0,none⟩) (show D≠A by omega) (O aa 0)) (jM.setCell (p:=⟨A,0,none⟩) (show w.heap.size<=A by omega) (O aa 0));refine bY 16 (λK' hK=>?_);go_simp;refine hK.out _ _ (iO.o _ HS5 oZ) (λnZ=>?_)
   generalize W4.setCell (A,0) (O aa 0)=W5 at*;have c2:=P6.aj (i:=0) (v:=O aa 0) rfl;have f2:=P6.frozen 0;obtain⟨Wx,Bz,ve⟩:=cp (HS5.far (p:=⟨D,0,none⟩) (show Sr≠D by omega) (O aa 0)) (oZ.far (p:=⟨D,0,none⟩) (show J≠D by omega) (O aa 0)) (je.setCell (p:=⟨D,0,none⟩) (show w.heap.size<=D by omega) (O aa 0));clear aT wO wP c1 f1;refine bY 17 (λK' hK=>?_);go_simp;refine hK.out _ _ (iO.o _ Wx Bz) (λqy=>?_)
   refine eH ?_;clear aY iZ qX nZ qy c2 f2;go_wp2_with fail;go_meet
   case rel=>exact⟨A,D,rfl,rfl,ve,Bz⟩
  .go_simp;have bJ:=(aE W2 W2).alloc av (.cells #[O aa 0] 3);obtain⟨cO,AX,qY,HA3,HAs⟩:=ct (df.aA bJ) (qN.ah bJ) (ZF.ah bJ) (aF.new W2 3 #[O aa 0]) (show W2.heap.size<(W2.alloc (.cells #[O aa 0] 3)).heap.size from au);clear bJ;refine hK.out _ _ (iO.o _ AX qY) (λiZ=>?_)
   obtain⟨A,hA⟩:=aW W2.heap.size;have HAw:=ag (show w.heap.size<=A/\J<A from⟨by rw[hA];exact df.size,by rw[hA];exact ZF.lt⟩);rw[<-hA] at HA3 HAs⊢;clear hA;generalize W2.alloc (.cells #[O aa 0] 3)=W3 at*;refine bY 14 (λK' hK=>?_);go_simp;have eG:=(aE W3 W3).alloc av (.cells #[O aa 0] 3);obtain⟨jM,HS4,HI4,HA4,Zw⟩:=ct (cO.aA eG) (AX.ah eG) (qY.ah eG) (HA3.ah eG) (aF.new W3 3 #[O aa 0]);clear eG;refine hK.out _ _ (iO.o _ HS4 HI4) (λqX=>?_)
   obtain⟨D,hD⟩:=aW W3.heap.size;have HDw:=ag (show w.heap.size<=D/\A<D from⟨by rw[hD];exact cO.size,by have:=HAs.o;omega⟩);rw[<-hD] at Zw⊢;clear hD;generalize W3.alloc (.cells #[O aa 0] 3)=W4 at*;have aT:=HS.lt;have wO:=HAw.o;have wP:=HDw.o;have c1:=Zw.aj (i:=0) (v:=O aa 0) rfl;have f1:=Zw.frozen 0;obtain⟨HS5,oZ,P6,je⟩:=cr (HS4.far (p:=⟨D,0,none⟩) (show Sr≠D by omega) (O aa 0)) (HI4.far (p:=⟨D,0,none⟩) (show J≠D by omega) (O aa 0)) (HA4.far (p:=⟨D,0,none⟩) (show A≠D by omega) (O aa 0)) (jM.setCell (p:=⟨D,0,none⟩) (show w.heap.size<=D by omega) (O aa 0));refine bY 16 (λK' hK=>?_);go_simp;refine hK.out _ _ (iO.o _ HS5 oZ) (λnZ=>?_)
   generalize W4.setCell (D,0) (O aa 0)=W5 at*;have c2:=P6.aj (i:=0) (v:=O aa 0) rfl;have f2:=P6.frozen 0;obtain⟨Wx,Bz,ve⟩:=cp (HS5.far (p:=⟨A,0,none⟩) (show Sr≠A by omega) (O aa 0)) (oZ.far (p:=⟨A,0,none⟩) (show J≠A by omega) (O aa 0)) (je.setCell (p:=⟨A,0,none⟩) (show w.heap.size<=A by omega) (O aa 0));clear aT wO wP c1 f1;refine bY 17 (λK' hK=>?_);go_simp;refine hK.out _ _ (iO.o _ Wx Bz) (λqy=>?_)
   refine eH ?_;clear aY iZ qX nZ qy c2 f2;go_wp2_with fail;go_meet
   case rel=>exact⟨D,A,rfl,rfl,ve,Bz⟩
 case rest=>
  obtain⟨a,b,rfl,rfl,HB,HIc⟩:=hcut;have y3:=HIc.aj (i:=3) rfl;have y4:=HIc.aj (i:=4) rfl;have y5:=HIc.aj (i:=5) rfl;have y6:=HIc.aj (i:=6) rfl;have y7:=HIc.aj (i:=7) rfl;have y8:=HIc.aj (i:=8) rfl;have gm:prog.cellsOf 105=6:=az;clear tK HSd sW iO HMo;go_wp2_with fail;clear y3 y4 y5 y6 y7 y8 gm;have HJl:=ag HIc.lt
  go_loopw [12,13,40] (λ_ _ v40 wr=>∃k:Nat,v40=O aa k/\k<=6/\Hid (Below w w wr)/\Hid (aF wr J 107 bh)) (λ_ _ v40 _=>6-(intOf v40).toNat)
  case atStart=>exact⟨0,rfl,ae,HB,HIc⟩
  case round=>
   obtain⟨k,rfl,hk,HB,HIc⟩:=hrel;by_cases aT:k<6
   .have afH:∀u:World,(Instr.index 105 (.agg #[O aa 0,O aa 0,O aa 0,O aa 0,O aa 0,O aa 0]) (O aa k)).run prog u= .ok (O aa 0) u:=λu=>by rcases(show k=0\/k=1\/k=2\/k=3\/k=4\/k=5 by omega) with rfl|rfl|rfl|rfl|rfl|rfl<;>kernel_rfl
    have g1:(k:Int)<6:=ae;have g2:=bq ((k:Int)+1) ⟨ae,ae⟩;have KZ:=ag aT;clear aT hk;go_wp2_with fail;go_call(uO Sr n (k:Int) 0 229 _ _) as e W6 ⟨rfl,fJ⟩;obtain⟨ve,Bz⟩:=cn (HB.aA fJ) (HIc.ah fJ);clear fJ;go_wp2;go_roundw
    case rel=>exact⟨k+1,by go_num,by have:=KZ.o;omega,ve,Bz⟩
    case measure=>have:=KZ.o;simp[intOf];omega
   .obtain rfl:k=6:=ae;clear aT hk;go_upto_region 12 with fail;obtain⟨iO,nY,vN⟩:=cp (λW (h1:aF W Sr 192 (zQ F U K I r1)) (h2:aF W J 107 bh)=>cJ h1 h2) (HB.aA (ak wr)) (HIc.ah (ak wr));have Ol:=ag (HS.ah nY);refine iE (λW'=>aF W' Sr 192 (zQ F U K I r1)/\aF W' J 107 bh) (iO.o _ Ol vN) (λaY=>?_);generalize wr.drew=W7 at*;refine dw 0 Sr 0 ?_;refine dI 1 n ?_;refine aS 2 J 9 ?_;refine jV 3 0 (λ_ aK=>aK.2.aj (i:=9) (v:=O aa 0) rfl) ?_;refine dI 4 6 ?_;refine dG 5 (.func (.func 229) #[] #[a,.pointer (some ⟨b,0,none⟩),.pointer (some ⟨J+1,0,none⟩)]) ?_;refine bY 6 (λK' hK=>?_);go_simp;go_call(uO Sr n 6 1 229 _ W7) as e W8 ⟨rfl,ny⟩;obtain⟨UG,YQ,BC⟩:=cp (nY.aA ny) (vN.ah ny) (Ol.ah ny);clear ny;refine hK.out _ _ (iO.o _ BC YQ) (λhS8=>?_)
    refine dG 7 (aq true) ?_;refine dw 8 Sr 0 ?_;refine dI 9 n ?_;refine aS 10 J 10 ?_;refine jV 11 0 (λ_ aK=>aK.2.aj (i:=10) (v:=O aa 0) rfl) ?_;refine dI 12 6 ?_;refine dw 13 Sr 0 ?_;refine aS 14 Sr 0 ?_;refine aS 15 Sr 5 ?_;refine jV 16 64 (λ_ aK=>aK.1.aj (i:=5) (v:=O aa 64) rfl) ?_;refine jE 17 (O aa 32) rfl (λ_ aK=>by(have y9:IntKind.i64.wrap 32=32:=by decide);go_simp) ?_;refine jE 18 (O aa 38) rfl (λ_ aK=>by(have y9:IntKind.i64.wrap 38=38:=by decide);go_simp) ?_;refine dG 19 (.func (.func 229) #[] #[.pointer (some ⟨a,0,none⟩),.pointer (some ⟨b,0,none⟩),.pointer (some ⟨J+1,0,none⟩)]) ?_;refine bY 20 (λK' hK=>?_);go_simp;go_call(uO Sr n 38 2 229 _ W8) as e W9 ⟨rfl,iM⟩;obtain⟨HB9,HI9,UO⟩:=cp (UG.aA iM) (YQ.ah iM) (BC.ah iM);clear iM;refine hK.out _ _ (iO.o _ UO HI9) (λIA=>?_)
    refine eX 21 (aq true) ?_;refine dG 22 (aq true) ?_;refine eH ?_;clear aY hS8 IA;go_wp2;go_ret;exact⟨rfl,HB9⟩
end
section
open RowKit Maps ChangeMaps dY fG Bo Opn
attribute [local go_sem] Oper.semAt_some
theorem abV w B:Bytes w B none 0 []:=jq.none_ _ _ _
theorem SI c w:Calls prog 217 #[an none 0 c] w λe w'=>e=ar (O aa 0)/\Below w w w':=by have h:=Wy none 0 c [] w (abV _ _) (bN _);rw[show Dir.FN []=0 from iW] at h;exact h
def DrI H V w W:=aF W V 252 #[an none 0 0]/\Below H w W
theorem ado H V C B w (h1:V≠C) (h2:H<=C) (h3:H<=B) (hw:H<=w.heap.size):dF C B (DrI H V w):=(aF.jB h1).and (mX h2 h3 hw)
theorem Su Sr F U K I r1 n w (hs:aF w Sr 192 (zQ F U K I r1)):
  Calls prog 177 #[Sr,O aa n,.agg bh] w λe w'=>e=ar (ao #[an none 0 0,aq true])/\Below w w w':=by
 have HS:=ag hs;clear hs;refine callsIn_wide (n:=9)|>.1 ?_;refine callsIn_of_wp_marks Tryz.func177 rfl trivial ?_ rfl;refine wpIn_wide.2 ?_;simp only[Tryz.ntmps177,cU,cD,cV,Nat.reduceAdd,Nat.reduceSub,dT,ee,List.push_toArray,ef,cP,dj];obtain⟨ZH,HV0,ZI⟩:=cp (((aF.new w 107 bh).alloc (.cells #[an none 0 0] 23)).alloc (.cells #[O aa 0] 3)) ((aF.new (w.alloc (.cells bh 107)) 23 #[an none 0 0]).alloc (.cells #[O aa 0] 3)) (aF.new ((w.alloc (.cells bh 107)).alloc (.cells #[an none 0 0] 23)) 3 #[O aa 0]);have gu:Below w w (((w.alloc (.cells bh 107)).alloc (.cells #[an none 0 0] 23)).alloc (.cells #[O aa 0] 3)):=(((aE _ w).alloc av _).alloc au _).alloc (by simp;omega) _;have gX:=ag gu;obtain⟨j0,j1,j2,j3,j4,j5,j6,j7,j8,j9,j10⟩:=ZH.c11;clear gu;go_wp2_with fail;go_call(Lj Sr F U K I r1 n 228 _ _ (HS.ah gX)) as e W1 ⟨rfl,bP⟩;obtain⟨UT,HV1,sV,bV⟩:=cr (ZH.ah bP) (HV0.ah bP) (ZI.ah bP) (gX.aA bP);rw[bR] at HV1;rw[bR,bR] at sV;obtain⟨J,hJ⟩:=aW w.heap.size;obtain⟨V,hV⟩:=aW (w.heap.size+1);obtain⟨P,hP⟩:=aW (w.heap.size+1+1);rw[<-hJ] at UT;rw[<-hV] at HV1;rw[<-hP] at sV;rw[<-hP,<-hV,<-hJ];clear hJ hV hP bP ZH HV0 ZI gX j0 j1 j2 j3 j4 j5 j6 j7 j8 j9 j10;have pG:=ag (HS.ah bV);go_upto_region 5 with fail;obtain⟨iO,df,HJ2⟩:=cp (λW (h1:aF W Sr 192 (zQ F U K I r1)) (h2:aF W J 107 bh) (h3:aF W V 23 #[an none 0 0]) (h4:aF W P 3 #[O aa 0])=>cJ h1 (cJ h2 (cJ h3 h4))) (bV.aA (ak W1)) (UT.ah (ak W1));obtain⟨HV2,ui,qN⟩:=cp (HV1.ah (ak W1)) (sV.ah (ak W1)) (pG.ah (ak W1));refine iE (λW'=>aF W' Sr 192 (zQ F U K I r1)/\aF W' J 107 bh/\aF W' V 23 #[an none 0 0]/\aF W' P 3 #[O aa 0]) (iO.o _ qN HJ2 HV2 ui) (λaY=>?_);generalize W1.drew=W2 at*;refine jV 0 0 (λ_ aK=>aK.2.2.2.aj (i:=0) rfl) ?_;refine dw 1 Sr 0 ?_;refine aS 2 Sr 0 ?_;refine aS 3 Sr 5 ?_;refine jV 4 64 (λ_ aK=>aK.1.aj (i:=5) (v:=O aa 64) rfl) ?_;refine jE 5 (O aa 0) rfl (λ_ aK=>by(have y9:IntKind.i64.wrap 0=0:=by decide);go_simp) ?_;refine aS 6 J 2 ?_;refine jV 7 0 (λ_ aK=>aK.2.1.aj (i:=2) (v:=O aa 0) rfl) ?_;refine eX 8 (aq false) ?_;refine dG 9 (aq false) ?_;refine kS 10 (an none 0 0) (λ_ aK=>aK.2.2.1.aj (i:=0) rfl) ?_;refine aS 11 J 2 ?_;refine jV 12 0 (λ_ aK=>aK.2.1.aj (i:=2) (v:=O aa 0) rfl) ?_;refine eX 13 (an none 0 0) ?_;refine bY 14 (λK' hK=>?_);go_simp;go_call(SI 0 W2) as e W3 ⟨rfl,bJ⟩;obtain⟨cO,uZ,HV3,pU,AX⟩:=ct (df.aA bJ) (HJ2.ah bJ) (HV2.ah bJ) (ui.ah bJ) (qN.ah bJ);clear bJ;refine hK.out _ _ (iO.o _ AX uZ HV3 pU) (λiZ=>?_)
 refine eX 15 (aq false) ?_;refine eX 16 (aq false) ?_;refine eH ?_;clear aY iZ iO qN HJ2 HV2 ui pG UT HV1 sV;have eG:=(aE W3 W3).alloc av (.cells #[an none 0 0] 252);obtain⟨HE4,jM⟩:=cn (aF.new W3 252 #[an none 0 0]) (cO.aA eG);have v0:=(HV3.ah eG).aj (i:=0) rfl;have j2:=(uZ.ah eG).aj (i:=2) rfl;have HEl:=ag (show w.heap.size<=W3.heap.size from cO.size);clear eG;go_wp2_with fail;obtain⟨E,hE⟩:=aW W3.heap.size;rw[<-hE] at HE4 HEl⊢;clear hE;generalize W3.alloc (.cells #[an none 0 0] 252)=W4 at*;refine(agj none 0 0 _).mono ?_;rintro e w_ ⟨rfl,rfl⟩;go_wp2;have hC:=aF.new W4 23 #[an none 0 0];have eQ:=(aE W4 W4).alloc av (.cells #[an none 0 0] 23);have hE5:=HE4.ah eQ;have hB5:=jM.aA eQ;have hEl:=HEl.o;have aBq:=HE4.lt;have aBr:=jM.size;have aBs:(W4.alloc (.cells #[an none 0 0] 23)).heap.size=W4.heap.size+1:=au;clear v0 j2 eQ;obtain⟨Cb,hCb⟩:=aW W4.heap.size;rw[<-hCb] at hC aBs aBq aBr⊢;clear hCb;generalize W4.alloc (.cells #[an none 0 0] 23)=W5 at*;have wK:=Qg none 0 0 [] Cb w W5 av (abV _ _) hC ae;rw[show Dir.OJ []=[] from iW] at wK;refine wpIn_wide.1 (Ll (gf:=211) (lb:=#[Cb]) (encs:=Lm) (xs:=[]) (c:=Cb) (n0:=w.heap.size) (w0:=W5) rfl (enters_of Tryz.func211 az rfl) wK (aE _ _) ae ae (λ_=>rfl)
  (λ_=>DrI w E w) (λ_ _ _=>False) (λpre=>ado _ _ _ _ w ae ae ae av) (λk pre W W' r h=>h.elim) ⟨hE5,hB5⟩ (λ_ _ _ _=>False) (λ_ _ _ W W' r h=>h.elim) ?assign ?body ?done ?stop)
 case assign=>intro lp pre x W K hi iJ hK;obtain⟨t,ht⟩:=iJ;simp at ht
 case body=>exact λlp pre x a1 W h=>h.elim
 case stop=>exact λD k pre W _ _ h=>h.elim
 case done=>rintro D W hD ⟨h1,h2⟩ hK;have HB:=ag h2;have c4:=h1.aj (i:=0) rfl;clear h1 h2;go_wp2;refine⟨au,.inl ⟨_,_,rfl,run_takeDeferred hK,?_⟩⟩;exact⟨_,by simp[results,Tryz.results177,go_sem],rfl,HB.trans (gW _ ae)⟩
end
section
open RowKit Maps ChangeMaps dY fG Bo Opn
theorem auK a b c d e f g h i j k:∀u,(Instr.field 107 (.agg #[a,b,c,d,e,f,g,h,i,j,k]) 0).run prog u= .ok a u:=λu=>az
theorem abM w:(zeroValue 107).run prog w= .ok (.agg bc) w:=az
theorem abN {w I} (h:cZ YR prog 3 w I [(1,uk)]):(Instr.lookup 190 (.map (some I)) (O aa 1) false).run prog w= .ok (.agg bh) w:=
 h.look (p:=1) fG.xQ Tryz.underlying190 (abM w) (fG.IZ ae) false
theorem KY Sr F U K I w (hs:aF w Sr 192 (zQ F U K I 0)) (hk:cZ Ae prog 3 w K []) (hi:cZ YR prog 3 w I [(1,uk)]) (hn:Sr≠K/\Sr≠I/\K≠I):
  Calls prog 121 #[Sr] w λe w'=>e=ar (aq true)/\aF w' Sr 192 (zQ F U K I 1)/\cZ Ae prog 3 w' K [1]/\cZ YR prog 3 w' I [(1,uk)]/\Kq (λq=>q=K\/q=Sr) w w':=by
 have HI:=ag hi;have EO:=ag hn;have hf0:=auK;have hl:=abN hi;have s8:=hs.aj (i:=8) (v:= .map (some I)) rfl;have s7:=hs.aj (i:=7) (v:= .map (some K)) rfl;obtain⟨o,bF,NT,qP⟩:=hk.put fG.xQ Tryz.underlying152 1 (fG.IZ (p:=1) ae);replace bF:(Instr.mapUpdate 152 (.map (some K)) (O aa 1) (O aa 1)).run prog w= .ok () (setBlock w K o):=bF;have pG:=ag (hs.grown qP λe=>hn.1 (Option.some.inj e));have iH:=ag (show cZ Ae prog 3 (setBlock w K o) K [1] from NT);have HI1:=ag (show cZ YR prog 3 (setBlock w K o) I [(1,uk)] from hi.same (qP.block I hi.lt λe=>hn.2.2 (Option.some.inj e).symm));have ES:=ag ((Kq.grown qP).mono (T':=λq=>q=K\/q=Sr) λq e=> .inl (Option.some.inj e).symm);clear hs hk hi hn NT qP
 go_in
 go_wp2;go_step3;go_upto_region 5 with fail;generalize setBlock w K o=W1 at*;clear bF hl s8 s7;have oC:=ag (aF.new W1 3 #[O aa 1]);have aZ:=bA W1 (.cells #[O aa 1] 3);have qN:=ag (pG.o.ah aZ);have ja:=ag (iH.o.on aZ);have ZF:=ag (HI1.o.on aZ);have IP:=ag (ES.o.on aZ);have UQ:=ag pG.o.lt;clear aZ pG iH HI1 ES;go_wp2;obtain⟨G,hG⟩:=aW W1.heap.size;have HGs:=ag (show G≠Sr from by have:=UQ.o;omega);rw[<-hG] at oC⊢;clear hG;generalize W1.alloc (.cells #[O aa 1] 3)=W2 at*;go_step3;go_wp2
 go_loopw [3,4,5,6,7,8] (λv3 v4 v5 _ _ _ wr=>v3=aq true/\v4=an (G,0) 1 1/\∃k:Nat,v5=O aa k/\k<=1/\Hid (aF wr Sr 192 (zQ F U K I (k:Int))/\cZ Ae prog 3 wr K [1]/\cZ YR prog 3 wr I [(1,uk)]/\aF wr G 3 #[O aa 1]/\Kq (λq=>q=K\/q=Sr) w wr)) (λ_ _ v5 _ _ _ _=>1-(intOf v5).toNat)
 case atStart=>exact⟨rfl,rfl,0,rfl,ae,ag ⟨qN.o,ja.o,ZF.o,oC.o,IP.o⟩⟩
 case round=>
  obtain⟨rfl,rfl,k,rfl,hk,HX⟩:=hrel;clear qN ja ZF oC IP;obtain⟨x1,x2,x3,x4,x5⟩:=HX.o;have HS:=ag x1;have HK:=ag x2;have HIx:=ag x3;have HG:=ag x4;have HQ:=ag x5;clear HX x1 x2 x3 x4 x5;rcases(show k=0\/k=1 by omega) with rfl|rfl
  ·rw[show((0:Nat):Int)=0 from rfl] at HS⊢;have g0:=HG.o.aj (i:=0) (v:=O aa 1) rfl;have s11:=HS.o.aj (i:=11) (v:=O aa 0) rfl;have f11:=HS.o.frozen 11;have i1:IntKind.i64.wrap 1=1:=aB;have AX:=ag (show aF (wr.setCell (Sr,11) (O aa 1)) Sr 192 (zQ F U K I 1) from HS.o.set 11 (O aa 1));have jZ:=ag (show cZ Ae prog 3 (wr.setCell (Sr,11) (O aa 1)) K [1] from HK.o.same (heap_setCell_other wr (Sr,11) K _ (by have:=EO.o.1;exact λe=>this e.symm)));have hi3:cZ YR prog 3 (wr.setCell (Sr,11) (O aa 1)) I [(1,uk)]:=HIx.o.same (heap_setCell_other wr (Sr,11) I _ (by have:=EO.o.2.1;exact λe=>this e.symm));have qY:=ag hi3;have FK:=ag (HG.o.far (p:=(Sr,11)) HGs.o (O aa 1));have HQ3:=ag (HQ.o.trans ((Kq.one (Sr,11) (O aa 1)).mono λq e=> .inr e));have hl:=abN hi3;have s8:=AX.o.aj (i:=8) (v:= .map (some I)) rfl;clear hi3 HS HK HIx HG HQ;go_wp2_with fail;go_call(Su Sr F U K I 1 1 _ AX.o) as e W5 ⟨rfl,eQ⟩;have HS5:=ag (AX.o.ah eQ);have wS:=ag (jZ.o.on eQ);have oZ:=ag (qY.o.on eQ);have yF:=ag (FK.o.ah eQ);have HQ5:=ag (HQ3.o.on eQ);clear eQ hl s8 s11 f11 g0 AX jZ qY FK HQ3;go_wp2
   go_loopw [3,4,60] (λv3 v4 v60 wq=>v3=aq true/\v4=an (G,0) 1 1/\v60=O aa 0/\wq=W5) (λ_ _ _ _=>0)
   case atStart=>exact⟨rfl,rfl,rfl,rfl⟩
   case round=>
    obtain⟨rfl,rfl,rfl,rfl⟩:=hrel;go_wp2;go_roundw
    case rel=>exact⟨rfl,rfl,1,rfl,ae,ag ⟨HS5.o,wS.o,oZ.o,yF.o,HQ5.o⟩⟩
    case measure=>simp[intOf]
  ·rw[show((1:Nat):Int)=1 from rfl] at HS⊢;go_wp2;rw[Exit.noGoto_ret];go_ret;exact⟨rfl,HS.o,HK.o,HIx.o,HQ.o⟩
theorem af9 {w} {I n:Nat} (h:cZ YR prog 3 w I [(1,uk)]) (hn:n<4294967296):(Instr.lookup 190 (.map (some I)) (O aa n) true).run prog w= .ok (ao #[if n=1 then .agg bh else .agg bc,aq (decide (n=1))]) w:=by
 have h1:=h.look (p:=n) fG.xQ Tryz.underlying190 (abM w) (fG.IZ hn) true;by_cases e:n=1
 ·subst e;exact h1
 ·rw[eo e,ey e];have:YR.get [(1,uk)] n=none:=Enc.Ju λx hx he=>by rw[cG] at hx;subst hx;exact e he.symm
  rw[this] at h1;exact h1
theorem abP {w K} (h:cZ Ae prog 3 w K [1]):(Instr.lookup 152 (.map (some K)) (O aa 1) false).run prog w= .ok (O aa 1) w:=
 h.look (p:=1) fG.xQ Tryz.underlying152 (aga w) (fG.IZ ae) false
theorem OD Sr F U K I w (hs:aF w Sr 192 (zQ F U K I 1)) (hk:cZ Ae prog 3 w K [1]) (hi:cZ YR prog 3 w I [(1,uk)]):
  Calls prog 122 #[Sr] w λe w'=>e=ar (aq true)/\Below w w w':=by
 have HS:=ag hs;have HK:=ag hk;have HI:=ag hi;have gX:=ag (aE w w);clear hs hk hi
 go_in
 go_wp2
 go_loopw [3,4,5] (λv3 _ _ wr=>∃k:Nat,v3=O aa k/\1<=k/\k<=5/\Hid (Below w w wr)) (λv3 _ _ _=>1000000-(intOf v3).toNat)
 case atStart=>exact⟨1,rfl,ae,ae,gX⟩
 case round=>
  obtain⟨k,rfl,fO,eU,HB⟩:=hrel;clear gX;have HSr:=ag (HS.o.ah HB.o);have s4:=HSr.o.aj (i:=4) (v:=O aa 4) rfl;have s8:=HSr.o.aj (i:=8) (v:= .map (some I)) rfl;have q1:=bq ((k:Int)+1) ⟨ae,ae⟩;have hl:=af9 (HI.o.on HB.o) (n:=k) ae;rcases(show k=1\/(2<=k/\k<=4)\/k=5 by omega) with rfl|hk|rfl
  ·rw[ev rfl,ez rfl] at hl;rw[show((1:Nat):Int)=1 from rfl] at q1 hl⊢;clear fO eU;have HN4:=ag (aF.new wr 107 bc);obtain⟨W4,hW4⟩:=aW ((wr.alloc (.cells bc 107)).setRow wr bh);have eG:Below wr wr W4:=by rw[hW4];exact((aE _ wr).alloc av _).bU av _
   have PT:=ag (show aF W4 wr 107 bh from by rw[hW4];exact HN4.o.row _);have HW4:=ag hW4;have jM:=ag (HB.o.aA eG);clear eG hW4
   go_upto_region 6 with(refine aH rfl rfl _ _ _ rfl wr bh rfl rfl 107 bc HN4.o rfl dC (by simp[Value.oneCell']) ?_;rw[<-HW4.o])
   have auM:=ag (HS.o.ah (jM.o.aA (ak W4)));have kX:=ag (HK.o.on (jM.o.aA (ak W4)));have HLd:=ag (PT.o.ah (ak W4));have je:=ag (jM.o.aA (ak W4));have iO:=ag (λW (h1:aF W Sr 192 (zQ F U K I 1)) (h2:cZ Ae prog 3 W K [1]) (h3:aF W wr 107 bh)=>cJ h1 (cJ h2 h3));refine iE (λW'=>aF W' Sr 192 (zQ F U K I 1)/\cZ Ae prog 3 W' K [1]/\aF W' wr 107 bh) (iO.o _ auM.o kX.o HLd.o) (λaY=>?_);generalize W4.drew=W5 at*;refine aS 0 wr 1 ?_;refine jV 1 1 (λ_ aK=>aK.2.2.aj (i:=1) (v:=O aa 1) rfl) ?_;refine dw 2 Sr 0 ?_;refine aS 3 Sr 0 ?_;refine aS 4 Sr 7 ?_;refine kS 5 (.map (some K)) (λ_ aK=>aK.1.aj (i:=7) (v:= .map (some K)) rfl) ?_;refine dI 6 1 ?_;refine jV 7 1 (λ_ aK=>abP aK.2.1) ?_;refine eX 8 (aq false) ?_;refine eH ?_;clear aY s4 s8 hl;have y9:=abP kX.o;have y7:=auM.o.aj (i:=7) (v:= .map (some K)) rfl;go_wp2;go_roundw
   case rel=>exact⟨2,by go_num,ae,ae,je⟩
   case measure=>simp[intOf]
  ·rw[eo (show¬k=1 by omega),ey (show¬k=1 by omega)] at hl;have g1:(k:Int)<=4:=ae;have KZ:=ag hk;clear fO eU hk;have HN4:=ag (aF.new wr 107 bc);obtain⟨W4,hW4⟩:=aW ((wr.alloc (.cells bc 107)).setRow wr bc);have eG:Below wr wr W4:=by rw[hW4];exact((aE _ wr).alloc av _).bU av _
   have PT:=ag (show aF W4 wr 107 bc from by rw[hW4];exact HN4.o.row _);have HW4:=ag hW4;have jM:=ag (HB.o.aA eG);clear eG hW4
   go_wp2_with (refine aH rfl rfl _ _ _ rfl wr bc rfl rfl 107 bc HN4.o rfl dC (by simp[Value.oneCell']) ?_;rw[<-HW4.o])
   go_roundw
   case rel=>exact⟨k+1,by go_num,by have:=KZ.o;omega,by have:=KZ.o;omega,jM⟩
   case measure=>have:=KZ.o;simp[intOf];omega
  ·rw[show((5:Nat):Int)=5 from rfl] at q1 hl⊢;have s9:=HSr.o.aj (i:=9) (v:=an none 0 0) rfl;clear fO eU hl;go_wp2;go_ret;exact⟨rfl,HB.o⟩
section
variable {B Sr U K I:Nat} {R:Nat->Prop} {w:World} {f:Fm}
def agb (B:Nat) (R:Nat->Prop) (f:Fm) (w:World) (e:Ending) (w':World):=
 ∃T Z,e=ar (ao #[.pointer (some ⟨T,0,none⟩),O aa 0])/\qK w' T Z/\∃Q,bZ 16 B Q w' Z f (Ps.gY f 2 36 4)/\¬Q T/\(∀q,Q q->R q\/w<=q)/\Kq R w w'/\w<=T
theorem OE (h:cu 16 B R w f) (hc:Fc 16 f) (htx:f.tx.length=56) (hs:aF w Sr 192 (zQ f.F U K I 1)) (hu:cZ Ae prog 3 w U []) (hn:¬R Sr/\¬R U):
  Calls prog 123 #[Sr] w (agb B R f w):=by
 have HF:=ag h;have HC:=ag hc;have HTx:=ag htx;have HS:=ag hs;have HU:=ag hu;have HN:=ag hn;clear h hc htx hs hu hn;unfold agb
 go_in
 go_upto_region 1 with fail;have gX:=ag (show Below w w w.drew from ak w);have gZ:=ag (HS.o.ah gX.o);have iO:=ag (λW (h1:aF W Sr 192 (zQ f.F U K I 1))=>h1);refine iE (λW'=>aF W' Sr 192 (zQ f.F U K I 1)) (iO.o _ gZ.o) (λaY=>?_);generalize w.drew=W0 at*;refine dw 0 Sr 0 ?_;refine aS 1 Sr 0 ?_;refine aS 2 Sr 0 ?_;refine kS 3 f.F (λ_ aK=>aK.aj (i:=0) (v:= f.F) rfl) ?_;refine dw 4 Sr 0 ?_;refine aS 5 Sr 0 ?_;refine aS 6 Sr 1 ?_;refine jE 7 (.agg #[O aa 2,O aa 3,O aa 36,O aa 4]) rfl (λ_ aK=>by have y1:=aK.aj (i:=1) (v:=O aa 2) rfl;have y2:=aK.aj (i:=2) (v:=O aa 3) rfl;have y3:=aK.aj (i:=3) (v:=O aa 36) rfl;have y4:=aK.aj (i:=4) (v:=O aa 4) rfl;go_simp) ?_;refine dw 8 Sr 0 ?_;refine aS 9 Sr 0 ?_;refine aS 10 Sr 6 ?_;refine kS 11 (.map (some U)) (λ_ aK=>aK.aj (i:=6) (v:= .map (some U)) rfl) ?_;refine bY 12 (λK' hK=>?_);go_simp;refine(Wi (some U) W0).mono ?_;rintro e w_ ⟨rfl,rfl⟩;have bP:=bA W0 (.cells #[.map (some U)] 152);have OG:=ag (aF.new W0 152 #[.map (some U)]);have HU1:=ag ((HU.o.on gX.o).on bP);have pG:=ag (gZ.o.ah bP);have bV:=ag (gX.o.aA bP);clear bP;have HSo:=ag (Ba (enters_of Tryz.func231 az rfl) au (Wj (enc:=encZ) (dec:=λv=>match v with| .int _ a=>a|_=>0) OG.o HU1.o (λ_=>rfl) (λp hp=>by cases hp)));refine hK.out _ _ (iO.o _ pG.o) (λdh=>?_)
 obtain⟨Kb,Om⟩:=aW W0.heap.size;rw[<-Om] at HSo⊢;clear Om OG;generalize W0.alloc (.cells #[.map (some U)] 152)=W1 at*;refine bY 13 (λK' hK=>?_);go_simp;go_call HSo.o as e W2 ⟨v2,ss,rfl,hss,_,aZ,Fb⟩;obtain rfl:=Fb (List.Perm.eq_nil hss);have qN:=ag (pG.o.ah aZ);have df:=ag (bV.o.aA aZ);clear hss aZ Fb HSo;refine hK.out _ _ (iO.o _ qN.o) (λfE=>?_)
 refine bY 14 (λK' hK=>?_);go_simp;have wM:=ag (HF.o.on df.o);refine(show Calls prog 114 #[f.F,.agg #[O aa 2,O aa 3,O aa 36,O aa 4],an none 0 0] W2 λe w'=>∃Z,e=ar (ao #[.pointer (some ⟨Z,0,none⟩),O aa 0])/\kF 16 B R W2 w' Z f (Ps.gY f 2 36 4)/\W2.heap.size<=Z from
  Bc (tb:=2) (np:=36) (ino:=4) wM.o HC.o HTx.o ae ae ae).mono ?_
 rintro e W3 ⟨Z,rfl,uh,_⟩;have AX:=ag (qN.o.kq uh.2 HN.o.1);have pU:=ag (kF.from_ df.o uh HF.o.base);clear uh;refine hK.out _ _ (iO.o _ AX.o) (λiZ=>?_)
 refine dG 15 (ao #[Z,O aa 0]) ?_;refine dw 16 Z 0 ?_;refine dI 17 0 ?_;refine dw 18 Z 0 ?_;refine dI 19 0 ?_;refine eH ?_;clear aY dh fE iZ;go_wp2_with fail;go_call(Bd W3 Z) as e W4 ⟨rfl,ht4,eG⟩;have Y4:=ag ht4;have NJ:=ag (pU.o.1.on eG);have kX:=ag (pU.o.2.on eG);have HTn:=ag (show¬Up R w W3 W3.heap.size/\w.heap.size<=W3.heap.size from⟨pU.o.1.aV av,pU.o.2.size⟩);have HS4:=ag (AX.o.ah eG);have s9:=HS4.o.aj (i:=9) (v:=an none 0 0) rfl;clear ht4 eG;go_wp2
 go_loopw [8,9,44] (λ_ _ v44 wq=>v44=O aa 0/\wq=W4) (λ_ _ _ _=>0)
 case atStart=>exact⟨rfl,rfl⟩
 case round=>obtain⟨rfl,rfl⟩:=hrel;go_wp2;go_ret2;exact⟨_,Z,rfl,Y4.o,_,NJ.o,HTn.o.1,λq hq=>hq.imp id And.left,kX.o,HTn.o.2⟩
end
end
section
open RowKit dY Opn Bo
section
open Opn
variable {B:Nat} {R:Nat->Prop} {w:World} {f:Fm}
structure Od f:Prop where
 fo:Bo.Fo f
 no:f.no=[]
 go:f.go=[]
 sq:f.seq=4
 gh:f.g.gh=λ_=>True
 tx:f.tx=Sv
 md:(f.g.bl 16).bad=false
 s0:∃x,aI f.se 0=some x/\x.t.s+1=f.seq
 key:∀q,2<=q->aI f.se q=none
theorem OH (h:cu 16 B R w f) (hd:Bo.Fd f):
  Calls prog 116 #[f.g.C] w λe w'=>∃S f',e=ar (ao #[f'.F,O aa 0])/\oq 16 B S w w' f'/\Od f'/\f'.g.C=f.g.C/\∀q,S q->R q:=by
 have hs:=hd.sd;obtain⟨S,hm,hSR⟩:=h.mg;have ER:=hs.fc.sq;have UU:=hs.ep;have hq:=hd.sq;refine(Wl (tl:=Sv) hm.hc (hs.gd ae) hs.hold ae ae ae (λp x hp=>hs.key p (by rw[hp];rfl)) (λx hx=>?_) (λk hk=>⟨hs.few,λhf=>hs.free (by rw[<-abR hk];exact hf)⟩) hs.idle).mono ?_
 ·obtain⟨t,h1,_⟩:=hs.s0;grind
 ·rintro e w' ⟨o,tv,M,ML,cap,rfl,hft⟩;rw[show f.seq-1+1=f.seq by omega,<-UU] at hft;have hv:=hs.vwO o M ML cap tv λ_=>True;have hno:(Sz f o M ML cap tv Sv λ_=>True).no=[]:=rfl;have hgo:(Sz f o M ML cap tv Sv λ_=>True).go=[]:=rfl;have vC:∀q,(aI (Sz f o M ML cap tv Sv λ_=>True).se q).map sk=vw f q:=λq=>by have:=hv q;rw[G6,hno,hgo] at this;exact this
  refine⟨S,Sz f o M ML cap tv Sv λ_=>True,rfl,hft,⟨Bo.Fo.of (hs.fcO o M ML cap tv (λ_ _=>trivial)) ((hv 1).trans hd.v1) (λq hq=>(hv q).trans (hd.vn q hq)),rfl,rfl,hq,rfl,rfl,hs.md,?_,λq hq=>?_⟩,rfl,λq hq=>hSR q (.inr (.inr hq))⟩
  ·have h1:=vC 0;obtain⟨t,h2,_,h3⟩:=hs.s0;rw[h2] at h1
   cases hz:aI (Sz f o M ML cap tv Sv λ_=>True).se 0 with
   |none=>rw[hz] at h1;cases h1
   |some x=>
    rw[hz] at h1;injection h1 with h1
    have h4:x.t=t:=congrArg Prod.fst h1;exact⟨x,rfl,by rw[h4];exact h3⟩
  ·have h1:=vC q;rw[hd.vn q hq] at h1
   cases hz:aI (Sz f o M ML cap tv Sv λ_=>True).se q with
   |none=>rfl
   |some x=>rw[hz] at h1;cases h1
end
end
section
open RowKit Maps ChangeMaps dY fG Bo Opn
section
variable {B:Nat} {R:Nat->Prop} {w:World} {f:Fm}
def auO (B:Nat) (R:Nat->Prop) (C:Nat) (w w':World) T:=
 ∃Z Q f',qK w' T Z/\bZ 16 B Q w' Z f' (Ps.gY f' 2 36 4)/\¬Q T/\f'.g.C=C/\Od f'/\(∀q,Q q->R q\/w<=q)/\Kq R w w'/\w<=T
theorem RV (h:cu 16 B R w f) (ho:Od f):(f.se++f.no).length<=2:=by
 rw[ho.no,cC];refine Wn h.hS.uq λq hq=>?_;rcases Nat.lt_or_ge q 2 with h1|h1
 ·exact h1
 ·rw[ho.key q h1] at hq;cases hq
theorem Od.auP (h:Od f):f.tx.length=56:=by rw[h.tx];exact DD
theorem adi W F:∃w7,w7=(((W.alloc (.map #[] 0)).alloc (.map #[] 0)).alloc (.map #[] 0)).alloc (.cells (zQ F W (W+1) (W+1+1) 0) 192)/\Below W.heap.size W w7/\cZ Ae prog 3 w7 W []/\cZ Ae prog 3 w7 (W+1) []/\cZ YR prog 3 w7 (W+1+1) []/\aF w7 (W+1+1+1) 192 (zQ F W (W+1) (W+1+1) 0):=by
 obtain⟨a1,h1⟩:=aW (W.alloc (.map #[] 0));have b1:Below W W a1:=h1▸(aE _ W).alloc av _;have m1:cZ Ae prog 3 a1 W []:=h1▸cZ.made W;have s1:a1.heap.size=W.heap.size+1:=by rw[h1,bR]
 rw[<-h1];obtain⟨a2,h2⟩:=aW (a1.alloc (.map #[] 0));have b2:Below a1 a1 a2:=h2▸(aE _ a1).alloc av _;have m2:cZ Ae prog 3 a2 a1 []:=h2▸cZ.made a1;have s2:a2.heap.size=W.heap.size+1+1:=by rw[h2,bR,s1]
 rw[<-h2];obtain⟨a3,h3⟩:=aW (a2.alloc (.map #[] 0));have b3:Below a2 a2 a3:=h3▸(aE _ a2).alloc av _;have m3:cZ YR prog 3 a3 a2 []:=h3▸cZ.made a2;have s3:a3.heap.size=W.heap.size+1+1+1:=by rw[h3,bR,s2]
 rw[<-h3];rw[s1] at m2;rw[s2] at m3;refine⟨_,rfl,?_,?_,?_,?_,?_⟩
 ·exact((b1.aA b2).aA b3).alloc ae _
 ·exact((m1.on b2).on b3).on ((aE _ a3).alloc av _)
 ·exact(m2.on b3).on ((aE _ a3).alloc av _)
 ·exact m3.on ((aE _ a3).alloc av _)
 ·rw[<-s3];exact aF.new a3 192 _
theorem cZ.kq {α E P k w w' b} {l:List α} {T} (h:cZ E P k w b l) (hk:Kq T w w') (hn:¬T b):cZ E P k w' b l:=h.same (hk.block b h.lt hn)
theorem gV {P ops o a w K Q E} (mF:o.guard=none) ty x y (ho:o.op= .store ty x y)
  g cells (hx:a.eval x= .pointer (some ⟨g,0,none⟩)) (hy:a.eval y= .agg cells)
  t old (hg:aF w g t old) (hi:(P.info? ty).map (·.size)=some cells.size)
  (hold:old.size=cells.size) (h1:cells.all (·.oneCell')=true)
  (h:K (a.put o.dst undef) (w.setRow g cells)):if Region.wanted o (yielded ops a.tmps)=true then Oper.wp P o a w K Q else E:=by
 have hw:Region.wanted o (yielded ops a.tmps)=true:=by simp[Region.wanted,mF]
 rw[ev hw];exact wp_store_row ty x y ho g cells hx hy t old hg hi hold h1 h
theorem Wp {P fn} {o p q:Tmp} {ty} (h:fn.results=#[.tmp o,.cell p ty,.tmp q]) tmps (w:World) (g:Nat) t cs fr d
  (hp:tmps.getD p undef= .pointer (some ⟨g,0,none⟩)) (hg:w.heap[g]?=some (.cells cs t fr))
  (hu:P.underlying ty=some d) (hd:(match d with| .struct _| .array _ _=>true|_=>false)=true) (hi:(P.info? ty).map (·.size)=some cs.size) u v (ho:tmps.getD o undef=u) (hv:tmps.getD q undef=v):
  (results fn tmps).run P w= .ok (ao #[u,.agg cs,v]) w:=by
 have hp':tmps[p]?.getD undef= g:=by simpa using hp
 have ho':tmps[o]?.getD undef=u:=by simpa using ho
 have hv':tmps[q]?.getD undef=v:=by simpa using hv
 simp[results,h,hp',hv',ho',asAddr,run_loadVar_row w g t ty cs fr d hg hu hd hi]
theorem abS:(prog.info? 125).map (·.size)=some 4:=az
theorem La (h:cu 16 B R w f) (hd:Bo.Fd f):
  Calls prog 60 #[f.g.C] w λe w'=>∃T,e=ar (ao #[.pointer (some ⟨T,0,none⟩),.agg #[O aa 0,O aa 1,O aa 0,O aa 0],O aa 0])/\auO B R f.g.C w w' T:=by
 have gu:=bA w (.cells #[O aa 0,O aa 0,O aa 0,O aa 0] 125);have YS:=ag (aF.new w 125 #[O aa 0,O aa 0,O aa 0,O aa 0]);have gX:=ag gu;have HH:=ag h;have HO:=ag (λW (hW:Below w w W)=>OH (h.on hW) hd);have HG:=ag (λW (hW:cu 16 B R W f)=>rO hW);have qZ:=Qa (O aa 16) (O aa 8) (O aa 64);obtain⟨C,hC⟩:=aW f.g.C;rw[<-hC] at HO⊢;have HC:=ag hC;clear h hd gu hC
 go_in
 go_wp2_with fail;obtain⟨Rp,hRp⟩:=aW w.heap.size;rw[<-hRp] at YS⊢;have HRp:=ag (show w.heap.size<=Rp/\¬R Rp from⟨ae,HH.o.aV ae⟩);clear hRp;generalize w.alloc (.cells #[O aa 0,O aa 0,O aa 0,O aa 0] 125)=w0 at*;go_call(HO.o w0 gX.o) as e w1 ⟨S,f1,rfl,vk,hod,hfC,hSR⟩;have UW:=ag vk.1;have Y6:=ag hod;have HFC:=ag hfC;have iH:=ag (((Kq.of (T:=R) gX.o)).trans (vk.2.mono hSR));have ES:=ag (show∀q,Up S w0 w1 q->R q\/w.heap.size<=q from λq hq=>by
  rcases hq with h1|h1
  ·exact .inl (hSR q h1)
  ·exact .inr (by have:=gX.o.size;omega))
 have EJ:=ag (YS.o.kq vk.2 λh=>HRp.o.2 (hSR _ h));have Aw:=ag (show¬Up S w0 w1 Rp from λh=>by
  rcases h with h1|h1
  ·exact HRp.o.2 (hSR _ h1)
  ·have:=YS.o.lt;omega)
 generalize Up S w0 w1=Q1 at*;clear vk hod hfC hSR HO YS gX;go_wp2_with fail;go_call(show Calls prog 35 #[C] w1 _ from by have h:=rO UW.o;rw[HFC.o] at h;exact h) as e w2 ⟨rfl,aZ⟩;have wM:=ag (UW.o.on aZ);have tC:=ag (EJ.o.ah aZ);have ja:=ag (iH.o.on aZ);clear aZ UW EJ iH;unfold uI;go_wp2_with fail;go_call(show Calls prog 113 #[f1.F] w2 λe w'=>e=ar (O aa 102)/\Below w2 w2 w' from jG wM.o Y6.o.fo.fc.fi) as e w3 ⟨rfl,bJ⟩;go_wp2_with fail;go_call(Lc w3) as e w4 ⟨rfl,eG⟩;have eG:=bJ.aA eG;have HN4:=ag (aF.new w4 93 #[O aa 0,O aa 0,O aa 0,O aa 0]);obtain⟨w5,hw5⟩:=aW ((w4.alloc (.cells #[O aa 0,O aa 0,O aa 0,O aa 0] 93)).setRow w4 #[O aa 2,O aa 3,O aa 36,O aa 4]);have eQ:Below w4 w4 w5:=by rw[hw5];exact((aE _ w4).alloc av _).bU av _
 have HL5:=ag (show aF w5 w4 93 #[O aa 2,O aa 3,O aa 36,O aa 4] from by rw[hw5];exact HN4.o.row _);have SA:=ag hw5;have eQ:=eG.aA eQ;have SC:=ag (wM.o.on eQ);have ou:=ag (tC.o.ah eQ);have wS:=ag (ja.o.on eQ);clear bJ eG eQ hw5 wM tC ja
 go_upto_region 6 with(refine aH rfl rfl _ _ _ rfl w4 #[O aa 2,O aa 3,O aa 36,O aa 4] rfl rfl 93 #[O aa 0,O aa 0,O aa 0,O aa 0] HN4.o rfl SG (SH _ _ _ _) ?_;rw[<-SA.o])
 obtain⟨Lb,hLb⟩:=aW w4.heap.size;rw[<-hLb] at HL5⊢;clear hLb
 go_cut [52] (λv52 wx=>v52=aq false/\Hid (Below w5 w5 wx))
 case first=>
  have gX:=ag (show Below w5 w5 w5.drew from ak w5);have HL0:=ag (HL5.o.ah gX.o);have HLf:=ag (λW (h1:aF W Lb 93 #[O aa 2,O aa 3,O aa 36,O aa 4])=>h1);refine iE (λW'=>aF W' Lb 93 #[O aa 2,O aa 3,O aa 36,O aa 4]) (HLf.o _ HL0.o) (λaY=>?_);generalize w5.drew=W0 at*;refine dI 0 0 ?_;refine dG 1 (aq false) ?_;refine dG 2 (aq false) ?_;refine dw 3 f1.F 0 ?_;refine jE 5 (.agg #[O aa 2,O aa 3,O aa 36,O aa 4]) rfl (λ_ aK=>by have y1:=aK.aj (i:=0) (v:=O aa 2) rfl;have y2:=aK.aj (i:=1) (v:=O aa 3) rfl;have y3:=aK.aj (i:=2) (v:=O aa 36) rfl;have y4:=aK.aj (i:=3) (v:=O aa 4) rfl;go_simp) ?_;refine dI 6 64 ?_;refine dI 7 56 ?_;refine bY 4 (λK' hK=>?_);go_simp;go_call(show Calls prog 118 #[f1.F] W0 λe w'=>(∃a c,e=ar (an a 56 c)/\Own aJ 5 w' W0 (an a 56 c) Sv)/\Below W0 W0 w' from by have hx:=lM (SC.o.on gX.o) Y6.o.auP;rw[Y6.o.tx] at hx;exact hx) as e V1 ⟨⟨a1,c1,rfl,ho1⟩,hb⟩;have yg:=ag ho1;clear ho1;have bV:=ag (gX.o.aA hb);have VM:=ag (HL0.o.ah hb);clear hb;refine hK.out _ _ (HLf.o _ VM.o) (λdh=>?_)
  refine bY 8 (λK' hK=>?_);go_simp;go_call(show Calls prog 85 #[.agg #[O aa 2,O aa 3,O aa 36,O aa 4],O aa 56] V1 λe w'=>(∃a c,e=ar (an a 56 c)/\Own aJ 5 w' V1 (an a 56 c) (A8 2 36 4))/\Below V1 V1 w' from BF (tb:=2) (np:=36) (ino:=4) ae ae ae V1) as e V2 ⟨⟨a2,c2,rfl,Iq⟩,hb⟩;have NK:=ag Iq;have HXf:=ag (yg.o.on hb);clear Iq;have df:=ag (bV.o.aA hb);have xW:=ag (VM.o.ah hb);clear hb;refine hK.out _ _ (HLf.o _ xW.o) (λfE=>?_)
  refine bY 9 (λK' hK=>?_);go_simp;go_call(yG _ _ _ _ _ _ _ _ V2 (HXf.o.arr (by rw[DD];omega)) (NK.o.arr (by rw[show A8 2 36 4=Sv from rfl,DD];omega))) as e V3 ⟨rfl,hb⟩;rw[show decide (Sv=A8 2 36 4)=true from ez rfl];have cO:=ag (df.o.aA hb);have wR:=ag (xW.o.ah hb);clear hb;refine hK.out _ _ (HLf.o _ wR.o) (λiZ=>?_)
  refine dG 10 (aq false) ?_;refine dG 11 (aq false) ?_;refine dG 12 (aq false) ?_;refine dw 13 f1.F 0 ?_;refine aS 15 Lb 0 ?_;refine jV 16 2 (λ_ aK=>aK.aj (i:=0) (v:=O aa 2) rfl) ?_;refine aS 17 Lb 2 ?_;refine jV 18 36 (λ_ aK=>aK.aj (i:=2) (v:=O aa 36) rfl) ?_;refine dI 19 38 ?_;refine dI 20 39 ?_;refine bY 14 (λK' hK=>?_);go_simp;go_call(G7 (SC.o.on cO.o) (by have:=RV (SC.o.on cO.o) Y6.o;omega)) as e V4 ⟨rfl,hb⟩;obtain⟨nu,hnu⟩:=aW ((f1.se++f1.no).length);have aI4:¬(39:Int)<(nu:Int):=by have:=RV (SC.o.on cO.o) Y6.o;omega
  rw[<-hnu];clear hnu;have jM:=ag (cO.o.aA hb);have PT:=ag (wR.o.ah hb);clear hb;refine hK.out _ _ (HLf.o _ PT.o) (λqX=>?_)
  refine eX 21 (aq false) ?_;refine dG 22 (aq false) ?_;refine eH ?_;go_wp2_with fail;go_meet
  case rel=>exact⟨rfl,jM.o⟩
 case rest=>
  obtain⟨rfl,fJ⟩:=hcut;have HF6:=ag (SC.o.on fJ.o);have NH:=ag (HL5.o.ah fJ.o);have HR6:=ag (ou.o.ah fJ.o);have ql:=ag (wS.o.on fJ.o);have l0:=NH.o.aj (i:=0) (v:=O aa 2) rfl;have l1:=NH.o.aj (i:=1) (v:=O aa 3) rfl;have l2:=NH.o.aj (i:=2) (v:=O aa 36) rfl;have l3:=NH.o.aj (i:=3) (v:=O aa 4) rfl;have UX:=@run_makeMap prog;clear fJ SC ou wS HL5
  go_upto_region 9 with(simp only[UX])
  obtain⟨w7,hw7,jr,hU7,hK7,hI7,qM⟩:=adi wc f1.F;have HF7:=ag (HF6.o.on jr);have CU:=ag (HR6.o.ah jr);have yh:=ag (ql.o.on jr);unfold zQ at hw7;rw[<-hw7];have hn7:∀q,wc.heap.size<=q->¬Q1 q:=λq hq=>HF6.o.aV hq;have hm7:w.heap.size<=wc.heap.size:=ql.o.size;have hRp:=HR6.o.lt;obtain⟨U,hU⟩:=aW wc.heap.size;obtain⟨K,hK⟩:=aW (wc.heap.size+1);obtain⟨I,hI⟩:=aW (wc.heap.size+1+1);obtain⟨Sr,hSr⟩:=aW (wc.heap.size+1+1+1);rw[<-hU] at hU7;rw[<-hK] at hK7;rw[<-hI] at hI7;rw[<-hSr,<-hI,<-hK,<-hU] at qM;rw[<-hSr];have HN:=ag (show(¬Q1 U/\¬Q1 K/\¬Q1 I/\¬Q1 Sr)/\(w.heap.size<=U/\w.heap.size<=K/\w.heap.size<=I/\w.heap.size<=Sr)/\(U≠K/\U≠I/\U≠Sr/\K≠I/\K≠Sr/\I≠Sr)/\(Rp≠U/\Rp≠K/\Rp≠I/\Rp≠Sr) from⟨⟨hn7 _ ae,hn7 _ ae,hn7 _ ae,hn7 _ ae⟩,ae,ae,ae⟩);have HU7:=ag hU7;have auS:=ag hK7;have vN:=ag hI7;have Ol:=ag qM;clear hw7 jr hU7 hK7 hI7 qM hn7 hm7 hRp hU hK hI hSr HF6 HR6 ql UX;go_wp2_with fail;go_call(Le HF7.o Y6.o.fo Ol.o vN.o ⟨HN.o.1.2.2.2,HN.o.1.2.2.1⟩ HN.o.2.2.1.2.2.2.2.2.symm) as e w8 ⟨rfl,ht⟩;have HF8:=ag ht.ft;have BC:=ag ht.s;have YQ:=ag ht.i;have HU8:=ag (HU7.o.kq ht.k λh=>h.elim HN.o.1.1 HN.o.2.2.1.2.1);have auT:=ag (auS.o.kq ht.k λh=>h.elim HN.o.1.2.1 HN.o.2.2.1.2.2.2.1);have HR8:=ag (CU.o.kq ht.k λh=>h.elim Aw.o HN.o.2.2.2.2.2.1);have Qb:=ag (yh.o.aA ht.k λq hq=>hq.elim (ES.o q) λh=> .inr (h▸HN.o.2.1.2.2.1));clear ht HF7 Ol vN HU7 auS CU yh;go_wp2_with fail;go_call(KY Sr f1.F U K I w8 BC.o auT.o YQ.o ⟨HN.o.2.2.1.2.2.2.2.1.symm,HN.o.2.2.1.2.2.2.2.2.symm,HN.o.2.2.1.2.2.2.1⟩) as e w9 ⟨rfl,hs9,AU,hi9,hq9⟩;have UO:=ag hs9;have auU:=ag AU;have HI9:=ag hi9;have HF9:=ag (HF8.o.kq hq9 λq hq h=>h.elim (λe=>HN.o.1.2.1 (e▸hq)) λe=>HN.o.1.2.2.2 (e▸hq));have HU9:=ag (HU8.o.kq hq9 λh=>h.elim HN.o.2.2.1.1 HN.o.2.2.1.2.2.1);have HR9:=ag (HR8.o.kq hq9 λh=>h.elim HN.o.2.2.2.2.1 HN.o.2.2.2.2.2.2);have GU:=ag (Qb.o.aA hq9 λq hq=> .inr (hq.elim (λe=>e▸HN.o.2.1.2.1) λe=>e▸HN.o.2.1.2.2.2));clear hs9 AU hi9 hq9 HF8 BC YQ HU8 auT HR8 Qb;go_wp2_with fail;go_call(OD Sr f1.F U K I w9 UO.o auU.o HI9.o) as e E5 ⟨rfl,hb⟩;have jI:=ag (UO.o.ah hb);have HFt:=ag (HF9.o.on hb);have HUt:=ag (HU9.o.on hb);have HRt:=ag (HR9.o.ah hb);have HKt:=ag (GU.o.on hb);clear hb HF9 UO HI9 HU9 auU HR9 GU;go_wp2_with fail;go_call(OE HFt.o Y6.o.fo.fc Y6.o.auP jI.o HUt.o ⟨HN.o.1.2.2.2,HN.o.1.1⟩) as e sZ ⟨T,Z,rfl,htr,Q,uh,hqT,Bq,hkq,hTs⟩;have HT:=ag htr;have JF:=ag uh;have HQT:=ag (show¬Q T/\w.heap.size<=T from⟨hqT,by have:=HKt.o.size;omega⟩);have HQr:=ag (show∀q,Q q->Q1 q\/E5.heap.size<=q from Bq);have HSu:=ag (jI.o.kq hkq HN.o.1.2.2.2);have HRu:=ag (HRt.o.kq hkq Aw.o);have HKu:=ag (HKt.o.aA hkq ES.o);have HRT:=ag (show Rp≠T/\¬Q Rp from⟨by have:=HRt.o.lt;omega,λh=>(Bq _ h).elim Aw.o λh=>by have:=HRt.o.lt;omega⟩);have hws:=HKt.o.size;have HWs:=ag hws;clear hws htr uh hqT Bq hkq hTs HFt jI HUt HRt HKt;go_wp2_with fail;have gX:=ag (show Below sZ sZ sZ.drew from ak sZ);have iO:=ag (λW (h1:aF W Sr 192 (zQ f1.F U K I 1))=>h1);refine iE (λW'=>aF W' Sr 192 (zQ f1.F U K I 1)) (iO.o _ (HSu.o.ah gX.o)) (λaY=>?_);have YS:=ag (HRu.o.ah gX.o);have gZ:=ag (HSu.o.ah gX.o);generalize sZ.drew=W0 at*;refine dw 0 T 0 ?_;refine dw 1 Sr 0 ?_;refine aS 2 Sr 0 ?_;refine aS 3 Sr 10 ?_;refine jE 4 (.agg #[O aa 0,O aa 1,O aa 0,O aa 0]) rfl (λ_ aK=>by have y1:=aK.aj (i:=10) (v:=O aa 0) rfl;have y2:=aK.aj (i:=11) (v:=O aa 1) rfl;have y3:=aK.aj (i:=12) (v:=O aa 0) rfl;have y4:=aK.aj (i:=13) (v:=O aa 0) rfl;go_simp) ?_;refine dw 5 T 0 ?_;refine bY 6 (λK' hK=>?_);refine gV rfl _ _ _ rfl Rp #[O aa 0,O aa 1,O aa 0,O aa 0] rfl rfl 125 _ YS.o abS rfl (SH _ _ _ _) ?_;obtain⟨UF,akI⟩:=aW (W0.setRow Rp #[O aa 0,O aa 1,O aa 0,O aa 0]);rw[<-akI];have vI:Kq (λq=>q=Rp) W0 UF:=by rw[akI];exact gJ _ _ _
  have Lh:=ag (show aF UF Rp 125 #[O aa 0,O aa 1,O aa 0,O aa 0] from by rw[akI];exact YS.o.row _);have aBj:=ag (gZ.o.kq vI HN.o.2.2.2.2.2.2.symm);refine hK.out _ _ (iO.o _ aBj.o) (λZG=>?_)
  refine dI 7 0 ?_;refine eH ?_;have afm:=ag ((HT.o.on gX.o).kq vI HRT.o.1.symm);have aBk:=ag ((JF.o.on gX.o).kq vI λq hq e=>HRT.o.2 (e▸hq));have aBl:=ag ((HKu.o.on gX.o).aA vI λq hq=> .inr (hq▸HRp.o.1));have c0:=Lh.o.aj (i:=0) (v:=O aa 0) rfl;have c1:=Lh.o.aj (i:=1) (v:=O aa 1) rfl;have c2:=Lh.o.aj (i:=2) (v:=O aa 0) rfl;have c3:=Lh.o.aj (i:=3) (v:=O aa 0) rfl;have aI9:=ag gX.o.size;clear akI vI aY ZG;go_wp2;refine bodyPost_ret (Wp rfl _ _ Rp _ _ _ _ rfl Lh.o Tryz.underlying125 rfl abS _ _ rfl rfl) rfl ?_;exact⟨T,rfl,Z,Q,f1,afm.o,aBk.o,HQT.o.1,by first|exact HFC.o|exact HFC.o.trans HC.o,Y6.o,λq hq=>(HQr.o q hq).elim (ES.o q) λh=> .inr (by have:=HWs.o;omega),aBl.o,HQT.o.2⟩
end
end
section
open RowKit fG
variable {NB B P T:Nat} {Q:Nat->Prop} {w w':World} {f:Fm} {s:Ps} {fi:Nf} {n:Nat} {X:List UInt8}
theorem iF (hT:qK w T P):Calls prog 39 #[T] w λe w'=>e=ar P/\w=w':=by
 have c0:=hT.c0;clear hT
 go_in
 go_wp2;go_ret;exact⟨rfl,rfl⟩
theorem IW (h:bZ NB B Q w P f s) (hT:qK w T P) (yD:¬Q T) (d:AZ s n fi X) nm (hf:(Dir.jk X nm).1<0):
  Calls prog 45 #[T,O aa n,.string (aX nm)] w λe w'=>e=ar (ao #[O aa 0,O aa 60])/\bZ NB B Q w' P f s/\Kq Q w w':=by
 have HD:=ag (yH h hT yD d);have HZ:=ag d.z2;have g1:=hf;clear h hT yD d hf
 go_in
 go_wp2_with fail;go_call HD.o as e W2 ⟨⟨v,rfl,ho⟩,hp,hk⟩;obtain⟨a,c,rfl,hc⟩:=ho.bG rfl;have HX:=ag (ho.arr (by have:=HZ.o;omega));have HC:=ag hc;have HP:=ag hp;have HK:=ag hk;clear ho hp hk HD hc;go_wp2_with fail;go_call(BD a _ c X nm W2 HX.o HC.o) as e W3 ⟨rfl,hb⟩;have HB:=ag hb;clear hb;obtain⟨r,hr⟩:=aW (Dir.jk X nm);rw[<-hr] at g1⊢;clear hr;go_wp2;go_ret2;exact⟨rfl,HP.o.on HB.o,HK.o.on HB.o⟩
end
section
open RowKit fG
variable {NB B P T:Nat} {Q:Nat->Prop} {w w':World} {f:Fm} {s:Ps}
def Way (s:Ps) (xs:List (List UInt8)) (ns:Nat->Nat):=
 ns 0=1/\∀i h,∃fi X,AZ s (ns i) fi X/\0<=(Dir.jk X xs[i]).1/\(Dir.jk X xs[i]).2=(ns (i+1))
theorem OC {a c xs ns} (h:bZ NB B Q w P f s) (hT:qK w T P) (yD:¬Q T) (hy:Way s xs ns) (hx:Own IY 9 w 0 (an a xs.length c) xs) (hxq:∀q,(Value.slice a xs.length c).ownBlock=some q->¬Q q) (hl:xs.length<=100):
  Calls prog 91 #[T,an a xs.length c] w λe w'=>e=ar (ao #[O aa (ns xs.length),O aa 0])/\bZ NB B Q w' P f s/\Kq Q w w':=by
 obtain⟨m,hm⟩:=aW xs.length;have HM:=ag hm;have HP:=ag h;have HT:=ag hT;have Oz:=ag yD;have HY:=ag hy;have hX0:Own IY 9 w 0 (an a m c) xs:=by rw[hm];exact hx
 have HXq:=ag (show∀q,(Value.slice a m c).ownBlock=some q->¬Q q from by rw[hm];exact hxq);rw[<-hm] at hl⊢;have HX:=ag hX0;have HS:=ag (show bZ NB B Q w P f s/\Kq Q w w from⟨h,Kq.refl _ _⟩);have h0:=hy.1;clear h hT yD hy hx hxq hm hX0
 go_in
 go_wp2;go_step3;go_wp2;go_step3;go_wp2
 go_loopw [6,7,14] (λv6 v7 v14 W=>∃i,i<=m/\v14=O aa i/\v6=O aa (ns i)/\v7=O aa 0/\bZ NB B Q W P f s/\Kq Q w W) (λ_ _ v14 _=>m-(intOf v14).toNat)
 case atStart=>exact⟨0,bN _,rfl,by rw[h0];rfl,rfl,HS.o⟩
 case round=>
  obtain⟨i,hi,rfl,rfl,rfl,hp,hk⟩:=hrel;by_cases aT:i<m
  ·obtain⟨b,o,hix,ha,hb,uF⟩:=((HX.o.kq hk HXq.o).arr (by have:=HM.o;omega)).YJ (k:=i) aT;subst ha;rw[Sl] at uF;obtain⟨fi,Xd,hd,hf0,Zk⟩:=HY.o.2 i (by rw[<-HM.o];exact aT);have HF:=ag (λW (hW:bZ NB B Q W P f s) (hT:qK W T P)=>uN hW hT Oz.o hd xs[i] hf0);rw[Zk] at HF;have sV:=ag hp;have iH:=ag hk;have RJ:=ag (HT.o.kq hk Oz.o);have q1:(i:Int)<(m:Int):=ae;clear hp hk hd hf0 Zk;go_wp2_with fail;go_call(HF.o wr sV.o RJ.o) as e w2 ⟨rfl,jU,eU⟩;have ui:=ag jU;have ja:=ag (iH.o.trans eU);clear jU eU;go_wp2;go_roundw
   case rel=>exact⟨i+1,ae,rfl,rfl,rfl,ui.o,ja.o⟩
   case measure=>show m-(((i:Int)+1).toNat)<m-((i:Int).toNat);omega
  ·obtain rfl:i=m:=ae;have q1:¬(i:Int)<(i:Int):=ae;have sV:=ag hp;have iH:=ag hk;clear hp hk;go_wp2;go_ret2;exact⟨rfl,sV.o,iH.o⟩
end
section
open RowKit Maps ChangeMaps dY fG Bo Opn
def GM (C T:Nat) (i fl o:Int):Array Value:=#[C,T,O aa i,O aa fl,O aa o,O aa 0,O aa 0,O aa 0,O aa 0,O aa 0,O aa 0,O aa 0,O aa 0,O aa 0,O aa 0,O aa 0,O aa 0,O aa 0,O aa 0,O aa 0,O aa 0,O aa 0,O aa 0,O aa 0,O aa 0,O aa 0,O aa 0,O aa 0,O aa 0,O aa 0,O aa 0,O aa 0,O aa 0,O aa 0,O aa 0,O aa 0,O aa 0,O aa 0,O aa 0,O aa 0,O aa 0,O aa 0,O aa 0,O aa 0,O aa 0,O aa 0,O aa 0,O aa 0,O aa 0,O aa 0]
structure fK B Q w X T Z (f:Fm) s:Prop where
 hX:∃i fl o,aF w X 90 (GM f.g.C T i fl o)
 hT:qK w T Z
 hP:bZ 16 B Q w Z f s
 nT:¬Q T
 nX:¬Q X
def Hnd w X i fl o:=∃C T,aF w X 90 (GM C T i fl o)
section
variable {B C BL:Nat} {S R:Nat->Prop} {ps:Nat->Nat} {w:World} {f:Fm}
theorem J5 (h:eu 16 B S w C BL ps (λ_=>fresh 0)):
  Calls prog 22 #[C,O aa 2] w λe w'=>e=ar (O aa 0)/\anz B S C w w':=by
 have HF:=ag (I4 h);clear h
 go_in
 go_wp2_with fail;go_call HF.o as e w1 ⟨⟨T,rfl⟩,hd⟩;have HD:=ag hd;clear hd HF;go_wp2;go_ret;exact⟨rfl,HD.o⟩
theorem NW (h:cu 16 B R w f) (hd:Bo.Fd f):
  Calls prog 23 #[f.g.C] w λe w'=>∃X T Z Q f',e=ar (ao #[.pointer (some ⟨X,0,none⟩),O aa 0])/\fK B Q w' X T Z f' (Ps.gY f' 2 36 4)/\Hnd w' X 0 0 0/\w<=X/\w<=T/\f'.g.C=f.g.C/\Od f'/\Kq R w w':=by
 have HM:=ag (La h hd);clear h hd
 go_in
 go_wp2_with fail;go_call HM.o as e w1 ⟨T,rfl,hm⟩;have HMt:=ag hm;clear hm HM;go_upto_region 2 with fail;have aZ:=bA w1 (.cells #[O aa 0,O aa 1,O aa 0,O aa 0] 125);have df:=ag aZ;clear aZ;generalize w1.alloc (.cells #[O aa 0,O aa 1,O aa 0,O aa 0] 125)=w2 at*;go_wp2;go_ret2;obtain⟨Z,Q,f',hT,hP,hq,hC,hO,hQ,hK,hTw⟩:=HMt.o;have bJ:=bA w2 (.cells (GM f.g.C T 0 0 0) 90);have hn:=aF.new w2 90 (GM f.g.C T 0 0 0);have Qc:=hP.on df.o;exact⟨w2.heap.size,T,Z,Q,f',rfl,⟨⟨0,0,0,by rw[hC];exact hn⟩,(hT.on df.o).on bJ,Qc.on bJ,hq,Qc.aV av⟩,⟨_,_,hn⟩,bB hK.size df.o.size,hTw,hC,hO,(hK.on df.o).on bJ⟩
end
end
section
open RowKit Maps ChangeMaps dY fG
section
variable {B X T Z:Nat} {Q:Nat->Prop} {w w' w1 w2:World} {f f' f1 f2:Fm} {s s' s1 s2:Ps}
theorem fK.YL (h:fK B Q w X T Z f s):X<w:=by obtain⟨_,_,_,h⟩:=h.hX;exact h.lt
theorem fK.ltT (h:fK B Q w X T Z f s):T<w:=h.hT.lt
theorem fK.c0 (h:fK B Q w X T Z f s):w.cell? (X,0)=some (.pointer (f.g.C,0)):=by obtain⟨_,_,_,h⟩:=h.hX;exact h.aj rfl
theorem fK.c1 (h:fK B Q w X T Z f s):w.cell? (X,1)=some (.pointer (T,0)):=by obtain⟨_,_,_,h⟩:=h.hX;exact h.aj rfl
theorem fK.on (h:fK B Q w X T Z f s) (hb:Below w w w'):fK B Q w' X T Z f s:=⟨by obtain⟨a,b,c,h⟩:=h.hX;exact⟨a,b,c,h.ah hb⟩,h.hT.on hb,h.hP.on hb,h.nT,h.nX⟩
theorem fK.ask (h:fK B Q w X T Z f s) (hp:bZ 16 B Q w' Z f s) (hk:Kq Q w w'):fK B Q w' X T Z f s:=⟨by obtain⟨a,b,c,hx⟩:=h.hX;exact⟨a,b,c,hx.kq hk h.nX⟩,h.hT.kq hk h.nT,hp,h.nT,h.nX⟩
theorem fK.far (h:fK B Q w X T Z f s) {U} (hk:Kq U w w') (hT:¬U T) (hX:¬U X) (hQ:∀q,Q q->¬U q):fK B Q w' X T Z f s:=⟨by obtain⟨a,b,c,hx⟩:=h.hX;exact⟨a,b,c,hx.kq hk hX⟩,h.hT.kq hk hT,h.hP.kq hk hQ,h.nT,h.nX⟩
def CQ B Q w w' X T Z f s:=fK B (Up Q w w') w' X T Z f s/\Kq Q w w'
theorem fK.ofR (h:fK B Q w X T Z f s) (k:kF 16 B Q w w' Z f' s') (hC:f'.g.C=f.g.C):CQ B Q w w' X T Z f' s':=
 ⟨⟨by rw[hC];obtain⟨a,b,c,hx⟩:=h.hX;exact⟨a,b,c,hx.kq k.2 h.nX⟩,h.hT.kq k.2 h.nT,k.1,k.far h.nT h.ltT,k.far h.nX h.YL⟩,k.2⟩
theorem CQ.aA (h:CQ B Q w w1 X T Z f1 s1) (k:CQ B (Up Q w w1) w1 w2 X T Z f2 s2) (hT:T<w) (hX:X<w):CQ B Q w w2 X T Z f2 s2:=by have hk:=kF.aA (NB:=16) (show kF 16 B Q w w1 Z f1 s1 from⟨h.1.hP,h.2⟩) ⟨k.1.hP,k.2⟩;have no:∀q,q<w.heap.size->¬Up (Up Q w w1) w1 w2 q->¬Up Q w w2 q:=λq hq h1 h2=>h1 (.inl (.inl (fA h2 hq)));exact⟨⟨k.1.hX,k.1.hT,hk.1,no T hT k.1.nT,no X hX k.1.nX⟩,hk.2⟩
theorem fK.acY (h:fK B Q w X T Z f s) (hp:bZ 16 B Q w' Z f s) (hk:Kq Q w w'):CQ B Q w w' X T Z f s:=h.ofR (hp.agc hk h.hP.base) rfl
theorem CQ.from_ (hb:Below w w w1) (h:CQ B Q w1 w2 X T Z f s) (h0:fK B Q w X T Z f' s'):CQ B Q w w2 X T Z f s:=by have hk:=kF.from_ (NB:=16) hb (show kF 16 B Q w1 w2 Z f s from⟨h.1.hP,h.2⟩) h0.hP.base;exact⟨⟨h.1.hX,h.1.hT,hk.1,hk.far h0.nT h0.ltT,hk.far h0.nX h0.YL⟩,hk.2⟩
end
section
variable {B X T Z:Nat} {Q:Nat->Prop} {w w' w1 w2:World} {f f' f1 f2:Fm} {s s' s1 s2:Ps} {i fl o i' fl' o':Int}
theorem Hnd.kq (h:Hnd w X i fl o) (hk:Kq Q w w') (hq:¬Q X):Hnd w' X i fl o:=by obtain⟨C,T,h⟩:=h;exact⟨C,T,h.kq hk hq⟩
theorem Hnd.on (h:Hnd w X i fl o) (hb:Below w w w'):Hnd w' X i fl o:=by obtain⟨C,T,h⟩:=h;exact⟨C,T,h.ah hb⟩
theorem fK.blk (h:fK B Q w X T Z f s) (hd:Hnd w X i fl o):aF w X 90 (GM f.g.C T i fl o):=by
 obtain⟨i',fl',o',h1⟩:=h.hX;obtain⟨C,T',h2⟩:=hd;have e:=Option.some.inj (h1.symm.trans h2);grind[GM]
def KH B Q w w' X T Z f s i fl o:=fK B (Up Q w w') w' X T Z f s/\Kq (λq=>Q q\/q=X) w w'/\Hnd w' X i fl o
theorem aBm (h1:w<=w1.heap.size) (h2:w1<=w2.heap.size):Up (Up Q w w1) w1 w2=Up Q w w2:=by grind[Up]
theorem KH.size (h:KH B Q w w1 X T Z f s i fl o):w<=w1.heap.size:=h.2.1.size
theorem KH.aA (h:KH B Q w w1 X T Z f1 s1 i fl o) (k:KH B (Up Q w w1) w1 w2 X T Z f2 s2 i' fl' o'):KH B Q w w2 X T Z f2 s2 i' fl' o':=by grind[KH,Up,aBm,KH.size,Kq.aA]
theorem CQ.h (h:CQ B Q w w' X T Z f s) (hd:Hnd w' X i fl o):KH B Q w w' X T Z f s i fl o:=⟨h.1,h.2.mono λ_ hq=> .inl hq,hd⟩
theorem fK.rH (h:fK B Q w X T Z f s) (hd:Hnd w X i fl o) (k:CQ B Q w w' X T Z f' s'):KH B Q w w' X T Z f' s' i fl o:=k.h (hd.kq k.2 h.nX)
theorem fK.aAX (h:fK B Q w X T Z f s) (hd:Hnd w X i fl o) (hp:bZ 16 B Q w' Z f s) (hk:Kq Q w w'):KH B Q w w' X T Z f s i fl o:=h.rH hd (h.acY hp hk)
theorem fK.aBn (h:fK B Q w X T Z f s):T≠X:=λe=>by
 obtain⟨_,_,_,h3⟩:=h.hX;have h2:aF w T _ _:=h.hT;rw[e] at h2;have e2:=Option.some.inj (h2.symm.trans h3);grind
theorem fK.setH (h:fK B Q w X T Z f s) (hk:Kq (λq=>q=X) w w') (hb:aF w' X 90 (GM f.g.C T i' fl' o')):KH B Q w w' X T Z f s i' fl' o':=by
 have hp:=h.hP.kq hk λq hq e=>h.nX (e▸hq);have hs:=hk.size;have hlT:=h.ltT;have hlX:=h.YL;refine⟨⟨⟨_,_,_,hb⟩,h.hT.kq hk h.aBn,hp.more (λ_ hq=> .inl hq) λq hq=>?_,λhq=>h.nT (fA hq hlT),λhq=>h.nX (fA hq hlX)⟩,hk.mono λ_ hq=> .inr hq,⟨_,_,hb⟩⟩;rcases hq with hq|hq
 ·exact hp.bnd q hq
 ·have:=h.hP.base;omega
theorem fK.aks (h:fK B Q w X T Z f s) (hd:Hnd w X i fl o) i' fl' o':KH B Q w (w.setCells X 2 [O aa i',O aa fl',O aa o']) X T Z f s i' fl' o':=by have hb:=((h.blk hd).set 2 (O aa i')).set 3 (O aa fl')|>.set 4 (O aa o');exact h.setH (((Kq.one (X,2) _).trans (Kq.one (X,3) _)).trans (Kq.one (X,4) _)) hb
theorem fK.set1 (h:fK B Q w X T Z f s) (hd:Hnd w X i fl o) o':KH B Q w (w.setCell (X,4) (O aa o')) X T Z f s i fl o':=h.setH (Kq.one (X,4) _) ((h.blk hd).set 4 (O aa o'))
end
section
variable {B X T Z:Nat} {Q:Nat->Prop} {w:World} {f:Fm} {s:Ps}
theorem jb (h:fK B Q w X T Z f s):Calls prog 38 #[X] w λe w'=>e=ar (O aa 0)/\w=w':=by
 obtain⟨R,hf,_⟩:=h.hP.ft;have HU:=ag (Qd hf);have c0:=h.c0;have c1:=h.c1;clear h hf
 go_in
 go_wp2_with fail;refine HU.o.cj ?_;go_wp2;go_ret;exact⟨rfl,rfl⟩
end
end
section
namespace ed
def ahead (l:List UInt8):=l.takeWhile (·!=47)
def behind (l:List UInt8):=l.drop ((ahead l).length+1)
theorem VR l:(ahead l).length<=l.length:=by unfold ahead;exact(List.takeWhile_prefix _).length_le
theorem vU r:ahead (47::r)=[]:=rfl
theorem xg c r (h:c≠47):ahead (c::r)=c::ahead r:=by unfold ahead;rw[List.takeWhile_cons,ev (by simpa using h)]
theorem KU l:l.take (ahead l).length=ahead l:=by
 induction l with
 |nil=>rfl
 |cons c r ih=>
  by_cases h:c=47
  .subst h;rfl
  grind[ed.xg]
theorem VS l:Lib.indexByte l 47=if (ahead l).length<l.length then((ahead l).length:Int) else-1:=by
 induction l with
 |nil=>rfl
 |cons c r ih=>
  by_cases h:c=47
  .subst h;rw[vU,ev au];rfl
  .rw[xg c r h];unfold Lib.indexByte;grind
theorem VT l (h:¬(ahead l).length<l.length):ahead l=l:=by rw[<-KU l,cL ae]
theorem GZ l (h:¬(ahead l).length<l.length):behind l=[]:=by unfold behind;exact List.drop_of_length_le ae
theorem FH l (h:l≠[]):(behind l).length<l.length:=by have:0<l.length:=List.length_pos_iff.2 h;unfold behind;rw[dk];omega
theorem Dz r:behind (47::r)=r:=rfl
theorem VU c r (h:c≠47):behind (c::r)=behind r:=by unfold behind;rw[xg c r h];rfl
def opt (l:List UInt8):=if l=[] then[] else[l]
def FI:List UInt8->List UInt8->List (List UInt8)
 |cur,[]=>opt cur
 |cur,c::r=>if c=47 then opt cur++FI [] r else FI (cur++[c]) r
def parts l:=FI [] l
theorem VV cur l:FI cur l=opt (cur++ahead l)++(if (ahead l).length<l.length then parts (behind l) else[]):=by
 induction l generalizing cur with
 |nil=>simp[FI,ahead]
 |cons c r ih=>
  grind[ed.FI,ed.parts,ed.vU,ed.Dz,ed.xg,ed.VU]
theorem qO:parts []=[]:=rfl
theorem BH l:parts l=opt (ahead l)++parts (behind l):=by grind[ed.parts,ed.VV,ed.GZ,ed.qO]
theorem akB l:(opt l).length<=1:=by unfold opt;split<;>simp
theorem ac8 l:(parts l).length<=l.length:=by
 have H:∀n (l:List UInt8),l.length<=n->(parts l).length<=l.length:=by
  intro n
  induction n with
  |zero=>
   grind[ed.qO]
  |succ n ih=>
   intro l hl;by_cases h:l=[]
   .subst h;simp[qO]
   .have h1:=FH l h;have h2:=ih (behind l) ae;have h3:=akB (ahead l);rw[BH,bE];omega
 exact H l.length l av
end ed
end
section
open RowKit
theorem IX l w:
  Calls prog 315 #[.string (aX l),O .u8 47] w λe w'=>e=ar (O aa (Lib.indexByte l 47))/\w=w':=by
 go_in
 go_wp2;rw[run_callFunc_extern Tryz.func344 az az az (e:=Extern.BytealgIndexByte.indexByte) az,Lib.run_indexByteString];simp only[Result.andThen];rw[Oper.upon_value];go_wp2;go_ret;exact⟨rfl,rfl⟩
theorem KW l w:
  Calls prog 285 #[.string (aX l),.string ⟨#[47]⟩] w λe w'=>e=ar (O aa (Lib.indexByte l 47))/\w=w':=by
 have hc:=ag (IX l w);by_cases h:l=[47]
 .have g:([47]==l)=true:=by rw[h];rfl
  have hv:Lib.indexByte l 47=0:=by rw[h];rfl
  rw[hv];clear h hv
  go_in
  go_wp2_with (go_at_call 315;refine hc.mono ?_;rintro e w' ⟨rfl,rfl⟩)
  go_ret;exact⟨rfl,rfl⟩
 .have g:([47]==l)=false:=by rw[ew];exact λe=>h e.symm
  clear h
  go_in
  go_wp2_with (go_at_call 315;refine hc.mono ?_;rintro e w' ⟨rfl,rfl⟩)
  go_ret;exact⟨rfl,rfl⟩
theorem VW l a b:(aX l).extract a b=aX ((l.drop a).take (b-a)):=by apply ByteArray.ext;rw[ByteArray.data_extract];simp[aX]
theorem Zz l w (hl:l.length<=140737488351232):
  Calls prog 251 #[.string (aX l),.string ⟨#[47]⟩] w λe w'=>(∃b,e=ar (ao #[.string (aX (ed.ahead l)),.string (aX (ed.behind l)),aq b]))/\Below w w w':=by
 have hc:=ag (KW l w);rw[ed.VS] at hc;have hle:=ed.VR l;by_cases h:(ed.ahead l).length<l.length
 .rw[ev h] at hc;obtain⟨HA,HB⟩:=cn (ed.KU l) (show ed.behind l=l.drop ((ed.ahead l).length+1) from rfl);generalize ed.behind l=B at*;generalize hn:(ed.ahead l).length=n at*;clear hn;have w1:IntKind.i64.wrap ((n:Int)+1)=(n:Int)+1:=bq _ ⟨ae,ae⟩;have w2:((n:Int)+1).toNat=n+1:=ae;have w3:(0:Int)<=(n:Int)+1:=ae;have w4:(n:Int)+1<=(l.length:Int):=ae;have w5:(n:Int)<=(l.length:Int):=ae
  go_in
  go_wp2_with (go_at_call 285;refine hc.mono ?_;rintro e w' ⟨rfl,rfl⟩)
  go_quiet (fail)
  go_wp2;go_ret3;refine⟨⟨true,?_⟩,⟨rfl,rfl,rfl,bp _,λ_ _=>rfl⟩⟩;have e1:(aX l).extract 0 n=aX (ed.ahead l):=by rw[VW,<-HA.o];rfl
  have e2:(aX l).extract (n+1) l.length=aX B:=by rw[VW,HB.o,cL au]
  rw[<-e1,<-e2];rfl
 .rw[eo h] at hc;obtain⟨HA,HB⟩:=cn (ed.VT l h) (ed.GZ l h);clear h hle
  go_in
  go_wp2_with (go_at_call 285;refine hc.mono ?_;rintro e w' ⟨rfl,rfl⟩)
  go_ret3;rw[HA.o,HB.o];exact⟨⟨false,rfl⟩,aE _ _⟩
theorem ac9 l w (hl:l.length<=140737488351232):
  Calls prog 214 #[.string (aX l),.string ⟨#[47]⟩] w λe w'=>(∃b,e=ar (ao #[.string (aX (ed.ahead l)),.string (aX (ed.behind l)),aq b]))/\Below w w w':=by
 go_in
 go_wp2_with fail;go_call(Zz l w hl) as e w1 ⟨⟨b,rfl⟩,hb⟩;have HB:=ag hb;clear hb;go_wp2;go_ret3;exact⟨⟨b,rfl⟩,HB⟩
end
section
open RowKit
attribute [local go_sem] Oper.semAt_some
theorem yE {w w' c} (h:Below w.heap.size w w'):w.grownBy w' (some c):=⟨h.os,h.tape,h.output,h.size,λk hk _=>h.block k hk⟩
theorem grown_setCell (w:World) c o v:w.grownBy (w.setCell ⟨c,o,none⟩ v) (some c):=
 have h:=(aE 0 w).setCell (p:=⟨c,o,none⟩) (bN _) v
 ⟨h.os,h.tape,h.output,h.size,λk _ hk=>heap_setCell_other w (aw c o) k v (λe=>hk (by rw[e]))⟩
def JH (l:List UInt8):Array Value:=#[.string (aX l)]
open Classical in
noncomputable def RY (c:Nat) (W:World):Nat:=if h:∃l,W.cell? (aw c 0)=some (.string (aX l)) then(Classical.choose h).length else 0
theorem xh {c W l} (h:W.cell? ⟨c,0,none⟩=some (.string (aX l))):RY c W=l.length:=by
 have hex:∃l,W.cell? (aw c 0)=some (.string (aX l)):=⟨l,h⟩
 grind[aX,RY]
theorem ZA l c n0 w (hl:l.length<=140737488351232) (hc:w.cell? ⟨c,0,none⟩=some (.string (aX l))) (hf:w.frozen? (c,0)=false):
  Iter prog 213 #[.pointer (some ⟨c,0,none⟩)] JH (ed.parts l) c n0 w:=by
 intro lp J Jx W hW hJ hJx hY h0;have uF:=block_lt_of_cell hc;have UR:=(hW.cell (p:=⟨c,0,none⟩) uF).trans hc;have hf':=(hW.frozen (p:=⟨c,0,none⟩) uF).trans hf;clear hc hf hW uF;refine callsIn_of_wp Tryz.func213 rfl trivial ?_ rfl;simp only[Tryz.ntmps213,cU,cD,cV,Nat.reduceAdd,Nat.reduceSub,dT,ee,List.push_toArray,ef,cP,dj]
 gi_wp2
 gi_loopw [3,4,5] (λ_ _ _ wr=>∃pre r:_,ed.parts l=pre++ed.parts r/\r.length<=l.length/\wr.cell? (aw c 0)=some (.string (aX r))/\wr.frozen? (aw c 0)=false/\J pre wr) (λ_ _ _ wr=>RY c wr)
 case atStart=>exact⟨[],l,rfl,bp _,UR,hf',h0⟩
 case round=>
  obtain⟨pre,r,hp,hrl,rC,vk,hJ1⟩:=hrel;obtain⟨HP,UT,HR⟩:=cp hp hJ1 rC;clear hp hJ1;by_cases h0:r=[]
  .subst h0
   gi_wp2
   go_end0;refine⟨⟨_,rfl⟩,.inl ?_⟩;have hp:=HP.o;rw[ed.qO,cC] at hp;rw[hp];exact UT.o
  have g0:r.isEmpty=false:=by simpa using h0
  have g1:(r==[])=false:=by simpa using h0
  have HS:=ag (ed.BH r);have aT:=ed.FH r h0;obtain⟨UK,HIN⟩:=cn (callsIn_wide (n:=7)|>.2 (ac9 r wr ae)) (λx (h:ed.opt (ed.ahead r)=[x])=>(⟨ed.parts (ed.behind r),by rw[HP.o,HS.o,h,cQ]⟩:(pre++[x])<+:ed.parts l));clear h0;by_cases h1:ed.ahead r=[]
  .have ho:ed.opt (ed.ahead r)=[]:=by rw[h1];rfl
   have HO:=ag ho;rw[h1] at UK;clear h1 ho HIN
   gi_wp2_with fail
   refine⟨trivial,?_⟩;refine UK.mono ?_;rintro e w2 ⟨⟨b,rfl⟩,hb⟩;have akC:=(hb.cell (p:=⟨c,0,none⟩) (block_lt_of_cell HR)).trans HR.o;have apG:=(hb.frozen (p:=⟨c,0,none⟩) (block_lt_of_cell HR)).trans vk;have HJ2:=ag (hJ _ _ _ UT (yE hb));clear hb
   gi_wp2
   all_goals (refine⟨λ_ h=>(by cases h),?_⟩;gi_wp2)
   go_roundw
   case rel=>
    refine⟨pre,ed.behind r,by rw[HP.o,HS.o,HO.o];rfl,ae,?_,?_,?_⟩
    .exact World.cell?_setCell_same' _ _ _ (by rw[akC];rfl)
    .rw[World.frozen?_setCell];exact apG
    .exact hJ _ _ _ HJ2.o (grown_setCell _ _ _ _)
   case measure=>rw[xh (l:=ed.behind r) (World.cell?_setCell_same' _ _ _ (by rw[akC];rfl)),xh HR.o];exact aT
  .have ho:ed.opt (ed.ahead r)=[ed.ahead r]:=by unfold ed.opt;rw[eo h1]
   obtain⟨HO,auH⟩:=cn ho (HIN.o _ ho);have g2:(ed.ahead r).isEmpty=false:=by simpa using h1
   have g3:(ed.ahead r==[])=false:=by simpa using h1
   clear h1 ho HIN;have aFt:=ag hY
   gi_wp2_with fail
   refine⟨trivial,?_⟩;refine UK.mono ?_;rintro e w2 ⟨⟨b,rfl⟩,hb⟩;have akC:=(hb.cell (p:=⟨c,0,none⟩) (block_lt_of_cell HR)).trans HR.o;have apG:=(hb.frozen (p:=⟨c,0,none⟩) (block_lt_of_cell HR)).trans vk;have HJ2:=ag (hJ _ _ _ UT (yE hb));clear hb;obtain⟨fn,tmps,assign,body,hy,hR⟩:=hY pre (ed.ahead r) (w2.setCell (c,0) (.string (aX (ed.behind r)))) (hJ _ _ _ HJ2 (grown_setCell _ _ _ _)) auH.o;unfold JH at hy;have aA7:=World.cell?_setCell_same' w2 (c,0) (.string (aX (ed.behind r))) (by rw[akC];rfl);have aA8:(w2.setCell (c,0) (.string (aX (ed.behind r)))).frozen? (c,0)=false:=by rw[World.frozen?_setCell];exact apG
   gi_wp2
   refine hR.mono ?_;rintro e W3 (⟨rfl,hJ3,bJ,xM⟩|⟨rfl,af0⟩)
   .have auI:=(World.cell?_of_block (a:=⟨c,0,none⟩) xM).trans aA7;have apI:=(World.frozen?_of_block (a:=⟨c,0,none⟩) xM).trans aA8
    gi_wp2
    go_roundw
    case rel=>exact⟨pre++[ed.ahead r],ed.behind r,by rw[HP.o,HS.o,HO.o,cQ],ae,auI,apI,hJ3⟩
    case measure=>rw[xh auI,xh HR.o];exact aT
   .gi_wp2
    refine bodyPost_ret (results_none rfl _ _ _) rfl ?_;exact⟨⟨_,rfl⟩,.inr ⟨_,auH.o,af0⟩⟩
end
section
open RowKit Shelf
attribute [local go_sem] Oper.semAt_some
namespace ed
def chk:Nat->List (List UInt8)->Int
 |_,[]=>0
 |i,s::t=>if nameB s then(if i=16 then 30 else chk (i+1) t) else 31
def parse l:=
 if l=[]\/255<l.length\/l.head?≠some 47 then([],30) else if chk 0 (parts l)=0 then(parts l,0) else([],chk 0 (parts l))
theorem KX pre rest (hn:∀x∈pre,nameB x=true) i (hl:i+pre.length<=16):chk i (pre++rest)=chk (i+pre.length) rest:=by induction pre generalizing i<;>grind[ed.chk]
theorem adb xs (hn:∀x∈xs,nameB x=true) (hl:xs.length<=16):chk 0 xs=0:=by have h:=KX xs [] hn 0 ae;rw[cC] at h;rw[h];rfl
theorem akD {pre xs x} (h:(pre++[x])<+:xs) (hn:∀y∈pre,nameB y=true) (hl:pre.length<=16) (hx:nameB x=false):chk 0 xs=31:=by obtain⟨t,rfl⟩:=h;rw[cQ,KX pre _ hn 0 ae];simp[chk,hx]
theorem af1 {pre xs x} (h:(pre++[x])<+:xs) (hn:∀y∈pre,nameB y=true) (hl:pre.length=16) (hx:nameB x=true):chk 0 xs=30:=by obtain⟨t,rfl⟩:=h;rw[cQ,KX pre _ hn 0 ae];simp[chk,hx,hl]
theorem akE {x l} (h:x∈opt l):x=l:=by
 unfold opt at h;split at h
 .simp at h
 .simpa using h
theorem ade {x l} (h:x∈parts l):x.length<=l.length:=by
 have H:∀n (l:List UInt8),l.length<=n->x∈parts l->x.length<=l.length:=by
  intro n
  induction n with
  |zero=>
   intro l hl h;have:l=[]:=ek ae;subst this;simp[qO] at h
  |succ n ih=>
   intro l hl h;by_cases h0:l=[]
   .subst h0;simp[qO] at h
   .have h1:=FH l h0;rw[BH,cv] at h;rcases h with h|h
    .rw[akE h];exact VR l
    .have:=ih (behind l) ae h;omega
 exact H l.length l av h
end ed
def af2 H w pre W:=
 (∃v,aF W H 100 #[v]/\Own IY 9 W (H+1+1+1) v pre)/\aF W (H+1) 36 #[O aa 0]/\Below H w W/\H+1+1+1<=W/\((∀x∈pre,ed.nameB x=true)/\pre.length<=16)
def af4 (H:Nat) (w:World) (E:Int) (k:Code) W:=
 (∃v,aF W H 100 #[v])/\aF W (H+1) 36 #[O aa E]/\Below H w W/\(k= .exit 0/\E≠0)
theorem RZ H w (hw:H<=w.heap.size) pre:dF (H+1+1) (H+1+1+1) (af2 H w pre):=
 (dF.ex λv=>(aF.jB ae).and (Own.jB ae)).and ((aF.jB ae).and ((mX ae ae hw).and (G5.and (dF.pure _))))
theorem Si H w (hw:H<=w.heap.size) E k:dF (H+1+1) (H+1+1+1) (af4 H w E k):=
 (dF.ex λv=>aF.jB ae).and ((aF.jB ae).and ((mX ae ae hw).and (dF.pure _)))
theorem akF l w:
  Calls prog 152 #[.string (aX l)] w λe w'=>e=ar (.func (.func 213) #[] #[.pointer (aw w 0)])/\w.alloc (.cells #[.string (aX l)] 9)=w':=by
 go_in
 go_wp2;go_ret;exact⟨rfl,rfl⟩
theorem ZB l w (h0:l≠[]) (h1:l.length<=255) (h2:l.head?=some 47):
  Calls prog 95 #[.string (aX l)] w λe w'=>(∃v,e=ar (ao #[v,O aa (ed.parse l).2])/\Own IY 9 w' w v (ed.parse l).1)/\Below w w w':=by
 have g0:l.isEmpty=false:=by simpa using h0
 have g1:(l==[])=false:=by simpa using h0
 have g2:decide (255<(l.length:Int))=false:=ey ae;have g3:(0:Nat)<l.length:=List.length_pos_iff.2 h0;have g4:((l[0].toNat:Int)==47)=true:=by
  cases l with
  |nil=>exact absurd rfl h0
  |cons c r=>simp at h2;subst h2;rfl
 refine callsIn_wide (n:=9)|>.1 ?_;refine callsIn_of_wp_marks Tryz.func95 rfl trivial ?_ rfl;refine wpIn_wide.2 ?_;simp only[Tryz.ntmps95,cU,cD,cV,Nat.reduceAdd,Nat.reduceSub,dT,ee,List.push_toArray,ef,cP,dj];go_wp2;go_step3;go_wp2_with fail;go_step3;go_wp2_with fail;refine(akF l _).mono ?_;rintro e w' ⟨rfl,rfl⟩;go_wp2;have b4:=((aF.new w 100 #[an none 0 0]).alloc (.cells #[O aa 0] 36)).alloc (.cells #[.string (aX l)] 9);have b5:=(aF.new (w.alloc (.cells #[an none 0 0] 100)) 36 #[O aa 0]).alloc (.cells #[.string (aX l)] 9);have b6:=aF.new ((w.alloc (.cells #[an none 0 0] 100)).alloc (.cells #[O aa 0] 36)) 9 #[.string (aX l)];have gu:Below w w (((w.alloc (.cells #[an none 0 0] 100)).alloc (.cells #[O aa 0] 36)).alloc (.cells #[.string (aX l)] 9)):=(((aE _ w).alloc av _).alloc au _).alloc (by simp;omega) _;have iG:(((w.alloc (.cells #[an none 0 0] 100)).alloc (.cells #[O aa 0] 36)).alloc (.cells #[.string (aX l)] 9)).heap.size=w.heap.size+1+1+1:=au;simp only[bR] at b4 b5 b6;generalize ((w.alloc (.cells #[an none 0 0] 100)).alloc (.cells #[O aa 0] 36)).alloc (.cells #[.string (aX l)] 9)=W0 at*;have wK:=ZA l (w.heap.size+1+1) w W0 ae (b6.aj (i:=0) rfl) (b6.frozen 0);refine wpIn_wide.1 (adf (gf:=213) (lb:=#[.pointer (some ⟨w.heap.size+1+1,0,none⟩)]) (encs:=JH) (xs:=ed.parts l) (c:=w.heap.size+1+1) (n0:=w.heap.size) (w0:=W0) rfl (enters_of Tryz.func213 az rfl) wK (aE _ _) ae ae (λ_=>rfl)
  (af2 w w) (λk _=>af4 w w (ed.chk 0 (ed.parts l)) k) (λpre=>by rw[iG];exact RZ _ w av pre) (λk pre=>by rw[iG];exact Si _ w av _ k)
  ⟨⟨_,b4,Own.nil _ _⟩,b5,gu,ae,au⟩
  (λx=>{tmps:=#[.string (aX l),undef,an none 0 0,O aa 0,.pointer (aw w.heap.size 0),.pointer (some ⟨w.heap.size+1,0,none⟩),.string (aX x),.string (aX l),aq false,aq false,.string (aX l),O aa l.length,aq false,aq false,aq false,.string (aX l),O .u8 l[0].toNat,aq false,aq false,.string (aX l),.func (.func 213) #[] #[.pointer (some ⟨w.heap.size+1+1,0,none⟩)],.string (aX x),undef,undef,undef,undef,undef,undef,undef,undef,undef,undef,undef,undef,undef,undef,undef,undef,undef,undef,undef],defers:=[]}) ?assign ?body ?done ?stop)
 case assign=>
  intro lp x W K hK;unfold JH
  gi_wp2
  exact hK
 case body=>
  rintro lp pre x W ⟨⟨v,bv,ho⟩,be,jW,hsW,hn,hle⟩ iJ;have hxm:x∈ed.parts l:=iJ.subset au;have NI:=ed.ade hxm;obtain⟨a1,c1,rfl,_⟩:=ho.bG (n:=pre.length) rfl;obtain⟨HO,DC,HN,BV,BE⟩:=ct ho jW hn bv be;have jA:=bv.lt;have mQ:=be.lt;have c4:W.cell? (w.heap.size,0)=some (an a1 pre.length c1):=bv.aj (i:=0) rfl;have f4:=bv.frozen 0;have c5:W.cell? (w.heap.size+1,0)=some (O aa 0):=be.aj (i:=0) rfl;have f5:=be.frozen 0;have uD:=ag (callsIn_wide (n:=6)|>.2 (BJ x W ae))
  cases hx:ed.nameB x
  .have hE:=ag (ed.akD iJ hn hle hx);rw[show ed.oh x=31 by unfold ed.oh;rw[hx];rfl] at uD;clear iJ hn hx ho jW bv be hxm
   gi_wp2_with (refine⟨trivial,?_⟩;gi_at_call 153;refine(CallsIn.inRound lp uD).mono ?_;rintro e w' ⟨rfl,rfl⟩)
   refine⟨gG _ _ _ _,⟨_,BV.far au _⟩,?_,DC.setCell (p:=⟨w.heap.size+1,0,none⟩) au _,rfl,by rw[hE.o];decide⟩;rw[hE.o];exact BE.set 0 (O aa 31)
  .rw[show ed.oh x=0 by unfold ed.oh;rw[hx];rfl] at uD;by_cases h16:pre.length=16
   .have hE:=ag (ed.af1 iJ hn h16 hx);rw[h16] at c4;clear iJ hn hx ho jW bv be hxm h16
    gi_wp2_with (refine⟨trivial,?_⟩;gi_at_call 153;refine(CallsIn.inRound lp uD).mono ?_;rintro e w' ⟨rfl,rfl⟩)
    refine⟨(gG _ _ _ _).trans (gG _ _ _ _),⟨_,(BV.far au _).far au _⟩,?_,(DC.setCell (p:=⟨w.heap.size+1,0,none⟩) au _).setCell (p:=⟨w.heap.size+1,0,none⟩) au _,rfl,by rw[hE.o];decide⟩;rw[hE.o];exact(BE.set 0 (O aa 0)).set 0 (O aa 30)
   .have YK:∀y∈pre++[x],ed.nameB y=true:=by
     intro y hy;rw[cv] at hy;rcases hy with h|h
     .exact hn y h
     .rw[cG.1 h];exact hx
    have JC:=ag YK;have g16:((pre.length:Int)==16)=false:=by rw[ew];omega
    clear iJ hn YK hx ho jW bv be hxm
    gi_wp2_with (first
     |(refine⟨trivial,?_⟩;gi_at_call 153;refine(CallsIn.inRound lp uD).mono ?_;rintro e w' ⟨rfl,rfl⟩;have tJ:=ag ((HO.far (p:=⟨w.heap.size+1,0,none⟩) (HO.Sj (.inl au)) (O aa 0))))
     |(gi_at_builtin;refine OB rfl _ _ rfl (w.heap.size+1+1+1) _ pre rfl tJ 1 _ [x] rfl au rfl rfl ae (by simp;omega) ?_;intro v2 w2 tN cO FK;obtain⟨a3,c3,rfl,_⟩:=tN.bG (n:=pre.length+1) au;have BV2:=ag ((BV.far (p:=⟨w.heap.size+1,0,none⟩) au (O aa 0)).below cO ae);have c42:=BV2.aj (i:=0) rfl;have f42:=BV2.frozen 0))
    obtain⟨BE2,auJ⟩:=cn ((BE.set 0 (O aa 0)).below cO ae) ((DC.setCell (p:=⟨w.heap.size+1,0,none⟩) au (O aa 0)).trans (cO.mono ae));refine⟨(((gG _ _ _ _).trans (KeepsOthers.alloc _ _)).trans (KeepsOthers.of_grownBy FK (tJ.alloc _).af5)).trans (gG _ _ _ _),?_,?_,⟨an a3 (pre.length+1) c3,BV2.set 0 _,tN.far (p:=⟨w.heap.size,0,none⟩) (tN.Sj (.inl (show w.heap.size<w.heap.size+1+1+1 by omega))) _⟩,BE2.far au _,auJ.setCell (p:=⟨w.heap.size,0,none⟩) av _,?_,JC,by simp;omega⟩
    .exact(((aE w W).setCell (p:=⟨w.heap.size+1,0,none⟩) au _).trans (cO.mono ae)).setCell (p:=⟨w.heap.size,0,none⟩) av _
    .rw[heap_setCell_other _ _ _ _ (by simp;omega),cO.block _ ae,heap_setCell_other _ _ _ _ au]
    .have:=cO.size;simp at this⊢;omega
 case done=>rintro D W hD ⟨⟨v,bv,ho⟩,be,jW,_,hn,hle⟩ hK;have hv:=ed.adb _ hn hle;obtain⟨HV,HO,DC⟩:=cp (show ed.parse l=(ed.parts l,0) by unfold ed.parse;rw[eo (by simp[h0,h2];omega),ev hv]) ho jW;have c4:=bv.aj (i:=0) rfl;have c5:=be.aj (i:=0) rfl;clear hn hle hv ho jW;go_wp2;rw[Exit.noGoto_ret];refine⟨au,.inl ⟨_,_,rfl,run_takeDeferred hK,?_⟩⟩;refine⟨_,by simp[results,Tryz.results95,go_sem];rfl,⟨v,by rw[HV.o],?_⟩,DC.trans (gW _ ae)⟩;rw[HV.o];exact((Own.jB (c:=w.heap.size) (B:=0) ae) W _ D HO (grownBy_putObj' _ _ _) (.inr ⟨ae,_,hK,rfl⟩)).mono ae
 case stop=>
  rintro D k pre W hD _ ⟨⟨v,bv⟩,be,jW,rfl,di⟩ hK;obtain⟨HV,DC⟩:=cn (show ed.parse l=([],ed.chk 0 (ed.parts l)) by unfold ed.parse;rw[eo (by simp[h0,h2];omega),eo di]) jW;have c4:=bv.aj (i:=0) rfl;have c5:=be.aj (i:=0) rfl;generalize ed.chk 0 (ed.parts l)=E at*;have g9:(E==0)=false:=by simpa using di
  clear jW di;refine wpIn_wide.2 ?_;go_wp2_with fail
  go_quiet (fail)
  go_wp2;rw[Exit.noGoto_ret];refine⟨au,.inl ⟨_,_,rfl,run_takeDeferred hK,?_⟩⟩;refine⟨_,by simp[results,Tryz.results95,go_sem];rfl,⟨an none 0 0,by rw[HV.o],?_⟩,(DC.trans (below_drewN _ _)).trans (gW _ ae)⟩;rw[HV.o];exact Own.nil _ _
theorem adg l w (hl:l.length<=140737488351232) (h:l=[]\/255<l.length\/l.head?≠some 47):
  Calls prog 95 #[.string (aX l)] w λe w'=>e=ar (ao #[an none 0 0,O aa 30])/\w=w':=by
 by_cases h0:l=[]
 .subst h0
  go_in
  go_wp2;go_step3;go_wp2;rw[Exit.noGoto_ret];go_ret2;exact⟨rfl,rfl⟩
 have g0:l.isEmpty=false:=by simpa using h0
 have g1:(l==[])=false:=by simpa using h0
 have g3:(0:Nat)<l.length:=List.length_pos_iff.2 h0;by_cases h1:255<l.length
 .have g2:decide (255<(l.length:Int))=true:=ez ae;clear h h0
  go_in
  go_wp2;go_step3;go_wp2;rw[Exit.noGoto_ret];go_ret2;exact⟨rfl,rfl⟩
 have g2:decide (255<(l.length:Int))=false:=ey ae;have g4:((l[0].toNat:Int) !=47)=true:=by
  have h2:l.head?≠some 47:=by rcases h with h|h|h;exact absurd h h0;omega;exact h
  cases l with
  |nil=>exact absurd rfl h0
  |cons c r=>
   rw[bne_iff_ne];intro e;apply h2;rw[List.head?_cons]
   congr 1
   apply UInt8.toNat_inj.1;show c.toNat=47;rw[List.getElem_cons_zero] at e;omega
 clear h h0 h1
 go_in
 go_wp2;go_step3;go_wp2;rw[Exit.noGoto_ret];go_ret2;exact⟨rfl,rfl⟩
def ZC (l:List UInt8) (w:World) (e:Ending) w':=
 (∃v,e=ar (ao #[v,O aa (ed.parse l).2])/\Own IY 9 w' w v (ed.parse l).1)/\Below w w w'
theorem VY l w (hl:l.length<=140737488351232):
  Calls prog 95 #[.string (aX l)] w (ZC l w):=by
 by_cases h:l=[]\/255<l.length\/l.head?≠some 47
 .refine(adg l w hl h).mono ?_;rintro e w' ⟨rfl,rfl⟩;have hv:ed.parse l=([],30):=by unfold ed.parse;rw[ev h]
  unfold ZC;rw[hv];exact⟨⟨_,rfl,Own.nil _ _⟩,aE _ _⟩
 .refine ZB l w (λh1=>h (.inl h1)) ?_ ?_
  .grind
  grind
end
section
open RowKit
namespace ed
def BM l:=
 if (parse l).2=0 then(if (parse l).1=[] then([],[],72) else((parse l).1.dropLast,(parse l).1.getLast?.getD [],0)) else([],[],(parse l).2)
end ed
def ZE (l:List UInt8) (w:World) (e:Ending) w':=
 (∃a n c,e=ar (ao #[an a n c,.string (aX (ed.BM l).2.1),O aa (ed.BM l).2.2])/\Own IY 9 w' w (an a n c) (ed.BM l).1/\n<=c)/\Below w w w'
theorem last_at (xs:List (List UInt8)) m (h:xs.length=m+1) hm:xs.getLast?.getD []=xs[m]:=by grind
theorem VZ l w (hl:l.length<=140737488351232):
  Calls prog 47 #[.string (aX l)] w (ZE l w):=by
 have hpc:=ag (VY l w hl);unfold ZC at hpc;have HS:=ag (show ed.BM l=(if (ed.parse l).2=0 then(if (ed.parse l).1=[] then([],[],72) else((ed.parse l).1.dropLast,(ed.parse l).1.getLast?.getD [],0)) else([],[],(ed.parse l).2)) from rfl);unfold ZE;have hlen:(ed.parse l).1.length<=16777216:=by
  unfold ed.parse
  split
  .simp
  .split
   .have:=ed.ac8 l;rename_i h _;have h2:l.length<=255:=ae;exact bB this ae
   .simp
 generalize ed.BM l=S at*;generalize ed.parse l=R at*;obtain⟨xs,E⟩:=R;by_cases hE:E=0
 .subst hE;by_cases h0:xs=[]
  .subst h0;have hs:=ag (show S=([],[],72) by rw[HS.o];rfl);clear HS
   go_in
   go_wp2_with fail;go_call hpc as e w1 ⟨⟨v,rfl,ho⟩,hb⟩;obtain⟨a1,c1,rfl,_⟩:=ho.bG (n:=0) rfl;have HB:=ag hb;clear ho hb;go_wp2;go_ret3;rw[hs.o];exact⟨⟨_,_,_,rfl,Own.nil _ _,bp _⟩,HB⟩
  .obtain⟨m,hm⟩:∃m,xs.length=m+1:=⟨xs.length-1,by have:=List.length_pos_iff.2 h0;omega⟩
   have Gz:m<xs.length:=ae;obtain⟨hs,HM⟩:=cn (show S=(xs.take m,xs[m],0) by rw[HS.o,ev rfl,eo h0,List.dropLast_eq_take,hm,Nat.add_sub_cancel,last_at xs m hm Gz]) hm;simp only at hlen;have EY:m<=16777216:=ae;clear HS hm h0
   go_in
   go_wp2_with fail;go_call hpc as e w1 ⟨⟨v,rfl,ho⟩,hb⟩;obtain⟨a1,c1,rfl,BO⟩:=ho.bG (n:=m+1) HM.o;obtain⟨HO,HA,HB⟩:=cp ho (ho.arr (by rw[HM.o];omega)) hb;obtain⟨b1,o1,fO,rfl,Wh,uF⟩:=HA.YJ (k:=m) ae;rw[Sl] at uF;have q1:IntKind.i64.wrap (m:Int)=(m:Int):=bq _ ⟨ae,ae⟩;have q2:(m:Int)+1-1=(m:Int):=ae;have q3:(0:Int)<=(m:Int):=ae;have q4:(m:Int)<=(c1:Int):=ae;have q5:(m:Int)<(m:Int)+1:=ae;clear ho hb;go_wp2_with fail
   go_quiet (fail)
   go_wp2;go_ret3;rw[hs.o];exact⟨⟨_,_,_,rfl,(HO.anu (k:=m) ae).on (below_drewN _ _),ae⟩,HB.trans (below_drewN _ _)⟩
 .have hs:=ag (show S=([],[],E) by rw[HS.o];exact eo hE);have g1:(E==0)=false:=by simpa using hE
  have g2:(E !=0)=true:=by simpa using hE
  clear HS hE
  go_in
  go_wp2_with fail;go_call hpc as e w1 ⟨⟨v,rfl,ho⟩,hb⟩;have HB:=ag hb;clear ho hb;go_wp2;go_ret3;rw[hs.o];exact⟨⟨_,_,_,rfl,Own.nil _ _,bp _⟩,HB⟩
namespace ed
end ed
end
section
namespace vG
def dg
 |0,n=>[bx (48+n)]
 |m+1,n=>if n<10 then[bx (48+n)] else dg m (n/10)++[bx (48+n%10)]
end vG
end
section
open RowKit
theorem afh {n} (h:n<10):∀m,vG.dg m n=[bx (48+n)]
 |0=>rfl
 |_+1=>ev h
theorem NU {n:Nat} (h:n<10) m w:Calls prog 11 #[O aa n] w λe w'=>e=ar (.string (aX (vG.dg m n)))/\Below w w w':=by
 obtain⟨b,hb⟩:=aW (bx (48+n));have ht:vG.dg m n=[b]:=by rw[hb];exact afh h m
 have gm:#[Value.int .u8 (48+(n:Int))]=([b].map aJ).toArray:=by rw[hb,cE,List.map_nil,<-CW (48+n) ae];rfl
 have hx:Bytes (w.alloc (.cells #[O .u8 (48+(n:Int))] 5)) (w.alloc (.cells #[O .u8 (48+(n:Int))] 5)).heap.size (w.heap.size,0) 1 [b]:=jq.lit w 5 [b] 1 rfl ae gm;have hcv:=P9 (c:=1) hx;have HB:=ag ((aE w w).alloc av (.cells #[O .u8 (48+(n:Int))] 5));have g1:(n:Int)<10:=ae;have q1:=bq (48+(n:Int)) ⟨ae,ae⟩;have q2:=IntWalk.u8_in (48+(n:Int)) ⟨ae,ae⟩;rw[ht];clear hx gm ht h hb
 go_in
 go_wp2_with fail;go_ret;exact⟨rfl,HB⟩
end
section
open RowKit Maps ChangeMaps dY fG
section
variable {B X T Z:Nat} {Q:Nat->Prop} {w w':World} {f:Fm} {s:Ps} {xs:List (List UInt8)} {ns:Nat->Nat} {l:List UInt8}
theorem adh (hp:ed.parse l=(xs,0)) (h0:xs≠[]):ed.BM l=(xs.dropLast,xs.getLast?.getD [],0):=by unfold ed.BM;rw[hp,ev rfl,eo h0]
theorem KN (h:fK B Q w X T Z f s) (hl:l.length<=140737488351232) (hp:ed.parse l=(xs,0)) (h0:xs≠[]) (hx:xs.length<=100) (hy:Way s xs.dropLast ns):
  Calls prog 44 #[X,.string (aX l)] w λe w'=>e=ar (ao #[O aa (ns xs.dropLast.length),.string (aX (xs.getLast?.getD [])),O aa 0])/\bZ 16 B Q w' Z f s/\Kq Q w w':=by
 have HS:=ag (VZ l w hl);unfold ZE at HS;rw[adh hp h0] at HS;obtain⟨HW,HH⟩:=cn (λ(W:World) (hW:fK B Q W X T Z f s) (a:Option Addr) (c:Nat) (CP:Own IY 9 W 0 (an a xs.dropLast.length c) xs.dropLast) (hxq:∀q,(Value.slice a xs.dropLast.length c).ownBlock=some q->¬Q q)=>OC hW.hP hW.hT hW.nT hy CP hxq (by rw[List.length_dropLast];omega)) h;have c1:=h.c1;generalize xs.getLast?.getD []=nm at*;generalize xs.dropLast=ys at*;clear h hl hp h0 hx hy
 go_in
 go_wp2_with fail;go_call HS as e w1 ⟨⟨a,n,c,rfl,ho,uD⟩,bP⟩;have hlen:ys.length=n:=by
  obtain⟨a',c',e,_⟩:=ho.form;injection e with _ e _
  exact e.symm
 subst hlen;obtain⟨nz,HO,HOq,bV⟩:=cr (HH.on bP) (ho.mono (bN _)) (show∀q,(Value.slice a ys.length c).ownBlock=some q->¬Q q from λq hq=>HH.hP.aV (ho.aN q hq).1) bP;have c1:=nz.c1;clear ho bP HS;go_wp2_with fail;go_call(HW.o w1 nz a c HO HOq) as e w2 ⟨rfl,jU,eU⟩;obtain⟨ui,ja⟩:=cn jU ((Kq.of bV).trans eU);clear jU eU;go_wp2;go_ret3;exact⟨rfl,ui,ja⟩
end
end
end Go.Proofs.YtnieckfelfoopaaGreat

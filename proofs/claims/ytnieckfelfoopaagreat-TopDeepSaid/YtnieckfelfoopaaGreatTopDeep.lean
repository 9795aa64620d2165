import Derived.Test.YtnieckfelfoopaaGreatDeeU
import Derived.Deep.DeepCutAuto
open Go.Proofs.Tryz (prog)
namespace Go.Proofs.YtnieckfelfoopaaGreat
open Lib (hid)
set_option maxRecDepth 100000
set_option maxHeartbeats 16000000
open Go.RowKit eX eu jZ

def JO (nm:Nat->List UInt8) (w:World) (X T Z k:Nat) (W:World):Prop:=∃B c s f Q,w.heap.size<=B/\St nm c k s/\(c=0->Od f)/\iQ B Q W X T Z f s/\Below w.heap.size w W
def MvW (nm:Nat->List UInt8) (w:World) (X T Z k:Nat) (W:World):Prop:=∃B s f Q,w.heap.size<=B/\Mv nm k s/\iQ B Q W X T Z f s/\Below w.heap.size w W
section
variable {nm:Nat->List UInt8} {w W W':World} {X T Z k n:Nat}
theorem JO.on (h:JO nm w X T Z k W) (hb:Below W.heap.size W W'):JO nm w X T Z k W':=by obtain⟨B,c,s,f,Q,h1,h2,h3,h4,h5⟩:=h;exact⟨B,c,s,f,Q,h1,h2,h3,h4.on hb,h5.ay hb⟩
theorem JO.bel (h:JO nm w X T Z k W):Below w.heap.size w W:=by obtain⟨_,_,_,_,_,_,_,_,_,h⟩:=h;exact h
theorem MvW.on (h:MvW nm w X T Z k W) (hb:Below W.heap.size W W'):MvW nm w X T Z k W':=by obtain⟨B,s,f,Q,h1,h2,h4,h5⟩:=h;exact⟨B,s,f,Q,h1,h2,h4.on hb,h5.ay hb⟩
theorem Y1 (h:JO nm w X T Z k W) (hk:k<=15) (hn:FY nm):Calls prog 18 #[X,.string (aJ (aT (jf nm (k+1))))] W λe W'=>e= .returned (.int .i64 0)/\JO nm w X T Z (k+1) W':=by obtain⟨B,c,s,f,Q,h1,h2,h3,h4,h5⟩:=h;refine(abU h4 h2 h3 hk hn).mono ?_;rintro e W' ⟨rfl,c',s',f',hs,ho,hr⟩;exact⟨rfl,B,c',s',f',_,h1,hs,ho,hr.1,h5.trans (hr.2.below (λq hq=>Nat.le_trans h1 (h4.hP.bnd q hq).1) h5.size)⟩
theorem abV (h:JO nm w X T Z 16 W) (hn:FY nm):Calls prog 18 #[X,.string (aJ (aT (jf nm 16++[xL])))] W λe W'=>e= .returned (.int .i64 30)/\JO nm w X T Z 16 W':=by obtain⟨B,c,s,f,Q,h1,h2,h3,h4,h5⟩:=h;refine(af9 h4 h2 h3 hn).mono ?_;rintro e W' ⟨rfl,c',s',f',hs,ho,hr⟩;exact⟨rfl,B,c',s',f',_,h1,hs,ho,hr.1,h5.trans (hr.2.below (λq hq=>Nat.le_trans h1 (h4.hP.bnd q hq).1) h5.size)⟩
theorem abW (h:JO nm w X T Z k W) (iy:1<=k) (hk:k<=15) (hn:FY nm):Calls prog 19 #[X,.string (aJ (aT [nm 0])),.string (aJ (aT (jf nm k++[xL])))] W λe W'=>e= .returned (.int .i64 70)/\JO nm w X T Z k W':=by obtain⟨B,c,s,f,Q,h1,h2,h3,h4,h5⟩:=h;refine(aga h4 h2 h3 iy hk hn).mono ?_;rintro e W' ⟨rfl,c',s',f',hs,ho,hr⟩;exact⟨rfl,B,c',s',f',_,h1,hs,ho,hr.1,h5.trans (hr.2.below (λq hq=>Nat.le_trans h1 (h4.hP.bnd q hq).1) h5.size)⟩
theorem abX (h:JO nm w X T Z k W) (iy:1<=k) (hk:k<=16) (hn:FY nm):Calls prog 19 #[X,.string (aJ (aT [nm 0])),.string (aJ (aT [lq]))] W λe W'=>e= .returned (.int .i64 0)/\MvW nm w X T Z k W':=by obtain⟨B,c,s,f,Q,h1,h2,h3,h4,h5⟩:=h;refine(agb h4 h2 h3 iy hk hn).mono ?_;rintro e W' ⟨rfl,s',f',hs,hr⟩;exact⟨rfl,B,s',f',_,h1,hs,hr.1,h5.trans (hr.2.below (λq hq=>Nat.le_trans h1 (h4.hP.bnd q hq).1) h5.size)⟩
theorem Y2 (h:MvW nm w X T Z (n+1) W) (hk:n+1<=16) (hn:FY nm):Calls prog 20 #[X,.string (aJ (aT (lq::CW nm n)))] W λe W'=>∃x0 x2 x3 x4:Int,e= .returned (.tuple #[.agg #[.int .i64 x0,.int .i64 2,.int .i64 x2,.int .i64 x3,.int .i64 x4],.int .i64 0])/\MvW nm w X T Z (n+1) W':=by obtain⟨B,s,f,Q,h1,h2,h4,h5⟩:=h;refine(abY h4 h2 hk hn).mono ?_;rintro e W' ⟨x0,x2,x3,x4,rfl,hf,fA⟩;exact⟨x0,x2,x3,x4,rfl,B,s,f,Q,h1,h2,hf,h5.trans (fA.below (λq hq=>Nat.le_trans h1 (h4.hP.bnd q hq).1) h5.size)⟩
theorem abZ {ps n1 rs:List UInt8} (hp:ps=47::n1++rs):({data:=#[47,109,111,118,101,100]}:ByteArray)++(aJ ps).extract (1+n1.length) ps.length=aJ ([47,109,111,118,101,100]++rs):=by rw[Gw,show({data:=#[47,109,111,118,101,100]}:ByteArray)=aJ [47,109,111,118,101,100] from rfl,kP,hp,Nat.add_comm,<-List.length_cons (a:=47),List.drop_left,List.take_of_length_le (by rw[List.length_append];omega)]
theorem Vj {V:World} {g:Nat} {t:TypeId} {cs:Array Value} (h:MvW nm w X T Z (n+1) V) (hb:Below V.heap.size V W) (hg:aF W g t cs) (pR:V.heap.size<=g) (hk:n+1<=16) (hn:FY nm):Calls prog 20 #[X,.string (aJ (aT (jf nm (n+1))))] W λe W'=>e= .returned (.tuple #[.agg #[.int .i64 0,.int .i64 0,.int .i64 0,.int .i64 0,.int .i64 0],.int .i64 60])/\aF W' g t cs/\Below w.heap.size w W':=by obtain⟨B,s,f,Q,h1,h2,h4,h5⟩:=h;refine(ab2 (h4.on hb) h2 hk hn).mono ?_;rintro e W' ⟨rfl,_,fA⟩;exact⟨rfl,hg.kq fA (h4.hP.aV pR),(h5.ay hb).trans (fA.below (λq hq=>Nat.le_trans h1 (h4.hP.bnd q hq).1) (h5.ay hb).size)⟩
end
def eH (xs:List UInt8) (i:Nat):List UInt8:=nmL (xs.getD (i%xs.length) 0)
theorem ab3 (xs:List UInt8):FY (eH xs):=λ_=>aoA _
theorem NI (a0:Option Addr) (n0 c0:Nat) (x0:List UInt8) (x1:UInt8) (w:World) (g0:Bytes w w.heap.size a0 n0 x0) (_:n0<=c0) (_:c0<=140737488351232):
  Calls prog 4 #[.slice a0 n0 c0,.int .u8 (x1.toNat:Int)] w λe w'=>e= .returned (.bool true)/\Below w.heap.size w w':=by
 have HG:=ag g0;have HNm:=ag (ab3 x0);obtain⟨b,hb⟩:=bu x1.toNat
 have aW:b<256:=by rw[hb];exact x1.toNat_lt
 rw[<-hb];obtain⟨n,hn⟩:=bu (b%16);have q1:(b:Int)%16=(n:Int):=ae;have q2:=IntWalk.i64_in (n:Int) ⟨ae,ae⟩;have q3:=IntWalk.i64_in ((n:Int)+1) ⟨ae,ae⟩;have q4:=IntWalk.u8_in (n:Int) ⟨ae,ae⟩;have aoB:n<=15:=ae;clear hb aW hn g0
 go_in
 go_wp2_with fail;refine(JP w).mono ?_;rintro e w1 ⟨B,X,T,Z,Q,f,rfl,hB,hM,hO,bK⟩;have HD1:=ag (show JO (eH x0) w X T Z 0 w1 from⟨B,0,_,f,Q,hB,St.start hO hM.hP.ok,λ_=>hO,hM,bK⟩);clear hB hM hO bK;go_wp2_with fail;obtain⟨N,hN⟩:=bu (n+1);have hNi:(n:Int)+1=(N:Int):=ae;rw[hNi];have HN:=ag (show 1<=N/\N<=16 from ae);clear q1 q2 q3 q4 hNi hN aoB
 go_loopw [7,9,10] (λv7 v9 _ W=>∃k,k<=N/\v9= .int .i64 k/\v7= .string (aJ (aT (jf (eH x0) k)))/\JO (eH x0) w X T Z k W) (λ_ v9 _ _=>N-(intOf v9).toNat)
 case atStart=>exact⟨0,Nat.zero_le _,rfl,rfl,HD1.o⟩
 case round=>
  obtain⟨k,hk,rfl,rfl,hd⟩:=hrel;have HD:=ag hd;have pU:(aT (jf (eH x0) k)).length<=6*k:=by
   have h:=zq (xs:=jf (eH x0) k) λx hx=>(FZ HNm.o x hx).2
   rwa [tH] at h
  have NJ:=ag pU;clear hd pU;by_cases aU:k<N
  ·have q1:(k:Int)<(N:Int):=ae;have HMk:=ag (λW (hW:JO (eH x0) w X T Z k W)=>Y1 hW (by have:=HN.o;omega) HNm.o);have LC:aT (jf (eH x0) (k+1))=aT (jf (eH x0) k)++47::eH x0 k:=by rw[LD,Ea,Eb]
   rw[LC] at HMk;have HTx:=ag (show∀W,Calls prog 11 #[.int .i64 ((x0.getD (k%x0.length) 0).toNat:Int)] W λe w'=>e= .returned (.string (aJ (eH x0 k)))/\Below W.heap.size W w' from λW=>Ag (x0.getD (k%x0.length) 0) W);have HPs:=ag LC;have Gx:=(HNm.o k).2.1;obtain⟨nk,UT⟩:=bu (eH x0 k);obtain⟨ps,aoD⟩:=bu (aT (jf (eH x0) k));rw[<-UT] at HMk HTx Gx HPs;rw[<-aoD] at HMk HPs NJ⊢;have Jy:ps.length+1<=1000:=by have:=NJ.o;have:=HN.o;omega
   have CB:ps.length+1+nk.length<=1000:=by have:=NJ.o;have:=HN.o;omega
   have aoE:aJ ps++{data:=#[47]}++aJ nk=aJ (ps++47::nk):=by rw[show({data:=#[47]}:ByteArray)=aJ [47] from rfl,kP,kP,List.append_assoc];rfl
   have agf:=ag aoE;have q8:=IntWalk.i64_in ((k:Int)+1) ⟨ae,by have:=HN.o;omega⟩;clear LC UT aoD aoE Gx;by_cases h0:n0=0
   ·subst h0;have hx0:x0=[]:=List.length_eq_zero_iff.1 HG.o.len;have HT0:=ag (show∀W,Calls prog 11 #[.int .i64 0] W λe w'=>e= .returned (.string (aJ nk))/\Below W.heap.size W w' from λW=>by have h:=HTx.o W;rw[hx0] at h;exact h);clear aU hx0;go_wp2_with fail;refine(HT0.o wr).mono ?_;rintro e w2 ⟨rfl,aW⟩;have HD2:=ag (HD.o.on aW);clear aW;go_wp2_with fail;rw[agf.o];refine(HMk.o w2 HD2.o).mono ?_;rintro e w3 ⟨rfl,XQ⟩;have HD3:=ag XQ;clear XQ;go_wp2;go_roundw
    case rel=>exact⟨k+1,ae,by go_num,by rw[HPs.o],HD3.o⟩
    case measure=>simp[intOf];omega
   ·have hlen:x0.length=n0:=HG.o.len;have hx:=HG.o.below HD.o.bel;obtain⟨j,hj⟩:=bu (k%n0);have uX:j<n0:=by rw[hj];exact Nat.mod_lt _ ae
    obtain⟨bb,oo,UU,rfl,_,hc⟩:=hx.at_ (k:=j) uX;have mD:x0.getD (k%x0.length) 0=x0[j]:=by rw[hlen,<-hj,List.getD_eq_getElem?_getD,List.getElem?_eq_getElem UU];rfl
    rw[mD] at HTx;have yl:=(x0[j]).toNat_lt;generalize x0[j]=y at*;have r1:(k:Int)%(n0:Int)=(j:Int):=by rw[hj];omega
    have r2:(0:Int)<=(j:Int):=ae;have r3:(j:Int)<(n0:Int):=ae;have r4:(j:Int).toNat=j:=ae;have r5:(0:Int)<(n0:Int):=ae;have r6:(n0:Int)≠0:=ae;have r7:=IntWalk.i64_in (y.toNat:Int) ⟨ae,ae⟩;clear aU hlen hx hj uX UU mD h0 yl;go_wp2_with fail;refine(HTx.o wr).mono ?_;rintro e w2 ⟨rfl,aW⟩;have HD2:=ag (HD.o.on aW);clear aW;go_wp2_with fail;rw[agf.o];refine(HMk.o w2 HD2.o).mono ?_;rintro e w3 ⟨rfl,XQ⟩;have HD3:=ag XQ;clear XQ;go_wp2;go_roundw
    case rel=>exact⟨k+1,ae,by go_num,by rw[HPs.o],HD3.o⟩
    case measure=>simp[intOf];omega
  ·obtain rfl:k=N:=ae;have q1:¬(k:Int)<(k:Int):=ae;have HDe:=ag (show JO (eH x0) w X T Z k wr from HD.o);obtain⟨y,hy⟩:=bu (x0.getD 0 0);have auB:=ag (show eH x0 0=nmL y from by unfold eH;rw[Nat.zero_mod,<-hy]);have hN1:=HN.o.1;have hN2:=HN.o.2;have HY:=ag hy;clear aU hk HD HD1 hy;go_upto_if 53 with fail
   go_cut [11] (λv11 wx=>v11= .int .i64 (y.toNat:Int)/\wx=wr)
   case first=>
    by_cases h0:n0=0
    ·subst h0;have hx0:x0=[]:=List.length_eq_zero_iff.1 HG.o.len;have hy0:y=0:=by rw[HY.o,hx0];rfl
     have HY0:=ag hy0;clear hx0 hy0;go_wp2;go_meet
     case rel=>exact⟨by rw[HY0.o];rfl,rfl⟩
    ·have hx:=HG.o.below HDe.o.bel;obtain⟨bb,oo,UU,rfl,_,hc⟩:=hx.at_ (k:=0) ae;have mD:x0[0]=y:=by rw[HY.o,List.getD_eq_getElem?_getD,List.getElem?_eq_getElem UU];rfl
     rw[mD,Nat.add_zero] at hc;have yl:=y.toNat_lt;have r5:(0:Int)<(n0:Int):=ae;have r6:0<n0:=ae;have r7:=IntWalk.i64_in (y.toNat:Int) ⟨ae,ae⟩;clear hx UU mD h0 yl;go_wp2;go_meet
     case rel=>exact⟨rfl,rfl⟩
   case rest=>
    obtain⟨rfl,rfl⟩:=hcut;have HTx:=ag (λW=>Ag y W);rw[<-auB.o] at HTx;have Gx:=(HNm.o 0).2.1;have pU:=NJ.o;have LC:aT (jf (eH x0) k++[xL])=aT (jf (eH x0) k)++[47,120]:=by rw[Ea];rfl
    have hmv:aJ (aT [lq])={data:=#[47,109,111,118,101,100]}:=rfl;have HIt:=ag (λW (hW:JO (eH x0) w X T Z k W) (h:k<=15)=>abW hW HN.o.1 h HNm.o);have HMo:=ag (λW (hW:JO (eH x0) w X T Z k W)=>abX hW HN.o.1 HN.o.2 HNm.o);have HOv:=ag (λW (hW:JO (eH x0) w X T Z k W) (h:k=16)=>show Calls prog 18 #[X,.string (aJ (aT (jf (eH x0) k++[xL])))] W λe W'=>e= .returned (.int .i64 30)/\JO (eH x0) w X T Z k W' from by subst h;exact abV hW HNm.o);obtain⟨j,hj⟩:∃j,k=j+1:=⟨k-1,ae⟩
    have nZ:=ag (λW (hW:MvW (eH x0) w X T Z k W)=>Y2 (n:=j) (hj▸hW) ae HNm.o);have gJ:=ag (λ(V W:World) (g:Nat) (t:TypeId) (cs:Array Value) (hW:MvW (eH x0) w X T Z k V) (hb:Below V.heap.size V W) (hg:aF W g t cs) (pR:V.heap.size<=g)=>show Calls prog 20 #[X,.string (aJ (aT (jf (eH x0) k)))] W λe W'=>e= .returned (.tuple #[.agg #[.int .i64 0,.int .i64 0,.int .i64 0,.int .i64 0,.int .i64 0],.int .i64 60])/\aF W' g t cs/\Below w.heap.size w W' from by subst hj;exact Vj hW hb hg pR ae HNm.o);rw[<-hj] at nZ;have hsp:aT (jf (eH x0) k)=47::eH x0 0++aT (CW (eH x0) j):=by rw[hj,LG];rfl
    have hms:aT (lq::CW (eH x0) j)=[47,109,111,118,101,100]++aT (CW (eH x0) j):=rfl;have Ah:aT [eH x0 0]=47::eH x0 0:=Eb _;rw[LC] at HIt HOv;rw[hmv] at HMo;rw[hms] at nZ;rw[Ah] at HIt HMo;obtain⟨ps,NK⟩:=bu (aT (jf (eH x0) k));obtain⟨rs,hre⟩:=bu (aT (CW (eH x0) j));obtain⟨n1,yK⟩:=bu (eH x0 0);rw[<-NK] at HIt HOv gJ hsp pU⊢;rw[<-hre] at nZ hsp;rw[<-yK] at HIt HMo HTx hsp Gx;have HSp:=ag hsp;have Jy:ps.length+2<=1000:=ae;have CB:n1.length+1<=1000:=ae;have ec1:aJ ps++{data:=#[47,120]}=aJ (ps++[47,120]):=by rw[show({data:=#[47,120]}:ByteArray)=aJ [47,120] from rfl,kP]
    have ec2:{data:=#[47]}++aJ n1=aJ (47::n1):=by rw[show({data:=#[47]}:ByteArray)=aJ [47] from rfl,kP];rfl
    have HE1:=ag ec1;have HE2:=ag ec2;clear LC hmv hsp hms Ah NK hre yK hj pU Gx ec1 ec2;go_upto_region 18 with fail
    go_cut [80] (λv80 wx=>v80= .bool false/\Hid (JO (eH x0) w X T Z k wx))
    case first=>
     by_cases h16:k=16
     ·have g1:(k:Int)=16:=ae;have g2:((k:Int)==16)=true:=by simp[g1]
      have g3:¬(k:Int)<16:=ae;have auD:=ag (λW hW=>HOv.o W hW h16);clear h16 g1;go_wp2_with fail;rw[HE1.o];refine(auD.o wc HDe.o).mono ?_;rintro e w2 ⟨rfl,hd2⟩;have HD2:=ag hd2;clear hd2;go_wp2;go_meet
      case rel=>exact⟨rfl,HD2⟩
     ·have g1:¬(k:Int)=16:=ae;have g2:((k:Int)==16)=false:=by simp[g1]
      have g3:(k:Int)<16:=ae;have auE:=ag (λW hW=>HIt.o W hW ae);clear h16;go_wp2_with fail;refine(HTx.o wc).mono ?_;rintro e w2 ⟨rfl,aW⟩;have HD2:=ag (HDe.o.on aW);clear aW;go_wp2_with fail;rw[HE1.o,HE2.o];refine(auE.o w2 HD2.o).mono ?_;rintro e w3 ⟨rfl,XQ⟩;have HD3:=ag XQ;clear XQ;go_wp2;go_meet
      case rel=>exact⟨rfl,HD3⟩
    case rest=>
     obtain⟨rfl,hcut⟩:=hcut;have oh:ps.length=1+n1.length+rs.length:=by rw[HSp.o,List.length_append,List.length_cons];omega
     have iO:0<=1+(n1.length:Int)/\1+(n1.length:Int)<=(ps.length:Int):=ae;have q9:=w64 (1+(n1.length:Int)) ae;have JQ:=ag oh;clear oh;go_wp2_with fail;refine(HTx.o _).mono ?_;rintro e w2 ⟨rfl,aW⟩;have HD2:=ag (hcut.o.on aW);clear aW;go_wp2_with fail;rw[HE2.o];refine(HMo.o w2 HD2.o).mono ?_;rintro e w3 ⟨rfl,hm3⟩;have Jz:=ag hm3;clear hm3;go_wp2_with fail;refine(HTx.o _).mono ?_;rintro e w4 ⟨rfl,di⟩;have HM4:=ag (Jz.o.on di);clear di;go_wp2_with fail;rw[abZ HSp.o];refine(nZ.o w4 HM4.o).mono ?_;rintro e w5 ⟨z0,z2,z3,z4,rfl,hm5⟩;have JA:=ag hm5;have Y3:=ag (aF.new w5 53 #[.int .i64 0,.int .i64 0,.int .i64 0,.int .i64 0,.int .i64 0]);obtain⟨w6,xJ⟩:=bu ((w5.alloc (.cells #[.int .i64 0,.int .i64 0,.int .i64 0,.int .i64 0,.int .i64 0] 53)).setRow w5.heap.size #[.int .i64 z0,.int .i64 2,.int .i64 z2,.int .i64 z3,.int .i64 z4]);have iI:Below w5.heap.size w5 w6:=by rw[xJ];exact((Below.refl _ w5).alloc (Nat.le_refl _) _).cO (Nat.le_refl _) _
     have EW:=ag (show aF w6 w5.heap.size 53 #[.int .i64 z0,.int .i64 2,.int .i64 z2,.int .i64 z3,.int .i64 z4] from by rw[xJ];exact Y3.o.row _);have vP:=ag iI;have HW6:=ag xJ;clear hm5 iI xJ
     go_wp2_with (refine aC rfl rfl _ _ _ rfl w5.heap.size #[.int .i64 z0,.int .i64 2,.int .i64 z2,.int .i64 z3,.int .i64 z4] rfl rfl 53 #[.int .i64 0,.int .i64 0,.int .i64 0,.int .i64 0,.int .i64 0] Y3.o rfl ni (by simp[Value.oneCell']) ?_;rw[<-HW6.o])
     refine(gJ.o w5 w6 _ _ _ JA.o vP.o EW.o (Nat.le_refl _)).mono ?_;rintro e w7 ⟨rfl,hi7,kC⟩;have HN7:=ag (aF.new w7 53 #[.int .i64 0,.int .i64 0,.int .i64 0,.int .i64 0,.int .i64 0]);obtain⟨w8,hw8⟩:=bu ((w7.alloc (.cells #[.int .i64 0,.int .i64 0,.int .i64 0,.int .i64 0,.int .i64 0] 53)).setRow w7.heap.size #[.int .i64 0,.int .i64 0,.int .i64 0,.int .i64 0,.int .i64 0]);have kQ:Below w7.heap.size w7 w8:=by rw[hw8];exact((Below.refl _ w7).alloc (Nat.le_refl _) _).cO (Nat.le_refl _) _
     have hi8:=hi7.ah kQ;have HB8:=ag (kC.ay kQ);have HW8:=ag hw8;have y1:=hi8.aj (i:=1) (v:= .int .i64 2) rfl;clear hi7 kC hw8 kQ hi8
     go_wp2_with (refine aC rfl rfl _ _ _ rfl w7.heap.size #[.int .i64 0,.int .i64 0,.int .i64 0,.int .i64 0,.int .i64 0] rfl rfl 53 #[.int .i64 0,.int .i64 0,.int .i64 0,.int .i64 0,.int .i64 0] HN7.o rfl ni (by simp[Value.oneCell']) ?_;rw[<-HW8.o])
     refine(QC _).mono ?_;rintro e w9 ⟨rfl,gI⟩;have HB9:=ag (HB8.o.ay gI);clear gI;go_wp2;go_ret;exact⟨rfl,HB9.o⟩
end Go.Proofs.YtnieckfelfoopaaGreat

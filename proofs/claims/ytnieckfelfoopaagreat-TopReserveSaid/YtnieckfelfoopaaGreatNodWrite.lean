import Derived.BigRegionIn
import Derived.Sort.BigQuietIn
import Derived.OrdersIn
import Derived.OrdersHeld
import Derived.Deep.CutRange
import Derived.Carry
import Derived.WideLaws
import Derived.Test.YtnieckfelfoopaaGreatPolCm
import Derived.Test.YtnieckfelfoopaaGreatInoTab2
open Array renaming replicate_succ->dT,replicate_zero->ee
open Go.AllReadyH renaming cons->bX,nil->cN
open Go.IntWalk renaming i64_in->bq
open Go.RowKit.Below renaming refl->aE
open Go.World renaming size_alloc->bR,putObj_heap_other->cF,cell?_setCell_far->cK,size_setCell->cT
open List renaming replicate->bt,mem_map->bw,length_append->bE,length_map->bO,mem_cons->bS,range->cz,map_append->cA,append_nil->cC,length_cons->cD,map_cons->cE,length_take->cI,take_of_length_le->cL,nil_append->cP,append_assoc->cQ,nodup_cons->cR,getElem_mem->cS,size_toArray->cU,length_nil->cV,getElem?_eq_getElem->cX,not_mem_nil->cY,getD_eq_getElem?_getD->db,cons_append->dj,map_congr_left->dp,getElem?_eq_some_iff->dq,length_replicate->dx,range_succ->dz,append_toArray->ef,take_succ_eq_append_getElem->ei,eq_nil_of_length_eq_zero->ek
open Nat renaming le_refl->bp,le_trans->bB,zero_le->bN,lt_of_lt_of_le->cM
open Go.Value renaming int->O,slice->an,tuple->ao,bool->aq
open Go.IntKind renaming i64->aa
open Go.Ending renaming returned->ar
open Go.RowKit renaming Hid->aL
open Go.Proofs.Tryz (prog)
set_option maxRecDepth 100000
set_option maxHeartbeats 16000000
namespace Go.Proofs.YtnieckfelfoopaaGreat
open Lib (hid)
section
open RowKit dY Opn
theorem Jm a n c l w (hx:fP 6 YZ w w a n l) (hn:n<=100000):
  Calls prog 171 #[an a n c] w λe w'=>e=ar (O .u64 (qw l))/\Below w w w':=by
 obtain⟨HX,Fj⟩:=cn hx hx.len;have gm:=Ez;clear hx
 go_in
 go_wp2_with fail
 go_loopw [3,5,8] (λm _ i wr=>∃j:Nat,j<=n/\i=O aa j/\m=O .u64 (qw (l.take j))/\Below w w wr) (λ_ _ i _=>n-(intOf i).toNat)
 case atStart=>exact⟨0,ae,rfl,rfl,aE _ _⟩
 case round=>
  obtain⟨j,hj,rfl,rfl,hb⟩:=hrel;have HB:=ag hb;clear hb;by_cases aT:j<n
  .obtain⟨x,Ye,b,o,rfl,gB,c0,c1,c2,c3,c4,c5⟩:=QI (HX.below HB) aT;obtain⟨vJ,Bh⟩:=dq.1 Ye;have hst:qw (l.take (j+1))=sN (qw (l.take j)) x:=by rw[<-Bh];exact qU sN 0 l vJ
   have jI:=ag hst;have hj0:(0:Int)<=(j:Int):=ae;have hj1:(j:Int)<(n:Int):=ae;have df:=ag (HB.alloc HB.size (.cells #[O aa x.t.k,O .u32 x.t.p,O .u64 x.t.s,O .u64 x.t.e,O aa x.b,O aa x.i] 249));clear hst Ye vJ Bh;generalize qw (l.take j)=m at*;by_cases hk:x.t.k=2
   .have hm:sN m x=max m x.t.e:=ev hk;have HM:=ag hm;have hkb:(x.t.k==2)=true:=by rw[hk];rfl
    clear hm hk;go_wp2_with fail;go_roundw
    case rel=>exact⟨j+1,ae,by go_num,by rw[jI.o,HM.o];congr 1;omega,df⟩
    case measure=>simp[intOf];omega
   .have hm:sN m x=m:=eo hk;have HM:=ag hm;have hkb:(x.t.k==2)=false:=by rw[ew];exact hk
    clear hm hk;go_wp2_with fail;go_roundw
    case rel=>exact⟨j+1,ae,by go_num,by rw[jI.o,HM.o],df⟩
    case measure=>simp[intOf];omega
  .obtain rfl:j=n:=ae;have HE:=ag (show qw (l.take j)=qw l by rw[cL (by rw[Fj.o];exact bp _)]);go_wp2_with fail;go_ret;exact⟨by rw[HE.o];rfl,HB⟩
theorem EF x (last:Nat) w:
  Calls prog 225 #[.agg #[O aa x.t.k,O .u32 x.t.p,O .u64 x.t.s,O .u64 x.t.e,O aa x.b,O aa x.i],O .u64 last] w λe w'=>e=ar (aq (cnt last x))/\Below w w w':=by
 obtain⟨⟨k,p,s,ep⟩,d,b,i⟩:=x;have gm:=Ez;have HC:=ag (show cnt last ⟨⟨k,p,s,ep⟩,d,b,i⟩=(decide (ep<=last)&&(decide (0<p)||decide (ep=last))) from rfl);generalize cnt last ⟨⟨k,p,s,ep⟩,d,b,i⟩=res at*;simp only;by_cases h2:p=0
 .subst h2;have HB:=ag ((aE w w).alloc av (.cells #[O aa k,O .u32 0,O .u64 s,O .u64 ep,O aa b,O aa i] 249));by_cases h3:ep=last
  .subst h3;have HE:=ag (show res=true by rw[HC.o,ez (bp ep),ez rfl];rfl)
   go_in
   go_wp2;go_ret;exact⟨by rw[HE.o];rfl,HB⟩
  .have h4:((ep:Int)==(last:Int))=false:=by rw[ew];omega
   have HE:=ag (show res=false by rw[HC.o,ey h3];simp);by_cases h1:ep<=last
   .clear h3
    go_in
    go_wp2;go_ret;exact⟨by rw[HE.o];rfl,HB⟩
   .clear h3
    go_in
    go_wp2;go_ret;exact⟨by rw[HE.o];rfl,HB⟩
 .have HB:=ag ((aE w w).alloc av (.cells #[O aa k,O .u32 p,O .u64 s,O .u64 ep,O aa b,O aa i] 249));have h3:0<p:=ae;by_cases h1:ep<=last
  .have HE:=ag (show res=true by rw[HC.o,ez h1,ez h3];rfl);clear h2
   go_in
   go_wp2;go_ret;exact⟨by rw[HE.o];rfl,HB⟩
  .have HE:=ag (show res=false by rw[HC.o,ey h1];rfl);clear h2
   go_in
   go_wp2;go_ret;exact⟨by rw[HE.o];rfl,HB⟩
end
section
open RowKit dY Opn ChangeMaps Maps
theorem Ul a n c l (last:Nat) w (hx:fP 6 YZ w w a n l) (hn:n<=100000) (hp:∀e∈l,e.t.p<4294967296):
  Calls prog 173 #[an a n c,O .u64 last] w λe w'=>(∃v,e=ar v/\bQ 6 YZ 249 w' w v (zy last l))/\Below w w w':=by
 obtain⟨HX,Fj,HP⟩:=cp hx hx.len hp;have gm:=Ez;have UX:=@run_makeMap prog;obtain⟨HM0,gX⟩:=cn (nO.made (P:=prog) (k:=64) (kv:=kyV) (vv:=snV) w) ((aE w w).alloc av (.map #[] 0));clear hx hp
 go_in
 go_upto_region 2 with fail;clear UX;generalize ku:w.alloc (.map #[] 0)=w1 at*;obtain⟨mb,WM⟩:=aW w.heap.size;have HMb:=ag WM;rw[<-WM] at HM0⊢;clear ku WM;go_wp2_with fail
 go_loopw [7,14] (λ_ i wr=>∃j:Nat,j<=n/\i=O aa j/\Pz wr mb (Ii last (l.take j))/\Below w w wr) (λ_ i _=>n-(intOf i).toNat)
 case atStart=>exact⟨0,ae,rfl,HM0,gX⟩
 case round=>
  obtain⟨j,hj,rfl,hm,hb⟩:=hrel;obtain⟨HB,HM⟩:=cn hb hm;clear hb hm HM0 gX;by_cases aT:j<n
  .obtain⟨x,Ye,b,o,rfl,gB,c0,c1,c2,c3,c4,c5⟩:=QI (HX.below HB) aT;obtain⟨vJ,Bh⟩:=dq.1 Ye;have hst:Ii last (l.take (j+1))=pq last (Ii last (l.take j)) x:=by rw[<-Bh];exact qU (pq last) (λ_=>0) l vJ
   obtain⟨jI,HXp⟩:=cn hst (HP.o x (Bh▸cS vJ));have hj0:(0:Int)<=(j:Int):=ae;have hj1:(j:Int)<(n:Int):=ae;clear hst Ye vJ Bh;generalize Ii last (l.take j)=f at*;obtain⟨df,JB,HZ⟩:=cp (HB.alloc HB.size (.cells #[O aa x.t.k,O .u32 x.t.p,O .u64 x.t.s,O .u64 x.t.e,O aa x.b,O aa x.i] 249)) (HM.on ((aE wr wr).alloc av (.cells #[O aa x.t.k,O .u32 x.t.p,O .u64 x.t.s,O .u64 x.t.e,O aa x.b,O aa x.i] 249))) (aF.new wr 249 #[O aa x.t.k,O .u32 x.t.p,O .u64 x.t.s,O .u64 x.t.e,O aa x.b,O aa x.i]);go_upto_region 5 with fail;generalize wr.alloc (.cells #[O aa x.t.k,O .u32 x.t.p,O .u64 x.t.s,O .u64 x.t.e,O aa x.b,O aa x.i] 249)=w2 at*;generalize wr.heap.size=Z at*;clear c0 c1 c2 c3 c4 c5;obtain⟨c0,c1,c2,c3,c4,c5⟩:=HZ.c6;go_wp2_with fail;go_call(EF x last w2) as e w3 ⟨rfl,bJ⟩;obtain⟨cO,Qk,RH⟩:=cp (df.aA bJ) (JB.on bJ) (HZ.ah bJ);clear bJ c0 c1 c2 c3 c4 c5;have c1:=RH.aj (i:=1) rfl;have c2:=RH.aj (i:=2) rfl
   cases hc:cnt last x with
   |true=>
    have PG:=Pz.look (p:=x.t.p) Qk.o HXp.o;obtain⟨m,hm⟩:=aW (max (f x.t.p) x.t.s);have hmx:max (f x.t.p:Int) (x.t.s:Int)=(m:Int):=ae;obtain⟨o4,bF,QB,hg4⟩:=Pz.put (p:=x.t.p) Qk.o HXp.o m;have hf4:(λq=>if q=x.t.p then m else f q)=pq last f x:=by
     unfold pq;rw[ev hc,hm]
     funext q
     by_cases hq:q=x.t.p
     .rw[ev hq,ev hq,hq]
     .rw[eo hq,eo hq]
    rw[hf4,<-jI.o] at QB;obtain⟨HM4,jM,HMx⟩:=cp QB (cO.grown hg4 cO.size (λq hq=>by have:=HMb.o;have:=Option.some.inj hq;omega)) hm;clear QB hg4 hf4 hm;go_wp2_with fail;go_roundw
    case rel=>exact⟨j+1,ae,by go_num,HM4,jM⟩
    case measure=>simp[intOf];omega
   |false=>
    have hf4:pq last f x=f:=eo (by rw[hc];decide);rw[hf4] at jI;clear hf4;go_wp2_with fail;go_roundw
    case rel=>exact⟨j+1,ae,by go_num,by rw[jI.o];exact Qk.o,cO⟩
    case measure=>simp[intOf];omega
  .obtain rfl:j=n:=ae;rw[cL (by rw[Fj.o];exact bp _)] at HM;have UL:=ag (show zy last l=l.filter (Jj last (Ii last l)) from rfl);generalize Ii last l=M at*;obtain⟨HMF,HBF,HOF⟩:=cp HM.o HB.o (bQ.nil (e:=249) ahE wr w);clear hj aT HM HB;go_wp2_with fail
   go_loopw [8,10,37] (λv _ i wx=>∃q:Nat,q<=j/\i=O aa q/\Pz wx mb M/\bQ 6 YZ 249 wx w v ((l.take q).filter (Jj last M))/\Below w w wx) (λ_ _ i _=>j-(intOf i).toNat)
   case atStart=>exact⟨0,ae,rfl,HMF,HOF,HBF⟩
   case round=>
    obtain⟨q,hq,rfl,hm,ho,hb⟩:=hrel;obtain⟨HB,HM,HO,UJ⟩:=cr hb hm ho (show((l.take q).filter (Jj last M)).length<=1000000 by have h1:=List.length_filter_le (Jj last M) (l.take q);rw[cI] at h1;omega);clear hb hm ho HMF HOF HBF;by_cases aT:q<j
    .obtain⟨x,Ye,b,o,rfl,gB,c0,c1,c2,c3,c4,c5⟩:=QI (HX.below HB) aT;obtain⟨vJ,Bh⟩:=dq.1 Ye;have hst:=X4 (Jj last M) l vJ;rw[Bh] at hst;obtain⟨jI,HXp⟩:=cn hst (HP.o x (Bh▸cS vJ));have hj0:(0:Int)<=(q:Int):=ae;have hj1:(q:Int)<(j:Int):=ae;clear hst Ye vJ Bh;generalize (l.take q).filter (Jj last M)=xs at*;have fM:=(aE wr wr).alloc av (.cells #[O aa x.t.k,O .u32 x.t.p,O .u64 x.t.s,O .u64 x.t.e,O aa x.b,O aa x.i] 249);obtain⟨df,JB,tJ,HZ⟩:=cr (HB.aA fM) (HM.on fM) (HO.on fM) (aF.new wr 249 #[O aa x.t.k,O .u32 x.t.p,O .u64 x.t.s,O .u64 x.t.e,O aa x.b,O aa x.i]);clear fM;go_upto_region 12 with fail;generalize wr.alloc (.cells #[O aa x.t.k,O .u32 x.t.p,O .u64 x.t.s,O .u64 x.t.e,O aa x.b,O aa x.i] 249)=w2 at*;generalize wr.heap.size=Z at*;clear c0 c1 c2 c3 c4 c5;obtain⟨c0,c1,c2,c3,c4,c5⟩:=HZ.c6;go_wp2_with fail;go_call(EF x last w2) as e w3 ⟨rfl,bJ⟩;obtain⟨cO,Qk,tN,RH⟩:=cr (df.aA bJ) (JB.on bJ) (tJ.on bJ) (HZ.ah bJ);clear bJ c0 c1 c2 c3 c4 c5;obtain⟨c0,c1,c2,c3,c4,c5⟩:=RH.c6;have hnp:Jj last M x=(cnt last x&&decide (x.t.s=M x.t.p)):=rfl
     cases hc:cnt last x with
     |true=>
      have PG:=Pz.look (p:=x.t.p) Qk.o HXp.o;by_cases hs:x.t.s=M x.t.p
      .have hsb:((x.t.s:Int)==(M x.t.p:Int))=true:=by rw[hs];exact beq_self_eq_true _
       rw[hnp,hc,ez hs] at jI;clear hnp hs;obtain⟨HCs,AX⟩:=cn (show#[O aa x.t.k,O .u32 x.t.p,O .u64 x.t.s,O .u64 x.t.e,O aa x.b,O aa x.i]=(YZ x).toArray from rfl) cO.size
       go_wp2_with (at_builtin;refine EC rfl _ _ rfl w _ xs rfl tN x _ rfl rfl HCs UJ AX ?_;intro v7 w7 uB yh)
       obtain⟨x8,nY⟩:=cn (Qk.kq yh (λe=>Qk.ne tN e)) (cO.trans (yh.below (λq e=>(tN.aN q e).1) AX));go_roundw
       case rel=>exact⟨q+1,ae,by go_num,x8,by rw[jI.o];exact uB.o,nY⟩
       case measure=>simp[intOf];omega
      .have hsb:((x.t.s:Int)==(M x.t.p:Int))=false:=by rw[ew];omega
       rw[hnp,hc,ey hs] at jI;clear hnp hs;go_wp2_with fail;go_roundw
       case rel=>exact⟨q+1,ae,by go_num,Qk,by rw[jI.o];exact(cC xs).symm▸tN,cO⟩
       case measure=>simp[intOf];omega
     |false=>
      rw[hnp,hc] at jI;clear hnp;go_wp2_with fail;go_roundw
      case rel=>exact⟨q+1,ae,by go_num,Qk,by rw[jI.o];exact(cC xs).symm▸tN,cO⟩
      case measure=>simp[intOf];omega
    .obtain rfl:q=j:=ae;rw[cL (by rw[Fj.o];exact bp _),<-UL.o] at HO;go_wp2_with fail;go_ret;exact⟨⟨_,rfl,HO⟩,HB⟩
namespace Opn
theorem ame (l:List En) b:∀f,l.foldl Ew f b<=f b+l.length:=by
 induction l with
 |nil=>intro f;exact bp _
 |cons a t ih=>
  intro f;rw[List.foldl_cons,cD];have h1:=ih (Ew f a);have h2:Ew f a b<=f b+1:=by
   unfold Ew
   split<;>omega
  omega
theorem ah5 l b:wE l b<=l.length:=by have:=ame l b λ_=>0;unfold wE;omega
end Opn
theorem Um a n c l w (hx:fP 6 YZ w w a n l) (hn:n<=100000) (hp:∀e∈l,e.t.p<4294967296/\e.b<4294967296):
  Calls prog 172 #[an a n c] w λe w'=>(∃ob,e=ar (.map (some ob))/\w<=ob/\dH w' ob (X0 (wE l) l))/\Below w w w':=by
 obtain⟨HX,Fj,HP⟩:=cp hx hx.len hp;have gm:=Ez;have hcp:=fU;have UX:=@run_makeMap prog;obtain⟨HM0,gX⟩:=cn (nO.made (P:=prog) (k:=3) (kv:=blV) (vv:=blV) w) ((aE w w).alloc av (.map #[] 0));clear hx hp
 go_in
 go_upto_region 2 with fail;generalize ku:w.alloc (.map #[] 0)=w1 at*;obtain⟨mb,WM⟩:=aW w.heap.size;have HMb:=ag WM;rw[<-WM] at HM0⊢;clear ku WM;go_wp2_with fail
 go_loopw [5,14] (λ_ i wr=>∃j:Nat,j<=n/\i=O aa j/\Jk wr mb (wE (l.take j))/\Below w w wr) (λ_ i _=>n-(intOf i).toNat)
 case atStart=>exact⟨0,ae,rfl,HM0,gX⟩
 case round=>
  obtain⟨j,hj,rfl,hm,hb⟩:=hrel;obtain⟨HB,HM⟩:=cn hb hm;clear hb hm HM0 gX;by_cases aT:j<n
  .obtain⟨x,Ye,b,o,rfl,gB,c0,c1,c2,c3,c4,c5⟩:=QI (HX.below HB) aT;obtain⟨vJ,Bh⟩:=dq.1 Ye;have hst:wE (l.take (j+1))=Ew (wE (l.take j)) x:=by rw[<-Bh];exact qU Ew (λ_=>0) l vJ
   obtain⟨jI,HXp⟩:=cn hst (HP.o x (Bh▸cS vJ)).2;have hle:wE (l.take j) x.b<=100000:=by have h1:=ah5 (l.take j) x.b;rw[cI] at h1;omega
   have hj0:(0:Int)<=(j:Int):=ae;have hj1:(j:Int)<(n:Int):=ae;clear hst Ye vJ Bh;generalize wE (l.take j)=f at*;have fM:=(aE wr wr).alloc av (.cells #[O aa x.t.k,O .u32 x.t.p,O .u64 x.t.s,O .u64 x.t.e,O aa x.b,O aa x.i] 249);obtain⟨df,JB,HZ⟩:=cp (HB.aA fM) (HM.on fM) (aF.new wr 249 #[O aa x.t.k,O .u32 x.t.p,O .u64 x.t.s,O .u64 x.t.e,O aa x.b,O aa x.i]);clear fM;go_upto_region 5 with fail;generalize wr.alloc (.cells #[O aa x.t.k,O .u32 x.t.p,O .u64 x.t.s,O .u64 x.t.e,O aa x.b,O aa x.i] 249)=w2 at*;generalize wr.heap.size=Z at*;clear c0 c1 c2 c3 c4 c5;have c4:=HZ.aj (i:=4) rfl;have PG:=Jk.look (p:=x.b) JB.o HXp.o;have hw:=bq ((f x.b:Int)+1) ⟨ae,ae⟩;obtain⟨m,hm⟩:=aW (f x.b+1);obtain⟨o4,bF,QB,hg4⟩:=Jk.put (p:=x.b) JB.o HXp.o m;have hf4:(λq=>if q=x.b then m else f q)=Ew f x:=by
    unfold Ew;rw[hm]
    funext q
    by_cases hq:q=x.b
    .rw[ev hq,ev hq,hq]
    .rw[eo hq,eo hq]
   rw[hf4,<-jI.o] at QB;rw[show((m:Nat):Int)=(f x.b:Int)+1 by omega] at bF;obtain⟨HM4,jM⟩:=cn QB (df.grown hg4 df.size (λq hq=>by have:=HMb.o;have:=Option.some.inj hq;omega));clear QB hg4 hf4 hm;go_wp2_with fail;go_roundw
   case rel=>exact⟨j+1,ae,by go_num,HM4,jM⟩
   case measure=>simp[intOf];omega
  .obtain rfl:j=n:=ae;rw[cL (by rw[Fj.o];exact bp _)] at HM;generalize hM:wE l=M at*;have HMe:=ag hM;have eQ:=(aE wr wr).alloc av (.map #[] 0);obtain⟨HMF,HBF,HOF,HOb,EO⟩:=ct (HM.on eQ) (HB.aA eQ) (dH.made wr) (show w.heap.size<=wr.heap.size from HB.size) (show mb≠wr.heap.size from λe=>by have h1:mb<wr.heap.size:=HM.lt;omega);clear hj aT HM HB hM eQ;go_upto_region 8 with fail;clear UX;generalize wr.alloc (.map #[] 0)=w5 at*;generalize wr.heap.size=ob at*;go_wp2_with fail
   go_loopw [8,9,10,28] (λ_ _ _ i wx=>∃q:Nat,q<=j/\i=O aa q/\Jk wx mb M/\dH wx ob (X0 M (l.take q))/\Below w w wx) (λ_ _ _ i _=>j-(intOf i).toNat)
   case atStart=>exact⟨0,ae,rfl,HMF,HOF,HBF⟩
   case round=>
    obtain⟨q,hq,rfl,hm,ho,hb⟩:=hrel;obtain⟨HB,HM,HO⟩:=cp hb hm ho;clear hb hm ho HMF HOF HBF;by_cases aT:q<j
    .obtain⟨x,Ye,b,o,rfl,gB,c0,c1,c2,c3,c4,c5⟩:=QI (HX.below HB) aT;obtain⟨vJ,Bh⟩:=dq.1 Ye;have hst:X0 M (l.take (q+1))=Ey M (X0 M (l.take q)) x:=by rw[<-Bh];exact qU (Ey M) [] l vJ
     obtain⟨jI,HXp,HXb⟩:=cp hst (HP.o x (Bh▸cS vJ)).1 (HP.o x (Bh▸cS vJ)).2;have HUb:=ag (λy (hy:y∈X0 M (l.take q))=>(show y.b<4294967296 from by
      rcases(X5 M (l.take q) [] List.nodup_nil).2.1 y hy with h|h
      .cases h
      .exact(HP.o y (List.mem_of_mem_take h)).2))
     have hj0:(0:Int)<=(q:Int):=ae;have hj1:(q:Int)<(j:Int):=ae;clear hst Ye vJ Bh;generalize X0 M (l.take q)=out at*;obtain⟨pb,pi,epl⟩:=rQ (aI out x.t.p);obtain⟨sf,hsf⟩:=Iu ((aI out x.t.p).isSome);have fM:=(aE wr wr).alloc av (.cells #[O aa x.t.k,O .u32 x.t.p,O .u64 x.t.s,O .u64 x.t.e,O aa x.b,O aa x.i] 249);obtain⟨df,JB,tJ,HZ⟩:=cr (HB.aA fM) (HM.on fM) (HO.on fM) (aF.new wr 249 #[O aa x.t.k,O .u32 x.t.p,O .u64 x.t.s,O .u64 x.t.e,O aa x.b,O aa x.i]);clear fM;go_upto_region 11 with fail;generalize wr.alloc (.cells #[O aa x.t.k,O .u32 x.t.p,O .u64 x.t.s,O .u64 x.t.e,O aa x.b,O aa x.i] 249)=w2 at*;generalize wr.heap.size=Z at*;clear c0 c1 c2 c3 c4 c5;have c1:=HZ.aj (i:=1) rfl;have PG:=dH.yL tJ.o HXp.o rfl epl hsf;have fM:=(aE w2 w2).alloc av (.cells #[O aa pb,O aa pi] 247);obtain⟨cO,Qk,tN,RH,HQ3⟩:=ct (df.aA fM) (JB.on fM) (tJ.on fM) (HZ.ah fM) (aF.new w2 247 #[O aa pb,O aa pi]);clear fM;go_upto_region 12 with fail;generalize w2.alloc (.cells #[O aa pb,O aa pi] 247)=w3 at*;generalize w2.heap.size=Z3 at*;clear c1 PG;have c1:=RH.aj (i:=1) rfl;have c4:=RH.aj (i:=4) rfl;have c5:=RH.aj (i:=5) rfl;have p0:=HQ3.aj (i:=0) rfl;obtain⟨o4,bF,FU,hg4⟩:=dH.put tN.o x HXp.o;rw[uP] at bF;have QB:Jk (setBlock w3 ob o4) mb M:=Qk.same (hg4.block mb Qk.lt (λe=>EO.o (Option.some.inj e)));obtain⟨HM4,x9,jM⟩:=cp QB FU (cO.grown hg4 cO.size (λq hq=>by have:=HOb.o;have:=Option.some.inj hq;omega));clear QB FU hg4;have hpk:pick M out x=match aI out x.t.p with
      |none=>true
      |some y=>decide (M y.b<M x.b):=rfl
     cases hgo:aI out x.t.p with
     |none=>
      rw[hgo] at hpk hsf;subst hsf;have hch:Ey M out x=dA out x:=ev hpk;rw[hch] at jI;clear hpk hch epl hgo;go_wp2_with fail;go_roundw
      case rel=>exact⟨q+1,ae,by go_num,HM4,by rw[jI.o];exact x9.o,jM⟩
      case measure=>simp[intOf];omega
     |some y=>
      have HYb:=ag (HUb.o y (dW hgo).1);rw[hgo] at hpk hsf epl;subst hsf;have hpb:y.b=pb/\y.i=pi:=by rw[show plO (some y)= .agg #[O aa y.b,O aa y.i] from rfl] at epl;simp at epl;omega
      have hpk:pick M out x=decide (M y.b<M x.b):=hpk;rw[hpb.1] at hpk HYb;have Qm:=Jk.look (p:=x.b) Qk.o HXb.o;have CV:=Jk.look (p:=pb) Qk.o HYb.o;clear hpb epl hgo;by_cases pM:M pb<M x.b
      .have hch:Ey M out x=dA out x:=ev (by rw[hpk];exact ez pM);rw[hch] at jI;clear hpk hch;go_wp2_with fail;go_roundw
       case rel=>exact⟨q+1,ae,by go_num,HM4,by rw[jI.o];exact x9.o,jM⟩
       case measure=>simp[intOf];omega
      .have hch:Ey M out x=out:=eo (by rw[hpk,ey pM];decide);rw[hch] at jI;clear hpk hch;go_wp2_with fail;go_roundw
       case rel=>exact⟨q+1,ae,by go_num,Qk,by rw[jI.o];exact tN.o,cO⟩
       case measure=>simp[intOf];omega
    .obtain rfl:q=j:=ae;rw[cL (by rw[Fj.o];exact bp _)] at HO;go_wp2_with fail;go_ret;exact⟨⟨ob,rfl,HOb,by rw[HMe.o];exact HO.o⟩,HB⟩
def opA (C SE NO GO LA:Nat) (m:Value) (res:Int) (tv:Value) (sq ep:Nat):=#[.pointer (some ⟨C,0,none⟩),m,O aa res,O aa 0,tv,.map (some SE),.map (some NO),.map (some GO),O .u64 sq,O .u64 ep,an (LA,0) 16 16,aq false]
structure Oa where
 F:Nat
 SE:Nat
 NO:Nat
 GO:Nat
 LA:Nat
 R:Nat
structure Op B S (w:World) C BL ps bl (o:Oa) res tv tx sq ep se W:Prop where
 hc:eu 16 B S W C BL ps bl
 hF:aF W o.F 225 (opA C o.SE o.NO o.GO o.LA (.pointer none) res tv sq ep)
 hS:dH W o.SE se
 hN:dH W o.NO []
 hG:dH W o.GO []
 hL:Own pW 4 W w (an (o.LA,0) 16 16) (bt 16 false)
 hR:Own pW 4 W w (an (o.R,0) 16 16) (pz bl 16)
 hT:TxA W tv tx
 hk:Kq S w W
 nd:[o.F,o.SE,o.NO,o.GO,o.LA].Nodup
 nw:∀q,q∈[o.F,o.SE,o.NO,o.GO,o.LA]->w<=q
 nt:∀q,tv.ownBlock=some q->w<=q/\q∉[o.F,o.SE,o.NO,o.GO,o.LA]
 lS:∀q,S q->q<w
 nR:o.R∉[o.F,o.SE,o.NO,o.GO,o.LA]/\w<=o.R/\tv.ownBlock≠some o.R
section
variable {B C BL:Nat} {S T:Nat->Prop} {w W W':World} {ps:Nat->Nat} {bl:Nat->Pb} {o:Oa} {res:Int} {tv:Value} {tx:List UInt8} {sq ep:Nat} {se:List En}
theorem Op.kq (h:Op B S w C BL ps bl o res tv tx sq ep se W) (hc:eu 16 B S W' C BL ps bl) (hk:Kq T W W') (hT:∀q,T q->(S q\/(w<=q/\q∉[o.F,o.SE,o.NO,o.GO,o.LA]/\tv.ownBlock≠some q/\q≠o.R))):Op B S w C BL ps bl o res tv tx sq ep se W':=by
 have hn:∀q,q∈[o.F,o.SE,o.NO,o.GO,o.LA]->¬T q:=λq hq ht=>by
  rcases hT q ht with e|⟨_,e,_⟩
  .have:=h.lS q e;have:=h.nw q hq;omega
  .exact e hq
 have hb:∀q,q<W.heap.size->q∈[o.F,o.SE,o.NO,o.GO,o.LA]->W'.heap[q]?=W.heap[q]?:=λq hl hq=>hk.block q hl (hn q hq);refine⟨hc,h.hF.kq hk (hn _ au),h.hS.same (hb _ h.hS.lt au),h.hN.same (hb _ h.hN.lt au),h.hG.same (hb _ h.hG.lt au),h.hL.kq hk (λq hq=>by obtain rfl:=dP _ _ _ _ hq;exact hn _ au),h.hR.kq hk (λq hq ht=>?_),h.hT.kq hk (λq hq ht=>?_),h.hk.aA hk (λq hq=>?_),h.nd,h.nw,h.nt,h.lS,h.nR⟩
 .obtain rfl:=dP _ _ _ _ hq;rcases hT _ ht with e|⟨_,_,_,e⟩
  .have:=h.lS _ e;have:=h.nR.2.1;omega
  .exact e rfl
 .rcases hT q ht with e|⟨_,_,e,_⟩
  .have:=h.lS q e;have:=(h.nt q hq).1;omega
  .exact e hq
 grind
theorem Op.on (h:Op B S w C BL ps bl o res tv tx sq ep se W) (hb:Below W W W'):Op B S w C BL ps bl o res tv tx sq ep se W':=h.kq (T:=λ_=>False) (h.hc.on hb) (Kq.of hb) λ_ e=>e.elim
theorem Op.read (h:Op B S w C BL ps bl o res tv tx sq ep se W) (hc:eu 16 B S W' C BL ps bl) (hk:Kq (λq=>q=C) W W'):Op B S w C BL ps bl o res tv tx sq ep se W':=h.kq hc hk λ_ e=> .inl (e▸h.hc.hS _ (.inl rfl))
theorem Op.set {res' tv' tx' sq' ep'} (h:Op B S w C BL ps bl o res tv tx sq ep se W) i u (hA:(opA C o.SE o.NO o.GO o.LA (.pointer none) res tv sq ep).setIfInBounds i u=opA C o.SE o.NO o.GO o.LA (.pointer none) res' tv' sq' ep') (hT:(tv'=tv/\tx'=tx)\/(TxA W tv' tx'/\∀q,tv'.ownBlock=some q->w<=q/\q∉[o.F,o.SE,o.NO,o.GO,o.LA]/\q≠o.R)):
  Op B S w C BL ps bl o res' tv' tx' sq' ep' se (W.setCell (o.F,i) u):=by
 have hq:Kq (λq=>q=o.F) W (W.setCell (o.F,i) u):=Kq.one ⟨_,_,none⟩ _;have nd:=h.nd;simp only[cR,bS,cY,or_false,not_or] at nd;obtain⟨⟨n1,n2,n3,n4⟩,_⟩:=nd;have di:∀q,q≠o.F->(W.setCell (aw o.F i) u).heap[q]?=W.heap[q]?:=λq hq=>heap_setCell_other _ _ _ _ (by simpa using hq);have hw:=h.nw o.F au;have hF:=h.hF.set i u;rw[hA] at hF;have hnt:∀q,tv'.ownBlock=some q->w.heap.size<=q/\q∉[o.F,o.SE,o.NO,o.GO,o.LA]:=by
  rcases hT with⟨e,_⟩|⟨_,e⟩
  .rw[e];exact h.nt
  grind
 have hnR:o.R∉[o.F,o.SE,o.NO,o.GO,o.LA]/\w.heap.size<=o.R/\tv'.ownBlock≠some o.R:=by
  refine⟨h.nR.1,h.nR.2.1,?_⟩;rcases hT with⟨e,_⟩|⟨_,e⟩
  .rw[e];exact h.nR.2.2
  grind
 have hT2:TxA W tv' tx':=by
  rcases hT with⟨e1,e2⟩|⟨e,_⟩
  .rw[e1,e2];exact h.hT
  .exact e
 refine⟨h.hc.kq hq (λq hs e=>?_),hF,h.hS.same (di _ (Ne.symm n1)),h.hN.same (di _ (Ne.symm n2)),h.hG.same (di _ (Ne.symm n3)),h.hL.kq hq (λq hq=>by obtain rfl:=dP _ _ _ _ hq;exact Ne.symm n4),h.hR.kq hq (λq hq e=>?_),hT2.kq hq (λq hq e=>?_),h.hk.setCell (.inr hw) _,h.nd,h.nw,hnt,h.lS,hnR⟩
 .have:=h.lS q hs;have e:q=o.F:=e;omega
 .obtain rfl:=dP _ _ _ _ hq;grind
 grind
theorem Op.EE (h:Op B S w C BL ps bl o res tv tx sq ep se W) {i v} (hv:(opA C o.SE o.NO o.GO o.LA (.pointer none) res tv sq ep)[i]?=some v):W.cell? ⟨o.F,i,none⟩=some v:=h.hF.aj hv
theorem Jn (h:Op B S w C BL ps bl o 2 tv tx sq ep se W):
  Calls prog 113 #[o.F] W λe W'=>e=ar (O aa 102)/\Below W W W':=by
 obtain⟨HH,HU,HD⟩:=cp h (dQ h.hc) (λW:World=>show Calls prog 164 #[.agg #[O aa 16,O aa 8,O aa 64],O aa 2,O aa 0] W λe w'=>e=ar (O aa 13)/\Below W W w' from jP (w:=W) (NB:=16) aB);have c0:=h.EE (i:=0) rfl;have gm:=ry;clear h
 go_in
 go_wp2_with fail;go_call HU as e w1 ⟨rfl,hb⟩;obtain⟨bV,HK⟩:=cn (hb.alloc hb.size (.cells #[O aa 16,O aa 8,O aa 64] 60)) (aF.new w1 60 #[O aa 16,O aa 8,O aa 64]);clear hb c0;unfold uI;go_upto_region 4 with fail;generalize w1.alloc (.cells #[O aa 16,O aa 8,O aa 64] 60)=w2 at*;generalize w1.heap.size=Q at*;obtain⟨gZ,HHo,HKo⟩:=cp (show Below w2 w2 w2.drew from ak w2) (λ(W':World) (hW:Below w2 w2 W')=>(HH.on bV).on hW) (λ(W':World) (hW:Below w2 w2 W')=>aF.ah HK hW);refine iE (λW'=>Below w2 w2 W') gZ.o (λaY=>?_);refine jE 0 (.agg #[O aa 16,O aa 8,O aa 64]) rfl (λW aK=>by have y0:=aF.aj (i:=0) (HKo.o W aK) rfl;have y1:=aF.aj (i:=1) (HKo.o W aK) rfl;have y2:=aF.aj (i:=2) (HKo.o W aK) rfl;go_simp) ?_;refine dw 1 o.F 0 ?_;refine aS 2 o.F 0 ?_;refine aS 3 o.F 2 ?_;refine jV 4 2 (λW aK=>(HHo.o W aK).EE (i:=2) (v:=O aa 2) rfl) ?_;refine dw 5 o.F 0 ?_;refine aS 6 o.F 0 ?_;refine aS 7 o.F 3 ?_;refine jV 8 0 (λW aK=>(HHo.o W aK).EE (i:=3) (v:=O aa 0) rfl) ?_;refine aS 10 Q 1 ?_;refine jV 11 8 (λW aK=>aF.aj (i:=1) (HKo.o W aK) rfl) ?_;refine bY 9 (λK' hK=>?_);go_simp;go_call(HD.o _) as e w3 ⟨rfl,bJ⟩;have dh:=aY.aA bJ;clear bJ;refine hK.out _ _ dh (λfE=>?_)
 refine jE 12 (O aa 104) rfl (λ_ aK=>by(have i1:IntKind.i64.wrap 104=104:=by decide);go_simp) ?_;refine jE 13 (O aa 102) rfl (λ_ aK=>by(have i1:IntKind.i64.wrap 102=102:=by decide);go_simp) ?_;refine dI 14 102 ?_;refine eH ?_;have cO:=ag (bV.aA fE);clear aY dh fE;go_wp2;go_ret;exact⟨rfl,cO⟩
end
theorem aev a c xs w (hx:Bytes w w a 96 xs) (hc:96<=c) (hE:Tg.fZ xs=0):
  Calls prog 224 #[an a 96 c] w (Rdw xs w):=by
 refine Cm a 64 c xs w hx hc aB ?_
 cases hf:Tg.full xs with
 |false=>rfl
 |true=>
  have:=(ED (xs:=xs) (m:=64) hx.len aB hf).2.2;grind
theorem Ur {w B a tl} (h:Bytes w B a 64 (ig tl)):∃b o,a=some ⟨b,o,none⟩/\b<B/\w.cell? (b,o)=some (O .u8 2)/\w.cell? (b,o+1)=some (O .u8 0)/\w.cell? (b,o+2)=some (O .u8 0)/\w.cell? (b,o+3)=some (O .u8 0)/\w.cell? (b,o+4)=some (O .u8 0)/\w.cell? (b,o+5)=some (O .u8 0)/\w.cell? (b,o+6)=some (O .u8 0)/\w.cell? (b,o+7)=some (O .u8 0):=by obtain⟨h1,h2,h3⟩:=h;obtain⟨b,o,ha,hb,hc⟩:=h3 aB;have YX:=hc 0 (by rw[h1];decide);exact⟨b,o,ha,hb,YX,hc 1 (by rw[h1];decide),hc 2 (by rw[h1];decide),hc 3 (by rw[h1];decide),hc 4 (by rw[h1];decide),hc 5 (by rw[h1];decide),hc 6 (by rw[h1];decide),hc 7 (by rw[h1];decide)⟩
section
variable {B C BL:Nat} {S T:Nat->Prop} {w W W':World} {ps:Nat->Nat} {bl:Nat->Pb} {o:Oa} {tv:Value} {tx:List UInt8} {sq ep:Nat} {se:List En}
def Hdd (B:Nat) (S:Nat->Prop) (w:World) (C BL:Nat) (ps:Nat->Nat) (bl:Nat->Pb) (o:Oa) (tl:List UInt8) (sq ep:Nat) (se:List En) (e:Ending) W':=e=ar (aq true)/\∃tv,Op B S w C BL ps bl o 2 tv tl sq ep se W'
theorem Un (h:Op B S w C BL ps bl o 0 (an none 0 0) [] sq ep se W) (hg:Gd 16 bl) e0 (h0:aI se 0=some e0) (hb:e0.b<16) (hi:e0.i<8) (his:Is bl e0) tl (hd:e0.d=ig tl):
  Calls prog 174 #[o.F] W (Hdd B S w C BL ps bl o tl sq ep se):=by
 obtain⟨L,hL,_,hLd⟩:=his;obtain⟨hE,hLl,_,_,_,_,hP⟩:=hg.ok e0.b e0.i L hb hi hL;rw[<-hLd] at hP;rw[hd] at hLd hP;obtain⟨HH,sU⟩:=cn h (λ(W:World) (hW:eu 16 B S W C BL ps bl)=>wV hW hb hi);rw[hL] at sU;obtain⟨HE,UJ,HLd,HGd,HP⟩:=ct hE hLl hLd.symm hg hP;have PG:(Instr.lookup 222 (.map (some o.SE)) (O .u32 0) false).run prog W= .ok (.agg #[O aa e0.b,O aa e0.i]) W:=by have:=h.hS.look (p:=0) aB false;rw[h0] at this;exact this
 have f5:=h.EE (i:=5) (v:= .map (some o.SE)) rfl;have gm:=fU;have Xv:=Nj;have bJ:=(aE W W).alloc av (.cells #[O aa e0.b,O aa e0.i] 247);obtain⟨H2,HZ,HWs,HCl⟩:=cr (h.on bJ) (aF.new W 247 #[O aa e0.b,O aa e0.i]) h.hk.size (h.hc.hi C (h.hc.hS C (.inl rfl)));clear h hg hL hE hLl hLd hP h0 hb hi hd bJ;generalize e0.b=xb at*;generalize e0.i=xi at*
 go_in
 go_upto_region 2 with fail;generalize W.alloc (.cells #[O aa xb,O aa xi] 247)=w3 at*;obtain⟨Z,hZ⟩:=aW W.heap.size;rw[<-hZ] at HZ⊢;have HZe:=ag hZ;clear hZ PG f5;obtain⟨gZ,H3⟩:=cn (show w3.drew.cell? (o.F,0)=some (.pointer (C,0))/\aF w3.drew Z 247 #[O aa xb,O aa xi] from⟨(H2.on (ak w3)).EE (i:=0) rfl,HZ.ah (ak w3)⟩) (H2.on (ak w3));refine iE (λW'=>W'.cell? (o.F,0)=some (.pointer (C,0))/\aF W' Z 247 #[O aa xb,O aa xi]) gZ.o (λaY=>?_);generalize w3.drew=W4 at*;clear gZ;refine dw 0 o.F 0 ?_;refine aS 1 o.F 0 ?_;refine aS 2 o.F 0 ?_;refine jE 3 C rfl (λ_ aK=>by obtain⟨y8,_⟩:=aK;go_simp) ?_;refine aS 4 Z 0 ?_;refine jV 5 (xb:Int) (λ_ aK=>aK.2.aj (i:=0) rfl) ?_;refine aS 6 Z 1 ?_;refine jV 7 (xi:Int) (λ_ aK=>aK.2.aj (i:=1) rfl) ?_;refine bY 8 (λK' hK=>?_);go_simp;go_call(sU.o W4 H3.hc) as e w4 ⟨⟨a4,c4,rfl,U4,FU⟩,QB,oQ⟩;have H4:=ag (H3.read QB oQ);have qX:w4.cell? (o.F,0)=some (.pointer (C,0))/\aF w4 Z 247 #[O aa xb,O aa xi]:=⟨H4.EE (i:=0) rfl,aY.2.kq oQ (λe=>by have e:Z=C:=e;have:=HZe.o;have:=HCl.o;omega)⟩
 obtain⟨x9,N8⟩:=cn FU U4;clear QB oQ FU U4;refine hK.out _ _ qX (λnZ=>?_)
 refine eX 9 (ao #[an a4 96 c4,O aa 0]) ?_;refine eX 10 (an a4 96 c4) ?_;refine iR 11 0 ?_;refine dG 12 (an a4 96 c4) ?_;refine dI 13 0 ?_;refine eH ?_;clear aY qX nZ;go_wp2_with fail;go_call(aev a4 c4 _ w4 (x9.arr (by rw[show(Vt (some L)).length=96 from UJ.o];decide)) N8 HE) as e w5 ⟨a5,n5,c5,rfl,hx5,Y7,eQ,NP⟩;rw[show Tg.fZ (Vt (some L))=0 from HE.o];rw[show Tg.jS (Vt (some L))=ig tl from HLd.o] at hx5;obtain rfl:64=n5:=by rw[<-HP.o];exact hx5.len
 obtain⟨⟨tk,tp,ts,te⟩,htt⟩:∃t,t=Tg.fC (Vt (some L)):=⟨_,rfl⟩
 rw[<-htt];clear htt;have fJ:=(aE w5 w5).alloc av (.cells #[O aa tk,O .u32 tp,O .u64 ts,O .u64 te] 67);obtain⟨Y9,H6⟩:=cn (hx5.on fJ) ((H4.on eQ).on fJ);obtain⟨b5,o5,rfl,gB,x0,x1,x2,x3,x4,x5,x6,x7⟩:=Ur Y9.o;obtain⟨UL,zK⟩:=cn (NP.1 b5 o5 rfl) H4.hF.lt;have hq:∀q,q∈[o.F,o.SE,o.NO,o.GO,o.LA]->q<w4.heap.size:=λq hq=>by
  have h4:=H4.o;simp only[bS,cY,or_false] at hq;rcases hq with rfl|rfl|rfl|rfl|rfl
  .exact h4.hF.lt
  .exact h4.hS.lt
  .exact h4.hN.lt
  .exact h4.hG.lt
  .exact(h4.hL.aN _ rfl).2
 obtain⟨HQ,HC5⟩:=cn (show w.heap.size<=b5/\b5∉[o.F,o.SE,o.NO,o.GO,o.LA]/\b5≠o.R from⟨by have:=UL.o;have:=H4.hk.size;omega,λe=>by have:=hq b5 e;have:=UL.o;omega,λe=>by have:=(H4.hR.aN o.R rfl).2;have:=UL.o;omega⟩) Y7;unfold tagV;clear hx5 Y7 eQ NP fJ gB hq;go_upto_region 6 with fail;generalize w5.alloc (.cells #[O aa tk,O .u32 tp,O .u64 ts,O .u64 te] 67)=w6 at*;obtain⟨HX,HY⟩:=cn (show w6.cell? (b5,o5)=some (O .u8 2)/\w6.cell? (b5,o5+1)=some (O .u8 0)/\w6.cell? (b5,o5+2)=some (O .u8 0)/\w6.cell? (b5,o5+3)=some (O .u8 0) from⟨x0,x1,x2,x3⟩) (show w6.cell? (b5,o5+4)=some (O .u8 0)/\w6.cell? (b5,o5+5)=some (O .u8 0)/\w6.cell? (b5,o5+6)=some (O .u8 0)/\w6.cell? (b5,o5+7)=some (O .u8 0) from⟨x4,x5,x6,x7⟩);clear x0 x1 x2 x3 x4 x5 x6 x7;obtain⟨EO,H6d⟩:=cn (show b5≠o.F from λe=>HQ.o.2.1 (by rw[e];simp)) (H6.on (ak w6));have iw2:IntKind.i64.wrap 2=2:=aB;have iw0:IntKind.i64.wrap 0=0:=aB;have ib2:bits BinOp.or IntKind.i64 2 0=2:=aB;have ib0:bits BinOp.or IntKind.i64 0 0=0:=aB;have ib8:bits BinOp.or IntKind.u8 0 0=0:=aB;refine iE (λW'=>W'.cell? (b5,o5)=some (O .u8 2)/\W'.cell? (b5,o5+1)=some (O .u8 0)/\W'.cell? (b5,o5+2)=some (O .u8 0)/\W'.cell? (b5,o5+3)=some (O .u8 0)) HX.o (λaY=>?_);obtain⟨HYd,HX7⟩:=cn (show w6.drew.cell? (b5,o5+4)=some (O .u8 0)/\w6.drew.cell? (b5,o5+5)=some (O .u8 0)/\w6.drew.cell? (b5,o5+6)=some (O .u8 0)/\w6.drew.cell? (b5,o5+7)=some (O .u8 0) from HY.o) (show Bytes w6.drew w6.drew (b5,o5) 64 (ig tl) from Y9.on (ak w6));generalize w6.drew=w7 at*;refine dw 0 o.F 0 ?_;refine dw 1 o.F 0 ?_;refine dG 2 (an (b5,o5) 64 c5) ?_;refine aS 3 b5 o5 ?_;refine jE 4 (O .u8 2) rfl (λ_ aK=>by obtain⟨y1,y2,y3,y4⟩:=aK;go_simp) ?_;refine iR 5 2 ?_;refine dG 6 (an (b5,o5) 64 c5) ?_;refine aS 7 b5 (o5+1) ?_;refine jE 8 (O .u8 0) rfl (λ_ aK=>by obtain⟨y1,y2,y3,y4⟩:=aK;go_simp) ?_;refine iR 9 0 ?_;refine iR 10 0 ?_;refine iR 11 2 ?_;refine dG 12 (an (b5,o5) 64 c5) ?_;refine aS 13 b5 (o5+2) ?_;refine jE 14 (O .u8 0) rfl (λ_ aK=>by obtain⟨y1,y2,y3,y4⟩:=aK;go_simp) ?_;refine iR 15 0 ?_;refine dG 16 (an (b5,o5) 64 c5) ?_;refine aS 17 b5 (o5+3) ?_;refine jE 18 (O .u8 0) rfl (λ_ aK=>by obtain⟨y1,y2,y3,y4⟩:=aK;go_simp) ?_;refine iR 19 0 ?_;refine iR 20 0 ?_;refine iR 21 0 ?_;refine aS 22 o.F 0 ?_;refine aS 23 o.F 2 ?_;have z2:=H6d.EE (i:=2) (v:=O aa 0) rfl;have y2:=H6d.hF.frozen 2;refine bY 24 (λK' hK=>?_);go_simp;have di:=EO.o;have dh:(w7.setCell (o.F,2) (O aa 2)).cell? (b5,o5)=some (O .u8 2)/\(w7.setCell (o.F,2) (O aa 2)).cell? (b5,o5+1)=some (O .u8 0)/\(w7.setCell (o.F,2) (O aa 2)).cell? (b5,o5+2)=some (O .u8 0)/\(w7.setCell (o.F,2) (O aa 2)).cell? (b5,o5+3)=some (O .u8 0):=
  ⟨(cK _ _ _ _ (by simpa using Ne.symm di)).trans aY.1,(cK _ _ _ _ (by simpa using Ne.symm di)).trans aY.2.1,(cK _ _ _ _ (by simpa using Ne.symm di)).trans aY.2.2.1,(cK _ _ _ _ (by simpa using Ne.symm di)).trans aY.2.2.2⟩
 have hs8:=H6d.set (res':=2) (tv':=an none 0 0) (tx':=[]) (sq':=sq) (ep':=ep) 2 (O aa 2) rfl (.inl ⟨rfl,rfl⟩);obtain⟨Qb,H8⟩:=cn (Kq.one (w:=w7) (o.F,2) (O aa 2)) hs8;clear z2 y2 hs8 di;refine hK.out _ _ dh (λfE=>?_)
 generalize w7.setCell (o.F,2) (O aa 2)=w8 at*;refine aS 25 o.F 0 ?_;refine aS 26 o.F 3 ?_;have z3:=H8.EE (i:=3) (v:=O aa 0) rfl;have y3:=H8.hF.frozen 3;refine bY 27 (λK' hK=>?_);go_simp;have di:=EO.o;have iZ:(w8.setCell (o.F,3) (O aa 0)).cell? (b5,o5)=some (O .u8 2)/\(w8.setCell (o.F,3) (O aa 0)).cell? (b5,o5+1)=some (O .u8 0)/\(w8.setCell (o.F,3) (O aa 0)).cell? (b5,o5+2)=some (O .u8 0)/\(w8.setCell (o.F,3) (O aa 0)).cell? (b5,o5+3)=some (O .u8 0):=
  ⟨(cK _ _ _ _ (by simpa using Ne.symm di)).trans dh.1,(cK _ _ _ _ (by simpa using Ne.symm di)).trans dh.2.1,(cK _ _ _ _ (by simpa using Ne.symm di)).trans dh.2.2.1,(cK _ _ _ _ (by simpa using Ne.symm di)).trans dh.2.2.2⟩
 have hs9:=H8.set (res':=2) (tv':=an none 0 0) (tx':=[]) (sq':=sq) (ep':=ep) 3 (O aa 0) rfl (.inl ⟨rfl,rfl⟩);obtain⟨GU,H9⟩:=cn (Qb.trans (Kq.one (w:=w8) (o.F,3) (O aa 0))) hs9;clear z3 y3 hs9 di;refine hK.out _ _ iZ (λqX=>?_)
 generalize w8.setCell (o.F,3) (O aa 0)=w9 at*;refine eH ?_;clear aY dh fE iZ qX;have HX9:=ag ((HX7.kq av GU (λb q e=>by
  injection e with e
  injection e with e
  exact λe2=>EO.o (e.trans e2))).mono GU.size)
 have HY9:=ag (show w9.cell? (b5,o5+4)=some (O .u8 0)/\w9.cell? (b5,o5+5)=some (O .u8 0)/\w9.cell? (b5,o5+6)=some (O .u8 0)/\w9.cell? (b5,o5+7)=some (O .u8 0) by
  obtain⟨b,q,e,_,_,_,_,_,y4,y5,y6,y7⟩:=Ur HX9.o;injection e with e
  injection e with e1 e2
  subst e1 e2;exact⟨y4,y5,y6,y7⟩)
 clear HX7 HY HYd HX Y9;have axE:=HC5.o;have hcut:∀u,(Instr.slice 23 (an (b5,o5) 64 c5) (some (O aa 8)) none none).run prog u= .ok (an (iQ (b5,o5) c5 8) 56 (c5-8)) u:=λu=>kE (b5,o5) 64 c5 8 ae u;obtain⟨ca,hca⟩:=aW (iQ (b5,o5) c5 8);obtain⟨c8,YV⟩:=aW (c5-8);rw[<-hca,<-YV] at hcut;have hob:∀q,(Value.slice ca 56 c8).ownBlock=some q->q=b5:=λq hq=>by
  rw[hca,iQ,eo ae] at hq
  simpa[Value.ownBlock,Addr.add,eq_comm] using hq
 have htx:TxA w9 (an ca 56 c8) tl:=by
  refine .inr ⟨⟨_,_,_,rfl,?_⟩,λq hq=>?_⟩
  .rw[hca];exact HX9.drop (l:=8) aB axE
  .rw[hob q hq];have h1:=UL.o;have h2:=GU.size;obtain⟨b,q,e,hl,_⟩:=Ur HX9.o;injection e with e
   injection e with e1 e2
   omega
 have z4:=H9.EE (i:=4) (v:=an none 0 0) rfl;have y4:=H9.hF.frozen 4;have alU:=H9.set (res':=2) (tv':=an ca 56 c8) (tx':=tl) (sq':=sq) (ep':=ep) 4 (an ca 56 c8) rfl (.inr ⟨htx,λq hq=>by rw[hob q hq];exact HQ.o⟩);obtain⟨H10,axF⟩:=cn alU (show(w9.setCell (o.F,4) (an ca 56 c8)).cell? (b5,o5+4)=some (O .u8 0)/\(w9.setCell (o.F,4) (an ca 56 c8)).cell? (b5,o5+5)=some (O .u8 0)/\(w9.setCell (o.F,4) (an ca 56 c8)).cell? (b5,o5+6)=some (O .u8 0)/\(w9.setCell (o.F,4) (an ca 56 c8)).cell? (b5,o5+7)=some (O .u8 0) from
  ⟨(cK _ _ _ _ (by simpa using Ne.symm EO)).trans HY9.o.1,(cK _ _ _ _ (by simpa using Ne.symm EO)).trans HY9.o.2.1,(cK _ _ _ _ (by simpa using Ne.symm EO)).trans HY9.o.2.2.1,(cK _ _ _ _ (by simpa using Ne.symm EO)).trans HY9.o.2.2.2⟩)
 clear hca YV hob htx alU;go_upto_region 8 with fail;generalize w9.setCell (o.F,4) (an ca 56 c8)=E5 at*;clear z4 y4 hcut;obtain⟨HYe,H11⟩:=cn (show E5.drew.cell? (b5,o5+4)=some (O .u8 0)/\E5.drew.cell? (b5,o5+5)=some (O .u8 0)/\E5.drew.cell? (b5,o5+6)=some (O .u8 0)/\E5.drew.cell? (b5,o5+7)=some (O .u8 0) from axF.o) (H10.on (ak E5));refine iE (λW'=>W'.cell? (b5,o5+4)=some (O .u8 0)/\W'.cell? (b5,o5+5)=some (O .u8 0)/\W'.cell? (b5,o5+6)=some (O .u8 0)/\W'.cell? (b5,o5+7)=some (O .u8 0)) HYe.o (λaY=>?_);generalize E5.drew=sZ at*;refine dG 0 (an (b5,o5) 64 c5) ?_;refine aS 1 b5 (o5+4) ?_;refine jE 2 (O .u8 0) rfl (λ_ aK=>by obtain⟨y1,y2,y3,y4⟩:=aK;go_simp) ?_;refine dG 3 (an (b5,o5) 64 c5) ?_;refine aS 4 b5 (o5+5) ?_;refine jE 5 (O .u8 0) rfl (λ_ aK=>by obtain⟨y1,y2,y3,y4⟩:=aK;go_simp) ?_;refine eX 6 (O .u8 0) ?_;refine dG 7 (an (b5,o5) 64 c5) ?_;refine aS 8 b5 (o5+6) ?_;refine jE 9 (O .u8 0) rfl (λ_ aK=>by obtain⟨y1,y2,y3,y4⟩:=aK;go_simp) ?_;refine eX 10 (O .u8 0) ?_;refine dG 11 (an (b5,o5) 64 c5) ?_;refine aS 12 b5 (o5+7) ?_;refine jE 13 (O .u8 0) rfl (λ_ aK=>by obtain⟨y1,y2,y3,y4⟩:=aK;go_simp) ?_;refine eX 14 (O .u8 0) ?_;refine eX 15 (aq true) ?_;refine dG 16 (aq true) ?_;refine eH ?_;clear aY;go_upto_region 9 with fail;clear axF HYe H10 axE iw2 iw0 ib2 ib0 ib8;obtain⟨H12,HDa,HBb,HGo⟩:=cr (H11.on (ak sZ)) (λW:World=>show Calls prog 164 #[.agg #[O aa 16,O aa 8,O aa 64],O aa 2,O aa 0] W λe w'=>e=ar (O aa 13)/\Below W W w' from jP (w:=W) (NB:=16) aB) (λ(W:World) (hW:eu 16 B S W C BL ps bl)=>pX hW aB HGd.bad) (λ(W:World) (hW:eu 16 B S W C BL ps bl)=>show Calls prog 35 #[C] W λe w'=>e=ar (.agg #[O aa 16,O aa 8,O aa 64])/\Below W W w' from dQ hW);refine iE (λW'=>Op B S w C BL ps bl o 2 (an ca 56 c8) tl sq ep se W') H12.o (λaY=>?_);generalize sZ.drew=UF at*;refine dG 0 (aq true) ?_;refine dG 1 (aq true) ?_;refine dw 2 o.F 0 ?_;refine aS 3 o.F 0 ?_;refine aS 4 o.F 2 ?_;refine jV 5 2 (λ_ aK=>aK.EE (i:=2) (v:=O aa 2) rfl) ?_;refine eX 6 (aq true) ?_;refine dG 7 (aq true) ?_;refine dG 8 (aq true) ?_;refine dw 9 o.F 0 ?_;refine aS 10 o.F 0 ?_;refine aS 11 o.F 3 ?_;refine jV 12 0 (λ_ aK=>aK.EE (i:=3) (v:=O aa 0) rfl) ?_;refine dw 13 o.F 0 ?_;refine aS 14 o.F 0 ?_;refine aS 15 o.F 0 ?_;refine kS 16 C (λ_ aK=>aK.EE (i:=0) (v:= C) rfl) ?_;refine bY 17 (λK' hK=>?_);go_simp;go_call(HBb.o UF aY.hc) as e w13 ⟨rfl,afn⟩;have dh:=aY.on afn;clear afn;refine hK.out _ _ dh (λfE=>?_)
 refine eX 18 (aq true) ?_;refine dG 19 (aq true) ?_;refine dG 20 (aq true) ?_;refine dw 21 o.F 0 ?_;refine aS 22 o.F 0 ?_;refine aS 23 o.F 0 ?_;refine kS 24 C (λ_ aK=>aK.EE (i:=0) (v:= C) rfl) ?_;refine dw 26 o.F 0 ?_;refine aS 27 o.F 0 ?_;refine aS 28 o.F 2 ?_;refine jV 29 2 (λ_ aK=>aK.EE (i:=2) (v:=O aa 2) rfl) ?_;refine dw 30 o.F 0 ?_;refine aS 31 o.F 0 ?_;refine aS 32 o.F 3 ?_;refine jV 33 0 (λ_ aK=>aK.EE (i:=3) (v:=O aa 0) rfl) ?_;refine bY 25 (λK' hK=>?_);go_simp;go_call(HGo.o w13 dh.hc) as e w14 ⟨rfl,axG⟩;have iZ:=dh.on axG;clear axG;refine hK.out _ _ iZ (λqX=>?_)
 refine bY 34 (λK' hK=>?_);go_simp;go_call(HDa.o w14) as e w15 ⟨rfl,aen⟩;have nZ:=iZ.on aen;clear aen;refine hK.out _ _ nZ (λqy=>?_)
 refine eX 35 (aq true) ?_;refine dG 36 (aq true) ?_;refine dG 37 (aq true) ?_;refine eH ?_;have HF:=ag nZ;clear aY dh fE iZ qX nZ qy;go_wp2;go_ret;exact⟨rfl,_,HF⟩
end
theorem axH {P c Q T0 ds w} (h:∀T,T=T0->Code.wp P c Q ⟨T,ds⟩ w):Code.wp P c Q ⟨T0,ds⟩ w:=h T0 rfl
namespace Opn
def idl (se:List En) (pre:List (Nat×Bk)):=(pre.filter λx=>(se.filter λe=>e.b==x.1).length==0).length
def inB (d:List En) k:=(d.filter λe=>e.b==k).length
def qV d:=(cz 16).map (inB d)
theorem JS d:(qV d).length=16:=by simp[qV]
theorem amc:qV []=bt 16 0:=aB
theorem Yg d e k:inB (d++[e]) k=inB d k+if e.b=k then 1 else 0:=by unfold inB;rw[List.filter_append,bE];by_cases h:e.b=k<;>simp[h]
theorem Np d {k} hk:(qV d)[k]=inB d k:=by simp[qV]
theorem ah0 d e:qV (d++[e])=(qV d).set e.b (inB d e.b+1):=by
 apply List.ext_getElem
 .simp[qV]
 .intro i h1 h2;rw[List.getElem_set];rw[Np];by_cases h:e.b=i
  .rw[ev h,Yg,ev h,h]
  .rw[eo h,Yg,eo h,Np];rfl
theorem Yh {d d'} (h:d.Perm d') k:inB d k=inB d' k:=(h.filter _).length_eq
theorem Yi {d d'} (h:d.Perm d'):qV d=qV d':=by unfold qV;exact dp λk _=>Yh h k
theorem ah1 se pre x:idl se (pre++[x])=idl se pre+if inB se x.1=0 then 1 else 0:=by unfold idl;rw[List.filter_append,bE];show _+(List.filter (λx=>inB se x.1==0) [x]).length=_;grind
theorem arS se pre:idl se pre<=pre.length:=List.length_filter_le _ _
theorem amd se {pre x} (hx:x∈pre) (h:inB se x.1=0):0<idl se pre:=by refine List.length_pos_of_mem (a:=x) (List.mem_filter.2 ⟨hx,?_⟩);show(inB se x.1==0)=true;rw[h];rfl
theorem Yf d {k} (hk:k<16):(qV d).getD k 0=inB d k:=by rw[db,cX (by rw[JS];exact hk),Np];rfl
end Opn
structure MgI B S w C BL ps bl o tv tx sq ep se LV Q d W:Prop where
 op:Op B S w C BL ps bl o 2 tv tx sq ep se W
 lv:Own naV 3 W w (an (some ⟨LV,0,none⟩) 16 16) (qV d)
 q4:aF W Q 116 #[an (LV,0) 16 16]
 nl:LV∉[o.F,o.SE,o.NO,o.GO,o.LA]/\tv.ownBlock≠some LV/\o.R≠LV/\Q≠LV
 lQ:w<=Q
section
variable {B C BL:Nat} {S T:Nat->Prop} {w W W':World} {ps:Nat->Nat} {bl:Nat->Pb} {o:Oa} {tv:Value} {tx:List UInt8} {sq ep LV Q:Nat} {se d:List En}
theorem Op.lt (h:Op B S w C BL ps bl o 2 tv tx sq ep se W):∀q,q∈[o.F,o.SE,o.NO,o.GO,o.LA]->q<W:=λq hq=>by
 simp only[bS,cY,or_false] at hq;rcases hq with rfl|rfl|rfl|rfl|rfl
 .exact h.hF.lt
 .exact h.hS.lt
 .exact h.hN.lt
 .exact h.hG.lt
 .exact(h.hL.aN _ rfl).2
theorem MgI.on (h:MgI B S w C BL ps bl o tv tx sq ep se LV Q d W) (hb:Below W W W'):MgI B S w C BL ps bl o tv tx sq ep se LV Q d W':=
 ⟨h.op.on hb,h.lv.on hb,h.q4.ah hb,h.nl,h.lQ⟩
theorem MgI.new {r} (h:MgI B S w C BL ps bl o tv tx sq ep se LV Q d W) (hk:Kq (λq=>q=r) W W') (hr:∃W0,MgI B S w C BL ps bl o tv tx sq ep se LV Q [] W0/\W0<=r):MgI B S w C BL ps bl o tv tx sq ep se LV Q d W':=by
 obtain⟨W0,h0,hr⟩:=hr;have hw:=h0.op.hk.size;refine⟨h.op.kq (h.op.hc.kq hk λq hq e=>?_) hk λq e=> .inr ⟨?_,λhm=>?_,λhm=>?_,λhm=>?_⟩,h.lv.kq hk λq hq e=>?_,h.q4.kq hk λe=>?_,h.nl,h.lQ⟩
 .have:=h.op.lS q hq;have e:q=r:=e;omega
 .have e:q=r:=e;omega
 .have:=h0.op.lt q hm;have e:q=r:=e;omega
 .have:=h0.op.hT.lt q hm;have e:q=r:=e;omega
 .have:=(h0.op.hR.aN o.R rfl).2;have e:q=r:=e;omega
 .have:=(h0.lv.aN q hq).2;have e:q=r:=e;omega
 .have:=h0.q4.lt;have e:Q=r:=e;omega
theorem MgI.cnt {e} (h:MgI B S w C BL ps bl o tv tx sq ep se LV Q d W) (he:e.b<16):
  W.cell? (LV,e.b)=some (O aa (inB d e.b))/\W.frozen? (LV,e.b)=false/\MgI B S w C BL ps bl o tv tx sq ep se LV Q (d++[e]) (W.setCell (LV,e.b) (O aa ((inB d e.b+1:Nat)))):=by
 obtain⟨c1,c2⟩:=h.lv.dU (k:=e.b) (by rw[JS];exact he);rw[Np] at c1;have hL:=h.lv.set e.b (inB d e.b+1);rw[<-ah0 d e] at hL;have hg:=(h.lv.aN LV rfl).1;have hk:Kq (λq=>q=LV) W (W.setCell (LV,e.b) (O aa ((inB d e.b+1:Nat)))):=Kq.one ⟨_,_,none⟩ _;obtain⟨n1,n2,n3,n4⟩:=h.nl;refine⟨c1,c2,h.op.kq (h.op.hc.kq hk λq hq e=>?_) hk λq e=> .inr ⟨?_,λhm=>?_,λhm=>?_,λhm=>?_⟩,hL,h.q4.kq hk λe=>?_,h.nl,h.lQ⟩
 .have:=h.op.lS q hq;have e:q=LV:=e;omega
 .have e:q=LV:=e;omega
 .grind
 .grind
 .grind
 .exact n4 e
def Am (o:Oa) (g:Mg) (se:List En) (sq ep:Nat) (tv:Value) (tx:List UInt8):Fm:=⟨o.F,o.SE,o.NO,o.GO,o.LA,g,se,[],[],sq,ep,tv,tx,false⟩
theorem axI {M g} (h:Op B S w C BL ps bl o 2 tv tx sq ep se W) (hb:Below W W W') (hg:fF 16 B S W' g) (hM:W<=g.M) (UZ:W<=g.ML) (hC:g.C=C) (hr:g.res=2) (hd:g.bad=0) (he:g.M=M) (hSB:∀q,S q->B<=q/\q<w) (hB0:B<=w):
  W'.cell? (o.F,1)=some (.pointer none)/\W'.frozen? (o.F,1)=false/\oq 16 B S w (W'.setCell (o.F,1) M) (Am o g se sq ep tv tx):=by
 subst he;have hl:=h.lt;have hw:=h.hk.size;have hs:=hb.size;have h2:=h.on hb;have nd:=h.nd;have NP:=h.nw;simp only[cR,bS,cY,or_false,not_or] at nd;obtain⟨⟨n1,n2,n3,n4⟩,_⟩:=nd;have hq:Kq (λq=>q=o.F) W' (W'.setCell (o.F,1) g.M):=Kq.one ⟨_,_,none⟩ _;have di:∀q,q≠o.F->(W'.setCell (o.F,1) g.M).heap[q]?=W'.heap[q]?:=λq hq=>heap_setCell_other _ _ _ _ (by simpa using hq);have hFl:=hl o.F au;have hFw:=NP o.F au;have hF:=h2.hF.set 1 g.M;have hA:(opA C o.SE o.NO o.GO o.LA (.pointer none) 2 tv sq ep).setIfInBounds 1 g.M=Qp 16 (Am o g se sq ep tv tx):=by unfold Qp Am opA;simp[hC,hr,hd]
 rw[hA] at hF;have hMl:=hg.hi g.M (.inl rfl);have aLq:=hg.hi g.ML (.inr (.inl rfl));have hsm:∀q,Sm g S q->Up S w (W'.setCell (o.F,1) g.M) q:=λq hq=>by
  rcases hq with e|e|e
  .exact .inr ⟨ae,by rw[cT];omega⟩
  .exact .inr ⟨ae,by rw[cT];omega⟩
  .exact .inl e
 have hns:∀q,w.heap.size<=q->q<W.heap.size->¬Sm g S q:=λq h1 h2 hq=>by
  rcases hq with e|e|e
  .omega
  .omega
  grind
 refine⟨h2.hF.aj rfl,h2.hF.frozen 1,⟨⟨S,⟨hF,h2.hS.same (di _ (Ne.symm n1)),h2.hN.same (di _ (Ne.symm n2)),h2.hG.same (di _ (Ne.symm n3)),(h2.hL.kq hq (λq hq=>by obtain rfl:=dP _ _ _ _ hq;exact Ne.symm n4)).mono (bN _),h2.hT.kq hq (λq hq e=>(h.nt q hq).2 (by grind)),hg.kq hq (λq hs e=>?_),h.nd,λq hq=>(h.nt q hq).2,λq hq=>?_,λq hq=>?_⟩,λq hq=>?_,λq hq=>?_⟩,?_⟩⟩
 .grind
 .rcases hq with e|e|e|e|e|e
  .exact hns q (e▸NP _ (by simp[Am])) (e▸hl _ (by simp[Am]))
  .exact hns q (e▸NP _ (by simp[Am])) (e▸hl _ (by simp[Am]))
  .exact hns q (e▸NP _ (by simp[Am])) (e▸hl _ (by simp[Am]))
  .exact hns q (e▸NP _ (by simp[Am])) (e▸hl _ (by simp[Am]))
  .exact hns q (e▸NP _ (by simp[Am])) (e▸hl _ (by simp[Am]))
  .exact hns q (h.nt q e).1 (h.hT.lt q e)
 .have:w.heap.size<=q:=by
   rcases hq with e|e|e|e|e|e
   .exact e▸NP _ (by simp[Am])
   .exact e▸NP _ (by simp[Am])
   .exact e▸NP _ (by simp[Am])
   .exact e▸NP _ (by simp[Am])
   .exact e▸NP _ (by simp[Am])
   .exact(h.nt q e).1
  omega
 .rcases hq with hq|hq
  .have:w.heap.size<=q/\q<W.heap.size:=by
    rcases hq with e|e|e|e|e|e
    .exact⟨e▸NP _ (by simp[Am]),e▸hl _ (by simp[Am])⟩
    .exact⟨e▸NP _ (by simp[Am]),e▸hl _ (by simp[Am])⟩
    .exact⟨e▸NP _ (by simp[Am]),e▸hl _ (by simp[Am])⟩
    .exact⟨e▸NP _ (by simp[Am]),e▸hl _ (by simp[Am])⟩
    .exact⟨e▸NP _ (by simp[Am]),e▸hl _ (by simp[Am])⟩
    .exact⟨(h.nt q e).1,h.hT.lt q e⟩
   exact .inr ⟨this.1,by rw[cT];omega⟩
  .exact hsm q hq
 .rcases hq with e|e
  .have:=hSB q e;rw[cT];omega
  .omega
 .exact((h.hk.on hb)).setCell (p:=(o.F,1)) (.inr hFw) _
end
end
section
open RowKit dY Opn ChangeMaps Maps Shelf
attribute [local go_sem] Oper.semAt_some
def MnI (M H:Nat) (w:World) (se:List En) (pre:List (Nat×Bk)) W:=
 aF W H 3 #[O aa (idl se pre)]/\aF W (H+1) 221 #[M]/\Below w w W/\H+2<=W
theorem QL M H w se pre B (hB:w.heap.size<=B):dR [] B (MnI M H w se pre):=
 (aF.aaF au).and ((aF.aaF au).and ((TI au hB av).and Xx))
def ah2 (T:Array Value) (gq:Nat) (x:Nat×Bk):Act:=⟨(((T.setIfInBounds 55 (O aa x.1)).setIfInBounds 56 (BZ x.2)).setIfInBounds 8 (O aa x.1)).setIfInBounds 9 gq,[]⟩
theorem aew (f g:Nat) W:(binOp .eql 301 (.func (.func f) #[] #[g]) .nilFunc).run prog W= .ok (aq false) W:=az
section
variable {B C BL:Nat} {S T:Nat->Prop} {w W W':World} {ps:Nat->Nat} {bl:Nat->Pb} {o:Oa} {tv:Value} {tx:List UInt8} {sq ep:Nat} {se:List En}
theorem ah3 W D x:Kq (λq=>q=D) W (W.putObj D x):=⟨rfl,rfl,rfl,by rw[World.putObj_size];exact bp _,λk _ h1=>cF h1⟩
def aDX (B:Nat) (S:Nat->Prop) (w:World) (C BL:Nat) (ps:Nat->Nat) (bl:Nat->Pb) (o:Oa) (tv:Value) (tx:List UInt8) (sq ep:Nat) (se:List En) (e:Ending) (W':World):=
 e=ar (ao #[])/\∃M ML cap,oq 16 B S w W' (Am o ⟨M,ML,C,BL,cap,ps,bl,bW bl (pz bl 16) (qV se) 16,-1,2,0,decide (4<(Gc.greatest (bW bl (pz bl 16) (qV se) 16):Int)-Gc.least (bW bl (pz bl 16) (qV se) 16)),λ_=>True⟩ se sq ep tv tx)
theorem PE (h:Op B S w C BL ps bl o 2 tv tx sq ep se W) (hg:Gd 16 bl) (hb:∀e∈se,e.b<16) (Ho:∀k,k<16->inB se k<=8/\((pz bl 16).getD k false=true->inB se k=0)) (hSB:∀q,S q->B<=q/\q<w) (hB0:B<=w) (hid:∃k,k<16/\inB se k=0):
  Calls prog 175 #[o.F,an (o.R,0) 16 16] W (aDX B S w C BL ps bl o tv tx sq ep se):=by
 refine callsIn_wide (n:=9)|>.1 ?_;refine callsIn_of_wp_marks Tryz.func175 rfl trivial ?_ rfl;refine wpIn_wide.2 ?_;simp only[Tryz.ntmps175,cU,cD,cV,Nat.reduceAdd,Nat.reduceSub,dT,ee,List.push_toArray,ef,cP,dj];obtain⟨HGd,HB,HLv,HSB,gX⟩:=ct hg hb Ho hSB hB0;obtain⟨tK,HFw⟩:=cn hid (h.nw o.F au);have hmi:=agp W;have hcp:=fU;have HM0:=ag (show MgI B S w C BL ps bl o tv tx sq ep se W (W.heap.size+1) [] ((W.alloc (.cells ((bt 16 0).map naV).toArray 3)).alloc (.cells #[an (W.heap.size,0) 16 16] 116)) from by
  have bP:=(aE W W).alloc av (.cells ((bt 16 0).map naV).toArray 3);have aZ:=bP.alloc bP.size (.cells #[an (W.heap.size,0) 16 16] 116);have h1:=Own.made (f:=naV) (e:=3) (w:=W) (base:=w.heap.size) (xs:=bt 16 0) h.hk.size (by simp[maxLen]);have h2:=aF.new (W.alloc (.cells ((bt 16 0).map naV).toArray 3)) 116 #[an (W.heap.size,0) 16 16];rw[bR] at h2;have hw:=h.hk.size;refine⟨h.on aZ,by rw[amc];exact h1.alloc _,h2,⟨λe=>?_,λe=>?_,λe=>?_,ae⟩,ae⟩
  .have:=h.lt _ e;omega
  .have:=h.hT.lt _ e;omega
  .have:=(h.hR.aN o.R rfl).2;omega)
 clear h hg hb Ho hSB hB0 hid;go_upto_region 1 with fail;generalize ku:(W.alloc _).alloc _=w1;have YI:=ag (show MgI B S w C BL ps bl o tv tx sq ep se W (W.heap.size+1) [] w1 by rw[<-ku];exact HM0.o);clear ku hmi HM0;obtain⟨LV,hLV⟩:=aW W.heap.size;obtain⟨Q,hQ⟩:=aW (W.heap.size+1);rw[<-hQ,<-hLV] at YI;rw[<-hQ,<-hLV];clear hLV hQ;have f5:=YI.op.EE (i:=5) (v:= .map (some o.SE)) rfl
 go_wp2_with (at_range;refine jl _ rfl _ rfl o.SE se rfl YI.op.hS ?_;intro w2 PY aZ mQ)
 go_frame;have JB:=ag (YI.on aZ);have tC:=PY;obtain⟨r,Y2⟩:=aW w1.heap.size;have VQ:=ag Y2;rw[<-Y2] at tC⊢;clear f5 PY aZ mQ Y2;have HN:=ag (show∃W0,MgI B S w C BL ps bl o tv tx sq ep se LV Q [] W0/\W0.heap.size<=r from⟨w1,YI,Nat.le_of_eq VQ.symm⟩);clear YI VQ;go_wp2_with fail
 go_loopw [6,18] (λ_ _ wr=>Hid (∃d,jH wr o.SE r se d/\MgI B S w C BL ps bl o tv tx sq ep se LV Q d wr)) (λ_ _ wr=>wr.rangeLeft o.SE r)
 case atStart=>exact⟨[],tC,JB⟩
 case round=>
  obtain⟨d,xO,hm⟩:=hrel.o;obtain⟨sU,HM⟩:=cn xO hm;clear hrel xO hm tC JB
  go_wp2_with (at_next;refine jK _ rfl _ rfl o.SE r se d rfl sU ?_ ?_)
  .intro yM;have HP:=ag yM.o;clear yM;have hm:=HM.o;go_upto_region 5 with fail;have ET:=(hm.on (ak wr)).op.EE (i:=0) (v:= C) rfl;have mQ:=(hm.on (ak wr)).op.EE (i:=2) (v:=O aa 2) rfl;have EN:=(hm.on (ak wr)).op.EE (i:=3) (v:=O aa 0) rfl;have UN:=(hm.on (ak wr)).q4.aj (i:=0) (v:=an (LV,0) 16 16) rfl;have Ql:=ag (hm.on (ak wr));clear hm;refine iE (λW'=>W'.cell? (o.F,0)=some (.pointer (C,0))/\W'.cell? (o.F,2)=some (O aa 2)/\W'.cell? (o.F,3)=some (O aa 0)/\W'.cell? (Q,0)=some (an (LV,0) 16 16)) ⟨ET,mQ,EN,UN⟩ (λaY=>?_);generalize wr.drew=w5 at*;clear ET mQ EN UN;refine dw 0 o.F 0 ?_;refine dw 1 o.F 0 ?_;refine aS 2 o.F 0 ?_;refine aS 3 o.F 0 ?_;refine jE 4 C rfl (λ_ aK=>by obtain⟨y1,y2,y3,y4⟩:=aK;go_simp) ?_;refine dG 5 (an (o.R,0) 16 16) ?_;refine jE 6 (an (LV,0) 16 16) rfl (λ_ aK=>by obtain⟨y1,y2,y3,y4⟩:=aK;go_simp) ?_;refine dw 7 o.F 0 ?_;refine aS 8 o.F 0 ?_;refine aS 9 o.F 2 ?_;refine jE 10 (O aa 2) rfl (λ_ aK=>by obtain⟨y1,y2,y3,y4⟩:=aK;go_simp) ?_;refine dw 11 o.F 0 ?_;refine aS 12 o.F 0 ?_;refine aS 13 o.F 3 ?_;refine jE 14 (O aa 0) rfl (λ_ aK=>by obtain⟨y1,y2,y3,y4⟩:=aK;go_simp) ?_;refine bY 15 (λK' hK=>?_);go_simp;have hl5:=Ql.lv;rw[Yi HP.o] at hl5;go_call(Ha Ql.op.hc aB aB HGd.aC _ 16 (pz bl 16) (Ql.op.hR.arr (by rw[JR];decide)) _ 16 (qV se) (hl5.arr (by rw[JS];decide)) (λk hk=>by rw[Yf se hk];exact HLv.o k hk) 2 0) as e w6 ⟨M,ML,cap,rfl,hM,UZ,hmg,fJ⟩;obtain⟨c1,z1,hft⟩:=axI (M:=M) Ql.op fJ hmg hM UZ rfl rfl rfl rfl HSB.o gX.o;obtain⟨HFt,vP⟩:=cn hft (Ql.on fJ);have qy:w6.cell? (o.F,0)=some (.pointer (C,0))/\w6.cell? (o.F,2)=some (O aa 2)/\w6.cell? (o.F,3)=some (O aa 0)/\w6.cell? (Q,0)=some (an (LV,0) 16 16):=
    ⟨vP.op.EE (i:=0) rfl,vP.op.EE (i:=2) rfl,vP.op.EE (i:=3) rfl,vP.q4.aj (i:=0) rfl⟩
   clear hft hl5 hM UZ hmg fJ;refine hK.out _ _ qy (λqM=>?_)
   refine eX 16 (ao #[M,O aa 0]) ?_;refine aS 17 M 0 ?_;refine iR 18 0 ?_;refine aS 19 o.F 0 ?_;refine aS 20 o.F 1 ?_;have hqF:Q≠o.F:=λe=>by
    have h1:=vP.q4;have h2:=vP.op.hF;unfold aF at h1 h2;rw[e,h2] at h1;injection h1 with h1
    injection h1 with _ h1
    exact absurd h1 aB
   have hLF:LV≠o.F:=λe=>vP.nl.1 (by rw[e];simp);refine bY 21 (λK' hK=>?_);go_simp;have hF7:=vP.op.hF.set 1 M;have hQ7:=vP.q4.far (p:=(o.F,1)) (by simpa using hqF) M;have hl7:=vP.lv;rw[Yi HP.o] at hl7;have hl8:=hl7.far (p:=(o.F,1)) (by simpa[Value.ownBlock] using hLF) M;have hS8:(w6.setCell (o.F,1) M).cell? (o.F,0)=some (.pointer (C,0))/\(w6.setCell (o.F,1) M).cell? (o.F,2)=some (O aa 2)/\(w6.setCell (o.F,1) M).cell? (o.F,3)=some (O aa 0)/\(w6.setCell (o.F,1) M).cell? (Q,0)=some (an (LV,0) 16 16):=
    ⟨hF7.aj (i:=0) rfl,hF7.aj (i:=2) rfl,hF7.aj (i:=3) rfl,hQ7.aj (i:=0) rfl⟩
   obtain⟨HL7,HQ7⟩:=cn hl8 hQ7;clear hF7 hQ7 hl7 hl8 c1 z1 hqF hLF;refine hK.out _ _ hS8 (λIA=>?_)
   generalize w6.setCell (o.F,1) M=w7 at*;refine eH ?_;clear aY qy qM hS8 IA HM Ql vP sU HP HN;generalize hgg:(⟨M,ML,C,BL,cap,ps,bl,bW bl (pz bl 16) (qV se) 16,-1,((2:Nat):Int),((0:Nat):Int),decide (4<(Gc.greatest (bW bl (pz bl 16) (qV se) 16):Int)-Gc.least (bW bl (pz bl 16) (qV se) 16)),λ_=>True⟩:Mg)=g at*;have HGg:=ag hgg.symm;have hgM:g.M=M:=by rw[<-hgg]
   clear hgg;go_upto_region 7 with fail;have ny:=(aE w7 w7).alloc av (.cells #[O aa 0] 3);have c1:=(HFt.o.1.on ny).c1;change (w7.alloc (.cells #[O aa 0] 3)).cell? (o.F,1)=some (.pointer (g.M,0)) at c1;rw[hgM] at c1;go_wp2_with fail;refine(awx M _).mono ?_;rintro e w' ⟨rfl,rfl⟩;clear c1;have iM:=ny.alloc ny.size (.cells #[M] 221);obtain⟨HB9,HF9,I5,HQ9⟩:=cr iM (HFt.o.1.on iM) (HL7.on iM) (HQ7.ah iM);have b2:=(aF.new w7 3 #[O aa 0]).alloc (.cells #[M] 221);have b3:=aF.new (w7.alloc (.cells #[O aa 0] 3)) 221 #[.pointer (some ⟨M,0,none⟩)];have iG:((w7.alloc (.cells #[O aa 0] 3)).alloc (.cells #[.pointer (some ⟨M,0,none⟩)] 221)).heap.size=w7.heap.size+2:=au;simp only[bR] at b3;have hfn:=aew 260;go_wp2_with fail;refine axH λT hT=>?_;generalize ((w7.alloc (.cells #[O aa 0] 3)).alloc (.cells #[.pointer (some ⟨M,0,none⟩)] 221))=W0 at*;clear ny iM;obtain⟨Sg,aex,ah4⟩:=HF9.mg;have aex:fF 16 B Sg W0 g:=aex;have ah4:∀q,Sm g Sg q->Up S w w7 q:=ah4;have hM9:=aex.hM;rw[hgM] at hM9;have hlM:M<w7.heap.size:=(HFt.o.1.bnd M (ah4 M (.inl hgM.symm))).2;have hlL:g.ML<w7.heap.size:=(HFt.o.1.bnd g.ML (ah4 g.ML (.inr (.inl rfl)))).2;have wK:=ahh g 16 (w7.heap.size+1) w7 W0 aex.hM (by
    have h1:=aex.arr;obtain⟨q1,q2,q3⟩:=h1;refine⟨q1,q2,λhn=>?_⟩;obtain⟨b,o,e,_,q4⟩:=q3 hn;injection e with e
    injection e with e1 e2
    subst e1 e2;exact⟨_,_,rfl,hlL,q4⟩) (by rw[hgM];exact b3) ae ae
   have jI:=ag (show∀x∈su g.l 16,x.1<16/\x.2.st<=3 from λx hx=>by
    obtain⟨i,hi,rfl⟩:=bw.1 hx;have hi:=List.mem_range.1 hi;refine⟨hi,?_⟩;show(Gc.at_ g.l i).st<=3;rw[HGg.o];show(Gc.at_ (bW bl (pz bl 16) (qV se) 16) i).st<=3;rw[yV _ _ _ hi,yQ,HGd.bad i hi];rw[eo aB]
    split
    .exact bN 3
    .split
     .exact(show 2<=3 by decide)
     .exact(show 3<=3 by decide))
   clear aex ah4 hM9;refine wpIn_wide.1 (aaE (gf:=260) (lb:=#[.pointer (some ⟨w7.heap.size+1,0,none⟩)]) (encs:=TJ) (xs:=su g.l 16) (cw:=[]) (own:=[w7.heap.size+1]) (n0:=w7.heap.size) (w0:=W0) (by rw[hT];rfl) (enters_of Tryz.func260 az rfl) wK (aE _ _) ae (by simp;omega) au (λ_=>rfl)
    (MnI M w7 w7 se) (λ_ _ _=>False) (λpre=>QL _ _ _ _ _ _ ae) (λ_ _=>dR.pure _)
    ⟨b2,b3,HB9,ae⟩
    (λpre x a1 W=>∃gq,a1=ah2 T gq x/\w7.heap.size+2<=gq/\aF W gq 296 (vF x.2)/\MnI M w7 w7 se pre W) ?keeps ?assign ?body ?done ?stop)
   case keeps=>intro pre x a1;exact dR.ex λgq=>(dR.pure _).and ((dR.pure _).and ((aF.aaF au).and (QL _ _ _ _ _ _ ae)))
   case assign=>
    intro lp pre x W K hi iJ hK;obtain⟨i1,i2,i3,i4⟩:=hi;have fM:=(aE W W).alloc av (.cells (vF x.2) 296);have hk:=hK (ah2 T W x) _ (KeepsOthers.alloc W (.cells (vF x.2) 296)) (fM.mono ae) (λq hq=>by simp only[bS,cY,or_false] at hq;subst hq;exact fM.block _ ae) fM.size ⟨W.heap.size,rfl,i4,aF.new W _ _,i1.alloc _,i2.alloc _,i3.alloc ae _,by rw[bR];omega⟩;clear hK;have HK:=ag hk;clear hk;unfold TJ;subst hT
    gi_wp2
    exact HK.o
   case body=>
    rintro lp pre ⟨k,y⟩ a1 W ⟨gq,rfl,hgq,hk,bv,bv1,jW,hsW⟩ iJ;obtain⟨aD1,hst⟩:=jI.o (k,y) (iJ.subset au);have uh:pre.length<=16:=by have:=iJ.length_le;simp only[su,bE,List.length_singleton,bO,List.length_range] at this;omega
    have hid:=arS se pre;have k0:=hk.aj (i:=0) (v:=O aa y.st) rfl;have q4:=(HQ7.ah jW).aj (i:=0) (v:=an (some ⟨LV,0,none⟩) 16 16) rfl;have l4:=((HL7.on jW).dU (k:=k) (by rw[JS];exact aD1)).1;rw[Np] at l4;change W.cell? ⟨LV,k,none⟩=some (O aa (inB se k)) at l4;have cH:=bv.aj (i:=0) (v:=O aa (idl se pre)) rfl;have fH:=bv.frozen 0;have g0:(0:Int)<=(k:Int):=ae;have g1:(k:Int)<16:=ae;have g4:((y.st:Int) !=4)=true:=by rw[bne_iff_ne];simp only at hst;omega
    obtain⟨HS,HI⟩:=cn (ah1 se pre (k,y)) (show MnI M w7 w7 se pre W from⟨bv,bv1,jW,hsW⟩);obtain⟨id0,arU⟩:=aW (idl se pre);rw[<-arU] at hid cH;have aD2:=ag arU;have iw:=bq ((id0:Int)+1) ⟨ae,ae⟩;obtain⟨c,hc⟩:=aW (inB se k);rw[<-hc] at l4;have HCc:=ag hc;unfold ah2;subst hT;simp only[List.setIfInBounds_toArray,List.set_cons_succ,List.set_cons_zero];clear wK iJ jW bv1 hid arU hc hst hk bv;by_cases h0:c=0
    .have h0i:((c:Int)==0)=true:=by rw[h0];rfl
     have H0:=ag h0;clear h0
     gi_wp2
     have kb:Below w7 W (W.setCell ⟨w7.heap.size,0,none⟩ (O aa ((id0:Int)+1))):=(aE w7 W).setCell (p:=⟨w7.heap.size,0,none⟩) av _;obtain⟨i1,i2,i3,i4⟩:=HI.o;refine⟨gG _ _ _ _,kb,?_,?_,i2.far (p:=⟨w7.heap.size,0,none⟩) au _,i3.trans kb,by simpa using i4⟩
     .intro z hz;simp only[bS,cY,or_false] at hz;subst hz;exact heap_setCell_other _ _ _ _ au
     .have h9:=i1.set 0 (O aa ((id0:Int)+1));rw[HS.o,ev (show inB se k=0 by rw[<-HCc.o];exact H0.o),<-aD2.o];rw[show((id0+1:Nat):Int)=(id0:Int)+1 by omega];exact h9
    .have h0i:((c:Int)==0)=false:=by rw[ew];omega
     have H0:=ag h0;clear h0
     gi_wp2
     obtain⟨i1,i2,i3,i4⟩:=HI.o;refine⟨KeepsOthers.refl _,aE _ _,λ_ _=>rfl,?_,i2,i3,i4⟩;rw[HS.o,eo (show¬inB se k=0 by rw[<-HCc.o];exact H0.o),Nat.add_zero];exact i1
   case done=>
    rintro D W hD ⟨bv,_,jW,hsW⟩ hK;have XG:0<idl se (su g.l 16):=by obtain⟨k,hk,h0⟩:=tK.o;exact amd se (x:=(k,Gc.at_ g.l k)) (bw.2 ⟨k,List.mem_range.2 hk,rfl⟩) h0
    have cH:=bv.aj (i:=0) (v:=O aa (idl se (su g.l 16))) rfl;have HFW:=ag (HFt.o.1.on jW);have f11:=HFW.c11;have z11:=HFW.frz 11;change W.cell? ⟨o.F,11,none⟩=some (aq false) at f11;change W.frozen? ⟨o.F,11,none⟩=false at z11;generalize idl se (su g.l 16)=nn at*;have hz:((nn:Int)==0)=false:=by rw[ew];omega
    have DC:=ag jW;subst hT;clear wK jW bv XG;go_wp2;have hlF:o.F<w7.heap.size:=HFt.o.1.ltF;have hDF:D≠o.F:=ae;have hK2:(W.setCell ⟨o.F,11,none⟩ (aq false)).heap[D]?=some (.deferred (some [])):=by rw[<-hK];exact heap_setCell_other _ _ _ _ (by simpa using hDF)
    refine⟨au,.inl ⟨_,_,rfl,run_takeDeferred hK2,?_⟩⟩;refine⟨ao #[],by simp[results,Tryz.results175,go_sem],rfl,M,ML,cap,?_⟩;have h1:=HFW.aqn 11 (aq false) (Am o g se sq ep tv tx) (by unfold Qp Am;simp) rfl rfl rfl rfl rfl rfl rfl rfl rfl rfl rfl;have h2:=h1.kq (ah3 _ D (.deferred none)) (λq hq e=>by have:=(HFt.o.1.bnd q hq).2;have e:q=D:=e;omega);have aLv:w7.heap.size<=W.heap.size:=DC.size;have h3:=HFt.o.2.size;have hgg:=HGg.o;have axK:(⟨M,ML,C,BL,cap,ps,bl,bW bl (pz bl 16) (qV se) 16,-1,2,0,decide (4<(Gc.greatest (bW bl (pz bl 16) (qV se) 16):Int)-Gc.least (bW bl (pz bl 16) (qV se) 16)),λ_=>True⟩:Mg)=g:=hgg.symm;rw[axK];refine⟨h2.more (λq hq=>?_) (λq hq=>?_),?_⟩
    .rcases hq with e|e
     .exact .inl e
     .exact .inr ⟨e.1,by rw[World.putObj_size,cT];omega⟩
    .rw[World.putObj_size,cT];rcases hq with e|e
     .have:=HSB.o q e;omega
     .rw[World.putObj_size,cT] at e;have:=gX.o;omega
    .refine(((HFt.o.2.on DC).setCell (p:=⟨o.F,11,none⟩) (.inr ?_) _).aA (ah3 _ D (.deferred none)) (λq e=>?_))
     .rcases HFt.o.1.inF with e|e
      .have h4:=(HSB.o _ e).2;have h5:=HFw.o;exact h5
      .exact e.1
     .have e:q=D:=e;exact .inr ae
   case stop=>rintro D k pre W hD _ h hK;exact h.elim
  .intro e w6 he IL U0 hs6 OM hen;rw[uP] at hen⊢;have tH:Kq (λq=>q=r) wr w6:=(Kq.grown U0).mono λq e=>(Option.some.inj e).symm;have vP:=ag (HM.new tH HN);have mf:=(aE w6 w6).alloc av (.cells #[O aa e.b,O aa e.i] 247);obtain⟨x8,CU,HE7,HZ⟩:=cr (vP.on mf) (IL.on mf) (show(w6.alloc (.cells #[O aa e.b,O aa e.i] 247)).rangeLeft o.SE r<wr.rangeLeft o.SE r by rw[IL.o.1.ug mf];exact OM.o) (aF.new w6 247 #[O aa e.b,O aa e.i]);rw[hs6] at HZ;have HBe:=ag (HB.o e he.o.1);have HIn:=ag (show inB d e.b<=100000 by
    obtain⟨rest,hr⟩:=sU.rest;have h1:=Yh hr e.b;have h2:=(HLv.o e.b HBe).1;have h3:inB (d++rest) e.b=inB d e.b+inB rest e.b:=by unfold inB;rw[List.filter_append,bE]
    omega)
   clear tH mf IL U0 OM;go_upto_region 4 with fail;generalize w6.alloc (.cells #[O aa e.b,O aa e.i] 247)=w7 at*;clear hen;have c0:=HZ.aj (i:=0) (v:=O aa e.b) rfl;have c4:=x8.q4.aj (i:=0) rfl;obtain⟨l0,z0,hm8⟩:=x8.cnt HBe.o;have WG:=ag hm8;have b0:(0:Int)<=(e.b:Int):=ae;have b1:(e.b:Int)<16:=by have:=HBe.o;omega
   have iw:=bq ((inB d e.b:Int)+1) ⟨ae,by have:=HIn.o;omega⟩;rw[show((inB d e.b+1:Nat):Int)=(inB d e.b:Int)+1 by omega] at WG;have hq8:Kq (λq=>q=LV) w7 (w7.setCell ⟨LV,e.b,none⟩ (O aa ((inB d e.b:Int)+1))):=Kq.one ⟨_,_,none⟩ _;have hLE:LV≠o.SE:=λe2=>x8.nl.1 (by rw[e2];simp);have hLR:LV≠r:=λe2=>by obtain⟨W0,h0,h1⟩:=HN.o;have:=(h0.lv.aN LV rfl).2;omega
   have q1:=hq8.block o.SE CU.ltb (Ne.symm hLE);have q2:=hq8.block r CU.ltr (Ne.symm hLR);obtain⟨HR8,HE8⟩:=cn (CU.same q1 q2) (show(w7.setCell ⟨LV,e.b,none⟩ (O aa ((inB d e.b:Int)+1))).rangeLeft o.SE r<wr.rangeLeft o.SE r by rw[oG q1 q2];exact HE7.o);clear hm8 hq8 hLE hLR q1 q2;go_wp2_with fail;go_roundw
   case rel=>exact⟨d++[e],HR8,WG⟩
   case measure=>exact HE8.o
end
end
section
open RowKit dY Opn ChangeMaps Maps
namespace Opn
def maxS (g:En->Nat) (m:Nat) e:=max m (g e)
def Ak (g:En->Nat) (l:List En):=l.foldl (maxS g) 0
theorem QJ g (l:List En):∀m,m<=l.foldl (maxS g) m/\(∀e∈l,g e<=l.foldl (maxS g) m)/\(l.foldl (maxS g) m=m\/∃e∈l,l.foldl (maxS g) m=g e):=by induction l<;>grind[Opn.maxS]
theorem acp {g l m} (h:∀e∈l,g e<=m) (hm:∃e∈l,g e=m):Ak g l=m:=by grind[Opn.Ak,Opn.QJ]
theorem acr {g l m} (h:∀e∈l,g e<=m):Ak g l<=m:=by grind[Opn.Ak,Opn.QJ]
end Opn
section
variable {B C BL:Nat} {S:Nat->Prop} {w:World} {ps:Nat->Nat} {bl:Nat->Pb} {V:Nat->Option (Tg×List UInt8)} {last sq:Nat} {tl:List UInt8}
def aDS (B:Nat) (S:Nat->Prop) (w:World) (C BL:Nat) (ps:Nat->Nat) (bl:Nat->Pb) (last sq:Nat) (tl:List UInt8) (e:Ending) (W':World):=
 ∃o tv M ML cap,e=ar (ao #[.pointer (some ⟨o.F,0,none⟩),O aa 0])/\oq 16 B S w W' (Am o ⟨M,ML,C,BL,cap,ps,bl,bW bl (pz bl 16) (qV (bf (allL bl 16))) 16,-1,2,0,decide (4<(Gc.greatest (bW bl (pz bl 16) (qV (bf (allL bl 16))) 16):Int)-Gc.least (bW bl (pz bl 16) (qV (bf (allL bl 16))) 16)),λ_=>True⟩ (bf (allL bl 16)) (sq+1) (last+1) tv tl)
theorem Wl (h:eu 16 B S w C BL ps bl) (hg:Gd 16 bl) (hH:aej (allL bl 16) V last sq) (Qm:1<=last) (CV:last<=1000000) (mQ:sq<=1000000) (hV:∀p x,V p=some x->p<102) (htl:∀x,V 0=some x->x.2=ig tl) (Ho:∀k,k<16->inB (bf (allL bl 16)) k<=8/\((pz bl 16).getD k false=true->inB (bf (allL bl 16)) k=0)) (hid:∃k,k<16/\inB (bf (allL bl 16)) k=0):
  Calls prog 116 #[C] w (aDS B S w C BL ps bl last sq tl):=by
 obtain⟨HU,HSc,HGd,HH,HHl⟩:=ct (rq h) (aaW h hg) hg hH hH.aop;obtain⟨Rz,HLv,tK,HV,HTl⟩:=ct hH.Aa Ho hid hV htl;obtain⟨HSB,gX,Fj,HPs⟩:=cr (show∀q,S q->B<=q/\q<w.heap.size from λq hq=>⟨h.lo q hq,h.hi q hq⟩) h.base (show(allL bl 16).length<=128 from XZ bl 16) (show∀e∈allL bl 16,e.t.p<4294967296/\e.b<16/\e.i<8/\Is bl e from λe he=>by obtain⟨h1,h2,h3⟩:=qI.1 he;obtain⟨L,h4,h5,_⟩:=h3;obtain⟨_,_,_,_,_,h6,_⟩:=hg.ok e.b e.i L h1 h2 h4;exact⟨by rw[h5];exact h6,h1,h2,qI.1 he|>.2.2⟩);clear h hg hH Ho hid hV htl
 go_in
 go_wp2_with fail;refine(HU).cj ?_;go_wp2_with fail;go_call HSc as e w1 ⟨v,gb,G,rfl,hsc⟩;obtain⟨a,c,rfl,hc⟩:=hsc.hv.form;obtain⟨pG,yg,HLe⟩:=cp hsc (hsc.hv.arr (by have:=Fj.o;omega)) (show(allL bl 16).length<=100000 by have:=Fj.o;omega);obtain⟨n,hn⟩:=aW ((allL bl 16).length);rw[<-hn] at yg HLe⊢;have HNn:=ag hn;clear hsc hc hn;go_wp2_with fail;go_call(Jm a n c _ w1 yg HLe) as e w2 ⟨rfl,aZ⟩;rw[HHl.o];obtain⟨NK,df⟩:=cn (yg.on aZ) aZ;have hlz:((last:Int)==0)=false:=by rw[ew];omega
 clear aZ;go_wp2_with fail;go_call(Ul a n c _ last w2 NK HLe (λe he=>(HPs.o e he).1)) as e w3 ⟨⟨v3,rfl,Jr⟩,bJ⟩;obtain⟨a3,c3,rfl,xM⟩:=Jr.form;have hn3:(zy last (allL bl 16)).length<=100000:=by have h1:=List.length_filter_le (Jj last (Ii last (allL bl 16))) (allL bl 16);have h2:(zy last (allL bl 16)).length<=(allL bl 16).length:=h1;have:=Fj.o;omega
 obtain⟨IQ,cO,tN,rG⟩:=cr (NK.on bJ) (df.aA bJ) (Jr.arr ae) hn3;obtain⟨n3,axB⟩:=aW ((zy last (allL bl 16)).length);rw[<-axB] at tN rG⊢;clear bJ Jr xM hn3 axB hlz;go_wp2_with fail;go_call(Um a3 n3 c3 _ w3 tN rG (λe he=>by have h1:=(aaU he).1;have h2:=HPs.o e h1;exact⟨h2.1,ae⟩)) as e w4 ⟨⟨ob,rfl,hob,BR⟩,eG⟩;rw[show X0 (wE (zy last (allL bl 16))) (zy last (allL bl 16))=bf (allL bl 16) by unfold bf;rw[HHl.o]] at BR;obtain⟨HX4,jM,HM4,HOb⟩:=cr (IQ.on eG) (cO.aA eG) BR (show w1.heap.size<=ob by have:=cO.size;omega);clear eG BR hob tN IQ;generalize vC:bf (allL bl 16)=se at*;have aDT:=ag vC;clear vC;have UX:=@run_makeMap prog;go_wp2_with fail;have eQ:=((aE w4 w4).alloc av (.map #[] 0)).alloc au (.map #[] 0);obtain⟨Fq,je,Ql,zM,yF⟩:=ct (HX4.on eQ) (jM.aA eQ) (HM4.on eQ) (show dH ((w4.alloc (.map #[] 0)).alloc (.map #[] 0)) w4 [] from(dH.made w4).alloc _) (show dH ((w4.alloc (.map #[] 0)).alloc (.map #[] 0)) (w4.heap.size+1) [] from by have h1:=dH.made (w4.alloc (.map #[] 0));rw[bR] at h1;exact h1);obtain⟨HOl,HS5⟩:=cn (show ob<w4.heap.size from HM4.lt) (show((w4.alloc (.map #[] 0)).alloc (.map #[] 0)).heap.size=w4.heap.size+2 by simp);clear UX eQ;generalize (w4.alloc (.map #[] 0)).alloc (.map #[] 0)=w5 at*;go_call(dQ (pG.hc.on je)) as e w6 ⟨rfl,fJ⟩;obtain⟨Y9,ve,vP⟩:=cp (Fq.on fJ) (je.aA fJ) (Ql.on fJ);obtain⟨Jz,U3,Wx⟩:=cp (zM.on fJ) (yF.on fJ) (show w4.heap.size+2<=w6.heap.size by have:=HS5.o;have:=fJ.size;omega);clear fJ Fq Ql zM yF HM4 HX4;generalize w4.heap.size=NO at*;have hf0:=ahf (O aa 16) (O aa 8) (O aa 64);have wI:=JJ w6;unfold uI;go_upto_region 10 with fail;obtain⟨o,ho⟩:∃o:Oa,o=⟨w6.heap.size+1,ob,NO,NO+1,w6.heap.size,gb⟩:=⟨_,rfl⟩
 obtain⟨w8,hw8⟩:=aW ((w6.alloc (.cells ((bt 16 false).map pW).toArray 4)).alloc (.cells (opA C ob NO (NO+1) w6 (.pointer none) 0 (an none 0 0) 0 0) 225));have ny:Below w6 w6 w8:=by rw[hw8];exact((aE _ w6).alloc av _).alloc au _
 have wJ:Op B S w C BL ps bl o 0 (an none 0 0) [] 0 0 se w8:=by
  have jA:=pG.hk.size;have hob:=HOb.o;have hol:=HOl.o;have hs6:=Wx.o;have hB1:=ve.size;have jf:=pG.ho.aN gb rfl;have arM:=ve.aA ny;have h2:=aF.new (w6.alloc (.cells ((bt 16 false).map pW).toArray 4)) 225 (opA C ob NO (NO+1) w6 (.pointer none) 0 (an none 0 0) 0 0);rw[bR,<-hw8] at h2;have h3:=Own.made (f:=pW) (e:=4) (w:=w6) (base:=w.heap.size) (xs:=bt 16 false) ae (by simp[maxLen]);have h4:=h3.alloc (.cells (opA C ob NO (NO+1) w6 (.pointer none) 0 (an none 0 0) 0 0) 225);rw[<-hw8] at h4;subst ho;refine⟨pG.hc.on arM,h2,vP.on ny,Jz.on ny,U3.on ny,h4,pG.ho.on arM,.of (B:=0) (Own.nil _ _),pG.hk.on arM,?_,λq hq=>?_,λq hq=>(by cases hq),pG.lS,⟨λhm=>?_,jf.1,λhm=>by cases hm⟩⟩
  .simp only[cR,bS,cY,or_false,not_or];refine⟨⟨ae,ae,ae,ae⟩,⟨ae,ae,ae⟩,⟨ae,ae⟩,ae,⟨λe=>e,List.nodup_nil⟩⟩
  .simp only[bS,cY,or_false] at hq;omega
  .simp only[bS,cY,or_false] at hm;omega
 obtain⟨YO,UG,HFw⟩:=cp wJ ny (show w6.heap.size<=o.F by rw[ho];exact Nat.le_succ _);have hF:o.F=w6.heap.size+1:=by rw[ho]
 have HRg:=ag (show gb=o.R by rw[ho]);rw[<-hF];generalize hww:World.alloc _ _=wa;have hwa:wa=w8:=by rw[hw8,<-hww];rfl
 rw[hwa];clear hww hwa hw8 wJ ny hF ho wI hf0 vP Jz U3 HOl HOb HS5 Wx ve je;clear wa;rw[HRg.o];have HAs:=ag (show∀e∈allL bl 16,e.t.e<=last/\e.t.s<=sq from λe he=>⟨(HH.all e he).1,(HH.all e he).2.1⟩);have gm:=Ez;go_wp2_with fail
 go_loopw [10,48] (λ_ i wr=>∃j:Nat,j<=n/\i=O aa j/\Op B S w C BL ps bl o 0 (an none 0 0) [] (Ak (·.t.s) ((allL bl 16).take j)) (Ak (·.t.e) ((allL bl 16).take j)) se wr/\Below w6 w6 wr) (λ_ i _=>n-(intOf i).toNat)
 case atStart=>exact⟨0,bN _,rfl,YO,UG⟩
 case round=>
  obtain⟨j,hj,rfl,wJ,gB⟩:=hrel;obtain⟨HO,HB⟩:=cn wJ gB;clear wJ gB YO UG;by_cases aT:j<n
  .obtain⟨x,Ye,b,q,rfl,gB,c0,c1,c2,c3,c4,c5⟩:=QI (Y9.below HB) aT;obtain⟨vJ,Bh⟩:=dq.1 Ye;have hst:=qU (maxS (·.t.s)) 0 (allL bl 16) vJ;have vC:=qU (maxS (·.t.e)) 0 (allL bl 16) vJ;rw[Bh] at hst vC;have jA:Ak (·.t.s) ((allL bl 16).take j)<=sq:=acr λe he=>(HAs.o e (List.mem_of_mem_take he)).2;have he1:Ak (·.t.e) ((allL bl 16).take j)<=last:=acr λe he=>(HAs.o e (List.mem_of_mem_take he)).1;have NI:=HAs.o x (Bh▸cS vJ);obtain⟨jI,arN⟩:=cn (show Ak (·.t.s) ((allL bl 16).take (j+1))=max (Ak (·.t.s) ((allL bl 16).take j)) x.t.s from hst) (show Ak (·.t.e) ((allL bl 16).take (j+1))=max (Ak (·.t.e) ((allL bl 16).take j)) x.t.e from vC);have hj0:(0:Int)<=(j:Int):=ae;have hj1:(j:Int)<(n:Int):=ae;have pK:=HLe.o;clear hst vC Ye vJ Bh;generalize Ak (·.t.s) ((allL bl 16).take j)=ms at*;generalize Ak (·.t.e) ((allL bl 16).take j)=me at*;obtain⟨m1,NT⟩:=aW (max ms x.t.s);obtain⟨m2,EY⟩:=aW (max me x.t.e);have wO:max (ms:Int) (x.t.s:Int)=(m1:Int):=ae;have wP:max (me:Int) (x.t.e:Int)=(m2:Int):=ae;rw[<-NT] at jI;rw[<-EY] at arN;have hle:x.t.e<=last:=NI.1;clear NT EY NI;have fM:=(aE wr wr).alloc av (.cells #[O aa x.t.k,O .u32 x.t.p,O .u64 x.t.s,O .u64 x.t.e,O aa x.b,O aa x.i] 249);obtain⟨tJ,df,HZ,CS⟩:=cr (HO.on fM) (HB.aA fM) (aF.new wr 249 #[O aa x.t.k,O .u32 x.t.p,O .u64 x.t.s,O .u64 x.t.e,O aa x.b,O aa x.i]) (show wr.heap.size≠o.F from λe=>by have:=HO.hF.lt;omega);clear fM;go_upto_region 13 with fail;generalize wr.alloc (.cells #[O aa x.t.k,O .u32 x.t.p,O .u64 x.t.s,O .u64 x.t.e,O aa x.b,O aa x.i] 249)=w9 at*;generalize wr.heap.size=Z at*;clear c0 c1 c2 c3 c4 c5;obtain⟨H9,HB9⟩:=cn (tJ.on (ak w9)) (df.aA (ak w9));have qm:w9.drew.cell? (Z,2)=some (O .u64 x.t.s)/\w9.drew.cell? (Z,3)=some (O .u64 x.t.e):=⟨HZ.drew.aj (i:=2) rfl,HZ.drew.aj (i:=3) rfl⟩
   have HZd:=ag (show aF w9.drew Z 249 #[O aa x.t.k,O .u32 x.t.p,O .u64 x.t.s,O .u64 x.t.e,O aa x.b,O aa x.i] from HZ.drew);have hq8:=H9.EE (i:=8) (v:=O .u64 ms) rfl;have hq9:=H9.EE (i:=9) (v:=O .u64 me) rfl;refine iE (λW'=>W'.cell? (aw Z 2)=some (O .u64 x.t.s)/\W'.cell? (aw Z 3)=some (O .u64 x.t.e)) qm (λaY=>?_);generalize w9.drew=E5 at*;refine dw 0 o.F 0 ?_;refine dw 1 o.F 0 ?_;refine dw 2 o.F 0 ?_;refine aS 3 o.F 0 ?_;refine aS 4 o.F 8 ?_;refine aS 6 Z 0 ?_;refine aS 7 Z 2 ?_;refine jE 8 (O .u64 x.t.s) rfl (λ_ aK=>by obtain⟨y1,y2⟩:=aK;go_simp) ?_;refine dw 10 o.F 0 ?_;refine aS 11 o.F 0 ?_;refine aS 12 o.F 9 ?_;refine aS 14 Z 0 ?_;refine aS 15 Z 3 ?_;refine jE 16 (O .u64 x.t.e) rfl (λ_ aK=>by obtain⟨y1,y2⟩:=aK;go_simp) ?_;refine wpAnyH_ready (rs:=[5,13]) az au ?_;refine bX rfl (λK' hK=>?_) (bX rfl (λK' hK=>?_) cN)
   .go_simp;refine hK.out _ _ qm (λdh=>?_)
    clear dh;refine eX 9 (O .u64 m1) ?_;refine bY 13 (λK' hK=>?_);go_simp;refine hK.out _ _ qm (λfE=>?_)
    clear fE;refine eX 17 (O .u64 m2) ?_;refine aS 18 o.F 0 ?_;refine aS 19 o.F 8 ?_;have z8:=H9.hF.frozen 8;refine bY 20 (λK' hK=>?_);go_simp;obtain⟨HA,HBA⟩:=cn (H9.set (res':=0) (tv':=an none 0 0) (tx':=[]) (sq':=m1) (ep':=me) 8 (O .u64 m1) rfl (.inl ⟨rfl,rfl⟩)) (HB9.setCell (p:=⟨o.F,8,none⟩) HFw (O .u64 m1));have hzA:(E5.setCell (o.F,8) (O .u64 m1)).cell? (Z,2)=some (O .u64 x.t.s)/\(E5.setCell (o.F,8) (O .u64 m1)).cell? (Z,3)=some (O .u64 x.t.e):=⟨(cK _ _ _ _ (by simpa using Ne.symm CS)).trans qm.1,(cK _ _ _ _ (by simpa using Ne.symm CS)).trans qm.2⟩
    clear z8;refine hK.out _ _ hzA (λarO=>?_)
    generalize E5.setCell (o.F,8) (O .u64 m1)=sZ at*;refine aS 21 o.F 0 ?_;refine aS 22 o.F 9 ?_;have q9:=HA.EE (i:=9) (v:=O .u64 me) rfl;have z9:=HA.hF.frozen 9;refine bY 23 (λK' hK=>?_);go_simp;obtain⟨HC,HBC⟩:=cn (HA.set (res':=0) (tv':=an none 0 0) (tx':=[]) (sq':=m1) (ep':=m2) 9 (O .u64 m2) rfl (.inl ⟨rfl,rfl⟩)) (HBA.setCell (p:=⟨o.F,9,none⟩) HFw (O .u64 m2));have hzC:(sZ.setCell (o.F,9) (O .u64 m2)).cell? (Z,2)=some (O .u64 x.t.s)/\(sZ.setCell (o.F,9) (O .u64 m2)).cell? (Z,3)=some (O .u64 x.t.e):=⟨(cK _ _ _ _ (by simpa using Ne.symm CS)).trans hzA.1,(cK _ _ _ _ (by simpa using Ne.symm CS)).trans hzA.2⟩
    clear q9 z9;refine hK.out _ _ hzC (λarQ=>?_)
    generalize sZ.setCell (o.F,9) (O .u64 m2)=UF at*;refine eH ?_;have c3:=hzC.2;clear aY qm hzA arO hzC arQ hq8 hq9;go_wp2_with fail;go_roundw
    case rel=>exact⟨j+1,ae,by go_num,by rw[jI.o,arN.o];exact HC.o,HBC⟩
    case measure=>simp[intOf];omega
   .go_simp;refine hK.out _ _ qm (λdh=>?_)
    clear dh;refine eX 17 (O .u64 m2) ?_;refine bY 5 (λK' hK=>?_);go_simp;refine hK.out _ _ qm (λfE=>?_)
    clear fE;refine eX 9 (O .u64 m1) ?_;refine aS 18 o.F 0 ?_;refine aS 19 o.F 8 ?_;have z8:=H9.hF.frozen 8;refine bY 20 (λK' hK=>?_);go_simp;obtain⟨HA,HBA⟩:=cn (H9.set (res':=0) (tv':=an none 0 0) (tx':=[]) (sq':=m1) (ep':=me) 8 (O .u64 m1) rfl (.inl ⟨rfl,rfl⟩)) (HB9.setCell (p:=⟨o.F,8,none⟩) HFw (O .u64 m1));have hzA:(E5.setCell (o.F,8) (O .u64 m1)).cell? (Z,2)=some (O .u64 x.t.s)/\(E5.setCell (o.F,8) (O .u64 m1)).cell? (Z,3)=some (O .u64 x.t.e):=⟨(cK _ _ _ _ (by simpa using Ne.symm CS)).trans qm.1,(cK _ _ _ _ (by simpa using Ne.symm CS)).trans qm.2⟩
    clear z8;refine hK.out _ _ hzA (λarO=>?_)
    generalize E5.setCell (o.F,8) (O .u64 m1)=sZ at*;refine aS 21 o.F 0 ?_;refine aS 22 o.F 9 ?_;have q9:=HA.EE (i:=9) (v:=O .u64 me) rfl;have z9:=HA.hF.frozen 9;refine bY 23 (λK' hK=>?_);go_simp;obtain⟨HC,HBC⟩:=cn (HA.set (res':=0) (tv':=an none 0 0) (tx':=[]) (sq':=m1) (ep':=m2) 9 (O .u64 m2) rfl (.inl ⟨rfl,rfl⟩)) (HBA.setCell (p:=⟨o.F,9,none⟩) HFw (O .u64 m2));have hzC:(sZ.setCell (o.F,9) (O .u64 m2)).cell? (Z,2)=some (O .u64 x.t.s)/\(sZ.setCell (o.F,9) (O .u64 m2)).cell? (Z,3)=some (O .u64 x.t.e):=⟨(cK _ _ _ _ (by simpa using Ne.symm CS)).trans hzA.1,(cK _ _ _ _ (by simpa using Ne.symm CS)).trans hzA.2⟩
    clear q9 z9;refine hK.out _ _ hzC (λarQ=>?_)
    generalize sZ.setCell (o.F,9) (O .u64 m2)=UF at*;refine eH ?_;have c3:=hzC.2;clear aY qm hzA arO hzC arQ hq8 hq9;go_wp2_with fail;go_roundw
    case rel=>exact⟨j+1,ae,by go_num,by rw[jI.o,arN.o];exact HC.o,HBC⟩
    case measure=>simp[intOf];omega
  .obtain rfl:j=n:=ae;have hl:=HNn.o;have hms:Ak (·.t.s) (allL bl 16)=sq:=by obtain⟨x,h1,h2,h3⟩:=HH.X6;obtain⟨_,e,he,h4,_⟩:=HH.has 0 x h1;exact acp (λe he=>(HAs.o e he).2) ⟨e,he,by rw[h4];exact h3⟩
   have BR:Ak (·.t.e) (allL bl 16)=last:=by obtain⟨x,h1,h2,h3⟩:=HH.X6;obtain⟨_,e,he,h4,_⟩:=HH.has 0 x h1;exact acp (λe he=>(HAs.o e he).1) ⟨e,he,by rw[h4];exact h2⟩
   rw[cL (by rw[hl];exact bp _),hms,BR] at HO;clear hms BR hl HB Y9 NK pG df cO yg hj aT;have f8:=HO.EE (i:=8) (v:=O .u64 sq) rfl;have z8:=HO.hF.frozen 8;have i8:=IntWalk.u64_in ((sq:Int)+1) ⟨ae,ae⟩;have H1:=ag (HO.set (res':=0) (tv':=an none 0 0) (tx':=[]) (sq':=sq+1) (ep':=last) 8 (O .u64 ((sq:Int)+1)) rfl (.inl ⟨rfl,rfl⟩));go_upto_region 18 with fail;generalize wr.setCell (o.F,8) (O .u64 ((sq:Int)+1))=w9 at*;clear f8 z8 i8 HO;have f9:=H1.EE (i:=9) (v:=O .u64 last) rfl;have z9:=H1.hF.frozen 9;have i9:=IntWalk.u64_in ((last:Int)+1) ⟨ae,ae⟩;have H2:=ag (H1.set (res':=0) (tv':=an none 0 0) (tx':=[]) (sq':=sq+1) (ep':=last+1) 9 (O .u64 ((last:Int)+1)) rfl (.inl ⟨rfl,rfl⟩));go_upto_region 19 with fail;generalize w9.setCell (o.F,9) (O .u64 ((last:Int)+1))=E5 at*;clear f9 z9 i9 H1;obtain⟨hu,yf,hvw⟩:=Rz.o;have aes:=hvw 0;obtain⟨xx,wO,wP,Y3⟩:=HH.X6;rw[wO] at aes;obtain⟨e0,Ff,Vp⟩:∃e0,aI se 0=some e0/\sk e0=xx:=by
    cases hz:aI se 0 with
    |none=>rw[hz] at aes;cases aes
    |some e0=>rw[hz] at aes;exact⟨e0,rfl,Option.some.inj aes⟩
   have agD:=yf e0 (dW Ff).1;obtain⟨_,gu,hi0,axD⟩:=HPs.o e0 agD;have hd0:e0.d=ig tl:=by have:=HTl.o xx wO;rw[<-Vp] at this;exact this
   obtain⟨pO,HIn,HVw⟩:=cp (Un H2 HGd e0 Ff gu hi0 axD tl hd0) yf hvw;clear hu yf hvw aes wO wP Y3 Ff Vp agD gu hi0 axD hd0;go_wp2_with fail;go_call pO as e sZ ⟨rfl,tv,wJ⟩;have H3:=ag wJ;clear wJ H2 pO;have f5:=H3.EE (i:=5) (v:= .map (some o.SE)) rfl
   go_wp2_with (at_range;refine jl _ rfl _ rfl o.SE se rfl H3.hS ?_;intro UF DZ MZ aDV)
   go_frame;have H4:=ag (H3.on MZ);have HR4:=DZ;obtain⟨r,Y2⟩:=aW sZ.heap.size;have VQ:=ag (show sZ.heap.size<=r from Nat.le_of_eq Y2.symm);rw[<-Y2] at HR4⊢;clear f5 DZ MZ aDV Y2;go_wp2_with fail
   go_loopw [11,110] (λ_ _ wr=>Hid (∃d,jH wr o.SE r se d/\Op B S w C BL ps bl o 2 tv tl (sq+1) (last+1) se wr)) (λ_ _ wr=>wr.rangeLeft o.SE r)
   case atStart=>exact⟨[],HR4,H4⟩
   case round=>
    obtain⟨d,xO,wJ⟩:=hrel.o;obtain⟨sU,HO⟩:=cn xO wJ;clear hrel xO wJ HR4 H4
    go_wp2_with (at_next;refine jK _ rfl _ rfl o.SE r se d rfl sU ?_ ?_)
    .intro yM;clear yM;have HMn:=ag (PE HO HGd (λe he=>(HPs.o e (HIn.o e he)).2.1) HLv HSB gX tK);clear sU HO;go_wp2_with fail;go_call HMn as e w13 ⟨rfl,M,ML,cap,hft⟩;have HF:=ag hft;clear hft;go_wp2_with fail;go_ret2;exact⟨o,tv,M,ML,cap,rfl,by rw[aDT.o];exact HF.o⟩
    .intro e w6 he IL U0 hs6 OM hen;rw[uP] at hen⊢;have tH:Kq (λq=>q=r) wr w6:=(Kq.grown U0).mono λq e=>(Option.some.inj e).symm;have h6:Op B S w C BL ps bl o 2 tv tl (sq+1) (last+1) se w6:=by
      have hr:=VQ.o;have hw:=H3.hk.size;refine HO.kq (HO.hc.kq tH λq hq e=>?_) tH λq e=> .inr ⟨?_,λhm=>?_,λhm=>?_,λhm=>?_⟩
      .have:=HO.lS q hq;have e:q=r:=e;omega
      .have e:q=r:=e;omega
      .have:=H3.lt q hm;have e:q=r:=e;omega
      .have:=H3.hT.lt q hm;have e:q=r:=e;omega
      .have:=(H3.hR.aN o.R rfl).2;have e:q=r:=e;omega
     have BQ:=ag h6;have HR6:=IL;have NH:=OM;have HCa:=ag (Jn h6);have hp:e.t.p<102:=by have h1:=zT HR6.SQ.uq he.o.1;have h2:=HVw.o e.t.p;rw[h1] at h2;exact HV.o e.t.p (sk e) h2.symm
     have ip:=bq (e.t.p:Int) ⟨ae,ae⟩;have jU:¬(102:Int)<=(e.t.p:Int):=ae;have wL:decide ((102:Int)<=(e.t.p:Int))=false:=ey jU;clear tH h6 IL OM U0 he;go_wp2_with fail;refine HCa.mono ?_;rintro e' w7 ⟨rfl,jr⟩;obtain⟨uB,CU,HL7⟩:=cp (BQ.on jr) (HR6.on jr) (show w7.rangeLeft o.SE r<wr.rangeLeft o.SE r by rw[HR6.o.1.ug jr];exact NH.o);clear jr hen;go_wp2_with fail;go_roundw
     case rel=>exact⟨_,CU,uB⟩
     case measure=>exact HL7.o
end
end
section
open RowKit dY Opn
def arR (V:Nat->Option (Tg×List UInt8)) (sq ep:Nat) L:=
 ∃t d,L=Tg.page t d/\Tg.Right t/\d.length=64/\(t.k=2↔t.p=0)/\t.s<sq/\t.e<=ep/\∃x,V t.p=some x/\t.s<=x.1.s/\(t.s=x.1.s->t=x.1/\d=x.2)
namespace Opn
theorem QK {V sq ep L} (h:arR V sq ep L):Tg.fZ L=0/\L.length=96/\Tg.Right (Tg.fC L)/\(Tg.jS L).length=64/\L=Tg.page (Tg.fC L) (Tg.jS L)/\((Tg.fC L).k=2↔(Tg.fC L).p=0)/\(Tg.fC L).s<sq/\(Tg.fC L).e<=ep/\∃x,V (Tg.fC L).p=some x/\(Tg.fC L).s<=x.1.s/\((Tg.fC L).s=x.1.s->Tg.fC L=x.1/\Tg.jS L=x.2):=by obtain⟨t,d,rfl,h1,h2,h3,h4,h5,h6⟩:=h;obtain⟨r1,r2,r3⟩:=Tg.F9 h1 (pay:=d) (by rw[h2];decide);rw[r1,r2];exact⟨r3,by rw[Tg.rX,h2],h1,h2,rfl,h3,h4,h5,h6⟩
structure Sd f last tl:Prop where
 fc:Fc 16 f
 no:f.no=[]
 go:f.go=[]
 gh:∀L,f.g.gh L->arR (vw f) f.seq last L
 ep:f.ep=last+1
 s0:∃t,vw f 0=some (t,ig tl)/\t.e=last/\t.s+1=f.seq
 key:∀q,(vw f q).isSome=true->q<102
 u:Uq f.se
 z0:Zi 16 0 f.g (f.se++f.no) f.seq
 s7:f.seq<=7
section
variable {f:Fm} {last:Nat} {tl:List UInt8}
theorem Sd.pg (h:Sd f last tl) {k i L} (hk:k<16) (hi:i<8) (hL:(f.g.bl k).qB i=some L):arR (vw f) f.seq last L:=h.gh L (h.fc.fi.al k i L hk hi hL)
theorem Sd.md (h:Sd f last tl):(f.g.bl 16).bad=false:=by
 cases hb:(f.g.bl 16).bad with
 |false=>rfl
 |true=>
  obtain⟨t,d,h1,_,h2,_⟩:=h.gh _ (h.fc.fi.gt hb []);have h3:=congrArg List.length h1;rw[Tg.rX,h2] at h3;cases h3
theorem Sd.n4 (h:Sd f last tl) {k} (hk:k<16):(Gc.at_ f.g.l k).st≠4:=λe=>by
 have h1:=h.fc.fi.md h.md;have hlen:=h.fc.fi.w.len;unfold Gc.count at h1;rw[List.length_eq_zero_iff,List.filter_eq_nil_iff] at h1;grind[Gc.at_]
theorem Sd.st01 (h:Sd f last tl) {k} (hk:k<16):((Gc.at_ f.g.l k).st=0\/(Gc.at_ f.g.l k).st=1)/\(Gc.at_ f.g.l k).aC=1:=by
 have h1:=h.z0.cs;have h2:=h.s7;have h3:cost (Gc.at_ f.g.l k)=0:=by
  rcases Nat.eq_zero_or_pos (cost (Gc.at_ f.g.l k)) with e|e
  .exact e
  .have h4:=Xb (c:=λq=>if q=k then 1 else 0) (d:=λq=>cost (Gc.at_ f.g.l q)) (n:=16) (b:=0) hk (λi _ hi=>by grind) (by rw[ev rfl];exact e);have h5:1<=dm.iK (λq=>if q=k then 1 else 0) 16:=by
    have h6:∀n,k<n->1<=dm.iK (λq=>if q=k then 1 else 0) n:=by
     intro n
     induction n with
     |zero=>intro h;omega
     |succ m ih=>
      intro hm;show 1<=dm.iK (λq=>if q=k then 1 else 0) m+if m=k then 1 else 0
      grind
    exact h6 16 hk
   unfold costs at h1;omega
 have h4:=h.n4 hk;have h5:=h.z0.we k hk h4;unfold cost at h3;rw[eo h4] at h3;have h6:=(h.fc.fi.w.bk k hk).st;grind
theorem Sd.gd (h:Sd f last tl) (hs:f.seq<=1000000):Gd 16 f.g.bl:=by
 have ER:=h.fc.sq;have UU:=h.ep;refine⟨λk i L hk hi hL=>?_,λk hk=>(h.fc.fi.w.bk k hk).bad (h.n4 hk),λk hk=>?_⟩
 .obtain⟨h1,h2,h3,h4,_,h5,h6,h7,_⟩:=QK (h.pg hk hi hL);have:=h3.2.1;grind
 .have:=(h.fc.fi.w.bk k hk).we;have:=(h.fc.fi.w.bk k hk).wn;omega
theorem Sd.ent (h:Sd f last tl) {e} (he:e∈allL f.g.bl 16):e.b<16/\e.i<8/\(f.g.bl e.b).qB e.i=some (Tg.page e.t e.d)/\Tg.Right e.t/\e.d.length=64/\(e.t.k=2↔e.t.p=0)/\e.t.s<f.seq/\e.t.e<=last/\∃x,vw f e.t.p=some x/\e.t.s<=x.1.s/\(e.t.s=x.1.s->e.t=x.1/\e.d=x.2):=by obtain⟨h1,h2,L,h3,h4,h5⟩:=qI.1 he;obtain⟨_,_,k3,k4,k5,k6,k7,k8,k9⟩:=QK (h.pg h1 h2 h3);grind
theorem Sd.hold (h:Sd f last tl):aej (allL f.g.bl 16) (vw f) last (f.seq-1):=by
 refine⟨λe he=>?_,λp x hp=>?_,λe he=>(h.ent he).2.2.2.2.2.1,?_⟩
 .obtain⟨_,_,_,_,_,_,h7,h8,h9⟩:=h.ent he;exact⟨h8,ae,h9⟩
 .obtain⟨e,he,hd,ht⟩:=DK hp;have hm:e∈f.se:=by unfold jw at he;rw[h.no,h.go] at he;exact(dW (show aI f.se p=some e from he)).1
  have hpk:e.t.p=p:=by unfold jw at he;rw[h.no,h.go] at he;exact(dW (show aI f.se p=some e from he)).2
  have BR:e∈f.se++f.no:=List.mem_append_left _ hm;have hgp:=h.fc.fi.pg e BR;have zJ:=h.fc.fi.ok e BR;have aT:=h.fc.fi.lt BR;obtain⟨r1,r2,_⟩:=Tg.F9 zJ.rt (pay:=e.d) (by rw[zJ.len];decide);exact⟨by rw[<-ht];exact hpk,e,qI.2 ⟨aT,hgp.i8,_,hgp.pg,r1.symm,r2.symm⟩,ht,hd⟩
 .obtain⟨t,h1,h2,h3⟩:=h.s0;grind
theorem Sd.few (h:Sd f last tl) {k}:inB (bf (allL f.g.bl 16)) k<=8:=by
 obtain⟨hu,yf,_⟩:=h.hold.Aa;have hn:(bf (allL f.g.bl 16)).Nodup:=ng hu;have h1:(((bf (allL f.g.bl 16)).filter λe=>e.b==k).map λe=>e.i).Nodup:=by
  have h2:((bf (allL f.g.bl 16)).filter λe:En=>e.b==k).Nodup:=hn.filter λe:En=>e.b==k;have h3:∀e∈(bf (allL f.g.bl 16)).filter λe:En=>e.b==k,e∈allL f.g.bl 16/\e.b=k:=λe he=>by grind
  generalize (bf (allL f.g.bl 16)).filter (λe:En=>e.b==k)=l at h2 h3;clear hn yf hu
  induction l with
  |nil=>exact List.nodup_nil
  |cons a t ih=>
   rw[cR] at h2;rw[cE,cR];refine⟨λhm=>?_,ih h2.2 λe he=>h3 e (List.mem_cons_of_mem _ he)⟩;obtain⟨y,hy,e⟩:=bw.1 hm;obtain⟨h4,h5⟩:=h3 a au;obtain⟨h6,h7⟩:=h3 y (List.mem_cons_of_mem _ hy);have:=art (qI.1 h4).2.2 (qI.1 h6).2.2 (by rw[h5,h7]) e.symm;exact h2.1 (this▸hy)
 have h2:=vV (l':=cz 8) h1 λi hi=>by obtain⟨e,he,rfl⟩:=bw.1 hi;exact List.mem_range.2 (qI.1 (yf e (List.mem_filter.1 he).1)).2.1
 rw[bO,List.length_range] at h2;exact h2
theorem abR {bl k} (hk:k<16):(pz bl 16).getD k false=frB bl k 8:=by grind[Opn.pz]
theorem Uo {bl k}:frB bl k 8=true↔∀i,i<8->(bl k).qB i=none:=by
 unfold frB;rw[List.all_eq_true];constructor
 .intro h i hi;have:=h i (List.mem_range.2 hi)
  simpa using this
 grind
theorem Sd.free (h:Sd f last tl) {k} (hf:frB f.g.bl k 8=true):inB (bf (allL f.g.bl 16)) k=0:=by
 obtain⟨_,yf,_⟩:=h.hold.Aa;unfold inB;rw[List.length_eq_zero_iff,List.filter_eq_nil_iff];intro e he;obtain⟨_,h2,L,h3,_⟩:=qI.1 (yf e he);intro hb;have hb:e.b=k:=by simpa using hb
 rw[hb,Uo.1 hf e.i h2] at h3;cases h3
theorem Sd.fr0 (h:Sd f last tl) {k} (hk:k<16) (hs:(Gc.at_ f.g.l k).st=0):frB f.g.bl k 8=true:=by have hn:=((h.fc.fi.w.bk k hk).fr hs).2;exact Uo.2 λi hi=>(h.fc.fi.er k hk (h.n4 hk) i hi).2 ae
theorem Sd.idle (h:Sd f last tl):∃k,k<16/\inB (bf (allL f.g.bl 16)) k=0:=by
 have h1:3<=Gc.count 0 f.g.l:=by have:=h.fc.fr;have:=h.fc.fi.md h.md;unfold qn at*;omega
 rw[Gc.vZ,h.fc.fi.w.len] at h1;refine Classical.byContradiction λhno=>?_;have h2:∀k,k<16->(if (Gc.at_ f.g.l k).st=0 then 1 else 0)<=0:=λk hk=>by
  split
  .rename_i hs;exact absurd ⟨k,hk,h.free (h.fr0 hk hs)⟩ hno
  .exact bp 0
 have:=dm.alK h2;omega
def Sz (f:Fm) (o:Oa) (M ML cap:Nat) (tv:Value) (tl:List UInt8) (P:List UInt8->Prop):=
 Am o ⟨M,ML,f.g.C,f.g.BL,cap,f.g.ps,f.g.bl,bW f.g.bl (pz f.g.bl 16) (qV (bf (allL f.g.bl 16))) 16,-1,2,0,decide (4<(Gc.greatest (bW f.g.bl (pz f.g.bl 16) (qV (bf (allL f.g.bl 16))) 16):Int)-Gc.least (bW f.g.bl (pz f.g.bl 16) (qV (bf (allL f.g.bl 16))) 16)),P⟩ (bf (allL f.g.bl 16)) f.seq f.ep tv tl
theorem Sd.at_ (h:Sd f last tl) {k} (hk:k<16):Gc.at_ (bW f.g.bl (pz f.g.bl 16) (qV (bf (allL f.g.bl 16))) 16) k=if frB f.g.bl k 8 then⟨0,0,(f.g.bl k).aC,0⟩ else if 0<inB (bf (allL f.g.bl 16)) k then⟨2,inB (bf (allL f.g.bl 16)) k,(f.g.bl k).aC,0⟩ else⟨3,0,(f.g.bl k).aC,0⟩:=by rw[yV _ _ _ hk,yQ,(h.fc.fi.w.bk k hk).bad (h.n4 hk),abR hk,Yf _ hk];rfl
theorem Sd.ziO (h:Sd f last tl) o M ML cap tv P:Zi 16 8 (Sz f o M ML cap tv tl P).g ((Sz f o M ML cap tv tl P).se++(Sz f o M ML cap tv tl P).no) f.seq:=by
 obtain⟨hu,yf,hvw⟩:=h.hold.Aa;have uQ:=λk (hk:k<16)=>h.at_ hk;have hst:∀k,k<16->(Gc.at_ (Sz f o M ML cap tv tl P).g.l k).st=2->(Gc.at_ f.g.l k).st=1:=λk hk h2=>by
  have h2:(Gc.at_ (bW f.g.bl (pz f.g.bl 16) (qV (bf (allL f.g.bl 16))) 16) k).st=2:=h2;rcases(h.st01 hk).1 with e|e
  .rw[uQ k hk,h.fr0 hk e] at h2;cases h2
  .exact e
 have TT:∀k,k<16->(Gc.at_ f.g.l k).st=1->f.g.opn=(k:Int):=λk hk e=>((h.fc.fi.w.bk k hk).op e).1;refine⟨⟨λ_=>f.seq,λq hq _=>?_,λe he _=>?_,λq r hq hr di h1 h2=>?_⟩,λe he=>?_,λq hq _=>?_,?_⟩
 .show f.seq+Hm (Sz f o M ML cap tv tl P).g<=f.seq;rw[show Hm (Sz f o M ML cap tv tl P).g=0 from ev rfl];exact bp _
 .rw[show(Sz f o M ML cap tv tl P).no=[] from rfl,cC] at he;exact(h.ent (yf e he)).2.2.2.2.2.2.1
 .grind
 .rw[show(Sz f o M ML cap tv tl P).no=[] from rfl,cC] at he;exact(h.ent (yf e he)).2.2.2.2.2.2.1
 .show 1<=(Gc.at_ (bW f.g.bl (pz f.g.bl 16) (qV (bf (allL f.g.bl 16))) 16) q).aC;rw[yV _ _ _ hq,Cc,(h.fc.fi.w.bk q hq).we,(h.st01 hq).2];exact bp 1
 .have hc:∀q,q<16->cost (Gc.at_ (Sz f o M ML cap tv tl P).g.l q)<=if (q:Int)=f.g.opn then 1 else 0:=λq hq=>by
   show cost (Gc.at_ (bW f.g.bl (pz f.g.bl 16) (qV (bf (allL f.g.bl 16))) 16) q)<=_;have hw:(f.g.bl q).aC=1:=by rw[(h.fc.fi.w.bk q hq).we,(h.st01 hq).2]
   rw[uQ q hq];rcases(h.st01 hq).1 with e|e
   .rw[h.fr0 hq e,ev rfl];show cost ⟨0,0,(f.g.bl q).aC,0⟩<=_;rw[hw];exact bN _
   .rw[ev (TT q hq e).symm]
    split
    .rw[hw];exact bN 1
    .split
     .rw[hw];exact bp 1
     .rw[hw];exact bp 1
  have h1:∀n,dm.iK (λq=>if (q:Int)=f.g.opn then 1 else 0) n<=1/\((n:Int)<=f.g.opn->dm.iK (λq=>if (q:Int)=f.g.opn then 1 else 0) n=0):=by
   intro n
   induction n with
   |zero=>exact⟨bN 1,λ_=>rfl⟩
   |succ m ih=>
    show dm.iK (λq=>if (q:Int)=f.g.opn then 1 else 0) m+(if (m:Int)=f.g.opn then 1 else 0)<=1/\(_->dm.iK (λq=>if (q:Int)=f.g.opn then 1 else 0) m+(if (m:Int)=f.g.opn then 1 else 0)=0);grind
  have h2:=vY (c:=λq=>cost (Gc.at_ (Sz f o M ML cap tv tl P).g.l q)) (k:=16) hc;have h3:=(h1 16).1;rw[show Hm (Sz f o M ML cap tv tl P).g=0 from ev rfl];unfold costs;have:=h.fc.sq;omega
theorem Sd.fcO (h:Sd f last tl) o M ML cap tv {P} (hP:∀L,f.g.gh L->P L):Fc 16 (Sz f o M ML cap tv tl P):=by
 obtain⟨hu,yf,hvw⟩:=h.hold.Aa;have hlen:(bW f.g.bl (pz f.g.bl 16) (qV (bf (allL f.g.bl 16))) 16).length=16:=by simp[bW]
 have IU:∀k,k<16->(Gc.at_ (bW f.g.bl (pz f.g.bl 16) (qV (bf (allL f.g.bl 16))) 16) k).aC=(Gc.at_ f.g.l k).aC:=λk hk=>by rw[yV _ _ _ hk,Cc];exact(h.fc.fi.w.bk k hk).we
 have aeu:∀i j,i<16->j<16->(Gc.at_ (bW f.g.bl (pz f.g.bl 16) (qV (bf (allL f.g.bl 16))) 16) i).aC<=(Gc.at_ (bW f.g.bl (pz f.g.bl 16) (qV (bf (allL f.g.bl 16))) 16) j).aC+4:=λi j hi hj=>by rw[IU i hi,IU j hj];exact h.fc.fi.w.gap i j hi hj (h.n4 hi) (h.n4 hj)
 have al0:∀k,((bf (allL f.g.bl 16)++[]).map (λe:En=>e.b)++[]).count k=inB (bf (allL f.g.bl 16)) k:=λk=>by
  rw[cC,cC];unfold inB
  induction bf (allL f.g.bl 16) with
  |nil=>rfl
  |cons a t ih=>
   grind
 have aHE:(bf (allL f.g.bl 16)).length<=f.se.length:=Z9 hu λq hq=>by
  have h1:=hvw q
  cases hz:aI (bf (allL f.g.bl 16)) q with
  |none=>rw[hz] at hq;cases hq
  |some e=>
   rw[hz] at h1;have h2:=G6 f q;rw[<-h1,h.no,h.go] at h2;have h2:Option.map sk (some e)=(aI f.se q).map sk:=h2
   cases hy:aI f.se q with
   |none=>rw[hy] at h2;cases h2
   |some y=>rfl
 have pR:=h.fc.cap;rw[h.no,cC] at pR;have ER:=h.fc.sq;have U4:Gc.count 4 (bW f.g.bl (pz f.g.bl 16) (qV (bf (allL f.g.bl 16))) 16)=0:=by
  rw[Gc.vZ,hlen];refine(dm.xu (d:=λ_=>0) λq hq=>?_).trans ((BP 0 16).trans (Nat.mul_zero _));rw[h.at_ hq]
  grind
 refine⟨⟨⟨aB,aB⟩,⟨hlen,λk hk=>?_,λi j hi hj _ _=>aeu i j hi hj,.inl rfl,?_,λx hx=>?_,?_⟩,λe he=>?_,λe he=>?_,rfl,rfl,λk i L hk hi hL=>hP L (h.fc.fi.al k i L hk hi hL),λk hk _=>h.fc.fi.er k hk (h.n4 hk),?_,h.fc.fi.sk,λe=>?_,λ_=>U4⟩,?_,?_,rfl,ER,λx hx=>(by cases hx),rfl,rfl,h.ziO o M ML cap tv P⟩
 .have hb:=h.fc.fi.w.bk k hk;show dm.BkI (-1) k (Gc.at_ (bW f.g.bl (pz f.g.bl 16) (qV (bf (allL f.g.bl 16))) 16) k) (f.g.bl k) (((bf (allL f.g.bl 16)++[]).map (λe:En=>e.b)++[]).count k) (100000*f.seq);rw[al0,h.at_ hk];have hwn:(f.g.bl k).aC<=100000*f.seq:=by rw[hb.we];exact hb.wn
  split
  .rename_i hf;have h0:(f.g.bl k).nx=0:=by have:=(h.fc.fi.er k hk (h.n4 hk) 0 aB).1 (Uo.1 hf 0 aB);omega
   exact⟨bN 4,(h.free hf).symm,bN 8,bN 8,λe=>(by cases e),λ_=>⟨rfl,h0⟩,λe=>(by cases e),λe=>(by cases e),rfl,hwn,λ_=>hb.bad (h.n4 hk),λ_=>hb.brk (h.n4 hk),λe=>(by cases e)⟩
  .split
   .rename_i hp;exact⟨(by decide:2<=4),rfl,bN 8,h.few,λe=>(by cases e),λe=>(by cases e),λ_=>hp,λe=>(by cases e),rfl,hwn,λ_=>hb.bad (h.n4 hk),λ_=>hb.brk (h.n4 hk),λe=>(by cases e)⟩
   .rename_i hp;exact⟨(by decide:3<=4),(show 0=_ by omega),bN 8,bN 8,λe=>(by cases e),λe=>(by cases e),λe=>(by cases e),λ_=>rfl,rfl,hwn,λ_=>hb.bad (h.n4 hk),λ_=>hb.brk (h.n4 hk),λe=>(by cases e)⟩
 .show decide _=false;rw[decide_eq_false_iff_not];unfold Gc.greatest Gc.least;rw[hlen];generalize bW f.g.bl (pz f.g.bl 16) (qV (bf (allL f.g.bl 16))) 16=l at aeu
  cases h1:Gc.best Gc.good Gc.more l 16 with
  |none=>
   show¬(4:Int)<((0:Nat):Int)-_;omega
  |some j=>
   obtain⟨hj,hgj⟩:=Gc.gU h1
   cases h2:Gc.best Gc.good Gc.iy l 16 with
   |none=>
    rw[Gc.vX h2 j hj] at hgj;cases hgj
   |some i=>
    obtain⟨hi,_⟩:=Gc.gU h2;have:=aeu j i hj hi;show¬(4:Int)<((Gc.at_ l j).aC:Int)-((Gc.at_ l i).aC:Int);omega
 .rw[cC] at hx;obtain⟨e,he,rfl⟩:=bw.1 hx;have he:e∈bf (allL f.g.bl 16)++[]:=he;rw[cC] at he;exact(qI.1 (yf e he)).1
 .rw[cC,bO];show(bf (allL f.g.bl 16)++[]).length<=100000*f.seq;rw[cC];omega
 .have he:e∈bf (allL f.g.bl 16)++[]:=he;rw[cC] at he;obtain⟨h1,h2,h3,_⟩:=h.ent (yf e he);refine⟨h3,?_,h2⟩;show e.i<(f.g.bl e.b).nx;refine Nat.lt_of_not_le λhle=>?_;have:=(h.fc.fi.er e.b h1 (h.n4 h1) e.i h2).2 hle;rw[this] at h3;cases h3
 .have he:e∈bf (allL f.g.bl 16)++[]:=he;rw[cC] at he;obtain⟨_,_,_,h4,h5,_⟩:=h.ent (yf e he);exact⟨h4,h5⟩
 .show Gc.count 4 (bW f.g.bl (pz f.g.bl 16) (qV (bf (allL f.g.bl 16))) 16)+(f.g.bl 16).nx<=2;rw[U4];have:=h.fc.fi.lf;omega
 .have e:(f.g.bl 16).bad=true:=e;rw[h.md] at e;cases e
 .show 3<=Gc.count 0 (bW f.g.bl (pz f.g.bl 16) (qV (bf (allL f.g.bl 16))) 16)+Gc.count 4 (bW f.g.bl (pz f.g.bl 16) (qV (bf (allL f.g.bl 16))) 16);refine bB ?_ (Nat.le_add_right _ _);have h1:3<=Gc.count 0 f.g.l:=by have:=h.fc.fr;have:=h.fc.fi.md h.md;unfold qn at*;omega
  rw[Gc.vZ,h.fc.fi.w.len] at h1;rw[Gc.vZ,hlen];refine bB h1 ?_;have hle:∀k,k<=16->dm.iK (λi=>if (Gc.at_ f.g.l i).st=0 then 1 else 0) k<=dm.iK (λi=>if (Gc.at_ (bW f.g.bl (pz f.g.bl 16) (qV (bf (allL f.g.bl 16))) 16) i).st=0 then 1 else 0) k:=by
   intro k
   induction k with
   |zero=>exact λ_=>bp 0
   |succ k ih=>
    intro hk;have h2:=ih ae;show _+(if (Gc.at_ f.g.l k).st=0 then 1 else 0)<=_+(if (Gc.at_ (bW f.g.bl (pz f.g.bl 16) (qV (bf (allL f.g.bl 16))) 16) k).st=0 then 1 else 0);by_cases hs:(Gc.at_ f.g.l k).st=0
    .have h3:(Gc.at_ (bW f.g.bl (pz f.g.bl 16) (qV (bf (allL f.g.bl 16))) 16) k).st=0:=by rw[h.at_ ae,h.fr0 ae hs];rfl
     rw[ev hs,ev h3];omega
    .rw[eo hs];omega
  exact hle 16 av
 .show(bf (allL f.g.bl 16)++[]).length+2<=8*(16-3);rw[cC];omega
theorem Sd.vwO (h:Sd f last tl) o M ML cap tv P q:vw (Sz f o M ML cap tv tl P) q=vw f q:=by obtain⟨_,_,hvw⟩:=h.hold.Aa;rw[G6];exact hvw q
end
end Opn
section
open Opn
variable {B last:Nat} {R:Nat->Prop} {w:World} {f:Fm} {tl:List UInt8}
end
end
section
namespace zO
inductive Rl where
 |dat (n:Nat)
 |ptr (m:Nat)
deriving DecidableEq
open Rl
def kid m j:=if m=0 then dat (6+j) else if m=1 then ptr (2+j) else dat (38+32*(m-2)+j)
def ups n:=if n<6 then[] else if n<38 then[0] else[1,2+(n-38)/32]
structure Io where
 d:List Nat
 s:Nat
 b:Nat
def qB (ds:List (List UInt8)) p:=ds.getD (p-2) []
structure Rp (rs:List Rl) (L:Rl->Nat) (ds:List (List UInt8)) (io:Io):Prop where
 len:ds.length=rs.length
 nod:rs.Nodup
 dl:io.d.length=6
 rd:∀n,dat n∈rs->n<1062
 rp:∀m,ptr m∈rs->m<34
 sz:∀x∈ds,x.length=64
 lnk:∀r,L r≠0->∃i,rs[i]?=some r/\L r=i+2
 pt:∀i m,rs[i]?=some (ptr m)->∀j,j<32->Pt.two (ds.getD i []) j=L (kid m j)
 d:∀k,k<6->io.d.getD k 0=L (dat k)
 s:io.s=L (ptr 0)
 b:io.b=L (ptr 1)
variable {rs:List Rl} {L:Rl->Nat} {ds:List (List UInt8)} {io:Io}
structure Rep rs L ds io:Prop where
 rp:Rp rs L ds io
 all:∀r∈rs,L r≠0
 up:∀n,L (dat n)≠0->∀m∈ups n,L (ptr m)≠0
 dn:∀m,L (ptr m)≠0->∃n,L (dat n)≠0/\m∈ups n
theorem Rep.zero:Rep [] (λ_=>0) [] ⟨[0,0,0,0,0,0],0,0⟩:=by
 refine⟨⟨rfl,List.nodup_nil,rfl,λn h=>?_,λn h=>?_,λx h=>?_,λr h=>absurd rfl h,λi m h=>?_,λk hk=>?_,rfl,rfl⟩,λr h=>?_,λn h=>absurd rfl h,λn h=>absurd rfl h⟩
 .cases h
 .cases h
 .cases h
 .simp at h
 .grind
 .cases h
def ptP ds p k:=if p=0 then 0 else Pt.two (qB ds p) k
theorem Rp.ptr (h:Rp rs L ds io) {m j} (hm:L (ptr m)≠0) (hj:j<32):ptP ds (L (ptr m)) j=L (kid m j):=by obtain⟨i,hi,e⟩:=h.lnk _ hm;grind[zO.ptP,zO.qB,zO.Rp.pt]
end zO
end
section
open fG zO
noncomputable def Ps.nx (s:Ps):=open Classical in if h:∃n,s.Nx n then Classical.choose h else 0
theorem Ps.acy {s:Ps} {n} (h:s.Nx n):s.nx=n:=by unfold Ps.nx;rw[dif_pos ⟨n,h⟩];grind[Ps.Nx.one]
theorem Ps.axZ {s:Ps} (h:s.us.length<s.np):s.Nx s.nx:=by obtain⟨n,hn⟩:=Ps.Nx.ex h;rw[Ps.acy hn];exact hn
namespace aO
def ptP (g:Nat->List UInt8) p k:=if p=0 then 0 else Pt.two (g p) k
def Dq (g:Nat->List UInt8) (io:Io) n:=if n<6 then io.d.getD n 0 else if n<38 then ptP g io.s (n-6) else ptP g (ptP g io.b ((n-38)/32)) ((n-38)%32)
def Gd (s:Ps) p:=p=0\/p∈s.us
structure Wf s (io:Io):Prop where
 dl:io.d.length=6
 wd:∀n,n<6->Gd s (io.d.getD n 0)
 s0:io.s=0
 b0:io.b=0
theorem Gd.there {s p} (h:Gd s p) (h0:p≠0):s.There p:=by
 rcases h with h|h
 .exact absurd h h0
 .exact .inr h
theorem Wf.at_ {s io} (h:Wf s io) {n} (_:n<1062):Gd s (Dq s.g io n):=by
 unfold Dq
 split
 .exact h.wd n ae
 .split
  .exact .inl (by rw[h.s0];exact ev rfl)
  .exact .inl (by rw[h.b0,show ptP s.g 0 ((n-38)/32)=0 from ev rfl];exact ev rfl)
noncomputable def UC (s:Ps) p k tq:=
 let q:=if p=0 then s.nx else p
 let t:=if p=0 then s.add s.nx else s
 let x:=Pt.put (t.g q) k tq
 if Pt.pts x=[] then(t.del q,0) else(t.put q x,q)
noncomputable def CB (s:Ps) (io:Io) n tq:=
 if n<6 then(s,{io with d:=io.d.set n tq})
 else if n<38 then((UC s io.s (n-6) tq).1,{io with s:=(UC s io.s (n-6) tq).2})
 else
  let r:=UC s (ptP s.g io.b ((n-38)/32)) ((n-38)%32) tq
  let q:=UC r.1 io.b ((n-38)/32) r.2
  (q.1,{io with b:=q.2})
end aO
namespace aO
def ptrs (g:Nat->List UInt8):Nat->Nat->Nat->List (Nat×Nat×Nat)
 |0,p,fr=>if p=0 then[] else[(fr,p,0)]
 |lv+1,p,fr=>if p=0 then[] else(fr,p,lv+1)::(Pt.pts (g p)).flatMap λx=>ptrs g lv x.2 (fr+x.1*(if lv=1 then 32 else 1))
def yl (g:Nat->List UInt8) (io:Io):=(cz 6).flatMap (λk=>ptrs g 0 (io.d.getD k 0) k)++ptrs g 1 io.s 6++ptrs g 2 io.b 38
def GdL s
 |0,p=>Gd s p
 |_+1,p=>p=0
theorem Wf.gs {s io} (h:Wf s io):GdL s 1 io.s:=h.s0
theorem Wf.gb {s io} (h:Wf s io):GdL s 2 io.b:=h.b0
theorem aeJ {x k j v} (h:(j,v)∈Pt.Nu x k):j<k/\v=Pt.two x j/\v≠0:=by induction k<;>grind[Pt.Nu]
theorem amq {x} (hx:x.length=64) {j v} (h:(j,v)∈Pt.pts x):j<32/\v=Pt.two x j/\v≠0:=by unfold Pt.pts at h;rw[hx,ev (show Ino.dO (64:Nat) from .inl rfl)] at h;exact aeJ h
end aO
end
section
open RowKit
structure Nf where
 k:Int
 l:Int
 s:Int
 io:zO.Io
def nfL (P:Nat) (f:Nf):=[.pointer (some ⟨P,0,none⟩),O aa f.k,O aa f.l,O aa f.s]++f.io.d.map fG.iV++[fG.iV f.io.s,fG.iV f.io.b]
structure vg w F P f:Prop where
 blk:aF w F 204 (nfL P f).toArray
 dl:f.io.d.length=6
section
variable {w w':World} {F P:Nat} {f:Nf}
theorem vg.on (h:vg w F P f) (hb:Below w w w'):vg w' F P f:=⟨aF.ah h.blk hb,h.dl⟩
theorem vg.kq {T} (h:vg w F P f) (hk:Kq T w w') (hF:¬T F):vg w' F P f:=⟨aF.kq h.blk hk hF,h.dl⟩
theorem vg.lt (h:vg w F P f):F<w:=aF.lt h.blk
theorem vg.at_ (h:vg w F P f) {i v} (hv:(nfL P f)[i]?=some v):w.cell? ⟨F,i,none⟩=some v:=aF.aj h.blk (by rw[List.getElem?_toArray];exact hv)
theorem vg.p (h:vg w F P f):w.cell? (F,0)=some (.pointer (P,0)):=h.at_ rfl
theorem vg.d (h:vg w F P f) {n} (hn:n<6):w.cell? (F,4+n)=some (O aa (f.io.d.getD n 0)):=h.at_ (by have hd:=h.dl;unfold nfL;rw[List.getElem?_append_left (by grind),List.getElem?_append_right (by grind)];simp only[cD,cV,Nat.zero_add,Nat.reduceAdd,Nat.add_sub_cancel_left,List.getElem?_map,db];rw[cX ae];rfl)
theorem vg.s (h:vg w F P f):w.cell? (F,10)=some (O aa f.io.s):=h.at_ (by have hd:=h.dl;unfold nfL;rw[List.getElem?_append_right (by grind)];simp only[bE,bO,cD,cV,hd];rfl)
theorem vg.b (h:vg w F P f):w.cell? (F,11)=some (O aa f.io.b):=h.at_ (by have hd:=h.dl;unfold nfL;rw[List.getElem?_append_right (by grind)];simp only[bE,bO,cD,cV,hd];rfl)
end
end
section
open RowKit fG aO
variable {NB B P:Nat} {Q:Nat->Prop} {w w':World} {f:Fm} {s:Ps}
def vO (NB B:Nat) (Q:Nat->Prop) (P:Nat) (f:Fm) (s:Ps) (v:Value) (w:World) (e:Ending) w':=e=ar v/\bZ NB B Q w' P f s/\Kq Q w w'
end
section
open RowKit
attribute [local go_sem] Oper.semAt_some
end
section
open RowKit
def Calm (Q:Exit->Act->World->Prop):Exit->Act->World->Prop
 | .normal,a,w=>Q .normal a w
 |_,_,_=>False
theorem Calm.normal {Q a w} (h:Q .normal a w):Calm Q .normal a w:=h
theorem Calm.imp {Q}:∀e a w,Calm Q e a w->Q e a w:=λe a w h=>by
 cases e<;>first|exact h|exact h.elim
end
section
open RowKit fG aO
variable {NB B P:Nat} {Q:Nat->Prop} {w w':World} {f:Fm} {s:Ps}
attribute [local go_sem] Oper.semAt_some
def ylV (x:Nat×Nat×Nat):Array Value:=#[O aa x.1,O aa x.2.1,O aa x.2.2]
structure JW (gy:Nat) lb total Q n J:Prop where
 jx:JX Q n J
 enters:∀args w,(callFunc gy args).run prog w= .ok (.enter gy args) w
 y:∀pre x X W,J pre X W->(pre++[x])<+:total->Calls prog gy (ylV x++lb) W λe W'=>e=ar (aq true)/\(∃X',J (pre++[x]) X' W'/\Grew X W X')/\Kq X W W'
def wG (NB B:Nat) (Q:Nat->Prop) (P:Nat) (f:Fm) (s:Ps) (J:List (Nat×Nat×Nat)->(Nat->Prop)->World->Prop) (pre:List (Nat×Nat×Nat)) (X:Nat->Prop) (w:World) (e:Ending) w':=
 e=ar (aq true)/\(∃X',J pre X' w'/\Grew X w X')/\bZ NB B Q w' P f s/\Kq (λq=>Q q\/X q) w w'
def aa5 (NB B:Nat) (Q:Nat->Prop) (F P:Nat) (f:Fm) (s:Ps) (gy:Nat) (lb:Array Value) (total:List (Nat×Nat×Nat)) (n:Nat) J lv:=
 ∀w p fr pre X,bZ NB B Q w P f s->w.cell? (aw F 0)=some (.pointer (aw P 0))->F<w->¬Q F->n<=w->(∀q,X q->¬Q q/\q≠F)->J pre X w->(pre++ptrs s.g lv p fr)<+:total->GdL s lv p->fr+1000*lv<=100000->
  Calls prog 237 #[F,O aa p,O aa fr,O aa lv,.func (.func gy) #[] lb] w (wG NB B Q P f s J (pre++ptrs s.g lv p fr) X w)
structure Nbx (Z F fr:Nat) lv yv w:Prop where
 b0:aF w Z 202 #[F]
 b1:aF w (Z+1) 3 #[O aa fr]
 b2:aF w (Z+2) 3 #[O aa lv]
 b3:aF w (Z+3) 265 #[yv]
 b4:aF w (Z+4) 4 #[aq false]
theorem Nbx.kq {Z F fr lv yv T} (h:Nbx Z F fr lv yv w) (hk:Kq T w w') (hT:∀q,Z<=q->q<Z+5->¬T q):Nbx Z F fr lv yv w':=
 ⟨h.b0.kq hk (hT _ ae ae),h.b1.kq hk (hT _ ae ae),h.b2.kq hk (hT _ ae ae),h.b3.kq hk (hT _ ae ae),h.b4.kq hk (hT _ ae ae)⟩
theorem Nbx.new (w:World) F fr lv yv:Nbx w F fr lv yv (((((w.alloc (.cells #[F] 202)).alloc (.cells #[O aa fr] 3)).alloc (.cells #[O aa lv] 3)).alloc (.cells #[yv] 265)).alloc (.cells #[aq false] 4)):=by have a1:=aF.new (w.alloc (.cells #[F] 202)) 3 #[O aa fr];have a2:=aF.new ((w.alloc (.cells #[F] 202)).alloc (.cells #[O aa fr] 3)) 3 #[O aa lv];have a3:=aF.new (((w.alloc (.cells #[F] 202)).alloc (.cells #[O aa fr] 3)).alloc (.cells #[O aa lv] 3)) 265 #[yv];have a4:=aF.new ((((w.alloc (.cells #[F] 202)).alloc (.cells #[O aa fr] 3)).alloc (.cells #[O aa lv] 3)).alloc (.cells #[yv] 265)) 4 #[aq false];simp only[bR] at a1 a2 a3 a4;exact⟨((((aF.new w _ _).alloc _).alloc _).alloc _).alloc _,((a1.alloc _).alloc _).alloc _,(a2.alloc _).alloc _,a3.alloc _,a4⟩
theorem Nv w o0 o1 o2 o3 o4:Below w.heap.size w (((((w.alloc o0).alloc o1).alloc o2).alloc o3).alloc o4):=
 ((((aE _ w).alloc av _).alloc au _).alloc (by simp;omega) _|>.alloc (by simp;omega) _).alloc (by simp;omega) _
theorem zH {J n m pre X T w w1 w2 w3} (h:bZ NB B Q w P f s) (hj:JX Q n J) (hXb:∀q,X q->q<w.heap.size) (hb:Below w w w1) (hn:n<=w)
  (h2:bZ NB B Q w2 P f s) (hk:Kq (λq=>Q q\/X q) w1 w2) (hx:∃X',J pre X' w2/\Grew X w1 X') (hs:Kq T w2 w3) (hT:∀q,T q->w<=q/\q<w+m) (hm:w1=w+m):
  wG NB B Q P f s J pre X w (.returned (aq true)) w3:=by
 obtain⟨X',wO,wP⟩:=hx;have jA:=hb.size;refine⟨rfl,⟨X',hj.kq _ _ _ _ T wO hs λq hq=>?_,λq hq=>?_⟩,h2.kq hs λq hq ht=>?_,((Kq.of hb).trans hk).aA hs λq hq=> .inr (hT q hq).1⟩
 .grind[Grew]
 .grind[Grew]
 grind[bZ]
theorem Yv {F gy n lb total J} (hy:JW gy lb total Q n J):aa5 NB B Q F P f s gy lb total n J 0:=by
 intro w p fr pre X h hF hFl _ hn hX hj iJ hg vk;obtain⟨HH,HJ,HY⟩:=cp h hj hy;have hb:=Nv w (.cells #[F] 202) (.cells #[O aa fr] 3) (.cells #[O aa 0] 3) (.cells #[.func (.func gy) #[] lb] 265) (.cells #[aq false] 4);obtain⟨HB,XF,HXb⟩:=cp hb (show Nbx w F fr 0 (.func (.func gy) #[] lb) _ from Nbx.new w F fr 0 (.func (.func gy) #[] lb)) (hy.jx.bd _ _ _ hj);have heg:=hy.enters;have HXQ:=ag hX;clear h hj hy hb hF hX hg vk;refine callsIn_wide (n:=9)|>.1 ?_;refine callsIn_of_wp_marks Tryz.func237 rfl trivial ?_ rfl;refine wpIn_wide.2 ?_;simp only[Tryz.ntmps237,cU,cD,cV,Nat.reduceAdd,Nat.reduceSub,dT,ee,List.push_toArray,ef,cP,dj];go_upto_region 1 with fail;have pG:=ag (show((((((w.alloc (.cells #[F] 202)).alloc (.cells #[O aa fr] 3)).alloc (.cells #[O aa 0] 3)).alloc (.cells #[.func (.func gy) #[] lb] 265)).alloc (.cells #[aq false] 4)).heap.size)=w.heap.size+5 by simp);generalize (((((w.alloc (.cells #[F] 202)).alloc (.cells #[O aa fr] 3)).alloc (.cells #[O aa 0] 3)).alloc (.cells #[.func (.func gy) #[] lb] 265)).alloc (.cells #[aq false] 4))=w1 at*;obtain⟨sV,UT⟩:=cn (HH.on HB) (HY.jx.on HJ HB);by_cases h0:p=0
 .have HE:=ag (show ptrs s.g 0 p fr=[] from ev h0);subst h0;have z4:=XF.b4.frozen 0;have z5:=XF.b4.aj (i:=0) rfl;have hst:Kq (λq=>q=w.heap.size+4) w1 (w1.setCell (w.heap.size+4,0) (aq true)):=Kq.one (w.heap.size+4,0) _;have yx:=ag (zH (m:=5) HH HY.jx HXb HB hn sV (Kq.refl (λq=>Q q\/X q) w1) ⟨X,UT,Grew.refl _ _⟩ hst (λq e=>ae) pG);have hz:=((XF.b4.set 0 (aq true)).aj (i:=0) rfl)
  have hz':(w1.setCell (w.heap.size+1+1+1+1,0) (aq true)).cell? (w.heap.size+1+1+1+1,0)=some (aq true):=hz;clear hst hz;go_wp2;refine⟨aq true,by simp[results,Tryz.results237,go_sem,hz'],?_⟩;rw[HE.o,cC];exact yx.o
 .have HE:=ag (show ptrs s.g 0 p fr=[(fr,p,0)] from eo h0);have aEs:=ag (show(pre++[(fr,p,0)])<+:total by rw[<-HE.o];exact iJ);have g0:((p:Int)==0)=false:=by rw[ew];omega
  have x1:=XF.b1.aj (i:=0) rfl;have x2:=XF.b2.aj (i:=0) rfl;have x3:=XF.b3.aj (i:=0) rfl;clear iJ h0;go_wp2_with fail;go_call(HY.y pre (fr,p,0) X w1 UT aEs) as e w2 ⟨rfl,wP,eU⟩;have aZ:=XF.kq eU (λq h1 h2 h3=>by have:=HXb.o q h3;omega);have y2:=aZ.b2.aj (i:=0) rfl;have z4:=aZ.b4.frozen 0;have z5:=aZ.b4.aj (i:=0) rfl;have hst:Kq (λq=>q=w.heap.size+4) w2 (w2.setCell (w.heap.size+4,0) (aq true)):=Kq.one (w.heap.size+4,0) _;have yx:=ag (zH (m:=5) HH HY.jx HXb HB hn (sV.kq eU λq h1 h2=>(HXQ.o q h2).1 h1) (eU.mono λq h=> .inr h) wP hst (λq e=>ae) pG);have hz:=((aZ.b4.set 0 (aq true)).aj (i:=0) rfl)
  have hz':(w2.setCell (w.heap.size+1+1+1+1,0) (aq true)).cell? (w.heap.size+1+1+1+1,0)=some (aq true):=hz;clear hst hz aZ eU wP x1 x2 x3;go_wp2;refine⟨aq true,by simp[results,Tryz.results237,go_sem,hz'],?_⟩;rw[HE.o];exact yx.o
theorem Yw {F gy n lv lb total J} (hy:JW gy lb total Q n J) (_:lv=0\/lv=1) (_:aa5 NB B Q F P f s gy lb total n J lv):aa5 NB B Q F P f s gy lb total n J (lv+1):=by
 intro w p fr pre X h hF hFl _ hn hX hj iJ hg vk;obtain⟨HG0,HE⟩:=cn (show p=0 from hg) (show ptrs s.g (lv+1) p fr=[] from by unfold ptrs;exact ev hg);obtain⟨L,hL⟩:=aW (lv+1);rw[<-hL] at HE vk iJ⊢;obtain⟨HH,HJ,HY⟩:=cp h hj hy;have hb:=Nv w (.cells #[F] 202) (.cells #[O aa fr] 3) (.cells #[O aa L] 3) (.cells #[.func (.func gy) #[] lb] 265) (.cells #[aq false] 4);obtain⟨HB,XF,HXb⟩:=cp hb (show Nbx w F fr (L:Int) (.func (.func gy) #[] lb) _ from Nbx.new w F fr (L:Int) (.func (.func gy) #[] lb)) (hy.jx.bd _ _ _ hj);have heg:=hy.enters;have HXQ:=ag hX;clear h hj hy hb hF hX hg vk iJ hL;refine callsIn_wide (n:=9)|>.1 ?_;refine callsIn_of_wp_marks Tryz.func237 rfl trivial ?_ rfl;refine wpIn_wide.2 ?_;simp only[Tryz.ntmps237,cU,cD,cV,Nat.reduceAdd,Nat.reduceSub,dT,ee,List.push_toArray,ef,cP,dj];go_upto_region 1 with fail;have pG:=ag (show((((((w.alloc (.cells #[F] 202)).alloc (.cells #[O aa fr] 3)).alloc (.cells #[O aa L] 3)).alloc (.cells #[.func (.func gy) #[] lb] 265)).alloc (.cells #[aq false] 4)).heap.size)=w.heap.size+5 by simp);generalize (((((w.alloc (.cells #[F] 202)).alloc (.cells #[O aa fr] 3)).alloc (.cells #[O aa L] 3)).alloc (.cells #[.func (.func gy) #[] lb] 265)).alloc (.cells #[aq false] 4))=w1 at*;obtain⟨sV,UT⟩:=cn (HH.on HB) (HY.jx.on HJ HB);have h0:p=0:=HG0.o;subst h0;have z4:=XF.b4.frozen 0;have z5:=XF.b4.aj (i:=0) rfl;have hst:Kq (λq=>q=w.heap.size+4) w1 (w1.setCell (w.heap.size+4,0) (aq true)):=Kq.one (w.heap.size+4,0) _;have yx:=ag (zH (m:=5) HH HY.jx HXb HB hn sV (Kq.refl (λq=>Q q\/X q) w1) ⟨X,UT,Grew.refl _ _⟩ hst (λq e=>ae) pG);have hz:=((XF.b4.set 0 (aq true)).aj (i:=0) rfl)
 have hz':(w1.setCell (w.heap.size+1+1+1+1,0) (aq true)).cell? (w.heap.size+1+1+1+1,0)=some (aq true):=hz;clear hst hz;go_wp2;refine⟨aq true,by simp[results,Tryz.results237,go_sem,hz'],?_⟩;rw[HE.o,cC];exact yx.o
end
section
open RowKit fG aO
variable {NB B P:Nat} {Q:Nat->Prop} {w w':World} {f:Fm} {s:Ps}
theorem aoH {n:Nat} (hn:n<1062):Ino.pF 64 n=0:=Ino.JV (.inl rfl) ae (by rw[Ino.air];omega)
theorem Uy {fi F} (h:bZ NB B Q w P f s) (hN:vg w F P fi) {n:Nat} (hn:n<6):
  Calls prog 135 #[F,O aa n] w (vO NB B Q P f s (O aa (Dq s.g fi.io n)) w):=by
 have hS:=ag (dV h);have he:=aoH (n:=n) ae;obtain⟨a,b,c⟩:Ino.lZ 64 (n:Int)=0/\Ino.qh 64 (n:Int)=n/\Ino.xK 64 (n:Int)=0:=by
  rcases Ino.qW he with⟨a,b,c,_⟩|⟨_,_,_,d,_⟩|⟨_,_,_,d⟩
  .exact⟨a,b,c⟩
  .omega
  .omega
 obtain⟨hT,HW,HN⟩:=cp (Ns 64 (n:Int) w ae ae) (show xJ 64 (n:Int)=ao #[.agg #[O aa 0,O aa n,O aa 0],O aa 0] by unfold xJ;rw[a,b,c,he]) hN;have hp:=hN.p;obtain⟨HL,JF⟩:=cn (show fi.io.d.getD n 0=Dq s.g fi.io n from(ev hn).symm) h;clear h hN he a b c
 go_in
 go_wp2_with fail;refine hS.cj ?_;go_wp2_with fail;go_call hT as e w1 ⟨rfl,bP⟩;rw[HW.o];obtain⟨bV,HN1⟩:=cn bP (HN.on bP);clear bP;go_upto_region 6 with fail;have df:=ag (bV.alloc bV.size (.cells #[O aa 0,O aa n,O aa 0] 267));have hq:=aF.new w1 267 #[O aa 0,O aa n,O aa 0];have q1:=hq.aj (i:=1) rfl;have HQ:=ag q1;have hd:=(HN1.on ((aE w1 w1).alloc av (.cells #[O aa 0,O aa n,O aa 0] 267))).d hn;rw[HL.o] at hd;have HD:=ag hd;obtain⟨L,hL⟩:=aW (Dq s.g fi.io n);rw[<-hL] at HD;have HLe:=ag hL;clear hq q1 hd hp hL HL;generalize w1.alloc (.cells #[O aa 0,O aa n,O aa 0] 267)=W2 at*;generalize w1.heap.size=Q at*;have g0:(0:Int)<=(n:Int):=ae;have g1:(n:Int)<6:=ae;refine iE (λW'=>W'.cell? (aw Q 1)=some (O aa n)/\W'.cell? (aw F (4+n))=some (O aa (L:Nat))) ⟨HQ,HD⟩ (λaY=>?_);refine dw 0 F 0 ?_;refine aS 1 Q 1 ?_;refine jV 2 (n:Int) (λ_ aK=>aK.1) ?_;refine aS 3 F 0 ?_;refine aS 4 F 1 ?_;refine aS 5 F 4 ?_;refine aS 6 F (4+n) ?_;refine jV 7 (L:Nat) (λ_ aK=>aK.2) ?_;refine dI 8 (L:Nat) ?_;refine eH ?_;clear aY;go_wp2;go_ret;refine⟨?_,JF.on (df.aA (ak W2)),Kq.of (df.aA (ak W2))⟩;rw[<-HLe.o];rfl
theorem uj {fi F} (h:bZ NB B Q w P f s) (hN:vg w F P fi) (_:¬Q F) (_:Wf s fi.io) {n:Nat} (hn:n<6):
  Calls prog 135 #[F,O aa n] w (vO NB B Q P f s (O aa (Dq s.g fi.io n)) w):=Uy h hN hn
end
section
open fG zO
namespace aO
structure VH (s:Ps) (io:Io) n tt:Prop where
 dl:io.d.length=6
 hn:n<6
 ht:tt<8192
noncomputable def QN s io n:=
 if Dq s.g io n=0 then((CB (s.add s.nx) io n s.nx).1,(CB (s.add s.nx) io n s.nx).2,s.nx) else(s,io,Dq s.g io n)
structure aib s io n:Prop where
 wf:Wf s io
 hn:n<6
 new:Dq s.g io n=0->s.us.length<s.np/\VH (s.add s.nx) io n s.nx
 th:(QN s io n).1.There (QN s io n).2.2
 dl:(QN s io n).2.1.d.length=6
def Ap (off:Nat) (b:List UInt8):=min (64-off%64) b.length
def wrX (x:List UInt8) (off:Nat) b:=x.take (off%64)++b.take (Ap off b)++x.drop (off%64+Ap off b)
noncomputable def PL s io off b:=
 ((QN s io (off/64)).1.put (QN s io (off/64)).2.2 (wrX ((QN s io (off/64)).1.g (QN s io (off/64)).2.2) off b),(QN s io (off/64)).2.1)
noncomputable def Jy:Nat->Ps->Io->Nat->List UInt8->Ps×Io
 |0,s,io,_,_=>(s,io)
 |m+1,s,io,off,b=>if b=[] then(s,io) else Jy m (PL s io off b).1 (PL s io off b).2 (off+Ap off b) (b.drop (Ap off b))
def ac4
 |0,_,_,_,b=>b=[]
 |m+1,s,io,off,b=>b=[]\/(aib s io (off/64)/\ac4 m (PL s io off b).1 (PL s io off b).2 (off+Ap off b) (b.drop (Ap off b)))
theorem amu {off b} (h:b≠[]):1<=Ap off b/\Ap off b<=b.length/\off%64+Ap off b<=64:=by have:=List.length_pos_iff.2 h;unfold Ap;omega
theorem amv {x b off} (hx:x.length=64):(wrX x off b).length=64:=by grind[aO.wrX,aO.Ap]
end aO
namespace aO
noncomputable def tr1 (s:Ps) (io:Io) n:=CB (s.del (Dq s.g io n)) io n 0
noncomputable def trL:List Nat->Ps->Io->Ps×Io
 |[],s,io=>(s,io)
 |n::l,s,io=>trL l (tr1 s io n).1 (tr1 s io n).2
structure ank s io n:Prop where
 wf:Wf s io
 hn:n<6
 us:Dq s.g io n∈s.us
 set:VH (s.del (Dq s.g io n)) io n 0
def VE:List Nat->Ps->Io->Prop
 |[],s,io=>Wf s io
 |n::l,s,io=>ank s io n/\VE l (tr1 s io n).1 (tr1 s io n).2
def trX (x:List UInt8) tt:=x.take (tt%64)++bt (64-tt%64) 0
def trT (s:Ps) (io:Io) z tt:=if Dq s.g io (tt/64)≠0/\tt%64≠0/\tt<z then s.put (Dq s.g io (tt/64)) (trX (s.g (Dq s.g io (tt/64))) tt) else s
theorem akr {x} (hx:x.length=64) tt:(trX x tt).length=64:=by unfold trX;rw[bE,cI,dx];omega
theorem VE.wf {l s io} (h:VE l s io):Wf s io:=by
 cases l with
 |nil=>exact h
 |cons n l=>exact h.1.wf
end aO
end
section
open RowKit fG aO
variable {NB B P:Nat} {Q:Nat->Prop} {w w':World} {f:Fm} {s:Ps}
section
variable {F:Nat} {fi:Nf}
theorem vg.aEn (h:vg w F P fi) {n} (hn:n<6) (tt:Nat):vg (w.setCell (F,4+n) (O aa tt)) F P {fi with io:={fi.io with d:=fi.io.d.set n tt}}:=by
 refine⟨?_,by show(fi.io.d.set n tt).length=6;rw[List.length_set];exact h.dl⟩;have hb:=h.blk.set (4+n) (O aa tt);have e:(nfL P fi).toArray.setIfInBounds (4+n) (O aa tt)=(nfL P {fi with io:={fi.io with d:=fi.io.d.set n tt}}).toArray:=by
  rw[List.setIfInBounds_toArray]
  congr 1
  have hd:=h.dl;unfold nfL;rw[List.set_append_left _ _ (by simp[hd];omega),List.set_append_right _ _ au];simp only[cD,cV,Nat.zero_add,Nat.reduceAdd,Nat.add_sub_cancel_left];rw[List.map_set];rfl
 rw[e] at hb;exact hb
end
def aa4 (NB B:Nat) (Q:Nat->Prop) (F P:Nat) (f:Fm) (s:Ps) (fi:Nf) (io:zO.Io) (w:World) (e:Ending) w':=
 (∃v,e=ar v)/\bZ NB B (Up Q w w') w' P f s/\vg w' F P {fi with io:=io}/\Kq (λq=>Q q\/q=F) w w'
theorem PN {fi} {F tt:Nat} (h:bZ NB B Q w P f s) (hN:vg w F P fi) (hF:¬Q F) {n:Nat} (hn:n<6):
  Calls prog 137 #[F,O aa n,O aa tt] w (aa4 NB B Q F P f (CB s fi.io n tt).1 fi (CB s fi.io n tt).2 w):=by
 have hS:=ag (dV h);have he:=aoH (n:=n) ae;obtain⟨a,b,c⟩:Ino.lZ 64 (n:Int)=0/\Ino.qh 64 (n:Int)=(n:Int)/\Ino.xK 64 (n:Int)=0:=by
  rcases Ino.qW he with⟨a,b,c,_⟩|⟨_,_,_,d,_⟩|⟨_,_,_,d⟩
  .exact⟨a,b,c⟩
  .omega
  .omega
 obtain⟨hT,HW,WB,HN⟩:=cr (Ns 64 (n:Int) w ae ae) (show xJ 64 (n:Int)=ao #[.agg #[O aa 0,O aa n,O aa 0],O aa 0] by unfold xJ;rw[a,b,c,he]) (show CB s fi.io n tt=(s,{fi.io with d:=fi.io.d.set n tt}) from ev hn) hN;have hp:=hN.p;obtain⟨JF,HFn⟩:=cn h hF;clear h hN he a b c hF
 go_in
 go_wp2_with fail;refine hS.cj ?_;go_wp2_with fail;go_call hT as e w1 ⟨rfl,bP⟩;rw[HW.o];obtain⟨bV,HN1⟩:=cn bP (HN.on bP);clear bP;go_upto_region 3 with fail;have fM:=(aE w1 w1).alloc av (.cells #[O aa 0,O aa n,O aa 0] 267);obtain⟨df,HQ,JC,HZ,ui⟩:=ct (bV.aA fM) (aF.new w1 267 #[O aa 0,O aa n,O aa 0]) (HN1.on fM) (show F<w1.heap.size/\w.heap.size<=w1.heap.size from⟨HN1.lt,bV.size⟩) ((JF.on (bV.aA fM)).drew);clear hp fM;generalize w1.alloc (.cells #[O aa 0,O aa n,O aa 0] 267)=W2 at*;generalize w1.heap.size=Z at*;obtain⟨sW,HNd,CS⟩:=cp (df.aA (ak W2)) (JC.on (ak W2)) (JF.aV HZ.o.2);have g0:(0:Int)<=(n:Int):=ae;have g1:(n:Int)<6:=ae;refine iE (λW'=>aF W' Z 267 #[O aa 0,O aa n,O aa 0]) HQ.drew (λaY=>?_);refine dw 0 F 0 ?_;refine aS 1 Z 1 ?_;refine jV 2 (n:Int) (λ_ aK=>aK.aj (i:=1) rfl) ?_;refine dI 3 (tt:Int) ?_;refine aS 4 F 0 ?_;refine aS 5 F 1 ?_;refine aS 6 F 4 ?_;refine aS 7 F (4+n) ?_;have s1:=HNd.d hn;have s2:=HNd.blk.frozen (4+n);obtain⟨rG,HKs⟩:=cn (HNd.aEn hn tt) (show Kq (λq=>q=F) W2.drew (W2.drew.setCell (F,4+n) (O aa tt)) from Kq.one (F,4+n) _);refine bY 8 (λK' hK=>?_);go_simp;refine hK.out _ _ (aY.kq HKs (λe=>by have:=HZ.o;omega)) (λdh=>?_)
 refine eH ?_;clear aY dh s1 s2;go_wp2;go_end0;rw[WB.o];have wL:=ui.kq HKs.o λq hq e=>HFn.o (e▸hq);have iG:=sW.size;have Vp:=HKs.size;refine⟨⟨_,rfl⟩,wL.more (λq hq=> .inl hq) λq hq=>?_,rG,((Kq.of sW).mono λq h=>h).trans (HKs.mono λq e=> .inr e)⟩;rcases hq with h|h
 .have:=JF.bnd q h;exact⟨this.1,cM this.2 (bB iG Vp)⟩
 .have:=JF.base;exact⟨ae,h.2⟩
theorem Dt {fi F n tt} (h:bZ NB B Q w P f s) (hN:vg w F P fi) (hF:¬Q F) (ho:VH s fi.io n tt):
  Calls prog 137 #[F,O aa n,O aa tt] w (aa4 NB B Q F P f (CB s fi.io n tt).1 fi (CB s fi.io n tt).2 w):=PN h hN hF ho.hn
end
section
open RowKit fG aO
variable {NB B P:Nat} {Q:Nat->Prop} {w w':World} {f:Fm} {s:Ps}
theorem ar6 (d:Nat->Nat) {k:Nat} (hk:k<6) w:(Instr.index 105 (.agg #[O aa (d 0),O aa (d 1),O aa (d 2),O aa (d 3),O aa (d 4),O aa (d 5)]) (O aa k)).run prog w= .ok (O aa (d k)) w:=by
 obtain h|h|h|h|h|h:k=0\/k=1\/k=2\/k=3\/k=4\/k=5:=ae
 all_goals subst h
 .exact amx (d 0) (d 1) (d 2) (d 3) (d 4) (d 5) w
 .exact amy (d 0) (d 1) (d 2) (d 3) (d 4) (d 5) w
 .exact amz (d 0) (d 1) (d 2) (d 3) (d 4) (d 5) w
 .exact amA (d 0) (d 1) (d 2) (d 3) (d 4) (d 5) w
 .exact amB (d 0) (d 1) (d 2) (d 3) (d 4) (d 5) w
 .exact amC (d 0) (d 1) (d 2) (d 3) (d 4) (d 5) w
def amD (NB B:Nat) (Q:Nat->Prop) (P:Nat) (f:Fm) (s:Ps) (J:List (Nat×Nat×Nat)->(Nat->Prop)->World->Prop) (l:List (Nat×Nat×Nat)) (X:Nat->Prop) (w:World) (e:Ending) w':=
 (∃v,e=ar v)/\(∃X',J l X' w'/\Grew X w X')/\bZ NB B Q w' P f s/\Kq (λq=>Q q\/X q) w w'
def Gl (g:Nat->List UInt8) (io:zO.Io) k:=(cz k).flatMap λk=>ptrs g 0 (io.d.getD k 0) k
theorem QR g io k:Gl g io (k+1)=Gl g io k++ptrs g 0 (io.d.getD k 0) k:=by unfold Gl;rw[dz,List.flatMap_append];simp
theorem ais g io {k} (hk:k<=6):Gl g io k<+:yl g io:=by
 obtain⟨m,hm⟩:∃m,6=k+m:=⟨6-k,ae⟩
 have e:Gl g io 6=Gl g io k++(((cz m).map λi=>k+i).flatMap λk=>ptrs g 0 (io.d.getD k 0) k):=by unfold Gl;rw[hm,List.range_add,List.flatMap_append]
 refine⟨(((cz m).map λi=>k+i).flatMap λk=>ptrs g 0 (io.d.getD k 0) k)++ptrs g 1 io.s 6++ptrs g 2 io.b 38,?_⟩;show _=Gl g io 6++_++_;rw[e];simp
structure Nal NB B Q F P f s fi (J:List (Nat×Nat×Nat)->(Nat->Prop)->World->Prop) X w l X1 wr:Prop where
 j:J l X1 wr
 g:Grew X w X1
 p:bZ NB B Q wr P f s
 k:Kq (λq=>Q q\/X q) w wr
 n:vg wr F P fi
 d:∀q,X1 q->¬Q q/\q≠F
theorem Nal.next {F fi J X X1 l l' wr w2 e} (h:Nal NB B Q F P f s fi J X w l X1 wr) (hFl:F<w) (hF:¬Q F) (hX:∀q,X q->¬Q q/\q≠F) (hQ:∀q,Q q->q<w) (hc:wG NB B Q P f s J l' X1 wr e w2):∃X2,Nal NB B Q F P f s fi J X w l' X2 w2:=by
 obtain⟨_,⟨X2,h1,h2⟩,h3,h4⟩:=hc;have hs:=h.k.size;have hg:Grew X w X2:=h.g.trans h2 hs;have hk:Kq (λq=>Q q\/X q) w w2:=h.k.aA h4 λq hq=>by
  rcases hq with h5|h5
  .exact .inl (.inl h5)
  .rcases h.g q h5 with h6|h6
   .exact .inl (.inr h6)
   .exact .inr h6
 refine⟨X2,h1,hg,h3,hk,h.n.kq h4 λh5=>?_,λq hq=>?_⟩
 .rcases h5 with h5|h5
  .exact hF h5
  .exact(h.d F h5).2 rfl
 grind[Grew]
theorem Uz {F gy n lb fi X J} (h:bZ NB B Q w P f s) (hN:vg w F P fi) (hF:¬Q F) (hw:Wf s fi.io) (hy:JW gy lb (yl s.g fi.io) Q n J) (hn:n<=w) (hX:∀q,X q->¬Q q/\q≠F) (hj:J [] X w):
  Calls prog 190 #[F,.func (.func gy) #[] lb] w (amD NB B Q P f s J (yl s.g fi.io) X w):=by
 obtain⟨HH,HN,Dh,HW,HY⟩:=ct h hN hF hw hy;obtain⟨HX,HJ⟩:=cn hX hj;have hFl:=hN.lt;have HXb:=ag (hy.jx.bd _ _ _ hj);obtain⟨d,hd⟩:∃d:Nat->Nat,d=λk=>fi.io.d.getD k 0:=⟨_,rfl⟩
 have hc:∀k,k<6->w.cell? (aw F (4+k))=some (O aa (d k)):=λk hk=>by rw[hd];exact hN.d hk
 have d0:=hc 0 ae;have d1:=hc 1 ae;have d2:=hc 2 ae;have d3:=hc 3 ae;have d4:=hc 4 ae;have d5:=hc 5 ae;have HD:=ag hd;clear h hN hF hw hy hX hj hc hd
 go_in
 go_upto_region 1 with fail;obtain⟨H0,HQb⟩:=cn (show Nal NB B Q F P f s fi J X w [] X w from⟨HJ,Grew.refl _ _,HH,Kq.refl _ _,HN,HX⟩) (λq (h:Q q)=>(HH.bnd q h).2)
 go_loopw [4,5,12] (λ_ _ i wr=>∃(k:Nat) (X1:Nat->Prop),k<=6/\i=O aa k/\Nal NB B Q F P f s fi J X w (Gl s.g fi.io k) X1 wr) (λ_ _ i _=>7-(intOf i).toNat)
 case atStart=>exact⟨0,X,ae,rfl,H0⟩
 case round=>
  obtain⟨k,X1,hk,rfl,hr⟩:=hrel;obtain⟨HR,Js⟩:=cn hr hr.k.size;clear hr;by_cases aT:k<6
  .have g1:(k:Int)<6:=ae;have hix:=ar6 d aT;have iv:=bq ((k:Int)+1) ⟨ae,ae⟩;have wH:=Yv HY.o wr (d k) k (Gl s.g fi.io k) X1 HR.p HR.n.p HR.n.lt Dh.o (by have:=Js.o;omega) HR.d HR.j (by rw[HD.o,<-QR];exact ais _ _ ae) (by rw[HD.o];exact HW.wd k aT) ae;rw[HD.o,<-QR,<-HD.o] at wH;have ait:=ag (show Calls prog 237 #[F,O aa (d k),O aa k,O aa 0,.func (.func gy) #[] lb] wr (wG NB B Q P f s J (Gl s.g fi.io (k+1)) X1 wr) from wH);clear wH;go_wp2_with fail;go_call ait as e w2 hc;obtain rfl:=hc.1;obtain⟨X2,PY⟩:=HR.next hFl Dh.o HX.o HQb.o hc
   have tC:=ag PY;clear hc PY hix;go_wp2_with fail;go_roundw
   case rel=>exact⟨k+1,X2,ae,by go_num,tC⟩
   case measure=>simp[intOf];omega
  .obtain rfl:k=6:=ae;have y0:=HR.n.p;have y1:=HR.n.s;have c1:=Yw (lv:=0) HY.o (.inl rfl) (Yv (NB:=NB) (B:=B) (F:=F) (P:=P) (f:=f) (s:=s) HY);obtain⟨HC1,HC2⟩:=cn c1 (Yw (lv:=1) HY (.inr rfl) c1);have wH:=c1 wr fi.io.s 6 (Gl s.g fi.io 6) X1 HR.p HR.n.p HR.n.lt Dh.o (by have:=Js.o;omega) HR.d HR.j (by exact⟨ptrs s.g 2 fi.io.b 38,rfl⟩) HW.gs ae;have ait:=ag (show Calls prog 237 #[F,O aa fi.io.s,O aa 6,O aa 1,.func (.func gy) #[] lb] wr (wG NB B Q P f s J (Gl s.g fi.io 6++ptrs s.g 1 fi.io.s 6) X1 wr) from wH);have g38:IntKind.i64.wrap (6+32)=38:=bq (6+32) ⟨ae,ae⟩;have aEp:=ag (dV HR.p);clear wH c1;go_wp2_with fail;refine aEp.cj ?_;go_wp2_with fail;go_call ait as e w2 hc;obtain rfl:=hc.1;obtain⟨X2,PY⟩:=HR.next hFl Dh.o HX.o HQb.o hc
   have tC:=ag PY;clear hc PY y0 y1;have y2:=tC.n.b;have wH:=HC2.o w2 fi.io.b 38 _ X2 tC.p tC.n.p tC.n.lt Dh.o (by have:=tC.k.size;omega) tC.d tC.j (by exact⟨[],by rw[cC];rfl⟩) HW.gb ae;have ar7:=ag (show Calls prog 237 #[F,O aa fi.io.b,O aa 38,O aa 2,.func (.func gy) #[] lb] w2 (wG NB B Q P f s J (yl s.g fi.io) X2 w2) from wH);clear wH;go_wp2_with fail;go_call ar7 as e w3 hc;obtain rfl:=hc.1;obtain⟨X3,hr3⟩:=tC.next hFl Dh.o HX.o HQb.o hc
   have CY:=ag hr3;clear hc hr3 y2;go_wp2;go_end0;exact⟨⟨_,rfl⟩,⟨X3,CY.j,CY.g⟩,CY.p,CY.k⟩
end
section
open RowKit fG aO
variable {NB B P:Nat} {Q:Nat->Prop} {w w':World} {f:Fm} {s:Ps}
def nd (fi:Nf) (k:Nat):Int:=(fi.io.d.getD k 0)
def dZ (fi:Nf):Array Value:=#[O aa fi.k,O aa fi.l,O aa fi.s,O aa (nd fi 0),O aa (nd fi 1),O aa (nd fi 2),O aa (nd fi 3),O aa (nd fi 4),O aa (nd fi 5),O aa fi.io.s,O aa fi.io.b]
instance:Coe Nf (Array Value):=⟨λfi=>#[O aa fi.k,O aa fi.l,O aa fi.s,O aa (nd fi 0),O aa (nd fi 1),O aa (nd fi 2),O aa (nd fi 3),O aa (nd fi 4),O aa (nd fi 5),O aa fi.io.s,O aa fi.io.b]⟩
def GL (fi:Nf):Value:= .agg (dZ fi)
def nfA (P:Nat) (fi:Nf):Array Value:=#[P,O aa fi.k,O aa fi.l,O aa fi.s,O aa (nd fi 0),O aa (nd fi 1),O aa (nd fi 2),O aa (nd fi 3),O aa (nd fi 4),O aa (nd fi 5),O aa fi.io.s,O aa fi.io.b]
theorem aiq {fi} (h:fi.io.d.length=6) P:nfA P fi=(nfL P fi).toArray:=by
 obtain⟨k,l,s,d,a,b⟩:=fi
 match d,h with
 |[d0,d1,d2,d3,d4,d5],_=>rfl
theorem vg.made (w:World) {fi} (h:fi.io.d.length=6) P:vg (w.alloc (.cells (nfA P fi) 204)) w P fi:=⟨by rw[<-aiq h];exact aF.new w _ _,h⟩
def gQ (l:List (Nat×Nat×Nat)):=(l.filter λx=>x.2.2==0).map λx=>(x.1:Int)
theorem QS l l':gQ (l++l')=gQ l++gQ l':=by unfold gQ;rw[List.filter_append,cA]
theorem Fp l:(gQ l).length<=l.length:=by unfold gQ;rw[bO];exact List.length_filter_le _ _
theorem UA {α β:Type} (l:List α) (g:α->List β) m (h:∀x∈l,(g x).length<=m):(l.flatMap g).length<=l.length*m:=by
 induction l with
 |nil=>simp
 |cons x t ih=>
  rw[List.flatMap_cons,bE,cD,Nat.add_mul,Nat.one_mul];grind
theorem acz x (hx:x.length=64\/x=[]):(Pt.pts x).length<=32:=by
 have hto:∀k,(Pt.Nu x k).length<=k:=λk=>by
  induction k with
  |zero=>exact bN _
  |succ k ih=>
   grind[Pt.Nu]
 grind[Pt.pts]
theorem Zu {s:Ps} (ho:s.Ok) io:(yl s.g io).length<=2000:=by
 have hx:∀p,(s.g p).length=64\/s.g p=[]:=λp=>by
  by_cases h:s.There p
  .exact .inl (ho.sz p h)
  .exact .inr (ho.no p h)
 have h0:∀p fr,(ptrs s.g 0 p fr).length<=1:=λp fr=>by unfold ptrs;split<;>simp
 have h1:∀p fr,(ptrs s.g 1 p fr).length<=33:=λp fr=>by
  rw[ptrs]
  split
  .simp
  .rw[cD];have:=UA (Pt.pts (s.g p)) (λx=>ptrs s.g 0 x.2 (fr+x.1*(if 0=1 then 32 else 1))) 1 λx _=>h0 _ _;have:=acz (s.g p) (hx p);omega
 have h2:∀p fr,(ptrs s.g 2 p fr).length<=1057:=λp fr=>by
  rw[ptrs]
  split
  .simp
  .rw[cD];have a:=UA (Pt.pts (s.g p)) (λx=>ptrs s.g 1 x.2 (fr+x.1*(if 1=1 then 32 else 1))) 33 λx _=>h1 _ _;have b:=acz (s.g p) (hx p);grind
 unfold yl;rw[bE,bE];have a:=UA (cz 6) (λk=>ptrs s.g 0 (io.d.getD k 0) k) 1 λx _=>h0 _ _;grind
def PgJ (Zo n0:Nat) (pre:List (Nat×Nat×Nat)) (X:Nat->Prop) W:=∃v,aF W Zo 116 #[v]/\Own kC 3 W n0 v (gQ pre)/\Zo<n0/\n0<=W/\∀q,X q↔q=Zo\/v.ownBlock=some q
theorem ar8 Zo n0 T n:JX T n (PgJ Zo n0):=by
 refine⟨?_,?_⟩
 .rintro pre X W ⟨v,h1,h2,h3,h4,h5⟩ q hq;rcases(h5 q).1 hq with h|h
  .have:=h1.lt;omega
  .exact(h2.aN q h).2
 .rintro pre X W W' T' ⟨v,h1,h2,h3,h4,h5⟩ hk hT;exact⟨v,h1.kq hk λh=>(hT _ h).2 ((h5 _).2 (.inl rfl)),h2.kq hk λg hg h=>(hT _ h).2 ((h5 _).2 (.inr hg)),h3,bB h4 hk.size,h5⟩
theorem UB {ops rest o ac Q cs} (mF:o.guard=none) s x
  (ho:o.op= .call {callee:= .builtin .append,args:=#[s,x],argTypes:=#[116,116]}) base
  v xs (hs:ac.eval s=v) (bz:Own kC 3 w base v xs) y (hx:ac.eval x=an (w,0) 1 1) (gm:cs=#[O aa y])
  (fB:xs.length<=1000000) (dE:base<=w)
  (h:∀v' w',Hid (Own kC 3 w' base v' (xs++[y]))->Hid (Kq (λq=>v.ownBlock=some q) w w')->Hid (∀q,v'.ownBlock=some q->v.ownBlock=some q\/w<=q)->wpList prog ops Q rest (ac.put o.dst v') w'):wpList prog ops Q (o::rest) ac (w.alloc (.cells cs 3)):=
 wpList_plain mF λ_ hK=>ack s x ho base v xs hs (bz.alloc _) _ _ 1 1 [y] hx (jq.lit w 3 [y] 1 rfl ae gm) (by simp;omega) (by simp;omega) λv' w' h1 h2 h3=>hK _ _ (h v' w' (ag h1)
  (ag ((Kq.of ((aE _ w).alloc av _)).trans (Kq.grown h2))) (ag λq hq=>by
   rcases h3 with h4|h4
   .exact .inl (h4▸hq)
   .rw[h4,bR] at hq;grind))
theorem aeH Zo n0 total (ht:total.length<=100000) n:JW 191 #[.pointer (some ⟨Zo,0,none⟩)] total Q n (PgJ Zo n0):=by
 refine⟨ar8 Zo n0 Q n,enters_of Tryz.func191 az rfl,?_⟩;rintro pre ⟨a,p,lv⟩ X W ⟨v,h1,h2,h3,h4,h5⟩ iJ;have hl:(gQ pre).length<=100000:=by have:=Fp pre;have:=iJ.length_le;rw[bE] at this;omega
 obtain⟨m,hm⟩:=aW ((gQ pre).length);obtain⟨ad,c,rfl,_⟩:=h2.bG hm.symm;obtain⟨H1,H2,H5,HM⟩:=cr h1 h2 h5 hm;have c0:=h1.aj (i:=0) rfl;have aT:=h1.lt;by_cases h0:lv=0
 .have HE:=ag (show gQ (pre++[(a,p,lv)])=gQ pre++[(a:Int)] by rw[QS];subst h0;rfl);have g0:((lv:Int)==0)=true:=by rw[beq_iff_eq];omega
  unfold ylV;clear h1 h2 h5 hm h0
  go_in
  go_wp2_with (at_builtin;refine UB rfl _ _ rfl n0 _ (gQ pre) rfl H2 (a:Int) rfl rfl ae h4 ?_;intro v3 w3 tN jZ HV3;obtain⟨a3,c3,rfl,_⟩:=tN.bG (n:=m+1) (by rw[bE,<-HM.o];rfl);have cO:=ag (H1.kq jZ (λh=>by have:=(H2.aN _ h).1;omega));have c42:=cO.aj (i:=0) rfl;have f42:=cO.frozen 0)
  go_ret;have hst:Kq (λq=>q=Zo) w3 (w3.setCell (Zo,0) (an a3 (m+1) c3)):=Kq.one (Zo,0) _;have EN:=jZ.size;have di:∀q,(Value.slice a3 (m+1) c3).ownBlock=some q->q≠Zo:=λq hq e=>by have:=(tN.aN q hq).1;omega
  refine⟨rfl,⟨λq=>q=Zo\/(Value.slice a3 (m+1) c3).ownBlock=some q,⟨_,cO.set 0 _,?_,h3,bB h4 (bB EN hst.size),λq=>Iff.rfl⟩,λq hq=>?_⟩,(jZ.mono λq h=>(H5.o q).2 (.inr h)).trans (hst.mono λq h=>(H5.o q).2 (.inl h))⟩
  .rw[HE.o];exact tN.kq hst di
  .rcases hq with h|h
   .exact .inl ((H5.o q).2 (.inl h))
   .rcases HV3.o q h with h6|h6
    .exact .inl ((H5.o q).2 (.inr h6))
    .exact .inr h6
 .have HE:=ag (show gQ (pre++[(a,p,lv)])=gQ pre by rw[QS];unfold gQ;simp[h0]);have g0:((lv:Int)==0)=false:=by rw[ew];omega
  unfold ylV;have IG:=ag (show PgJ Zo n0 (pre++[(a,p,lv)]) X W from⟨_,h1,by rw[HE.o];exact h2,h3,h4,h5⟩);clear h1 h2 h5 hm h0
  go_in
  go_wp2;go_ret;exact⟨rfl,⟨X,IG,Grew.refl _ _⟩,Kq.refl _ _⟩
def aeI (NB B:Nat) (Q:Nat->Prop) (P:Nat) (f:Fm) (s:Ps) (l:List Int) (w:World) (e:Ending) w':=
 (∃v,e=ar v/\Own kC 3 w' w v l)/\bZ NB B Q w' P f s/\Kq Q w w'
theorem yC {fi} (h:bZ NB B Q w P f s) (hw:Wf s fi.io):
  Calls prog 134 #[P,GL fi] w (aeI NB B Q P f s (gQ (yl s.g fi.io)) w):=by
 obtain⟨HH,HW⟩:=cn h hw;have hdl:=hw.dl;obtain⟨l,hl⟩:=aW (yl s.g fi.io);obtain⟨UJ,HL⟩:=cn (show l.length<=2000 from by rw[hl];exact Zu h.ok fi.io) hl;rw[<-hl];have UI:=ag hdl;unfold GL dZ;clear h hw hl hdl
 go_in
 have hm:=vg.made ((w.alloc (.cells fi 107)).alloc (.cells #[an none 0 0] 116)) UI.o P;have hz:=(aF.new (w.alloc (.cells fi 107)) 116 #[an none 0 0]).alloc (.cells (nfA P fi) 204);have hb:Below w w (((w.alloc (.cells fi 107)).alloc (.cells #[an none 0 0] 116)).alloc (.cells (nfA P fi) 204)):=(((aE _ w).alloc av _).alloc au _).alloc (by simp;omega) _;have iG:(((w.alloc (.cells fi 107)).alloc (.cells #[an none 0 0] 116)).alloc (.cells (nfA P fi) 204)).heap.size=w.heap.size+3:=au;simp only[bR] at hm hz;obtain⟨HM,HZ,HB,Js⟩:=cr hm hz hb iG;clear hm hz hb iG;go_wp2_with fail;obtain⟨w3,Zv⟩:∃w3,w3=((w.alloc (.cells fi 107)).alloc (.cells #[an none 0 0] 116)).alloc (.cells (nfA P fi) 204):=⟨_,rfl⟩
 rw[<-Zv] at HM HZ HB Js;obtain⟨pU,uZ⟩:=cn (HH.on HB) (show PgJ (w.heap.size+1) (w.heap.size+2) [] (λq=>q=w.heap.size+1) w3 from⟨_,HZ,Own.nil _ _,ae,by have:=Js.o;omega,λq=>⟨.inl,λh=>by rcases h with h|h;exact h;cases h⟩⟩);have wH:=Uz (n:=w3.heap.size) pU.o HM.o (HH.aV ae) HW.o (by rw[<-HL.o];exact aeH (Q:=Q) (w.heap.size+1) (w.heap.size+2) l (by have:=UJ.o;omega) w3) av (λq e=>⟨λh=>by have:=(HH.bnd q h).2;omega,ae⟩) uZ.o;rw[<-HL.o,Zv] at wH;go_call wH as e w4 ⟨⟨v,rfl⟩,⟨X',⟨ov,h1,h2,h3,h4,h5⟩,hg⟩,PS,oQ⟩;have c5:=h1.aj (i:=0) rfl;have yx:=ag (show Own kC 3 w4 w ov (gQ l)/\bZ NB B Q w4 P f s/\Kq Q w w4 from⟨h2.mono ae,PS,((Kq.of (T:=Q) HB).aA (by rw[<-Zv] at oQ;exact oQ) λq h=>by rcases h with h|h;exact .inl h;exact .inr ae)⟩);clear wH Zv h1 h2 h5 hg PS oQ;go_wp2;go_ret;exact⟨⟨_,rfl,yx.o.1⟩,yx.o.2⟩
end
section
open RowKit Maps ChangeMaps
theorem Ptr.weaken {L a b w M} (h:Ptr L a w M) (hab:a<=b):Ptr L b w M:=by grind[Ptr]
theorem Below.qg {B M a w w'} (h:Below B a w) (hg:w.grownBy w' (some M)) (hM:B<=M) (hB:B<=a:=by exact bp _):Below B a w':=
 h.trans ⟨hg.os,hg.tape,hg.output,hg.size,λi hi=>hg.block i (by have:=h.size;omega) (by simp;omega)⟩
theorem Room.axV L:Room.nd L<=L.length:=by induction L<;>grind[Room.nd]
theorem Room.aik s l k (h:l.length<=k):Room.nd (Room.kl s l)<=2*k:=by
 have h1:=Room.axV (Room.kl s l);have h2:(Room.kl s l).length<=2*l.length:=by
  clear h h1
  induction l with
  |nil=>simp[Room.kl]
  |cons x t ih=>
   grind[Room.kl,Room.keys]
 omega
theorem lV {B} w:Below B w w.drew:=⟨rfl,rfl,rfl,bp _,λ_ _=>rfl⟩
theorem Below.zF w o:Below w.heap.size w (w.alloc o):=(aE _ _).alloc av o
theorem aml {s} (h:Ino.dO s):Ino.eF s≠0:=by rcases h with rfl|rfl|rfl|rfl<;>decide
theorem CG s a n c xs w (hx:jq kC w w a n xs) (hb:∀x∈xs,-9223372036854775808<=x/\x<=9223372036854775807) (hn:n<=4000):
  Calls prog 188 #[O aa s,an a n c] w (aoG (Room.file s xs) w):=by
 have hl:=hx.len;have HX:=ag hx;have HL:=ag hl;have sW:=ag hb;by_cases hs:Ino.dO s
 case neg=>
  rw[Room.Yn (.inl hs)];have hp:=ail hs;clear hs hx hl hb
  go_in
  go_wp2_with fail;refine(mY _ _).cj ?_;rw[hp];go_wp2;go_ret2;exact⟨rfl,aE _ _⟩
 have hp:(Ino.eF s==0)=false:=by rw[ew];exact aml hs
 have HS:=ag hs;clear hx hl hs hb;obtain⟨r,hr⟩:=aW (Room.file s xs);rw[<-hr];have HR:=ag hr;have HRi:=ag (Yo a n c xs w HX.o hn);clear hr;by_cases QP:Room.Inc xs
 case neg=>
  have HF:=ag (HR.o.trans (Room.Yn (s:=s) (.inr QP)));rw[show decide (Room.Inc xs)=false from ey QP] at HRi;clear QP
  go_in
  go_wp2_with fail;refine(mY _ _).cj ?_;generalize Ino.eF s=pp at*;go_wp2_with fail;refine HRi.o.mono ?_;rintro e w1 ⟨rfl,bP⟩;have bV:=ag bP;clear bP;go_wp2;go_ret2;exact⟨by rw[HF.o];rfl,bV.o⟩
 rw[show decide (Room.Inc xs)=true from ez QP] at HRi;have aeE:=ag QP;clear QP
 go_in
 go_wp2_with fail;refine(mY _ _).cj ?_;generalize Ino.eF s=pp at*;go_wp2_with fail;refine HRi.o.mono ?_;rintro e w1 ⟨rfl,bP⟩;have jA:=bP.size;have bV:=ag (bP.alloc jA (.map #[] 0));have sV:=ag (Ptr.made w1);have HM0:=ag jA;clear bP jA;have UX:=@run_makeMap prog;go_upto_region 4 with fail;clear UX;generalize w1.alloc (.map #[] 0)=wm at*;obtain⟨M,hM⟩:=aW w1.heap.size;rw[<-hM] at sV HM0⊢;clear hM;have HM:=HM0;clear HM0;go_wp2_with fail
 go_loopw [8,9,10,22] (λ_ _ _ i wr=>∃q:Nat,q<=n/\i=O aa q/\(∀j (h:j<xs.length),j<q->Ino.pF s xs[j]=0)/\Ptr (Room.kl s (xs.take q)) (2*(q:Int)) wr M/\Below w.heap.size w wr) (λ_ _ _ i _=>n-(intOf i).toNat)
 case atStart=>exact⟨0,ae,rfl,ae,by simpa[Room.kl] using sV.o,bV.o⟩
 case round=>
  obtain⟨q,hq,rfl,zJ,hpt,hb⟩:=hrel;have Vs:=ag zJ;have ZI:=ag hpt;have HB:=ag hb;have iG:=hb.size;clear zJ hpt;by_cases hqn:q<n
  .obtain⟨b,o,hq',rfl,_,hcx⟩:=(HX.o.on hb).atI (k:=q) hqn;have hbx:=sW.o xs[q] (cS hq');have hTo:=ag (Ns s xs[q] wr hbx.1 hbx.2);have g0:(0:Int)<=(q:Int):=ae;have g1:(q:Int)<(n:Int):=ae;have g2:decide ((q:Int)<(n:Int))=true:=ez g1;have Ux:=ag (show Room.kl s (xs.take (q+1))=Room.kl s (xs.take q)++Room.keys s xs[q] by rw[ei hq',Room.amm]);by_cases he:Ino.pF s xs[q]=0
   .have Yp:=ag (show∀j (h:j<xs.length),j<q+1->Ino.pF s xs[j]=0 from λj h hj=>by
     by_cases e:j=q
     .subst e;exact he
     .exact Vs.o j h ae)
    have hA3:=Room.arZ he he (Int.le_refl _);have HBB:=ag (show zG (Ino.qh s xs[q]) by have h1:=Ino.qW he;have h2:=(Ino.Gj he).1;have h3:=Ino.Gj he;unfold zG;omega);have HWV:=ag (show xJ s xs[q]=ao #[.agg #[O aa (Ino.lZ s xs[q]),O aa (Ino.qh s xs[q]),O aa (Ino.xK s xs[q])],O aa 0] by unfold xJ;rw[he]);have aEk:Ino.lZ s xs[q]=0\/Ino.lZ s xs[q]=1\/Ino.lZ s xs[q]=2:=ae;have HKs:=ag (show Room.keys s xs[q]=if Ino.lZ s xs[q]=1 then[(1,0)] else if Ino.lZ s xs[q]=2 then[(2,-1),(2,Ino.qh s xs[q])] else[] from rfl);rw[HKs.o] at Ux;clear he hA3 hb HKs;obtain⟨L,hL⟩:=aW (Room.kl s (xs.take q));rw[<-hL] at ZI Ux;clear hL;generalize Ino.lZ s xs[q]=A at*;generalize Ino.qh s xs[q]=B at*;generalize Ino.xK s xs[q]=C at*;generalize xs[q]=x at*;rcases aEk with rfl|rfl|rfl
    .skip;have KZ:=ag (show Room.kl s (xs.take (q+1))=L by have h:=Ux.o;simpa using h);clear Ux;go_wp2_with fail;refine hTo.o.mono ?_;rintro e w2 ⟨rfl,aZ⟩;rw[HWV.o];have mQ:=aZ.size;have UZ:=ZI.o.lt;have pM:M<w2.heap.size:=cM UZ mQ;have bn:=aF.new w2 267 #[O aa 0,O aa B,O aa C];have cO:=ag (HB.o.aA (aZ.aA ((aE _ _).alloc av (.cells #[O aa 0,O aa B,O aa C] 267))));have HP:=ag ((ZI.o.on aZ).on (Below.zF w2 (.cells #[O aa 0,O aa B,O aa C] 267)));obtain⟨n0,n1,n2⟩:=bn.c3;have BN:=ag bn;clear bn aZ ZI;go_upto_region 10 with fail;generalize w2.alloc (.cells #[O aa 0,O aa B,O aa C] 267)=wd at*;generalize w2.heap.size=NB at*;go_wp2;go_roundw
     case rel=>exact⟨q+1,ae,by go_num,Yp.o,by rw[KZ.o];exact HP.o.weaken ae,cO.o⟩
     case measure=>simp[intOf];omega
    .skip;have KZ:=ag (show Room.kl s (xs.take (q+1))=L++[(1,0)] by have h:=Ux.o;simpa using h);clear Ux;go_wp2_with fail;refine hTo.o.mono ?_;rintro e w2 ⟨rfl,aZ⟩;rw[HWV.o];have mQ:=aZ.size;have UZ:=ZI.o.lt;have pM:M<w2.heap.size:=cM UZ mQ;have bn:=aF.new w2 267 #[O aa 1,O aa B,O aa C];have cO:=ag (HB.o.aA (aZ.aA ((aE _ _).alloc av (.cells #[O aa 1,O aa B,O aa C] 267))));have HP:=ag ((ZI.o.on aZ).on (Below.zF w2 (.cells #[O aa 1,O aa B,O aa C] 267)));obtain⟨n0,n1,n2⟩:=bn.c3;have BN:=ag bn;clear bn aZ ZI;go_upto_region 10 with fail;generalize w2.alloc (.cells #[O aa 1,O aa B,O aa C] 267)=wd at*;generalize w2.heap.size=NB at*;go_upto_region 12 with fail;obtain⟨v,st,o_,hv0,hv1,PG,BR,EG,qP,o2_,hst,Qc,nH⟩:=Ptr.step (w:=wd.drew) (M:=M) (L:=L) (bd:=2*(q:Int)) HP.o (1,0) (by unfold zG;omega) (by unfold zG;omega) ae;simp only[kV] at PG BR EG;have hwv:IntKind.i64.wrap (v+1)=v+1:=bq _ ⟨ae,ae⟩;refine iE (λ_=>True) trivial (λaY=>?_);refine dG 0 (.map (some M)) ?_;refine eX 1 (.agg #[O aa 1,O aa 0,O aa 0]) ?_;refine wpAnyH_ready (rs:=[2,4]) az au ?_;refine bX rfl (λK' hK=>?_) (bX rfl (λK' hK=>?_) cN)
     .refine gK rfl (lK _ _ _ _ rfl PG) ?_;refine hK.out _ _ aY (λdh=>?_)
      refine iR 3 (v+1) ?_;refine bY 4 (λK' hK=>?_);refine gK rfl (jJ _ _ _ rfl BR) ?_;refine hK.out _ _ (trivial) (λfE=>?_);refine dG 5 st ?_;refine bY 6 (λK' hK=>?_);refine step_skip rfl (iT _ _ _ _ rfl hst) ?_;refine hK.out _ _ (trivial) (λiZ=>?_);refine eH ?_;have ui:=ag Qc;have jM:=ag (Below.qg (Below.qg (cO.o.trans (show Below w.heap.size wd wd.drew from lV wd)) qP HM.o) nH HM.o);clear Qc qP nH hst PG EG BR aY dh fE iZ;generalize setBlock (setBlock wd.drew M o_) M o2_=wf at*;go_wp2;go_roundw
      case rel=>exact⟨q+1,ae,by go_num,Yp.o,by rw[KZ.o];exact ui.o.weaken ae,jM.o⟩
      case measure=>simp[intOf];omega
     .refine gK rfl (jJ _ _ _ rfl BR) ?_;refine hK.out _ _ (trivial) (λdh=>?_);refine dG 5 st ?_;refine bY 2 (λK' hK=>?_);refine gK rfl (lK _ _ _ _ rfl EG) ?_;refine hK.out _ _ dh (λfE=>?_)
      try simp only
      refine iR 3 (v+1) ?_;refine bY 6 (λK' hK=>?_);refine step_skip rfl (iT _ _ _ _ rfl hst) ?_;refine hK.out _ _ (trivial) (λiZ=>?_);refine eH ?_;have ui:=ag Qc;have jM:=ag (Below.qg (Below.qg (cO.o.trans (show Below w.heap.size wd wd.drew from lV wd)) qP HM.o) nH HM.o);clear Qc qP nH hst PG EG BR aY dh fE iZ;generalize setBlock (setBlock wd.drew M o_) M o2_=wf at*;go_wp2;go_roundw
      case rel=>exact⟨q+1,ae,by go_num,Yp.o,by rw[KZ.o];exact ui.o.weaken ae,jM.o⟩
      case measure=>simp[intOf];omega
    .skip;have KZ:=ag (show Room.kl s (xs.take (q+1))=L++[(2,-1),(2,B)] by have h:=Ux.o;simpa using h);clear Ux;go_wp2_with fail;refine hTo.o.mono ?_;rintro e w2 ⟨rfl,aZ⟩;rw[HWV.o];have mQ:=aZ.size;have UZ:=ZI.o.lt;have pM:M<w2.heap.size:=cM UZ mQ;have bn:=aF.new w2 267 #[O aa 2,O aa B,O aa C];have cO:=ag (HB.o.aA (aZ.aA ((aE _ _).alloc av (.cells #[O aa 2,O aa B,O aa C] 267))));have HP:=ag ((ZI.o.on aZ).on (Below.zF w2 (.cells #[O aa 2,O aa B,O aa C] 267)));obtain⟨n0,n1,n2⟩:=bn.c3;have BN:=ag bn;clear bn aZ ZI;go_upto_region 10 with fail;generalize w2.alloc (.cells #[O aa 2,O aa B,O aa C] 267)=wd at*;generalize w2.heap.size=NB at*;go_upto_region 14 with fail
     go_cut [] (λwx=>Ptr (L++[(2,-1)]) (2*(q:Int)+1) wx M/\Below w.heap.size w wx/\aF wx NB 267 #[O aa 2,O aa B,O aa C])
     case first=>
      obtain⟨v,st,o_,hv0,hv1,PG,BR,EG,qP,o2_,hst,Qc,nH⟩:=Ptr.step (w:=wd.drew) (M:=M) (L:=L) (bd:=2*(q:Int)) HP.o (2,-1) (by unfold zG;omega) (by unfold zG;omega) ae;simp only[kV] at PG BR EG;have hwv:IntKind.i64.wrap (v+1)=v+1:=bq _ ⟨ae,ae⟩;refine iE (λW'=>aF W' NB 267 #[O aa 2,O aa B,O aa C]) BN.o (λaY=>?_);refine dG 0 (.map (some M)) ?_;refine eX 1 (.agg #[O aa 2,O aa (-1),O aa 0]) ?_;refine wpAnyH_ready (rs:=[2,4]) az au ?_;refine bX rfl (λK' hK=>?_) (bX rfl (λK' hK=>?_) cN)
      .refine gK rfl (lK _ _ _ _ rfl PG) ?_;refine hK.out _ _ aY (λdh=>?_)
       refine iR 3 (v+1) ?_;refine bY 4 (λK' hK=>?_);refine gK rfl (jJ _ _ _ rfl BR) ?_;refine hK.out _ _ (dh.grown qP (by simp;omega)) (λfE=>?_);refine dG 5 st ?_;refine bY 6 (λK' hK=>?_);refine step_skip rfl (iT _ _ _ _ rfl hst) ?_;refine hK.out _ _ (fE.grown nH (by simp;omega)) (λiZ=>?_);refine eH ?_;have hB4:=Below.qg (Below.qg (cO.o.trans (show Below w.heap.size wd wd.drew from lV wd)) qP HM.o) nH HM.o;clear qP nH hst PG EG BR aY dh fE;go_wp2_with fail;go_meet;exact⟨Qc,hB4,iZ⟩
      .refine gK rfl (jJ _ _ _ rfl BR) ?_;refine hK.out _ _ (aY.grown qP (by simp;omega)) (λdh=>?_);refine dG 5 st ?_;refine bY 2 (λK' hK=>?_);refine gK rfl (lK _ _ _ _ rfl EG) ?_;refine hK.out _ _ dh (λfE=>?_)
       try simp only
       refine iR 3 (v+1) ?_;refine bY 6 (λK' hK=>?_);refine step_skip rfl (iT _ _ _ _ rfl hst) ?_;refine hK.out _ _ (fE.grown nH (by simp;omega)) (λiZ=>?_);refine eH ?_;have hB4:=Below.qg (Below.qg (cO.o.trans (show Below w.heap.size wd wd.drew from lV wd)) qP HM.o) nH HM.o;clear qP nH hst PG EG BR aY dh fE;go_wp2_with fail;go_meet;exact⟨Qc,hB4,iZ⟩
     case rest=>
      obtain⟨BO,Dw,xM⟩:=hcut;have HPc:=ag BO;have HBc:=ag Dw;have BNc:=ag xM;have m1:=xM.aj (i:=1) rfl;clear BO Dw xM HP cO BN n0 n1 n2;have aLQ:=BNc.o.lt;obtain⟨wf,hwf⟩:=aW wc;subst hwf;go_upto_region 15 with fail;obtain⟨v,st,o_,hv0,hv1,PG,BR,EG,qP,o2_,hst,Qc,nH⟩:=Ptr.step (w:=wf.drew) (M:=M) (L:=L++[(2,-1)]) (bd:=2*(q:Int)+1) HPc.o (2,B) (by unfold zG;omega) HBB.o ae;simp only[kV] at PG BR EG;have hwv:IntKind.i64.wrap (v+1)=v+1:=bq _ ⟨ae,ae⟩;refine iE (λW'=>aF W' NB 267 #[O aa 2,O aa B,O aa C]) BNc.o (λaY=>?_);refine dG 0 (.map (some M)) ?_;refine dw 1 NB 1 ?_;refine jV 2 B (λ_ aK=>aK.aj (i:=1) rfl) ?_;refine eX 3 (.agg #[O aa 2,O aa B,O aa 0]) ?_;refine wpAnyH_ready (rs:=[4,6]) az au ?_;refine bX rfl (λK' hK=>?_) (bX rfl (λK' hK=>?_) cN)
      .refine gK rfl (lK _ _ _ _ rfl PG) ?_;refine hK.out _ _ aY (λdh=>?_)
       refine iR 5 (v+1) ?_;refine bY 6 (λK' hK=>?_);refine gK rfl (jJ _ _ _ rfl BR) ?_;refine hK.out _ _ (dh.grown qP (by simp;omega)) (λfE=>?_);refine dG 7 st ?_;refine bY 8 (λK' hK=>?_);refine step_skip rfl (iT _ _ _ _ rfl hst) ?_;refine hK.out _ _ (fE.grown nH (by simp;omega)) (λiZ=>?_);refine eH ?_;have pU:=ag Qc;have je:=ag (Below.qg (Below.qg (HBc.o.trans (show Below w.heap.size wf wf.drew from lV wf)) qP HM.o) nH HM.o);clear Qc qP nH hst PG EG BR aY dh fE iZ;generalize setBlock (setBlock wf.drew M o_) M o2_=wg at*;go_wp2;go_roundw
       case rel=>exact⟨q+1,ae,by go_num,Yp.o,by rw[KZ.o];have h9:=pU.o;rw[cQ] at h9;exact h9.weaken ae,je.o⟩
       case measure=>simp[intOf];omega
      .refine gK rfl (jJ _ _ _ rfl BR) ?_;refine hK.out _ _ (aY.grown qP (by simp;omega)) (λdh=>?_);refine dG 7 st ?_;refine bY 4 (λK' hK=>?_);refine gK rfl (lK _ _ _ _ rfl EG) ?_;refine hK.out _ _ dh (λfE=>?_)
       try simp only
       refine iR 5 (v+1) ?_;refine bY 8 (λK' hK=>?_);refine step_skip rfl (iT _ _ _ _ rfl hst) ?_;refine hK.out _ _ (fE.grown nH (by simp;omega)) (λiZ=>?_);refine eH ?_;have pU:=ag Qc;have je:=ag (Below.qg (Below.qg (HBc.o.trans (show Below w.heap.size wf wf.drew from lV wf)) qP HM.o) nH HM.o);clear Qc qP nH hst PG EG BR aY dh fE iZ;generalize setBlock (setBlock wf.drew M o_) M o2_=wg at*;go_wp2;go_roundw
       case rel=>exact⟨q+1,ae,by go_num,Yp.o,by rw[KZ.o];have h9:=pU.o;rw[cQ] at h9;exact h9.weaken ae,je.o⟩
       case measure=>simp[intOf];omega
   .have HF:=ag (HR.o.trans (Room.aim HS.o aeE.o (cS hq') he));have hw0:Ino.pF s xs[q]=52:=by
     unfold Ino.pF at he⊢;rw[ev HS.o] at he⊢;by_cases h:xs[q]<0\/Ino.pages s<=xs[q]
     .rw[ev h]
     .rw[eo h] at he;exact absurd rfl he
    have HWV:=ag (show xJ s xs[q]=ao #[.agg #[O aa 0,O aa 0,O aa 0],O aa 52] by simp[xJ,Ino.lZ,Ino.qh,Ino.xK,hw0]);clear he hw0 hb Ux;generalize xs[q]=x at*;go_wp2_with fail;refine hTo.o.mono ?_;rintro e w2 ⟨rfl,aZ⟩;rw[HWV.o];have df:=ag (HB.o.aA (aZ.aA ((aE _ _).alloc av (.cells #[O aa 0,O aa 0,O aa 0] 267))));clear aZ;go_wp2;go_ret2;exact⟨by rw[HF.o];rfl,df.o⟩
  .obtain rfl:q=n:=ae;have g2:decide ((q:Int)<(q:Int))=false:=ey ae;have HF:=ag (HR.o.trans (Room.amn HS.o aeE.o (λy hy=>by obtain⟨i,hi,rfl⟩:=List.getElem_of_mem hy;exact Vs.o i hi (by rw[<-HL.o];exact hi))));obtain⟨es,clock,hes,oU⟩:=ZI.o.size;have hnd:es.size<=2*q:=by rw[oU];exact Room.aik s _ _ (by rw[cI];omega)
   have HN:=ag (show q+es.size=Room.Yq s xs by rw[oU];unfold Room.Yq;rw[HL.o,cL (by rw[HL.o];exact bp _)]);have hln:=λty=>run_len_map (P:=prog) wr 308 ty M es clock (by simp[Program.mapKeyOf,Program.mapElemOf,Tryz.underlying308]) hes;clear hb oU ZI;go_wp2;go_ret2;exact⟨by rw[HF.o,<-HN.o];simp,HB.o⟩
end
section
open RowKit
theorem aa3 a n c xs f t w (hx:jq kC w w a n xs) (hn:n<=2000) (hm:Room.more f t<=2000):
  Calls prog 189 #[an a n c,O aa f,O aa t] w (ar0 (Room.row (Room.all xs f t)) w):=by
 have HCl:=ag (Ub a n c xs w hx ae);have HL:=ag hx.len;have HM:=ag (show Room.more f t=if 0<=f/\t<=131072 then(t-f).toNat else 0 from rfl);have ain:=ag (show Room.all xs f t=xs++Room.span f (Room.more f t) from rfl);obtain⟨al,mf⟩:=aW (Room.all xs f t);rw[<-mf] at ain⊢;generalize Room.more f t=m at*;have FV:al.length=n+m:=by rw[ain.o,bE,Room.Yr,HL.o]
 have kz:=ag FV;clear hx mf FV
 go_in
 go_wp2_with fail;refine HCl.o.mono ?_;rintro e w1 ⟨⟨v1,rfl,ho1⟩,bP⟩;have Rq:=ag ho1;have bV:=ag bP;have jA:=bP.size;clear ho1 bP;by_cases h3:0<=f
 case neg=>
  have h6:decide (0<=f)=false:=ey h3;have h7:m=0:=by rw[HM.o,eo (λh=>h3 h.1)]
  have HZ:=ag (show al=xs by rw[ain.o,h7];simp[Room.span]);clear h7 h3;have HS:=ag (Ci _ al w.heap.size _ (by rw[HZ.o];exact Rq.o) (by rw[kz.o];omega));have nY:=ag (bV.o);go_wp2_with fail;refine HS.o.mono ?_;rintro e w3 ⟨rfl,Jr,bJ⟩;have cO:=ag (nY.o.trans bJ);have HC:=ag (uY _ (sortL al) w.heap.size w3 Jr (by rw[zY,kz.o];omega));clear Jr bJ;go_wp2_with fail;refine HC.o.mono ?_;rintro e w4 ⟨v4,rfl,FU,eG⟩;have x9:=ag FU;have jM:=ag (cO.o.trans eG);clear FU eG;go_wp2;go_ret;exact⟨_,rfl,x9.o,jM.o⟩
 by_cases h4:t<=131072
 case neg=>
  have h6:decide (t<=131072)=false:=ey h4;have h7:m=0:=by rw[HM.o,eo (λh=>h4 h.2)]
  have HZ:=ag (show al=xs by rw[ain.o,h7];simp[Room.span]);clear h7 h4;have HS:=ag (Ci _ al w.heap.size _ (by rw[HZ.o];exact Rq.o) (by rw[kz.o];omega));have nY:=ag (bV.o);go_wp2_with fail;refine HS.o.mono ?_;rintro e w3 ⟨rfl,Jr,bJ⟩;have cO:=ag (nY.o.trans bJ);have HC:=ag (uY _ (sortL al) w.heap.size w3 Jr (by rw[zY,kz.o];omega));clear Jr bJ;go_wp2_with fail;refine HC.o.mono ?_;rintro e w4 ⟨v4,rfl,FU,eG⟩;have x9:=ag FU;have jM:=ag (cO.o.trans eG);clear FU eG;go_wp2;go_ret;exact⟨_,rfl,x9.o,jM.o⟩
 have h7:m=(t-f).toNat:=by rw[HM.o,ev ⟨h3,h4⟩]
 have JB:=ag h7;clear h7;go_wp2_with fail
 go_loopw [7,8] (λv i wr=>∃k:Nat,k<=m/\i=O aa (f+k)/\Own kC 3 wr w.heap.size v (xs++Room.span f k)/\Below w.heap.size w wr) (λ_ i _=>(f+m-intOf i).toNat)
 case atStart=>exact⟨0,ae,au,by simpa[Room.span] using Rq.o,bV.o⟩
 case round=>
  obtain⟨k,hk,rfl,ho,hb⟩:=hrel;have HO:=ag ho;have HB:=ag hb;have iG:=hb.size;have hlen:(xs++Room.span f k).length=n+k:=by rw[bE,Room.Yr,HL.o]
  have Fj:=ag hlen;clear ho hb hlen;by_cases aT:k<m
  .have h2:f+k<t:=by have:=JB.o;omega
   go_wp2_with (at_builtin;refine XX rfl _ _ rfl w.heap.size _ _ rfl HO.o (f+(k:Int)) rfl rfl (by rw[Fj.o];omega) iG ?_;intro v2 w2 tJ df)
   go_roundw
   case rel=>exact⟨k+1,ae,by congr 1;omega,by rw[Room.aeF,<-cQ];exact tJ.o,HB.o.trans df.o⟩
   case measure=>simp[intOf];omega
  .obtain rfl:k=m:=ae;have h5:¬f+(k:Int)<t:=by have:=JB.o;omega
   have h6:decide (f+(k:Int)<t)=false:=ey h5;have HS:=ag (Ci _ al w.heap.size _ (by rw[ain.o];exact HO.o) (by rw[kz.o];omega));have nY:=ag (HB.o);go_wp2_with fail;refine HS.o.mono ?_;rintro e w3 ⟨rfl,Jr,bJ⟩;have cO:=ag (nY.o.trans bJ);have HC:=ag (uY _ (sortL al) w.heap.size w3 Jr (by rw[zY,kz.o];omega));clear Jr bJ;go_wp2_with fail;refine HC.o.mono ?_;rintro e w4 ⟨v4,rfl,FU,eG⟩;have x9:=ag FU;have jM:=ag (cO.o.trans eG);clear FU eG;go_wp2;go_ret;exact⟨_,rfl,x9.o,jM.o⟩
theorem Yt s a n c xs f t w (hx:jq kC w w a n xs) (hb:∀x∈xs,-9223372036854775808<=x/\x<=9223372036854775807) (hn:n<=2000) (hm:Room.more f t<=2000):
  Calls prog 133 #[O aa s,an a n c,O aa f,O aa t] w (aoG (Room.vS s xs f t) w):=by
 have hl:=hx.len;have HX:=ag hx;have sW:=ag hb;have HF:=ag (CG s a n c xs w hx hb ae);have bP:=Room.aio s xs;have aZ:=Room.aio s (Room.row (Room.all xs f t));have mf:=Room.amo (xs:=xs) (f:=f) (t:=t);have HAb:=ag (Room.ar1 (f:=f) (t:=t) hb);have hr:Room.vS s xs f t=if (Room.file s xs).2≠0 then(0,(Room.file s xs).2) else if (Room.file s (Room.row (Room.all xs f t))).2≠0 then(0,(Room.file s (Room.row (Room.all xs f t))).2) else((Room.file s (Room.row (Room.all xs f t))).1-(Room.file s xs).1,0):=rfl
 obtain⟨ys,hy⟩:=aW (Room.row (Room.all xs f t));have HW:=ag (λ(u:World) (hu:jq kC u u.heap.size a n xs)=>aa3 a n c xs f t u hu hn hm);rw[<-hy] at hr aZ mf HAb HW;obtain⟨⟨x0,x1⟩,hfx⟩:∃r,r=Room.file s xs:=⟨_,rfl⟩
 obtain⟨⟨y0,y1⟩,hfy⟩:∃r,r=Room.file s ys:=⟨_,rfl⟩
 have HFy:=ag hfy;rw[<-hfx,<-hfy] at hr;rw[<-hfx] at bP HF;rw[<-hfy] at aZ;simp only at hr bP aZ;obtain⟨b0,b1⟩:=bP;obtain⟨b2,b3⟩:=aZ;have hyl:ys.length<=4000:=ae;have U6:x0<=100000:=ae;have hy9:y0<=100000:=ae;clear hx hb hfx hfy hy hl b1 b3 mf;by_cases h1:x1=0
 case neg=>
  rw[ev h1] at hr;rw[hr];have g1:(x1 !=0)=true:=by simpa using h1
  clear hr
  go_in
  go_wp2_with fail;refine(HF.o).mono ?_;rintro e w1 ⟨rfl,h_⟩;have bV:=ag h_;clear h_;go_wp2;go_ret2;exact⟨rfl,bV.o⟩
 subst h1;rw[eo aB] at hr;by_cases h2:y1=0
 case neg=>
  rw[ev h2] at hr;rw[hr];have g1:(y1 !=0)=true:=by simpa using h2
  clear hr
  go_in
  go_wp2_with fail;refine(HF.o).mono ?_;rintro e w1 ⟨rfl,h_⟩;have bV:=ag h_;clear h_;go_wp2_with fail;refine(HW.o _ (HX.o.on bV.o)).mono ?_;rintro e w2 ⟨v2,rfl,ho,aZ⟩;obtain⟨a2,c2,rfl,_⟩:=ho.bG (n:=ys.length) rfl;have df:=ag (bV.o.aA aZ);have wM:=ag (CG s a2 ys.length c2 ys w2 (ho.arr ae) HAb.o hyl);rw[<-HFy.o] at wM;clear ho aZ;go_wp2_with fail;refine wM.o.mono ?_;rintro e w3 ⟨rfl,bJ⟩;have cO:=ag (df.o.aA bJ);clear bJ;go_wp2;go_ret2;exact⟨rfl,cO.o⟩
 subst h2;rw[eo aB] at hr;rw[hr];clear hr
 go_in
 go_wp2_with fail;refine(HF.o).mono ?_;rintro e w1 ⟨rfl,h_⟩;have bV:=ag h_;clear h_;go_wp2_with fail;refine(HW.o _ (HX.o.on bV.o)).mono ?_;rintro e w2 ⟨v2,rfl,ho,aZ⟩;obtain⟨a2,c2,rfl,_⟩:=ho.bG (n:=ys.length) rfl;have df:=ag (bV.o.aA aZ);have wM:=ag (CG s a2 ys.length c2 ys w2 (ho.arr ae) HAb.o hyl);rw[<-HFy.o] at wM;clear ho aZ;go_wp2_with fail;refine wM.o.mono ?_;rintro e w3 ⟨rfl,bJ⟩;have cO:=ag (df.o.aA bJ);clear bJ;go_wp2;go_ret2;exact⟨rfl,cO.o⟩
end
section
open RowKit fG aO
variable {NB B P:Nat} {Q:Nat->Prop} {w w':World} {f:Fm} {s:Ps}
theorem Yu {x j v} (h:(j,v)∈Pt.pts x) (hx:x.length=64\/x=[]):j<32:=by
 rcases hx with hx|hx
 .exact(amq hx h).1
 grind[Pt.pts,Ino.dO]
theorem ar2 {s:Ps} (ho:s.Ok) io:∀x∈yl s.g io,x.1<1062:=by
 have hx:∀p,(s.g p).length=64\/s.g p=[]:=λp=>by
  by_cases h:s.There p
  .exact .inl (ho.sz p h)
  .exact .inr (ho.no p h)
 have h0:∀p fr,∀x∈ptrs s.g 0 p fr,x.1=fr:=λp fr x h=>by
  unfold ptrs at h;grind
 have h1:∀p fr,∀x∈ptrs s.g 1 p fr,x.1<fr+32:=λp fr x h=>by
  rw[ptrs] at h;split at h
  .cases h
  .rcases bS.1 h with rfl|h
   .show fr<fr+32;omega
   .obtain⟨⟨j,v⟩,hy,h⟩:=List.mem_flatMap.1 h;have:=Yu hy (hx p);grind
 have h2:∀p fr,∀x∈ptrs s.g 2 p fr,x.1<fr+1024:=λp fr x h=>by
  rw[ptrs] at h;split at h
  .cases h
  .rcases bS.1 h with rfl|h
   .show fr<fr+1024;omega
   .obtain⟨⟨j,v⟩,hy,h⟩:=List.mem_flatMap.1 h;have:=Yu hy (hx p);grind
 intro x h;unfold yl at h;grind
theorem aip {s:Ps} (ho:s.Ok) io:∀x∈gQ (yl s.g io),-9223372036854775808<=x/\x<=9223372036854775807:=λx h=>by unfold gQ at h;obtain⟨y,hy,rfl⟩:=bw.1 h;have:=ar2 ho io y (List.mem_filter.1 hy).1;omega
def bD (fi:Nf) (z:Int) io:={fi with s:=z,io:=io}
structure II NB B Q w1 F P f s (fi:Nf) io W:Prop where
 p:bZ NB B (Up Q w1 W) W P f s
 n:vg W F P {fi with io:=io}
 k:Kq (λq=>Q q\/q=F) w1 W
 q:∀q,Q q->q<w1
 b:B<=w1
theorem II.call {w1 W W' F fi io s'} (h:II NB B Q w1 F P f s fi io W) (hF:¬Q F) (hl:F<w1) (k:kF NB B (Up Q w1 W) W W' P f s'):II NB B Q w1 F P f s' fi io W':=by
 have hs:=h.k.size;have Vp:=k.2.size;refine⟨k.1.more (λq hq=>acf hs Vp hq) λq hq=>?_,h.n.kq k.2 λhq=>?_,h.k.aA k.2 λq hq=>?_,h.q,h.b⟩
 .rcases hq with h1|h1
  .have:=h.q q h1;exact k.1.bnd q (.inl (.inl h1))
  .have:=h.b;omega
 .rcases hq with h1|h1
  .exact hF h1
  .omega
 .rcases hq with h1|h1
  .exact .inl (.inl h1)
  .exact .inr h1.1
theorem II.on {w1 W W' F fi io} (h:II NB B Q w1 F P f s fi io W) (hF:¬Q F) (hl:F<w1) (hb:Below W W W'):II NB B Q w1 F P f s fi io W':=h.call hF hl (h.p.on_ hb)
theorem II.asked {w1 W W' F fi io} (h:II NB B Q w1 F P f s fi io W) (hF:¬Q F) (hl:F<w1) (h1:bZ NB B (Up Q w1 W) W' P f s) (h2:Kq (Up Q w1 W) W W'):II NB B Q w1 F P f s fi io W':=h.call hF hl (bZ.agc h1 h2 h.p.base)
theorem II.set {w1 W W' F fi io jv s' e} (h:II NB B Q w1 F P f s fi io W) (hs:aa4 NB B (Up Q w1 W) F P f s' {fi with io:=io} jv W e W'):II NB B Q w1 F P f s' fi jv W':=by
 obtain⟨_,h1,h2,h3⟩:=hs;have hs:=h.k.size;have Vp:=h3.size;refine⟨h1.more (λq hq=>acf hs Vp hq) λq hq=>?_,h2,h.k.aA h3 λq hq=>?_,h.q,h.b⟩
 .rcases hq with h5|h5
  .exact h1.bnd q (.inl (.inl h5))
  .have:=h.b;omega
 .rcases hq with h5|h5
  .rcases h5 with h6|h6
   .exact .inl (.inl h6)
   .exact .inr h6.1
  .exact .inl (.inr h5)
theorem II.far {w1 W F q fi io} (_:II NB B Q w1 F P f s fi io W) (hF:¬Q q) (hl:q<w1):¬Up Q w1 W q:=λh1=>hF (fA h1 hl)
theorem RI {B W W'} (h:Below B W W'):Kq (λk=>B<=k) W W':=⟨h.os,h.tape,h.output,h.size,λk _ h1=>h.block k ae⟩
theorem gJ W g cs:Kq (λq=>q=g) W (W.setRow g cs):=⟨rfl,rfl,rfl,au,λk _ h=>setRow_other W g k cs h⟩
theorem II.got {w1 W W5 W6 F fi io} (h:II NB B Q w1 F P f s fi io W) (hF:¬Q F) (hl:F<w1) (h1:bZ NB B (Up Q w1 W) W5 P f s) (h2:Kq (Up Q w1 W) W W5) (hb:Below W W5 W6):II NB B Q w1 F P f s fi io W6:=
 h.asked hF hl ((h1.kq (T:=λk=>W.heap.size<=k) (RI hb) λq hq h3=>by have:=(h.p.bnd q hq).2;omega)) ⟨hb.os.trans h2.os,hb.tape.trans h2.tape,hb.output.trans h2.output,bB h2.size hb.size,λk hk hn=>(hb.block k ae).trans (h2.block k hk hn)⟩
theorem aeG {a c l bl o} {f:Nat->Prop} (h:∀bl o,a=some ⟨bl,o,none⟩->f bl) (ha:∃bl o,a=some ⟨bl,o,none⟩) (he:iQ a c l=some ⟨bl,o,none⟩):f bl:=by
 obtain⟨b1,o1,rfl⟩:=ha;have h1:=h b1 o1 rfl;unfold iQ at he;split at he
 .grind
 .have e2:some (Addr.add ⟨b1,o1,none⟩ l)=some ⟨bl,o,none⟩:=he;rw[Addr.add_mid] at e2;grind
theorem RP:(prog.info? 107).map (·.size)=some 11:=az
theorem kL fi:(dZ fi).all (·.oneCell')=true:=by simp[dZ,Value.oneCell']
theorem vg.cells {F fi} (h:vg w F P fi):aF w F 204 (nfA P fi):=by rw[aiq h.dl];exact h.blk
theorem yB {fi off m c fuel b mo a} (h:bZ NB B Q w P f s) (hw:Wf s fi.io) (hx:Bytes w w a m b) (hmc:m<=c) (pK:b≠[]) (gB:m<=1024) (amk:off+m<=67968)
  (VL:Room.vS 64 (gQ (yl s.g fi.io)) ((off/64:Nat)) (((off+m+63)/64:Nat))=(mo,0)) (hmo:mo<=s.np-s.us.length) (zJ:ac4 fuel s fi.io off b) (YM:∀bl o,a=some ⟨bl,o,none⟩->¬Q bl/\bl<w):
  Calls prog 80 #[P,GL fi,O aa off,an a m c] w λe w'=>e=ar (ao #[GL (bD fi (max fi.s ((off+m:Nat))) (Jy fuel s fi.io off b).2),O aa 0])/\kF NB B Q w w' P f (Jy fuel s fi.io off b).1:=by
 have HH:=ag h;have HW:=ag hw;have HX:=ag hx;have Vs:=ag zJ;have HQa:=ag YM;have axX:=ag VL;have HMo:=ag hmo;have UI:=ag hw.dl;have HNb:=ag pK;have Gz:=hx.len;have HMl:=ag Gz;have NT:1<=m:=by rw[<-Gz];exact List.length_pos_iff.2 pK
 unfold GL dZ;have g0:¬(off:Int)<0:=ae;have g1:¬(1024:Int)<(m:Int):=ae;have g2:=bq (67968-(m:Int)) ⟨ae,ae⟩;have g3:¬67968-(m:Int)<(off:Int):=ae;have g4:((m:Int)==0)=false:=by rw[ew];omega
 have g5:=bq ((off:Int)+(m:Int)) ⟨ae,ae⟩;have g6:=bq (64:Int) ⟨ae,ae⟩;have HMs:=ag (show Ino.most 64=67968 from aB);clear h hw hx zJ YM VL hmo pK Gz
 go_in
 have aZ:Below w.heap.size w ((w.alloc (.cells fi 107)).alloc (.cells bc 107)):=((aE _ w).alloc av _).alloc au _;have qm:=(aF.new w 107 fi).alloc (.cells bc 107);have tZ:=aF.new (w.alloc (.cells fi 107)) 107 bc;have mQ:((w.alloc (.cells fi 107)).alloc (.cells bc 107)).heap.size=w.heap.size+2:=au;simp only[bR] at tZ;have df:=ag aZ;have HZ0:=ag qm;have HZ1:=ag tZ;have qN:=ag mQ;clear aZ qm tZ mQ;go_wp2_with fail;generalize (w.alloc (.cells fi 107)).alloc (.cells bc 107)=w2 at*;have ui:=ag (HH.o.on df.o);refine(dV ui.o).cj ?_;go_wp2_with fail;refine(BB 64 w2).cj ?_;rw[HMs.o];go_wp2_with fail;refine(dV ui.o).cj ?_;go_upto_region 11 with fail;have ja:=ag qN.o;have CS:=ag (show∀k,w.heap.size<=k->¬Q k from λk hk=>HH.o.aV hk)
 go_cut [12,13] (λv12 v13 wx=>v12=O aa mo/\v13=O aa 0/\Hid (bZ NB B Q wx P f s/\Kq Q w2 wx))
 case first=>
  have xX:=ag (Kq.of (T:=Q) (ak w2));have HPd:=ag (ui.o.on (ak w2));have h7:=bq ((off:Int)/64) ⟨ae,ae⟩;have J6:=bq ((off:Int)+(m:Int)+64) ⟨ae,ae⟩;have Zg:=bq ((off:Int)+(m:Int)+64-1) ⟨ae,ae⟩;have h13:IntKind.i64.wrap (Int.tdiv ((off:Int)+(m:Int)+64-1) 64)=((off:Int)+(m:Int)+64-1)/64:=by rw[Int.tdiv_eq_ediv_of_nonneg ae];exact bq (((off:Int)+(m:Int)+64-1)/64) ⟨ae,ae⟩
  have IG:=ag (λW (hW:bZ NB B Q W P f s)=>yC (fi:=fi) hW HW.o);unfold GL dZ at IG;have HMc:=ag (λ(W:World) (a4:Option Addr) (c4:Nat) (hW:bZ NB B Q W P f s) (ho:Own kC 3 W 0 (an a4 (gQ (yl s.g fi.io)).length c4) (gQ (yl s.g fi.io)))=>(show Calls prog 133 #[O aa 64,an a4 (gQ (yl s.g fi.io)).length c4,O aa ((off:Int)/64),O aa (((off:Int)+(m:Int)+64-1)/64)] W (λe w'=>e=ar (ao #[O aa mo,O aa 0])/\Below W.heap.size W w') from by have hln:=bB (Fp (yl s.g fi.io)) (Zu hW.ok fi.io);have h:=Yt 64 a4 _ c4 (gQ (yl s.g fi.io)) ((off:Int)/64) (((off:Int)+(m:Int)+64-1)/64) W (ho.arr ae) (aip hW.ok fi.io) hln (by unfold Room.more;split<;>omega);have hm:=axX.o;rw[show(((off/64:Nat)):Int)=(off:Int)/64 by omega,show((((off+m+63)/64:Nat)):Int)=((off:Int)+(m:Int)+64-1)/64 by omega] at hm;rw[hm] at h;exact h));have HS:=ag (λW (hW:Kq Q w2 W)=>(HZ0.o.kq hW (CS.o _ av):aF W w.heap.size 107 fi));refine iE (λW'=>aF W' w.heap.size 107 fi) (HS.o _ xX.o) (λaY=>?_);generalize w2.drew=W at*;refine dw 0 P 0 ?_;refine dw 2 P 0 ?_;refine jE 3 (.agg fi) rfl (λ_ aK=>by have y0:=aK.aj (i:=0) rfl;have y1:=aK.aj (i:=1) rfl;have y2:=aK.aj (i:=2) rfl;have y3:=aK.aj (i:=3) rfl;have y4:=aK.aj (i:=4) rfl;have y5:=aK.aj (i:=5) rfl;have y6:=aK.aj (i:=6) rfl;have y7:=aK.aj (i:=7) rfl;have y8:=aK.aj (i:=8) rfl;have y9:=aK.aj (i:=9) rfl;have GR:=aK.aj (i:=10) rfl;go_simp) ?_;refine dI 5 (off:Int) ?_;refine dI 6 64 ?_;refine iR 7 ((off:Int)/64) ?_;refine dI 8 (((off:Int)+(m:Int))) ?_;refine dI 9 64 ?_;refine iR 10 ((off:Int)+(m:Int)+64) ?_;refine iR 11 ((off:Int)+(m:Int)+64-1) ?_;refine dI 12 64 ?_;refine iR 13 (((off:Int)+(m:Int)+64-1)/64) ?_;refine bY 1 (λK' hK=>?_);go_simp;refine(dV HPd.o).cj ?_;refine hK.out _ _ aY (λdh=>?_)
  refine bY 4 (λK' hK=>?_);go_simp;refine(IG.o _ HPd.o).mono ?_;rintro e W4 ⟨⟨v,rfl,ho⟩,PS,oQ⟩;obtain⟨a4,c4,rfl,_⟩:=ho.bG rfl;have x9:=ag (ho.mono (bN _));have NJ:=ag PS;have kX:=ag (xX.o.trans oQ);clear ho PS oQ;refine hK.out _ _ (HS.o W4 kX.o) (λfE=>?_)
  refine bY 14 (λK' hK=>?_);go_simp;refine(HMc.o W4 a4 c4 NJ.o x9.o).mono ?_;rintro e w5 ⟨rfl,eQ⟩;have HR:=ag (show bZ NB B Q w5 P f s/\Kq Q w2 w5 from⟨NJ.o.on eQ,kX.o.on eQ⟩);refine hK.out _ _ (HS.o w5 HR.o.2) (λnZ=>?_)
  clear eQ;refine dG 15 (ao #[O aa mo,O aa 0]) ?_;refine dI 16 mo ?_;refine dI 17 0 ?_;refine dI 18 mo ?_;refine dI 19 0 ?_;refine eH ?_;clear aY dh fE nZ;go_wp2_with fail;go_meet
  case rel=>exact⟨rfl,rfl,HR⟩
 case rest=>
  obtain⟨rfl,rfl,hr⟩:=hcut;have HPc:=ag hr.o.1;have HKc:=ag hr.o.2;clear hr;have axY:¬(s.np:Int)-(s.us.length:Int)<mo:=by have:=HMo.o;omega
  go_wp2_with fail;refine(Au HPc.o).mono ?_;rintro e w3 ⟨rfl,bJ⟩;have pU:=ag (HPc.o.on bJ);have jZ:=ag (HKc.o.on bJ);have RH:=ag (HZ0.o.kq jZ.o (CS.o _ av));have CY:=ag (HZ1.o.kq jZ.o (CS.o _ ae));obtain⟨vac,ar4⟩:∃v:Int,v=(s.np:Int)-(s.us.length:Int):=⟨_,rfl⟩
  rw[<-ar4] at axY;rw[<-ar4];obtain⟨y0,y1,y2,y3,y4,y5,y6,y7,y8,y9,GR⟩:=RH.o.c11;clear bJ ar4;go_upto_region 15 with fail;obtain⟨w1,ku⟩:=aW (w3.alloc (.cells (nfA P fi) 204));have bP:Below w3.heap.size w3 w1:=by rw[ku];exact(aE _ w3).alloc av _
  have UH:vg w1 w3.heap.size P fi:=by rw[ku];exact vg.made w3 UI.o P
  have jA:w1.heap.size=w3.heap.size+1:=by rw[ku];simp
  have HW1:=ag ku;obtain⟨F,hF⟩:=aW w3.heap.size;rw[<-hF] at UH jA;have hF3:w2.heap.size<=F:=by rw[hF];exact jZ.o.size
  have HQb:=ag (λq (h:Q q)=>(HH.o.bnd q h).2);have Dh:=ag (show¬Q F from CS.o F (by have:=qN.o;omega));have zK:=ag (show F<w1.heap.size by omega);have bV:=ag bP;have HI:=ag (show II NB B Q w1 F P f s fi fi.io w1 from⟨(pU.o.on bP).more (λq h=> .inl h) λq h=>by
   rcases h with h|h
   .exact(pU.o.on bP).bnd q h
   .omega,UH,Kq.refl _ _,λq h=>((pU.o.on bP).bnd q h).2,(pU.o.on bP).base⟩)
  obtain⟨R,hR⟩:=aW (Jy fuel s fi.io off b);have HR:=ag hR;have XF:=ag (show Bytes w1 w1.heap.size a m b from((HX.o.kq av (((Kq.of (T:=Q) df.o).trans jZ.o).on bP) λbl o e=>(HQa.o bl o e).1).mono (by have:=jZ.o.size;have:=qN.o;omega)));rw[<-hF,show w3.alloc (.cells #[.pointer (some ⟨P,0,none⟩),O aa fi.k,O aa fi.l,O aa fi.s,O aa (nd fi 0),O aa (nd fi 1),O aa (nd fi 2),O aa (nd fi 3),O aa (nd fi 4),O aa (nd fi 5),O aa fi.io.s,O aa fi.io.b] 204)=w1 from HW1.o.symm];clear y0 y1 y2 y3 y4 y5 y6 y7 y8 y9 GR bP UH ku hF axY;clear hR;have HE:=ag (show b.length=m from HMl.o)
  go_loopw [2,3,15,16,17,18,19,20] (λv2 v3 _ _ _ _ _ _ wr=>∃(s':Ps) (jv:zO.Io) (bI:Nat) (b':List UInt8) (QQ:Nat) (a':Option Addr) (m' c':Nat),v2=O aa bI/\v3=an a' m' c'/\m'<=c'/\Bytes w1 w1.heap.size a' m' b'/\(∀bl o,a'=some ⟨bl,o,none⟩->¬Q bl/\bl<w.heap.size)/\bI+m'=off+m/\ac4 QQ s' jv bI b'/\Jy QQ s' jv bI b'=R/\II NB B Q w1 F P f s' fi jv wr) (λv2 _ _ _ _ _ _ _ _=>100000-(intOf v2).toNat)
  case atStart=>exact⟨s,fi.io,off,b,fuel,a,m,c,rfl,rfl,hmc,XF.o,HQa.o,rfl,Vs.o,HR.o.symm,HI.o⟩
  case round=>
   obtain⟨s',jv,bI,b',QQ,a',m',c',rfl,rfl,aEl,CP,ar5,hom,amr,hR',hn'⟩:=hrel;have HX':=ag CP;have HQ':=ag ar5;have JD:=ag hn';have HR':=ag hR';have ams:=CP.len;by_cases h0:m'=0
   .have gl:¬(bI:Int)<(off:Int)+(m:Int):=ae;have gu:b'=[]:=ek ae;have HRe:=ag (show R=(s',jv) from by
     rw[<-hR',gu]
     cases QQ with
     |zero=>rfl
     |succ k=>exact ev rfl)
    have Dc:=JD.o.n.cells;have e1:wr.cell? ⟨F,1,none⟩=some (O aa fi.k):=Dc.aj (i:=1) rfl;have e2:wr.cell? ⟨F,2,none⟩=some (O aa fi.l):=Dc.aj (i:=2) rfl;have e3:wr.cell? ⟨F,3,none⟩=some (O aa fi.s):=Dc.aj (i:=3) rfl;have e4:wr.cell? ⟨F,4,none⟩=some (O aa (nd (bD fi (max fi.s ((off:Int)+(m:Int))) jv) 0)):=Dc.aj (i:=4) rfl;have e5:wr.cell? ⟨F,5,none⟩=some (O aa (nd (bD fi (max fi.s ((off:Int)+(m:Int))) jv) 1)):=Dc.aj (i:=5) rfl;have e6:wr.cell? ⟨F,6,none⟩=some (O aa (nd (bD fi (max fi.s ((off:Int)+(m:Int))) jv) 2)):=Dc.aj (i:=6) rfl;have e7:wr.cell? ⟨F,7,none⟩=some (O aa (nd (bD fi (max fi.s ((off:Int)+(m:Int))) jv) 3)):=Dc.aj (i:=7) rfl;have e8:wr.cell? ⟨F,8,none⟩=some (O aa (nd (bD fi (max fi.s ((off:Int)+(m:Int))) jv) 4)):=Dc.aj (i:=8) rfl;have e9:wr.cell? ⟨F,9,none⟩=some (O aa (nd (bD fi (max fi.s ((off:Int)+(m:Int))) jv) 5)):=Dc.aj (i:=9) rfl;have e10:wr.cell? ⟨F,10,none⟩=some (O aa jv.s):=Dc.aj (i:=10) rfl;have e11:wr.cell? ⟨F,11,none⟩=some (O aa jv.b):=Dc.aj (i:=11) rfl;have f3:=Dc.frozen 3;have hst:Kq (λq=>q=F) wr (wr.setCell ⟨F,3,none⟩ (O aa (max fi.s ((off:Int)+(m:Int))))):=Kq.one ⟨F,3,none⟩ _;have hF2:F≠w.heap.size+1:=by have:=qN.o;omega
    have hr1:aF wr (w.heap.size+1) 107 bc:=(CY.o.ah bV.o).kq JD.o.k λh=>h.elim (CS.o _ ae) (λe=>hF2 e.symm);have HR9:=ag (hr1.kq hst λe=>hF2 e.symm);have jI:=ag hst;have HP9:=ag (JD.o.p.kq hst λq hq e=>JD.o.far Dh.o zK.o (e▸hq));have GU:=ag (((Kq.of (T:=λq=>Q q\/q=F) df.o).trans (jZ.o.mono λq h=> .inl h)).trans (((Kq.of bV.o).trans JD.o.k).trans (hst.mono λq h=> .inr h)));have UO:=ag (show w3.heap.size<=w1.heap.size from bV.o.size);clear CP ar5 hn' hR' amr ams gu Dc hst hr1
    go_wp2_with (refine aH rfl rfl _ _ _ rfl (w.heap.size+1) #[O aa fi.k,O aa fi.l,O aa (max fi.s ((off:Int)+(m:Int))),O aa (nd (bD fi (max fi.s ((off:Int)+(m:Int))) jv) 0),O aa (nd (bD fi (max fi.s ((off:Int)+(m:Int))) jv) 1),O aa (nd (bD fi (max fi.s ((off:Int)+(m:Int))) jv) 2),O aa (nd (bD fi (max fi.s ((off:Int)+(m:Int))) jv) 3),O aa (nd (bD fi (max fi.s ((off:Int)+(m:Int))) jv) 4),O aa (nd (bD fi (max fi.s ((off:Int)+(m:Int))) jv) 5),O aa jv.s,O aa jv.b] rfl rfl 107 bc HR9.o rfl RP (kL (bD fi (max fi.s ((off:Int)+(m:Int))) jv)) ?_)
    rw[<-HR.o,HRe.o];obtain⟨W9,hW9⟩:∃W,W=(wr.setCell ⟨F,3,none⟩ (O aa (max fi.s ((off:Int)+(m:Int))))).setRow (w.heap.size+1) #[O aa fi.k,O aa fi.l,O aa (max fi.s ((off:Int)+(m:Int))),O aa (nd (bD fi (max fi.s ((off:Int)+(m:Int))) jv) 0),O aa (nd (bD fi (max fi.s ((off:Int)+(m:Int))) jv) 1),O aa (nd (bD fi (max fi.s ((off:Int)+(m:Int))) jv) 2),O aa (nd (bD fi (max fi.s ((off:Int)+(m:Int))) jv) 3),O aa (nd (bD fi (max fi.s ((off:Int)+(m:Int))) jv) 4),O aa (nd (bD fi (max fi.s ((off:Int)+(m:Int))) jv) 5),O aa jv.s,O aa jv.b]:=⟨_,rfl⟩
    rw[<-hW9];have afO:aF W9 (w.heap.size+1) 107 #[O aa fi.k,O aa fi.l,O aa (max fi.s ((off:Int)+(m:Int))),O aa (nd (bD fi (max fi.s ((off:Int)+(m:Int))) jv) 0),O aa (nd (bD fi (max fi.s ((off:Int)+(m:Int))) jv) 1),O aa (nd (bD fi (max fi.s ((off:Int)+(m:Int))) jv) 2),O aa (nd (bD fi (max fi.s ((off:Int)+(m:Int))) jv) 3),O aa (nd (bD fi (max fi.s ((off:Int)+(m:Int))) jv) 4),O aa (nd (bD fi (max fi.s ((off:Int)+(m:Int))) jv) 5),O aa jv.s,O aa jv.b]:=by rw[hW9];exact HR9.o.row _
    have AU:=gJ (wr.setCell ⟨F,3,none⟩ (O aa (max fi.s ((off:Int)+(m:Int))))) (w.heap.size+1) #[O aa fi.k,O aa fi.l,O aa (max fi.s ((off:Int)+(m:Int))),O aa (nd (bD fi (max fi.s ((off:Int)+(m:Int))) jv) 0),O aa (nd (bD fi (max fi.s ((off:Int)+(m:Int))) jv) 1),O aa (nd (bD fi (max fi.s ((off:Int)+(m:Int))) jv) 2),O aa (nd (bD fi (max fi.s ((off:Int)+(m:Int))) jv) 3),O aa (nd (bD fi (max fi.s ((off:Int)+(m:Int))) jv) 4),O aa (nd (bD fi (max fi.s ((off:Int)+(m:Int))) jv) 5),O aa jv.s,O aa jv.b];rw[<-hW9] at AU;obtain⟨z0,z1,z2,z3,z4,z5,z6,z7,z8,z9,z10⟩:=afO.c11;refine bodyPost_ret (v:=ao #[GL (bD fi (max fi.s ((off:Int)+(m:Int))) jv),O aa 0]) (by simp[results,Tryz.results80,go_sem,GL,dZ,bD,z0,z1,z2,z3,z4,z5,z6,z7,z8,z9,z10]) rfl ⟨rfl,?_⟩;have mQ:=qN.o;refine HH.o.fin (HP9.o.kq AU λq hq e=>?_) (λq hq=>?_) (GU.o.aA AU λq e=> .inr ae) λq hq=>?_
    .have:=JD.o.q;rcases hq with h1|h1
     .have:=(HH.o.bnd q h1).2;omega
     .have:=UO.o;have:=jZ.o.size;omega
    .rcases hq with h1|h1
     .exact .inl h1
     .have:=UO.o;have:=jZ.o.size;exact .inr ae
    .rcases hq with h1|h1
     .exact .inl h1
     .exact .inr ae
   .have gl:(bI:Int)<(off:Int)+(m:Int):=ae;have gu:b'≠[]:=λe=>h0 (by rw[<-ams,e];rfl);obtain⟨fu,rfl⟩:∃k,QQ=k+1:=by
     cases QQ with
     |zero=>exact absurd amr gu
     |succ k=>exact⟨k,rfl⟩
    obtain⟨hen,amh⟩:=amr.resolve_left gu;have HEn:=ag hen;have Yp:=ag amh;have HKp:=ag (amu (off:=bI) gu);have Aw:=ag (show Jy fu (PL s' jv bI b').1 (PL s' jv bI b').2 (bI+Ap bI b') (b'.drop (Ap bI b'))=R from by rw[<-hR'];exact(eo gu).symm);have CO:=ag ams;have q1:=bq ((bI:Int)/64) ⟨ae,ae⟩;have q2:=bq ((bI:Int)%64) ⟨ae,ae⟩;have q3:Int.tmod (bI:Int) 64=(bI:Int)%64:=Int.tmod_eq_emod_of_nonneg ae;clear CP ar5 hn' hR' amr gu hen amh ams;go_upto_region 16 with fail;refine iE (λ_=>True) trivial (λaY=>?_);refine dI 0 (bI:Int) ?_;refine dI 1 64 ?_;refine iR 2 ((bI:Int)/64) ?_;refine dI 3 (bI:Int) ?_;refine dI 4 64 ?_;refine iR 5 ((bI:Int)%64) ?_;refine dI 6 ((bI:Int)/64) ?_;refine dI 7 ((bI:Int)%64) ?_;refine eH ?_;clear aY;have UL:=ag (JD.o.on Dh.o zK.o (ak wr));obtain⟨n,hn⟩:=aW (bI/64);obtain⟨E,hE⟩:=aW (QN s' jv n);obtain⟨S1,Io1,T⟩:=E;obtain⟨K,hK⟩:=aW (Ap bI b');have Az:=HEn.o.th;rw[<-hn,<-hE] at Az;have EP:=ag (show S1.There T from Az);have ku:PL s' jv bI b'=(S1.put T (wrX (S1.g T) bI b'),Io1):=by unfold PL;rw[<-hn,<-hE]
    rw[ku,<-hK] at Aw Yp;rw[<-hK] at HKp;rw[<-hn] at HEn;have HE:=ag hE;have VF:=ag hK;rw[show((bI:Int)/64)=(n:Int) from ae,show((bI:Int)%64)=((bI%64:Nat):Int) from ae];generalize wr.drew=W at*;obtain⟨At,RN⟩:=aW (Dq s'.g jv n);have UM:=ag RN;have HAc:=ag (show Calls prog 135 #[F,O aa n] W (vO NB B (Up Q w1 W) P f s' (O aa At) W) from by rw[RN];exact uj UL.o.p UL.o.n (UL.o.far Dh.o zK.o) HEn.o.wf HEn.o.hn);clear Az ku hE hK hn q1 q2 q3 RN;go_wp2_with fail;refine HAc.o.mono ?_;rintro e W2 ⟨rfl,jU,eU⟩;have JC:=ag (UL.o.asked Dh.o zK.o jU eU);clear jU eU;go_upto_if 99 with fail
    go_cut [17] from 86 to 133 (λv17 wx=>v17=O aa T/\Hid (II NB B Q w1 F P f S1 fi Io1 wx))
    case first=>
     by_cases h0:At=0
     .have h1:Dq s'.g jv n=0:=UM.o.symm.trans h0;obtain⟨aT,hso⟩:=HEn.o.new h1;have HNx:=ag (Ps.axZ aT);have HSo:=ag hso;have he:(S1,Io1,T)=((CB (s'.add s'.nx) jv n s'.nx).1,(CB (s'.add s'.nx) jv n s'.nx).2,s'.nx):=HE.o.trans (ev h1);injection he with e1 he
      injection he with e2 e3
      have HE1:=ag e1;have HE2:=ag e2;rw[<-e3] at HNx HSo HE1 HE2;have gz:((At:Int)==0)=true:=by rw[beq_iff_eq];omega
      clear h1 aT hso e1 e2 e3 h0;go_wp2_with fail;refine(Nb JC.o.p HNx.o).mono ?_;rintro e W3 ⟨rfl,wL⟩;have rG:=ag (JC.o.call Dh.o zK.o wL);clear wL;go_wp2_with fail;refine(Dt rG.o.p rG.o.n (rG.o.far Dh.o zK.o) HSo.o).mono ?_;rintro e W4 UN;have HN4:=ag (rG.o.set UN);obtain⟨⟨_,rfl⟩,_⟩:=UN;go_wp2_with fail;go_meet
      case rel=>refine⟨rfl,hid ?_⟩;have:=HN4.o;rw[<-HE1.o,<-HE2.o] at this;exact this
     .have h1:¬Dq s'.g jv n=0:=λe=>h0 (UM.o.trans e);have he:(S1,Io1,T)=(s',jv,Dq s'.g jv n):=HE.o.trans (eo h1);injection he with e1 he
      injection he with e2 e3
      rw[<-UM.o] at e3;subst e1 e2 e3;have gz:((T:Int)==0)=false:=by rw[ew];omega
      clear h1 h0;go_wp2_with fail;go_meet
      case rel=>exact⟨rfl,JC⟩
    case rest=>
     obtain⟨rfl,HC⟩:=hcut;generalize wc=W5 at*;have Fq:=ag (HC.o.p.ok.sz T EP.o);go_wp2_with fail;refine(mV HC.o.p EP.o).mono ?_;rintro e W6 ⟨⟨v,rfl,ho⟩,hp6,tH⟩;obtain⟨a6,c6,rfl,_⟩:=ho.bG Fq.o;obtain⟨g,rfl,jf,_⟩:=ho.addr (by rw[Fq.o];omega);have ax0:=kE (some ⟨g,0,none⟩) 64 c6 (bI%64) ae;have BQ:=ag ho;have HP6:=ag hp6;have ql:=ag tH;have HY6:=ag (HX'.o.kq av (HC.o.k.aA tH λq hq=>by
      rcases hq with h1|h1
      .exact .inl (.inl h1)
      .exact .inr h1.1) λbl o e=>by
      obtain⟨h1,h2⟩:=HQ'.o bl o e;rintro(h3|h3)
      .exact h1 h3
      .have:=qN.o;omega)
     have HKm:=ag (show K=min (64-bI%64) m' from VF.o.trans (by unfold Ap;rw[CO.o]));clear ho hp6 tH jf
     go_wp2_with (with_reducible refine NZ rfl _ _ rfl W5.heap.size g 64 c6 (bI%64) (S1.g T) rfl BQ.o w1.heap.size a' m' c' b' rfl HY6.o ae ae K HKm.o ?_;intro W7 uB nY)
     have HN7:=ag (HC.o.got Dh.o zK.o HP6.o ql.o nY.o);have hx7:=uB.o;rw[VF.o] at hx7;replace hx7:Own aJ 5 W7 W5.heap.size (an (some ⟨g,0,none⟩) 64 c6) (wrX (S1.g T) bI b'):=hx7;refine(wY HN7.o.p EP.o (some ⟨g,0,none⟩) c6 (wrX (S1.g T) bI b') (hx7.arr (by rw[amv Fq.o];decide))).mono ?_;rintro e W8 ⟨rfl,hp8⟩;have HN8:=ag (HN7.o.call Dh.o zK.o hp8);have fO:K<=m':=by have:=HKm.o;omega
     have aH8:=kE a' m' c' K fO;have HGk:=ag (bq ((bI:Int)+(K:Int)) ⟨ae,ae⟩);have gk:=HGk.o;clear hp8 hx7 ax0;go_wp2_with fail;go_roundw
     case rel=>refine⟨_,_,bI+K,b'.drop K,fu,iQ a' c' K,m'-K,c'-K,by go_num,au,ae,HX'.o.drop fO aEl,λbl o e=>?_,ae,Yp,Aw.o,HN8.o⟩;exact aeG (f:=λbl=>¬Q bl/\bl<w.heap.size) HQ'.o (by obtain⟨b1,o1,h1,_⟩:=HX'.o.2.2 ae;exact⟨b1,o1,h1⟩) e
     case measure=>have h1:=HKp.o.1;have h2:=HGk.o;simp only[intOf];omega
end
end Go.Proofs.YtnieckfelfoopaaGreat

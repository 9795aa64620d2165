import Derived.Test.YtnieckfelfoopaaGreatOpnScan
import Derived.Deep.DeepCutAuto
open Go.Proofs.Tryz (prog)
namespace Go.Proofs.YtnieckfelfoopaaGreat
open Lib (hid)
set_option maxRecDepth 100000
set_option maxHeartbeats 16000000
section
open Go.RowKit eX Opn

theorem FQ (a:Option Addr) (n c:Nat) (l:List En) (w:World) (hx:jv 6 Vh w w.heap.size a n l) (hn:n<=100000):
  Calls prog 171 #[.slice a n c] w λe w'=>e= .returned (.int .u64 (pq l:Int))/\Below w.heap.size w w':=by
 have HX:=ag hx;have DC:=ag hx.len;have jq:=BX;clear hx
 go_in
 go_wp2_with fail
 go_loopw [3,5,8] (λm _ i wr=>∃j:Nat,j<=n/\i= .int .i64 j/\m= .int .u64 (pq (l.take j):Int)/\Below w.heap.size w wr) (λ_ _ i _=>n-(intOf i).toNat)
 case atStart=>exact⟨0,ae,rfl,rfl,Below.refl _ _⟩
 case round=>
  obtain⟨j,hj,rfl,rfl,hb⟩:=hrel;have HB:=ag hb;clear hb;by_cases aU:j<n
  ·obtain⟨x,UH,b,o,rfl,kF,c0,c1,c2,c3,c4,c5⟩:=NC (HX.o.below HB.o) aU;obtain⟨uX,FU⟩:=List.getElem?_eq_some_iff.1 UH;have eQ:pq (l.take (j+1))=qW (pq (l.take j)) x:=by rw[<-FU];exact qi qW 0 l uX
   have oP:=ag eQ;have Qn:(0:Int)<=(j:Int):=ae;have ZL:(j:Int)<(n:Int):=ae;have dA:=ag (HB.o.alloc HB.o.size (.cells #[.int .i64 x.t.k,.int .u32 (x.t.p:Int),.int .u64 (x.t.s:Int),.int .u64 (x.t.e:Int),.int .i64 (x.b:Int),.int .i64 (x.i:Int)] 249));clear eQ UH uX FU;generalize pq (l.take j)=m at*;by_cases hk:x.t.k=2
   ·have hm:qW m x=max m x.t.e:=if_pos hk;have HM:=ag hm;have hkb:(x.t.k==2)=true:=by rw[hk];rfl
    clear hm hk;go_wp2_with fail;go_roundw
    case rel=>exact⟨j+1,ae,by go_num,by rw[oP.o,HM.o];congr 1;omega,dA.o⟩
    case measure=>simp[intOf];omega
   ·have hm:qW m x=m:=if_neg hk;have HM:=ag hm;have hkb:(x.t.k==2)=false:=by rw[beq_eq_false_iff_ne];exact hk
    clear hm hk;go_wp2_with fail;go_roundw
    case rel=>exact⟨j+1,ae,by go_num,by rw[oP.o,HM.o],dA.o⟩
    case measure=>simp[intOf];omega
  ·obtain rfl:j=n:=ae;have HE:=ag (show pq (l.take j)=pq l by rw[List.take_of_length_le (by rw[DC.o];exact Nat.le_refl _)]);go_wp2_with fail;go_ret;exact⟨by rw[HE.o];rfl,HB.o⟩
theorem Cc (x:En) (last:Nat) (w:World):
  Calls prog 225 #[.agg #[.int .i64 x.t.k,.int .u32 (x.t.p:Int),.int .u64 (x.t.s:Int),.int .u64 (x.t.e:Int),.int .i64 (x.b:Int),.int .i64 (x.i:Int)],.int .u64 last] w λe w'=>e= .returned (.bool (cnt last x))/\Below w.heap.size w w':=by
 obtain⟨⟨k,p,s,ep⟩,d,b,i⟩:=x;have jq:=BX;have HC:=ag (show cnt last ⟨⟨k,p,s,ep⟩,d,b,i⟩=(decide (ep<=last)&&(decide (0<p)||decide (ep=last))) from rfl);generalize cnt last ⟨⟨k,p,s,ep⟩,d,b,i⟩=res at*;simp only;by_cases h2:p=0
 ·subst h2;have HB:=ag ((Below.refl w.heap.size w).alloc (Nat.le_refl _) (.cells #[.int .i64 k,.int .u32 0,.int .u64 s,.int .u64 ep,.int .i64 b,.int .i64 i] 249));by_cases h3:ep=last
  ·subst h3;have HE:=ag (show res=true by rw[HC.o,decide_eq_true (Nat.le_refl ep),decide_eq_true rfl];rfl)
   go_in
   go_wp2;go_ret;exact⟨by rw[HE.o];rfl,HB.o⟩
  ·have h4:((ep:Int)==(last:Int))=false:=by rw[beq_eq_false_iff_ne];omega
   have HE:=ag (show res=false by rw[HC.o,decide_eq_false h3];simp);by_cases h1:ep<=last
   ·clear h3
    go_in
    go_wp2;go_ret;exact⟨by rw[HE.o];rfl,HB.o⟩
   ·clear h3
    go_in
    go_wp2;go_ret;exact⟨by rw[HE.o];rfl,HB.o⟩
 ·have HB:=ag ((Below.refl w.heap.size w).alloc (Nat.le_refl _) (.cells #[.int .i64 k,.int .u32 p,.int .u64 s,.int .u64 ep,.int .i64 b,.int .i64 i] 249));have h3:0<p:=ae;by_cases h1:ep<=last
  ·have HE:=ag (show res=true by rw[HC.o,decide_eq_true h1,decide_eq_true h3];rfl);clear h2
   go_in
   go_wp2;go_ret;exact⟨by rw[HE.o];rfl,HB.o⟩
  ·have HE:=ag (show res=false by rw[HC.o,decide_eq_false h1];rfl);clear h2
   go_in
   go_wp2;go_ret;exact⟨by rw[HE.o];rfl,HB.o⟩
end
section
open Go.RowKit eX Opn Go.ChangeMaps Go.Maps

theorem Qd (a:Option Addr) (n c:Nat) (l:List En) (last:Nat) (w:World) (hx:jv 6 Vh w w.heap.size a n l) (hn:n<=100000) (hp:∀e∈l,e.t.p<4294967296):
  Calls prog 173 #[.slice a n c,.int .u64 last] w λe w'=>(∃v,e= .returned v/\dK 6 Vh 249 w' w.heap.size v (xy last l))/\Below w.heap.size w w':=by
 have HX:=ag hx;have DC:=ag hx.len;have HP:=ag hp;have jq:=BX;have Qp:=@run_makeMap prog;have Yu:=ag (mG.made (P:=prog) (k:=64) (kv:=kyV) (vv:=snV) w);have iC:=ag ((Below.refl w.heap.size w).alloc (Nat.le_refl _) (.map #[] 0));clear hx hp
 go_in
 go_upto_region 2 with fail;clear Qp;generalize jw:w.alloc (.map #[] 0)=w1 at*;obtain⟨mb,Vf⟩:=bu w.heap.size;have HMb:=ag Vf;rw[<-Vf] at Yu⊢;clear jw Vf;go_wp2_with fail
 go_loopw [7,14] (λ_ i wr=>∃j:Nat,j<=n/\i= .int .i64 j/\Lt wr mb (EU last (l.take j))/\Below w.heap.size w wr) (λ_ i _=>n-(intOf i).toNat)
 case atStart=>exact⟨0,ae,rfl,Yu.o,iC.o⟩
 case round=>
  obtain⟨j,hj,rfl,hm,hb⟩:=hrel;have HB:=ag hb;have HM:=ag hm;clear hb hm Yu iC;by_cases aU:j<n
  ·obtain⟨x,UH,b,o,rfl,kF,c0,c1,c2,c3,c4,c5⟩:=NC (HX.o.below HB.o) aU;obtain⟨uX,FU⟩:=List.getElem?_eq_some_iff.1 UH;have eQ:EU last (l.take (j+1))=nY last (EU last (l.take j)) x:=by rw[<-FU];exact qi (nY last) (λ_=>0) l uX
   have oP:=ag eQ;have HXp:=ag (HP.o x (FU▸List.getElem_mem uX));have Qn:(0:Int)<=(j:Int):=ae;have ZL:(j:Int)<(n:Int):=ae;clear eQ UH uX FU;generalize EU last (l.take j)=f at*;have dA:=ag (HB.o.alloc HB.o.size (.cells #[.int .i64 x.t.k,.int .u32 (x.t.p:Int),.int .u64 (x.t.s:Int),.int .u64 (x.t.e:Int),.int .i64 (x.b:Int),.int .i64 (x.i:Int)] 249));have MN:=ag (HM.o.on ((Below.refl wr.heap.size wr).alloc (Nat.le_refl _) (.cells #[.int .i64 x.t.k,.int .u32 (x.t.p:Int),.int .u64 (x.t.s:Int),.int .u64 (x.t.e:Int),.int .i64 (x.b:Int),.int .i64 (x.i:Int)] 249)));have HZ:=ag (aF.new wr 249 #[.int .i64 x.t.k,.int .u32 (x.t.p:Int),.int .u64 (x.t.s:Int),.int .u64 (x.t.e:Int),.int .i64 (x.b:Int),.int .i64 (x.i:Int)]);go_upto_region 5 with fail;generalize wr.alloc (.cells #[.int .i64 x.t.k,.int .u32 (x.t.p:Int),.int .u64 (x.t.s:Int),.int .u64 (x.t.e:Int),.int .i64 (x.b:Int),.int .i64 (x.i:Int)] 249)=w2 at*;generalize wr.heap.size=Z at*;clear c0 c1 c2 c3 c4 c5;obtain⟨c0,c1,c2,c3,c4,c5⟩:=HZ.o.c6;go_wp2_with fail;refine(Cc x last w2).mono ?_;rintro e w3 ⟨rfl,bQ⟩;have dE:=ag (dA.o.ay bQ);have Jz:=ag (MN.o.on bQ);have O0:=ag (HZ.o.ah bQ);clear bQ c0 c1 c2 c3 c4 c5;have c1:=O0.o.aj (i:=1) rfl;have c2:=O0.o.aj (i:=2) rfl
   cases hc:cnt last x with
   |true=>
    have KI:=Lt.look (p:=x.t.p) Jz.o HXp.o;obtain⟨m,hm⟩:=bu (max (f x.t.p) x.t.s);have Yd:max (f x.t.p:Int) (x.t.s:Int)=(m:Int):=ae;obtain⟨o4,bP,MZ,JE⟩:=Lt.put (p:=x.t.p) Jz.o HXp.o m;have hf4:(λq=>if q=x.t.p then m else f q)=nY last f x:=by
     unfold nY;rw[if_pos hc,hm]
     funext q
     by_cases hq:q=x.t.p
     ·rw[if_pos hq,if_pos hq,hq]
     ·rw[if_neg hq,if_neg hq]
    rw[hf4,<-oP.o] at MZ;have HM4:=ag MZ;have kL:=ag (dE.o.grown JE dE.o.size (λq hq=>by have:=HMb.o;have:=Option.some.inj hq;omega));have HMx:=ag hm;clear MZ JE hf4 hm;go_wp2_with fail;go_roundw
    case rel=>exact⟨j+1,ae,by go_num,HM4.o,kL.o⟩
    case measure=>simp[intOf];omega
   |false=>
    have hf4:nY last f x=f:=if_neg (by rw[hc];decide);rw[hf4] at oP;clear hf4;go_wp2_with fail;go_roundw
    case rel=>exact⟨j+1,ae,by go_num,by rw[oP.o];exact Jz.o,dE.o⟩
    case measure=>simp[intOf];omega
  ·obtain rfl:j=n:=ae;rw[List.take_of_length_le (by rw[DC.o];exact Nat.le_refl _)] at HM;have Qy:=ag (show xy last l=l.filter (FT last (EU last l)) from rfl);generalize EU last l=M at*;have HMF:=ag HM.o;have HBF:=ag HB.o;have HOF:=ag (dK.nil (e:=249) afh wr w.heap.size);clear hj aU HM HB;go_wp2_with fail
   go_loopw [8,10,37] (λv _ i wx=>∃q:Nat,q<=j/\i= .int .i64 q/\Lt wx mb M/\dK 6 Vh 249 wx w.heap.size v ((l.take q).filter (FT last M))/\Below w.heap.size w wx) (λ_ _ i _=>j-(intOf i).toNat)
   case atStart=>exact⟨0,ae,rfl,HMF.o,HOF.o,HBF.o⟩
   case round=>
    obtain⟨q,hq,rfl,hm,ho,hb⟩:=hrel;have HB:=ag hb;have HM:=ag hm;have HO:=ag ho;have HLl:=ag (show((l.take q).filter (FT last M)).length<=1000000 by have h1:=List.length_filter_le (FT last M) (l.take q);rw[List.length_take] at h1;omega);clear hb hm ho HMF HOF HBF;by_cases aU:q<j
    ·obtain⟨x,UH,b,o,rfl,kF,c0,c1,c2,c3,c4,c5⟩:=NC (HX.o.below HB.o) aU;obtain⟨uX,FU⟩:=List.getElem?_eq_some_iff.1 UH;have eQ:=UN (FT last M) l uX;rw[FU] at eQ;have oP:=ag eQ;have HXp:=ag (HP.o x (FU▸List.getElem_mem uX));have Qn:(0:Int)<=(q:Int):=ae;have ZL:(q:Int)<(j:Int):=ae;clear eQ UH uX FU;generalize (l.take q).filter (FT last M)=xs at*;have fQ:=(Below.refl wr.heap.size wr).alloc (Nat.le_refl _) (.cells #[.int .i64 x.t.k,.int .u32 (x.t.p:Int),.int .u64 (x.t.s:Int),.int .u64 (x.t.e:Int),.int .i64 (x.b:Int),.int .i64 (x.i:Int)] 249);have dA:=ag (HB.o.ay fQ);have MN:=ag (HM.o.on fQ);have yS:=ag (HO.o.on fQ);have HZ:=ag (aF.new wr 249 #[.int .i64 x.t.k,.int .u32 (x.t.p:Int),.int .u64 (x.t.s:Int),.int .u64 (x.t.e:Int),.int .i64 (x.b:Int),.int .i64 (x.i:Int)]);clear fQ;go_upto_region 12 with fail;generalize wr.alloc (.cells #[.int .i64 x.t.k,.int .u32 (x.t.p:Int),.int .u64 (x.t.s:Int),.int .u64 (x.t.e:Int),.int .i64 (x.b:Int),.int .i64 (x.i:Int)] 249)=w2 at*;generalize wr.heap.size=Z at*;clear c0 c1 c2 c3 c4 c5;obtain⟨c0,c1,c2,c3,c4,c5⟩:=HZ.o.c6;go_wp2_with fail;refine(Cc x last w2).mono ?_;rintro e w3 ⟨rfl,bQ⟩;have dE:=ag (dA.o.ay bQ);have Jz:=ag (MN.o.on bQ);have rf:=ag (yS.o.on bQ);have O0:=ag (HZ.o.ah bQ);clear bQ c0 c1 c2 c3 c4 c5;obtain⟨c0,c1,c2,c3,c4,c5⟩:=O0.o.c6;have hnp:FT last M x=(cnt last x&&decide (x.t.s=M x.t.p)):=rfl
     cases hc:cnt last x with
     |true=>
      have KI:=Lt.look (p:=x.t.p) Jz.o HXp.o;by_cases hs:x.t.s=M x.t.p
      ·have hsb:((x.t.s:Int)==(M x.t.p:Int))=true:=by rw[hs];exact beq_self_eq_true _
       rw[hnp,hc,decide_eq_true hs] at oP;clear hnp hs;have HCs:=ag (show#[Value.int .i64 x.t.k,.int .u32 (x.t.p:Int),.int .u64 (x.t.s:Int),.int .u64 (x.t.e:Int),.int .i64 (x.b:Int),.int .i64 (x.i:Int)]=(Vh x).toArray from rfl);have Aa:=ag dE.o.size
       go_wp2_with (at_builtin;refine Ce rfl _ _ rfl w.heap.size _ xs rfl rf.o x _ rfl rfl HCs.o HLl.o Aa.o ?_;intro v7 w7 vK zH)
       have Nh:=ag (Jz.o.kq zH.o (λe=>Jz.o.ne rf.o e));have EC:=ag (dE.o.trans (zH.o.below (λq e=>(rf.o.aP q e).1) Aa.o));go_roundw
       case rel=>exact⟨q+1,ae,by go_num,Nh.o,by rw[oP.o];exact vK.o,EC.o⟩
       case measure=>simp[intOf];omega
      ·have hsb:((x.t.s:Int)==(M x.t.p:Int))=false:=by rw[beq_eq_false_iff_ne];omega
       rw[hnp,hc,decide_eq_false hs] at oP;clear hnp hs;go_wp2_with fail;go_roundw
       case rel=>exact⟨q+1,ae,by go_num,Jz.o,by rw[oP.o];exact(List.append_nil xs).symm▸rf.o,dE.o⟩
       case measure=>simp[intOf];omega
     |false=>
      rw[hnp,hc] at oP;clear hnp;go_wp2_with fail;go_roundw
      case rel=>exact⟨q+1,ae,by go_num,Jz.o,by rw[oP.o];exact(List.append_nil xs).symm▸rf.o,dE.o⟩
      case measure=>simp[intOf];omega
    ·obtain rfl:q=j:=ae;rw[List.take_of_length_le (by rw[DC.o];exact Nat.le_refl _),<-Qy.o] at HO;go_wp2_with fail;go_ret;exact⟨⟨_,rfl,HO.o⟩,HB.o⟩
end
section
open Go.RowKit eX Opn Go.ChangeMaps Go.Maps

namespace Opn
theorem aiD (l:List En) (b:Nat):∀f:Nat->Nat,l.foldl Cf f b<=f b+l.length:=by
 induction l with
 |nil=>intro f;exact Nat.le_refl _
 |cons a t ih=>
  intro f;rw[List.foldl_cons,List.length_cons];have h1:=ih (Cf f a);have h2:Cf f a b<=f b+1:=by
   unfold Cf
   split<;>omega
  omega
theorem afi (l:List En) (b:Nat):uo l b<=l.length:=by have:=aiD l b λ_=>0;unfold uo;omega
end Opn
theorem Qe (a:Option Addr) (n c:Nat) (l:List En) (w:World) (hx:jv 6 Vh w w.heap.size a n l) (hn:n<=100000) (hp:∀e∈l,e.t.p<4294967296/\e.b<4294967296):
  Calls prog 172 #[.slice a n c] w λe w'=>(∃ob,e= .returned (.map (some ob))/\w.heap.size<=ob/\dC w' ob (UG (uo l) l))/\Below w.heap.size w w':=by
 have HX:=ag hx;have DC:=ag hx.len;have HP:=ag hp;have jq:=BX;have hcp:=iE;have Qp:=@run_makeMap prog;have Yu:=ag (mG.made (P:=prog) (k:=3) (kv:=blV) (vv:=blV) w);have iC:=ag ((Below.refl w.heap.size w).alloc (Nat.le_refl _) (.map #[] 0));clear hx hp
 go_in
 go_upto_region 2 with fail;generalize jw:w.alloc (.map #[] 0)=w1 at*;obtain⟨mb,Vf⟩:=bu w.heap.size;have HMb:=ag Vf;rw[<-Vf] at Yu⊢;clear jw Vf;go_wp2_with fail
 go_loopw [5,14] (λ_ i wr=>∃j:Nat,j<=n/\i= .int .i64 j/\FW wr mb (uo (l.take j))/\Below w.heap.size w wr) (λ_ i _=>n-(intOf i).toNat)
 case atStart=>exact⟨0,ae,rfl,Yu.o,iC.o⟩
 case round=>
  obtain⟨j,hj,rfl,hm,hb⟩:=hrel;have HB:=ag hb;have HM:=ag hm;clear hb hm Yu iC;by_cases aU:j<n
  ·obtain⟨x,UH,b,o,rfl,kF,c0,c1,c2,c3,c4,c5⟩:=NC (HX.o.below HB.o) aU;obtain⟨uX,FU⟩:=List.getElem?_eq_some_iff.1 UH;have eQ:uo (l.take (j+1))=Cf (uo (l.take j)) x:=by rw[<-FU];exact qi Cf (λ_=>0) l uX
   have oP:=ag eQ;have HXp:=ag (HP.o x (FU▸List.getElem_mem uX)).2;have hle:uo (l.take j) x.b<=100000:=by have h1:=afi (l.take j) x.b;rw[List.length_take] at h1;omega
   have Qn:(0:Int)<=(j:Int):=ae;have ZL:(j:Int)<(n:Int):=ae;clear eQ UH uX FU;generalize uo (l.take j)=f at*;have fQ:=(Below.refl wr.heap.size wr).alloc (Nat.le_refl _) (.cells #[.int .i64 x.t.k,.int .u32 (x.t.p:Int),.int .u64 (x.t.s:Int),.int .u64 (x.t.e:Int),.int .i64 (x.b:Int),.int .i64 (x.i:Int)] 249);have dA:=ag (HB.o.ay fQ);have MN:=ag (HM.o.on fQ);have HZ:=ag (aF.new wr 249 #[.int .i64 x.t.k,.int .u32 (x.t.p:Int),.int .u64 (x.t.s:Int),.int .u64 (x.t.e:Int),.int .i64 (x.b:Int),.int .i64 (x.i:Int)]);clear fQ;go_upto_region 5 with fail;generalize wr.alloc (.cells #[.int .i64 x.t.k,.int .u32 (x.t.p:Int),.int .u64 (x.t.s:Int),.int .u64 (x.t.e:Int),.int .i64 (x.b:Int),.int .i64 (x.i:Int)] 249)=w2 at*;generalize wr.heap.size=Z at*;clear c0 c1 c2 c3 c4 c5;have c4:=HZ.o.aj (i:=4) rfl;have KI:=FW.look (p:=x.b) MN.o HXp.o;have hw:=IntWalk.i64_in ((f x.b:Int)+1) ⟨ae,ae⟩;obtain⟨m,hm⟩:=bu (f x.b+1);obtain⟨o4,bP,MZ,JE⟩:=FW.put (p:=x.b) MN.o HXp.o m;have hf4:(λq=>if q=x.b then m else f q)=Cf f x:=by
    unfold Cf;rw[hm]
    funext q
    by_cases hq:q=x.b
    ·rw[if_pos hq,if_pos hq,hq]
    ·rw[if_neg hq,if_neg hq]
   rw[hf4,<-oP.o] at MZ;rw[show((m:Nat):Int)=(f x.b:Int)+1 by omega] at bP;have HM4:=ag MZ;have kL:=ag (dA.o.grown JE dA.o.size (λq hq=>by have:=HMb.o;have:=Option.some.inj hq;omega));clear MZ JE hf4 hm;go_wp2_with fail;go_roundw
   case rel=>exact⟨j+1,ae,by go_num,HM4.o,kL.o⟩
   case measure=>simp[intOf];omega
  ·obtain rfl:j=n:=ae;rw[List.take_of_length_le (by rw[DC.o];exact Nat.le_refl _)] at HM;generalize hM:uo l=M at*;have HMe:=ag hM;have iP:=(Below.refl wr.heap.size wr).alloc (Nat.le_refl _) (.map #[] 0);have HMF:=ag (HM.o.on iP);have HBF:=ag (HB.o.ay iP);have HOF:=ag (dC.made wr);have HOb:=ag (show w.heap.size<=wr.heap.size from HB.o.size);have CP:=ag (show mb≠wr.heap.size from λe=>by have h1:mb<wr.heap.size:=HM.o.lt;omega);clear hj aU HM HB hM iP;go_upto_region 8 with fail;clear Qp;generalize wr.alloc (.map #[] 0)=w5 at*;generalize wr.heap.size=ob at*;go_wp2_with fail
   go_loopw [8,9,10,28] (λ_ _ _ i wx=>∃q:Nat,q<=j/\i= .int .i64 q/\FW wx mb M/\dC wx ob (UG M (l.take q))/\Below w.heap.size w wx) (λ_ _ _ i _=>j-(intOf i).toNat)
   case atStart=>exact⟨0,ae,rfl,HMF.o,HOF.o,HBF.o⟩
   case round=>
    obtain⟨q,hq,rfl,hm,ho,hb⟩:=hrel;have HB:=ag hb;have HM:=ag hm;have HO:=ag ho;clear hb hm ho HMF HOF HBF;by_cases aU:q<j
    ·obtain⟨x,UH,b,o,rfl,kF,c0,c1,c2,c3,c4,c5⟩:=NC (HX.o.below HB.o) aU;obtain⟨uX,FU⟩:=List.getElem?_eq_some_iff.1 UH;have eQ:UG M (l.take (q+1))=Ci M (UG M (l.take q)) x:=by rw[<-FU];exact qi (Ci M) [] l uX
     have oP:=ag eQ;have HXp:=ag (HP.o x (FU▸List.getElem_mem uX)).1;have VU:=ag (HP.o x (FU▸List.getElem_mem uX)).2;have HUb:=ag (λy (hy:y∈UG M (l.take q))=>(show y.b<4294967296 from by
      rcases(UO M (l.take q) [] List.nodup_nil).2.1 y hy with h|h
      ·cases h
      ·exact(HP.o y (List.mem_of_mem_take h)).2))
     have Qn:(0:Int)<=(q:Int):=ae;have ZL:(q:Int)<(j:Int):=ae;clear eQ UH uX FU;generalize UG M (l.take q)=out at*;obtain⟨pb,pi,epl⟩:=qN (aG out x.t.p);obtain⟨sf,hsf⟩:=AP ((aG out x.t.p).isSome);have fQ:=(Below.refl wr.heap.size wr).alloc (Nat.le_refl _) (.cells #[.int .i64 x.t.k,.int .u32 (x.t.p:Int),.int .u64 (x.t.s:Int),.int .u64 (x.t.e:Int),.int .i64 (x.b:Int),.int .i64 (x.i:Int)] 249);have dA:=ag (HB.o.ay fQ);have MN:=ag (HM.o.on fQ);have yS:=ag (HO.o.on fQ);have HZ:=ag (aF.new wr 249 #[.int .i64 x.t.k,.int .u32 (x.t.p:Int),.int .u64 (x.t.s:Int),.int .u64 (x.t.e:Int),.int .i64 (x.b:Int),.int .i64 (x.i:Int)]);clear fQ;go_upto_region 11 with fail;generalize wr.alloc (.cells #[.int .i64 x.t.k,.int .u32 (x.t.p:Int),.int .u64 (x.t.s:Int),.int .u64 (x.t.e:Int),.int .i64 (x.b:Int),.int .i64 (x.i:Int)] 249)=w2 at*;generalize wr.heap.size=Z at*;clear c0 c1 c2 c3 c4 c5;have c1:=HZ.o.aj (i:=1) rfl;have KI:=dC.Bo yS.o HXp.o rfl epl hsf;have fQ:=(Below.refl w2.heap.size w2).alloc (Nat.le_refl _) (.cells #[.int .i64 pb,.int .i64 pi] 247);have dE:=ag (dA.o.ay fQ);have Jz:=ag (MN.o.on fQ);have rf:=ag (yS.o.on fQ);have O0:=ag (HZ.o.ah fQ);have HQ3:=ag (aF.new w2 247 #[.int .i64 pb,.int .i64 pi]);clear fQ;go_upto_region 12 with fail;generalize w2.alloc (.cells #[.int .i64 pb,.int .i64 pi] 247)=w3 at*;generalize w2.heap.size=Z3 at*;clear c1 KI;have c1:=O0.o.aj (i:=1) rfl;have c4:=O0.o.aj (i:=4) rfl;have c5:=O0.o.aj (i:=5) rfl;have p0:=HQ3.o.aj (i:=0) rfl;obtain⟨o4,bP,yB,JE⟩:=dC.put rf.o x HXp.o;rw[wZ] at bP;have MZ:FW (setBlock w3 ob o4) mb M:=Jz.o.same (JE.block mb Jz.o.lt (λe=>CP.o (Option.some.inj e)));have HM4:=ag MZ;have vJ:=ag yB;have kL:=ag (dE.o.grown JE dE.o.size (λq hq=>by have:=HOb.o;have:=Option.some.inj hq;omega));clear MZ yB JE;have hpk:pick M out x=match aG out x.t.p with
      |none=>true
      |some y=>decide (M y.b<M x.b):=rfl
     cases hgo:aG out x.t.p with
     |none=>
      rw[hgo] at hpk hsf;subst hsf;have CG:Ci M out x=fO out x:=if_pos hpk;rw[CG] at oP;clear hpk CG epl hgo;go_wp2_with fail;go_roundw
      case rel=>exact⟨q+1,ae,by go_num,HM4.o,by rw[oP.o];exact vJ.o,kL.o⟩
      case measure=>simp[intOf];omega
     |some y=>
      have HYb:=ag (HUb.o y (iq hgo).1);rw[hgo] at hpk hsf epl;subst hsf;have hpb:y.b=pb/\y.i=pi:=by rw[show plO (some y)= .agg #[.int .i64 (y.b:Int),.int .i64 (y.i:Int)] from rfl] at epl;simp at epl;omega
      have hpk:pick M out x=decide (M y.b<M x.b):=hpk;rw[hpb.1] at hpk HYb;have Jy:=FW.look (p:=x.b) Jz.o VU.o;have CB:=FW.look (p:=pb) Jz.o HYb.o;clear hpb epl hgo;by_cases qw:M pb<M x.b
      ·have CG:Ci M out x=fO out x:=if_pos (by rw[hpk];exact decide_eq_true qw);rw[CG] at oP;clear hpk CG;go_wp2_with fail;go_roundw
       case rel=>exact⟨q+1,ae,by go_num,HM4.o,by rw[oP.o];exact vJ.o,kL.o⟩
       case measure=>simp[intOf];omega
      ·have CG:Ci M out x=out:=if_neg (by rw[hpk,decide_eq_false qw];decide);rw[CG] at oP;clear hpk CG;go_wp2_with fail;go_roundw
       case rel=>exact⟨q+1,ae,by go_num,Jz.o,by rw[oP.o];exact rf.o,dE.o⟩
       case measure=>simp[intOf];omega
    ·obtain rfl:q=j:=ae;rw[List.take_of_length_le (by rw[DC.o];exact Nat.le_refl _)] at HO;go_wp2_with fail;go_ret;exact⟨⟨ob,rfl,HOb.o,by rw[HMe.o];exact HO.o⟩,HB.o⟩
end
section
open Go.RowKit eX Opn Go.ChangeMaps Go.Maps

def opA (C SE NO GO LA:Nat) (m:Value) (res:Int) (tv:Value) (sq ep:Nat):Array Value:=#[.pointer (some ⟨C,0,none⟩),m,.int .i64 res,.int .i64 0,tv,.map (some SE),.map (some NO),.map (some GO),.int .u64 sq,.int .u64 ep,.slice (some ⟨LA,0,none⟩) 32 32,.bool false]
structure Oa where
 F:Nat
 SE:Nat
 NO:Nat
 GO:Nat
 LA:Nat
 R:Nat
structure Op (B:Nat) (S:Nat->Prop) (w:World) (C BL:Nat) (ps:Nat->Nat) (bl:Nat->Pb) (o:Oa) (res:Int) (tv:Value) (tx:List UInt8) (sq ep:Nat) (se:List En) (W:World):Prop where
 hc:eG 32 B S W C BL ps bl
 hF:aF W o.F 225 (opA C o.SE o.NO o.GO o.LA (.pointer none) res tv sq ep)
 hS:dC W o.SE se
 hN:dC W o.NO []
 hG:dC W o.GO []
 hL:Own pI 4 W w.heap.size (.slice (some ⟨o.LA,0,none⟩) 32 32) (List.replicate 32 false)
 hR:Own pI 4 W w.heap.size (.slice (some ⟨o.R,0,none⟩) 32 32) (og bl 32)
 hT:TxA W tv tx
 hk:Kq S w W
 nd:[o.F,o.SE,o.NO,o.GO,o.LA].Nodup
 nw:∀q,q∈[o.F,o.SE,o.NO,o.GO,o.LA]->w.heap.size<=q
 nt:∀q,tv.ownBlock=some q->w.heap.size<=q/\q∉[o.F,o.SE,o.NO,o.GO,o.LA]
 lS:∀q,S q->q<w.heap.size
 nR:o.R∉[o.F,o.SE,o.NO,o.GO,o.LA]/\w.heap.size<=o.R/\tv.ownBlock≠some o.R
section
variable {B C BL:Nat} {S T:Nat->Prop} {w W W':World} {ps:Nat->Nat} {bl:Nat->Pb} {o:Oa} {res:Int} {tv:Value} {tx:List UInt8} {sq ep:Nat} {se:List En}
theorem Op.kq (h:Op B S w C BL ps bl o res tv tx sq ep se W) (hc:eG 32 B S W' C BL ps bl) (hk:Kq T W W') (hT:∀q,T q->(S q\/(w.heap.size<=q/\q∉[o.F,o.SE,o.NO,o.GO,o.LA]/\tv.ownBlock≠some q/\q≠o.R))):Op B S w C BL ps bl o res tv tx sq ep se W':=by
 have hn:∀q,q∈[o.F,o.SE,o.NO,o.GO,o.LA]->¬T q:=λq hq ht=>by
  rcases hT q ht with e|⟨_,e,_⟩
  ·have:=h.lS q e;have:=h.nw q hq;omega
  ·exact e hq
 have hb:∀q,q<W.heap.size->q∈[o.F,o.SE,o.NO,o.GO,o.LA]->W'.heap[q]?=W.heap[q]?:=λq hl hq=>hk.block q hl (hn q hq);refine⟨hc,h.hF.kq hk (hn _ au),h.hS.same (hb _ h.hS.lt au),h.hN.same (hb _ h.hN.lt au),h.hG.same (hb _ h.hG.lt au),h.hL.kq hk (λq hq=>by obtain rfl:=fD _ _ _ _ hq;exact hn _ au),h.hR.kq hk (λq hq ht=>?_),h.hT.kq hk (λq hq ht=>?_),h.hk.ay hk (λq hq=>?_),h.nd,h.nw,h.nt,h.lS,h.nR⟩
 ·obtain rfl:=fD _ _ _ _ hq;rcases hT _ ht with e|⟨_,_,_,e⟩
  ·have:=h.lS _ e;have:=h.nR.2.1;omega
  ·exact e rfl
 ·rcases hT q ht with e|⟨_,_,e,_⟩
  ·have:=h.lS q e;have:=(h.nt q hq).1;omega
  ·exact e hq
 ·rcases hT q hq with e|⟨e,_⟩
  ·exact .inl e
  ·exact .inr e
theorem Op.on (h:Op B S w C BL ps bl o res tv tx sq ep se W) (hb:Below W.heap.size W W'):Op B S w C BL ps bl o res tv tx sq ep se W':=h.kq (T:=λ_=>False) (h.hc.on hb) (Kq.of hb) λ_ e=>e.elim
theorem Op.read (h:Op B S w C BL ps bl o res tv tx sq ep se W) (hc:eG 32 B S W' C BL ps bl) (hk:Kq (λq=>q=C) W W'):Op B S w C BL ps bl o res tv tx sq ep se W':=h.kq hc hk λ_ e=> .inl (e▸h.hc.hS _ (.inl rfl))
theorem Op.set {res':Int} {tv':Value} {tx':List UInt8} {sq' ep':Nat} (h:Op B S w C BL ps bl o res tv tx sq ep se W) (i:Nat) (u:Value) (hA:(opA C o.SE o.NO o.GO o.LA (.pointer none) res tv sq ep).setIfInBounds i u=opA C o.SE o.NO o.GO o.LA (.pointer none) res' tv' sq' ep') (hT:(tv'=tv/\tx'=tx)\/(TxA W tv' tx'/\∀q,tv'.ownBlock=some q->w.heap.size<=q/\q∉[o.F,o.SE,o.NO,o.GO,o.LA]/\q≠o.R)):
  Op B S w C BL ps bl o res' tv' tx' sq' ep' se (W.setCell ⟨o.F,i,none⟩ u):=by
 have hq:Kq (λq=>q=o.F) W (W.setCell ⟨o.F,i,none⟩ u):=Kq.one ⟨_,_,none⟩ _;have nd:=h.nd;simp only[List.nodup_cons,List.mem_cons,List.not_mem_nil,or_false,not_or] at nd;obtain⟨⟨n1,n2,n3,n4⟩,_⟩:=nd;have dh:∀q,q≠o.F->(W.setCell ⟨o.F,i,none⟩ u).heap[q]?=W.heap[q]?:=λq hq=>heap_setCell_other _ _ _ _ (by simpa using hq);have hw:=h.nw o.F au;have hF:=h.hF.set i u;rw[hA] at hF;have hnt:∀q,tv'.ownBlock=some q->w.heap.size<=q/\q∉[o.F,o.SE,o.NO,o.GO,o.LA]:=by
  rcases hT with⟨e,_⟩|⟨_,e⟩
  ·rw[e];exact h.nt
  ·exact λq hq=>⟨(e q hq).1,(e q hq).2.1⟩
 have hnR:o.R∉[o.F,o.SE,o.NO,o.GO,o.LA]/\w.heap.size<=o.R/\tv'.ownBlock≠some o.R:=by
  refine⟨h.nR.1,h.nR.2.1,?_⟩;rcases hT with⟨e,_⟩|⟨_,e⟩
  ·rw[e];exact h.nR.2.2
  ·exact λhq=>(e _ hq).2.2 rfl
 have hT2:TxA W tv' tx':=by
  rcases hT with⟨e1,e2⟩|⟨e,_⟩
  ·rw[e1,e2];exact h.hT
  ·exact e
 refine⟨h.hc.kq hq (λq hs e=>?_),hF,h.hS.same (dh _ (Ne.symm n1)),h.hN.same (dh _ (Ne.symm n2)),h.hG.same (dh _ (Ne.symm n3)),h.hL.kq hq (λq hq=>by obtain rfl:=fD _ _ _ _ hq;exact Ne.symm n4),h.hR.kq hq (λq hq e=>?_),hT2.kq hq (λq hq e=>?_),h.hk.setCell (.inr hw) _,h.nd,h.nw,hnt,h.lS,hnR⟩
 ·have:=h.lS q hs;have e:q=o.F:=e;omega
 ·obtain rfl:=fD _ _ _ _ hq;have e:o.R=o.F:=e;exact h.nR.1 (by rw[e];simp)
 ·have e:q=o.F:=e;exact(hnt q hq).2 (by rw[e];simp)
theorem Op.BZ (h:Op B S w C BL ps bl o res tv tx sq ep se W) {i:Nat} {v:Value} (hv:(opA C o.SE o.NO o.GO o.LA (.pointer none) res tv sq ep)[i]?=some v):W.cell? ⟨o.F,i,none⟩=some v:=h.hF.aj hv
theorem FV (h:Op B S w C BL ps bl o 2 tv tx sq ep se W):
  Calls prog 113 #[o.F] W λe W'=>e= .returned (.int .i64 230)/\Below W.heap.size W W':=by
 have HH:=ag h;have HU:=ag (dU h.hc);have HD:=ag (λW:World=>show Calls prog 164 #[.agg #[.int .i64 32,.int .i64 8,.int .i64 64],.int .i64 2,.int .i64 0] W λe w'=>e= .returned (.int .i64 29)/\Below W.heap.size W w' from jk (w:=W) (NB:=32) aB);have c0:=h.BZ (i:=0) rfl;have jq:=qG;clear h
 go_in
 go_wp2_with fail;refine HU.o.mono ?_;rintro e w1 ⟨rfl,hb⟩;have dw:=ag (hb.alloc hb.size (.cells #[.int .i64 32,.int .i64 8,.int .i64 64] 60));have HK:=ag (aF.new w1 60 #[.int .i64 32,.int .i64 8,.int .i64 64]);clear hb c0;unfold uf;go_upto_region 4 with fail;generalize w1.alloc (.cells #[.int .i64 32,.int .i64 8,.int .i64 64] 60)=w2 at*;generalize w1.heap.size=Q at*;have gJ:=ag (show Below w2.heap.size w2 w2.drew from ak w2);have HHo:=ag (λ(W':World) (hW:Below w2.heap.size w2 W')=>(HH.o.on dw.o).on hW);have HKo:=ag (λ(W':World) (hW:Below w2.heap.size w2 W')=>aF.ah HK.o hW);refine iT (λW'=>Below w2.heap.size w2 W') gJ.o (λbJ=>?_);refine jy 0 (.agg #[.int .i64 32,.int .i64 8,.int .i64 64]) rfl (λW aI=>by have y0:=aF.aj (i:=0) (HKo.o W aI) rfl;have y1:=aF.aj (i:=1) (HKo.o W aI) rfl;have y2:=aF.aj (i:=2) (HKo.o W aI) rfl;go_simp) ?_;refine dP 1 o.F 0 ?_;refine aS 2 o.F 0 ?_;refine aS 3 o.F 2 ?_;refine jH 4 2 (λW aI=>(HHo.o W aI).BZ (i:=2) (v:= .int .i64 2) rfl) ?_;refine dP 5 o.F 0 ?_;refine aS 6 o.F 0 ?_;refine aS 7 o.F 3 ?_;refine jH 8 0 (λW aI=>(HHo.o W aI).BZ (i:=3) (v:= .int .i64 0) rfl) ?_;refine aS 10 Q 1 ?_;refine jH 11 8 (λW aI=>aF.aj (i:=1) (HKo.o W aI) rfl) ?_;refine dm 9 (λK' hK=>?_);go_simp;refine(HD.o _).mono ?_;rintro e w3 ⟨rfl,bQ⟩;have dH:=bJ.ay bQ;clear bQ;refine hK.out _ _ dH (λgm=>?_)
 try simp only[aO]
 refine jy 12 (.int .i64 232) rfl (λ_ aI=>by(have i1:IntKind.i64.wrap 232=232:=by decide);go_simp) ?_;refine jy 13 (.int .i64 230) rfl (λ_ aI=>by(have i1:IntKind.i64.wrap 230=230:=by decide);go_simp) ?_;refine eF 14 230 ?_;refine gB ?_;have dE:=ag (dw.o.ay gm);clear bJ dH gm;go_wp2;go_ret;exact⟨rfl,dE.o⟩
end
end
end Go.Proofs.YtnieckfelfoopaaGreat

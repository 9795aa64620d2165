import Derived.WalkMore
import Derived.Test.YtnieckfelfoopaaGreatScvMnt
open Go.Proofs.Tryz (prog)
namespace Go.Proofs.YtnieckfelfoopaaGreat
open Lib (hid)
set_option maxRecDepth 100000
set_option maxHeartbeats 16000000
section
open Go.RowKit eu
variable {NB B P T:Nat} {Q:Nat->Prop} {w w':World} {f:Fm} {s:Ps} {fi:Nf} {n:Nat} {X:List UInt8}

theorem mZ (hT:oV w T P):Calls prog 39 #[T] w λe w'=>e= .returned P/\w=w':=by
 have c0:=hT.c0;clear hT
 go_in
 go_wp2;go_ret;exact⟨rfl,rfl⟩
theorem ou (h:bT NB B Q w P f s) (hT:oV w T P) (qX:¬Q T) (d:jh s n fi X) (nm:List UInt8) (hf:(Dir.bY X nm).1<0):
  Calls prog 45 #[T,.int .i64 n,.string (aJ nm)] w λe w'=>e= .returned (.tuple #[.int .i64 0,.int .i64 60])/\bT NB B Q w' P f s/\Kq Q w w':=by
 have HD:=ag (qx h hT qX d);have HZ:=ag d.z2;have g1:=hf;clear h hT qX d hf
 go_in
 go_wp2_with fail;refine HD.o.mono ?_;rintro e W2 ⟨⟨v,rfl,ho⟩,hp,hk⟩;obtain⟨a,c,rfl,hc⟩:=ho.bZ rfl;have HX:=ag (ho.arr (by have:=HZ.o;omega));have HC:=ag hc;have HP:=ag hp;have HK:=ag hk;clear ho hp hk HD hc;go_wp2_with fail;refine(qy a _ c X nm W2 HX.o HC.o).mono ?_;rintro e W3 ⟨rfl,hb⟩;have HB:=ag hb;clear hb;obtain⟨r,hr⟩:=bu (Dir.bY X nm);rw[<-hr] at g1⊢;clear hr;go_wp2;go_ret2;exact⟨rfl,HP.o.on HB.o,HK.o.on HB.o⟩
end
section
open Go.RowKit eu
variable {NB B P T:Nat} {Q:Nat->Prop} {w w':World} {f:Fm} {s:Ps}

def Way (s:Ps) (xs:List (List UInt8)) (ns:Nat->Nat):Prop:=
 ns 0=1/\∀i (h:i<xs.length),∃fi X,jh s (ns i) fi X/\0<=(Dir.bY X xs[i]).1/\(Dir.bY X xs[i]).2=(ns (i+1):Int)
theorem yP {a:Option Addr} {c:Nat} {xs:List (List UInt8)} {ns:Nat->Nat} (h:bT NB B Q w P f s) (hT:oV w T P) (qX:¬Q T) (hy:Way s xs ns) (hx:Own jV 9 w 0 (.slice a xs.length c) xs) (hxq:∀q,(Value.slice a xs.length c).ownBlock=some q->¬Q q) (hl:xs.length<=100):
  Calls prog 91 #[T,.slice a xs.length c] w λe w'=>e= .returned (.tuple #[.int .i64 (ns xs.length:Int),.int .i64 0])/\bT NB B Q w' P f s/\Kq Q w w':=by
 obtain⟨m,hm⟩:=bu xs.length;have HM:=ag hm;have HP:=ag h;have HT:=ag hT;have Fh:=ag qX;have HY:=ag hy;have hX0:Own jV 9 w 0 (.slice a m c) xs:=by rw[hm];exact hx
 have HXq:=ag (show∀q,(Value.slice a m c).ownBlock=some q->¬Q q from by rw[hm];exact hxq);rw[<-hm] at hl⊢;have HX:=ag hX0;have HS:=ag (show bT NB B Q w P f s/\Kq Q w w from⟨h,Kq.refl _ _⟩);have h0:=hy.1;clear h hT qX hy hx hxq hm hX0
 go_in
 go_wp2;go_step3;go_wp2;go_step3;go_wp2
 go_loopw [6,7,14] (λv6 v7 v14 W=>∃i,i<=m/\v14= .int .i64 i/\v6= .int .i64 (ns i:Int)/\v7= .int .i64 0/\bT NB B Q W P f s/\Kq Q w W) (λ_ _ v14 _=>m-(intOf v14).toNat)
 case atStart=>exact⟨0,Nat.zero_le _,rfl,by rw[h0];rfl,rfl,HS.o⟩
 case round=>
  obtain⟨i,hi,rfl,rfl,rfl,hp,hk⟩:=hrel;by_cases aU:i<m
  ·obtain⟨b,o,hix,ha,hb,zy⟩:=((HX.o.kq hk HXq.o).arr (by have:=HM.o;omega)).QQ (k:=i) aU;subst ha;rw[Aw] at zy;obtain⟨fi,Xd,hd,hf0,hf1⟩:=HY.o.2 i (by rw[<-HM.o];exact aU);have HF:=ag (λW (hW:bT NB B Q W P f s) (hT:oV W T P)=>yM hW hT Fh.o hd xs[i] hf0);rw[hf1] at HF;have uw:=ag hp;have mF:=ag hk;have Ox:=ag (HT.o.kq hk Fh.o);have q1:(i:Int)<(m:Int):=ae;clear hp hk hd hf0 hf1;go_wp2_with fail;refine(HF.o wr uw.o Ox.o).mono ?_;rintro e w2 ⟨rfl,iU,fA⟩;have pF:=ag iU;have rD:=ag (mF.o.trans fA);clear iU fA;go_wp2;go_roundw
   case rel=>exact⟨i+1,ae,rfl,rfl,rfl,pF.o,rD.o⟩
   case measure=>show m-(((i:Int)+1).toNat)<m-((i:Int).toNat);omega
  ·obtain rfl:i=m:=ae;have q1:¬(i:Int)<(i:Int):=ae;have uw:=ag hp;have mF:=ag hk;clear hp hk;go_wp2;go_ret2;exact⟨rfl,uw.o,mF.o⟩
theorem E5 {a:Option Addr} {c:Nat} {xs:List (List UInt8)} {fi:Nf} {X:List UInt8} (h:bT NB B Q w P f s) (hT:oV w T P) (qX:¬Q T) (h0:0<xs.length) (hd:jh s 1 fi X) (hf:(Dir.bY X xs[0]).1<0) (hx:jg jV w w.heap.size a xs.length xs):
  Calls prog 91 #[T,.slice a xs.length c] w λe w'=>e= .returned (.tuple #[.int .i64 0,.int .i64 60])/\bT NB B Q w' P f s/\Kq Q w w':=by
 obtain⟨m,hm⟩:=bu xs.length;have hF:=ou h hT qX hd xs[0] hf;obtain⟨b,o,hix,ha,hb,zy⟩:=hx.QQ (k:=0) h0;subst ha;rw[Aw,Nat.add_zero] at zy;rw[<-hm] at h0⊢;rw[show((1:Nat):Int)=1 from rfl] at hF;have HF:=ag hF;have q1:(0:Int)<(m:Int):=ae;clear h hT qX hd hf hx hm hF hb
 go_in
 go_wp2;go_step3;go_wp2;go_step3;go_wp2
 go_loopw [6,7,14] (λv6 v7 v14 W=>v14= .int .i64 0/\v6= .int .i64 1/\v7= .int .i64 0/\W=w) (λ_ _ _ _=>0)
 case atStart=>exact⟨rfl,rfl,rfl,rfl⟩
 case round=>
  obtain⟨rfl,rfl,rfl,rfl⟩:=hrel;go_wp2_with fail;refine HF.o.mono ?_;rintro e w2 ⟨rfl,iU,fA⟩;have pF:=ag iU;have rD:=ag fA;clear iU fA;go_wp2
  try rw[Exit.noGoto_ret]
  go_ret2;exact⟨rfl,pF.o,rD.o⟩
end
section
open Go.RowKit

theorem VN (a:Option Addr) (n c:Nat) (b:List UInt8) (C:Nat) (w:World) (ve:n<=c) (hx:Bytes w w.heap.size a n b) (hC:aF w C 23 #[.slice a n c]):
  X7 prog 211 #[.pointer (some ⟨C,0,none⟩)] uH (Dir.tX b) True (λ_=>True) (λ_=>False) (aiZ a C) w:=by
 intro lp J Jx X W hJ hJx _ hW hXo bG hY h0;have hxW:=(hx.kq (Nat.le_refl _) hW λb o e h=>h (.inr ⟨b,o,e,rfl⟩)).mono hW.size;have hCW:=hC.kq hW λh=>h (.inl rfl);have hXC:¬X C:=λh=>(hXo C h).2 (.inl rfl);have hXa:∀b o,a=some ⟨b,o,none⟩->¬X b:=λb o e h=>(hXo b h).2 (.inr ⟨b,o,e,rfl⟩);have hCl:C<W.heap.size:=hCW.lt;have pG:∀b o,a=some ⟨b,o,none⟩->b<W.heap.size:=λb o e=>Nat.lt_of_lt_of_le (bG b (.inr ⟨b,o,e,rfl⟩)) hW.size;have yV:=hx.room;have hl:=hx.len;obtain⟨S,hS⟩:=bu (Dir.cnt b);have VO:S=n/16:=by rw[hS,Dir.cnt,hl]
 have HS:=ag VO;have pU:=ag (λW=>nI a n c W ae);rw[<-VO] at pU;have akD:S<=140737488351232:=ae;have HE:=ag (show Dir.tX b=Dir.dI b S by rw[hS];rfl);have HXC:=ag hXC;have HXa:=ag hXa;have HCl:=ag hCl;have Hal:=ag pG;have HY:=ag hY;have HJ:=ag hJ;have HX:=ag hxW;have HC:=ag hCW;have H0:=ag h0;have HJx:=ag hJx;have cc:=hCW.aj (i:=0) rfl;have hsc:=ag (callsIn_wide (n:=7)|>.2 (pU.o W));clear hx hC hW hl VO hS hY hJ hJx hxW hCW h0 hXC hXa hCl pG bG hXo pU;refine callsIn_of_wp Tryz.func211 rfl trivial ?_ rfl;simp only[Tryz.ntmps211,List.size_toArray,List.length_cons,List.length_nil,Nat.reduceAdd,Nat.reduceSub,Array.replicate_succ,Array.replicate_zero,List.push_toArray,List.append_toArray,List.nil_append,List.cons_append]
 gi_wp2_with fail
 refine⟨trivial,?_⟩;refine hsc.o.mono ?_;rintro e w_ ⟨rfl,rfl⟩
 gi_wp2
 gi_loopw [9] (λi wr=>∃(k:Nat) (X1:Nat->Prop),k<=S/\i= .int .i64 k/\Bytes wr wr.heap.size a n b/\aF wr C 23 #[.slice a n c]/\J (Dir.dI b k) X1 wr/\Grew X W X1/\Kq X W wr) (λi _=>S-(intOf i).toNat)
 case atStart=>exact⟨0,X,ae,rfl,HX.o,HC.o,H0.o,Grew.refl _ _,Kq.refl _ _⟩
 case round=>
  obtain⟨k,X1,hk,rfl,hx,hc,hj,X9,hkq⟩:=hrel;have cc:=hc.aj (i:=0) rfl;have HX:=ag hx;have HC:=ag hc;have J7:=ag hj;have HGw:=ag X9;have HKq:=ag hkq;clear hx hc hj X9 hkq;by_cases aU:k<S
  ·have eQ:=ag (callsIn_wide (n:=7)|>.2 (mO a n c k b wr HX.o ve (by have:=HS.o;omega)));have Oy:=ag (show Dir.dI b (k+1)=if (Dir.rd b k).2.1=true then Dir.dI b k++[(k,(Dir.rd b k).1)] else Dir.dI b k from rfl);have dQ:=ag (show Dir.dI b (k+1)<+:Dir.tX b by rw[HE.o];exact Dir.Hr ae)
   gi_wp2_with fail
   refine⟨trivial,?_⟩;refine eQ.o.mono ?_;rintro e w_ ⟨⟨a1,c1,rfl,vT,ha1,hy⟩,rfl⟩;clear ha1;have xZ:=ag (callsIn_wide (n:=7)|>.2 (zC a1 16 c1 (Dir.bD b k) wr hy vT));unfold yY at xZ;rw[show Dir.gK (Dir.bD b k)=Dir.rd b k from rfl] at xZ;generalize Dir.rd b k=R at*;obtain⟨⟨i,nm⟩,u,er⟩:=R;clear hy
   gi_wp2_with fail
   refine⟨trivial,?_⟩;refine xZ.o.mono ?_;rintro e w2 ⟨rfl,aW⟩;have bQ:=aW.trans (((Below.refl w2.heap.size w2).alloc (Nat.le_refl _) (.cells #[.int .i64 i,.string (aJ nm)] 167)).mono aW.size);have zZ:=ag (HX.o.on bQ);have zD:=ag (HC.o.ah bQ);have HJ3:=ag (HJ.o.on J7.o bQ);have acT:=ag (HKq.o.on bQ);clear aW bQ;cases u
   ·have wI:=ag (show Dir.dI b (k+1)=Dir.dI b k from Oy.o)
    gi_wp2
    all_goals (refine⟨λ_ h=>(by cases h),?_⟩;gi_wp2)
    go_roundw
    case rel=>exact⟨k+1,X1,ae,by go_num,zZ.o,zD.o,by rw[wI.o];exact HJ3.o,HGw.o,acT.o⟩
    case measure=>simp[intOf];omega
   ·have wI:=ag (show Dir.dI b (k+1)=Dir.dI b k++[(k,⟨i,nm⟩)] from Oy.o);obtain⟨fn,tmps,assign,body,hy,hR⟩:=HY.o (Dir.dI b k) (k,⟨i,nm⟩) X1 _ HJ3.o (by rw[<-wI.o];exact dQ.o);unfold uH at hy
    gi_wp2
    refine hR.mono ?_;rintro ee w4 ⟨⟨rfl,X2,hJ4,JE⟩|⟨rfl,X2,akF,JE⟩,oU⟩
    ·have HC5:=ag (zD.o.kq oU (HGw.o.not HXC.o HCl.o));have Dt:=ag ((zZ.o.kq (Nat.le_refl _) oU λb o e=>HGw.o.not (HXa.o b o e) (Hal.o b o e)).mono oU.size);have akH:=ag (acT.o.ay oU λq hq=>HGw.o q hq);have akI:=ag (HGw.o.trans JE acT.o.size);have HJ4:=ag hJ4;clear hJ4 JE oU hy hR
     gi_wp2
     go_roundw
     case rel=>exact⟨k+1,X2,ae,by go_num,Dt.o,HC5.o,by rw[wI.o];exact HJ4.o,akI.o,akH.o⟩
     case measure=>simp[intOf];omega
    ·have akH:=ag (acT.o.ay oU λq hq=>HGw.o q hq);have akI:=ag (HGw.o.trans JE acT.o.size)
     gi_wp2
     refine bodyPost_ret (results_none rfl _ _ _) rfl ?_;exact⟨⟨_,rfl⟩,.inr ⟨_,X2,by rw[<-wI.o];exact dQ.o,akF,akI.o⟩,akH.o.mono λq h=> .inr h,trivial⟩
  ·obtain rfl:k=S:=ae
   gi_wp2
   go_end0;exact⟨⟨_,rfl⟩,.inl ⟨X1,by rw[HE.o];exact J7.o,HGw.o⟩,HKq.o.mono λq h=> .inr h,trivial⟩
end
section
open Go.RowKit eu
variable {NB B P T:Nat} {Q:Nat->Prop} {w w':World} {f:Fm} {s:Ps} {fi:Nf} {n:Nat} {X:List UInt8}

theorem Du (h:bT NB B Q w P f s) (hT:oV w T P) (qX:¬Q T) (d:jh s n fi X):
  Calls prog 97 #[T,.int .i64 n] w λe w'=>(∃a c C,e= .returned (.func (.func 211) #[] #[.pointer (some ⟨C,0,none⟩)])/\X.length<=c/\w.heap.size<=C/\aF w' C 23 #[.slice a X.length c]/\Own aH 5 w' w.heap.size (.slice a X.length c) X)/\bT NB B Q w' P f s/\Kq Q w w':=by
 have HBy:=ag (qx h hT qX d);clear h hT qX d
 go_in
 go_wp2_with fail;refine HBy.o.mono ?_;rintro e w1 ⟨⟨v,rfl,ho⟩,hp,hk⟩;obtain⟨a,c,rfl,hc⟩:=ho.form;have HO:=ag ho;have HC:=ag hc;have HP:=ag hp;have HK:=ag hk;clear ho hc hp hk HBy;go_wp2_with fail;refine(VP a X.length c w1).mono ?_;rintro e w' ⟨rfl,rfl⟩;have hb:=(Below.refl w1.heap.size w1).alloc (Nat.le_refl _) (.cells #[.slice a X.length c] 23);go_wp2;go_ret;exact⟨⟨a,c,w1.heap.size,rfl,HC.o,HK.o.size,aF.new w1 _ _,HO.o.on hb⟩,HP.o.on hb,HK.o.on hb⟩
end
section
open Go.RowKit Go.Maps Go.ChangeMaps eX eu Ed Opn

def fsA (C T:Nat):Array Value:=#[.pointer (some ⟨C,0,none⟩),.pointer (some ⟨T,0,none⟩),.int .i64 0,.int .i64 0,.int .i64 0,.int .i64 0,.int .i64 0,.int .i64 0,.int .i64 0,.int .i64 0,.int .i64 0,.int .i64 0,.int .i64 0,.int .i64 0,.int .i64 0,.int .i64 0,.int .i64 0,.int .i64 0,.int .i64 0,.int .i64 0,.int .i64 0,.int .i64 0,.int .i64 0,.int .i64 0,.int .i64 0,.int .i64 0,.int .i64 0,.int .i64 0,.int .i64 0,.int .i64 0,.int .i64 0,.int .i64 0,.int .i64 0,.int .i64 0,.int .i64 0,.int .i64 0,.int .i64 0,.int .i64 0,.int .i64 0,.int .i64 0,.int .i64 0,.int .i64 0,.int .i64 0,.int .i64 0,.int .i64 0,.int .i64 0,.int .i64 0,.int .i64 0,.int .i64 0,.int .i64 0]
structure iQ (B:Nat) (Q:Nat->Prop) (w:World) (X T Z:Nat) (f:Fm) (s:Ps):Prop where
 hX:aF w X 90 (fsA f.g.C T)
 hT:oV w T Z
 hP:bT 32 B Q w Z f s
 nT:¬Q T
 nX:¬Q X
section
variable {B C BL:Nat} {S R:Nat->Prop} {ps:Nat->Nat} {w:World} {f:Fm}
theorem Gy (h:eG 32 B S w C BL ps (λ_=>fresh 0)):
  Calls prog 22 #[C,.int .i64 2] w λe w'=>e= .returned (.int .i64 0)/\ai2 B S C w w':=by
 have HF:=ag (Fj h);clear h
 go_in
 go_wp2_with fail;refine HF.o.mono ?_;rintro e w1 ⟨⟨T,rfl⟩,hd⟩;have HD:=ag hd;clear hd HF;go_wp2;go_ret;exact⟨rfl,HD.o⟩
theorem JU (h:dB 32 B R w f) (hd:Ed.Fd f):
  Calls prog 23 #[f.g.C] w λe w'=>∃X T Z Q f',e= .returned (.tuple #[.pointer (some ⟨X,0,none⟩),.int .i64 0])/\iQ B Q w' X T Z f' (Ps.iY f' 10 156 20)/\f'.g.C=f.g.C/\Od f'/\Kq R w w':=by
 have HM:=ag (Ht h hd);clear h hd
 go_in
 go_wp2_with fail;refine HM.o.mono ?_;rintro e w1 ⟨T,rfl,hm⟩;have HMt:=ag hm;clear hm HM;go_upto_region 2 with fail;have aW:=(Below.refl w1.heap.size w1).alloc (Nat.le_refl _) (.cells #[.int .i64 0,.int .i64 1,.int .i64 0,.int .i64 0] 125);have dA:=ag aW;clear aW;generalize w1.alloc (.cells #[.int .i64 0,.int .i64 1,.int .i64 0,.int .i64 0] 125)=w2 at*;go_wp2;go_ret2;obtain⟨Z,Q,f',hT,hP,hq,hC,hO,hQ,hK,hTw⟩:=HMt.o;have bQ:=(Below.refl w2.heap.size w2).alloc (Nat.le_refl _) (.cells (fsA f.g.C T) 90);have hn:=aF.new w2 90 (fsA f.g.C T);have VQ:=hP.on dA.o;refine⟨w2.heap.size,T,Z,Q,f',rfl,⟨?_,(hT.on dA.o).on bQ,VQ.on bQ,hq,VQ.aV (Nat.le_refl _)⟩,hC,hO,(hK.on dA.o).on bQ⟩;rw[hC];exact hn
end
end
section
open Go.RowKit Go.Maps Go.ChangeMaps eX eu

section
variable {B X T Z:Nat} {Q:Nat->Prop} {w w' w1 w2:World} {f f' f1 f2:Fm} {s s' s1 s2:Ps}
theorem iQ.ltX (h:iQ B Q w X T Z f s):X<w.heap.size:=h.hX.lt
theorem iQ.ltT (h:iQ B Q w X T Z f s):T<w.heap.size:=h.hT.lt
theorem iQ.c0 (h:iQ B Q w X T Z f s):w.cell? ⟨X,0,none⟩=some (.pointer (some ⟨f.g.C,0,none⟩)):=h.hX.aj rfl
theorem iQ.c1 (h:iQ B Q w X T Z f s):w.cell? ⟨X,1,none⟩=some (.pointer (some ⟨T,0,none⟩)):=h.hX.aj rfl
theorem iQ.on (h:iQ B Q w X T Z f s) (hb:Below w.heap.size w w'):iQ B Q w' X T Z f s:=⟨h.hX.ah hb,h.hT.on hb,h.hP.on hb,h.nT,h.nX⟩
theorem iQ.ask (h:iQ B Q w X T Z f s) (hp:bT 32 B Q w' Z f s) (hk:Kq Q w w'):iQ B Q w' X T Z f s:=⟨h.hX.kq hk h.nX,h.hT.kq hk h.nT,hp,h.nT,h.nX⟩
theorem iQ.far (h:iQ B Q w X T Z f s) {U:Nat->Prop} (hk:Kq U w w') (hT:¬U T) (hX:¬U X) (hQ:∀q,Q q->¬U q):iQ B Q w' X T Z f s:=⟨h.hX.kq hk hX,h.hT.kq hk hT,h.hP.kq hk hQ,h.nT,h.nX⟩
def Ee (B:Nat) (Q:Nat->Prop) (w w':World) (X T Z:Nat) (f:Fm) (s:Ps):Prop:=iQ B (Up Q w w') w' X T Z f s/\Kq Q w w'
theorem iQ.ofR (h:iQ B Q w X T Z f s) (k:jJ 32 B Q w w' Z f' s') (hC:f'.g.C=f.g.C):Ee B Q w w' X T Z f' s':=
 ⟨⟨by rw[hC];exact h.hX.kq k.2 h.nX,h.hT.kq k.2 h.nT,k.1,k.far h.nT h.ltT,k.far h.nX h.ltX⟩,k.2⟩
theorem Ee.ay (h:Ee B Q w w1 X T Z f1 s1) (k:Ee B (Up Q w w1) w1 w2 X T Z f2 s2) (hT:T<w.heap.size) (hX:X<w.heap.size):Ee B Q w w2 X T Z f2 s2:=by have hk:=jJ.ay (NB:=32) (show jJ 32 B Q w w1 Z f1 s1 from⟨h.1.hP,h.2⟩) ⟨k.1.hP,k.2⟩;have no:∀q,q<w.heap.size->¬Up (Up Q w w1) w1 w2 q->¬Up Q w w2 q:=λq hq h1 h2=>h1 (.inl (.inl (ji h2 hq)));exact⟨⟨k.1.hX,k.1.hT,hk.1,no T hT k.1.nT,no X hX k.1.nX⟩,hk.2⟩
theorem iQ.NQ (h:iQ B Q w X T Z f s) (hp:bT 32 B Q w' Z f s) (hk:Kq Q w w'):Ee B Q w w' X T Z f s:=h.ofR (hp.acU hk h.hP.base) rfl
theorem Ee.on (h:Ee B Q w w1 X T Z f s) (hb:Below w1.heap.size w1 w2) (h0:iQ B Q w X T Z f' s'):Ee B Q w w2 X T Z f s:=
 h.ay (h.1.NQ (h.1.hP.on hb) (Kq.of hb)) h0.ltT h0.ltX
theorem Ee.from_ (hb:Below w.heap.size w w1) (h:Ee B Q w1 w2 X T Z f s) (h0:iQ B Q w X T Z f' s'):Ee B Q w w2 X T Z f s:=by have hk:=jJ.from_ (NB:=32) hb (show jJ 32 B Q w1 w2 Z f s from⟨h.1.hP,h.2⟩) h0.hP.base;exact⟨⟨h.1.hX,h.1.hT,hk.1,hk.far h0.nT h0.ltT,hk.far h0.nX h0.ltX⟩,hk.2⟩
theorem mX (h:iQ B Q w X T Z f s):Calls prog 38 #[X] w λe w'=>e= .returned (.int .i64 0)/\w=w':=by
 obtain⟨R,hf,_⟩:=h.hP.ft;have HU:=ag (Mc hf);have c0:=h.c0;have c1:=h.c1;clear h hf
 go_in
 go_wp2_with fail;refine HU.o.mono ?_;rintro e w_ ⟨rfl,rfl⟩;go_wp2;go_ret;exact⟨rfl,rfl⟩
end
end
section
open Go.RowKit Go.Maps Go.ChangeMaps eX eu Ed

section
variable {NB B P X T Z:Nat} {Q:Nat->Prop} {w w':World} {f:Fm} {s:Ps} {L:List Nat}
theorem vg (h:bT NB B Q w P f s) (hL:L.Nodup) (hd:∀n,s.dy n↔n∈L):Calls prog 83 #[P] w λe w'=>e= .returned (.int .i64 (L.length:Int))/\w=w':=by
 obtain⟨U,D,dl,R,h1,h2,_⟩:=id h;have c7:w.cell? ⟨P,7,none⟩=some (.map (some D)):=h1.hP.aj rfl;have hlen:dl.length=L.length:=by
  have ha:=Ps.x8 (l:=dl.map Dp.n) (l':=L) h1.hD.uq λx hx=>by obtain⟨d,hd',rfl⟩:=List.mem_map.1 hx;exact(hd _).1 ((h1.dy _).2 (by show(tJ.get dl (tJ.kf d)).isSome=true;rw[Enc.Dv h1.hD.uq hd'];rfl))
  have hb:=Ps.x8 (l:=L) (l':=dl.map Dp.n) hL λx hx=>by
   have h3:=(h1.dy x).1 ((hd x).2 hx)
   cases hz:tJ.get dl x with
   |none=>rw[hz] at h3;cases h3
   |some d=>obtain⟨hm,hk⟩:=Enc.get_mem hz;exact List.mem_map.2 ⟨d,hm,hk⟩
  rw[List.length_map] at ha hb;omega
 obtain⟨es,ck,he,hes⟩:=h1.hD.size;have hl:∀ty,(Builtin.len_ #[153] ty #[.map (some D)]).run prog w= .ok (.int .i64 (dl.length:Int)) w:=λty=>by rw[<-hes];simp[Builtin.len_,run_underlying Tryz.underlying153,MapKept.run_getObj_map he,goInt]
 clear h h1 h2 he hes hL hd
 go_in
 go_wp2;go_ret;exact⟨by rw[<-hlen];rfl,rfl⟩
theorem Hu (h:iQ B Q w X T Z f s) (ho:Od f) (hL:L.Nodup) (hd:∀n,s.dy n↔n∈L) (hl:L.length<=16) (h1:1<=s.tb) (h2:s.tb<65536/\s.np<65536/\s.ino<65536):
  Calls prog 33 #[X] w λe w'=>e= .returned (.int .i64 0)/\∃f',Ee B Q w w' X T Z f' s.clean:=by
 obtain⟨R,hf,hc,_⟩:=h.hP.ft;have hle:f.se.length<=2:=by have:=Oz hf ho;rw[List.length_append] at this;omega
 have vN:∀q,q≠0->(lW f q).isSome=true->q=1:=λq h0 hq=>by
  rcases Nat.lt_or_ge q 2 with h1|h1
  ·omega
  ·exfalso;unfold lW at hq;rw[ho.no,ho.go,show aG [] q=none from rfl] at hq;simp[ho.key q h1] at hq
 have hct:=ho.ct;have Dw:=ag (λ(W:World) (hW:iQ B Q W X T Z f s) (a:Option Addr) (c:Nat) (hx:Bytes W W.heap.size a 56 (AU s.tb s.np s.ino)) (hxQ:∀b o,a=some ⟨b,o,none⟩->¬Q b)=>
  vk (c:=c) hW.hP hL hd ho.no ho.s0 ae (by rw[ho.sq];omega) ae vN h1 (by rw[ho.gh];intros;trivial) (by rw[ho.gh];trivial) hx hxQ)
 have HT:=ag (λW=>zF (tb:=s.tb) (np:=s.np) (ino:=s.ino) h2.1 h2.2.1 h2.2.2 W);have HH:=ag h;have c0:=h.c0;have c1:=h.c1;clear h ho hL hd hl h1 h2 hf hc hle vN hct
 go_in
 go_wp2_with fail;refine(mZ HH.o.hT).mono ?_;rintro e w_ ⟨rfl,rfl⟩;go_wp2_with fail;refine(oG HH.o.hP).mono ?_;rintro e w1 ⟨rfl,bK⟩;have uZ:=ag (HH.o.on bK);have dw:=ag bK;clear bK;go_wp2_with fail;refine(dO uZ.o.hP).mono ?_;rintro e w_ ⟨rfl,rfl⟩;go_wp2_with fail;refine(HT.o w1).mono ?_;rintro e w2 ⟨⟨a,c,rfl,bG⟩,aW⟩;have JB:=ag (uZ.o.on aW);have dA:=ag (dw.o.ay aW);have HXx:=ag (bG.arr (by unfold AU;rw[AV];omega));have HXn:=ag (show∀b o,a=some ⟨b,o,none⟩->¬Q b from λb o e hq=>by
  obtain⟨g,e2,hg,_⟩:=bG.addr (by unfold AU;rw[AV];omega);rw[e2] at e;injection e with e
  injection e with e
  have:=(HH.o.hP.bnd b hq).2;have:=dw.o.size;omega)
 clear bG aW;go_wp2_with fail;refine(Dw.o w2 JB.o a c HXx.o HXn.o).mono ?_;rintro e w3 ⟨rfl,f',oh,hcm⟩;have HR:=ag (show Ee B Q w w3 X T Z f' s.clean from by exact HH.o.ofR (jJ.from_ dA.o oh HH.o.hP.base) hcm.C);clear oh hcm;go_wp2;go_ret;exact⟨rfl,f',HR.o⟩
theorem EY (h:iQ B Q w X T Z f s) (hL:L.Nodup) (hd:∀n,s.dy n↔n∈L) (hl:L.length<16):
  Calls prog 32 #[X] w λe w'=>e= .returned (.int .i64 0)/\Below w.heap.size w w':=by
 have HD:=ag (λW (hW:iQ B Q W X T Z f s)=>vg hW.hP hL hd);obtain⟨l,hll⟩:=bu L.length;rw[<-hll] at HD hl;have g1:¬(16:Int)<=(l:Int):=ae;have HH:=ag h;have c0:=h.c0;have c1:=h.c1;clear h hL hd hll hl
 go_in
 go_wp2_with fail;refine(mX HH.o).mono ?_;rintro e w_ ⟨rfl,rfl⟩;go_wp2_with fail;refine(mZ HH.o.hT).mono ?_;rintro e w_ ⟨rfl,rfl⟩;go_wp2_with fail;refine(rO HH.o.hP).mono ?_;rintro e w1 ⟨rfl,bK⟩;have uZ:=ag (HH.o.on bK);have dw:=ag bK;clear bK;go_wp2_with fail;refine(HD.o w1 uZ.o).mono ?_;rintro e w_ ⟨rfl,rfl⟩;go_wp2;go_ret;exact⟨rfl,dw.o⟩
theorem EX (h:iQ B Q w X T Z f s) (ho:Od f) (hL:L.Nodup) (hd:∀n,s.dy n↔n∈L) (hl:L.length=16) (h1:1<=s.tb) (h2:s.tb<65536/\s.np<65536/\s.ino<65536):
  Calls prog 32 #[X] w λe w'=>e= .returned (.int .i64 0)/\∃f',Ee B Q w w' X T Z f' s.clean:=by
 have HD:=ag (λW (hW:iQ B Q W X T Z f s)=>show Calls prog 83 #[Z] W λe w'=>e= .returned (.int .i64 16)/\W=w' from by have h:=vg hW.hP hL hd;rw[hl] at h;exact h);have Dw:=ag (λW (hW:iQ B Q W X T Z f s)=>Hu hW ho hL hd (Nat.le_of_eq hl) h1 h2);have HH:=ag h;have c0:=h.c0;have c1:=h.c1;clear h hL hd hl ho h1 h2
 go_in
 go_wp2_with fail;refine(mX HH.o).mono ?_;rintro e w_ ⟨rfl,rfl⟩;go_wp2_with fail;refine(mZ HH.o.hT).mono ?_;rintro e w_ ⟨rfl,rfl⟩;go_wp2_with fail;refine(rO HH.o.hP).mono ?_;rintro e w1 ⟨rfl,bK⟩;have uZ:=ag (HH.o.on bK);have yA:=ag (HH.o.NQ (HH.o.hP.on bK) (Kq.of bK));have dw:=ag bK;clear bK;go_wp2_with fail;refine(HD.o w1 uZ.o).mono ?_;rintro e w_ ⟨rfl,rfl⟩;go_wp2_with fail;refine(Dw.o w1 uZ.o).mono ?_;rintro e w2 ⟨rfl,f',hr⟩;have HR:=ag hr;clear hr;go_wp2;go_ret;exact⟨rfl,f',Ee.from_ dw.o HR.o HH.o⟩
end
end
section
open Go.RowKit eu aN
variable {NB B P:Nat} {Q:Nat->Prop} {w w':World} {f:Fm} {s:Ps}

attribute [local go_sem] Oper.semAt_some

def Ro (x:Nat×Nat×Nat):Array Value:=#[.int .i64 (x.2.1:Int),.int .i64 (x.2.2:Int)]
def OwJ (Zy l:Nat) (J:List (Nat×Nat×Nat)->(Nat->Prop)->World->Prop) (pre:List (Nat×Nat×Nat)) (X:Nat->Prop) (W:World):Prop:=J pre X W/\aF W Zy 293 #[.func (.yield l) #[] #[]]/\¬X Zy
theorem VR {lp n Zy:Nat} {total:List (Nat×Nat×Nat)} {J:List (Nat×Nat×Nat)->(Nat->Prop)->World->Prop} (hJ:JX Q n J) (hZ:Zy<n) (hZQ:¬Q Zy)
  (hY:∀pre x X1 W1,J pre X1 W1->(pre++[x])<+:total->YieldAt Fence.wide 7 prog lp (Ro x) W1 (acV J (λ_ _ _=>False) (pre++[x]) X1 W1)):
  AX 219 #[.pointer (some ⟨Zy,0,none⟩)] total Q n (OwJ Zy lp J):=by
 refine⟨⟨λpre X W h=>hJ.bd _ _ _ h.1,?_⟩,enters_of Tryz.func219 az rfl,?_⟩
 ·rintro pre X W W' T' ⟨h1,h2,h3⟩ hk hT;refine⟨hJ.kq _ _ _ _ _ h1 hk hT,h2.kq hk λh=>?_,h3⟩;rcases(hT _ h).1 with h4|h4
  ·exact hZQ h4
  ·omega
 ·rintro pre ⟨a,p,lv⟩ X W ⟨h1,h2,h3⟩ dQ;have HY:=ag (hY pre (a,p,lv) X W h1 dQ);have H2:=ag h2;have H3:=ag h3;have HZl:=ag h2.lt;have c0:=h2.aj (i:=0) rfl;clear h1 h2 h3 hY dQ;unfold ylV;refine callsIn_wide (n:=8)|>.1 ?_;refine callsIn_of_wp Tryz.func219 rfl trivial ?_ rfl;simp only[Tryz.ntmps219,List.size_toArray,List.length_cons,List.length_nil,Nat.reduceAdd,Nat.reduceSub,Array.replicate_succ,Array.replicate_zero,List.push_toArray,List.append_toArray,List.nil_append,List.cons_append];obtain⟨fn,tmps,assign,body,hy,hR⟩:=HY.o;unfold Ro at hy
  gi_wp2_with fail
  refine hR.mono ?_;rintro ee w4 ⟨⟨rfl,X2,hJ4,JE⟩|⟨rfl,X2,akF,JE⟩,oU⟩
  ·have lX:=ag (show(∃X',OwJ Zy lp J (pre++[(a,p,lv)]) X' w4/\Grew X W X')/\Kq X W w4 from⟨⟨X2,⟨hJ4,H2.o.kq oU H3.o,JE.not H3.o HZl.o⟩,JE⟩,oU⟩);clear hJ4 JE oU hy hR
   gi_wp2
   go_ret;exact⟨rfl,lX.o⟩
  ·exact akF.elim
def ai3 (Q:Nat->Prop) (Z:Nat) (q:Nat):Prop:=Q q\/q=Z\/q=Z+1
theorem VS {fi:Nf} {Z:Nat} (h:bT NB B Q w P f s) (hw:Wf s fi.io) (h0:aF w Z 84 #[.pointer (some ⟨P,0,none⟩)]) (h1:aF w (Z+1) 107 (dG fi)):
  X7 prog 218 #[.pointer (some ⟨Z,0,none⟩),.pointer (some ⟨Z+1,0,none⟩)] Ro (yl s.g fi.io) False (λW=>bT NB B Q W P f s) Q (ai3 Q Z) w:=by
 intro lp J Jx X W hJ _ eQ hW hXo _ hY Qn;replace eQ:=eQ.resolve_left id;have ava:Jx=λ_ _ _=>False:=by
  funext pre X W
  exact eq_false (eQ pre X W)
 subst ava;have hP:=h.kq hW λq hq hn=>hn (.inl hq);have fF:=h0.kq hW λhn=>hn (.inr (.inl rfl));have bK:=h1.kq hW λhn=>hn (.inr (.inr rfl));have HP:=ag hP;have HW:=ag hw;have HJ:=ag hJ;have Ya:=ag Qn;have HY:=ag hY;have HXo:=ag hXo;have VT:=ag hw.dl;have hX1:∀q,X q->¬Q q:=λq h h2=>(hXo q h).1 h2;have F8:=ag hX1;have VU:=ag (hJ.bd _ _ _ Qn);obtain⟨W1,hW1⟩:=bu (W.alloc (.cells #[.func (.yield lp) #[] #[]] 293));have fQ:Below W.heap.size W W1:=by rw[hW1];exact(Below.refl _ W).alloc (Nat.le_refl _) _
 have rG:aF W1 W.heap.size 293 #[.func (.yield lp) #[] #[]]:=by rw[hW1];exact aF.new W _ _
 have iO:W1.heap.size=W.heap.size+1:=by rw[hW1];simp
 have dw:=ag fQ;have HZ1:=ag rG;have nZ:=ag iO;have HW1:=ag hW1;have c0:=(fF.ah fQ).aj (i:=0) rfl;unfold dG at bK;replace bK:=bK.ah fQ;obtain⟨e0,e1,e2,e3,e4,e5,e6,e7,e8,e9,e10⟩:=bK.c11;clear h h0 h1 hW hXo hY Qn eQ hJ hP fF bK hw hX1 fQ rG iO hW1;refine(callsIn_wide (n:=8)).2 ?_
 go_in
 go_upto_region 1 with fail;rw[<-HW1.o];go_wp2_with fail;have aW:Below W1.heap.size W1 (W1.alloc (.cells (nfA P fi) 204)):=(Below.refl _ W1).alloc (Nat.le_refl _) _;have mr:(W1.alloc (.cells (nfA P fi) 204)).heap.size=W.heap.size+2:=by rw[World.size_alloc,nZ.o]
 have JF:∀q,Q q->q<W.heap.size:=λq h=>(HP.o.bnd q h).2;have UU:OwJ W.heap.size lp J [] X (W1.alloc (.cells (nfA P fi) 204)):=⟨HJ.o.on (HJ.o.on Ya.o dw.o) aW,HZ1.o.ah aW,λh=>by have:=VU.o _ h;omega⟩
 have o6:=AY (n:=W.heap.size+2) ((HP.o.on dw.o).on aW) (sJ.made W1 VT.o P) (λh=>by have:=JF _ h;have:=nZ.o;omega) HW.o
  (VR (lp:=lp) (n:=W.heap.size+2) (Zy:=W.heap.size) (HJ.o.mono ae) ae (λh=>by have:=JF _ h;omega) HY.o) ae
  (λq h=>⟨F8.o q h,λe=>by have:=VU.o q h;have:=nZ.o;omega⟩) UU
 refine o6.mono ?_;rintro e w4 ⟨⟨v,rfl⟩,⟨X',⟨h1,_,_⟩,hg⟩,Yb,oU⟩;have lX:=ag (show(∃X',J (yl s.g fi.io) X' w4/\Grew X W X')/\Kq (λq=>Q q\/X q) W w4/\bT NB B Q w4 P f s from⟨⟨X',h1,λq hq=>by
  rcases hg q hq with h|h
  ·exact .inl h
  ·exact .inr ae⟩,(Kq.of (dw.o.ay aW)).trans oU,Yb⟩)
 clear o6 h1 hg Yb oU UU aW;go_wp2;go_end0;exact⟨⟨_,rfl⟩,.inl lX.o.1,lX.o.2⟩
theorem Rq (P:Nat) (fi:Nf) (w:World):
  Calls prog 162 #[P,zG fi] w λe w'=>e= .returned (.func (.func 218) #[] #[.pointer (some ⟨w.heap.size,0,none⟩),.pointer (some ⟨w.heap.size+1,0,none⟩)])/\(w.alloc (.cells #[.pointer (some ⟨P,0,none⟩)] 84)).alloc (.cells (dG fi) 107)=w':=by
 unfold zG dG
 go_in
 go_wp2;go_ret;exact⟨rfl,rfl⟩
theorem GV {fi:Nf} (h:bT NB B Q w P f s) (hw:Wf s fi.io):
  Calls prog 109 #[P,zG fi] w (qA NB B Q P f s (.int .i64 ((yl s.g fi.io).length:Int)) w):=by
 have HH:=ag h;have HW:=ag hw;obtain⟨l,hl⟩:=bu (yl s.g fi.io);have HLl:=ag (show l.length<=2000 from by rw[hl];exact OA h.ok fi.io);have HL:=ag hl;rw[<-hl];have HOw:=ag (λw=>Rq P fi w);unfold zG dG at HOw⊢;clear h hw hl;refine callsIn_wide (n:=9)|>.1 ?_;refine callsIn_of_wp_marks Tryz.func109 rfl trivial ?_ rfl;refine wpIn_wide.2 ?_;simp only[Tryz.ntmps109,List.size_toArray,List.length_cons,List.length_nil,Nat.reduceAdd,Nat.reduceSub,Array.replicate_succ,Array.replicate_zero,List.push_toArray,List.append_toArray,List.nil_append,List.cons_append];have aW:Below w.heap.size w ((w.alloc (.cells #[.int .i64 fi.k,.int .i64 fi.l,.int .i64 fi.s,.int .i64 (nd fi 0),.int .i64 (nd fi 1),.int .i64 (nd fi 2),.int .i64 (nd fi 3),.int .i64 (nd fi 4),.int .i64 (nd fi 5),.int .i64 (fi.io.s:Int),.int .i64 (fi.io.b:Int)] 107)).alloc (.cells #[.int .i64 0] 3)):=((Below.refl _ w).alloc (Nat.le_refl _) _).alloc au _;have J5:=aF.new (w.alloc (.cells #[.int .i64 fi.k,.int .i64 fi.l,.int .i64 fi.s,.int .i64 (nd fi 0),.int .i64 (nd fi 1),.int .i64 (nd fi 2),.int .i64 (nd fi 3),.int .i64 (nd fi 4),.int .i64 (nd fi 5),.int .i64 (fi.io.s:Int),.int .i64 (fi.io.b:Int)] 107)) 3 #[.int .i64 0];have mr:((w.alloc (.cells #[.int .i64 fi.k,.int .i64 fi.l,.int .i64 fi.s,.int .i64 (nd fi 0),.int .i64 (nd fi 1),.int .i64 (nd fi 2),.int .i64 (nd fi 3),.int .i64 (nd fi 4),.int .i64 (nd fi 5),.int .i64 (fi.io.s:Int),.int .i64 (fi.io.b:Int)] 107)).alloc (.cells #[.int .i64 0] 3)).heap.size=w.heap.size+2:=au;simp only[World.size_alloc] at J5;go_wp2_with fail;generalize (w.alloc (.cells #[.int .i64 fi.k,.int .i64 fi.l,.int .i64 fi.s,.int .i64 (nd fi 0),.int .i64 (nd fi 1),.int .i64 (nd fi 2),.int .i64 (nd fi 3),.int .i64 (nd fi 4),.int .i64 (nd fi 5),.int .i64 (fi.io.s:Int),.int .i64 (fi.io.b:Int)] 107)).alloc (.cells #[.int .i64 0] 3)=w2 at*;refine(HOw.o w2).mono ?_;rintro e w' ⟨rfl,rfl⟩;have di:Below w2.heap.size w2 ((w2.alloc (.cells #[.pointer (some ⟨P,0,none⟩)] 84)).alloc (.cells (dG fi) 107)):=((Below.refl _ w2).alloc (Nat.le_refl _) _).alloc au _;have Yb:=(aF.new w2 84 #[.pointer (some ⟨P,0,none⟩)]).alloc (.cells (dG fi) 107);have hi4:=aF.new (w2.alloc (.cells #[.pointer (some ⟨P,0,none⟩)] 84)) 107 (dG fi);have VV:((w2.alloc (.cells #[.pointer (some ⟨P,0,none⟩)] 84)).alloc (.cells (dG fi) 107)).heap.size=w2.heap.size+2:=au;simp only[World.size_alloc] at hi4;have kL:=ag (aW.ay di);have VW:=ag (J5.ah di);have xP:=ag (HH.o.on kL.o);have HPp:=ag Yb;have HPi:=ag hi4;have VX:=ag (show _/\w2.heap.size=w.heap.size+2 from⟨VV,mr⟩);rw[mr] at HPp HPi⊢;clear aW J5 mr di Yb hi4 VV HOw;rw[show w.heap.size+2=w.heap.size+1+1 from rfl];go_wp2_with fail;obtain⟨w4,yz⟩:=bu ((w2.alloc (.cells #[.pointer (some ⟨P,0,none⟩)] 84)).alloc (.cells (dG fi) 107));rw[<-yz] at kL VW xP HPp HPi VX;rw[show(w2.alloc (.cells #[.pointer (some ⟨P,0,none⟩)] 84)).alloc (.cells #[.int .i64 fi.k,.int .i64 fi.l,.int .i64 fi.s,.int .i64 (nd fi 0),.int .i64 (nd fi 1),.int .i64 (nd fi 2),.int .i64 (nd fi 3),.int .i64 (nd fi 4),.int .i64 (nd fi 5),.int .i64 (fi.io.s:Int),.int .i64 (fi.io.b:Int)] 107)=w4 from yz.symm];clear yz;refine Yc λT hT=>?_;have mJ:=VS (Z:=w.heap.size+2) xP.o HW.o HPp.o HPi.o;rw[<-HL.o] at mJ;have VV:w4.heap.size=w.heap.size+4:=by have:=VX.o;omega
 have JF:∀q,Q q->q<w.heap.size:=λq h=>(HH.o.bnd q h).2;have hI:JX Q w4.heap.size (λ(pre:List (Nat×Nat×Nat)) (X:Nat->Prop) (W:World)=>(∀q,X q↔q=w.heap.size+1)/\aF W (w.heap.size+1) 3 #[.int .i64 (pre.length:Int)]):=by
  refine⟨?_,?_⟩
  ·rintro pre X W ⟨h1,h2⟩ q hq;have:=h2.lt;have:=(h1 q).1 hq;omega
  ·rintro pre X W W' T' ⟨h1,h2⟩ hk hT';exact⟨h1,h2.kq hk λh=>(hT' _ h).2 ((h1 _).2 rfl)⟩
 have vU:∀kc:Code,JX Q w4.heap.size (λ(_:List (Nat×Nat×Nat)) (_:Nat->Prop) (_:World)=>False):=λ_=>⟨λ_ _ _ h=>h.elim,λ_ _ _ _ _ h=>h.elim⟩
 refine wpIn_wide.1 (VY (gf:=218) (lb:=#[.pointer (some ⟨w.heap.size+2,0,none⟩),.pointer (some ⟨w.heap.size+2+1,0,none⟩)]) (encs:=Ro) (xs:=l) (T:=Q) (own:=ai3 Q (w.heap.size+2)) (w0:=w4) (by rw[hT];rfl) (enters_of Tryz.func218 az rfl) mJ (λW W' q0 h hk hq=>h.kq hk λq h1 e=>by have:=JF q h1;omega) (Kq.refl _ _) ?own (λq h=>by have:=JF q h;omega) (λ_=>rfl)
  _ hI _ vU (.inr λ_ _ _ _ h=>h) (λq=>q=w.heap.size+1) ⟨λq=>Iff.rfl,VW.o⟩ ?JG (λx=>⟨(T.setIfInBounds 9 (.int .i64 (x.2.1:Int))).setIfInBounds 10 (.int .i64 (x.2.2:Int)),[]⟩) ?assign ?body ?done ?stop)
 case own=>
  rintro q (h|h|h)
  ·have:=JF q h;omega
  ·omega
  ·omega
 case JG=>
  rintro q rfl;refine⟨λh=>by have:=JF _ h;omega,?_⟩;rintro(h|h|h)
  ·have:=JF _ h;omega
  ·omega
  ·omega
 case assign=>
  intro lp y W K hK;unfold Ro;have h9:=apg 9 10 T (.int .i64 (y.2.1:Int)) (.int .i64 (y.2.2:Int));rw[h9];have HKa:=ag hK;clear hK mJ hI vU h9
  gi_wp2
  exact HKa.o
 case body=>
  rintro lp pre y X1 W ⟨hX,hb⟩ hg hs dQ;have hlen:pre.length+1<=2000:=by have:=dQ.length_le;rw[List.length_append,List.length_singleton] at this;have:=HLl.o;omega
  obtain⟨m,hm⟩:=bu pre.length;rw[<-hm] at hb hlen;have iv:=IntWalk.i64_in ((m:Int)+1) ⟨ae,ae⟩;have c5:=hb.aj (i:=0) rfl;have f5:=hb.frozen 0;have eQ:Kq (λq=>q=w.heap.size+1) W (W.setCell ⟨w.heap.size+1,0,none⟩ (.int .i64 ((m:Int)+1))):=Kq.one ⟨w.heap.size+1,0,none⟩ _;have lX:=ag (show Rt (λ(pre:List (Nat×Nat×Nat)) (X:Nat->Prop) (W:World)=>(∀q,X q↔q=w.heap.size+1)/\aF W (w.heap.size+1) 3 #[.int .i64 (pre.length:Int)]) (λ(_:Code) (_:List (Nat×Nat×Nat)) (_:Nat->Prop) (_:World)=>False) (pre++[y]) X1 W .normal ⟨#[],[]⟩ (W.setCell ⟨w.heap.size+1,0,none⟩ (.int .i64 ((m:Int)+1))) from by refine⟨⟨X1,⟨hX,?_⟩,Grew.refl _ _⟩,eQ.mono λq h=>(hX q).2 h⟩;have h:=hb.set 0 (.int .i64 ((m:Int)+1));rw[List.length_append,List.length_singleton,<-hm];exact h);clear hX hb hg hs dQ mJ hI vU eQ hm;subst hT;simp only[List.setIfInBounds_toArray,List.set_cons_succ,List.set_cons_zero]
  gi_wp2
  exact lX.o
 case done=>rintro D X1 W hD ⟨hX,hb⟩ hg hk hnD hpo hK;have dh:w.heap.size+1≠D:=hnD _ ((hX _).2 rfl);have c5:=hb.aj (i:=0) rfl;have lX:=ag (λo:Obj=>(show bT NB B Q (W.putObj D o) P f s/\Kq Q w (W.putObj D o) from⟨hpo.kq (dS W D o) λq h e=>by have:=JF q h;omega,((Kq.of kL.o).ay hk λq h=>by rcases h with h|h;exact .inl h;exact .inr ae).ay (dS W D o) λq h=> .inr ae⟩));have HK:=ag hK;clear hX hb hg hk hnD hpo hK mJ hI vU;subst hT;go_wp2;refine⟨au,.inl ⟨_,_,rfl,run_takeDeferred HK.o,?_⟩⟩;exact⟨.int .i64 (l.length:Int),by simp[results,Tryz.results109,go_sem],rfl,lX.o _⟩
 case stop=>rintro D kc avc X1 W _ _ h;exact h.elim
end

section
open Go.RowKit Go.Maps Go.ChangeMaps eX eu

attribute [local go_sem] Oper.semAt_some
namespace jZ
def mx (v:Nat×ny->Nat) (l:List (Nat×ny)):Nat:=l.foldl (λa x=>max a (1+v x)) 0
theorem agI (v:Nat×ny->Nat) (l:List (Nat×ny)) (x:Nat×ny):mx v (l++[x])=max (mx v l) (1+v x):=by unfold mx;rw[List.foldl_append];rfl
theorem aph (v:Nat×ny->Nat) (l:List (Nat×ny)) (h:∀x∈l,v x<=1000):mx v l<=1001:=by
 suffices hs:∀a,a<=1001->l.foldl (λa x=>max a (1+v x)) a<=1001 from hs 0 ae
 induction l with
 |nil=>exact λa h=>h
 |cons x t ih=>
  intro a ha;refine ih (λy hy=>h y (by simp[hy])) _ ?_;have:=h x au;show max a (1+v x)<=1001;omega
end jZ
section
variable {B X T Z no:Nat} {Q:Nat->Prop} {w w':World} {f:Fm} {s:Ps} {fi:Nf} {Xd:List UInt8}
theorem tK (h:iQ B Q w X T Z f s) (d:jh s no fi Xd) (v:Nat×ny->Nat) (hv:∀x∈Dir.tX Xd,v x<=1000/\∀W,iQ B Q W X T Z f s->Calls prog 51 #[X,.int .i64 x.2.i] W λe w'=>e= .returned (.int .i64 (v x:Int))/\bT 32 B Q w' Z f s/\Kq Q W w'):
  Calls prog 51 #[X,.int .i64 no] w λe w'=>e= .returned (.int .i64 (jZ.mx v (Dir.tX Xd):Int))/\bT 32 B Q w' Z f s/\Kq Q w w':=by
 have Yd:∀pre,pre<+:Dir.tX Xd->jZ.mx v pre<=1001:=λpre hp=>jZ.aph v pre λx hx=>(hv x (hp.subset hx)).1;have HMx:=ag Yd;have HV:=ag hv;have HD:=ag (λW (hW:iQ B Q W X T Z f s)=>Du hW.hP hW.hT hW.nT d);have HDz:=ag d.z2;obtain⟨l,hl⟩:=bu (Dir.tX Xd);rw[<-hl] at HV HMx⊢;have HL:=ag hl;have yK:=aF.new w 24 #[.pointer (some ⟨X,0,none⟩)];obtain⟨w1,jw⟩:=bu (w.alloc (.cells #[.pointer (some ⟨X,0,none⟩)] 24));have bK:Below w.heap.size w w1:=jw▸(Below.refl _ w).alloc (Nat.le_refl _) _;have iO:w1.heap.size=w.heap.size+1:=by rw[jw,World.size_alloc]
 rw[<-jw] at yK;have J5:=aF.new w1 3 #[.int .i64 0];obtain⟨w2,jP⟩:=bu (w1.alloc (.cells #[.int .i64 0] 3));have aW:Below w1.heap.size w1 w2:=jP▸(Below.refl _ w1).alloc (Nat.le_refl _) _;have mr:w2.heap.size=w.heap.size+2:=by rw[jP,World.size_alloc,iO]
 rw[<-jP,iO] at J5;have JH:=ag (yK.ah aW);have xQ:=ag J5;have JB:=ag ((h.on bK).on aW);have dA:=ag (bK.ay aW);have wJ:=ag mr;have HQb:=ag h.hP.bnd;have HW2:=ag (show w2=(w.alloc (.cells #[.pointer (some ⟨X,0,none⟩)] 24)).alloc (.cells #[.int .i64 0] 3) from by rw[jP,jw]);have HH:=ag h;have c1:=JB.o.c1;have x0:=JH.o.aj (i:=0) rfl;clear h d hv Yd hl yK jw bK iO J5 jP aW mr;refine callsIn_wide (n:=9)|>.1 ?_;refine callsIn_of_wp_marks Tryz.func51 rfl trivial ?_ rfl;refine wpIn_wide.2 ?_;simp only[Tryz.ntmps51,List.size_toArray,List.length_cons,List.length_nil,Nat.reduceAdd,Nat.reduceSub,Array.replicate_succ,Array.replicate_zero,List.push_toArray,List.append_toArray,List.nil_append,List.cons_append];go_upto_region 2 with fail;rw[<-HW2.o];clear HW2;go_wp2_with fail;refine(HD.o w2 JB.o).mono ?_;rintro e w3 ⟨⟨a,c,C,rfl,hc,hC,hCb,ho⟩,oq,jY⟩;have JF:∀q,Q q->q<w.heap.size:=λq h=>(HQb.o q h).2;have QG:=ag (JB.o.ask oq jY);have zZ:=ag (JH.o.kq jY λh=>by have:=JF _ h;omega);have qZ:=ag (xQ.o.kq jY λh=>by have:=JF _ h;omega);have jU:=ag (show Kq Q w w3 from(Kq.of dA.o).trans jY);have zD:=ag hC;have rf:=ag ho;have HCl:=ag hc;have HCg:=ag hCb;have Aa:=ag (show w.heap.size+2<=w3.heap.size from by have:=jY.size;have:=wJ.o;omega);clear oq jY ho hc hC hCb c1 x0;go_wp2;refine Yc λT0 hT=>?_;have mJ:=VN a Xd.length c Xd C w3 HCl.o (rf.o.arr (by have:=HDz.o;omega)) HCg.o;rw[<-HL.o] at mJ;have hlT:=HH.o.ltT;have hlX:=HH.o.ltX;have hs3:=Aa.o;obtain⟨I,hIe⟩:∃I:List (Nat×ny)->(Nat->Prop)->World->Prop,I=λpre X1 W=>(∀q,X1 q↔Q q\/q=w.heap.size+1)/\iQ B Q W X T Z f s/\aF W (w.heap.size+1) 3 #[.int .i64 (jZ.mx v pre:Int)]/\aF W w.heap.size 24 #[.pointer (some ⟨X,0,none⟩)]:=⟨_,rfl⟩
 have HI:=ag hIe;have hI:JX (λ_=>False) w3.heap.size I:=by
  rw[hIe];refine⟨?_,?_⟩
  ·rintro pre X1 W ⟨h1,h2,h3,_⟩ q hq;rcases(h1 q).1 hq with h|h
   ·exact(h2.hP.bnd q h).2
   ·have:=h3.lt;omega
  ·rintro pre X1 W W' T' ⟨h1,h2,h3,h4⟩ hk hn;have big:∀q,T' q->w3.heap.size<=q:=λq hq=>(hn q hq).1.resolve_left id;exact⟨h1,h2.far hk (λh=>by have:=big _ h;omega) (λh=>by have:=big _ h;omega) λq hq h=>(hn q h).2 ((h1 q).2 (.inl hq)),h3.kq hk λh=>by have:=big _ h;omega,h4.kq hk λh=>by have:=big _ h;omega⟩
 have vU:∀kc:Code,JX (λ_=>False) w3.heap.size (λ(_:List (Nat×ny)) (_:Nat->Prop) (_:World)=>False):=λ_=>⟨λ_ _ _ h=>h.elim,λ_ _ _ _ _ h=>h.elim⟩
 refine wpIn_wide.1 (Es (gf:=211) (lb:=#[.pointer (some ⟨C,0,none⟩)]) (encs:=uH) (xs:=l) (T:=λ_=>False) (own:=aiZ a C) (w0:=w3) (by rw[hT];rfl) (enters_of Tryz.func211 az rfl) mJ (λ_ _ _ _ _ _=>trivial) (Kq.refl _ _) ?own (λq h=>h.elim) (λ_=>rfl)
  I hI (λ_ _ _ _=>False) vU (.inl trivial) (λq=>Q q\/q=w.heap.size+1) ?start ?JG (λx W0 W u=>u=⟨((T0.setIfInBounds 14 (.int .i64 (x.1:Int))).setIfInBounds 15 (.agg #[.int .i64 x.2.i,.string (aJ x.2.nm)])).setIfInBounds 7 (.pointer (some ⟨W0.heap.size,0,none⟩)),[]⟩/\aF W W0.heap.size 167 #[.int .i64 x.2.i,.string (aJ x.2.nm)]) ?stay ?assign ?body ?done ?stop)
 case start=>rw[hIe];exact⟨λq=>Iff.rfl,QG.o,qZ.o,zZ.o⟩
 case stay=>rintro x W0 W W' u ⟨h1,h2⟩ hk;exact⟨h1,h2.kq hk ae⟩
 case own=>
  rintro q (rfl|⟨b,o,e,rfl⟩)
  ·exact HCg.o.lt
  ·exact(rf.o.aP q (by rw[e];rfl)).2
 case JG=>
  have hC:=zD.o;have jP:=wJ.o;rintro q (h|h)
  ·refine⟨id,?_⟩;have h1:=JF q h;rintro(h2|⟨b,o,e,h2⟩)
   ·omega
   ·have h3:=(rf.o.aP b (by rw[e];rfl)).1;omega
  ·refine⟨id,?_⟩;rintro(h2|⟨b,o,e,h2⟩)
   ·omega
   ·have h3:=(rf.o.aP b (by rw[e];rfl)).1;omega
 case assign=>
  intro lp y W K hK;unfold uH;have h9:=apg 14 15 T0 (.int .i64 (y.1:Int)) (.agg #[.int .i64 y.2.i,.string (aJ y.2.nm)]);rw[h9];have HKa:=ag (hK _ (W.alloc (.cells #[.int .i64 y.2.i,.string (aJ y.2.nm)] 167)) ⟨rfl,aF.new W _ _⟩ ((Below.refl _ W).alloc (Nat.le_refl _) _));clear hK mJ hI vU h9 hIe;subst hT;simp only[List.setIfInBounds_toArray,List.set_cons_succ,List.set_cons_zero];simp only[List.setIfInBounds_toArray,List.set_cons_succ,List.set_cons_zero] at HKa
  gi_wp2
  exact HKa.o
 case body=>
  rintro lp pre y X1 W0 W u hi ⟨rfl,hE⟩ hXl Fp iO hg dQ;have hi2:=hi;rw[hIe] at hi2;obtain⟨hX,hF,hb,hBx⟩:=hi2;have Am:y∈l:=dQ.subset au;have Ye:=HMx.o pre ((List.prefix_append pre [y]).trans dQ);obtain⟨hv1,hv2⟩:=HV.o y Am;have hsn:=jZ.agI v pre y;obtain⟨m,hm⟩:=bu (jZ.mx v pre);obtain⟨vy,hvy⟩:=bu (v y);obtain⟨E,hEe⟩:=bu W0.heap.size;rw[<-hm] at hb Ye hsn;rw[<-hvy] at hv1 hv2 hsn;rw[<-hEe] at hE hXl Fp iO⊢;have HVy:=ag hv2;have HSn:=ag hsn;have o7:=ak W;have U2:=ag (show aF W.drew (w.heap.size+1) 3 #[.int .i64 m]/\aF W.drew w.heap.size 24 #[.pointer (some ⟨X,0,none⟩)]/\aF W.drew E 167 #[.int .i64 y.2.i,.string (aJ y.2.nm)] from⟨hb.ah o7,hBx.ah o7,hE.ah o7⟩);have Ac:=ag (hF.on o7);have Zx:=ag (Kq.of (T:=Q) o7);have HX:=ag hX;have HEl:=ag (show w3.heap.size<=E/\∀q,X1 q->q<E from⟨Fp,hXl⟩);have q5:=IntWalk.i64_in (1+(vy:Int)) ⟨ae,ae⟩;clear hi hX hF hb hBx hE hXl Fp iO hg dQ Am hv2 hsn hm hvy hEe o7 mJ hI vU;subst hT;simp only[List.setIfInBounds_toArray,List.set_cons_succ,List.set_cons_zero]
  gi_wp2_with fail
  refine OB (S:=(λW'=>aF W' w.heap.size 24 #[.pointer (some ⟨X,0,none⟩)]/\aF W' E 167 #[.int .i64 y.2.i,.string (aJ y.2.nm)])) az az U2.o.2 (λbJ=>?_);generalize W.drew=Wd at*;refine tC 1 (.pointer (some ⟨X,0,none⟩)) (λ_ aI=>aI.1.aj (i:=0) (v:= .pointer (some ⟨X,0,none⟩)) rfl) ?_;refine aS 2 E 0 ?_;refine jH 3 y.2.i (λ_ aI=>aI.2.aj (i:=0) (v:= .int .i64 y.2.i) rfl) ?_;have m0:=U2.o.1.aj (i:=0) (v:= .int .i64 m) rfl;refine wpAnyH_ready (rs:=[0,4]) az au ?_;refine AllReadyH.cons rfl (λK' hK=>?_) (AllReadyH.cons rfl (λK' hK=>?_) AllReadyH.nil)
  ·go_simp;refine hK.out _ _ bJ (λdH=>?_)
   try simp only[aO]
   refine dm 4 (λK' hK=>?_);go_simp;refine(HVy.o Wd Ac.o).mono ?_;rintro e w5 ⟨rfl,Ef,zY⟩;have dh:¬Q (w.heap.size+1)/\¬Q w.heap.size/\¬Q E:=⟨λh=>by have:=JF _ h;omega,λh=>by have:=JF _ h;omega,λh=>by have:=JF _ h;have:=HEl.o.1;omega⟩
   have Ad:=ag (show aF w5 (w.heap.size+1) 3 #[.int .i64 m]/\aF w5 w.heap.size 24 #[.pointer (some ⟨X,0,none⟩)]/\aF w5 E 167 #[.int .i64 y.2.i,.string (aJ y.2.nm)] from⟨U2.o.1.kq zY dh.1,U2.o.2.1.kq zY dh.2.1,U2.o.2.2.kq zY dh.2.2⟩);have Hw:=ag (Ac.o.ask Ef zY);have zx:=ag (Zx.o.trans zY);clear Ef zY dh;have m5:=Ad.o.1.aj (i:=0) (v:= .int .i64 m) rfl;have f5:=Ad.o.1.frozen 0;refine hK.out _ _ Ad.o.2 (λwK=>?_)
   try simp only[aO]
   refine ik 5 (1+(vy:Int)) ?_;refine ik 6 (max (m:Int) (1+(vy:Int))) ?_;have eQ:Kq (λq=>q=w.heap.size+1) w5 (w5.setCell ⟨w.heap.size+1,0,none⟩ (.int .i64 (max (m:Int) (1+(vy:Int))))):=Kq.one ⟨w.heap.size+1,0,none⟩ _;have lX:=ag (show Rt I (λ(_:Code) (_:List (Nat×ny)) (_:Nat->Prop) (_:World)=>False) (pre++[y]) X1 W .normal ⟨#[],[]⟩ (w5.setCell ⟨w.heap.size+1,0,none⟩ (.int .i64 (max (m:Int) (1+(vy:Int))))) from by have hX:=HX.o;refine⟨⟨X1,?_,Grew.refl _ _⟩,(zx.o.mono λq h=>(hX q).2 (.inl h)).trans (eQ.mono λq h=>(hX q).2 (.inr h))⟩;rw[HI.o];refine⟨hX,Hw.o.far eQ ae ae (λq hq e=>by have:=JF q hq;omega),?_,Ad.o.2.1.kq eQ ae⟩;have h:=Ad.o.1.set 0 (.int .i64 (max (m:Int) (1+(vy:Int))));rw[HSn.o,show((max m (1+vy):Nat):Int)=(max (m:Int) (1+(vy:Int))) from ae];exact h);have F9:=And.intro (Ad.o.2.1.kq eQ ae) (Ad.o.2.2.kq eQ (by have:=HEl.o.1;omega));clear eQ;refine dm 7 (λK' hK=>?_);go_simp;refine hK.out _ _ F9 (λVZ=>?_)
   try simp only[aO]
   refine wpAnyH_done az ?_ _;refine Calm.normal ?_;clear hIe
   gi_wp2
   exact lX.o
  ·go_simp;refine(HVy.o Wd Ac.o).mono ?_;rintro e w5 ⟨rfl,Ef,zY⟩;have dh:¬Q (w.heap.size+1)/\¬Q w.heap.size/\¬Q E:=⟨λh=>by have:=JF _ h;omega,λh=>by have:=JF _ h;omega,λh=>by have:=JF _ h;have:=HEl.o.1;omega⟩
   have Ad:=ag (show aF w5 (w.heap.size+1) 3 #[.int .i64 m]/\aF w5 w.heap.size 24 #[.pointer (some ⟨X,0,none⟩)]/\aF w5 E 167 #[.int .i64 y.2.i,.string (aJ y.2.nm)] from⟨U2.o.1.kq zY dh.1,U2.o.2.1.kq zY dh.2.1,U2.o.2.2.kq zY dh.2.2⟩);have Hw:=ag (Ac.o.ask Ef zY);have zx:=ag (Zx.o.trans zY);clear Ef zY dh;have m5:=Ad.o.1.aj (i:=0) (v:= .int .i64 m) rfl;have f5:=Ad.o.1.frozen 0;refine hK.out _ _ Ad.o.2 (λwK=>?_)
   try simp only[aO]
   refine ik 5 (1+(vy:Int)) ?_;refine dm 0 (λK' hK=>?_);go_simp;refine hK.out _ _ wK (λrE=>?_)
   try simp only[aO]
   refine ik 6 (max (m:Int) (1+(vy:Int))) ?_;have eQ:Kq (λq=>q=w.heap.size+1) w5 (w5.setCell ⟨w.heap.size+1,0,none⟩ (.int .i64 (max (m:Int) (1+(vy:Int))))):=Kq.one ⟨w.heap.size+1,0,none⟩ _;have lX:=ag (show Rt I (λ(_:Code) (_:List (Nat×ny)) (_:Nat->Prop) (_:World)=>False) (pre++[y]) X1 W .normal ⟨#[],[]⟩ (w5.setCell ⟨w.heap.size+1,0,none⟩ (.int .i64 (max (m:Int) (1+(vy:Int))))) from by have hX:=HX.o;refine⟨⟨X1,?_,Grew.refl _ _⟩,(zx.o.mono λq h=>(hX q).2 (.inl h)).trans (eQ.mono λq h=>(hX q).2 (.inr h))⟩;rw[HI.o];refine⟨hX,Hw.o.far eQ ae ae (λq hq e=>by have:=JF q hq;omega),?_,Ad.o.2.1.kq eQ ae⟩;have h:=Ad.o.1.set 0 (.int .i64 (max (m:Int) (1+(vy:Int))));rw[HSn.o,show((max m (1+vy):Nat):Int)=(max (m:Int) (1+(vy:Int))) from ae];exact h);have F9:=And.intro (Ad.o.2.1.kq eQ ae) (Ad.o.2.2.kq eQ (by have:=HEl.o.1;omega));clear eQ;refine dm 7 (λK' hK=>?_);go_simp;refine hK.out _ _ F9 (λVZ=>?_)
   try simp only[aO]
   refine wpAnyH_done az ?_ _;refine Calm.normal ?_;clear hIe
   gi_wp2
   exact lX.o
 case done=>rintro D X1 W hD hi hg hk hnD hpo hK;rw[hIe] at hi;obtain⟨hX,hF,hb,_⟩:=hi;have dh:w.heap.size+1≠D:=hnD _ ((hX _).2 (.inr rfl));have c5:=hb.aj (i:=0) rfl;have lX:=ag (λo:Obj=>(show bT 32 B Q (W.putObj D o) Z f s/\Kq Q w (W.putObj D o) from⟨hF.hP.kq (dS W D o) λq h e=>by have:=JF q h;omega,(jU.o.ay hk λq h=>by rcases h with h|h|h;exact h.elim;exact .inl h;exact .inr ae).ay (dS W D o) λq h=> .inr ae⟩));have HK:=ag hK;clear hX hb hg hk hnD hpo hK mJ hI vU hF hIe;subst hT;go_wp2;refine⟨au,.inl ⟨_,_,rfl,run_takeDeferred HK.o,?_⟩⟩;exact⟨_,by simp[results,Tryz.results51,go_sem],rfl,lX.o _⟩
 case stop=>rintro D kc avc X1 W _ _ h;exact h.elim
end
end
end Go.Proofs.YtnieckfelfoopaaGreat

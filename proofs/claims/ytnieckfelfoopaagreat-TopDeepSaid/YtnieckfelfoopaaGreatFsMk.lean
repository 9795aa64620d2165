import Derived.Test.YtnieckfelfoopaaGreatPathParse
import Derived.Test.YtnieckfelfoopaaGreatFsDeep
import Derived.WalkMore
import Derived.Test.YtnieckfelfoopaaGreatTreR
open Go.Proofs.Tryz (prog)
namespace Go.Proofs.YtnieckfelfoopaaGreat
open Lib (hid)
set_option maxRecDepth 100000
set_option maxHeartbeats 16000000
section
open Go.RowKit

namespace bV
def uA (l:List UInt8):List (List UInt8)×List UInt8×Int:=
 if (parse l).2=0 then(if (parse l).1=[] then([],[],72) else((parse l).1.dropLast,(parse l).1.getLast?.getD [],0)) else([],[],(parse l).2)
end bV
def GX (l:List UInt8) (w:World) (e:Ending) (w':World):Prop:=
 (∃a n c,e= .returned (.tuple #[.slice a n c,.string (aJ (bV.uA l).2.1),.int .i64 (bV.uA l).2.2])/\Own jV 9 w' w.heap.size (.slice a n c) (bV.uA l).1/\n<=c)/\Below w.heap.size w w'
theorem last_at (xs:List (List UInt8)) (m:Nat) (h:xs.length=m+1) (hm:m<xs.length):xs.getLast?.getD []=xs[m]:=by rw[List.getLast?_eq_getElem?,h,Nat.add_sub_cancel,List.getElem?_eq_getElem hm,Option.getD_some]
theorem wu (l:List UInt8) (w:World) (hl:l.length<=140737488351232):
  Calls prog 47 #[.string (aJ l)] w (GX l w):=by
 have QI:=ag (vW l w hl);unfold GK at QI;have HS:=ag (show bV.uA l=(if (bV.parse l).2=0 then(if (bV.parse l).1=[] then([],[],72) else((bV.parse l).1.dropLast,(bV.parse l).1.getLast?.getD [],0)) else([],[],(bV.parse l).2)) from rfl);unfold GX;have hlen:(bV.parse l).1.length<=16777216:=by
  unfold bV.parse
  split
  ·simp
  ·split
   ·have:=bV.Zb l;rename_i h _;have h2:l.length<=255:=ae;exact Nat.le_trans this ae
   ·simp
 generalize bV.uA l=S at*;generalize bV.parse l=R at*;obtain⟨xs,E⟩:=R;by_cases hE:E=0
 ·subst hE;by_cases h0:xs=[]
  ·subst h0;have hs:=ag (show S=([],[],72) by rw[HS.o];rfl);clear HS
   go_in
   go_wp2_with fail;refine QI.o.mono ?_;rintro e w1 ⟨⟨v,rfl,ho⟩,hb⟩;obtain⟨a1,c1,rfl,_⟩:=ho.bZ (n:=0) rfl;have HB:=ag hb;clear ho hb;go_wp2;go_ret3;rw[hs.o];exact⟨⟨_,_,_,rfl,Own.nil _ _,Nat.le_refl _⟩,HB.o⟩
  ·obtain⟨m,hm⟩:∃m,xs.length=m+1:=⟨xs.length-1,by have:=List.length_pos_iff.2 h0;omega⟩
   have QP:m<xs.length:=ae;have hs:=ag (show S=(xs.take m,xs[m],0) by rw[HS.o,if_pos rfl,if_neg h0,List.dropLast_eq_take,hm,Nat.add_sub_cancel,last_at xs m hm QP]);have HM:=ag hm;simp only at hlen;have XZ:m<=16777216:=ae;clear HS hm h0
   go_in
   go_wp2_with fail;refine QI.o.mono ?_;rintro e w1 ⟨⟨v,rfl,ho⟩,hb⟩;obtain⟨a1,c1,rfl,vT⟩:=ho.bZ (n:=m+1) HM.o;have HO:=ag ho;have HA:=ag (ho.arr (by rw[HM.o];omega));have HB:=ag hb;obtain⟨b1,o1,iy,rfl,NZ,zy⟩:=HA.o.QQ (k:=m) ae;rw[Aw] at zy;have q1:IntKind.i64.wrap (m:Int)=(m:Int):=IntWalk.i64_in _ ⟨ae,ae⟩;have q2:(m:Int)+1-1=(m:Int):=ae;have q3:(0:Int)<=(m:Int):=ae;have q4:(m:Int)<=(c1:Int):=ae;have q5:(m:Int)<(m:Int)+1:=ae;clear ho hb;go_wp2_with fail
   go_quiet (fail)
   go_wp2;go_ret3;rw[hs.o];exact⟨⟨_,_,_,rfl,(HO.o.aiT (k:=m) ae).on (below_drewN _ _),ae⟩,HB.o.trans (below_drewN _ _)⟩
 ·have hs:=ag (show S=([],[],E) by rw[HS.o];exact if_neg hE);have g1:(E==0)=false:=by simpa using hE
  have g2:(E !=0)=true:=by simpa using hE
  clear HS hE
  go_in
  go_wp2_with fail;refine QI.o.mono ?_;rintro e w1 ⟨⟨v,rfl,ho⟩,hb⟩;have HB:=ag hb;clear ho hb;go_wp2;go_ret3;rw[hs.o];exact⟨⟨_,_,_,rfl,Own.nil _ _,Nat.le_refl _⟩,HB.o⟩
end
section
open Go.RowKit

namespace bV
def xM (xs ys:List (List UInt8)):Bool:=decide (ys.length<xs.length/\xs.take ys.length=ys)
end bV
theorem QR (a b:Option Addr) (n m c d:Nat) (xs ys:List (List UInt8)) (w:World) (hx:jg jV w w.heap.size a n xs) (hy:jg jV w w.heap.size b m ys):
  Calls prog 96 #[.slice a n c,.slice b m d] w λe w'=>e= .returned (.bool (decide (xs=ys)))/\Below w.heap.size w w':=by
 have HX:=ag hx;have HY:=ag hy;have hn:=hx.room;have lx:=hx.len;have ly:=hy.len;by_cases hl:n=m
 ·subst hl;have HD:=ag (λ(h:¬xs=ys)=>(decide_eq_false h:decide (xs=ys)=false));have HE:=ag (λ(h:xs=ys)=>(decide_eq_true h:decide (xs=ys)=true));have LX:=ag lx;have LY:=ag ly;generalize decide (xs=ys)=D at*;clear hx hy lx ly
  go_in
  go_wp2
  go_loopw [5,13] (λ_ i wr=>∃k:Nat,k<=n/\i= .int .i64 k/\xs.take k=ys.take k/\Below w.heap.size w wr) (λ_ i _=>n-(intOf i).toNat)
  case atStart=>exact⟨0,ae,rfl,rfl,Below.refl _ _⟩
  case round=>
   obtain⟨k,hk,rfl,ht,hb⟩:=hrel;have HT:=ag ht;have HB:=ag hb;clear ht hb;by_cases aU:k<n
   ·obtain⟨b1,o1,iy,rfl,NZ,vT⟩:=(HX.o.below HB.o).QQ aU;obtain⟨b2,o2,fA,rfl,ao0,F6⟩:=(HY.o.below HB.o).QQ aU;rw[Aw] at vT F6;have t1:=ag (List.take_succ_eq_append_getElem iy);have t2:=ag (List.take_succ_eq_append_getElem fA);have HG:=ag (λ(h:xs=ys)=>(by subst h;rfl:xs[k]=ys[k]));have g1:(0:Int)<=(k:Int):=ae;have g2:(k:Int)<(n:Int):=ae;generalize xs[k]=x at*;generalize ys[k]=y at*;by_cases he:x=y
    ·subst he;have g3:(x==x)=true:=au;go_wp2_with fail
     go_quiet (fail)
     go_wp2;go_roundw
     case rel=>exact⟨k+1,ae,by go_num,by rw[t1.o,t2.o,HT.o],HB.o.trans (below_drewN _ _)⟩
     case measure=>simp[intOf];omega
    ·have g3:(x==y)=false:=by simpa using he
     have hd:=ag (HD.o (λh=>he (HG.o h)));clear he;go_wp2_with fail
     go_quiet (fail)
     go_wp2;go_ret;exact⟨by rw[hd.o];rfl,HB.o.trans (below_drewN _ _)⟩
   ·obtain rfl:k=n:=ae;have hd:=ag (HE.o (by have h:=HT.o;rw[List.take_of_length_le (by rw[LX.o];omega),List.take_of_length_le (by rw[LY.o];omega)] at h;exact h));go_wp2;go_ret;exact⟨by rw[hd.o];rfl,HB.o⟩
 ·have g1:((n:Int)==(m:Int))=false:=by rw[beq_eq_false_iff_ne];omega
  have g2:((n:Int) !=(m:Int))=true:=by rw[bne_iff_ne];omega
  rw[decide_eq_false (show¬xs=ys from λe=>hl (by rw[<-lx,<-ly,e]))];clear hx hy lx ly hl
  go_in
  go_wp2;go_ret;exact⟨rfl,Below.refl _ _⟩
theorem Au (a b:Option Addr) (n m c d:Nat) (xs ys:List (List UInt8)) (w:World) (hx:jg jV w w.heap.size a n xs) (hy:jg jV w w.heap.size b m ys) (ve:n<=c):
  Calls prog 48 #[.slice a n c,.slice b m d] w λe w'=>e= .returned (.bool (bV.xM xs ys))/\Below w.heap.size w w':=by
 have lx:=hx.len;have ly:=hy.len;unfold bV.xM;rw[lx,ly];by_cases h:m<n
 ·have hc:=ag (QR a b m m c d (xs.take m) ys w (hx.take ae) hy);have g1:decide ((m:Int)<(n:Int))=true:=decide_eq_true ae;have g2:=ags a n c m ae;rw[show decide (m<n/\xs.take m=ys)=decide (xs.take m=ys) by rw[Bool.eq_iff_iff,decide_eq_true_iff,decide_eq_true_iff];exact⟨λh=>h.2,λh'=>⟨h,h'⟩⟩];generalize decide (xs.take m=ys)=D at*;clear hx hy lx ly
  go_in
  go_wp2_with fail;refine hc.o.mono ?_;rintro e w1 ⟨rfl,hb⟩;have HB:=ag hb;clear hb;go_wp2;exact bodyPost_ret (v:= .bool D) (by simp[results,Tryz.results48,go_sem]) rfl ⟨rfl,HB.o⟩
 ·have g1:decide ((m:Int)<(n:Int))=false:=decide_eq_false ae;have g2:decide (m<n)=false:=decide_eq_false h;have g3:n<=m:=ae;rw[decide_eq_false (λh'=>h h'.1)];clear hx hy lx ly h
  go_in
  go_wp2;go_ret;exact⟨rfl,Below.refl _ _⟩
end
section

namespace jZ
def dg:Nat->Nat->List UInt8
 |0,n=>[UInt8.ofNat (48+n)]
 |m+1,n=>if n<10 then[UInt8.ofNat (48+n)] else dg m (n/10)++[UInt8.ofNat (48+n%10)]
def nmL (b:UInt8):List UInt8:=dg 2 b.toNat
def aT (xs:List (List UInt8)):List UInt8:=(xs.map (47::·)).flatten
theorem Ea (xs ys:List (List UInt8)):aT (xs++ys)=aT xs++aT ys:=by unfold aT;simp
theorem Eb (x:List UInt8):aT [x]=47::x:=by simp[aT]
theorem Vw {x:List UInt8} (h:bV.nameB x=true):x≠[]/\∀c∈x,c≠47:=by simp only[bV.nameB,Bool.and_eq_true,Bool.not_eq_true',decide_eq_true_eq] at h;obtain⟨⟨⟨⟨h1,_⟩,_⟩,_⟩,h2⟩:=h;refine⟨by simpa using h1,λc hc=>?_⟩;have:=List.all_eq_true.1 h2 c hc;unfold bV.rZ at this;simp only[Bool.and_eq_true,Bool.not_eq_true',beq_eq_false_iff_ne] at this;exact this.2
theorem N7 (x t cu:List UInt8) (h:∀c∈x,c≠47):bV.oD cu (x++t)=bV.oD (cu++x) t:=by
 induction x generalizing cu with
 |nil=>rw[List.nil_append,List.append_nil]
 |cons c r ih=>
  rw[List.cons_append,bV.oD,if_neg (h c au),ih _ (λy hy=>h y (by simp[hy])),List.append_assoc,List.singleton_append]
theorem yO (xs:List (List UInt8)) (cu:List UInt8) (h:∀x∈xs,bV.nameB x=true):bV.oD cu (aT xs)=bV.opt cu++xs:=by
 induction xs generalizing cu with
 |nil=>show bV.opt cu=_;rw[List.append_nil]
 |cons x t ih=>
  have hx:=Vw (h x au);show bV.oD cu ((47::x)++aT t)=_;rw[List.cons_append,bV.oD,if_pos rfl,N7 x _ _ hx.2,ih _ λy hy=>h y (by simp[hy]),List.nil_append];unfold bV.opt;rw[if_neg hx.1];rfl
theorem zt {xs:List (List UInt8)} (h:∀x∈xs,bV.nameB x=true) (h0:xs≠[]) (h16:xs.length<=16) (hl:(aT xs).length<=255):bV.parse (aT xs)=(xs,0):=by
 have hp:bV.parts (aT xs)=xs:=yO xs [] h;obtain⟨x,t,rfl⟩:=List.exists_cons_of_ne_nil h0;unfold bV.parse;rw[if_neg (λe=>by
  rcases e with e|e|e
  ·simp[aT] at e
  ·omega
  ·exact e rfl),hp,if_pos (bV.LM _ h h16)]
theorem Vm {xs:List (List UInt8)} (h:∀x∈xs,bV.nameB x=true) (h17:xs.length=17) (hl:(aT xs).length<=255):(bV.parse (aT xs)).2=30:=by
 have hp:bV.parts (aT xs)=xs:=yO xs [] h;obtain⟨x,t,rfl⟩:=List.exists_cons_of_ne_nil (l:=xs) (by intro e;rw[e] at h17;cases h17);have hc:bV.chk 0 (x::t)=30:=by
  have e:x::t=(x::t).take 16++[(x::t)[16]'ae]:=by rw[<-List.take_succ_eq_append_getElem ae,List.take_of_length_le ae]
  exact bV.QS (pre:=(x::t).take 16) (x:=(x::t)[16]'ae) ⟨[],by rw[List.append_nil];exact e.symm⟩ (λy hy=>h y (List.mem_of_mem_take hy)) (by rw[List.length_take];omega) (h _ (List.getElem_mem _))
 unfold bV.parse;rw[if_neg (λe=>by
  rcases e with e|e|e
  ·simp[aT] at e
  ·omega
  ·exact e rfl),hp,hc]
 rfl
theorem aoA:∀b:UInt8,bV.nameB (nmL b)=true/\(nmL b).length<=3/\nmL b≠[109,111,118,101,100]:=by intro b;have h:∀n,n<256->bV.nameB (dg 2 n)=true/\(dg 2 n).length<=3/\dg 2 n≠[109,111,118,101,100]:=lH;exact h b.toNat b.toNat_lt
end jZ
end
section
open Go.RowKit

theorem akq {n:Nat} (h:n<10):∀m,jZ.dg m n=[UInt8.ofNat (48+n)]
 |0=>rfl
 |_+1=>if_pos h
theorem Vx:∀m n,(jZ.dg m n).length<=m+1
 |0,_=>Nat.le_refl _
 |m+1,n=>by
  unfold jZ.dg
  split
  ·exact Nat.succ_le_succ (Nat.zero_le _)
  ·rw[List.length_append];exact Nat.succ_le_succ (Vx m _)
theorem su {n:Nat} (h:n<10) (m:Nat) (w:World):Calls prog 11 #[.int .i64 n] w λe w'=>e= .returned (.string (aJ (jZ.dg m n)))/\Below w.heap.size w w':=by
 obtain⟨b,hb⟩:=bu (UInt8.ofNat (48+n));have ht:jZ.dg m n=[b]:=by rw[hb];exact akq h m
 have jq:#[Value.int .u8 (48+(n:Int))]=([b].map aH).toArray:=by rw[hb,List.map_cons,List.map_nil,<-G5 (48+n) ae];rfl
 have hx:Bytes (w.alloc (.cells #[.int .u8 (48+(n:Int))] 5)) (w.alloc (.cells #[.int .u8 (48+(n:Int))] 5)).heap.size (some ⟨w.heap.size,0,none⟩) 1 [b]:=jg.lit w 5 [b] 1 rfl ae jq;have hcv:=aiU (c:=1) hx;have HB:=ag ((Below.refl w.heap.size w).alloc (Nat.le_refl _) (.cells #[.int .u8 (48+(n:Int))] 5));have g1:(n:Int)<10:=ae;have q1:=IntWalk.i64_in (48+(n:Int)) ⟨ae,ae⟩;have q2:=IntWalk.u8_in (48+(n:Int)) ⟨ae,ae⟩;rw[ht];clear hx jq ht h hb
 go_in
 go_wp2_with fail;go_ret;exact⟨rfl,HB.o⟩
theorem N8 (m:Nat) (hm:m<10) {n:Nat} (hn:n<10^(m+1)) (J5:n<100000) (w:World):Calls prog 11 #[.int .i64 n] w λe w'=>e= .returned (.string (aJ (jZ.dg m n)))/\Below w.heap.size w w':=by
 induction m generalizing n w with
 |zero=>exact su (by simpa using hn) 0 w
 |succ m ih=>
  by_cases h1:n<10
  ·exact su h1 _ w
  ·have ht:jZ.dg (m+1) n=jZ.dg m (n/10)++jZ.dg 0 (n%10):=if_neg h1;rw[ht];have hp:n/10<10^(m+1):=by rw[Nat.pow_succ] at hn;omega
   have HA:=ag (λw:World=>ih ae hp ae w);have HC:=ag (λw:World=>su (n:=n%10) ae 0 w);have g1:¬(n:Int)<10:=ae;have q1:IntKind.i64.wrap ((n:Int)/10)=((n/10:Nat):Int):=by rw[show(n:Int)/10=((n/10:Nat):Int) from ae];exact IntWalk.i64_in _ ⟨ae,ae⟩
   have q2:(n:Int)%10=((n%10:Nat):Int):=ae;have l1:=Vx m (n/10);have l2:=Vx 0 (n%10);have hl:(jZ.dg m (n/10)).length+(jZ.dg 0 (n%10)).length<=1000:=ae;generalize jZ.dg m (n/10)=xs at*;generalize jZ.dg 0 (n%10)=ys at*;generalize n/10=p at*;generalize n%10=q at*;clear ht hn J5 h1 ih hp l1 l2
   go_in
   go_wp2_with fail;refine(HA.o w).mono ?_;rintro e w1 ⟨rfl,bK⟩;have dw:=ag bK;clear bK;go_wp2_with fail;refine(HC.o w1).mono ?_;rintro e w2 ⟨rfl,aW⟩;have dA:=ag (dw.o.ay aW);clear aW;go_wp2_with fail;go_ret;exact⟨rfl,dA.o⟩
theorem Ag (b:UInt8) (w:World):Calls prog 11 #[.int .i64 (b.toNat:Int)] w λe w'=>e= .returned (.string (aJ (jZ.nmL b)))/\Below w.heap.size w w':=by have:=b.toNat_lt;exact N8 2 ae ae ae w
end
section
open Go.RowKit Go.Maps Go.ChangeMaps eX eu

section
variable {B X T Z:Nat} {Q:Nat->Prop} {w w':World} {f:Fm} {s:Ps} {xs:List (List UInt8)} {ns:Nat->Nat} {l:List UInt8}
theorem LH (hp:bV.parse l=(xs,0)) (h0:xs≠[]):bV.uA l=(xs.dropLast,xs.getLast?.getD [],0):=by unfold bV.uA;rw[hp,if_pos rfl,if_neg h0]
theorem Vy (hp:(bV.parse l).2≠0):bV.uA l=([],[],(bV.parse l).2):=by unfold bV.uA;rw[if_neg hp]
theorem qo (h:iQ B Q w X T Z f s) (hl:l.length<=140737488351232) (hp:bV.parse l=(xs,0)) (h0:xs≠[]) (hx:xs.length<=100) (hy:Way s xs.dropLast ns):
  Calls prog 44 #[X,.string (aJ l)] w λe w'=>e= .returned (.tuple #[.int .i64 (ns xs.dropLast.length:Int),.string (aJ (xs.getLast?.getD [])),.int .i64 0])/\bT 32 B Q w' Z f s/\Kq Q w w':=by
 have HS:=ag (wu l w hl);unfold GX at HS;rw[LH hp h0] at HS;have HW:=ag (λ(W:World) (hW:iQ B Q W X T Z f s) (a:Option Addr) (c:Nat) (xN:Own jV 9 W 0 (.slice a xs.dropLast.length c) xs.dropLast) (hxq:∀q,(Value.slice a xs.dropLast.length c).ownBlock=some q->¬Q q)=>yP hW.hP hW.hT hW.nT hy xN hxq (by rw[List.length_dropLast];omega));have HH:=ag h;have c1:=h.c1;generalize xs.getLast?.getD []=nm at*;generalize xs.dropLast=ys at*;clear h hl hp h0 hx hy
 go_in
 go_wp2_with fail;refine HS.o.mono ?_;rintro e w1 ⟨⟨a,n,c,rfl,ho,ve⟩,bK⟩;have hlen:ys.length=n:=by
  obtain⟨a',c',e,_⟩:=ho.form;injection e with _ e _
  exact e.symm
 subst hlen;have uZ:=ag (HH.o.on bK);have HO:=ag (ho.mono (Nat.zero_le _));have HOq:=ag (show∀q,(Value.slice a ys.length c).ownBlock=some q->¬Q q from λq hq=>HH.o.hP.aV (ho.aP q hq).1);have dw:=ag bK;have c1:=uZ.o.c1;clear ho bK HS;go_wp2_with fail;refine(HW.o w1 uZ.o a c HO.o HOq.o).mono ?_;rintro e w2 ⟨rfl,iU,fA⟩;have pF:=ag iU;have rD:=ag ((Kq.of dw.o).trans fA);clear iU fA;go_wp2;go_ret3;exact⟨rfl,pF.o,rD.o⟩
theorem Az (w:World) (hl:l.length<=140737488351232) {E:Int} (hp:(bV.parse l).2=E) (hE:E≠0):
  Calls prog 44 #[X,.string (aJ l)] w λe w'=>e= .returned (.tuple #[.int .i64 0,.string (aJ []),.int .i64 E])/\Below w.heap.size w w':=by
 have HS:=ag (wu l w hl);unfold GX at HS;rw[Vy (by rw[hp];exact hE),hp] at HS;have g1:(E !=0)=true:=by simpa using hE
 have g2:(E==0)=false:=by simpa using hE
 clear hl hp hE
 go_in
 go_wp2_with fail;refine HS.o.mono ?_;rintro e w1 ⟨⟨a,n,c,rfl,ho,ve⟩,bK⟩;have dw:=ag bK;clear ho bK HS;go_wp2;go_ret3;exact⟨rfl,dw.o⟩
theorem EZ {fi:Nf} {Xd:List UInt8} (h:iQ B Q w X T Z f s) (hl:l.length<=140737488351232) (hp:bV.parse l=(xs,0)) (hx:xs.length<=100) (hy:Way s xs ns) (hd:jh s (ns xs.length) fi Xd):
  Calls prog 55 #[X,.string (aJ l)] w λe w'=>e= .returned (.tuple #[.int .i64 (ns xs.length:Int),.agg (dG fi),.int .i64 0])/\bT 32 B Q w' Z f s/\Kq Q w w':=by
 have QI:=vW l (w.alloc (.cells #[.int .i64 0,.int .i64 0,.int .i64 0,.int .i64 0,.int .i64 0,.int .i64 0,.int .i64 0,.int .i64 0,.int .i64 0,.int .i64 0,.int .i64 0] 107)) hl;unfold GK at QI;rw[hp] at QI;have XU:=ag QI;have qY:=ag (aF.new w 107 #[.int .i64 0,.int .i64 0,.int .i64 0,.int .i64 0,.int .i64 0,.int .i64 0,.int .i64 0,.int .i64 0,.int .i64 0,.int .i64 0,.int .i64 0]);have fF:=(Below.refl w.heap.size w).alloc (Nat.le_refl _) (.cells #[.int .i64 0,.int .i64 0,.int .i64 0,.int .i64 0,.int .i64 0,.int .i64 0,.int .i64 0,.int .i64 0,.int .i64 0,.int .i64 0,.int .i64 0] 107);have GH:=ag (h.on fF);have iC:=ag fF;have C9:=ag (h.hP.aV (Nat.le_refl w.heap.size));have HW:=ag (λ(W:World) (hW:iQ B Q W X T Z f s) (a:Option Addr) (c:Nat) (xN:Own jV 9 W 0 (.slice a xs.length c) xs) (hxq:∀q,(Value.slice a xs.length c).ownBlock=some q->¬Q q)=>yP hW.hP hW.hT hW.nT hy xN hxq hx);obtain⟨no,hno⟩:=bu (ns xs.length);rw[<-hno] at HW hd⊢;have HI:=ag (show∀W:World,bT 32 B Q W Z f s->oV W T Z->Calls prog 79 #[T,.int .i64 no] W λe w'=>e= .returned (.tuple #[.agg (dG fi),.int .i64 0])/\bT 32 B Q w' Z f s/\Kq Q W w' from λW hW hT=>by have h:=jC hW hT hd.lo hd.hi hd.big hd.pg;rw[hd.nd,hd.er] at h;exact h);have QT:=ag h.hP.bnd;clear h hl hp hx hy hd QI fF hno
 go_in
 go_wp2_with fail;obtain⟨Rp,NT⟩:=bu w.heap.size;rw[<-NT] at qY C9⊢;have NS:=ag (show w.heap.size<=Rp from ae);clear NT;generalize w.alloc (.cells #[.int .i64 0,.int .i64 0,.int .i64 0,.int .i64 0,.int .i64 0,.int .i64 0,.int .i64 0,.int .i64 0,.int .i64 0,.int .i64 0,.int .i64 0] 107)=w0 at*;refine XU.o.mono ?_;rintro e w1 ⟨⟨v,rfl,ho⟩,bK⟩;obtain⟨a,c,rfl,hc⟩:=ho.form;have HO:=ag (ho.mono (Nat.zero_le _));have HOq:=ag (show∀q,(Value.slice a xs.length c).ownBlock=some q->¬Q q from λq hq=>λh=>by have:=(ho.aP q hq).1;have:=(QT.o q h).2;have:=iC.o.size;omega);have uZ:=ag (GH.o.on bK);have yA:=ag (qY.o.ah bK);have mF:=ag (show Kq Q w w1 from Kq.of (iC.o.ay bK));have c1:=uZ.o.c1;clear ho bK XU;go_wp2_with fail;refine(HW.o w1 uZ.o a c HO.o HOq.o).mono ?_;rintro e w2 ⟨rfl,iU,fA⟩;have JB:=ag (uZ.o.ask iU fA);have oQ:=ag (yA.o.kq fA C9.o);have rD:=ag (mF.o.trans fA);have c1:=JB.o.c1;clear iU fA;go_wp2_with fail;refine(HI.o w2 JB.o.hP JB.o.hT).mono ?_;rintro e w3 ⟨rfl,oq,jY⟩;have QG:=ag (JB.o.ask oq jY);have rC:=ag (oQ.o.kq jY C9.o);have jU:=ag (rD.o.trans jY);clear oq jY;have qZ:=ag (aF.new w3 107 #[.int .i64 0,.int .i64 0,.int .i64 0,.int .i64 0,.int .i64 0,.int .i64 0,.int .i64 0,.int .i64 0,.int .i64 0,.int .i64 0,.int .i64 0]);obtain⟨w4,yz⟩:=bu ((w3.alloc (.cells #[.int .i64 0,.int .i64 0,.int .i64 0,.int .i64 0,.int .i64 0,.int .i64 0,.int .i64 0,.int .i64 0,.int .i64 0,.int .i64 0,.int .i64 0] 107)).setRow w3.heap.size (dG fi));have di:Below w3.heap.size w3 w4:=by rw[yz];exact((Below.refl _ w3).alloc (Nat.le_refl _) _).cO (Nat.le_refl _) _
 have hi4:aF w4 w3.heap.size 107 (dG fi):=by rw[yz];exact qZ.o.row _
 have UW:=ag yz;have HH4:=ag (QG.o.on di);have UX:=ag (rC.o.ah di);have mY:=ag (jU.o.on di);have ack:=ag (show Rp≠w3.heap.size from by have:=rC.o.lt;omega);have Df:=ag hi4;clear yz di hi4 QG rC jU;unfold dG at UW
 go_upto_region 8 with(refine aC rfl rfl _ _ _ rfl w3.heap.size #[.int .i64 fi.k,.int .i64 fi.l,.int .i64 fi.s,.int .i64 (nd fi 0),.int .i64 (nd fi 1),.int .i64 (nd fi 2),.int .i64 (nd fi 3),.int .i64 (nd fi 4),.int .i64 (nd fi 5),.int .i64 (fi.io.s:Int),.int .i64 (fi.io.b:Int)] rfl rfl 107 #[.int .i64 0,.int .i64 0,.int .i64 0,.int .i64 0,.int .i64 0,.int .i64 0,.int .i64 0,.int .i64 0,.int .i64 0,.int .i64 0,.int .i64 0] qZ.o rfl dD (qm fi) ?_;rw[<-UW.o])
 obtain⟨Ib,hIb⟩:=bu w3.heap.size;rw[<-hIb] at Df ack⊢;clear hIb UW qZ;have pV:=ag (show Below w4.heap.size w4 w4.drew from ak w4);have HIf:=ag (λW (h1:aF W Ib 107 (dG fi))=>h1);refine iT (λW'=>aF W' Ib 107 (dG fi)) (HIf.o _ (Df.o.ah pV.o)) (λbJ=>?_);have F5:=ag (UX.o.ah pV.o);have Qm:=ag (Df.o.ah pV.o);have GH:=ag (HH4.o.on pV.o);have HK0:=ag (mY.o.on pV.o);generalize w4.drew=W0 at*;refine eF 0 (no:Int) ?_;refine jy 1 (.agg #[.int .i64 fi.k,.int .i64 fi.l,.int .i64 fi.s,.int .i64 (nd fi 0),.int .i64 (nd fi 1),.int .i64 (nd fi 2),.int .i64 (nd fi 3),.int .i64 (nd fi 4),.int .i64 (nd fi 5),.int .i64 (fi.io.s:Int),.int .i64 (fi.io.b:Int)]) rfl (λ_ aI=>by obtain⟨y0,y1,y2,y3,y4,y5,y6,y7,y8,y9,zu⟩:=fG aI;go_simp) ?_;refine eF 2 0 ?_;refine eF 3 (no:Int) ?_;refine dm 4 (λK' hK=>?_);refine uz rfl _ _ _ rfl Rp (dG fi) rfl rfl 107 _ F5.o dD rfl (qm fi) ?_;obtain⟨w6,xJ⟩:=bu (W0.setRow Rp (dG fi));rw[<-xJ];have lI:Kq (λq=>q=Rp) W0 w6:=by rw[xJ];exact eU _ _ _
 have QH:=ag (show aF w6 Rp 107 (dG fi) from by rw[xJ];exact F5.o.row _);have EW:=ag (Qm.o.kq lI ack.o.symm);refine hK.out _ _ (HIf.o _ EW.o) (λrE=>?_)
 try simp only[aO]
 refine eF 5 0 ?_;refine gB ?_;have Y6:=ag (GH.o.hP.kq lI λq hq e=>C9.o (e▸hq));have uu:=ag (HK0.o.ay lI λq hq=> .inr (by rw[hq];exact NS.o));clear xJ lI bJ rE;go_wp2;refine bodyPost_ret (vX rfl _ _ Rp _ _ _ _ rfl QH.o Tryz.underlying107 rfl dD _ _ rfl rfl) rfl ?_;exact⟨rfl,Y6.o,uu.o⟩
end
end
section

namespace Dir
theorem Zc {b y nm:List UInt8} (hb:Good b) (hy:Good y)
  (h1:∀j,j<cnt b->used b j->lu b j=nm->∃i,i<cnt y/\used y i/\lu y i=nm/\(rd y i).1.i=(rd b j).1.i)
  (h2:∀i,i<cnt y->used y i->lu y i=nm->∃j,j<cnt b/\used b j/\lu b j=nm):(bY y nm).2=(bY b nm).2:=by
 by_cases h:∃j,j<cnt b/\used b j/\lu b j=nm
 ·obtain⟨j,q1,q2,q3⟩:=h;obtain⟨i,r1,r2,r3,r4⟩:=h1 j q1 q2 q3;rw[xR hb q1 q2 q3,xR hy r1 r2 r3];exact r4
 ·rw[AA (λj q1 q2 q3=>h ⟨j,q1,q2,q3⟩),AA (λi q1 q2 q3=>h (h2 i q1 q2 q3))]
theorem dR:zeros.length=16:=by simp[zeros]
theorem Vz:gK zeros=(none_,false,0):=aB
theorem Zd {b:List UInt8} (m:Nat):∃t,t<=m/\gU b m=b.take (16*t)/\(∀j,t<=j->j<m->tN (bD b j)=true)/\(t=0\/tN (bD b (t-1))=false):=by
 induction m with
 |zero=>exact⟨0,ae,by simp[gU],λj h1 h2=>ae,.inl rfl⟩
 |succ m ih=>
  rw[gU];by_cases h:tN (bD b m)=true
  ·obtain⟨t,h1,h2,h3,h4⟩:=ih;rw[if_pos h];refine⟨t,ae,h2,λj q1 q2=>?_,h4⟩;by_cases hj:j=m
   ·subst hj;exact h
   ·exact h3 j q1 ae
  ·rw[if_neg h];exact⟨m+1,ae,rfl,λj q1 q2=>ae,.inr (by rw[Nat.add_sub_cancel];simpa using h)⟩
theorem acx {b:List UInt8} {k:Nat} (h:(rd b k).2.2=0) (hz:tN (bD b k)=false):used b k:=by
 unfold used;unfold rd gK at h⊢;by_cases h1:(bD b k).length≠16
 ·rw[if_pos h1] at h;cases h
 ·rw[if_neg h1] at h⊢;have hz':¬tN (bD b k)=true:=by rw[hz];simp
  rw[if_neg hz'] at h⊢;by_cases h2:13<Di (bD b k)
  ·rw[if_pos h2] at h;cases h
  ·rw[if_neg h2] at h⊢;by_cases h3:aY (Fa (bD b k))=0/\bD b k=slotL (Fa (bD b k))
   ·rw[if_pos h3]
   ·rw[if_neg h3] at h;cases h
theorem acy {b nm:List UInt8} (h:iK b nm=0):Good b/\fU b nm<cnt b/\used b (fU b nm)/\lu b (fU b nm)=nm:=by
 obtain⟨h1,h2,h3,h4⟩:=named_ok h;obtain⟨k,q1,q2,q3,q4⟩:=X4 h2;have:fU b nm=k:=by rw[q4] at h3;simp only at h3;omega
 rw[this];exact⟨lJ.1 h1,q1,q2,q3⟩
theorem yQ {b nm:List UInt8} (h:iK b nm=0):
  jQ (jb b nm)=true/\(bY (jb b nm) nm).1= -1/\∀other,other≠nm->(bY (jb b nm) other).2=(bY b other).2:=by
 obtain⟨hg,hk,hu,hn⟩:=acy h;unfold jb;generalize fU b nm=k at*;have hcn:cnt (bC b k zeros)=cnt b:=by unfold cnt;rw[nz hk dR]
 have n1:rd (bC b k zeros) k=(none_,false,0):=by unfold rd;rw[QU hk dR];exact Vz
 have n2:∀j,j<cnt b->j≠k->rd (bC b k zeros) j=rd b j:=λj hj dh=>by unfold rd;rw[Dj hk dR hj dh]
 have n3:∀j,j<cnt b->j≠k->bD (bC b k zeros) j=bD b j:=λj hj dh=>Dj hk dR hj dh;have Jy:(bC b k zeros).length=b.length:=nz hk dR;obtain⟨t,t1,t2,t3,t4⟩:=Zd (b:=bC b k zeros) (cnt b);rw[t2];have hly:((bC b k zeros).take (16*t)).length=16*t:=by rw[List.length_take,Jy,hg.len];omega
 have hcy:cnt ((bC b k zeros).take (16*t))=t:=by unfold cnt;rw[hly];omega
 have ry:∀j,j<t->rd ((bC b k zeros).take (16*t)) j=rd (bC b k zeros) j:=λj hj=>by unfold rd;rw[Eh hj]
 have uy:∀j,j<t->used ((bC b k zeros).take (16*t)) j->j≠k/\rd ((bC b k zeros).take (16*t)) j=rd b j:=λj hj hv=>by
  unfold used at hv;rw[ry j hj] at hv;have Ze:j≠k:=by intro he;subst he;rw[n1] at hv;cases hv
  exact⟨Ze,(ry j hj).trans (n2 j ae Ze)⟩
 have hy:Good ((bC b k zeros).take (16*t)):=by
  refine⟨by rw[hly,hcy],λj hj=>?_,λi j hij hj hv hw=>?_,?_⟩
  ·rw[hcy] at hj;rw[ry j hj];by_cases Ze:j=k
   ·rw[Ze,n1]
   ·rw[n2 j ae Ze];exact hg.err j ae
  ·rw[hcy] at hj;obtain⟨_,e1⟩:=uy i ae hv;obtain⟨_,e2⟩:=uy j hj hw;unfold used lu at*;rw[e1] at hv⊢;rw[e2] at hw⊢;exact hg.apart i j hij ae hv hw
  ·rw[hcy];by_cases ht:t=0
   ·exact .inl ht
   ·right;have hz:tN (bD (bC b k zeros) (t-1))=false:=by rcases t4 with h|h;exact absurd h ht;exact h
    unfold used;rw[ry _ ae];refine acx ?_ hz;by_cases Ze:t-1=k
    ·rw[Ze,n1]
    ·rw[n2 _ ae Ze];exact hg.err _ ae
 refine⟨lJ.2 hy,?_,λother dh=>Zc hg hy (λj q1 q2 q3=>?_) (λi q1 q2 q3=>?_)⟩
 ·rw[AA];intro j hj hv;rw[hcy] at hj;obtain⟨Ze,e1⟩:=uy j hj hv;unfold used lu at*;rw[e1] at hv⊢;rw[<-hn];rcases Nat.lt_or_ge j k with aU|Fb
  ·exact hg.apart j k aU hk hv hu
  ·exact λhe=>hg.apart k j ae ae hu hv he.symm
 ·have Ze:j≠k:=by intro he;subst he;exact dh (q3.symm.trans hn)
  have hjt:j<t:=by
   rcases Nat.lt_or_ge j t with aU|Fb
   ·exact aU
   ·have:=t3 j Fb q1;rw[n3 j q1 Ze,sD q2] at this;cases this
  have e1:=(ry j hjt).trans (n2 j q1 Ze);refine⟨j,by rw[hcy];exact hjt,?_,?_,by rw[e1]⟩
  ·unfold used;rw[e1];exact q2
  ·unfold lu;rw[e1];exact q3
 ·rw[hcy] at q1;obtain⟨Ze,e1⟩:=uy i q1 q2;unfold used lu at*;rw[e1] at q2 q3;exact⟨i,ae,q2,q3⟩
end Dir
end
section

namespace Dir
variable {e e1 e2:ny} {nm:List UInt8} {r:Nat}
theorem QV (h:aY e=0):QW [] e=0:=by have hg:jQ []=true:=aB;unfold QW;rw[if_pos hg,if_pos h,if_neg (by rw[show bY [] e.nm=(-1,0) from rfl];decide)]
theorem acz (h:uB [] r):r=0:=Nat.le_zero.1 h.2.1
theorem VA:uB [] 0:=⟨by unfold N9;omega,Nat.le_refl _,λh=>absurd h aB⟩
theorem kS (h:aY e=0):Added [] e 0 (slotL e):=by
 have:=added (QV h) VA
 rwa [show uC [] e 0=slotL e from by unfold uC;rw[if_pos (show 0=cnt [] from rfl),List.nil_append]] at this
theorem ql (h:aY e=0):(slotL e).length=16:=tV e (kT ((jB e).1 h).2).2
theorem xU (h:aY e=0):cnt (slotL e)=1:=by unfold cnt;rw[ql h]
theorem Gz (h:aY e=0):bY (slotL e) e.nm=(0,e.i):=by have ha:=kS h;rw[xR ha.good ha.here (nm:=e.nm) (by unfold used;rw[ha.new]) (by unfold lu;rw[ha.new]),ha.new];rfl
theorem GU (h:aY e=0) (hn:nm≠e.nm):bY (slotL e) nm=(-1,0):=by have ha:=kS h;refine AA λj q1 q2 q3=>?_;have:=xU h;obtain rfl:j=0:=ae;unfold lu at q3;rw[ha.new] at q3;exact hn q3.symm
theorem ace (h:aY e=0):tX (slotL e)=[(0,e)]:=by have ha:=kS h;unfold tX;rw[xU h];simp[dI,ha.new]
theorem acA (h:aY e=0):jQ (slotL e)=true:=lJ.2 (kS h).good
theorem QK (h1:aY e1=0) (h2:aY e2=0) (hn:e2.nm≠e1.nm):QW (slotL e1) e2=0:=by unfold QW;rw[if_pos (acA h1),if_pos h2,if_neg (by rw[GU h1 hn];decide)]
theorem acg (h:aY e=0) (hr:uB (slotL e) r):r=1:=by
 have hc:=xU h;have h2:=hr.2.1;have h3:=hr.2.2;have ha:=kS h;rcases Nat.lt_or_ge r 1 with h4|h4
 ·obtain rfl:r=0:=ae;exact absurd (show used (slotL e) 0 from by unfold used;rw[ha.new]) (sF (h3 ae))
 ·omega
theorem VB (h:aY e=0):uB (slotL e) 1:=by
 have hc:=xU h;have ha:=kS h;refine⟨λj hj=>?_,ae,λh=>ae⟩;obtain rfl:j=0:=ae
 cases hz:tN (bD (slotL e) 0) with
 |false=>rfl
 |true=>exact absurd (show used (slotL e) 0 from by unfold used;rw[ha.new]) (sF hz)
theorem LP (h1:aY e1=0) (h2:aY e2=0) (hn:e2.nm≠e1.nm):Added (slotL e1) e2 1 (slotL e1++slotL e2):=by
 have:=added (QK h1 h2 hn) (VB h1)
 rwa [show uC (slotL e1) e2 1=slotL e1++slotL e2 from by unfold uC;rw[xU h1,if_pos rfl]] at this
theorem X5 (h1:aY e1=0) (h2:aY e2=0):cnt (slotL e1++slotL e2)=2:=by unfold cnt;rw[List.length_append,ql h1,ql h2]
theorem Dc (h1:aY e1=0) (h2:aY e2=0) (hn:e2.nm≠e1.nm):bY (slotL e1++slotL e2) e1.nm=(0,e1.i):=by have ha:=LP h1 h2 hn;have hb:=kS h1;have hr:=ha.old 0 (by rw[xU h1];omega) ae;rw[hb.new] at hr;rw[xR ha.good (k:=0) (by rw[X5 h1 h2];omega) (by unfold used;rw[hr]) (by unfold lu;rw[hr]),hr];rfl
theorem xO (h1:aY e1=0) (h2:aY e2=0) (hn:e2.nm≠e1.nm):iK (slotL e1++slotL e2) e1.nm=0:=by unfold iK;rw[if_pos (lJ.2 (LP h1 h2 hn).good),Dc h1 h2 hn,if_pos (Int.le_refl 0)]
theorem wo (h1:aY e1=0) (h2:aY e2=0) (hn:e2.nm≠e1.nm):jb (slotL e1++slotL e2) e1.nm=zeros++slotL e2:=by
 have hk:fU (slotL e1++slotL e2) e1.nm=0:=by unfold fU;rw[if_pos (xO h1 h2 hn),Dc h1 h2 hn];rfl
 have hp:bC (slotL e1++slotL e2) 0 zeros=zeros++slotL e2:=by unfold bC;rw[Nat.mul_zero,List.take_zero,List.nil_append,Nat.zero_add,List.drop_left' (ql h1)]
 have hs:bD (zeros++slotL e2) 1=slotL e2:=by unfold bD;rw[List.drop_left' dR,List.take_of_length_le (Nat.le_of_eq (ql h2))]
 have hz:tN (slotL e2)=false:=by
  cases hz:tN (slotL e2) with
  |false=>rfl
  |true=>
   have hb:=kS h2;have e0:bD (slotL e2) 0=slotL e2:=by unfold bD;rw[Nat.mul_zero,List.drop_zero,List.take_of_length_le (Nat.le_of_eq (ql h2))]
   exact absurd (show used (slotL e2) 0 from by unfold used;rw[hb.new]) (sF (by rw[e0];exact hz))
 unfold jb;rw[hk,hp,X5 h1 h2,gU,hs,hz,if_neg aB,List.take_of_length_le (by rw[List.length_append,dR,ql h2];omega)]
theorem Y8 (h1:aY e1=0) (h2:aY e2=0) (hn:e2.nm≠e1.nm):(bY (zeros++slotL e2) e1.nm).1= -1:=by rw[<-wo h1 h2 hn];exact(yQ (xO h1 h2 hn)).2.1
theorem Y7 (h1:aY e1=0) (h2:aY e2=0) (hn:e2.nm≠e1.nm):bY (zeros++slotL e2) e2.nm=(1,e2.i):=by
 have hg:=lJ.1 (yQ (xO h1 h2 hn)).1;rw[wo h1 h2 hn] at hg;have hs:bD (zeros++slotL e2) 1=slotL e2:=by unfold bD;rw[List.drop_left' dR,List.take_of_length_le (Nat.le_of_eq (ql h2))]
 have hr:rd (zeros++slotL e2) 1=(e2,true,0):=by unfold rd;rw[hs];exact G6 e2 h2
 rw[xR hg (k:=1) (by unfold cnt;rw[List.length_append,dR,ql h2];omega) (by unfold used;rw[hr]) (by unfold lu;rw[hr]),hr];rfl
end Dir
namespace jZ
def lq:List UInt8:=[109,111,118,101,100]
theorem jI:Dir.aY ⟨2,lq⟩=0:=aB
end jZ
end
section
open Go.RowKit Go.Maps Go.ChangeMaps eX eu jZ

section
variable {B X T Z k:Nat} {Q:Nat->Prop} {w w':World} {f:Fm} {s:Ps} {Xs:Nat->List UInt8} {nm:List UInt8} {xs:List (List UInt8)} {ns:Nat->Nat} {l:List UInt8}
theorem Zf (d:jZ.Dp k Xs s) (hk:k<=15):(∀j,1<=j->j<k+2->wB s j=0/\(ind s j).k≠0)/\wB s (k+2)=0/\(ind s (k+2)).k=0:=by
 refine⟨λj h1 h2=>?_,?_⟩
 ·obtain⟨a1,a2⟩:=d.tb j h1 ae;refine⟨a2,?_⟩;rw[a1];unfold rX;rw[if_pos ae];show(2:Int)≠0;decide
 ·obtain⟨a1,a2⟩:=d.tb (k+2) ae ae;refine⟨a2,?_⟩;rw[a1];unfold rX;rw[if_neg ae];rfl
theorem Ob (h:iQ B Q w X T Z f s) (d:jZ.Dp k Xs s) (hk:k<=15) (hw:Dir.aY ⟨(k:Int)+2,nm⟩=0):
  Calls prog 46 #[X,.int .i64 ((k:Int)+1),.string (aJ nm),.int .i64 2] w λe w'=>e= .returned (.tuple #[.int .i64 ((k:Int)+2),.int .i64 0])/\Ee B Q w w' X T Z f (mkS k (Dir.slotL ⟨(k:Int)+2,nm⟩) s):=by
 have pU:=Dir.ql hw;obtain⟨hF,hM⟩:=Zf d hk;obtain⟨p1,t1,d1⟩:=d.mk_ hk pU;have acB:=d.pg.ino;have htb:=d.pg.tb;have HMk:=ag (show Calls prog 94 #[T,.int .i64 2] w λe w'=>e= .returned (.tuple #[.int .i64 ((k:Int)+2),.int .i64 0])/\jJ 32 B Q w w' Z f (dX s (k+2) ⟨2,0,0,0,0,0,0,0,0,0,0⟩) from
  J6 (m:=k+2) (kd:=2) (.inr rfl) h.hP h.hT h.nT ae ae ae ae hF hM)
 obtain⟨s1,iO⟩:=bu (dX s (k+2) ⟨2,0,0,0,0,0,0,0,0,0,0⟩);unfold mkS;rw[<-iO] at HMk p1 t1⊢;have hX:Xs (k+1-1)=[]:=d.pg.no k (Nat.le_refl _);have dk:jh s1 (k+1) (dN 1 0 0) []:=by have h:=jZ.vV (n:=k+1) (l:=1) (p:=0) p1 t1 ae ae (by unfold JC rX;rw[if_neg ae,if_pos ae,if_neg ae]) (by rw[if_neg ae]);rw[hX] at h;exact h
 have hnx:=p1.nx (k:=k) ae;have hus:=p1.len;have g:=acD (p:=11+k) (sl:=Dir.slotL ⟨(k:Int)+2,nm⟩) (l:=1) hnx pU ae p1.ok (by rw[p1.tb,p1.np];omega) (by rw[hus,p1.np];omega);have ao1:Dir.slotL ⟨(k:Int)+2,nm⟩++List.replicate 48 0=pad (Dir.slotL ⟨(k:Int)+2,nm⟩):=by unfold pad;rw[pU]
 rw[ao1] at g;have HAd:=ag (λ(W:World) (U:Nat->Prop) (hW:iQ B U W X T Z f s1)=>show Calls prog 52 #[T,.int .i64 ((k:Int)+1),.string (aJ nm),.int .i64 ((k:Int)+2)] W λe w'=>e= .returned (.int .i64 0)/\jJ 32 B U W w' Z f (dX ((s1.add (11+k)).put (11+k) (pad (Dir.slotL ⟨(k:Int)+2,nm⟩))) (k+1) (aX (dN 1 16 (11+k)))) from
  Aq (n:=k+1) (XV:=k+2) (r:=0) hW.hP hW.hT hW.nT dk nm ae (by rw[p1.ino];omega) (Dir.QV hw) (λr' hr=>Dir.acz hr) ae g)
 obtain⟨s2,mr⟩:∃s2,s2=dX ((s1.add (11+k)).put (11+k) (pad (Dir.slotL ⟨(k:Int)+2,nm⟩))) (k+1) (aX (dN 1 16 (11+k))):=⟨_,rfl⟩
 rw[<-mr] at HAd⊢;have hi2:s2.ino=20:=by rw[mr];exact p1.ino
 have ht2:s2.tb=10:=by rw[mr];exact p1.tb
 have HSe:=ag (λ(W:World) (U:Nat->Prop) (hW:iQ B U W X T Z f s2)=>show Calls prog 81 #[T,.int .i64 ((k:Int)+2),.agg #[.int .i64 2,.int .i64 1,.int .i64 0,.int .i64 0,.int .i64 0,.int .i64 0,.int .i64 0,.int .i64 0,.int .i64 0,.int .i64 0,.int .i64 0]] W λe w'=>e= .returned (.int .i64 0)/\jJ 32 B U W w' Z f (dX s2 (k+2) (aX (dN 1 0 0))) from
  lK (n:=k+2) hW.hP hW.hT hW.nT ae ae ae ae (aX (dN 1 0 0)) (vZ (l:=1) (z:=0) (p:=0) ae ae ae))
 have HH:=ag h;have c1:=h.c1;clear h d hk hw pU hF hM p1 t1 d1 acB htb iO hX dk hnx hus g ao1 mr hi2 ht2
 go_in
 go_wp2_with fail;refine HMk.o.mono ?_;rintro e w1 ⟨rfl,Dh⟩;have yA:=ag (HH.o.ofR Dh rfl);have c1:=yA.o.1.c1;clear Dh HMk;go_wp2_with fail;refine(HAd.o w1 _ yA.o.1).mono ?_;rintro e w2 ⟨rfl,iU⟩;have oQ:=ag (yA.o.ay (yA.o.1.ofR iU rfl) HH.o.ltT HH.o.ltX);have c1:=oQ.o.1.c1;clear iU HAd;go_wp2_with fail;refine(HSe.o w2 _ oQ.o.1).mono ?_;rintro e w3 ⟨rfl,oq⟩;have rC:=ag (oQ.o.ay (oQ.o.1.ofR oq rfl) HH.o.ltT HH.o.ltX);clear oq HSe;go_wp2;go_ret2;exact⟨rfl,rC.o⟩
def acb (B:Nat) (Q:Nat->Prop) (w:World) (X T Z:Nat) (s0:Ps) (P:Fm->Prop) (e:Ending) (w':World):Prop:=e= .returned (.int .i64 0)/\∃f',P f'/\Ee B Q w w' X T Z f' s0
theorem JW {s0:Ps} {P:Fm->Prop} (h:iQ B Q w X T Z f s) (CG:Calls prog 32 #[X] w (acb B Q w X T Z s0 P)) (d:jZ.Dp k Xs s0) (hk:k<=15)
  (hl:l.length<=140737488351232) (hp:bV.parse l=(xs,0)) (h0:xs≠[]) (hx:xs.length<=100) (hy:Way s0 xs.dropLast ns) (hn:ns xs.dropLast.length=k+1) (NV:xs.getLast?.getD []=nm) (hw:Dir.aY ⟨(k:Int)+2,nm⟩=0):
  Calls prog 18 #[X,.string (aJ l)] w λe w'=>e= .returned (.int .i64 0)/\∃f',P f'/\Ee B Q w w' X T Z f' (mkS k (Dir.slotL ⟨(k:Int)+2,nm⟩) s0):=by
 have HPa:=ag (λ(W:World) (U:Nat->Prop) (g:Fm) (hW:iQ B U W X T Z g s0)=>show Calls prog 44 #[X,.string (aJ l)] W λe w'=>e= .returned (.tuple #[.int .i64 ((k:Int)+1),.string (aJ nm),.int .i64 0])/\bT 32 B U w' Z g s0/\Kq U W w' from by have h:=qo hW hl hp h0 hx hy;rw[hn,NV] at h;exact h);have hX:Xs (k+1-1)=[]:=d.pg.no k (Nat.le_refl _);have dk:jh s0 (k+1) (dN 1 0 0) []:=by have h:=jZ.Dp.vV (n:=k+1) d ae ae ae;rw[hX,if_neg ae] at h;exact h
 have HFi:=ag (λ(W:World) (U:Nat->Prop) (g:Fm) (hW:iQ B U W X T Z g s0)=>show Calls prog 45 #[T,.int .i64 ((k:Int)+1),.string (aJ nm)] W λe w'=>e= .returned (.tuple #[.int .i64 0,.int .i64 60])/\bT 32 B U w' Z g s0/\Kq U W w' from ou hW.hP hW.hT hW.nT dk nm (by rw[show Dir.bY [] nm=(-1,0) from rfl];decide));have HMa:=ag (λ(W:World) (U:Nat->Prop) (g:Fm) (hW:iQ B U W X T Z g s0)=>Ob hW d hk hw);have HCh:=ag CG;have HH:=ag h;clear h CG d hk hl hp h0 hx hy hn NV hw hX dk
 go_in
 go_wp2_with fail;refine HCh.o.mono ?_;rintro e w1 ⟨rfl,f1,XW,LJ⟩;have HPf:=ag XW;have yA:=ag LJ;clear LJ XW;go_wp2_with fail;refine(HPa.o w1 _ f1 yA.o.1).mono ?_;rintro e w2 ⟨rfl,iU,fA⟩;have oQ:=ag (yA.o.ay (yA.o.1.NQ iU fA) HH.o.ltT HH.o.ltX);have c1:=oQ.o.1.c1;clear iU fA;go_wp2_with fail;refine(HFi.o w2 _ f1 oQ.o.1).mono ?_;rintro e w3 ⟨rfl,oq,jY⟩;have rC:=ag (oQ.o.ay (oQ.o.1.NQ oq jY) HH.o.ltT HH.o.ltX);clear oq jY;go_wp2_with fail;refine(HMa.o w3 _ f1 rC.o.1).mono ?_;rintro e w4 ⟨rfl,hr4⟩;have UX:=ag (rC.o.ay hr4 HH.o.ltT HH.o.ltX);clear hr4;go_wp2;go_ret;exact⟨rfl,f1,HPf.o,UX.o⟩
theorem CY {s0:Ps} {P:Fm->Prop} (CG:Calls prog 32 #[X] w (acb B Q w X T Z s0 P)) (h:iQ B Q w X T Z f s)
  (hl:l.length<=140737488351232) (hp:(bV.parse l).2=30):
  Calls prog 18 #[X,.string (aJ l)] w λe w'=>e= .returned (.int .i64 30)/\∃f',P f'/\Ee B Q w w' X T Z f' s0:=by
 have HPa:=ag (λW=>Az (X:=X) W hl hp aB);have HCh:=ag CG;have HH:=ag h;clear h CG hl hp
 go_in
 go_wp2_with fail;refine HCh.o.mono ?_;rintro e w1 ⟨rfl,f1,XW,LJ⟩;have HPf:=ag XW;have yA:=ag LJ;clear LJ XW;go_wp2_with fail;refine(HPa.o w1).mono ?_;rintro e w2 ⟨rfl,aW⟩;have oQ:=ag (yA.o.on aW HH.o);clear aW;go_wp2;go_ret;exact⟨rfl,f1,HPf.o,oQ.o⟩
end
end
end Go.Proofs.YtnieckfelfoopaaGreat

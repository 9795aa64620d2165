import Derived.Test.YtnieckfelfoopaaGreatTopGap
import Derived.StillTailTactics
import Derived.Deep.DeepCutAuto
open Go.Proofs.Tryz (prog)
namespace Go.Proofs.YtnieckfelfoopaaGreat
open Lib (hid)
set_option maxRecDepth 100000
set_option maxHeartbeats 16000000
open Go.RowKit

theorem Jf (p:Bk->Bool) (lt:Bk->Bk->Bool) (F G:Value) (fm fb:Nat) (cm cb:Array Value) (hF:F= .func (.func fm) #[] cm) (hG:G= .func (.func fb) #[] cb) (a:Option Addr) (n c:Nat) (l:List Bk) (w:World) (hx:jv 4 PN w w.heap.size a n l) (hn:n<=1000)
  (i1:∀args w,(callFunc fm args).run prog w= .ok (.enter fm args) w) (i2:∀args w,(callFunc fb args).run prog w= .ok (.enter fb args) w)
  (hm:∀w' x,Below w.heap.size w w'->x∈l->Calls prog fm (#[TK x]++cm) w' λe w''=>e= .returned (.bool (p x))/\Below w'.heap.size w' w'')
  (hb:∀w' x y,Below w.heap.size w w'->x∈l->y∈l->Calls prog fb (#[TK x,TK y]++cb) w' λe w''=>e= .returned (.bool (lt x y))/\Below w'.heap.size w' w''):
  Calls prog 254 #[.slice a n c,F,G] w λe w'=>e= .returned (.int .i64 (Gc.oI (Gc.best p lt l n)))/\Below w.heap.size w w':=by
 have HM:=ag hm;have HB:=ag hb;have HX:=ag hx;have hlen:=hx.len;subst hF hG;clear hm hb hx;have jq:=Gs
 go_in
 go_wp2
 go_loopw [7,8,9,12] (λv _ _ i wr=>∃k:Nat,k<=n/\i= .int .i64 k/\v= .int .i64 (Gc.oI (Gc.best p lt l k))/\Below w.heap.size w wr) (λ_ _ _ i _=>n-(intOf i).toNat)
 case atStart=>exact⟨0,ae,rfl,rfl,Below.refl _ _⟩
 case round=>
  obtain⟨k,hk,rfl,rfl,hb⟩:=hrel;have vH:=ag hb;clear hb;by_cases aU:k<n
  ·obtain⟨b,o,rfl,kF,c0,c1,c2,c3⟩:=Nl (HX.o.below vH.o) (k:=k) aU;have hk0:(0:Int)<=(k:Int):=ae;have iy:(k:Int)<(n:Int):=ae;have Am:=getD_mem (l:=l) (k:=k) ae;generalize hXe:Gc.at_ l k=x at*;go_upto_region 5 with fail;have SI:=ag (aF.new wr 296 #[.int .i64 (x.st:Int),.int .i64 (x.live:Int),.int .i64 (x.aQ:Int),.int .i64 (x.nx:Int)]);have dw:=ag (vH.o.alloc vH.o.size (.cells #[.int .i64 (x.st:Int),.int .i64 (x.live:Int),.int .i64 (x.aQ:Int),.int .i64 (x.nx:Int)] 296));generalize wr.heap.size=g at*;generalize wr.alloc _=w1 at*;have gJ:=ag (show Below w.heap.size w w1.drew/\aF w1.drew g 296 #[.int .i64 (x.st:Int),.int .i64 (x.live:Int),.int .i64 (x.aQ:Int),.int .i64 (x.nx:Int)] from⟨dw.o.drew,SI.o⟩);clear c0 c1 c2 c3;have hE:Gc.best p lt l (k+1)=match Gc.best p lt l k with
    |none=>if p x then some k else none
    |some a=>if p x&&lt x (Gc.at_ l a) then some k else some a:=by subst hXe;rfl
   cases hp:p x
   ·have HE:=ag (show Gc.best p lt l (k+1)=Gc.best p lt l k by rw[hE,hp];cases Gc.best p lt l k<;>rfl);clear hE;refine iT (λW'=>Below w.heap.size w W'/\aF W' g 296 #[.int .i64 (x.st:Int),.int .i64 (x.live:Int),.int .i64 (x.aQ:Int),.int .i64 (x.nx:Int)]) gJ.o (λbJ=>?_);refine fB 0 (.func (.func fm) #[] cm) ?_;refine jy 1 (TK x) rfl (λ_ aI=>by have y0:=aI.2.aj (i:=0) rfl;have y1:=aI.2.aj (i:=1) rfl;have y2:=aI.2.aj (i:=2) rfl;have y3:=aI.2.aj (i:=3) rfl;go_simp) ?_;refine dm 2 (λK' hK=>?_);go_simp;refine(HM.o w1.drew x gJ.o.1 Am).mono ?_;rintro e w2 ⟨rfl,aW⟩;rw[hp];have dH:Below w.heap.size w w2/\aF w2 g 296 #[.int .i64 (x.st:Int),.int .i64 (x.live:Int),.int .i64 (x.aQ:Int),.int .i64 (x.nx:Int)]:=⟨gJ.o.1.ay aW,gJ.o.2.ah aW⟩
    refine hK.out _ _ dH (λgm=>?_)
    try simp only[aO]
    refine fE 3 (.bool false) ?_;refine rM 4 ?_;refine rM 5 ?_;refine rM 6 ?_;refine rM 7 ?_;refine rM 8 ?_;refine rM 9 ?_;refine rM 10 ?_;refine rM 11 ?_;refine rM 12 ?_;refine rM 13 ?_;refine rM 14 ?_;refine fE 15 (.bool false) ?_;refine gB ?_;have PQ:=ag gm.1;clear bJ dH gm;go_wp2_with fail;go_roundw
    case rel=>exact⟨k+1,ae,by go_num,(congrArg (λo=>Value.int .i64 (Gc.oI o)) HE.o).symm,PQ.o⟩
    case measure=>simp[intOf];omega
   ·cases ho:Gc.best p lt l k with
    |none=>
     have HE:=ag (show Gc.best p lt l (k+1)=some k by rw[hE,hp,ho];rfl);clear hE;have aaE:Gc.oI none= -1:=rfl;rw[aaE];refine iT (λW'=>Below w.heap.size w W'/\aF W' g 296 #[.int .i64 (x.st:Int),.int .i64 (x.live:Int),.int .i64 (x.aQ:Int),.int .i64 (x.nx:Int)]) gJ.o (λbJ=>?_);refine fB 0 (.func (.func fm) #[] cm) ?_;refine jy 1 (TK x) rfl (λ_ aI=>by have y0:=aI.2.aj (i:=0) rfl;have y1:=aI.2.aj (i:=1) rfl;have y2:=aI.2.aj (i:=2) rfl;have y3:=aI.2.aj (i:=3) rfl;go_simp) ?_;refine dm 2 (λK' hK=>?_);go_simp;refine(HM.o w1.drew x gJ.o.1 Am).mono ?_;rintro e w2 ⟨rfl,aW⟩;rw[hp];have dH:Below w.heap.size w w2/\aF w2 g 296 #[.int .i64 (x.st:Int),.int .i64 (x.live:Int),.int .i64 (x.aQ:Int),.int .i64 (x.nx:Int)]:=⟨gJ.o.1.ay aW,gJ.o.2.ah aW⟩
     refine hK.out _ _ dH (λgm=>?_)
     try simp only[aO]
     refine fE 3 (.bool true) ?_;refine ik 4 (-1) ?_;refine fE 5 (.bool true) ?_;refine fE 6 (.bool true) ?_;refine rM 7 ?_;refine rM 8 ?_;refine rM 9 ?_;refine rM 10 ?_;refine rM 11 ?_;refine rM 12 ?_;refine rM 13 ?_;refine fE 14 (.bool true) ?_;refine fE 15 (.bool true) ?_;refine gB ?_;have PQ:=ag gm.1;clear bJ dH gm;go_wp2_with fail;go_roundw
     case rel=>exact⟨k+1,ae,by go_num,(congrArg (λo=>Value.int .i64 (Gc.oI o)) HE.o).symm,PQ.o⟩
     case measure=>simp[intOf];omega
    |some q=>
     have hq:q<k:=(Gc.gZ ho).1;have TQ:Gc.oI (some q)=(q:Int):=rfl;have hnn:decide ((q:Int)<0)=false:=decide_eq_false ae;have hq0:(0:Int)<=(q:Int):=ae;have ED:(q:Int)<(n:Int):=ae;have HY:=ag (λ(W':World) (hW:Below w.heap.size w W')=>Nl (HX.o.below hW) (k:=q) ae);have hmy:=getD_mem (l:=l) (k:=q) ae;rw[TQ];generalize hYe:Gc.at_ l q=y at*;have hE2:Gc.best p lt l (k+1)=if lt x y then some k else some q:=by rw[hE,hp,ho];show(if (true&&lt x (Gc.at_ l q))=true then some k else some q)=_;rw[hYe,Bool.true_and]
     have HE:=ag hE2;clear hE hE2;refine iT (λW'=>Below w.heap.size w W'/\aF W' g 296 #[.int .i64 (x.st:Int),.int .i64 (x.live:Int),.int .i64 (x.aQ:Int),.int .i64 (x.nx:Int)]) gJ.o (λbJ=>?_);refine fB 0 (.func (.func fm) #[] cm) ?_;refine jy 1 (TK x) rfl (λ_ aI=>by have y0:=aI.2.aj (i:=0) rfl;have y1:=aI.2.aj (i:=1) rfl;have y2:=aI.2.aj (i:=2) rfl;have y3:=aI.2.aj (i:=3) rfl;go_simp) ?_;refine dm 2 (λK' hK=>?_);go_simp;refine(HM.o w1.drew x gJ.o.1 Am).mono ?_;rintro e w2 ⟨rfl,aW⟩;rw[hp];have dH:Below w.heap.size w w2/\aF w2 g 296 #[.int .i64 (x.st:Int),.int .i64 (x.live:Int),.int .i64 (x.aQ:Int),.int .i64 (x.nx:Int)]:=⟨gJ.o.1.ay aW,gJ.o.2.ah aW⟩
     refine hK.out _ _ dH (λgm=>?_)
     try simp only[aO]
     refine fE 3 (.bool true) ?_;refine ik 4 (q:Int) ?_;refine fE 5 (.bool false) ?_;refine fE 6 (.bool false) ?_;refine fB 7 (.func (.func fb) #[] cb) ?_;refine jy 8 (TK x) rfl (λ_ aI=>by have y0:=aI.2.aj (i:=0) rfl;have y1:=aI.2.aj (i:=1) rfl;have y2:=aI.2.aj (i:=2) rfl;have y3:=aI.2.aj (i:=3) rfl;go_simp) ?_;refine fB 9 (.slice (some ⟨b,o,none⟩) n c) ?_;refine eF 10 (q:Int) ?_;refine aS 11 b (o+q*4) ?_;refine jy 12 (TK y) rfl (λ_ aI=>by obtain⟨b',o',he,_,y0,y1,y2,y3⟩:=HY.o _ aI.1;injection he with he;injection he with he1 he2;subst he1 he2;go_simp) ?_;refine dm 13 (λK' hK=>?_);go_simp;refine(HB.o w2 x y gm.1 Am hmy).mono ?_;rintro e w3 ⟨rfl,bQ⟩;have kD:Below w.heap.size w w3/\aF w3 g 296 #[.int .i64 (x.st:Int),.int .i64 (x.live:Int),.int .i64 (x.aQ:Int),.int .i64 (x.nx:Int)]:=⟨gm.1.ay bQ,gm.2.ah bQ⟩
     refine hK.out _ _ kD (λrY=>?_)
     try simp only[aO]
     refine fE 14 (.bool (lt x y)) ?_;refine fE 15 (.bool (lt x y)) ?_;refine gB ?_;have PQ:=ag rY.1;clear bJ dH gm kD rY
     cases hl:lt x y
     ·rw[hl,if_neg au] at HE;go_wp2_with fail;go_roundw
      case rel=>exact⟨k+1,ae,by go_num,(congrArg (λo=>Value.int .i64 (Gc.oI o)) HE.o).symm,PQ.o⟩
      case measure=>simp[intOf];omega
     ·rw[hl,if_pos rfl] at HE;go_wp2_with fail;go_roundw
      case rel=>exact⟨k+1,ae,by go_num,(congrArg (λo=>Value.int .i64 (Gc.oI o)) HE.o).symm,PQ.o⟩
      case measure=>simp[intOf];omega
  ·obtain rfl:k=n:=ae;go_wp2_with fail;go_ret;exact⟨rfl,vH.o⟩
end Go.Proofs.YtnieckfelfoopaaGreat

import Derived.Test.YtnieckfelfoopaaGreatInoPoint
import Derived.Test.YtnieckfelfoopaaGreatTagWrite
import Derived.Test.YtnieckfelfoopaaGreatDirWrite
open Go.Proofs.Tryz (prog)
namespace Go.Proofs.YtnieckfelfoopaaGreat
open Lib (hid)
set_option maxRecDepth 100000
set_option maxHeartbeats 16000000
section
open Go.RowKit

theorem Xl (a:Option Addr) (n c:Nat) (w:World) (h:n≠24):
  Calls prog 185 #[.slice a n c] w λe w'=>e= .returned (.tuple #[rq aN.zero,.int .i64 1])/\Below w.heap.size w w':=by
 have h1:((n:Int) !=24)=true:=by rw[bne_iff_ne];omega
 go_in
 go_wp2;refine bodyPost_ret (v:= .tuple #[rq aN.zero,.int .i64 1]) (by simp[results,Tryz.results185,go_sem,rq,aN.zero]) rfl ⟨rfl,?_⟩;exact(Below.refl _ _).alloc (Nat.le_refl _) _
theorem wP (i:aN):(#[.int .i64 i.k,.int .i64 i.l,.int .i64 i.s,.int .i64 i.d0,.int .i64 i.d1,.int .i64 i.d2,.int .i64 i.d3,.int .i64 i.d4,.int .i64 i.d5,.int .i64 i.a,.int .i64 i.b]:Array Value).all (·.oneCell')=true:=by simp[Value.oneCell']
theorem dD:(prog.info? 107).map (·.size)=some 11:=az
def aeE (K L S:Nat) (D:Nat->Nat) (m:Nat):Array Value:=
 #[.int .i64 K, .int .i64 L, .int .i64 S, .int .i64 (if 0 < m then (D 0 : Int) else 0), .int .i64 (if 1 < m then (D 1 : Int) else 0), .int .i64 (if 2 < m then (D 2 : Int) else 0), .int .i64 (if 3 < m then (D 3 : Int) else 0), .int .i64 (if 4 < m then (D 4 : Int) else 0), .int .i64 (if 5 < m then (D 5 : Int) else 0), .int .i64 0, .int .i64 0]
theorem Xm (a:Option Addr) (c:Nat) (xs:List UInt8) (w:World) (hx:Bytes w w.heap.size a 24 xs) (hc:24<=c):
  Calls prog 185 #[.slice a 24 c] w λe w'=>e= .returned (.tuple #[rq (aN.vG xs),.int .i64 (aN.fK xs)])/\Below w.heap.size w w':=by
 have hmf:∀(fn:Fn) (first cap:Array Value) (w:World),(Instr.makeFunc fn first cap).run prog w= .ok (.func fn first cap) w:=λ_ _ _ _=>rfl
 go_in
 obtain⟨w2,jP⟩:=bu ((w.alloc (.cells #[.int .i64 0,.int .i64 0,.int .i64 0,.int .i64 0,.int .i64 0,.int .i64 0,.int .i64 0,.int .i64 0,.int .i64 0,.int .i64 0,.int .i64 0] 107)).alloc (.cells #[.slice a 24 c] 23));have aW:Below w.heap.size w w2:=by rw[jP];exact((Below.refl _ _).alloc (Nat.le_refl _) _).alloc au _
 have yU:w2.heap.size=w.heap.size+2:=by rw[jP];simp
 have bg2:aF w2 w.heap.size 107 #[.int .i64 0,.int .i64 0,.int .i64 0,.int .i64 0,.int .i64 0,.int .i64 0,.int .i64 0,.int .i64 0,.int .i64 0,.int .i64 0,.int .i64 0]:=by rw[jP];exact(aF.new w _ _).alloc _
 have br2:aF w2 (w.heap.size+1) 23 #[.slice a 24 c]:=by have h:=aF.new (w.alloc (.cells #[.int .i64 0,.int .i64 0,.int .i64 0,.int .i64 0,.int .i64 0,.int .i64 0,.int .i64 0,.int .i64 0,.int .i64 0,.int .i64 0,.int .i64 0] 107)) 23 #[.slice a 24 c];rw[show(w.alloc (.cells #[.int .i64 0,.int .i64 0,.int .i64 0,.int .i64 0,.int .i64 0,.int .i64 0,.int .i64 0,.int .i64 0,.int .i64 0,.int .i64 0,.int .i64 0] 107)).heap.size=w.heap.size+1 by simp] at h;rw[jP];exact h
 have Ez:Bytes w2 w.heap.size a 24 (xs.drop 0):=hx.below aW;have hlen:=ag hx.len;go_wp2_with fail;rw[<-jP];clear jP hmf;refine(gV (w.heap.size+1) w.heap.size a 24 c xs 1 23 0 1 w2 br2 Ez hc ae rfl rfl ae).mono ?_;rintro e w3 ⟨rfl,ht⟩;obtain⟨⟨a3,c3,br3,hx3,yR⟩,aes,hz3,aet⟩:=ht;have bg3:=aes ae bg2;have bQ:=aW.trans (aet ae);clear aes aet br2 Ez aW bg2;generalize hK:dY ((xs.drop 0).take 1)=K;have HK:=ag hK;clear hK;obtain⟨w4,yz⟩:=bu (w3.alloc (.cells #[.int .i64 K,.int .i64 0,.int .i64 0,.int .i64 0,.int .i64 0,.int .i64 0,.int .i64 0,.int .i64 0,.int .i64 0,.int .i64 0,.int .i64 0] 107));have TU:Below w3.heap.size w3 w4:=by rw[yz];exact(Below.refl _ _).alloc (Nat.le_refl _) _
 have bg4:=bg3.ah TU;have br4:=br3.ah TU;have hx4:=hx3.below (TU.mono ae);have di:=bQ.trans (TU.mono ae);have hz4:w4.heap.size=w.heap.size+3:=by rw[yz];simp;omega
 have bi4:aF w4 w3.heap.size 107 #[.int .i64 K,.int .i64 0,.int .i64 0,.int .i64 0,.int .i64 0,.int .i64 0,.int .i64 0,.int .i64 0,.int .i64 0,.int .i64 0,.int .i64 0]:=by rw[yz];exact aF.new _ _ _
 clear bg3 br3 hx3 bQ TU;rw[show w3.heap.size=w.heap.size+2 by omega] at bi4;go_wp2_with fail;rw[<-yz];clear yz;refine(gV (w.heap.size+1) w.heap.size a3 23 c3 xs 1 22 1 2 w4 br4 hx4 yR ae rfl rfl ae).mono ?_;rintro e w5 ⟨rfl,ht⟩;obtain⟨⟨a5,c5,br5,YD,QO⟩,aaF,hz5,aeu⟩:=ht;have bg5:=aaF ae bg4;have bi5:=aaF ae bi4;have iP:=di.trans (aeu ae);clear aaF aeu br4 hx4 di bg4 bi4;generalize aaO:dY ((xs.drop 1).take 1)=gap;have ary:=ag aaO;clear aaO;go_wp2_with fail;refine(gV (w.heap.size+1) w.heap.size a5 22 c5 xs 2 20 2 4 w5 br5 YD QO ae rfl rfl ae).mono ?_;rintro e w6 ⟨rfl,ht⟩;obtain⟨⟨a6,c6,br6,ZK,ZJ⟩,aaG,hz6,aev⟩:=ht;have bg6:=aaG ae bg5;have bi6:=aaG ae bi5;have iI:=iP.trans (aev ae);clear aaG aev br5 YD iP bg5 bi5;generalize hL:dY ((xs.drop 2).take 2)=L;have HL:=ag hL;clear hL;go_wp2_with fail;refine(gV (w.heap.size+1) w.heap.size a6 20 c6 xs 4 16 4 8 w6 br6 ZK ZJ ae rfl rfl ae).mono ?_;rintro e w7 ⟨rfl,ht⟩;obtain⟨⟨a7,c7,br7,hx7,hc7⟩,amG,hz7,TV⟩:=ht;have bg7:=amG ae bg6;have bi7:=amG ae bi6;have kC:=iI.trans (TV ae);clear amG TV br6 ZK iI bg6 bi6;generalize hS:dY ((xs.drop 4).take 4)=S;have HS:=ag hS;clear hS;have i1:=bi7.aj (i:=1) rfl;have i2:=bi7.aj (i:=2) rfl;have f1:=bi7.frozen 1;have f2:=bi7.frozen 2;go_wp2;clear i1 i2 f1 f2;obtain⟨D,hD⟩:∃D:Nat->Nat,∀j,D j=dY ((xs.drop (8+2*j)).take 2):=⟨_,λ_=>rfl⟩
 have HD:=ag hD;clear hD;have hI:=ag (show(∃a' c',aF ((w7.setCell ⟨w.heap.size+2,1,none⟩ (.int .i64 L)).setCell ⟨w.heap.size+2,2,none⟩ (.int .i64 S)) (w.heap.size+1) 23 #[.slice a' (16:Nat) c']/\Bytes ((w7.setCell ⟨w.heap.size+2,1,none⟩ (.int .i64 L)).setCell ⟨w.heap.size+2,2,none⟩ (.int .i64 S)) w.heap.size a' 16 (xs.drop 8)/\16<=c') from
  ⟨a7,c7,(br7.far au _).far au _,hx7.below (((Below.refl _ _).setCell au _).setCell au _),hc7⟩)
 have bi8:=ag ((bi7.set 1 (.int .i64 L)).set 2 (.int .i64 S));have bg8:=ag ((bg7.far (p:=⟨w.heap.size+2,1,none⟩) au (.int .i64 L)).far (p:=⟨w.heap.size+2,2,none⟩) au (.int .i64 S));have kQ:=ag ((kC.setCell (p:=⟨w.heap.size+2,1,none⟩) au (.int .i64 L)).setCell (p:=⟨w.heap.size+2,2,none⟩) au (.int .i64 S));clear br7 hx7 bi7 bg7 kC
 go_loopw [8,26] (λ_x i wr=>∃m:Nat,m<=6/\i= .int .i64 m/\aF wr (w.heap.size+2) 107 (aeE K L S D m)/\aF wr w.heap.size 107 #[.int .i64 0,.int .i64 0,.int .i64 0,.int .i64 0,.int .i64 0,.int .i64 0,.int .i64 0,.int .i64 0,.int .i64 0,.int .i64 0,.int .i64 0]/\
   (∃a' c',aF wr (w.heap.size+1) 23 #[.slice a' (16-2*m:Nat) c']/\Bytes wr w.heap.size a' (16-2*m) (xs.drop (8+2*m))/\16-2*m<=c')/\Below w.heap.size w wr/\wr.heap.size=w.heap.size+3) (λ_ i _=>6-(intOf i).toNat)
 case atStart=>exact⟨0,ae,rfl,bi8.o,bg8.o,hI.o,kQ.o,by simp;omega⟩
 case round=>
  obtain⟨m,hm,rfl,bi,bg,⟨a',c',br,xN,Zh⟩,hb,hz⟩:=hrel;have hc:=hm;have hm':m=0\/m=1\/m=2\/m=3\/m=4\/m=5\/m=6:=ae;rcases hm' with rfl|rfl|rfl|rfl|rfl|rfl|rfl
  ·go_wp2_with fail;refine(gV (w.heap.size+1) w.heap.size a' (16-2*0) c' xs 2 (16-2*1) (8+2*0) (8+2*1) wr br xN Zh ae rfl rfl ae).mono ?_;rintro e w9 ⟨rfl,ht⟩;rw[<-HD.o 0];obtain⟨⟨a9,c9,TW,Qx,TY⟩,kN,hz9,qU⟩:=ht;have yG:aF w9 (w.heap.size+2) 107 #[.int .i64 K,.int .i64 L,.int .i64 S,.int .i64 0,.int .i64 0,.int .i64 0,.int .i64 0,.int .i64 0,.int .i64 0,.int .i64 0,.int .i64 0]:=kN ae bi;have TZ:=kN ae bg;have gI:=hb.trans (qU ae);clear kN qU bi bg br xN hb;have i9:=yG.aj (i:=3) rfl;have f9:=yG.frozen 3;go_wp2;go_roundw
   case rel=>exact⟨1,ae,rfl,yG.set 3 _,TZ.far au _,⟨a9,c9,TW.far au _,Qx.below ((Below.refl _ _).setCell au _),TY⟩,gI.setCell au _,by simp;omega⟩
   case measure=>simp[intOf]
  ·go_wp2_with fail;refine(gV (w.heap.size+1) w.heap.size a' (16-2*1) c' xs 2 (16-2*2) (8+2*1) (8+2*2) wr br xN Zh ae rfl rfl ae).mono ?_;rintro e w9 ⟨rfl,ht⟩;rw[<-HD.o 1];obtain⟨⟨a9,c9,TW,Qx,TY⟩,kN,hz9,qU⟩:=ht;have yG:aF w9 (w.heap.size+2) 107 #[.int .i64 K,.int .i64 L,.int .i64 S,.int .i64 (D 0:Int),.int .i64 0,.int .i64 0,.int .i64 0,.int .i64 0,.int .i64 0,.int .i64 0,.int .i64 0]:=kN ae bi;have TZ:=kN ae bg;have gI:=hb.trans (qU ae);clear kN qU bi bg br xN hb;have i9:=yG.aj (i:=4) rfl;have f9:=yG.frozen 4;go_wp2;go_roundw
   case rel=>exact⟨2,ae,rfl,yG.set 4 _,TZ.far au _,⟨a9,c9,TW.far au _,Qx.below ((Below.refl _ _).setCell au _),TY⟩,gI.setCell au _,by simp;omega⟩
   case measure=>simp[intOf]
  ·go_wp2_with fail;refine(gV (w.heap.size+1) w.heap.size a' (16-2*2) c' xs 2 (16-2*3) (8+2*2) (8+2*3) wr br xN Zh ae rfl rfl ae).mono ?_;rintro e w9 ⟨rfl,ht⟩;rw[<-HD.o 2];obtain⟨⟨a9,c9,TW,Qx,TY⟩,kN,hz9,qU⟩:=ht;have yG:aF w9 (w.heap.size+2) 107 #[.int .i64 K,.int .i64 L,.int .i64 S,.int .i64 (D 0:Int),.int .i64 (D 1:Int),.int .i64 0,.int .i64 0,.int .i64 0,.int .i64 0,.int .i64 0,.int .i64 0]:=kN ae bi;have TZ:=kN ae bg;have gI:=hb.trans (qU ae);clear kN qU bi bg br xN hb;have i9:=yG.aj (i:=5) rfl;have f9:=yG.frozen 5;go_wp2;go_roundw
   case rel=>exact⟨3,ae,rfl,yG.set 5 _,TZ.far au _,⟨a9,c9,TW.far au _,Qx.below ((Below.refl _ _).setCell au _),TY⟩,gI.setCell au _,by simp;omega⟩
   case measure=>simp[intOf]
  ·go_wp2_with fail;refine(gV (w.heap.size+1) w.heap.size a' (16-2*3) c' xs 2 (16-2*4) (8+2*3) (8+2*4) wr br xN Zh ae rfl rfl ae).mono ?_;rintro e w9 ⟨rfl,ht⟩;rw[<-HD.o 3];obtain⟨⟨a9,c9,TW,Qx,TY⟩,kN,hz9,qU⟩:=ht;have yG:aF w9 (w.heap.size+2) 107 #[.int .i64 K,.int .i64 L,.int .i64 S,.int .i64 (D 0:Int),.int .i64 (D 1:Int),.int .i64 (D 2:Int),.int .i64 0,.int .i64 0,.int .i64 0,.int .i64 0,.int .i64 0]:=kN ae bi;have TZ:=kN ae bg;have gI:=hb.trans (qU ae);clear kN qU bi bg br xN hb;have i9:=yG.aj (i:=6) rfl;have f9:=yG.frozen 6;go_wp2;go_roundw
   case rel=>exact⟨4,ae,rfl,yG.set 6 _,TZ.far au _,⟨a9,c9,TW.far au _,Qx.below ((Below.refl _ _).setCell au _),TY⟩,gI.setCell au _,by simp;omega⟩
   case measure=>simp[intOf]
  ·go_wp2_with fail;refine(gV (w.heap.size+1) w.heap.size a' (16-2*4) c' xs 2 (16-2*5) (8+2*4) (8+2*5) wr br xN Zh ae rfl rfl ae).mono ?_;rintro e w9 ⟨rfl,ht⟩;rw[<-HD.o 4];obtain⟨⟨a9,c9,TW,Qx,TY⟩,kN,hz9,qU⟩:=ht;have yG:aF w9 (w.heap.size+2) 107 #[.int .i64 K,.int .i64 L,.int .i64 S,.int .i64 (D 0:Int),.int .i64 (D 1:Int),.int .i64 (D 2:Int),.int .i64 (D 3:Int),.int .i64 0,.int .i64 0,.int .i64 0,.int .i64 0]:=kN ae bi;have TZ:=kN ae bg;have gI:=hb.trans (qU ae);clear kN qU bi bg br xN hb;have i9:=yG.aj (i:=7) rfl;have f9:=yG.frozen 7;go_wp2;go_roundw
   case rel=>exact⟨5,ae,rfl,yG.set 7 _,TZ.far au _,⟨a9,c9,TW.far au _,Qx.below ((Below.refl _ _).setCell au _),TY⟩,gI.setCell au _,by simp;omega⟩
   case measure=>simp[intOf]
  ·go_wp2_with fail;refine(gV (w.heap.size+1) w.heap.size a' (16-2*5) c' xs 2 (16-2*6) (8+2*5) (8+2*6) wr br xN Zh ae rfl rfl ae).mono ?_;rintro e w9 ⟨rfl,ht⟩;rw[<-HD.o 5];obtain⟨⟨a9,c9,TW,Qx,TY⟩,kN,hz9,qU⟩:=ht;have yG:aF w9 (w.heap.size+2) 107 #[.int .i64 K,.int .i64 L,.int .i64 S,.int .i64 (D 0:Int),.int .i64 (D 1:Int),.int .i64 (D 2:Int),.int .i64 (D 3:Int),.int .i64 (D 4:Int),.int .i64 0,.int .i64 0,.int .i64 0]:=kN ae bi;have TZ:=kN ae bg;have gI:=hb.trans (qU ae);clear kN qU bi bg br xN hb;have i9:=yG.aj (i:=8) rfl;have f9:=yG.frozen 8;go_wp2;go_roundw
   case rel=>exact⟨6,ae,rfl,yG.set 8 _,TZ.far au _,⟨a9,c9,TW.far au _,Qx.below ((Below.refl _ _).setCell au _),TY⟩,gI.setCell au _,by simp;omega⟩
   case measure=>simp[intOf]
  ·go_wp2_with fail;refine(gV (w.heap.size+1) w.heap.size a' (16-2*6) c' xs 2 2 (8+2*6) 22 wr br xN Zh ae rfl rfl ae).mono ?_;rintro e w9 ⟨rfl,ht⟩;obtain⟨⟨a9,c9,TW,Qx,TY⟩,kN,hz9,qU⟩:=ht;have yG:aF w9 (w.heap.size+2) 107 #[.int .i64 K,.int .i64 L,.int .i64 S,.int .i64 (D 0:Int),.int .i64 (D 1:Int),.int .i64 (D 2:Int),.int .i64 (D 3:Int),.int .i64 (D 4:Int),.int .i64 (D 5:Int),.int .i64 0,.int .i64 0]:=kN ae bi;have TZ:=kN ae bg;have gI:=hb.trans (qU ae);clear kN qU bi bg br xN hb;generalize hA:dY ((xs.drop (8+2*6)).take 2)=A;have HA:=ag hA;clear hA;go_wp2_with fail;refine(gV (w.heap.size+1) w.heap.size a9 2 c9 xs 2 0 22 24 w9 TW Qx TY ae rfl rfl ae).mono ?_;rintro e Ig ⟨rfl,ht⟩;obtain⟨⟨a10,c10,aic,aid,aEE⟩,aeF,aEF,ajM⟩:=ht;have PW:=aeF ae yG;have aex:=aeF ae TZ;have A8:=gI.trans (ajM ae);clear aeF ajM yG TZ TW Qx gI aic aid;generalize hE:dY ((xs.drop 22).take 2)=E;have HE:=ag hE;clear hE;have aeA:aF ((Ig.setCell ⟨w.heap.size+2,9,none⟩ (.int .i64 A)).setCell ⟨w.heap.size+2,10,none⟩ (.int .i64 E)) (w.heap.size+2) 107 #[.int .i64 K,.int .i64 L,.int .i64 S,.int .i64 (D 0:Int),.int .i64 (D 1:Int),.int .i64 (D 2:Int),.int .i64 (D 3:Int),.int .i64 (D 4:Int),.int .i64 (D 5:Int),.int .i64 A,.int .i64 E]:=(PW.set 9 _).set 10 _;have aez:=(aex.far (p:=⟨w.heap.size+2,9,none⟩) au (.int .i64 A)).far (p:=⟨w.heap.size+2,10,none⟩) au (.int .i64 E);have aaI:=ag ((A8.setCell (p:=⟨w.heap.size+2,9,none⟩) au (.int .i64 A)).setCell (p:=⟨w.heap.size+2,10,none⟩) au (.int .i64 E));have BI:=ag aeA;have BG:=ag aez;have i9:=PW.aj (i:=9) rfl;have i10:=PW.aj (i:=10) rfl;have f9:=PW.frozen 9;have f10:=PW.frozen 10;have arz:aN.raw xs=⟨K,L,S,D 0,D 1,D 2,D 3,D 4,D 5,A,E⟩:=by simp only[aN.raw,HD.o,<-HK.o,<-HL.o,<-HS.o,<-HA.o,<-HE.o,List.drop_zero]
   have amH:=ag arz;clear arz PW aex A8 aez;by_cases hg:gap=0
   case neg=>
    have Ve:=ag (aN.nN hlen.o (λh=>hg (by rw[<-ary.o];exact h.1)));have hg':((gap:Int) !=0)=true:=by rw[bne_iff_ne];omega
    clear hg
    go_wp2_with (refine aC rfl rfl _ _ _ rfl w.heap.size #[.int .i64 0,.int .i64 0,.int .i64 0,.int .i64 0,.int .i64 0,.int .i64 0,.int .i64 0,.int .i64 0,.int .i64 0,.int .i64 0,.int .i64 0] rfl rfl 107 #[.int .i64 0,.int .i64 0,.int .i64 0,.int .i64 0,.int .i64 0,.int .i64 0,.int .i64 0,.int .i64 0,.int .i64 0,.int .i64 0,.int .i64 0] BG.o rfl dD (wP ⟨0,0,0,0,0,0,0,0,0,0,0⟩) ?_)
    have q:=BG.o.row #[.int .i64 0,.int .i64 0,.int .i64 0,.int .i64 0,.int .i64 0,.int .i64 0,.int .i64 0,.int .i64 0,.int .i64 0,.int .i64 0,.int .i64 0];obtain⟨z0,z1,z2,z3,z4,z5,z6,z7,z8,z9,z10⟩:=q.c11;refine bodyPost_ret (v:= .tuple #[.agg #[.int .i64 0,.int .i64 0,.int .i64 0,.int .i64 0,.int .i64 0,.int .i64 0,.int .i64 0,.int .i64 0,.int .i64 0,.int .i64 0,.int .i64 0],.int .i64 51]) (by simp[results,Tryz.results185,go_sem, *]) rfl ⟨?_,aaI.o.cO (Nat.le_refl _) _⟩;rw[Ve.o.1,Ve.o.2];rfl
   subst hg;obtain⟨y0,y1,y2,y3,y4,y5,y6,y7,y8,y9,zu⟩:=aeA.c11;by_cases hr:aN.Right ⟨K,L,S,D 0,D 1,D 2,D 3,D 4,D 5,A,E⟩
   case neg=>
    have Ve:=ag (aN.nN hlen.o (λh=>hr (by rw[<-amH.o];exact h.2)));have hb:=ag (aN.dJ hr);clear hr;go_wp2_with fail;refine(pJ ⟨K,L,S,D 0,D 1,D 2,D 3,D 4,D 5,A,E⟩ _).mono ?_;rw[hb.o];rintro e w12 ⟨rfl,yE⟩;have BG2:=ag (BG.o.ah yE);have PX:=ag (Below.ay aaI.o yE);clear yE y0 y1 y2 y3 y4 y5 y6 y7 y8 y9 zu
    go_wp2_with (refine aC rfl rfl _ _ _ rfl w.heap.size #[.int .i64 0,.int .i64 0,.int .i64 0,.int .i64 0,.int .i64 0,.int .i64 0,.int .i64 0,.int .i64 0,.int .i64 0,.int .i64 0,.int .i64 0] rfl rfl 107 #[.int .i64 0,.int .i64 0,.int .i64 0,.int .i64 0,.int .i64 0,.int .i64 0,.int .i64 0,.int .i64 0,.int .i64 0,.int .i64 0,.int .i64 0] BG2.o rfl dD (wP ⟨0,0,0,0,0,0,0,0,0,0,0⟩) ?_)
    have q:=BG2.o.row #[.int .i64 0,.int .i64 0,.int .i64 0,.int .i64 0,.int .i64 0,.int .i64 0,.int .i64 0,.int .i64 0,.int .i64 0,.int .i64 0,.int .i64 0];obtain⟨z0,z1,z2,z3,z4,z5,z6,z7,z8,z9,z10⟩:=q.c11;refine bodyPost_ret (v:= .tuple #[.agg #[.int .i64 0,.int .i64 0,.int .i64 0,.int .i64 0,.int .i64 0,.int .i64 0,.int .i64 0,.int .i64 0,.int .i64 0,.int .i64 0,.int .i64 0],.int .i64 51]) (by simp[results,Tryz.results185,go_sem, *]) rfl ⟨?_,PX.o.cO (Nat.le_refl _) _⟩;rw[Ve.o.1,Ve.o.2];rfl
   have Ve:=ag (aN.MQ hlen.o ary.o (by rw[amH.o];exact hr));have hb:=ag (aN.kM hr);clear hr;go_wp2_with fail;refine(pJ ⟨K,L,S,D 0,D 1,D 2,D 3,D 4,D 5,A,E⟩ _).mono ?_;rw[hb.o];rintro e w12 ⟨rfl,yE⟩;have BG2:=ag (BG.o.ah yE);have BI2:=ag (BI.o.ah yE);have PX:=ag (Below.ay aaI.o yE);clear yE y0 y1 y2 y3 y4 y5 y6 y7 y8 y9 zu;obtain⟨y0,y1,y2,y3,y4,y5,y6,y7,y8,y9,zu⟩:=BI2.o.c11
   go_wp2_with (refine aC rfl rfl _ _ _ rfl w.heap.size #[.int .i64 K,.int .i64 L,.int .i64 S,.int .i64 (D 0:Int),.int .i64 (D 1:Int),.int .i64 (D 2:Int),.int .i64 (D 3:Int),.int .i64 (D 4:Int),.int .i64 (D 5:Int),.int .i64 A,.int .i64 E] rfl rfl 107 #[.int .i64 0,.int .i64 0,.int .i64 0,.int .i64 0,.int .i64 0,.int .i64 0,.int .i64 0,.int .i64 0,.int .i64 0,.int .i64 0,.int .i64 0] BG2.o rfl dD (wP ⟨K,L,S,D 0,D 1,D 2,D 3,D 4,D 5,A,E⟩) ?_)
   clear y0 y1 y2 y3 y4 y5 y6 y7 y8 y9 zu;have q:=BG2.o.row #[.int .i64 K,.int .i64 L,.int .i64 S,.int .i64 (D 0:Int),.int .i64 (D 1:Int),.int .i64 (D 2:Int),.int .i64 (D 3:Int),.int .i64 (D 4:Int),.int .i64 (D 5:Int),.int .i64 A,.int .i64 E];obtain⟨z0,z1,z2,z3,z4,z5,z6,z7,z8,z9,z10⟩:=q.c11;refine bodyPost_ret (v:= .tuple #[.agg #[.int .i64 K,.int .i64 L,.int .i64 S,.int .i64 (D 0:Int),.int .i64 (D 1:Int),.int .i64 (D 2:Int),.int .i64 (D 3:Int),.int .i64 (D 4:Int),.int .i64 (D 5:Int),.int .i64 A,.int .i64 E],.int .i64 0]) (by simp[results,Tryz.results185,go_sem, *]) rfl ⟨?_,PX.o.cO (Nat.le_refl _) _⟩;rw[Ve.o.1,Ve.o.2,amH.o]
end
section
open Go.RowKit

theorem Xn (v0:Value) (xs:List UInt8) (X n base:Nat) (w:World) (hX:X<9223372036854775808) (hn:n<=1000) (hl:xs.length<=1000000) (h0:Own aH 5 w base v0 xs) (cZ:base<=w.heap.size):
  Calls prog 241 #[v0,.int .i64 X,.int .i64 n] w λe w'=>(∃v,e= .returned v/\Own aH 5 w' base v (xs++aK X n))/\Below base w w':=by
 have H0:=ag h0;clear h0
 go_in
 go_wp2
 go_loopw [0,1,8] (λv x i wr=>∃k:Nat,k<=n/\i= .int .i64 k/\x= .int .i64 (X/256^k:Nat)/\Own aH 5 wr base v (xs++aK X k)/\Below base w wr) (λ_ _ i _=>n-(intOf i).toNat)
 case atStart=>exact⟨0,ae,rfl,au,by simpa[aK] using H0.o,Below.refl _ _⟩
 case round=>
  obtain⟨k,hk,rfl,rfl,ho,hb⟩:=hrel;have HO:=ag ho;have HB:=ag hb;have ja:=hb.size;have awR:X/256^k<9223372036854775808:=Nat.lt_of_le_of_lt (Nat.div_le_self _ _) hX;have aej:=ag (show X/256^k/256=X/256^(k+1) by rw[Nat.div_div_eq_div_mul,Nat.pow_succ]);have aek:=ag (show(UInt8.ofNat (X/256^k)).toNat=X/256^k%256 by rw[UInt8.toNat_ofNat']);generalize hY:X/256^k=Y at*;have HY:=ag hY;clear ho hb hY;by_cases aU:k<n
  ·have TF:=ag (show#[Value.int .u8 ((Y:Int)%256)]=([UInt8.ofNat Y].map aH).toArray by rw[show((Y:Int)%256)=((Y%256:Nat):Int) by omega,<-aek.o];rfl)
   go_wp2_with (at_builtin;refine rJ rfl _ _ rfl base _ (xs++aK X k) rfl (HO.o.alloc _) _ _ _ _ [UInt8.ofNat Y] rfl (jg.lit wr 5 [UInt8.ofNat Y] 1 rfl ae TF.o) (by rw[List.length_append,bI];omega) (by simp;omega) ?_;intro v1 w1 ael Ae awS)
   go_roundw
   case rel=>
    refine⟨k+1,ae,by go_num,?_,?_,?_⟩
    ·rw[<-aej.o];exact congrArg (Value.int .i64) ae
    ·rw[LU,HY.o,<-List.append_assoc];exact ael
    ·exact jK (HB.o.alloc ae _) (HO.o.alloc _) Ae (by simp;omega)
   case measure=>simp[intOf];omega
  ·obtain rfl:k=n:=ae;go_wp2;go_ret;exact⟨⟨_,rfl,HO.o⟩,HB.o⟩
theorem iG (v0:Value) (xs:List UInt8) (x:Int) (n base:Nat) (w:World) (h1:0<=x) (h2:x<=9223372036854775807) (hn:n<=1000) (hl:xs.length<=1000000) (h0:Own aH 5 w base v0 xs) (cZ:base<=w.heap.size):
  Calls prog 241 #[v0,.int .i64 x,.int .i64 n] w λe w'=>(∃v,e= .returned v/\Own aH 5 w' base v (xs++aK x.toNat n))/\Below base w w':=by
 have h:=Xn v0 xs x.toNat n base w ae hn hl h0 cZ;rw[Int.toNat_of_nonneg h1] at h;exact h
end
section
open Go.RowKit

theorem aaP (i:aN) (w:World) (h:¬aN.Right i):
  Calls prog 195 #[rq i] w λe w'=>e= .returned (.tuple #[.slice none 0 0,.int .i64 51])/\Below w.heap.size w w':=by
 have kF:=ag ((Below.refl w.heap.size w).alloc (Nat.le_refl _) (KN i));have hr:=aN.dJ h
 go_in
 go_wp2_with fail;refine(pJ i _).mono ?_;rintro e w1 ⟨rfl,h_⟩;have HB:=ag h_;clear h_;rw[hr];go_wp2;go_ret2;exact⟨rfl,Below.ay kF.o HB.o⟩
theorem Xo (i:aN) (w:World) (h:aN.Right i):
  Calls prog 195 #[rq i] w λe w'=>(∃v,e= .returned (.tuple #[v,.int .i64 0])/\Own aH 5 w' w.heap.size v i.bytes)/\Below w.heap.size w w':=by
 have kF:=ag ((Below.refl w.heap.size w).alloc (Nat.le_refl _) (KN i));have hr:=aN.kM h;have o7:=aN.Bg h;obtain⟨k,l,s,d0,d1,d2,d3,d4,d5,a,b⟩:=i;simp only[aN.OL,aN.Pg] at o7;obtain⟨⟨k1,k2⟩,⟨l1,l2⟩,⟨s1,s2⟩,⟨⟨x0,y0⟩,⟨x1,y1⟩,⟨x2,y2⟩,⟨x3,y3⟩,⟨x4,y4⟩,⟨x5,y5⟩⟩,⟨x6,y6⟩,⟨x7,y7⟩⟩:=o7;clear h;have bk0:=ag (aF.new w 107 #[.int .i64 k,.int .i64 l,.int .i64 s,.int .i64 d0,.int .i64 d1,.int .i64 d2,.int .i64 d3,.int .i64 d4,.int .i64 d5,.int .i64 a,.int .i64 b])
 go_in
 go_wp2_with fail;refine(pJ ⟨k,l,s,d0,d1,d2,d3,d4,d5,a,b⟩ _).mono ?_;rw[hr];rintro e w1 ⟨rfl,hb⟩;have bk1:=ag (bk0.o.ah hb);have dw:=ag (Below.ay kF.o hb);have aU:=bk1.o.lt;clear hb bk0 kF hr;have q0:=bk1.o.aj (i:=0) rfl;have q1:=bk1.o.aj (i:=1) rfl;have TF:#[Value.int .u8 k,Value.int .u8 0]=([UInt8.ofNat k.toNat,0].map aH).toArray:=by simp only[List.map_cons,List.map_nil,aH,UInt8.toNat_ofNat'];rw[show((k.toNat%2^8:Nat):Int)=k by omega];rfl
 have UZ:Own aH 5 (w1.alloc (.cells #[.int .u8 k,.int .u8 0] 5)) w1.heap.size (.slice (some ⟨w1.heap.size,0,none⟩) 2 2) [UInt8.ofNat k.toNat,0]:=by rw[TF];exact Own.agH rfl rfl (Nat.le_refl _) aB
 have Rj:=ag UZ;clear TF UZ;have aW:=ag (dw.o.alloc dw.o.size (.cells #[.int .u8 k,.int .u8 0] 5));have bk2:=ag (bk1.o.alloc (.cells #[.int .u8 k,.int .u8 0] 5));go_wp2_with fail;refine(iG _ [UInt8.ofNat k.toNat,0] l 2 w1.heap.size _ ae ae ae au Rj.o au).mono ?_;rintro e w3 ⟨⟨aEH,rfl,ho⟩,hb⟩;have aA4:w1.heap.size<w3.heap.size:=by have:=hb.size;simp at this;omega
 have bk3:=ag (bk2.o.below hb ae);have dE:=ag (aW.o.trans (hb.mono ae));generalize hL1:[UInt8.ofNat k.toNat,0]++aK l.toNat 2=L1 at ho;have lL1:L1.length=4:=by rw[<-hL1];simp[bI]
 have rf:=ag ho;have ZC:=ag hL1;clear ho hb hL1 bk2 aW Rj bk1 dw q0 q1;have q2:=bk3.o.aj (i:=2) rfl;go_wp2_with fail;refine(iG _ L1 s 4 w1.heap.size _ ae ae ae ae rf.o ae).mono ?_;rintro e w4 ⟨⟨aEJ,rfl,ho⟩,hb⟩;have aA5:=hb.size;have bk4:=ag (bk3.o.below hb ae);have kL:=ag (dE.o.trans (hb.mono ae));generalize hL2:L1++aK s.toNat 4=L2 at ho;have lL2:L2.length=8:=by rw[<-hL2];simp[bI,lL1]
 have vJ:=ag ho;have Dy:=ag hL2;clear ho hb hL2 bk3 dE rf q2;have q3:=bk4.o.aj (i:=3) rfl;have q4:=bk4.o.aj (i:=4) rfl;have q5:=bk4.o.aj (i:=5) rfl;have q6:=bk4.o.aj (i:=6) rfl;have q7:=bk4.o.aj (i:=7) rfl;have q8:=bk4.o.aj (i:=8) rfl;go_wp2_with fail;clear q3 q4 q5 q6 q7 q8
 go_loopw [4,6,24] (λv _x i wr=>∃m:Nat,m<=6/\i= .int .i64 m/\Own aH 5 wr w1.heap.size v (L2++([d0,d1,d2,d3,d4,d5].take m).flatMap λd=>aK d.toNat 2)/\Below w1.heap.size w4 wr) (λ_ _ i _=>6-(intOf i).toNat)
 case atStart=>exact⟨0,ae,rfl,by simpa using vJ.o,Below.refl _ _⟩
 case round=>
  obtain⟨m,hm,rfl,ho,hb⟩:=hrel;have hsr:=hb.size;have HO:=ag ho;have HB:=ag hb;clear ho hb;have hc:m=0\/m=1\/m=2\/m=3\/m=4\/m=5\/m=6:=ae;rcases hc with rfl|rfl|rfl|rfl|rfl|rfl|rfl
  ·go_wp2_with fail;refine(iG _ _ d0 2 w1.heap.size _ ae ae ae (by simp[lL2]) HO.o ae).mono ?_;rintro e wn ⟨⟨vn,rfl,ho⟩,hb⟩;have Uj:=ag ho;have HBn:=ag (HB.o.trans hb);clear ho hb;go_wp2;go_roundw
   case rel=>exact⟨1,ae,rfl,by simpa using Uj.o,HBn.o⟩
   case measure=>simp[intOf]
  ·go_wp2_with fail;refine(iG _ _ d1 2 w1.heap.size _ ae ae ae (by simp[bI,lL2]) HO.o ae).mono ?_;rintro e wn ⟨⟨vn,rfl,ho⟩,hb⟩;have Uj:=ag ho;have HBn:=ag (HB.o.trans hb);clear ho hb;go_wp2;go_roundw
   case rel=>exact⟨2,ae,rfl,by simpa using Uj.o,HBn.o⟩
   case measure=>simp[intOf]
  ·go_wp2_with fail;refine(iG _ _ d2 2 w1.heap.size _ ae ae ae (by simp[bI,lL2]) HO.o ae).mono ?_;rintro e wn ⟨⟨vn,rfl,ho⟩,hb⟩;have Uj:=ag ho;have HBn:=ag (HB.o.trans hb);clear ho hb;go_wp2;go_roundw
   case rel=>exact⟨3,ae,rfl,by simpa using Uj.o,HBn.o⟩
   case measure=>simp[intOf]
  ·go_wp2_with fail;refine(iG _ _ d3 2 w1.heap.size _ ae ae ae (by simp[bI,lL2]) HO.o ae).mono ?_;rintro e wn ⟨⟨vn,rfl,ho⟩,hb⟩;have Uj:=ag ho;have HBn:=ag (HB.o.trans hb);clear ho hb;go_wp2;go_roundw
   case rel=>exact⟨4,ae,rfl,by simpa using Uj.o,HBn.o⟩
   case measure=>simp[intOf]
  ·go_wp2_with fail;refine(iG _ _ d4 2 w1.heap.size _ ae ae ae (by simp[bI,lL2]) HO.o ae).mono ?_;rintro e wn ⟨⟨vn,rfl,ho⟩,hb⟩;have Uj:=ag ho;have HBn:=ag (HB.o.trans hb);clear ho hb;go_wp2;go_roundw
   case rel=>exact⟨5,ae,rfl,by simpa using Uj.o,HBn.o⟩
   case measure=>simp[intOf]
  ·go_wp2_with fail;refine(iG _ _ d5 2 w1.heap.size _ ae ae ae (by simp[bI,lL2]) HO.o ae).mono ?_;rintro e wn ⟨⟨vn,rfl,ho⟩,hb⟩;have Uj:=ag ho;have HBn:=ag (HB.o.trans hb);clear ho hb;go_wp2;go_roundw
   case rel=>exact⟨6,ae,rfl,by simpa using Uj.o,HBn.o⟩
   case measure=>simp[intOf]
  ·have hs5:w1.heap.size<wr.heap.size:=ae;generalize hL3:(L2++([d0,d1,d2,d3,d4,d5].take 6).flatMap λd=>aK d.toNat 2)=L3 at HO;have lL3:L3.length=20:=by rw[<-hL3];simp[bI,lL2]
   have yD:=ag hL3;have bk5:=ag (bk4.o.below HB.o ae);have pV:=ag (kL.o.trans (HB.o.mono ae));clear hL3 bk4 kL HB vJ;have q9:=bk5.o.aj (i:=9) rfl;go_wp2_with fail;refine(iG _ L3 a 2 w1.heap.size _ ae ae ae ae HO.o ae).mono ?_;rintro e w6 ⟨⟨v6,rfl,ho⟩,hb⟩;have hs6:=hb.size;have bk6:=ag (bk5.o.below hb ae);have vP:=ag (pV.o.trans (hb.mono ae));have Eg:=ag ho;clear ho hb bk5 pV HO q9;have q10:=bk6.o.aj (i:=10) rfl;go_wp2_with fail;refine(iG _ _ b 2 w1.heap.size _ ae ae ae (by simp[bI,lL3]) Eg.o ae).mono ?_;rintro e w7 ⟨⟨v7,rfl,ho⟩,hb⟩;have EC:=ag (vP.o.trans (hb.mono ae));have FM:L3++aK a.toNat 2++aK b.toNat 2=aN.bytes ⟨k,l,s,d0,d1,d2,d3,d4,d5,a,b⟩:=by rw[<-yD.o,<-Dy.o,<-ZC.o];simp[aN.bytes]
   rw[FM] at ho;have vK:=ag (ho.mono (Nat.le_of_lt aU));clear ho hb FM;go_wp2;go_ret2;exact⟨⟨_,rfl,vK.o⟩,EC.o⟩
end
section
open Go.RowKit

theorem Xp (T:Nat) (h:T<256):Value.int .u8 T=aH (UInt8.ofNat T):=by unfold aH;rw[UInt8.toNat_ofNat',Nat.mod_eq_of_lt h]
theorem amJ (T:Nat) (h:T<65536):Value.int .u8 ((T:Int)/256)=aH (UInt8.ofNat (T/256)):=by rw[<-Xp (T/256) ae];exact congrArg (Value.int .u8) ae
end
section
open Go.RowKit

theorem Uk (a:Option Addr) (n c:Nat) (xs:List UInt8) (w:World) (hx:Bytes w w.heap.size a n xs) (hc:n<=c):
  Calls prog 185 #[.slice a n c] w λe w'=>e= .returned (.tuple #[rq (aN.vG xs),.int .i64 (aN.fK xs)])/\Below w.heap.size w w':=by
 by_cases hn:n=24
 ·subst hn;exact Xm a c xs w hx hc
 ·obtain⟨r1,r2⟩:=aN.read_short (xs:=xs) (by rw[hx.len];exact hn);rw[r1,r2];exact Xl a n c w hn
namespace aN
def kK (i:aN):List UInt8:=if Right i then i.bytes else[]
def aY (i:aN):Int:=if Right i then 0 else 51
theorem DW {i:aN} (h:Right i):kK i=i.bytes/\aY i=0:=by unfold kK aY;rw[if_pos h,if_pos h];exact⟨rfl,rfl⟩
theorem Jh {i:aN} (h:¬Right i):kK i=[]/\aY i=51:=by unfold kK aY;rw[if_neg h,if_neg h];exact⟨rfl,rfl⟩
end aN
def Xq (i:aN) (w:World) (e:Ending) (w':World):Prop:=∃v,e= .returned (.tuple #[v,.int .i64 (aN.aY i)])/\Own aH 5 w' w.heap.size v (aN.kK i)/\Below w.heap.size w w'
theorem BJ (i:aN) (w:World):Calls prog 195 #[rq i] w (Xq i w):=by
 by_cases h:aN.Right i
 ·refine(Xo i w h).mono λe w' ⟨⟨v,he,ho⟩,hb⟩=>?_;unfold Xq;rw[(aN.DW h).1,(aN.DW h).2];exact⟨v,he,ho,hb⟩
 ·refine(aaP i w h).mono λe w' ⟨he,hb⟩=>?_;unfold Xq;rw[(aN.Jh h).1,(aN.Jh h).2];exact⟨_,he,Own.nil _ _,hb⟩
end
section
open Go.RowKit

theorem Ns (a:Option Addr) (n c:Nat) (k:Int) (w:World) (h:aN.In n k):
  Calls prog 184 #[.slice a n c,.int .i64 k] w λe w'=>e= .returned (.bool true)/\w=w':=by
 have h1:=h.1;have h2:=h.2;have h3:decide (k<Ino.dV n)=true:=decide_eq_true h2;clear h
 go_in
 go_wp2_with fail;refine(ng _ _).mono ?_;rintro e w_ ⟨rfl,rfl⟩;generalize Ino.dV n=P at*;go_wp2;go_ret;exact⟨by first|rfl|simp[h2],rfl⟩
theorem Ul (a:Option Addr) (n c:Nat) (k:Int) (w:World) (h:¬aN.In n k):
  Calls prog 184 #[.slice a n c,.int .i64 k] w λe w'=>e= .returned (.bool false)/\w=w':=by
 by_cases h1:0<=k
 ·have h2:Ino.dV n<=k:=by
   by_cases h2:k<Ino.dV n
   ·exact absurd ⟨h1,h2⟩ h
   ·omega
  have h3:decide (k<Ino.dV n)=false:=decide_eq_false ae;clear h
  go_in
  go_wp2_with fail;refine(ng _ _).mono ?_;rintro e w_ ⟨rfl,rfl⟩;generalize Ino.dV n=P at*;go_wp2;go_ret;exact⟨by first|rfl|simp[h2],rfl⟩
 ·have h3:decide (0<=k)=false:=decide_eq_false h1;clear h
  go_in
  go_wp2;go_ret;exact⟨rfl,rfl⟩
theorem aij {xs:List UInt8} {k:Int} (h:¬aN.In xs.length k):aN.qE xs k=aN.zero/\aN.aG xs k=1:=by unfold aN.qE aN.aG;rw[if_neg h,if_neg h];exact⟨rfl,rfl⟩
theorem Dz (a:Option Addr) (n c:Nat) (xs:List UInt8) (k:Int) (w:World) (hx:Bytes w w.heap.size a n xs) (ve:n<=c):
  Calls prog 131 #[.slice a n c,.int .i64 k] w λe w'=>e= .returned (.tuple #[rq (aN.qE xs k),.int .i64 (aN.aG xs k)])/\Below w.heap.size w w':=by
 have hl:=hx.len;by_cases h:aN.In n k
 case neg=>
  obtain⟨r1,r2⟩:=aij (xs:=xs) (k:=k) (by rw[hl];exact h);rw[r1,r2];have HP:=ag (λw=>Ul a n c k w h);clear r1 r2 h hl hx
  go_in
  go_wp2_with fail;refine(HP.o _).mono ?_;rintro e w_ ⟨rfl,rfl⟩;go_wp2;refine bodyPost_ret (v:= .tuple #[rq aN.zero,.int .i64 1]) (by simp[results,Tryz.results131,go_sem,rq,aN.zero]) rfl ⟨rfl,?_⟩;exact(Below.refl _ _).alloc (Nat.le_refl _) _
 have HP:=ag (λw=>Ns a n c k w h);obtain⟨q3,q1,q2,hs⟩:=aN.uh h;obtain⟨j,rfl⟩:∃j:Nat,k=j:=⟨k.toNat,q3.symm⟩
 rw[Int.toNat_natCast] at q1;have r1:aN.qE xs j=aN.vG (aN.cut xs j):=by unfold aN.qE;rw[if_pos (by rw[hl];exact h),Int.toNat_natCast]
 have r2:aN.aG xs j=aN.fK (aN.cut xs j):=by unfold aN.aG;rw[if_pos (by rw[hl];exact h),Int.toNat_natCast]
 have yA:=ag r1;have oQ:=ag r2;have kF:=ag ((Below.refl w.heap.size w).alloc (Nat.le_refl _) (KN aN.zero));have bg:=aF.new w 107 #[.int .i64 0,.int .i64 0,.int .i64 0,.int .i64 0,.int .i64 0,.int .i64 0,.int .i64 0,.int .i64 0,.int .i64 0,.int .i64 0,.int .i64 0];have Ff:=((hx.drop (l:=j*24) ae ve).take (k:=24) ae).alloc (KN aN.zero);have F8:=ag (show Bytes (w.alloc (KN aN.zero)) (w.alloc (KN aN.zero)).heap.size (iL a c (j*24)) 24 (aN.cut xs j) from Ff);have hcut:=Hm a n c (j*24) ((j+1)*24) ae ae;rw[show((j*24:Nat):Int)=(j:Int)*24 by omega,show(((j+1)*24:Nat):Int)=((j:Int)+1)*24 by omega,show(j+1)*24-j*24=24 by omega] at hcut;clear h q3 hl hx r1 r2 hs Ff
 go_in
 go_wp2_with fail;refine(HP.o _).mono ?_;rintro e w_ ⟨rfl,rfl⟩;go_wp2_with fail;refine(Uk (iL a c (j*24)) 24 (c-j*24) (aN.cut xs j) _ F8.o ae).mono ?_;rintro _ w2 ⟨rfl,hb⟩;generalize aN.vG (aN.cut xs j)=r at*;generalize aN.fK (aN.cut xs j)=er at*;have HG:=ag (bg.ah hb);have HB:=ag (Below.ay kF.o hb);clear hb bg
 go_wp2_with (refine aC rfl rfl _ _ _ rfl w.heap.size #[.int .i64 r.k,.int .i64 r.l,.int .i64 r.s,.int .i64 r.d0,.int .i64 r.d1,.int .i64 r.d2,.int .i64 r.d3,.int .i64 r.d4,.int .i64 r.d5,.int .i64 r.a,.int .i64 r.b] rfl rfl 107 #[.int .i64 0,.int .i64 0,.int .i64 0,.int .i64 0,.int .i64 0,.int .i64 0,.int .i64 0,.int .i64 0,.int .i64 0,.int .i64 0,.int .i64 0] HG.o rfl dD (wP r) ?_)
 have q:=HG.o.row #[.int .i64 r.k,.int .i64 r.l,.int .i64 r.s,.int .i64 r.d0,.int .i64 r.d1,.int .i64 r.d2,.int .i64 r.d3,.int .i64 r.d4,.int .i64 r.d5,.int .i64 r.a,.int .i64 r.b];obtain⟨z0,z1,z2,z3,z4,z5,z6,z7,z8,z9,z10⟩:=q.c11;refine bodyPost_ret (v:= .tuple #[.agg #[.int .i64 r.k,.int .i64 r.l,.int .i64 r.s,.int .i64 r.d0,.int .i64 r.d1,.int .i64 r.d2,.int .i64 r.d3,.int .i64 r.d4,.int .i64 r.d5,.int .i64 r.a,.int .i64 r.b],.int .i64 er]) (by simp[results,Tryz.results131,go_sem,z0,z1,z2,z3,z4,z5,z6,z7,z8,z9,z10]) rfl ⟨?_,HB.o.cO (Nat.le_refl _) _⟩;rw[yA.o,oQ.o]
end
section
open Go.RowKit

def aik (xs:List UInt8) (k:Int) (i:aN) (w:World) (e:Ending) (w':World):Prop:=∃v,e= .returned (.tuple #[v,.int .i64 (aN.fO xs k i)])/\Own aH 5 w' w.heap.size v (aN.ZX xs k i)/\Below w.heap.size w w'
theorem ail {xs:List UInt8} {k:Int} {i:aN} {w w':World} (h:¬aN.In xs.length k) (hb:Below w.heap.size w w'):aik xs k i w (.returned (.tuple #[.slice none 0 0,.int .i64 1])) w':=by
 refine⟨.slice none 0 0,?_,?_,hb⟩
 ·unfold aN.fO;rw[if_neg h]
 ·unfold aN.ZX;rw[if_neg (λg=>h g.1)];exact Own.nil _ _
theorem aeH {xs:List UInt8} {k:Int} {i:aN} {w w':World} (h:aN.In xs.length k) (hr:¬aN.Right i) (hb:Below w.heap.size w w'):aik xs k i w (.returned (.tuple #[.slice none 0 0,.int .i64 51])) w':=by
 refine⟨.slice none 0 0,?_,?_,hb⟩
 ·unfold aN.fO;rw[if_pos h,if_neg hr]
 ·unfold aN.ZX;rw[if_neg (λg=>hr g.2)];exact Own.nil _ _
theorem aaQ {xs:List UInt8} {j:Nat} {i:aN} {v:Value} {w w':World} (h:aN.In xs.length j) (hr:aN.Right i) (ho:Own aH 5 w' w.heap.size v (aN.putAt xs j i)) (hb:Below w.heap.size w w'):aik xs j i w (.returned (.tuple #[v,.int .i64 0])) w':=by
 refine⟨v,?_,?_,hb⟩
 ·unfold aN.fO;rw[if_pos h,if_pos hr]
 ·unfold aN.ZX;rw[if_pos ⟨h,hr⟩,Int.toNat_natCast];exact ho
theorem Wq (a:Option Addr) (n c:Nat) (xs:List UInt8) (k:Int) (i:aN) (w:World) (hx:Bytes w w.heap.size a n xs):
  Calls prog 139 #[.slice a n c,.int .i64 k,rq i] w (aik xs k i w):=by
 have hl:=hx.len;have kF:=ag ((Below.refl w.heap.size w).alloc (Nat.le_refl _) (KN i));by_cases h:aN.In n k
 case neg=>
  have HN:=ag (λw' (hb:Below w.heap.size w w')=>ail (i:=i) (show¬aN.In xs.length k by rw[hl];exact h) hb);have HP:=ag (λw=>Ul a n c k w h);clear h hl hx
  go_in
  go_wp2_with fail;refine(HP.o _).mono ?_;rintro e w_ ⟨rfl,rfl⟩;go_wp2;go_ret2;exact HN.o _ kF.o
 have HP:=ag (λw=>Ns a n c k w h);by_cases hr:aN.Right i
 case neg=>
  have HN:=ag (λw' (hb:Below w.heap.size w w')=>aeH (show aN.In xs.length k by rw[hl];exact h) hr hb);have hE:=ag (aN.Jh hr);clear h hl hx hr
  go_in
  go_wp2_with fail;refine(HP.o _).mono ?_;rintro e w_ ⟨rfl,rfl⟩;go_wp2_with fail;refine(BJ i _).mono ?_;rintro e w1 ⟨v1,rfl,ho,hb⟩;rw[hE.o.2];have HB:=ag (Below.ay kF.o hb);clear ho hb;go_wp2;go_ret2;exact HN.o _ HB.o
 have hE:=ag (aN.DW hr);obtain⟨q3,q1,q2,_⟩:=aN.uh h;obtain⟨j,rfl⟩:∃j:Nat,k=j:=⟨k.toNat,q3.symm⟩
 rw[Int.toNat_natCast] at q1;have HI:=ag (show aN.In xs.length j by rw[hl];exact h);have HR:=ag hr;have HX:=ag (hx.alloc (KN i));have hlen:=ag hl;clear h q3 hl hx hr
 go_in
 go_wp2_with fail;refine(HP.o _).mono ?_;rintro e w_ ⟨rfl,rfl⟩;go_wp2_with fail;refine(BJ i _).mono ?_;rintro e w1 ⟨v1,rfl,ho,hb⟩;rw[hE.o.2];rw[hE.o.1] at ho;obtain⟨a1,c1,rfl,_⟩:=ho.bZ (n:=24) (aN.lg i);have dw:=ag (Below.ay kF.o hb);have HY1:=ag (ho.arr (by rw[aN.lg];omega));have F8:=ag (HX.o.on hb);have iO:=dw.o.size;clear ho hb hE;go_wp2_with fail;refine(ig a n c xs _ F8.o).mono ?_;rintro e w2 ⟨⟨v2,rfl,ho⟩,hb⟩;obtain⟨a2,c2,rfl,_⟩:=ho.bZ (n:=n) hlen.o;obtain⟨g,rfl,jr,_⟩:=ho.addr (by rw[hlen.o];omega);have yS:=ag ho;have dA:=ag (Below.ay dw.o hb);have HY2:=ag (HY1.o.on hb);have hcut:=kU (some ⟨g,0,none⟩) n c2 (j*24) ae;rw[show((j*24:Nat):Int)=(j:Int)*24 by omega] at hcut;clear ho hb
 go_wp2_with (with_reducible refine PE rfl _ _ rfl w1.heap.size g n c2 (j*24) xs rfl yS.o _ a1 24 c1 i.bytes rfl HY2.o ae ?_;intro w3 rf bQ)
 go_ret2;have hso:=rf.o.mono iO;exact aaQ HI.o HR.o hso (dA.o.trans (bQ.o.mono iO))
end
end Go.Proofs.YtnieckfelfoopaaGreat

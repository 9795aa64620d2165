import Derived.Deep.RegionHeld3
import Derived.Deep.DrawnRows
import Derived.Test.YtnieckfelfoopaaGreatFtlPut2
open Go.Proofs.Tryz (prog)
namespace Go.Proofs.YtnieckfelfoopaaGreat
open Lib (hid)
set_option maxRecDepth 100000
set_option maxHeartbeats 16000000
section
open Go.RowKit

def Rd (xs:List UInt8) (w:World) (e:Ending) (w':World):Prop:=
 ∃a n c,e= .returned (.tuple #[tagV (Tg.ed xs),.slice a n c,.int .i64 (Tg.fK xs)])/\Bytes w' w'.heap.size a n (Tg.jm xs)/\n<=c/\Below w.heap.size w w'
theorem aer {xs:List UInt8} {n:Nat} (hl:xs.length=n) (h:n<32\/¬Tg.Fits (n-32)):Tg.ed xs=Tg.zero/\Tg.jm xs=[]/\Tg.fK xs=1:=by
 have h2:¬Tg.Fits (xs.length-32):=by
  rw[hl];rcases h with h|h
  ·intro g;unfold Tg.Fits at g;omega
  ·exact h
 unfold Tg.ed Tg.jm Tg.fK;rw[if_neg (λg=>h2 g.1),if_neg (λg=>h2 g.1),if_neg h2];exact⟨rfl,rfl,rfl⟩
theorem Gt {xs:List UInt8} {m:Nat} (hl:xs.length=m+32) (h:Tg.Fits m) (hf:Tg.full xs=true):Tg.ed xs=Tg.zero/\Tg.jm xs=[]/\Tg.fK xs=20:=by unfold Tg.ed Tg.jm Tg.fK;rw[hl,Nat.add_sub_cancel,hf,if_neg au,if_neg au,if_pos h,if_pos rfl];exact⟨rfl,rfl,rfl⟩
theorem aia {xs:List UInt8} {m:Nat} (hl:xs.length=m+32) (h:Tg.Fits m) (hf:Tg.full xs=false) (hg:¬Tg.Good (xs.take m) (xs.drop m)):Tg.ed xs=Tg.zero/\Tg.jm xs=[]/\Tg.fK xs=21:=by unfold Tg.ed Tg.jm Tg.fK;rw[hl,Nat.add_sub_cancel,hf,if_neg (λg=>hg g.2.2),if_neg (λg=>hg g.2.2),if_pos h,if_neg au,if_neg hg];exact⟨rfl,rfl,rfl⟩
theorem aib {xs:List UInt8} {m:Nat} (hl:xs.length=m+32) (h:Tg.Fits m) (hf:Tg.full xs=false) (hg:Tg.Good (xs.take m) (xs.drop m)):Tg.ed xs=Tg.raw (xs.drop m)/\Tg.jm xs=xs.take m/\Tg.fK xs=0:=by unfold Tg.ed Tg.jm Tg.fK;rw[hl,Nat.add_sub_cancel,hf,if_pos ⟨h,rfl,hg⟩,if_pos ⟨h,rfl,hg⟩,if_pos h,if_neg au,if_pos hg];exact⟨rfl,rfl,rfl⟩
theorem PV {xs:List UInt8} {w w':World} {e:Ending} {x:Int} (h:Tg.ed xs=Tg.zero/\Tg.jm xs=[]/\Tg.fK xs=x) (he:e= .returned (.tuple #[tagV Tg.zero,.slice none 0 0,.int .i64 x])) (hb:Below w.heap.size w w'):Rd xs w e w':=by
 obtain⟨h1,h2,h3⟩:=h;refine⟨none,0,0,?_,?_,Nat.le_refl _,hb⟩
 ·rw[he,h1,h3]
 ·rw[h2];exact jg.none_ _ _ _
theorem TT (a:Option Addr) (n c:Nat) (xs:List UInt8) (w:World) (hx:Bytes w w.heap.size a n xs) (h:n<32\/¬Tg.Fits (n-32)):
  Calls prog 224 #[.slice a n c] w (Rd xs w):=by
 have yV:=hx.room;have HR:=ag (aer hx.len h);by_cases hn:n<32
 ·have h1:decide ((n:Int)-32<0)=true:=decide_eq_true ae;clear h hx
  go_in
  go_wp2;refine bodyPost_ret (v:= .tuple #[tagV Tg.zero,.slice none 0 0,.int .i64 1]) (by simp[results,Tryz.results224,go_sem,tagV,Tg.zero]) rfl (PV HR.o rfl ?_);exact(Below.refl _ _).alloc (Nat.le_refl _) _
 ·have h1:decide ((n:Int)-32<0)=false:=decide_eq_false ae;have h2:¬((n:Int)-32=64\/(n:Int)-32=128\/(n:Int)-32=256\/(n:Int)-32=512):=by
   rcases h with h|h
   ·exact absurd h hn
   ·intro g;exact h (by unfold Tg.Fits;omega)
  have H2:=ag h2;clear h h2 hx
  go_in
  go_wp2_with fail;refine(ah3 _ H2.o _).mono ?_;rintro e w_ ⟨rfl,rfl⟩;go_wp2;refine bodyPost_ret (v:= .tuple #[tagV Tg.zero,.slice none 0 0,.int .i64 1]) (by simp[results,Tryz.results224,go_sem,tagV,Tg.zero]) rfl (PV HR.o rfl ?_);exact(Below.refl _ _).alloc (Nat.le_refl _) _
theorem Xj (a:Option Addr) (m c:Nat) (xs:List UInt8) (w:World) (hx:Bytes w w.heap.size a (m+32) xs) (hf:Tg.Fits m) (hfull:Tg.full xs=true):
  Calls prog 224 #[.slice a (m+32:Nat) c] w (Rd xs w):=by
 have HR:=ag (Gt hx.len hf hfull);have HX:=ag (hx.alloc (.cells #[.int .i64 0,.int .u32 0,.int .u64 0,.int .u64 0] 67));have fF:64<=m/\m<=512:=by unfold Tg.Fits at hf;omega
 obtain⟨bK,aW⟩:=fF;have HF:=ag hf;clear hf hx
 go_in
 go_wp2_with fail;refine(IX m HF.o _).mono ?_;rintro e w_ ⟨rfl,rfl⟩;go_wp2_with fail;refine(BB a _ c xs _ HX.o).mono ?_;rintro e w_ ⟨rfl,rfl⟩;rw[hfull];go_wp2;refine bodyPost_ret (v:= .tuple #[tagV Tg.zero,.slice none 0 0,.int .i64 20]) (by simp[results,Tryz.results224,go_sem,tagV,Tg.zero]) rfl (PV HR.o rfl ?_);exact(Below.refl _ _).alloc (Nat.le_refl _) _
theorem Jg (k:Int) (p s e:Int):(#[.int .i64 k,.int .u32 p,.int .u64 s,.int .u64 e]:Array Value).all (·.oneCell')=true:=by simp[Value.oneCell']
theorem tagInfo:(prog.info? 67).map (·.size)=some 4:=az
def Rdw (xs:List UInt8) (w:World) (e:Ending) (w':World):Prop:=
 ∃a n c,e= .returned (.tuple #[tagV (Tg.ed xs),.slice a n c,.int .i64 (Tg.fK xs)])/\Bytes w' w'.heap.size a n (Tg.jm xs)/\n<=c/\Below w.heap.size w w'/\(∀b o,a=some ⟨b,o,none⟩->w.heap.size<=b/\b<w'.heap.size)/\Own aH 5 w' w.heap.size (.slice a n c) (Tg.jm xs)
theorem xk {xs:List UInt8} {w w':World} {e:Ending} {x:Int} (h:Tg.ed xs=Tg.zero/\Tg.jm xs=[]/\Tg.fK xs=x) (he:e= .returned (.tuple #[tagV Tg.zero,.slice none 0 0,.int .i64 x])) (hb:Below w.heap.size w w'):Rdw xs w e w':=by
 obtain⟨h1,h2,h3⟩:=h;refine⟨none,0,0,?_,?_,Nat.le_refl _,hb,(λb o e=>by cases e),by rw[h2];exact Own.nil _ _⟩
 ·rw[he,h1,h3]
 ·rw[h2];exact jg.none_ _ _ _
theorem zU (a:Option Addr) (m c:Nat) (xs:List UInt8) (w:World) (hx:Bytes w w.heap.size a (m+32) xs) (hc:m+32<=c) (hf:Tg.Fits m) (hfull:Tg.full xs=false):
  Calls prog 224 #[.slice a (m+32:Nat) c] w (Rdw xs w):=by
 have hmf:∀(fn:Fn) (first cap:Array Value) (w:World),(Instr.makeFunc fn first cap).run prog w= .ok (.func fn first cap) w:=λ_ _ _ _=>rfl;have HXa:=ag (hx.alloc (.cells #[.int .i64 0,.int .u32 0,.int .u64 0,.int .u64 0] 67));have fF:64<=m/\m<=512:=by unfold Tg.Fits at hf;omega
 obtain⟨bK,aW⟩:=fF;have HF:=ag hf;have HL:=ag hx.len;have hcut:=kU a (m+32) c m ae;rw[show m+32-m=32 by omega] at hcut;have hld:(xs.drop m).length=32:=by rw[List.length_drop,hx.len];omega
 have hxd:=hx.drop (l:=m) ae hc;rw[show m+32-m=32 by omega] at hxd;have hto:=Oq a (m+32) c (m+24) ae;rw[show((m+24:Nat):Int)=(m:Int)+24 by omega] at hto;have HTO:=ag hto;have HX:=ag hx;have hrb:=Tg.Xf (xs.drop m);obtain⟨d,hd⟩:=bu (xs.drop m);rw[<-hd] at hld hxd hrb;have HD:=ag hd;have HLD:=ag hld;have HXD:=ag hxd;have HRB:=ag hrb;have HFL:=ag hfull;clear hf hx hto hxd hld hrb hd hfull
 go_in
 go_wp2_with fail;refine(IX m HF.o _).mono ?_;rintro e w_ ⟨rfl,rfl⟩;go_wp2_with fail;refine(BB a _ c xs _ HXa.o).mono ?_;rintro e w_ ⟨rfl,rfl⟩;rw[HFL.o];obtain⟨w2,jP⟩:∃w2,w2=(w.alloc (.cells #[.int .i64 0,.int .u32 0,.int .u64 0,.int .u64 0] 67)).alloc (.cells #[.slice (iL a c m) 32 (c-m:Nat)] 23):=⟨_,rfl⟩
 have amx:Below w.heap.size w w2:=by rw[jP];exact((Below.refl _ _).alloc (Nat.le_refl _) _).alloc au _
 have yU:w2.heap.size=w.heap.size+2:=by rw[jP];simp
 have bg2:aF w2 w.heap.size 67 #[.int .i64 0,.int .u32 0,.int .u64 0,.int .u64 0]:=by rw[jP];exact(aF.new w _ _).alloc _
 have br2:aF w2 (w.heap.size+1) 23 #[.slice (iL a c m) 32 (c-m:Nat)]:=by have h:=aF.new (w.alloc (.cells #[.int .i64 0,.int .u32 0,.int .u64 0,.int .u64 0] 67)) 23 #[.slice (iL a c m) 32 (c-m:Nat)];rw[show(w.alloc (.cells #[.int .i64 0,.int .u32 0,.int .u64 0,.int .u64 0] 67)).heap.size=w.heap.size+1 by simp] at h;rw[jP];exact h
 have Ez:Bytes w2 w.heap.size (iL a c m) 32 (d.drop 0):=by rw[List.drop_zero];exact HXD.o.below amx
 go_wp2_with fail;rw[<-jP];clear jP hmf hcut;refine(jG (w.heap.size+1) w.heap.size (iL a c m) 32 (c-m) d 2 30 0 2 w2 br2 Ez ae ae rfl rfl ae).mono ?_;rintro _ w3 ⟨rfl,ht⟩;obtain⟨⟨a3,c3,br3,hx3,yR⟩,aes,hz3,aet⟩:=ht;have bg3:=aes ae bg2;have bQ:=amx.trans (aet ae);clear aes aet br2 Ez amx bg2;have nM:=Tg.sW (d:=d) (i:=0) (k:=2);generalize hM:Tg.num d 0 2=M at*;have HM:=ag hM;have HNM:=ag nM;clear hM nM;go_wp2_with fail;refine(jG (w.heap.size+1) w.heap.size a3 30 c3 d 1 29 2 3 w3 br3 hx3 yR ae rfl rfl ae).mono ?_;rintro _ w4 ⟨rfl,ht⟩;obtain⟨⟨a4,c4,br4,hx4,hc4⟩,arc,hz4,TU⟩:=ht;have bg4:=arc ae bg3;have di:=bQ.trans (TU ae);clear arc TU br3 hx3 bQ bg3;have nK:Tg.num d 2 1<256:=Tg.sW (d:=d) (i:=2) (k:=1);generalize hK:Tg.num d 2 1=K at*;have HK:=ag hK;clear hK;go_wp2_with fail;refine(jG (w.heap.size+1) w.heap.size a4 29 c4 d 1 28 3 4 w4 br4 hx4 hc4 ae rfl rfl ae).mono ?_;rintro _ w5 ⟨rfl,ht⟩;obtain⟨⟨a5,c5,br5,YD,QO⟩,aaF,hz5,aeu⟩:=ht;have bg5:=aaF ae bg4;have iP:=di.trans (aeu ae);clear aaF aeu br4 hx4 di bg4;generalize hG:Tg.num d 3 1=G at*;have HG:=ag hG;clear hG;go_wp2_with fail;refine(jG (w.heap.size+1) w.heap.size a5 28 c5 d 4 24 4 8 w5 br5 YD QO ae rfl rfl ae).mono ?_;rintro _ w6 ⟨rfl,ht⟩;obtain⟨⟨a6,c6,br6,ZK,ZJ⟩,aaG,hz6,aev⟩:=ht;have bg6:=aaG ae bg5;have iI:=iP.trans (aev ae);clear aaG aev br5 YD iP bg5;have nP:Tg.num d 4 4<4294967296:=Tg.sW (d:=d) (i:=4) (k:=4);generalize hP:Tg.num d 4 4=P at*;have HP:=ag hP;clear hP;obtain⟨w7,hw7⟩:=bu (w6.alloc (.cells #[.int .i64 K,.int .u32 P,.int .u64 0,.int .u64 0] 67));have TV:Below w6.heap.size w6 w7:=by rw[hw7];exact(Below.refl _ _).alloc (Nat.le_refl _) _
 have bg7:=bg6.ah TV;have br7:=br6.ah TV;have hx7:=ZK.below (TV.mono ae);have kC:=iI.trans (TV.mono ae);have hz7:w7.heap.size=w.heap.size+3:=by rw[hw7];simp;omega
 have bi7:aF w7 w6.heap.size 67 #[.int .i64 K,.int .u32 P,.int .u64 0,.int .u64 0]:=by rw[hw7];exact aF.new _ _ _
 rw[show w6.heap.size=w.heap.size+2 by omega] at bi7;have HZ6:=ag (show w6.heap.size=w.heap.size+2 by omega);clear bg6 br6 ZK iI TV;go_wp2_with fail;rw[<-hw7];clear hw7;refine(jG (w.heap.size+1) w.heap.size a6 24 c6 d 8 16 8 16 w7 br7 hx7 ae ae rfl rfl ae).mono ?_;rintro _ w8 ⟨rfl,ht⟩;obtain⟨⟨a8,c8,br8,hx8,hc8⟩,amy,hz8,aro⟩:=ht;have bg8:=amy ae bg7;have bi8:=amy ae bi7;have kQ:=kC.trans (aro ae);clear amy aro br7 hx7 kC bg7 bi7;have nS:Tg.num d 8 8<18446744073709551616:=Tg.sW (d:=d) (i:=8) (k:=8);generalize hS:Tg.num d 8 8=S at*;have HS:=ag hS;have HNS:=ag nS;clear hS nS;go_wp2_with fail;refine(jG (w.heap.size+1) w.heap.size a8 16 c8 d 8 8 16 24 w8 br8 hx8 ae ae rfl rfl ae).mono ?_;rintro _ w9 ⟨rfl,ht⟩;obtain⟨⟨a9,c9,TW,Qx,TY⟩,kN,hz9,qU⟩:=ht;have TZ:=kN ae bg8;have yG:=kN ae bi8;have gI:=kQ.trans (qU ae);clear kN qU br8 hx8 kQ bg8 bi8;have nE:Tg.num d 16 8<18446744073709551616:=Tg.sW (d:=d) (i:=16) (k:=8);generalize hE:Tg.num d 16 8=E at*;have HE:=ag hE;have HNE:=ag nE;clear hE nE;have i2:=yG.aj (i:=2) rfl;have i3:=yG.aj (i:=3) rfl;have f2:=yG.frozen 2;have f3:=yG.frozen 3;have PW:aF ((w9.setCell ⟨w.heap.size+2,2,none⟩ (.int .u64 S)).setCell ⟨w.heap.size+2,3,none⟩ (.int .u64 E)) (w.heap.size+2) 67 #[.int .i64 K,.int .u32 P,.int .u64 S,.int .u64 E]:=(yG.set 2 _).set 3 _;have aex:=(TZ.far (p:=⟨w.heap.size+2,2,none⟩) au (.int .u64 S)).far (p:=⟨w.heap.size+2,3,none⟩) au (.int .u64 E);have aic:=(TW.far (p:=⟨w.heap.size+2,2,none⟩) au (.int .u64 S)).far (p:=⟨w.heap.size+2,3,none⟩) au (.int .u64 E);have A8:=(gI.setCell (p:=⟨w.heap.size+2,2,none⟩) au (.int .u64 S)).setCell (p:=⟨w.heap.size+2,3,none⟩) au (.int .u64 E);have aid:=Qx.below (((Below.refl w.heap.size w9).setCell (p:=⟨w.heap.size+2,2,none⟩) au (.int .u64 S)).setCell (p:=⟨w.heap.size+2,3,none⟩) au (.int .u64 E));have RU:=ag PW;have arp:=ag aex;have Ua:=ag aic;have ahL:=ag A8;have ag3:=ag aid;have arq:=ag (show((w9.setCell ⟨w.heap.size+2,2,none⟩ (.int .u64 S)).setCell ⟨w.heap.size+2,3,none⟩ (.int .u64 E)).heap.size=w.heap.size+3 by simp;omega);clear PW aex aic A8 aid yG TZ TW gI Qx;go_wp2_with fail;clear i2 i3 f2 f3;refine(jG (w.heap.size+1) w.heap.size a9 8 c9 d 4 4 24 28 _ Ua.o ag3.o ae ae rfl rfl ae).mono ?_;rintro _ ug ⟨rfl,ht⟩;obtain⟨⟨a11,c11,ars,art,ak9⟩,aey,amz,ajG⟩:=ht;have aez:=aey ae arp.o;have aeA:=aey ae RU.o;have aaI:=ahL.o.trans (ajG ae);rw[arq.o] at amz;clear aey ajG arp RU Ua ag3 ahL arq;have nU:Tg.num d 24 4<4294967296:=Tg.sW (d:=d) (i:=24) (k:=4);generalize hU:Tg.num d 24 4=U at*;have HU:=ag hU;clear hU;go_wp2_with fail;refine(jG (w.heap.size+1) w.heap.size a11 4 c11 d 4 0 28 32 ug ars art ae ae rfl rfl ae).mono ?_;rintro _ w12 ⟨rfl,ht⟩;obtain⟨⟨a12,c12,axp,axq,aEv⟩,aeB,amA,ajH⟩:=ht;have aru:=aeB ae aez;have arv:=aeB ae aeA;have PX:=aaI.trans (ajH ae);rw[amz] at amA;have HBG:=ag aru;have HBI:=ag arv;have GY:=ag PX;have aEw:=ag amA;clear aeB ajH ars art aaI aez aeA axp axq aru arv PX amz amA hz8 hz9 hz7 hz6 hz5 hz4 hz3 yU HZ6;generalize hN:Tg.num d 28 4=N at*;have HN:=ag hN;clear hN;have HT:=ag (λ(hg:¬Tg.Good (xs.take m) d)=>aia HL.o HF.o HFL.o (show¬Tg.Good (xs.take m) (xs.drop m) by rw[<-HD.o];exact hg));have HRW:=ag (show Tg.raw d=⟨(K:Nat),P,S,E⟩ by simp only[Tg.raw,HK.o,HP.o,HS.o,HE.o]);by_cases c1:M=21827
 case neg=>
  have hg:=ag (show¬Tg.Good (xs.take m) d from λh=>c1 (by rw[<-HM.o];exact h.1));have t1:((M:Int) !=21827)=true:=by rw[bne_iff_ne];omega
  clear c1
  go_wp2_with (refine aC rfl rfl _ _ _ rfl w.heap.size #[.int .i64 0,.int .u32 0,.int .u64 0,.int .u64 0] rfl rfl 67 #[.int .i64 0,.int .u32 0,.int .u64 0,.int .u64 0] HBG.o rfl tagInfo (Jg 0 0 0 0) ?_)
  have q:=HBG.o.row #[.int .i64 0,.int .u32 0,.int .u64 0,.int .u64 0];obtain⟨z0,z1,z2,z3⟩:=q.c4;refine bodyPost_ret (v:= .tuple #[.agg #[.int .i64 0,.int .u32 0,.int .u64 0,.int .u64 0],.slice none 0 0,.int .i64 21]) (by simp[results,Tryz.results224,go_sem,z0,z1,z2,z3]) rfl (xk (HT.o hg.o) rfl (GY.o.cO (Nat.le_refl _) _))
 subst c1;by_cases c2:G=0
 case neg=>
  have hg:=ag (show¬Tg.Good (xs.take m) d from λh=>c2 (by rw[<-HG.o];exact h.2.1));have t1:((G:Int) !=0)=true:=by rw[bne_iff_ne];omega
  clear c2
  go_wp2_with (refine aC rfl rfl _ _ _ rfl w.heap.size #[.int .i64 0,.int .u32 0,.int .u64 0,.int .u64 0] rfl rfl 67 #[.int .i64 0,.int .u32 0,.int .u64 0,.int .u64 0] HBG.o rfl tagInfo (Jg 0 0 0 0) ?_)
  have q:=HBG.o.row #[.int .i64 0,.int .u32 0,.int .u64 0,.int .u64 0];obtain⟨z0,z1,z2,z3⟩:=q.c4;refine bodyPost_ret (v:= .tuple #[.agg #[.int .i64 0,.int .u32 0,.int .u64 0,.int .u64 0],.slice none 0 0,.int .i64 21]) (by simp[results,Tryz.results224,go_sem,z0,z1,z2,z3]) rfl (xk (HT.o hg.o) rfl (GY.o.cO (Nat.le_refl _) _))
 subst c2;by_cases c3:N=0
 case neg=>
  have hg:=ag (show¬Tg.Good (xs.take m) d from λh=>c3 (by rw[<-HN.o];exact h.2.2.1));have t1:((N:Int) !=0)=true:=by rw[bne_iff_ne];omega
  clear c3
  go_wp2_with (refine aC rfl rfl _ _ _ rfl w.heap.size #[.int .i64 0,.int .u32 0,.int .u64 0,.int .u64 0] rfl rfl 67 #[.int .i64 0,.int .u32 0,.int .u64 0,.int .u64 0] HBG.o rfl tagInfo (Jg 0 0 0 0) ?_)
  have q:=HBG.o.row #[.int .i64 0,.int .u32 0,.int .u64 0,.int .u64 0];obtain⟨z0,z1,z2,z3⟩:=q.c4;refine bodyPost_ret (v:= .tuple #[.agg #[.int .i64 0,.int .u32 0,.int .u64 0,.int .u64 0],.slice none 0 0,.int .i64 21]) (by simp[results,Tryz.results224,go_sem,z0,z1,z2,z3]) rfl (xk (HT.o hg.o) rfl (GY.o.cO (Nat.le_refl _) _))
 subst c3;obtain⟨y0,y1,y2,y3⟩:=HBI.o.c4;by_cases c4:Tg.Right ⟨(K:Nat),P,S,E⟩
 case neg=>
  have hg:=ag (show¬Tg.Good (xs.take m) d from λh=>c4 (by rw[<-HRW.o];exact h.2.2.2.1));have hb:=ag (Tg.dJ c4);clear c4;go_wp2_with fail;refine(qP ⟨(K:Nat),P,S,E⟩ nP HNS.o HNE.o _).mono ?_;rw[hb.o];rintro _ w13 ⟨rfl,yE⟩;have Xk:=ag (HBG.o.ah yE);have Ub:=ag (GY.o.trans (yE.mono GY.o.size));clear yE y0 y1 y2 y3
  go_wp2_with (refine aC rfl rfl _ _ _ rfl w.heap.size #[.int .i64 0,.int .u32 0,.int .u64 0,.int .u64 0] rfl rfl 67 #[.int .i64 0,.int .u32 0,.int .u64 0,.int .u64 0] Xk.o rfl tagInfo (Jg 0 0 0 0) ?_)
  have q:=Xk.o.row #[.int .i64 0,.int .u32 0,.int .u64 0,.int .u64 0];obtain⟨z0,z1,z2,z3⟩:=q.c4;refine bodyPost_ret (v:= .tuple #[.agg #[.int .i64 0,.int .u32 0,.int .u64 0,.int .u64 0],.slice none 0 0,.int .i64 21]) (by simp[results,Tryz.results224,go_sem,z0,z1,z2,z3]) rfl (xk (HT.o hg.o) rfl (Ub.o.cO (Nat.le_refl _) _))
 have hb:=ag (Tg.kM c4);have Va:=ag c4;clear c4;go_wp2_with fail;refine(qP ⟨(K:Nat),P,S,E⟩ nP HNS.o HNE.o _).mono ?_;rw[hb.o];rintro _ w13 ⟨rfl,yE⟩;have Xk:=ag (HBG.o.ah yE);have aie:=ag (HBI.o.ah yE);have Ub:=ag (GY.o.trans (yE.mono GY.o.size));have arw:=ag ((HX.o.below Ub.o).mono Ub.o.size);clear yE y0 y1 y2 y3;have axs:=ag (arw.o.take (k:=m+24) ae);have hto:=HTO.o;go_wp2_with fail;clear hto;refine(Nk a (m+24) c (xs.take (m+24)) _ axs.o).mono ?_;rintro _ w14 ⟨rfl,rfl⟩;have awY:=(CV.sum (xs.take (m+24))).isLt;have HSM:=ag (show(CV.sum (xs.take (m+24))).toNat=(CV.sum (xs.take m++d.take 24)).toNat by rw[List.take_add,HD.o]);generalize (CV.sum (xs.take (m+24))).toNat=V at*;by_cases c5:U=V
 case neg=>
  have hg:=ag (show¬Tg.Good (xs.take m) d from λh=>c5 (by rw[<-HU.o,HSM.o];exact h.2.2.2.2));have t1:((U:Int) !=(V:Int))=true:=by rw[bne_iff_ne];omega
  clear c5
  go_wp2_with (refine aC rfl rfl _ _ _ rfl w.heap.size #[.int .i64 0,.int .u32 0,.int .u64 0,.int .u64 0] rfl rfl 67 #[.int .i64 0,.int .u32 0,.int .u64 0,.int .u64 0] Xk.o rfl tagInfo (Jg 0 0 0 0) ?_)
  have q:=Xk.o.row #[.int .i64 0,.int .u32 0,.int .u64 0,.int .u64 0];obtain⟨z0,z1,z2,z3⟩:=q.c4;refine bodyPost_ret (v:= .tuple #[.agg #[.int .i64 0,.int .u32 0,.int .u64 0,.int .u64 0],.slice none 0 0,.int .i64 21]) (by simp[results,Tryz.results224,go_sem,z0,z1,z2,z3]) rfl (xk (HT.o hg.o) rfl (Ub.o.cO (Nat.le_refl _) _))
 subst c5;have Uc:Tg.Good (xs.take m) d:=⟨HM.o,HG.o,HN.o,by rw[HRW.o];exact Va.o,by rw[HU.o];exact HSM.o⟩
 have yN:=ag (aib HL.o HF.o HFL.o (show Tg.Good (xs.take m) (xs.drop m) by rw[<-HD.o];exact Uc));have hto:=Oq a (m+32) c m ae;have t1:((U:Int) !=(U:Int))=false:=by rw[bne_eq_false_iff_eq]
 clear Uc;have HXm:=ag (arw.o.take (k:=m) ae);obtain⟨y0,y1,y2,y3⟩:=aie.o.c4;have amB:=ag (show w.heap.size+3<=w13.heap.size by have h1:=Ub.o.size;have h2:=aie.o.lt;omega);clear hb HT;go_wp2_with fail
 go_region_held3 (λW'=>W'.cell? ⟨w.heap.size+2,0,none⟩=some (.int .i64 K)/\W'.cell? ⟨w.heap.size+2,1,none⟩=some (.int .u32 P)/\W'.cell? ⟨w.heap.size+2,2,none⟩=some (.int .u64 S)/\W'.cell? ⟨w.heap.size+2,3,none⟩=some (.int .u64 E)) (first|exact⟨y0,y1,y2,y3⟩|exact⟨x0,x1,x2,x3⟩|go_keep)
  ((refine Zt rfl _ _ rfl w13.heap.size _ [] rfl (Own.nil _ _) _ a m c (xs.take m) rfl HXm.o (by simp;omega) (Nat.le_refl _) ?_;intro v15 w15 amC aaJ;have PY:=ag (aF.below (w:=w13.drew) Xk.o.drew aaJ.o Xk.o.lt);have aif:=ag (aF.below (w:=w13.drew) aie.o.drew aaJ.o aie.o.lt);have x0:=aif.o.aj (i:=0) rfl;have x1:=aif.o.aj (i:=1) rfl;have x2:=aif.o.aj (i:=2) rfl;have x3:=aif.o.aj (i:=3) rfl;have z0:=PY.o.aj (i:=0) rfl;have z1:=PY.o.aj (i:=1) rfl;have z2:=PY.o.aj (i:=2) rfl;have z3:=PY.o.aj (i:=3) rfl;have f0:=PY.o.frozen 0;have f1:=PY.o.frozen 1;have f2:=PY.o.frozen 2;have f3:=PY.o.frozen 3))
 have aeC:v15.ownBlock≠some w.heap.size:=λe=>by have h1:=(amC.o.aP _ e).1;have h2:=amB.o;omega
 have HOf:=ag ((((amC.o.far (p:=⟨w.heap.size,0,none⟩) aeC (.int .i64 K)).far (p:=⟨w.heap.size,1,none⟩) aeC (.int .u32 P)).far (p:=⟨w.heap.size,2,none⟩) aeC (.int .u64 S)).far (p:=⟨w.heap.size,3,none⟩) aeC (.int .u64 E));have PQ:=ag ((((PY.o.set 0 (.int .i64 K)).set 1 (.int .u32 P)).set 2 (.int .u64 S)).set 3 (.int .u64 E));have HBB:=ag ((((((Ub.o.drew).trans (aaJ.o.mono Ub.o.size)).setCell (p:=⟨w.heap.size,0,none⟩) (Nat.le_refl _) (.int .i64 K)).setCell (p:=⟨w.heap.size,1,none⟩) (Nat.le_refl _) (.int .u32 P)).setCell (p:=⟨w.heap.size,2,none⟩) (Nat.le_refl _) (.int .u64 S)).setCell (p:=⟨w.heap.size,3,none⟩) (Nat.le_refl _) (.int .u64 E));obtain⟨a15,c15,rfl,axu⟩:=amC.o.bZ (n:=m) (by rw[List.nil_append];exact HXm.o.len);clear x0 x1 x2 x3 y0 y1 y2 y3 z0 z1 z2 z3 f0 f1 f2 f3 aeC;generalize ((((w15.setCell ⟨w.heap.size,0,none⟩ (.int .i64 K)).setCell ⟨w.heap.size,1,none⟩ (.int .u32 P)).setCell ⟨w.heap.size,2,none⟩ (.int .u64 S)).setCell ⟨w.heap.size,3,none⟩ (.int .u64 E))=wf at*;obtain⟨z0,z1,z2,z3⟩:=PQ.o.c4;go_wp2;refine bodyPost_ret (v:= .tuple #[.agg #[.int .i64 K,.int .u32 P,.int .u64 S,.int .u64 E],.slice a15 m c15,.int .i64 0]) (by simp[results,Tryz.results224,go_sem,z0,z1,z2,z3]) rfl ⟨a15,m,c15,?_,?_,axu,HBB.o,λb o e=>?_,?_⟩
 ·rw[yN.o.1,yN.o.2.2,<-HD.o,HRW.o]
 ·rw[yN.o.2.1];have h:=HOf.o.arr (by rw[List.nil_append,HXm.o.len];omega);rw[List.nil_append] at h;exact h
 ·have h:=HOf.o.aP b (by rw[e];rfl);have:=amB.o;omega
 ·rw[yN.o.2.1];have h:=HOf.o.mono (base':=w.heap.size) (by have:=amB.o;omega);rw[List.nil_append] at h;exact h
theorem aal (a:Option Addr) (m c:Nat) (xs:List UInt8) (w:World) (hx:Bytes w w.heap.size a (m+32) xs) (hc:m+32<=c) (hf:Tg.Fits m) (h0:Tg.fK xs=0):
  Calls prog 224 #[.slice a (m+32:Nat) c] w (Rdw xs w):=by
 refine zU a m c xs w hx hc hf ?_
 cases hfull:Tg.full xs
 ·rfl
 ·have:=(Gt hx.len hf hfull).2.2;rw[h0] at this;cases this
theorem ER (a:Option Addr) (n c:Nat) (xs:List UInt8) (w:World) (hx:Bytes w w.heap.size a n xs) (ve:n<=c):
  Calls prog 224 #[.slice a n c] w (Rd xs w):=by
 by_cases h:n<32\/¬Tg.Fits (n-32)
 ·exact TT a n c xs w hx h
 ·obtain⟨m,rfl⟩:∃m,n=m+32:=⟨n-32,ae⟩
  rw[Nat.add_sub_cancel] at h;have hf:Tg.Fits m:=Decidable.byContradiction λg=>h (.inr g)
  cases hfull:Tg.full xs
  ·exact(zU a m c xs w hx ve hf hfull).mono λe w' ⟨a',n',c',h1,h2,h3,h4,_⟩=>⟨a',n',c',h1,h2,h3,h4⟩
  ·exact Xj a m c xs w hx hf hfull
end
section
namespace CV
end CV
namespace Tg
theorem aih {l:List UInt8} (h:full l=true) (i:Nat) (hi:i<l.length):l[i]=255:=by
 rw[full,List.all_eq_true] at h
 simpa using h l[i] (List.getElem_mem hi)
theorem aii {t:Tg} {pay:List UInt8} (i:Nat) (hi:i<32):(page t pay)[pay.length+i]?=(beside t pay)[i]?:=by rw[page,List.getElem?_append_right ae,Nat.add_sub_cancel_left]
theorem PZ (t:Tg) (pay:List UInt8):(beside t pay)[0]?=some 67:=by simp[beside,head]
theorem aaK {l:List UInt8} (h:full l=true) (i:Nat) (hi:i<l.length):l[i]?=some 255:=by rw[List.getElem?_eq_getElem hi,aih h i hi]
theorem P5 (t:Tg) (pay:List UInt8):full (page t pay)=false:=by rw[<-Bool.not_eq_true];intro h;have h1:=aaK h (pay.length+0) (by rw[um];omega);rw[aii 0 ae,PZ] at h1;exact absurd h1 aB
theorem aaL (t:Tg) (pay:List UInt8):(page t pay).take pay.length=pay:=by rw[page,List.take_append_of_le_length (Nat.le_refl _),List.take_of_length_le (Nat.le_refl _)]
theorem aaM (t:Tg) (pay:List UInt8):(page t pay).drop pay.length=beside t pay:=by rw[page,List.drop_append_of_le_length (Nat.le_refl _),List.drop_of_length_le (Nat.le_refl _),List.nil_append]
theorem aaN {t:Tg} (ht:Right t) (pay:List UInt8):Good pay (beside t pay)/\raw (beside t pay)=t:=(Ld ht (I4 t pay)).1 rfl
theorem DR {t:Tg} (ht:Right t) {pay:List UInt8} (hf:Fits pay.length):ed (page t pay)=t/\jm (page t pay)=pay/\fK (page t pay)=0:=by obtain⟨g1,g2⟩:=aaN ht pay;unfold ed jm fK;rw[um,Nat.add_sub_cancel,P5,aaL,aaM,if_pos ⟨hf,rfl,g1⟩,if_pos ⟨hf,rfl,g1⟩,if_pos hf,if_neg au,if_pos g1];exact⟨g2,rfl,rfl⟩
end Tg
end
section
open Go.RowKit eX

theorem II:prog.cellsOf 67=4:=az
section
variable {NB B n:Nat} {R:Nat->Prop} {w:World} {f:Fm}
namespace eX
theorem IG {p:Nat} {x:En} (h:lW f p=some x):x∈f.se++f.no:=by
 unfold lW at h
 cases hn:aG f.no p with
 |some e=>
  rw[hn] at h;obtain rfl:e=x:=Option.some.inj h;exact List.mem_append_right _ (iq hn).1
 |none=>
  rw[hn] at h;simp only at h;split at h
  ·cases h
  ·exact List.mem_append_left _ (iq h).1
end eX
end
end
end Go.Proofs.YtnieckfelfoopaaGreat

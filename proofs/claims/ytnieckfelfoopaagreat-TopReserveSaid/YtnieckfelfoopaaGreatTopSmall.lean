import Derived.Deep.DrawnRows
import Derived.StillTailTactics
import Derived.Test.YtnieckfelfoopaaGreatTagWrite
open Array renaming replicate->cB
open Go.IntWalk renaming i64_in->bq
open Go.RowKit.Below renaming refl->aE
open Go.World renaming cell?_setCell_far->cK
open List renaming replicate->bt,take_of_length_le->cL,nil_append->cP,getElem_mem->cS,length_drop->dk,drop_drop->dr
open Nat renaming le_refl->bp,lt_of_lt_of_le->cM
open Go.Value renaming int->O,slice->an,tuple->ao,bool->aq
open Go.IntKind renaming i64->aa
open Go.Ending renaming returned->ar
open Go.RowKit renaming Hid->aL
open Go.Proofs.Tryz (prog)
set_option maxRecDepth 100000
set_option maxHeartbeats 16000000
namespace Go.Proofs.YtnieckfelfoopaaGreat
open Lib (hid)
section
open RowKit
def Rd (xs:List UInt8) (w:World) (e:Ending) w':=
 ∃a n c,e=ar (ao #[tagV (Tg.fC xs),an a n c,O aa (Tg.fZ xs)])/\Bytes w' w' a n (Tg.jS xs)/\n<=c/\Below w w w'
theorem X7 {xs n} (hl:xs.length=n) (h:n<32\/¬Tg.Fits (n-32)):Tg.fC xs=Tg.zero/\Tg.jS xs=[]/\Tg.fZ xs=1:=by
 have h2:¬Tg.Fits (xs.length-32):=by
  rw[hl];rcases h with h|h
  .intro g;unfold Tg.Fits at g;omega
  .exact h
 unfold Tg.fC Tg.jS Tg.fZ;rw[eo (λg=>h2 g.1),eo (λg=>h2 g.1),eo h2];exact⟨rfl,rfl,rfl⟩
theorem ED {xs m} (hl:xs.length=m+32) (h:Tg.Fits m) (hf:Tg.full xs=true):Tg.fC xs=Tg.zero/\Tg.jS xs=[]/\Tg.fZ xs=20:=by unfold Tg.fC Tg.jS Tg.fZ;rw[hl,Nat.add_sub_cancel,hf,eo au,eo au,ev h,ev rfl];exact⟨rfl,rfl,rfl⟩
theorem Ui {xs m} (hl:xs.length=m+32) (h:Tg.Fits m) (hf:Tg.full xs=false) (hg:¬Tg.Good (xs.take m) (xs.drop m)):Tg.fC xs=Tg.zero/\Tg.jS xs=[]/\Tg.fZ xs=21:=by unfold Tg.fC Tg.jS Tg.fZ;rw[hl,Nat.add_sub_cancel,hf,eo (λg=>hg g.2.2),eo (λg=>hg g.2.2),ev h,eo au,eo hg];exact⟨rfl,rfl,rfl⟩
theorem acn {xs m} (hl:xs.length=m+32) (h:Tg.Fits m) (hf:Tg.full xs=false) (hg:Tg.Good (xs.take m) (xs.drop m)):Tg.fC xs=Tg.raw (xs.drop m)/\Tg.jS xs=xs.take m/\Tg.fZ xs=0:=by unfold Tg.fC Tg.jS Tg.fZ;rw[hl,Nat.add_sub_cancel,hf,ev ⟨h,rfl,hg⟩,ev ⟨h,rfl,hg⟩,ev h,eo au,ev hg];exact⟨rfl,rfl,rfl⟩
theorem xI {xs w w' e x} (h:Tg.fC xs=Tg.zero/\Tg.jS xs=[]/\Tg.fZ xs=x) (he:e=ar (ao #[tagV Tg.zero,an none 0 0,O aa x])) (hb:Below w.heap.size w w'):Rd xs w e w':=by
 obtain⟨h1,h2,h3⟩:=h;refine⟨none,0,0,?_,?_,bp _,hb⟩
 .rw[he,h1,h3]
 .rw[h2];exact jq.none_ _ _ _
theorem X9 a n c xs w (hx:Bytes w w a n xs) (h:n<32\/¬Tg.Fits (n-32)):
  Calls prog 224 #[an a n c] w (Rd xs w):=by
 have AA:=hx.room;have HR:=ag (X7 hx.len h);by_cases hn:n<32
 .have h1:decide ((n:Int)-32<0)=true:=ez ae;clear h hx
  go_in
  go_wp2;refine bodyPost_ret (v:=ao #[tagV Tg.zero,an none 0 0,O aa 1]) (by simp[results,Tryz.results224,go_sem,tagV,Tg.zero]) rfl (xI HR.o rfl ?_);exact(aE _ _).alloc av _
 .have h1:decide ((n:Int)-32<0)=false:=ey ae;have h2:¬((n:Int)-32=64\/(n:Int)-32=128\/(n:Int)-32=256\/(n:Int)-32=512):=by
   rcases h with h|h
   .exact absurd h hn
   .intro g;exact h (by unfold Tg.Fits;omega)
  have H2:=ag h2;clear h h2 hx
  go_in
  go_wp2_with fail;refine(alQ _ H2.o _).cj ?_;go_wp2;refine bodyPost_ret (v:=ao #[tagV Tg.zero,an none 0 0,O aa 1]) (by simp[results,Tryz.results224,go_sem,tagV,Tg.zero]) rfl (xI HR.o rfl ?_);exact(aE _ _).alloc av _
theorem aaX a m c xs w (hx:Bytes w w a (m+32) xs) (hf:Tg.Fits m) (hfull:Tg.full xs=true):
  Calls prog 224 #[an a (m+32) c] w (Rd xs w):=by
 have HR:=ag (ED hx.len hf hfull);have HX:=ag (hx.alloc (.cells bj 67));have gu:64<=m/\m<=512:=by unfold Tg.Fits at hf;omega
 obtain⟨bP,aZ⟩:=gu;have HF:=ag hf;clear hf hx
 go_in
 go_wp2_with fail;refine(MX m HF.o _).cj ?_;go_wp2_with fail;refine(Es a _ c xs _ HX.o).cj ?_;rw[hfull];go_wp2;refine bodyPost_ret (v:=ao #[tagV Tg.zero,an none 0 0,O aa 20]) (by simp[results,Tryz.results224,go_sem,tagV,Tg.zero]) rfl (xI HR.o rfl ?_);exact(aE _ _).alloc av _
theorem zA k p s e:(#[O aa k,O .u32 p,O .u64 s,O .u64 e]:Array Value).all (·.oneCell')=true:=by simp[Value.oneCell']
theorem tagInfo:(prog.info? 67).map (·.size)=some 4:=az
def Rdw (xs:List UInt8) (w:World) (e:Ending) w':=
 ∃a n c,e=ar (ao #[tagV (Tg.fC xs),an a n c,O aa (Tg.fZ xs)])/\Bytes w' w' a n (Tg.jS xs)/\n<=c/\Below w w w'/\(∀b o,a=some ⟨b,o,none⟩->w<=b/\b<w')/\Own aJ 5 w' w (an a n c) (Tg.jS xs)
theorem zB {xs w w' e x} (h:Tg.fC xs=Tg.zero/\Tg.jS xs=[]/\Tg.fZ xs=x) (he:e=ar (ao #[tagV Tg.zero,an none 0 0,O aa x])) (hb:Below w.heap.size w w'):Rdw xs w e w':=by
 obtain⟨h1,h2,h3⟩:=h;refine⟨none,0,0,?_,?_,bp _,hb,(λb o e=>by cases e),by rw[h2];exact Own.nil _ _⟩
 .rw[he,h1,h3]
 .rw[h2];exact jq.none_ _ _ _
theorem Cm a m c xs w (hx:Bytes w w a (m+32) xs) (hc:m+32<=c) (hf:Tg.Fits m) (hfull:Tg.full xs=false):
  Calls prog 224 #[an a (m+32) c] w (Rdw xs w):=by
 have hmf:∀(fn:Fn) (first cap:Array Value) (w:World),(Instr.makeFunc fn first cap).run prog w= .ok (.func fn first cap) w:=λ_ _ _ _=>rfl;have HXa:=ag (hx.alloc (.cells bj 67));have gu:64<=m/\m<=512:=by unfold Tg.Fits at hf;omega
 obtain⟨bP,aZ⟩:=gu;have HF:=ag hf;have HL:=ag hx.len;have hcut:=kE a (m+32) c m ae;rw[show m+32-m=32 by omega] at hcut;have hld:(xs.drop m).length=32:=by rw[dk,hx.len];omega
 have hxd:=hx.drop (l:=m) ae hc;rw[show m+32-m=32 by omega] at hxd;have hto:=Ry a (m+32) c (m+24) ae;rw[show((m+24:Nat):Int)=(m:Int)+24 by omega] at hto;have HTO:=ag hto;have HX:=ag hx;have hrb:=Tg.aaA (xs.drop m);obtain⟨d,hd⟩:=aW (xs.drop m);rw[<-hd] at hld hxd hrb;have HD:=ag hd;have HLD:=ag hld;have HXD:=ag hxd;have HRB:=ag hrb;have HFL:=ag hfull;clear hf hx hto hxd hld hrb hd hfull
 go_in
 go_wp2_with fail;refine(MX m HF.o _).cj ?_;go_wp2_with fail;refine(Es a _ c xs _ HXa.o).cj ?_;rw[HFL.o];obtain⟨w2,jT⟩:∃w2,w2=(w.alloc (.cells bj 67)).alloc (.cells #[an (iQ a c m) 32 (c-m:Nat)] 23):=⟨_,rfl⟩
 have ary:Below w w w2:=by rw[jT];exact((aE _ _).alloc av _).alloc au _
 have tu:w2.heap.size=w.heap.size+2:=by rw[jT];simp
 have bg2:aF w2 w 67 bj:=by rw[jT];exact(aF.new w _ _).alloc _
 have br2:aF w2 (w.heap.size+1) 23 #[an (iQ a c m) 32 (c-m:Nat)]:=by have h:=aF.new (w.alloc (.cells bj 67)) 23 #[an (iQ a c m) 32 (c-m:Nat)];rw[show(w.alloc (.cells bj 67)).heap.size=w.heap.size+1 by simp] at h;rw[jT];exact h
 have wP:Bytes w2 w (iQ a c m) 32 (d.drop 0):=by rw[List.drop_zero];exact HXD.below ary
 go_wp2_with fail;rw[<-jT];clear jT hmf hcut;refine(jY (w.heap.size+1) w (iQ a c m) 32 (c-m) d 2 30 0 2 w2 br2 wP ae ae rfl rfl ae).mono ?_;rintro _ w3 ⟨rfl,ht⟩;obtain⟨⟨a3,c3,br3,Y3,xM⟩,ahK,hz3,ahL⟩:=ht;have bg3:=ahK ae bg2;have bJ:=ary.trans (ahL ae);clear ahK ahL br2 wP ary bg2;have nM:=Tg.oK (d:=d) (i:=0) (k:=2);generalize hM:Tg.num d 0 2=M at*;have HM:=ag hM;have HNM:=ag nM;clear hM nM;go_wp2_with fail;refine(jY (w.heap.size+1) w a3 30 c3 d 1 29 2 3 w3 br3 Y3 xM ae rfl rfl ae).mono ?_;rintro _ w4 ⟨rfl,ht⟩;obtain⟨⟨a4,c4,br4,hx4,U4⟩,axf,hz4,Ya⟩:=ht;have bg4:=axf ae bg3;have eG:=bJ.trans (Ya ae);clear axf Ya br3 Y3 bJ bg3;have nK:Tg.num d 2 1<256:=Tg.oK (d:=d) (i:=2) (k:=1);generalize hK:Tg.num d 2 1=K at*;have HK:=ag hK;clear hK;go_wp2_with fail;refine(jY (w.heap.size+1) w a4 29 c4 d 1 28 3 4 w4 br4 hx4 U4 ae rfl rfl ae).mono ?_;rintro _ w5 ⟨rfl,ht⟩;obtain⟨⟨a5,c5,br5,hx5,Y7⟩,ael,hz5,ahM⟩:=ht;have bg5:=ael ae bg4;have eQ:=eG.trans (ahM ae);clear ael ahM br4 hx4 eG bg4;generalize hG:Tg.num d 3 1=G at*;have HG:=ag hG;clear hG;go_wp2_with fail;refine(jY (w.heap.size+1) w a5 28 c5 d 4 24 4 8 w5 br5 hx5 Y7 ae rfl rfl ae).mono ?_;rintro _ w6 ⟨rfl,ht⟩;obtain⟨⟨a6,c6,br6,hx6,hc6⟩,aem,hz6,ahN⟩:=ht;have bg6:=aem ae bg5;have fJ:=eQ.trans (ahN ae);clear aem ahN br5 hx5 eQ bg5;have nP:Tg.num d 4 4<4294967296:=Tg.oK (d:=d) (i:=4) (k:=4);generalize hP:Tg.num d 4 4=P at*;have HP:=ag hP;clear hP;obtain⟨w7,hw7⟩:=aW (w6.alloc (.cells #[O aa K,O .u32 P,O .u64 0,O .u64 0] 67));have Yb:Below w6 w6 w7:=by rw[hw7];exact(aE _ _).alloc av _
 have bg7:=bg6.ah Yb;have br7:=br6.ah Yb;have hx7:=hx6.below (Yb.mono ae);have jr:=fJ.trans (Yb.mono ae);have hz7:w7.heap.size=w.heap.size+3:=by rw[hw7];simp;omega
 have bi7:aF w7 w6 67 #[O aa K,O .u32 P,O .u64 0,O .u64 0]:=by rw[hw7];exact aF.new _ _ _
 rw[show w6.heap.size=w.heap.size+2 by omega] at bi7;have HZ6:=ag (show w6.heap.size=w.heap.size+2 by omega);clear bg6 br6 hx6 fJ Yb;go_wp2_with fail;rw[<-hw7];clear hw7;refine(jY (w.heap.size+1) w a6 24 c6 d 8 16 8 16 w7 br7 hx7 ae ae rfl rfl ae).mono ?_;rintro _ w8 ⟨rfl,ht⟩;obtain⟨⟨a8,c8,br8,hx8,YV⟩,arz,hz8,axn⟩:=ht;have bg8:=arz ae bg7;have bi8:=arz ae bi7;have ny:=jr.trans (axn ae);clear arz axn br7 hx7 jr bg7 bi7;have nS:Tg.num d 8 8<18446744073709551616:=Tg.oK (d:=d) (i:=8) (k:=8);generalize hS:Tg.num d 8 8=S at*;have HS:=ag hS;have HNS:=ag nS;clear hS nS;go_wp2_with fail;refine(jY (w.heap.size+1) w a8 16 c8 d 8 8 16 24 w8 br8 hx8 ae ae rfl rfl ae).mono ?_;rintro _ w9 ⟨rfl,ht⟩;obtain⟨⟨a9,c9,Yc,U6,WR⟩,lI,hz9,sO⟩:=ht;have Yd:=lI ae bg8;have Ai:=lI ae bi8;have iM:=ny.trans (sO ae);clear lI sO br8 hx8 ny bg8 bi8;have nE:Tg.num d 16 8<18446744073709551616:=Tg.oK (d:=d) (i:=16) (k:=8);generalize hE:Tg.num d 16 8=E at*;have HE:=ag hE;have HNE:=ag nE;clear hE nE;have i2:=Ai.aj (i:=2) rfl;have i3:=Ai.aj (i:=3) rfl;have f2:=Ai.frozen 2;have f3:=Ai.frozen 3;have Uj:aF ((w9.setCell (w.heap.size+2,2) (O .u64 S)).setCell (w.heap.size+2,3) (O .u64 E)) (w.heap.size+2) 67 #[O aa K,O .u32 P,O .u64 S,O .u64 E]:=(Ai.set 2 _).set 3 _;have ahP:=(Yd.far (p:=⟨w.heap.size+2,2,none⟩) au (O .u64 S)).far (p:=⟨w.heap.size+2,3,none⟩) au (O .u64 E);have al4:=(Yc.far (p:=⟨w.heap.size+2,2,none⟩) au (O .u64 S)).far (p:=⟨w.heap.size+2,3,none⟩) au (O .u64 E);have DJ:=(iM.setCell (p:=⟨w.heap.size+2,2,none⟩) au (O .u64 S)).setCell (p:=⟨w.heap.size+2,3,none⟩) au (O .u64 E);have al5:=U6.below (((aE w w9).setCell (p:=⟨w.heap.size+2,2,none⟩) au (O .u64 S)).setCell (p:=⟨w.heap.size+2,3,none⟩) au (O .u64 E));have adt:=ag Uj;have axo:=ag ahP;have WT:=ag al4;have aeg:=ag DJ;have akR:=ag al5;have akX:=ag (show((w9.setCell (w.heap.size+2,2) (O .u64 S)).setCell (w.heap.size+2,3) (O .u64 E)).heap.size=w.heap.size+3 by simp;omega);clear Uj ahP al4 DJ al5 Ai Yd Yc iM U6;go_wp2_with fail;clear i2 i3 f2 f3;refine(jY (w.heap.size+1) w a9 8 c9 d 4 4 24 28 _ WT.o akR.o ae ae rfl rfl ae).mono ?_;rintro _ sZ ⟨rfl,ht⟩;obtain⟨⟨a11,c11,axp,axq,ap0⟩,ahQ,arC,aov⟩:=ht;have ahR:=ahQ ae axo.o;have ahS:=ahQ ae adt.o;have TZ:=aeg.trans (aov ae);rw[akX.o] at arC;clear ahQ aov axo adt WT akR aeg akX;have nU:Tg.num d 24 4<4294967296:=Tg.oK (d:=d) (i:=24) (k:=4);generalize hU:Tg.num d 24 4=U at*;have HU:=ag hU;clear hU;go_wp2_with fail;refine(jY (w.heap.size+1) w a11 4 c11 d 4 0 28 32 sZ axp axq ae ae rfl rfl ae).mono ?_;rintro _ UF ⟨rfl,ht⟩;obtain⟨⟨a12,c12,aDH,aDI,aKY⟩,ahT,arD,aow⟩:=ht;have axr:=ahT ae ahR;have axs:=ahT ae ahS;have MZ:=TZ.trans (aow ae);rw[arC] at arD;have HBG:=ag axr;have HBI:=ag axs;have Ua:=ag MZ;have aKZ:=ag arD;clear ahT aow axp axq TZ ahR ahS aDH aDI axr axs MZ arC arD hz8 hz9 hz7 hz6 hz5 hz4 hz3 tu HZ6;generalize hN:Tg.num d 28 4=N at*;have HN:=ag hN;clear hN;have HT:=ag (λ(hg:¬Tg.Good (xs.take m) d)=>Ui HL.o HF.o HFL.o (show¬Tg.Good (xs.take m) (xs.drop m) by rw[<-HD.o];exact hg));have HRW:=ag (show Tg.raw d=⟨(K:Nat),P,S,E⟩ by simp only[Tg.raw,HK.o,HP.o,HS.o,HE.o]);by_cases c1:M=21827
 case neg=>
  have hg:=ag (show¬Tg.Good (xs.take m) d from λh=>c1 (by rw[<-HM.o];exact h.1));have t1:((M:Int) !=21827)=true:=by rw[bne_iff_ne];omega
  clear c1
  go_wp2_with (refine aH rfl rfl _ _ _ rfl w bj rfl rfl 67 bj HBG.o rfl tagInfo (zA 0 0 0 0) ?_)
  have q:=HBG.row bj;obtain⟨z0,z1,z2,z3⟩:=q.c4;refine bodyPost_ret (v:=ao #[.agg bj,an none 0 0,O aa 21]) (by simp[results,Tryz.results224,go_sem,z0,z1,z2,z3]) rfl (zB (HT.o hg.o) rfl (Ua.bU av _))
 subst c1;by_cases c2:G=0
 case neg=>
  have hg:=ag (show¬Tg.Good (xs.take m) d from λh=>c2 (by rw[<-HG.o];exact h.2.1));have t1:((G:Int) !=0)=true:=by rw[bne_iff_ne];omega
  clear c2
  go_wp2_with (refine aH rfl rfl _ _ _ rfl w bj rfl rfl 67 bj HBG.o rfl tagInfo (zA 0 0 0 0) ?_)
  have q:=HBG.row bj;obtain⟨z0,z1,z2,z3⟩:=q.c4;refine bodyPost_ret (v:=ao #[.agg bj,an none 0 0,O aa 21]) (by simp[results,Tryz.results224,go_sem,z0,z1,z2,z3]) rfl (zB (HT.o hg.o) rfl (Ua.bU av _))
 subst c2;by_cases c3:N=0
 case neg=>
  have hg:=ag (show¬Tg.Good (xs.take m) d from λh=>c3 (by rw[<-HN.o];exact h.2.2.1));have t1:((N:Int) !=0)=true:=by rw[bne_iff_ne];omega
  clear c3
  go_wp2_with (refine aH rfl rfl _ _ _ rfl w bj rfl rfl 67 bj HBG.o rfl tagInfo (zA 0 0 0 0) ?_)
  have q:=HBG.row bj;obtain⟨z0,z1,z2,z3⟩:=q.c4;refine bodyPost_ret (v:=ao #[.agg bj,an none 0 0,O aa 21]) (by simp[results,Tryz.results224,go_sem,z0,z1,z2,z3]) rfl (zB (HT.o hg.o) rfl (Ua.bU av _))
 subst c3;obtain⟨y0,y1,y2,y3⟩:=HBI.c4;by_cases c4:Tg.Right ⟨(K:Nat),P,S,E⟩
 case neg=>
  have hg:=ag (show¬Tg.Good (xs.take m) d from λh=>c4 (by rw[<-HRW.o];exact h.2.2.2.1));have hb:=ag (Tg.dB c4);clear c4;go_wp2_with fail;refine(sH ⟨(K:Nat),P,S,E⟩ nP HNS.o HNE.o _).mono ?_;rw[hb.o];rintro _ w13 ⟨rfl,nI⟩;have Jl:=ag (HBG.ah nI);have Gi:=ag (Ua.trans (nI.mono Ua.size));clear nI y0 y1 y2 y3
  go_wp2_with (refine aH rfl rfl _ _ _ rfl w bj rfl rfl 67 bj Jl.o rfl tagInfo (zA 0 0 0 0) ?_)
  have q:=Jl.row bj;obtain⟨z0,z1,z2,z3⟩:=q.c4;refine bodyPost_ret (v:=ao #[.agg bj,an none 0 0,O aa 21]) (by simp[results,Tryz.results224,go_sem,z0,z1,z2,z3]) rfl (zB (HT.o hg.o) rfl (Gi.bU av _))
 have hb:=ag (Tg.jC c4);have N8:=ag c4;clear c4;go_wp2_with fail;refine(sH ⟨(K:Nat),P,S,E⟩ nP HNS.o HNE.o _).mono ?_;rw[hb.o];rintro _ w13 ⟨rfl,nI⟩;have Jl:=ag (HBG.ah nI);have Uk:=ag (HBI.ah nI);have Gi:=ag (Ua.trans (nI.mono Ua.size));have axt:=ag ((HX.below Gi.o).mono Gi.size);clear nI y0 y1 y2 y3;have aDJ:=ag (axt.take (k:=m+24) ae);have hto:=HTO.o;go_wp2_with fail;clear hto;refine(QE a (m+24) c (xs.take (m+24)) _ aDJ.o).mono ?_;rintro _ w14 ⟨rfl,rfl⟩;have aqH:=(lU.sum (xs.take (m+24))).isLt;have HSM:=ag (show(lU.sum (xs.take (m+24))).toNat=(lU.sum (xs.take m++d.take 24)).toNat by rw[List.take_add,HD.o]);generalize (lU.sum (xs.take (m+24))).toNat=V at*;by_cases c5:U=V
 case neg=>
  have hg:=ag (show¬Tg.Good (xs.take m) d from λh=>c5 (by rw[<-HU.o,HSM.o];exact h.2.2.2.2));have t1:((U:Int) !=(V:Int))=true:=by rw[bne_iff_ne];omega
  clear c5
  go_wp2_with (refine aH rfl rfl _ _ _ rfl w bj rfl rfl 67 bj Jl.o rfl tagInfo (zA 0 0 0 0) ?_)
  have q:=Jl.row bj;obtain⟨z0,z1,z2,z3⟩:=q.c4;refine bodyPost_ret (v:=ao #[.agg bj,an none 0 0,O aa 21]) (by simp[results,Tryz.results224,go_sem,z0,z1,z2,z3]) rfl (zB (HT.o hg.o) rfl (Gi.bU av _))
 subst c5;have VP:Tg.Good (xs.take m) d:=⟨HM.o,HG.o,HN.o,by rw[HRW.o];exact N8.o,by rw[HU.o];exact HSM.o⟩
 have sU:=ag (acn HL.o HF.o HFL.o (show Tg.Good (xs.take m) (xs.drop m) by rw[<-HD.o];exact VP));have hto:=Ry a (m+32) c m ae;have t1:((U:Int) !=(U:Int))=false:=by rw[bne_eq_false_iff_eq]
 clear VP;have HXm:=ag (axt.take (k:=m) ae);obtain⟨y0,y1,y2,y3⟩:=Uk.c4;have arE:=ag (show w.heap.size+3<=w13.heap.size by have h1:=Gi.size;have h2:=Uk.lt;omega);clear hb HT;go_wp2_with fail
 go_region_held3 (λW'=>W'.cell? ⟨w.heap.size+2,0,none⟩=some (O aa K)/\W'.cell? ⟨w.heap.size+2,1,none⟩=some (O .u32 P)/\W'.cell? ⟨w.heap.size+2,2,none⟩=some (O .u64 S)/\W'.cell? ⟨w.heap.size+2,3,none⟩=some (O .u64 E)) (first|exact⟨y0,y1,y2,y3⟩|exact⟨x0,x1,x2,x3⟩|go_keep)
  ((refine acT rfl _ _ rfl w13 _ [] rfl (Own.nil _ _) _ a m c (xs.take m) rfl HXm.o (by simp;omega) av ?_;intro v15 w15 arF aen;have Aj:=ag (aF.below (w:=w13.drew) Jl.drew aen.o Jl.lt);have aeo:=ag (aF.below (w:=w13.drew) Uk.drew aen.o Uk.lt);have x0:=aeo.aj (i:=0) rfl;have x1:=aeo.aj (i:=1) rfl;have x2:=aeo.aj (i:=2) rfl;have x3:=aeo.aj (i:=3) rfl;have z0:=Aj.aj (i:=0) rfl;have z1:=Aj.aj (i:=1) rfl;have z2:=Aj.aj (i:=2) rfl;have z3:=Aj.aj (i:=3) rfl;have f0:=Aj.frozen 0;have f1:=Aj.frozen 1;have f2:=Aj.frozen 2;have f3:=Aj.frozen 3))
 have ahV:v15.ownBlock≠some w.heap.size:=λe=>by have h1:=(arF.aN _ e).1;have h2:=arE.o;omega
 have HOf:=ag ((((arF.far (p:=⟨w.heap.size,0,none⟩) ahV (O aa K)).far (p:=⟨w.heap.size,1,none⟩) ahV (O .u32 P)).far (p:=⟨w.heap.size,2,none⟩) ahV (O .u64 S)).far (p:=⟨w.heap.size,3,none⟩) ahV (O .u64 E));have xE:=ag ((((Aj.set 0 (O aa K)).set 1 (O .u32 P)).set 2 (O .u64 S)).set 3 (O .u64 E));have HBB:=ag ((((((Gi.drew).trans (aen.mono Gi.size)).setCell (p:=⟨w.heap.size,0,none⟩) av (O aa K)).setCell (p:=⟨w.heap.size,1,none⟩) av (O .u32 P)).setCell (p:=⟨w.heap.size,2,none⟩) av (O .u64 S)).setCell (p:=⟨w.heap.size,3,none⟩) av (O .u64 E));obtain⟨a15,c15,rfl,aDL⟩:=arF.bG (n:=m) (by rw[cP];exact HXm.len);clear x0 x1 x2 x3 y0 y1 y2 y3 z0 z1 z2 z3 f0 f1 f2 f3 ahV;generalize ((((w15.setCell (w.heap.size,0) (O aa K)).setCell (w.heap.size,1) (O .u32 P)).setCell (w.heap.size,2) (O .u64 S)).setCell (w.heap.size,3) (O .u64 E))=wf at*;obtain⟨z0,z1,z2,z3⟩:=xE.c4;go_wp2;refine bodyPost_ret (v:=ao #[.agg #[O aa K,O .u32 P,O .u64 S,O .u64 E],an a15 m c15,O aa 0]) (by simp[results,Tryz.results224,go_sem,z0,z1,z2,z3]) rfl ⟨a15,m,c15,?_,?_,aDL,HBB.o,λb o e=>?_,?_⟩
 .rw[sU.o.1,sU.o.2.2,<-HD.o,HRW.o]
 .rw[sU.o.2.1];have h:=HOf.arr (by rw[cP,HXm.len];omega);rw[cP] at h;exact h
 .have h:=HOf.aN b (by rw[e];rfl);have:=arE.o;omega
 .rw[sU.o.2.1];have h:=HOf.mono (base':=w.heap.size) (by have:=arE.o;omega);rw[cP] at h;exact h
theorem aek a m c xs w (hx:Bytes w w a (m+32) xs) (hc:m+32<=c) (hf:Tg.Fits m) (h0:Tg.fZ xs=0):
  Calls prog 224 #[an a (m+32) c] w (Rdw xs w):=by
 refine Cm a m c xs w hx hc hf ?_
 cases hfull:Tg.full xs
 .rfl
 .have:=(ED hx.len hf hfull).2.2;rw[h0] at this;cases this
theorem Ij a n c xs w (hx:Bytes w w a n xs) (uD:n<=c):
  Calls prog 224 #[an a n c] w (Rd xs w):=by
 by_cases h:n<32\/¬Tg.Fits (n-32)
 .exact X9 a n c xs w hx h
 .obtain⟨m,rfl⟩:∃m,n=m+32:=⟨n-32,ae⟩
  rw[Nat.add_sub_cancel] at h;have hf:Tg.Fits m:=Decidable.byContradiction λg=>h (.inr g)
  cases hfull:Tg.full xs
  .exact(Cm a m c xs w hx uD hf hfull).mono λe w' ⟨a',n',c',h1,h2,h3,h4,_⟩=>⟨a',n',c',h1,h2,h3,h4⟩
  .exact aaX a m c xs w hx hf hfull
theorem Nk a n c xs w (hx:Bytes w w a n xs) (h:n<32\/¬Tg.Fits (n-32)):
  Calls prog 24 #[an a n c] w (Rd xs w):=by
 have AA:=hx.room;have HR:=ag (X7 hx.len h);have h2:¬((n:Int)-32=64\/(n:Int)-32=128\/(n:Int)-32=256\/(n:Int)-32=512):=by
  rcases h with h|h
  .omega
  .intro g;exact h (by unfold Tg.Fits;omega)
 have H2:=ag h2;clear h h2 hx
 go_in
 go_wp2_with fail;refine(aaO _ H2.o _).cj ?_;go_wp2;refine bodyPost_ret (v:=ao #[tagV Tg.zero,an none 0 0,O aa 1]) (by simp[results,Tryz.results24,go_sem,tagV,Tg.zero]) rfl (xI HR.o rfl ?_);exact(aE _ _).alloc av _
theorem ahW (x:UInt8):((x.toNat:Int)==255)=(x==255):=by rw[Bool.eq_iff_iff,beq_iff_eq,beq_iff_eq,awX]
theorem PD a m c xs w (hx:Bytes w w a (m+32) xs) (hc:m+32<=c) (hf:Tg.Fits m):
  Calls prog 24 #[an a (m+32) c] w (Rd xs w):=by
 have gu:64<=m/\m<=512:=by unfold Tg.Fits at hf;omega
 obtain⟨bP,aZ⟩:=gu;have HF:=ag hf;have HL:=ag hx.len;have bg1:=aF.new w 67 bj;have arG:Below w w (w.alloc (.cells bj 67)):=(aE _ _).alloc av _;have wO:=hx.on arG;have yg:=ag wO;have HX0:=ag hx;clear hf hx wO
 go_in
 go_wp2_with fail;refine(XT m HF.o _).cj ?_;have al6:=ag bg1;have bV:=ag arG;clear bg1 arG;go_wp2_with fail;generalize w.alloc (.cells bj 67)=w1 at*
 go_loop [6,7] (λf i=>∃k:Nat,k<=m+32/\i=O aa k/\f=aq (Tg.full (xs.take k))) (λ_ i=>m+32-(intOf i).toNat)
 case atStart=>exact⟨0,ae,rfl,rfl⟩
 case round=>
  obtain⟨k,hk,rfl,rfl⟩:=hrel;by_cases aT:k<m+32
  .obtain⟨b,o,nD,rfl,hb,rC⟩:=yg.at_ aT;have h3:=ag (zh xs k nD)
   cases hfl:Tg.full (xs.take k)
   .have HFL:=ag hfl;clear hfl;go_wp2
    go_round
    case rel=>exact⟨k+1,ae,by go_num,by rw[h3.o,HFL.o];rfl⟩
    case measure=>simp[intOf];omega
   .have HFL:=ag hfl;clear hfl;go_wp2
    go_round
    case rel=>exact⟨k+1,ae,by go_num,by rw[h3.o,HFL.o,Bool.true_and];exact congrArg Value.bool (ahW xs[k])⟩
    case measure=>simp[intOf];omega
  .obtain rfl:k=m+32:=ae;have e:xs.take (m+32)=xs:=cL (by rw[HL.o];omega);rw[e]
   cases hfl:Tg.full xs
   case true=>
    have HR:=ag (ED HL.o HF.o hfl);have HBG:=ag al6.o;clear hfl e
    go_wp2_with (refine aH rfl rfl _ _ _ rfl w bj rfl rfl 67 bj HBG.o rfl tagInfo (zA 0 0 0 0) ?_)
    have q:=HBG.row bj;obtain⟨z0,z1,z2,z3⟩:=q.c4;refine bodyPost_ret (v:=ao #[.agg bj,an none 0 0,O aa 20]) (by simp[results,Tryz.results24,go_sem,z0,z1,z2,z3]) rfl (xI HR.o rfl (bV.bU av _))
   case false=>
    have HFL:=ag hfl;clear hfl e;obtain⟨b,o,WA,rfl,nI,YX⟩:=yg.at_ (k:=m+2) ae;have pK:Hid (b≠w.heap.size):=ag (by obtain⟨b',o',_,e,aT,_⟩:=HX0.at_ (k:=m+2) ae;simp only[Option.some.injEq,Addr.mk.injEq,and_true] at e;obtain⟨rfl,rfl⟩:=e;exact Nat.ne_of_lt aT);have al7:w1.cell? (b,o+(m+2))=some (O .u8 (xs[m+2].toNat)):=YX;have hkb:=(xs[m+2]).toNat_lt;have hK0:Tg.num (xs.drop m) 2 1=xs[m+2].toNat:=by rw[Tg.num,dr,List.drop_eq_getElem_cons WA,List.take_succ_cons,List.take_zero];simp only[dX];omega
    obtain⟨d,hd⟩:=aW (xs.drop m);rw[<-hd] at hK0;have HD:=ag hd;obtain⟨P,hP⟩:=aW (Tg.num d 4 4);obtain⟨S,hS⟩:=aW (Tg.num d 8 8);obtain⟨E,hE⟩:=aW (Tg.num d 16 8);have nP:P<4294967296:=by rw[hP];exact Tg.oK (d:=d) (i:=4) (k:=4)
    have nS:S<18446744073709551616:=by rw[hS];exact Tg.oK (d:=d) (i:=8) (k:=8)
    have nE:E<18446744073709551616:=by rw[hE];exact Tg.oK (d:=d) (i:=16) (k:=8)
    have HNS:=ag nS;have HNE:=ag nE;have eP:dX ((xs.drop (m+4)).take 4)=P:=by rw[hP,hd,Tg.num,dr]
    have eS:dX ((xs.drop (m+8)).take 8)=S:=by rw[hS,hd,Tg.num,dr]
    have eE:dX ((xs.drop (m+16)).take 8)=E:=by rw[hE,hd,Tg.num,dr]
    have HEP:=ag eP;have HES:=ag eS;have HEE:=ag eE;have ahX:Tg.raw d=⟨(xs[m+2].toNat:Nat),P,S,E⟩:=by simp only[Tg.raw,hK0,hP,hS,hE]
    have HRW:=ag ahX;clear hd hP hS hE nS nE eP eS eE ahX hK0 YX;have hy4:=(yg.drop (l:=m+4) ae hc).take (k:=4) ae;have hy8:=(yg.drop (l:=m+8) ae hc).take (k:=8) ae;have axu:=(yg.drop (l:=m+16) ae hc).take (k:=8) ae;have HY4:=ag hy4;have HY8:=ag hy8;have axv:=ag axu;have axw:=vK (b,o) (m+32) c (m+4) (m+8) ae ae;have axx:=vK (b,o) (m+32) c (m+8) (m+16) ae ae;have aoy:=vK (b,o) (m+32) c (m+16) (m+24) ae ae;rw[show((m+4:Nat):Int)=(m:Int)+4 by omega,show((m+8:Nat):Int)=(m:Int)+8 by omega,show m+8-(m+4)=4 by omega] at axw;rw[show((m+8:Nat):Int)=(m:Int)+8 by omega,show((m+16:Nat):Int)=(m:Int)+16 by omega,show m+16-(m+8)=8 by omega] at axx;rw[show((m+16:Nat):Int)=(m:Int)+16 by omega,show((m+24:Nat):Int)=(m:Int)+24 by omega,show m+24-(m+16)=8 by omega] at aoy;clear hy4 hy8 axu;have b2:(0:Int)<=(m:Int)+2:=ae;have b2':(m:Int)+2<(m:Int)+32:=ae;have n2:((m:Int)+2).toNat=m+2:=ae;have g2:=bq ((m:Int)+2) ⟨ae,ae⟩;have g4:=bq ((m:Int)+4) ⟨ae,ae⟩;have g8:=bq ((m:Int)+8) ⟨ae,ae⟩;have g16:=bq ((m:Int)+16) ⟨ae,ae⟩;have g24:=bq ((m:Int)+24) ⟨ae,ae⟩;have hwP:=IntWalk.u32_in (P:Int) ⟨ae,ae⟩;have hwK:=bq ((xs[m+2]).toNat:Int) ⟨ae,ae⟩;go_wp2_with fail
    go_cut [8] (λs8 wx=>s8= .pointer (aw w1.heap.size 0)/\aF wx w1 67 #[O aa (xs[m+2].toNat),O .u32 P,O .u64 S,O .u64 E]/\Below w1 w1 wx)
    case first=>
     go_region_held3 (λw'=>Below w1 w1 w'/\w'.cell? (aw b (o+(m+2)))=some (O .u8 (xs[m+2].toNat)))
      (first
       |exact⟨(aE _ _).drew,al7⟩
       |exact⟨Below.drew (And.left mP),And.right mP⟩
       |exact⟨((aE _ _).alloc av _).drew,(World.cell?_alloc_past _ _ _ nI).trans al7⟩
       |exact⟨Below.drew (Below.alloc (And.left mP) (Below.size (And.left mP)) _),(World.cell?_alloc_past _ _ _ (cM nI (Below.size (And.left mP)))).trans (And.right mP)⟩
       |exact⟨Below.setCell (And.left mP) (Below.size (And.left mP)) _,And.right mP⟩
       |assumption)
      (first
       |(go_at_call 62;((with_reducible refine(xB _ 4 _ ((xs.drop (m+4)).take 4) _ (jq.on HY4.o (And.left mP)) ae).mono ?_);rintro e w' ⟨rfl,rfl⟩;rw[HEP.o]))
       |(go_at_call 62;((with_reducible refine(xB _ 8 _ ((xs.drop (m+8)).take 8) _ (jq.on HY8.o (And.left mP)) ae).mono ?_);rintro e w' ⟨rfl,rfl⟩;rw[HES.o]))
       |(go_at_call 62;((with_reducible refine(xB _ 8 _ ((xs.drop (m+16)).take 8) _ (jq.on axv.o (And.left mP)) ae).mono ?_);rintro e w' ⟨rfl,rfl⟩;rw[HEE.o])))
     all_goals
      go_wp2_with fail;go_meet;exact⟨rfl,(aF.new _ _ _).drew,((aE _ _).alloc av _).drew⟩
    case rest=>
     obtain⟨rfl,bi2,aZ⟩:=hcut;clear hwP hwK g2 g4 g8 g16 g24 n2 b2 b2' axw axx aoy HY4 HY8 axv;have bg2:=al6.ah aZ;have wP:=yg.on aZ;have axy:=bV.trans (aZ.mono bV.size);have ZF:=ag bi2;have oC:=ag bg2;have NK:=ag wP;have df:=ag axy;have HZ2:=ag bi2.lt;have HZ1:=ag (show w.heap.size<w1.heap.size from al6.lt);clear bi2 bg2 wP aZ axy yg al6 bV nI al7 HEP HES HEE;generalize xs[m+2].toNat=K at*;generalize w1.heap.size=z1 at*;by_cases hr:Tg.Right ⟨(K:Nat),P,S,E⟩
     case neg=>
      have hrb:=ag (Tg.dB hr);have xO:=ag (Ui HL.o HF.o HFL.o (λh=>hr (by have:=h.2.2.2.1;rw[<-HD.o,HRW.o] at this;exact this)));clear hr;obtain⟨y0,y1,y2,y3⟩:=ZF.c4;go_wp2_with fail;refine iE (λW'=>W'.cell? (aw z1 0)=some (O aa K)/\W'.cell? (aw z1 1)=some (O .u32 P)/\W'.cell? (aw z1 2)=some (O .u64 S)/\W'.cell? (aw z1 3)=some (O .u64 E)) ⟨y0,y1,y2,y3⟩ (λaY=>?_);refine wpAnyH_take (i:=0) (v:= .agg #[O aa K,O .u32 P,O .u64 S,O .u64 E]) rfl az az az (λ_ _ _ h=>h) (Or.inl ⟨NV,λW aK=>?_⟩) mP ?_
      .obtain⟨e0,e1,e2,e3⟩:=aK;go_simp
      refine bY 1 (λK' hK=>?_);go_simp;refine(uy ⟨(K:Nat),P,S,E⟩ nP HNS.o HNE.o _).mono ?_;rw[hrb.o];rintro _ w13 ⟨rfl,nI⟩;have Jl:=ag (oC.drew.ah nI);have Uk:=ag (ZF.drew.ah nI);have Gi:=ag (df.drew.trans (nI.mono df.size));clear nI y0 y1 y2 y3 aY;obtain⟨x0,x1,x2,x3⟩:=Uk.c4;refine hK.out _ _ ⟨x0,x1,x2,x3⟩ (λdh=>?_);clear x0 x1 x2 x3
      refine dG 2 (aq true) ?_;refine dG 3 (aq true) ?_;refine oD 4 ?_;refine oD 5 ?_;refine oD 6 ?_;refine oD 7 ?_;refine oD 8 ?_;refine oD 9 ?_;refine oD 10 ?_;refine oD 11 ?_;refine oD 12 ?_;refine oD 13 ?_;refine oD 14 ?_;refine dG 15 (aq true) ?_;refine eH ?_;clear dh
      go_wp2_with (refine aH rfl rfl _ _ _ rfl w bj rfl rfl 67 bj Jl.o rfl tagInfo (zA 0 0 0 0) ?_)
      have q:=Jl.row bj;obtain⟨z0,z1,z2,z3⟩:=q.c4;refine bodyPost_ret (v:=ao #[.agg bj,an none 0 0,O aa 21]) (by simp[results,Tryz.results24,go_sem,z0,z1,z2,z3]) rfl (xI xO.o rfl (Gi.bU av _))
     have hrb:=ag (Tg.jC hr);have HRR:=ag hr;clear hr;have hgi:=ag (Tg.jm (pay:=xs.take m) (d:=d) (by rw[HD.o,dk,HL.o];omega));obtain⟨y0,y1,y2,y3⟩:=ZF.c4;have hxd:Bytes wc.drew wc.drew (iQ (b,o) c m) 32 d:=by have h:=(NK.o).drop (l:=m) ae hc;rw[show m+32-m=32 by omega,<-HD.o] at h;exact h
     have hto:=Ry (b,o) (m+32) c m ae;have aoz:=kE (b,o) (m+32) c m ae;rw[show m+32-m=32 by omega] at aoz;go_wp2_with fail;refine iE (λW'=>(W'.cell? (aw z1 0)=some (O aa K)/\W'.cell? (aw z1 1)=some (O .u32 P)/\W'.cell? (aw z1 2)=some (O .u64 S)/\W'.cell? (aw z1 3)=some (O .u64 E))/\Bytes W' W' (iQ (aw b o) c m) 32 d) ⟨⟨y0,y1,y2,y3⟩,hxd⟩ (λaY=>?_);refine jE 0 (.agg #[O aa K,O .u32 P,O .u64 S,O .u64 E]) rfl (λ_ aK=>by obtain⟨⟨e0,e1,e2,e3⟩,_⟩:=aK;go_simp) ?_;refine bY 1 (λK' hK=>?_);go_simp;refine(uy ⟨(K:Nat),P,S,E⟩ nP HNS.o HNE.o _).mono ?_;rw[hrb.o];rintro _ w13 ⟨rfl,nI⟩;have Jl:=ag (oC.drew.ah nI);have Uk:=ag (ZF.drew.ah nI);have Gi:=ag (df.drew.trans (nI.mono df.size));have IQ:=ag (jq.on (w:=wc.drew) NK.o nI);have arH:=jq.on hxd nI;clear nI y0 y1 y2 y3 aY hxd;obtain⟨x0,x1,x2,x3⟩:=Uk.c4;refine hK.out _ _ ⟨⟨x0,x1,x2,x3⟩,arH⟩ (λdh=>?_)
     refine dG 2 (aq false) ?_;refine dG 3 (aq false) ?_;refine jE 4 (.agg #[O aa K,O .u32 P,O .u64 S,O .u64 E]) rfl (λ_ aK=>by obtain⟨⟨e0,e1,e2,e3⟩,_⟩:=aK;go_simp) ?_;refine dG 5 (an (b,o) (m+32:Nat) c) ?_;refine dI 6 m ?_;refine eX 7 (an (b,o) m c) ?_;refine dG 10 (an (b,o) (m+32:Nat) c) ?_;refine dI 11 m ?_;refine eX 12 (an (iQ (b,o) c m) 32 (c-m:Nat)) ?_;refine kS 13 (.string (aX d)) (λ_ aK=>P9 (c:=c-m) aK.2) ?_;refine bY 8 (λK' hK=>?_);go_simp;refine(Jg ⟨(K:Nat),P,S,E⟩ (b,o) m c (xs.take m) _ HRR.o (IQ.take (k:=m) ae)).mono ?_;rintro _ w14 ⟨v14,rfl,hy,nI⟩;obtain⟨a14,c14,rfl,_⟩:=hy.bG (n:=32) (Tg.xC _ _);have axz:=hy.arr (by rw[Tg.xC];omega);have hcv:=P9 (c:=c14) axz;have al8:=ag (Jl.ah nI);have arI:=ag (Uk.ah nI);have arJ:=ag (Gi.trans (nI.mono Gi.size));have HX4:=ag (jq.on IQ.o nI);have arK:=jq.on arH nI;clear nI x0 x1 x2 x3 dh arH hy axz;obtain⟨x0,x1,x2,x3⟩:=arI.c4;refine hK.out _ _ ⟨⟨x0,x1,x2,x3⟩,arK⟩ (λfE=>?_)
     refine bY 9 (λK' hK=>?_);go_simp;refine hK.out _ _ fE (λiZ=>?_)
     clear hcv;by_cases nJ:Tg.beside ⟨(K:Nat),P,S,E⟩ (xs.take m)=d
     case neg=>
      have hq:=Md (Tg.beside ⟨(K:Nat),P,S,E⟩ (xs.take m)) d;rw[ey nJ] at hq;have xO:=ag (Ui HL.o HF.o HFL.o (λh=>nJ (by rw[<-HD.o] at h;have:=(hgi.o.1 h).2;rw[HRW.o] at this;exact this)));have nJ:=ag nJ;refine eX 14 (aq true) ?_;refine dG 15 (aq true) ?_;refine eH ?_;clear fE iZ arK x0 x1 x2 x3 hq
      go_wp2_with (refine aH rfl rfl _ _ _ rfl w bj rfl rfl 67 bj al8.o rfl tagInfo (zA 0 0 0 0) ?_)
      have q:=al8.row bj;obtain⟨z0,z1,z2,z3⟩:=q.c4;refine bodyPost_ret (v:=ao #[.agg bj,an none 0 0,O aa 21]) (by simp[results,Tryz.results24,go_sem,z0,z1,z2,z3]) rfl (xI xO.o rfl (arJ.bU av _))
     have hq:=Md (Tg.beside ⟨(K:Nat),P,S,E⟩ (xs.take m)) d;rw[ez nJ] at hq;have xO:=ag (acn HL.o HF.o HFL.o (by rw[<-HD.o];exact hgi.o.2 (by rw[HRW.o];exact⟨HRR.o,nJ⟩)));have HBD:=ag nJ;clear nJ;refine eX 14 (aq false) ?_;refine dG 15 (aq false) ?_;refine eH ?_;clear fE iZ arK hq aoz;go_wp2_with fail;have Aj:=ag al8.drew;have aeo:=ag arI.drew;have je:=ag arJ.drew;have Fq:Hid (Bytes w14.drew w14.drew (b,o) (m+32) xs):=ag HX4.o;refine iE (λW'=>W'.cell? (aw z1 0)=some (O aa K)/\W'.cell? (aw z1 1)=some (O .u32 P)/\W'.cell? (aw z1 2)=some (O .u64 S)/\W'.cell? (aw z1 3)=some (O .u64 E)) ⟨x0,x1,x2,x3⟩ (λaY=>?_);clear x0 x1 x2 x3 al8 arI arJ HX4;generalize w14.drew=w15 at*;refine jE 0 (.agg #[O aa K,O .u32 P,O .u64 S,O .u64 E]) rfl (λ_ aK=>by obtain⟨e0,e1,e2,e3⟩:=aK;go_simp) ?_;refine dG 1 (an (b,o) (m+32:Nat) c) ?_;refine dI 2 m ?_;refine eX 3 (an (b,o) m c) ?_;obtain⟨q0,q1,q2,q3⟩:=Aj.c4;have f0:=Aj.frozen 0;have f1:=Aj.frozen 1;have f2:=Aj.frozen 2;have f3:=Aj.frozen 3;refine bY 4 (λK' hK=>?_);go_simp;clear q0 q1 q2 q3 f0 f1 f2 f3;have xE:=ag ((((Aj.set 0 (O aa K)).set 1 (O .u32 P)).set 2 (O .u64 S)).set 3 (O .u64 E));have HBB:=ag ((((je.setCell (p:=⟨w.heap.size,0,none⟩) av (O aa K)).setCell (p:=⟨w.heap.size,1,none⟩) av (O .u32 P)).setCell (p:=⟨w.heap.size,2,none⟩) av (O .u64 S)).setCell (p:=⟨w.heap.size,3,none⟩) av (O .u64 E));have di:z1≠w.heap.size:=Nat.ne_of_gt HZ1.o;have HIf:=ag ((((aeo.far (p:=⟨w.heap.size,0,none⟩) di (O aa K)).far (p:=⟨w.heap.size,1,none⟩) di (O .u32 P)).far (p:=⟨w.heap.size,2,none⟩) di (O .u64 S)).far (p:=⟨w.heap.size,3,none⟩) di (O .u64 E));have hxb:b≠w.heap.size:=λe=>pK.o e;have HXf:=ag ((((Fq.take (k:=m) ae).aka (p:=⟨w.heap.size,0,none⟩) hxb (O aa K)).aka (p:=⟨w.heap.size,1,none⟩) hxb (O .u32 P)|>.aka (p:=⟨w.heap.size,2,none⟩) hxb (O .u64 S)).aka (p:=⟨w.heap.size,3,none⟩) hxb (O .u64 E));have HZf:=ag (show w15.heap.size<=((((w15.setCell (w.heap.size,0) (O aa K)).setCell (w.heap.size,1) (O .u32 P)).setCell (w.heap.size,2) (O .u64 S)).setCell (w.heap.size,3) (O .u64 E)).heap.size by simp);generalize ((((w15.setCell (w.heap.size,0) (O aa K)).setCell (w.heap.size,1) (O .u32 P)).setCell (w.heap.size,2) (O .u64 S)).setCell (w.heap.size,3) (O .u64 E))=wf at*;refine hK.out _ _ ⟨HIf.aj (i:=0) rfl,HIf.aj (i:=1) rfl,HIf.aj (i:=2) rfl,HIf.aj (i:=3) rfl⟩ (λqX=>?_)
     refine dG 5 (an (b,o) m c) ?_;refine dI 6 0 ?_;refine eH ?_;clear aY qX hto;obtain⟨c0,c1,c2,c3⟩:=xE.c4;go_wp2;refine bodyPost_ret (v:=ao #[.agg #[O aa K,O .u32 P,O .u64 S,O .u64 E],an (b,o) m c,O aa 0]) (by simp[results,Tryz.results24,go_sem,c0,c1,c2,c3]) rfl ⟨(b,o),m,c,?_,?_,ae,HBB.o⟩
     .rw[xO.o.1,xO.o.2.2,<-HD.o,HRW.o]
     .rw[xO.o.2.1];exact jq.mono HXf.o HZf.o
theorem Nl a n c xs w (hx:Bytes w w a n xs) (uD:n<=c):
  Calls prog 24 #[an a n c] w (Rd xs w):=by
 by_cases h:n<32\/¬Tg.Fits (n-32)
 .exact Nk a n c xs w hx h
 .obtain⟨m,rfl⟩:∃m,n=m+32:=⟨n-32,ae⟩
  rw[Nat.add_sub_cancel] at h;exact PD a m c xs w hx uD (Decidable.byContradiction λg=>h (.inr g))
theorem aaY base N0 C BL P K nx x ls fs a n c L w (h:og base N0 w C BL P K x nx ls fs) (hn:nx<8) (hv:Kv w N0 (an a n c) (some L)):
  Calls prog 72 #[(BL,K*5),an a n c] w λe w'=>e=ar (ao #[])/\og base N0 w' C BL P K x (nx+1) (λi=>if i=nx then some L else ls i) fs/\Kp C BL P w w':=by
 have nJ:Below w w w.drew:=⟨rfl,rfl,rfl,bp _,λ_ _=>rfl⟩
 have hd:=(h.on nJ)
 have b0:=hd.b0.1;have b1:=hd.b1.1;obtain⟨vp,p0,p1,_⟩:=hd.page hn;have H1:=ag (h.afz nx hv).drew;have bV:=ag (((Kp.refl C BL P w).setCell (p:=⟨P,nx,none⟩) (.inr (.inr rfl)) (an a n c)).on (ak _));have dBP:P≠BL:=Ne.symm h.PZ.2.2.1;have g1:(0:Int)<=(nx:Int):=ae;have g2:(nx:Int)<8:=ae;clear h hv hd nJ
 go_in
 go_wp2_with fail;refine iE (λW'=>W'.cell? (aw BL (K*5))=some (an (aw P 0) 8 8)/\W'.cell? (aw BL (K*5+1))=some (O aa nx)) ⟨b0,b1⟩ (λaY=>?_);refine dw 0 BL (K*5) ?_;refine aS 1 BL (K*5) ?_;refine aS 2 BL (K*5) ?_;refine kS 3 (an (P,0) 8 8) (λ_ aK=>aK.1) ?_;refine dw 4 BL (K*5) ?_;refine aS 5 BL (K*5) ?_;refine aS 6 BL (K*5+1) ?_;refine jV 7 (nx:Int) (λ_ aK=>aK.2) ?_;refine dG 8 (an a n c) ?_;refine aS 9 P nx ?_;refine bY 10 (λK' hK=>?_);go_simp;refine hK.out _ _ ⟨(cK _ _ _ _ (by simpa using dBP)).trans aY.1,(cK _ _ _ _ (by simpa using dBP)).trans aY.2⟩ (λdh=>?_)
 refine eH ?_;clear aY dh b0 b1 p0 p1;obtain⟨w2,jT⟩:=aW ((w.setCell (P,nx) (an a n c)).drew);rw[<-jT] at H1 bV;have c1:=H1.b1.1;have f1:=H1.b1.2;have H2:=ag (H1.apb (nx+1));have df:=ag (bV.setCell (p:=⟨BL,K*5+1,none⟩) (.inr (.inl rfl)) (O aa ((nx+1:Nat))));have e1:((nx+1:Nat):Int)=(nx:Int)+1:=ae;rw[e1] at H2 df;rw[<-jT];clear jT e1;go_wp2;go_end0;exact⟨rfl,H2.o,df.o⟩
theorem aaZ base N0 C BL P K i x ls fs a c bs w (h:og base N0 w C BL P K x i ls fs) (hd:x.dn=false) (hi:i<8) (hx:Own aJ 5 w N0 (an a 96 c) bs) (hk:(fnd fs x.si).kind=0) (hsi:x.si<=1000000) (Vp:x.sk<=1000000) (hfl:fs.length<=1000):
  Calls prog 27 #[C,O aa K,O aa i,an a 96 c] w λe w'=>e=ar (O aa 0)/\og base N0 w' C BL P K {x with si:=x.si+1,sk:=x.sk+1} (i+1) (λj=>if j=i then some bs else ls j) fs/\Kp C BL P w w':=by
 have HA:=ag (Vm base N0 C BL P K i i x ls fs w h hd hi);have HF:=ag (Zm base N0 C BL P K i x ls fs w h);have HFa:=ag (Vo base N0 C BL P K i x ls fs w h hsi Vp hfl);rw[hk] at HFa;have c3:=h.c3;have b1:=h.b1.1;have b2:=h.b2.1;have b3:=h.b3.1;have g1:(0:Int)<=(K:Int):=ae;have g2:(K:Int)<16:=by have:=h.hK;omega
 have HX:=ag hx;have kz:=ag (show bs.length=96 by obtain⟨_,_,e,_⟩:=hx.form;injection e with _ e2 _;exact e2.symm);have hd4:=h.PZ.2.2.2.1;have hd5:=h.PZ.2.2.2.2.1;have hd6:=h.PZ.2.2.2.2.2.1;clear h hx hd hk
 go_in
 go_wp2_with fail;refine(HA.o).cj ?_;go_wp2_with fail;refine HF.cj ?_;go_wp2_with fail;go_call HFa as e w1 ⟨⟨no,dv,rfl,hdv⟩,h1,fO⟩;obtain⟨ad,nd,rfl,hnd⟩:=hdv.form;have H1:=ag (h1.on ((aE w1 w1).alloc av (.cells #[O aa no,O aa 0,an ad (fnd fs x.si).data.length nd] 35)));have iH:=ag (fO.on ((aE w1 w1).alloc av (.cells #[O aa no,O aa 0,an ad (fnd fs x.si).data.length nd] 35)));have Rq:=ag (Own.kp HX.o iH.o hd4 hd5 hd6);clear h1 fO hdv hnd;generalize (fnd fs x.si).data.length=m at*;go_wp2_with fail;go_call(iY a 96 c bs _ (Rq.arr (by rw[kz.o];omega))) as e w3 ⟨⟨v,rfl,hv⟩,bJ⟩;have H3:=ag (H1.on bJ);have jZ:=ag (iH.on bJ);have hlen:=kz.o;obtain⟨a3,c3,rfl,xM⟩:=hv.bG hlen;have HV:=ag (show Kv w3 N0 (an a3 96 c3) (some bs) from⟨by rw[hlen];omega,hv.mono H1.hN⟩);clear bJ hv xM hlen;go_wp2_with fail;go_call(aaY base N0 C BL P K i _ ls fs a3 96 c3 bs w3 H3.o hi HV.o) as e w4 ⟨rfl,h4,oQ⟩;have H4:=ag h4;have kX:=ag (jZ.trans oQ);clear h4 oQ;go_wp2_with fail;go_ret;exact⟨rfl,H4.o,kX.o⟩
def arL:Nat->Option (List UInt8):=λ_=>none
theorem BlI.chp {base B K w wr} (h:BlI base K w wr 16) (hK:K<16) (hB:B<=base):∃P,og B wr wr (base+2) (base+1) P K cn0 0 arL []:=by obtain⟨h1,h2,⟨bs,b1,b2,b3,b4⟩,h4⟩:=h;obtain⟨P,p1,p2,p3⟩:=b4 hK;have hP:P<wr.heap.size:=(p2.aN P rfl).2;have hC:=h2.lt;refine⟨P,h2,⟨bs,b1,p1,b2.mono hB⟩,⟨lh,rfl,p2.mono hB,λi hi=>?_⟩,Og.nil _ _,⟨ae,ae,ae,hC,ae,hP,ae,ae,ae⟩,hK,bp _⟩;show lh[i]=an none 0 0;exact List.eq_of_mem_replicate (n:=8) (cS hi)
theorem aep K (hK:K<16) w:
  Calls prog 21 #[.agg #[O aa 16,O aa 8,O aa 64],an none 0 0] w λe w'=>(∃C BL P,e=ar (ao #[.pointer (some ⟨C,0,none⟩),O aa 0])/\og w w' w' C BL P K cn0 0 arL [])/\Below w w w':=by
 have B1:=ag (aF.new w 60 #[O aa 16,O aa 8,O aa 64]);have gX:=ag ((aE w w).alloc av (.cells #[O aa 16,O aa 8,O aa 64] 60))
 go_in
 obtain⟨c0,c1,c2⟩:=B1.c3;go_wp2_with fail;go_call(Gw 16 aB aB _) as e w1 ⟨rfl,hb⟩;have bV:=ag (gX.aA hb);have B2:=B1.ah hb;clear hb c0 c1 c2 gX B1;obtain⟨c0,c1,c2⟩:=B2.c3;clear B2;go_wp2_with fail;go_call(Vx K hK _) as e w2 ⟨rfl,hI⟩;have df:=ag (bV.aA hI.hb);obtain⟨P,hC⟩:=hI.chp (B:=w.heap.size) hK bV.size;have HC:=ag hC;generalize w1.heap.size=g at*;clear hI hC c0 c1 c2;go_wp2
 go_loopw [8,16] (λ_ i wr=>i=O aa 0/\wr=w2) (λ_ _ _=>0)
 case atStart=>exact⟨rfl,rfl⟩
 case round=>obtain⟨rfl,rfl⟩:=hrel;go_wp2;go_ret2;exact⟨⟨_,_,_,rfl,HC.o⟩,df.o⟩
theorem aDQ u:(Instr.makeSlice 23 (O aa 96) (O aa 96)).run prog u= .ok (an (u,0) 96 96) (u.alloc (.cells (cB 96 (O .u8 0)) 5)):=GG 96 ae u
theorem Gn a m c data w (hx:Bytes w w a m data) (hm:m<=96):
  Calls prog 7 #[an a m c] w λe w'=>(∃a' c',e=ar (an a' 96 c')/\96<=c'/\Own aJ 5 w' w (an a' 96 c') (yj data))/\Below w w w':=by
 have wI:=aDQ;have HO0:=ag (kU w w 96 av ae);have gX:=ag ((aE w w).alloc av (.cells (cB 96 (O .u8 0)) 5));have HX:=ag hx;have hl:=hx.len;clear hx
 go_in
 go_wp2;clear wI
 go_loopw [4] (λi wr=>∃k:Nat,k<=96/\i=O aa k/\Own aJ 5 wr w (an (aw w.heap.size 0) 96 96) (yz 96 k)/\Below w w wr) (λi _=>96-(intOf i).toNat)
 case atStart=>exact⟨0,ae,rfl,by rw[J9];exact HO0.o,gX.o⟩
 case round=>
  obtain⟨k,hk,rfl,ho,hb⟩:=hrel;have HO:=ag ho;have HB:=ag hb;clear ho hb HO0 gX;by_cases aT:k<96
  .obtain⟨c0,f0⟩:=HO.dU (k:=k) (by rw[PV hk];exact aT);have g1:(0:Int)<=(k:Int):=ae;have g2:(k:Int)<96:=ae;have HS:=ag (HO.set k 255);rw[Ko aT] at HS;go_wp2;go_roundw
   case rel=>exact⟨k+1,ae,by go_num,HS.o,HB.setCell (p:=⟨w.heap.size,k,none⟩) av _⟩
   case measure=>simp[intOf];omega
  .obtain rfl:k=96:=ae;have yg:=ag (HX.on HB.o)
   go_wp2_with (with_reducible refine wU rfl _ _ rfl w w 96 96 _ rfl HO.o _ a m c data rfl yg.o ?_;intro w2 tJ df)
   go_ret;refine⟨⟨_,_,rfl,bp _,?_⟩,HB.trans df.o⟩;have h5:=tJ.o;rw[PW,Vr hl hm] at h5;exact h5
theorem aDR u:(Instr.makeSlice 23 (O aa 64) (O aa 64)).run prog u= .ok (an (u,0) 64 64) (u.alloc (.cells (cB 64 (O .u8 0)) 5)):=GG 64 ae u
namespace Tg
def ones:Tg:=⟨1,1,1,1⟩
theorem aa0:Right ones:=aB
end Tg
theorem Gq w:
  Calls prog 9 #[] w λe w'=>e=ar (aq true)/\Below w w w':=by
 have wI:=aDR
 go_in
 go_wp2_with fail;go_call(Vu _) as e w1 ⟨rfl,h_⟩;have bV:=ag h_;clear h_;go_wp2_with fail;go_call(aep 0 ae _) as e w2 ⟨⟨C,BL,P,rfl,hc⟩,hb⟩;have df:=ag (bV.aA hb);have ho:=kU w2 w2 64 av ae;have HX:=ag (ho.arr au);have fM:=(aE w2 w2).alloc av (.cells (cB 64 (O .u8 0)) 5);have HC:=ag (hc.on fM);have cO:=ag (df.aA fM);clear hb hc ho fM;go_wp2_with fail;go_call(Hl Tg.ones _ 64 64 (bt 64 0) _ Tg.aa0 aB HX.o) as e w4 ⟨⟨v,rfl,ho⟩,hb⟩;have hlen:(Tg.page Tg.ones (bt 64 0)).length=96:=by rw[Tg.rX];rfl
 obtain⟨a,c,rfl,UK⟩:=ho.bG hlen;have N8:=ag (HC.on hb);have jM:=ag (cO.aA hb);have x9:=ag (ho.mono HC.hN);clear hb ho UK wI hlen;go_wp2_with fail;go_call(aaZ _ _ C BL P 0 0 cn0 arL [] a c _ _ N8.o rfl ae x9.o rfl aB aB aB) as e w5 ⟨rfl,h5,KJ⟩;have je:=ag (N8.below KJ);clear h5 KJ;go_wp2;go_ret;exact⟨rfl,jM.trans (je.mono bV.size)⟩
theorem U9 a n c xs w (hx:Bytes w w a n xs) (uD:n<=c):
  Calls prog 6 #[an a n c] w λe w'=>e=ar (aq (decide (Tg.fZ xs=0)))/\Below w w w':=by
 have HR:=ag (Nl a n c xs w hx uD);clear hx
 go_in
 go_wp2_with fail;go_call HR as e w1 ⟨a1,n1,c1,rfl,_,_,hb⟩;have HB:=ag (hb.alloc hb.size (MW (Tg.fC xs)));clear hb;go_wp2;go_ret;exact⟨rfl,HB.o⟩
end
end Go.Proofs.YtnieckfelfoopaaGreat

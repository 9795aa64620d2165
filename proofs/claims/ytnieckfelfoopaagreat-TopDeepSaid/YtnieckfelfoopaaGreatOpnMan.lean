import Derived.Test.YtnieckfelfoopaaGreatOpnO
open Go.Proofs.Tryz (prog)
namespace Go.Proofs.YtnieckfelfoopaaGreat
open Lib (hid)
set_option maxRecDepth 100000
set_option maxHeartbeats 16000000
section
open Go.RowKit eX Opn Go.ChangeMaps Go.Maps

theorem aa7 (a:Option Addr) (c:Nat) (xs:List UInt8) (w:World) (hx:Bytes w w.heap.size a 96 xs) (hc:96<=c) (hE:Tg.fK xs=0):
  Calls prog 224 #[.slice a 96 c] w (Rdw xs w):=by
 refine zU a 64 c xs w hx hc aB ?_
 cases hf:Tg.full xs with
 |false=>rfl
 |true=>
  have:=(Gt (xs:=xs) (m:=64) hx.len aB hf).2.2;rw[hE] at this;exact absurd this aB
theorem Qi {w:World} {B:Nat} {a:Option Addr} {tl:List UInt8} (h:Bytes w B a 64 (fZ tl)):∃b o,a=some ⟨b,o,none⟩/\b<B/\w.cell? ⟨b,o,none⟩=some (.int .u8 2)/\w.cell? ⟨b,o+1,none⟩=some (.int .u8 0)/\w.cell? ⟨b,o+2,none⟩=some (.int .u8 0)/\w.cell? ⟨b,o+3,none⟩=some (.int .u8 0)/\w.cell? ⟨b,o+4,none⟩=some (.int .u8 0)/\w.cell? ⟨b,o+5,none⟩=some (.int .u8 0)/\w.cell? ⟨b,o+6,none⟩=some (.int .u8 0)/\w.cell? ⟨b,o+7,none⟩=some (.int .u8 0):=by obtain⟨h1,h2,h3⟩:=h;obtain⟨b,o,ha,hb,hc⟩:=h3 aB;have hc0:=hc 0 (by rw[h1];decide);exact⟨b,o,ha,hb,hc0,hc 1 (by rw[h1];decide),hc 2 (by rw[h1];decide),hc 3 (by rw[h1];decide),hc 4 (by rw[h1];decide),hc 5 (by rw[h1];decide),hc 6 (by rw[h1];decide),hc 7 (by rw[h1];decide)⟩
section
variable {B C BL:Nat} {S T:Nat->Prop} {w W W':World} {ps:Nat->Nat} {bl:Nat->Pb} {o:Oa} {tv:Value} {tx:List UInt8} {sq ep:Nat} {se:List En}
def Hdd (B:Nat) (S:Nat->Prop) (w:World) (C BL:Nat) (ps:Nat->Nat) (bl:Nat->Pb) (o:Oa) (tl:List UInt8) (sq ep:Nat) (se:List En) (e:Ending) (W':World):Prop:=e= .returned (.bool true)/\∃tv,Op B S w C BL ps bl o 2 tv tl sq ep se W'
theorem Qg (h:Op B S w C BL ps bl o 0 (.slice none 0 0) [] sq ep se W) (hg:Gd 32 bl) (e0:En) (h0:aG se 0=some e0) (hb:e0.b<32) (hi:e0.i<8) (his:Is bl e0) (tl:List UInt8) (hd:e0.d=fZ tl):
  Calls prog 174 #[o.F] W (Hdd B S w C BL ps bl o tl sq ep se):=by
 obtain⟨L,hL,_,hLd⟩:=his;obtain⟨hE,hLl,_,_,_,_,hP⟩:=hg.ok e0.b e0.i L hb hi hL;rw[<-hLd] at hP;rw[hd] at hLd hP;have HH:=ag h;have yN:=ag (λ(W:World) (hW:eG 32 B S W C BL ps bl)=>uU hW hb hi);rw[hL] at yN;have HE:=ag hE;have HLl:=ag hLl;have HLd:=ag hLd.symm;have ZQ:=ag hg;have HP:=ag hP;have KI:(Instr.lookup 222 (.map (some o.SE)) (.int .u32 0) false).run prog W= .ok (.agg #[.int .i64 (e0.b:Int),.int .i64 (e0.i:Int)]) W:=by have:=h.hS.look (p:=0) aB false;rw[h0] at this;exact this
 have f5:=h.BZ (i:=5) (v:= .map (some o.SE)) rfl;have jq:=iE;have hct:=II;have bQ:=(Below.refl W.heap.size W).alloc (Nat.le_refl _) (.cells #[.int .i64 (e0.b:Int),.int .i64 (e0.i:Int)] 247);have H2:=ag (h.on bQ);have HZ:=ag (aF.new W 247 #[.int .i64 (e0.b:Int),.int .i64 (e0.i:Int)]);have HWs:=ag h.hk.size;have HCl:=ag (h.hc.hi C (h.hc.hS C (.inl rfl)));clear h hg hL hE hLl hLd hP h0 hb hi hd bQ;generalize e0.b=xb at*;generalize e0.i=xi at*
 go_in
 go_upto_region 2 with fail;generalize W.alloc (.cells #[.int .i64 xb,.int .i64 xi] 247)=w3 at*;obtain⟨Z,hZ⟩:=bu W.heap.size;rw[<-hZ] at HZ⊢;have WO:=ag hZ;clear hZ KI f5;have gJ:=ag (show w3.drew.cell? ⟨o.F,0,none⟩=some (.pointer (some ⟨C,0,none⟩))/\aF w3.drew Z 247 #[.int .i64 xb,.int .i64 xi] from⟨(H2.o.on (ak w3)).BZ (i:=0) rfl,HZ.o.ah (ak w3)⟩);have H3:=ag (H2.o.on (ak w3));refine iT (λW'=>W'.cell? ⟨o.F,0,none⟩=some (.pointer (some ⟨C,0,none⟩))/\aF W' Z 247 #[.int .i64 xb,.int .i64 xi]) gJ.o (λbJ=>?_);generalize w3.drew=W4 at*;clear gJ;refine dP 0 o.F 0 ?_;refine aS 1 o.F 0 ?_;refine aS 2 o.F 0 ?_;refine jy 3 (.pointer (some ⟨C,0,none⟩)) rfl (λ_ aI=>by obtain⟨y8,_⟩:=aI;go_simp) ?_;refine aS 4 Z 0 ?_;refine jH 5 (xb:Int) (λ_ aI=>aI.2.aj (i:=0) rfl) ?_;refine aS 6 Z 1 ?_;refine jH 7 (xi:Int) (λ_ aI=>aI.2.aj (i:=1) rfl) ?_;refine dm 8 (λK' hK=>?_);go_simp;refine(yN.o W4 H3.o.hc).mono ?_;rintro e w4 ⟨⟨a4,c4,rfl,hc4,yB⟩,MZ,oU⟩;have H4:=ag (H3.o.read MZ oU);have rY:w4.cell? ⟨o.F,0,none⟩=some (.pointer (some ⟨C,0,none⟩))/\aF w4 Z 247 #[.int .i64 xb,.int .i64 xi]:=⟨H4.o.BZ (i:=0) rfl,bJ.2.kq oU (λe=>by have e:Z=C:=e;have:=WO.o;have:=HCl.o;omega)⟩
 have vJ:=ag yB;have Va:=ag hc4;clear MZ oU yB hc4;refine hK.out _ _ rY (λwK=>?_)
 try simp only[aO]
 refine fE 9 (.tuple #[.slice a4 96 c4,.int .i64 0]) ?_;refine fE 10 (.slice a4 96 c4) ?_;refine ik 11 0 ?_;refine fB 12 (.slice a4 96 c4) ?_;refine eF 13 0 ?_;refine gB ?_;clear bJ rY wK;go_wp2_with fail;refine(aa7 a4 c4 _ w4 (vJ.o.arr (by rw[show(YC (some L)).length=96 from HLl.o];decide)) Va.o HE.o).mono ?_;rintro e w5 ⟨a5,n5,c5,rfl,YD,QO,iP,JL⟩;rw[show Tg.fK (YC (some L))=0 from HE.o];rw[show Tg.jm (YC (some L))=fZ tl from HLd.o] at YD;obtain rfl:64=n5:=by rw[<-HP.o];exact YD.len
 obtain⟨⟨tk,tp,ts,te⟩,htt⟩:∃t,t=Tg.ed (YC (some L)):=⟨_,rfl⟩
 rw[<-htt];clear htt;have iI:=(Below.refl w5.heap.size w5).alloc (Nat.le_refl _) (.cells #[.int .i64 tk,.int .u32 tp,.int .u64 ts,.int .u64 te] 67);have HX6:=ag (YD.on iI);have H6:=ag ((H4.o.on iP).on iI);obtain⟨b5,o5,rfl,kF,x0,x1,x2,x3,x4,x5,x6,x7⟩:=Qi HX6.o;have Qy:=ag (JL.1 b5 o5 rfl);have Il:=ag H4.o.hF.lt;have hq:∀q,q∈[o.F,o.SE,o.NO,o.GO,o.LA]->q<w4.heap.size:=λq hq=>by
  have h4:=H4.o;simp only[List.mem_cons,List.not_mem_nil,or_false] at hq;rcases hq with rfl|rfl|rfl|rfl|rfl
  ·exact h4.hF.lt
  ·exact h4.hS.lt
  ·exact h4.hN.lt
  ·exact h4.hG.lt
  ·exact(h4.hL.aP _ rfl).2
 have HQ:=ag (show w.heap.size<=b5/\b5∉[o.F,o.SE,o.NO,o.GO,o.LA]/\b5≠o.R from⟨by have:=Qy.o;have:=H4.o.hk.size;omega,λe=>by have:=hq b5 e;have:=Qy.o;omega,λe=>by have:=(H4.o.hR.aP o.R rfl).2;have:=Qy.o;omega⟩);have HC5:=ag QO;unfold tagV;clear YD QO iP JL iI kF hq;go_upto_region 6 with fail;generalize w5.alloc (.cells #[.int .i64 tk,.int .u32 tp,.int .u64 ts,.int .u64 te] 67)=w6 at*;have HX:=ag (show w6.cell? ⟨b5,o5,none⟩=some (.int .u8 2)/\w6.cell? ⟨b5,o5+1,none⟩=some (.int .u8 0)/\w6.cell? ⟨b5,o5+2,none⟩=some (.int .u8 0)/\w6.cell? ⟨b5,o5+3,none⟩=some (.int .u8 0) from⟨x0,x1,x2,x3⟩);have HY:=ag (show w6.cell? ⟨b5,o5+4,none⟩=some (.int .u8 0)/\w6.cell? ⟨b5,o5+5,none⟩=some (.int .u8 0)/\w6.cell? ⟨b5,o5+6,none⟩=some (.int .u8 0)/\w6.cell? ⟨b5,o5+7,none⟩=some (.int .u8 0) from⟨x4,x5,x6,x7⟩);clear x0 x1 x2 x3 x4 x5 x6 x7;have CP:=ag (show b5≠o.F from λe=>HQ.o.2.1 (by rw[e];simp));have H6d:=ag (H6.o.on (ak w6));have iw2:IntKind.i64.wrap 2=2:=aB;have iw0:IntKind.i64.wrap 0=0:=aB;have ib2:bits BinOp.or IntKind.i64 2 0=2:=aB;have ib0:bits BinOp.or IntKind.i64 0 0=0:=aB;have ib8:bits BinOp.or IntKind.u8 0 0=0:=aB;refine iT (λW'=>W'.cell? ⟨b5,o5,none⟩=some (.int .u8 2)/\W'.cell? ⟨b5,o5+1,none⟩=some (.int .u8 0)/\W'.cell? ⟨b5,o5+2,none⟩=some (.int .u8 0)/\W'.cell? ⟨b5,o5+3,none⟩=some (.int .u8 0)) HX.o (λbJ=>?_);have HYd:=ag (show w6.drew.cell? ⟨b5,o5+4,none⟩=some (.int .u8 0)/\w6.drew.cell? ⟨b5,o5+5,none⟩=some (.int .u8 0)/\w6.drew.cell? ⟨b5,o5+6,none⟩=some (.int .u8 0)/\w6.drew.cell? ⟨b5,o5+7,none⟩=some (.int .u8 0) from HY.o);have HX7:=ag (show Bytes w6.drew w6.drew.heap.size (some ⟨b5,o5,none⟩) 64 (fZ tl) from HX6.o.on (ak w6));generalize w6.drew=w7 at*;refine dP 0 o.F 0 ?_;refine dP 1 o.F 0 ?_;refine fB 2 (.slice (some ⟨b5,o5,none⟩) 64 c5) ?_;refine aS 3 b5 o5 ?_;refine jy 4 (.int .u8 2) rfl (λ_ aI=>by obtain⟨y1,y2,y3,y4⟩:=aI;go_simp) ?_;refine ik 5 2 ?_;refine fB 6 (.slice (some ⟨b5,o5,none⟩) 64 c5) ?_;refine aS 7 b5 (o5+1) ?_;refine jy 8 (.int .u8 0) rfl (λ_ aI=>by obtain⟨y1,y2,y3,y4⟩:=aI;go_simp) ?_;refine ik 9 0 ?_;refine ik 10 0 ?_;refine ik 11 2 ?_;refine fB 12 (.slice (some ⟨b5,o5,none⟩) 64 c5) ?_;refine aS 13 b5 (o5+2) ?_;refine jy 14 (.int .u8 0) rfl (λ_ aI=>by obtain⟨y1,y2,y3,y4⟩:=aI;go_simp) ?_;refine ik 15 0 ?_;refine fB 16 (.slice (some ⟨b5,o5,none⟩) 64 c5) ?_;refine aS 17 b5 (o5+3) ?_;refine jy 18 (.int .u8 0) rfl (λ_ aI=>by obtain⟨y1,y2,y3,y4⟩:=aI;go_simp) ?_;refine ik 19 0 ?_;refine ik 20 0 ?_;refine ik 21 0 ?_;refine aS 22 o.F 0 ?_;refine aS 23 o.F 2 ?_;have z2:=H6d.o.BZ (i:=2) (v:= .int .i64 0) rfl;have y2:=H6d.o.hF.frozen 2;refine dm 24 (λK' hK=>?_);go_simp;have dh:=CP.o;have dH:(w7.setCell ⟨o.F,2,none⟩ (.int .i64 2)).cell? ⟨b5,o5,none⟩=some (.int .u8 2)/\(w7.setCell ⟨o.F,2,none⟩ (.int .i64 2)).cell? ⟨b5,o5+1,none⟩=some (.int .u8 0)/\(w7.setCell ⟨o.F,2,none⟩ (.int .i64 2)).cell? ⟨b5,o5+2,none⟩=some (.int .u8 0)/\(w7.setCell ⟨o.F,2,none⟩ (.int .i64 2)).cell? ⟨b5,o5+3,none⟩=some (.int .u8 0):=
  ⟨(World.cell?_setCell_far _ _ _ _ (by simpa using Ne.symm dh)).trans bJ.1,(World.cell?_setCell_far _ _ _ _ (by simpa using Ne.symm dh)).trans bJ.2.1,(World.cell?_setCell_far _ _ _ _ (by simpa using Ne.symm dh)).trans bJ.2.2.1,(World.cell?_setCell_far _ _ _ _ (by simpa using Ne.symm dh)).trans bJ.2.2.2⟩
 have hs8:=H6d.o.set (res':=2) (tv':= .slice none 0 0) (tx':=[]) (sq':=sq) (ep':=ep) 2 (.int .i64 2) rfl (.inl ⟨rfl,rfl⟩);have U6:=ag (Kq.one (w:=w7) ⟨o.F,2,none⟩ (.int .i64 2));have H8:=ag hs8;clear z2 y2 hs8 dh;refine hK.out _ _ dH (λgm=>?_)
 try simp only[aO]
 generalize w7.setCell ⟨o.F,2,none⟩ (.int .i64 2)=w8 at*;refine aS 25 o.F 0 ?_;refine aS 26 o.F 3 ?_;have z3:=H8.o.BZ (i:=3) (v:= .int .i64 0) rfl;have y3:=H8.o.hF.frozen 3;refine dm 27 (λK' hK=>?_);go_simp;have dh:=CP.o;have kD:(w8.setCell ⟨o.F,3,none⟩ (.int .i64 0)).cell? ⟨b5,o5,none⟩=some (.int .u8 2)/\(w8.setCell ⟨o.F,3,none⟩ (.int .i64 0)).cell? ⟨b5,o5+1,none⟩=some (.int .u8 0)/\(w8.setCell ⟨o.F,3,none⟩ (.int .i64 0)).cell? ⟨b5,o5+2,none⟩=some (.int .u8 0)/\(w8.setCell ⟨o.F,3,none⟩ (.int .i64 0)).cell? ⟨b5,o5+3,none⟩=some (.int .u8 0):=
  ⟨(World.cell?_setCell_far _ _ _ _ (by simpa using Ne.symm dh)).trans dH.1,(World.cell?_setCell_far _ _ _ _ (by simpa using Ne.symm dh)).trans dH.2.1,(World.cell?_setCell_far _ _ _ _ (by simpa using Ne.symm dh)).trans dH.2.2.1,(World.cell?_setCell_far _ _ _ _ (by simpa using Ne.symm dh)).trans dH.2.2.2⟩
 have hs9:=H8.o.set (res':=2) (tv':= .slice none 0 0) (tx':=[]) (sq':=sq) (ep':=ep) 3 (.int .i64 0) rfl (.inl ⟨rfl,rfl⟩);have U7:=ag (U6.o.trans (Kq.one (w:=w8) ⟨o.F,3,none⟩ (.int .i64 0)));have H9:=ag hs9;clear z3 y3 hs9 dh;refine hK.out _ _ kD (λrY=>?_)
 try simp only[aO]
 generalize w8.setCell ⟨o.F,3,none⟩ (.int .i64 0)=w9 at*;refine gB ?_;clear bJ dH gm kD rY;have HX9:=ag ((HX7.o.kq (Nat.le_refl _) U7.o (λb q e=>by
  injection e with e
  injection e with e
  exact λe2=>CP.o (e.trans e2))).mono U7.o.size)
 have HY9:=ag (show w9.cell? ⟨b5,o5+4,none⟩=some (.int .u8 0)/\w9.cell? ⟨b5,o5+5,none⟩=some (.int .u8 0)/\w9.cell? ⟨b5,o5+6,none⟩=some (.int .u8 0)/\w9.cell? ⟨b5,o5+7,none⟩=some (.int .u8 0) by
  obtain⟨b,q,e,_,_,_,_,_,y4,y5,y6,y7⟩:=Qi HX9.o;injection e with e
  injection e with e1 e2
  subst e1 e2;exact⟨y4,y5,y6,y7⟩)
 clear HX7 HY HYd HX HX6;have asi:=HC5.o;have hcut:∀u,(Instr.slice 23 (.slice (some ⟨b5,o5,none⟩) 64 c5) (some (.int .i64 8)) none none).run prog u= .ok (.slice (iL (some ⟨b5,o5,none⟩) c5 8) 56 (c5-8)) u:=λu=>kU (some ⟨b5,o5,none⟩) 64 c5 8 ae u;obtain⟨ca,hca⟩:=bu (iL (some ⟨b5,o5,none⟩) c5 8);obtain⟨c8,hc8⟩:=bu (c5-8);rw[<-hca,<-hc8] at hcut;have hob:∀q,(Value.slice ca 56 c8).ownBlock=some q->q=b5:=λq hq=>by
  rw[hca,iL,if_neg ae] at hq
  simpa[Value.ownBlock,Addr.add,eq_comm] using hq
 have htx:TxA w9 (.slice ca 56 c8) tl:=by
  refine .inr ⟨⟨_,_,_,rfl,?_⟩,λq hq=>?_⟩
  ·rw[hca];exact HX9.o.drop (l:=8) aB asi
  ·rw[hob q hq];have h1:=Qy.o;have h2:=U7.o.size;obtain⟨b,q,e,hl,_⟩:=Qi HX9.o;injection e with e
   injection e with e1 e2
   omega
 have z4:=H9.o.BZ (i:=4) (v:= .slice none 0 0) rfl;have y4:=H9.o.hF.frozen 4;have amg:=H9.o.set (res':=2) (tv':= .slice ca 56 c8) (tx':=tl) (sq':=sq) (ep':=ep) 4 (.slice ca 56 c8) rfl (.inr ⟨htx,λq hq=>by rw[hob q hq];exact HQ.o⟩);have H10:=ag amg;have asj:=ag (show(w9.setCell ⟨o.F,4,none⟩ (.slice ca 56 c8)).cell? ⟨b5,o5+4,none⟩=some (.int .u8 0)/\(w9.setCell ⟨o.F,4,none⟩ (.slice ca 56 c8)).cell? ⟨b5,o5+5,none⟩=some (.int .u8 0)/\(w9.setCell ⟨o.F,4,none⟩ (.slice ca 56 c8)).cell? ⟨b5,o5+6,none⟩=some (.int .u8 0)/\(w9.setCell ⟨o.F,4,none⟩ (.slice ca 56 c8)).cell? ⟨b5,o5+7,none⟩=some (.int .u8 0) from
  ⟨(World.cell?_setCell_far _ _ _ _ (by simpa using Ne.symm CP.o)).trans HY9.o.1,(World.cell?_setCell_far _ _ _ _ (by simpa using Ne.symm CP.o)).trans HY9.o.2.1,(World.cell?_setCell_far _ _ _ _ (by simpa using Ne.symm CP.o)).trans HY9.o.2.2.1,(World.cell?_setCell_far _ _ _ _ (by simpa using Ne.symm CP.o)).trans HY9.o.2.2.2⟩)
 clear hca hc8 hob htx amg;go_upto_region 8 with fail;generalize w9.setCell ⟨o.F,4,none⟩ (.slice ca 56 c8)=Ig at*;clear z4 y4 hcut;have HYe:=ag (show Ig.drew.cell? ⟨b5,o5+4,none⟩=some (.int .u8 0)/\Ig.drew.cell? ⟨b5,o5+5,none⟩=some (.int .u8 0)/\Ig.drew.cell? ⟨b5,o5+6,none⟩=some (.int .u8 0)/\Ig.drew.cell? ⟨b5,o5+7,none⟩=some (.int .u8 0) from asj.o);have H11:=ag (H10.o.on (ak Ig));refine iT (λW'=>W'.cell? ⟨b5,o5+4,none⟩=some (.int .u8 0)/\W'.cell? ⟨b5,o5+5,none⟩=some (.int .u8 0)/\W'.cell? ⟨b5,o5+6,none⟩=some (.int .u8 0)/\W'.cell? ⟨b5,o5+7,none⟩=some (.int .u8 0)) HYe.o (λbJ=>?_);generalize Ig.drew=ug at*;refine fB 0 (.slice (some ⟨b5,o5,none⟩) 64 c5) ?_;refine aS 1 b5 (o5+4) ?_;refine jy 2 (.int .u8 0) rfl (λ_ aI=>by obtain⟨y1,y2,y3,y4⟩:=aI;go_simp) ?_;refine fB 3 (.slice (some ⟨b5,o5,none⟩) 64 c5) ?_;refine aS 4 b5 (o5+5) ?_;refine jy 5 (.int .u8 0) rfl (λ_ aI=>by obtain⟨y1,y2,y3,y4⟩:=aI;go_simp) ?_;refine fE 6 (.int .u8 0) ?_;refine fB 7 (.slice (some ⟨b5,o5,none⟩) 64 c5) ?_;refine aS 8 b5 (o5+6) ?_;refine jy 9 (.int .u8 0) rfl (λ_ aI=>by obtain⟨y1,y2,y3,y4⟩:=aI;go_simp) ?_;refine fE 10 (.int .u8 0) ?_;refine fB 11 (.slice (some ⟨b5,o5,none⟩) 64 c5) ?_;refine aS 12 b5 (o5+7) ?_;refine jy 13 (.int .u8 0) rfl (λ_ aI=>by obtain⟨y1,y2,y3,y4⟩:=aI;go_simp) ?_;refine fE 14 (.int .u8 0) ?_;refine fE 15 (.bool true) ?_;refine fB 16 (.bool true) ?_;refine gB ?_;clear bJ;go_upto_region 9 with fail;clear asj HYe H10 asi iw2 iw0 ib2 ib0 ib8;have H12:=ag (H11.o.on (ak ug));have HDa:=ag (λW:World=>show Calls prog 164 #[.agg #[.int .i64 32,.int .i64 8,.int .i64 64],.int .i64 2,.int .i64 0] W λe w'=>e= .returned (.int .i64 29)/\Below W.heap.size W w' from jk (w:=W) (NB:=32) aB);have HBb:=ag (λ(W:World) (hW:eG 32 B S W C BL ps bl)=>oH hW aB ZQ.o.bad);have HGo:=ag (λ(W:World) (hW:eG 32 B S W C BL ps bl)=>show Calls prog 35 #[C] W λe w'=>e= .returned (.agg #[.int .i64 32,.int .i64 8,.int .i64 64])/\Below W.heap.size W w' from dU hW);refine iT (λW'=>Op B S w C BL ps bl o 2 (.slice ca 56 c8) tl sq ep se W') H12.o (λbJ=>?_);generalize ug.drew=w12 at*;refine fB 0 (.bool true) ?_;refine fB 1 (.bool true) ?_;refine dP 2 o.F 0 ?_;refine aS 3 o.F 0 ?_;refine aS 4 o.F 2 ?_;refine jH 5 2 (λ_ aI=>aI.BZ (i:=2) (v:= .int .i64 2) rfl) ?_;refine fE 6 (.bool true) ?_;refine fB 7 (.bool true) ?_;refine fB 8 (.bool true) ?_;refine dP 9 o.F 0 ?_;refine aS 10 o.F 0 ?_;refine aS 11 o.F 3 ?_;refine jH 12 0 (λ_ aI=>aI.BZ (i:=3) (v:= .int .i64 0) rfl) ?_;refine dP 13 o.F 0 ?_;refine aS 14 o.F 0 ?_;refine aS 15 o.F 0 ?_;refine tC 16 (.pointer (some ⟨C,0,none⟩)) (λ_ aI=>aI.BZ (i:=0) (v:= .pointer (some ⟨C,0,none⟩)) rfl) ?_;refine dm 17 (λK' hK=>?_);go_simp;refine(HBb.o w12 bJ.hc).mono ?_;rintro e w13 ⟨rfl,asl⟩;have dH:=bJ.on asl;clear asl;refine hK.out _ _ dH (λgm=>?_)
 try simp only[aO]
 refine fE 18 (.bool true) ?_;refine fB 19 (.bool true) ?_;refine fB 20 (.bool true) ?_;refine dP 21 o.F 0 ?_;refine aS 22 o.F 0 ?_;refine aS 23 o.F 0 ?_;refine tC 24 (.pointer (some ⟨C,0,none⟩)) (λ_ aI=>aI.BZ (i:=0) (v:= .pointer (some ⟨C,0,none⟩)) rfl) ?_;refine dP 26 o.F 0 ?_;refine aS 27 o.F 0 ?_;refine aS 28 o.F 2 ?_;refine jH 29 2 (λ_ aI=>aI.BZ (i:=2) (v:= .int .i64 2) rfl) ?_;refine dP 30 o.F 0 ?_;refine aS 31 o.F 0 ?_;refine aS 32 o.F 3 ?_;refine jH 33 0 (λ_ aI=>aI.BZ (i:=3) (v:= .int .i64 0) rfl) ?_;refine dm 25 (λK' hK=>?_);go_simp;refine(HGo.o w13 dH.hc).mono ?_;rintro e w14 ⟨rfl,asn⟩;have kD:=dH.on asn;clear asn;refine hK.out _ _ kD (λrY=>?_)
 try simp only[aO]
 refine dm 34 (λK' hK=>?_);go_simp;refine(HDa.o w14).mono ?_;rintro e w15 ⟨rfl,aaJ⟩;have wK:=kD.on aaJ;clear aaJ;refine hK.out _ _ wK (λrE=>?_)
 try simp only[aO]
 refine fE 35 (.bool true) ?_;refine fB 36 (.bool true) ?_;refine fB 37 (.bool true) ?_;refine gB ?_;have HF:=ag wK;clear bJ dH gm kD rY wK rE;go_wp2;go_ret;exact⟨rfl,_,HF.o⟩
end
end
section
open Go.RowKit eX Opn Go.ChangeMaps Go.Maps

theorem aso {P:Program} {c:Code} {Q:Exit->Act->World->Prop} {T0:Array Value} {ds:List Deferred} {w:World} (h:∀T,T=T0->Code.wp P c Q ⟨T,ds⟩ w):Code.wp P c Q ⟨T0,ds⟩ w:=h T0 rfl
namespace Opn
def idl (se:List En) (pre:List (Nat×Bk)):Nat:=(pre.filter λx=>(se.filter λe=>e.b==x.1).length==0).length
def inB (d:List En) (k:Nat):Nat:=(d.filter λe=>e.b==k).length
def qB (d:List En):List Nat:=(List.range 32).map (inB d)
theorem Gv (d:List En):(qB d).length=32:=by simp[qB]
theorem aiB:qB []=List.replicate 32 0:=aB
theorem UK (d:List En) (e:En) (k:Nat):inB (d++[e]) k=inB d k+if e.b=k then 1 else 0:=by unfold inB;rw[List.filter_append,List.length_append];by_cases h:e.b=k<;>simp[h]
theorem Js (d:List En) {k:Nat} (hk:k<(qB d).length):(qB d)[k]=inB d k:=by simp[qB]
theorem afc (d:List En) (e:En):qB (d++[e])=(qB d).set e.b (inB d e.b+1):=by
 apply List.ext_getElem
 ·simp[qB]
 ·intro i h1 h2;rw[List.getElem_set];rw[Js];by_cases h:e.b=i
  ·rw[if_pos h,UK,if_pos h,h]
  ·rw[if_neg h,UK,if_neg h,Js];rfl
theorem UL {d d':List En} (h:d.Perm d') (k:Nat):inB d k=inB d' k:=(h.filter _).length_eq
theorem UM {d d':List En} (h:d.Perm d'):qB d=qB d':=by unfold qB;exact List.map_congr_left λk _=>UL h k
theorem afd (se:List En) (pre:List (Nat×Bk)) (x:Nat×Bk):idl se (pre++[x])=idl se pre+if inB se x.1=0 then 1 else 0:=by unfold idl;rw[List.filter_append,List.length_append];show _+(List.filter (λx=>inB se x.1==0) [x]).length=_;by_cases h:inB se x.1=0<;>simp[h]
theorem anc (se:List En) (pre:List (Nat×Bk)):idl se pre<=pre.length:=List.length_filter_le _ _
theorem aiC (se:List En) {pre:List (Nat×Bk)} {x:Nat×Bk} (hx:x∈pre) (h:inB se x.1=0):0<idl se pre:=by refine List.length_pos_of_mem (a:=x) (List.mem_filter.2 ⟨hx,?_⟩);show(inB se x.1==0)=true;rw[h];rfl
theorem UJ (d:List En) {k:Nat} (hk:k<32):(qB d).getD k 0=inB d k:=by rw[List.getD_eq_getElem?_getD,List.getElem?_eq_getElem (by rw[Gv];exact hk),Js];rfl
end Opn
structure Y0 (B:Nat) (S:Nat->Prop) (w:World) (C BL:Nat) (ps:Nat->Nat) (bl:Nat->Pb) (o:Oa) (tv:Value) (tx:List UInt8) (sq ep:Nat) (se:List En) (LV Q:Nat) (d:List En) (W:World):Prop where
 op:Op B S w C BL ps bl o 2 tv tx sq ep se W
 lv:Own ZT 3 W w.heap.size (.slice (some ⟨LV,0,none⟩) 32 32) (qB d)
 q4:aF W Q 116 #[.slice (some ⟨LV,0,none⟩) 32 32]
 nl:LV∉[o.F,o.SE,o.NO,o.GO,o.LA]/\tv.ownBlock≠some LV/\o.R≠LV/\Q≠LV
 lQ:w.heap.size<=Q
section
variable {B C BL:Nat} {S T:Nat->Prop} {w W W':World} {ps:Nat->Nat} {bl:Nat->Pb} {o:Oa} {tv:Value} {tx:List UInt8} {sq ep LV Q:Nat} {se d:List En}
theorem Op.lt (h:Op B S w C BL ps bl o 2 tv tx sq ep se W):∀q,q∈[o.F,o.SE,o.NO,o.GO,o.LA]->q<W.heap.size:=λq hq=>by
 simp only[List.mem_cons,List.not_mem_nil,or_false] at hq;rcases hq with rfl|rfl|rfl|rfl|rfl
 ·exact h.hF.lt
 ·exact h.hS.lt
 ·exact h.hN.lt
 ·exact h.hG.lt
 ·exact(h.hL.aP _ rfl).2
theorem Y0.on (h:Y0 B S w C BL ps bl o tv tx sq ep se LV Q d W) (hb:Below W.heap.size W W'):Y0 B S w C BL ps bl o tv tx sq ep se LV Q d W':=
 ⟨h.op.on hb,h.lv.on hb,h.q4.ah hb,h.nl,h.lQ⟩
theorem Y0.new {r:Nat} (h:Y0 B S w C BL ps bl o tv tx sq ep se LV Q d W) (hk:Kq (λq=>q=r) W W') (hr:∃W0,Y0 B S w C BL ps bl o tv tx sq ep se LV Q [] W0/\W0.heap.size<=r):Y0 B S w C BL ps bl o tv tx sq ep se LV Q d W':=by
 obtain⟨W0,h0,hr⟩:=hr;have hw:=h0.op.hk.size;refine⟨h.op.kq (h.op.hc.kq hk λq hq e=>?_) hk λq e=> .inr ⟨?_,λhm=>?_,λhm=>?_,λhm=>?_⟩,h.lv.kq hk λq hq e=>?_,h.q4.kq hk λe=>?_,h.nl,h.lQ⟩
 ·have:=h.op.lS q hq;have e:q=r:=e;omega
 ·have e:q=r:=e;omega
 ·have:=h0.op.lt q hm;have e:q=r:=e;omega
 ·have:=h0.op.hT.lt q hm;have e:q=r:=e;omega
 ·have:=(h0.op.hR.aP o.R rfl).2;have e:q=r:=e;omega
 ·have:=(h0.lv.aP q hq).2;have e:q=r:=e;omega
 ·have:=h0.q4.lt;have e:Q=r:=e;omega
theorem Y0.cnt {e:En} (h:Y0 B S w C BL ps bl o tv tx sq ep se LV Q d W) (he:e.b<32):
  W.cell? ⟨LV,e.b,none⟩=some (.int .i64 (inB d e.b:Int))/\W.frozen? ⟨LV,e.b,none⟩=false/\Y0 B S w C BL ps bl o tv tx sq ep se LV Q (d++[e]) (W.setCell ⟨LV,e.b,none⟩ (.int .i64 ((inB d e.b+1:Nat):Int))):=by
 obtain⟨c1,c2⟩:=h.lv.iH (k:=e.b) (by rw[Gv];exact he);rw[Js] at c1;have hL:=h.lv.set e.b (inB d e.b+1);rw[<-afc d e] at hL;have hg:=(h.lv.aP LV rfl).1;have hk:Kq (λq=>q=LV) W (W.setCell ⟨LV,e.b,none⟩ (.int .i64 ((inB d e.b+1:Nat):Int))):=Kq.one ⟨_,_,none⟩ _;obtain⟨n1,n2,n3,n4⟩:=h.nl;refine⟨c1,c2,h.op.kq (h.op.hc.kq hk λq hq e=>?_) hk λq e=> .inr ⟨?_,λhm=>?_,λhm=>?_,λhm=>?_⟩,hL,h.q4.kq hk λe=>?_,h.nl,h.lQ⟩
 ·have:=h.op.lS q hq;have e:q=LV:=e;omega
 ·have e:q=LV:=e;omega
 ·have e:q=LV:=e;exact n1 (e▸hm)
 ·have e:q=LV:=e;exact n2 (e▸hm)
 ·have e:q=LV:=e;exact n3 (hm.symm.trans e)
 ·exact n4 e
def yJ (o:Oa) (g:Mg) (se:List En) (sq ep:Nat) (tv:Value) (tx:List UInt8):Fm:=⟨o.F,o.SE,o.NO,o.GO,o.LA,g,se,[],[],sq,ep,tv,tx,false⟩
theorem asq {M:Nat} {g:Mg} (h:Op B S w C BL ps bl o 2 tv tx sq ep se W) (hb:Below W.heap.size W W') (hg:gu 32 B S W' g) (hM:W.heap.size<=g.M) (Qs:W.heap.size<=g.ML) (hC:g.C=C) (hr:g.res=2) (hd:g.bad=0) (he:g.M=M) (hSB:∀q,S q->B<=q/\q<w.heap.size) (hB0:B<=w.heap.size):
  W'.cell? ⟨o.F,1,none⟩=some (.pointer none)/\W'.frozen? ⟨o.F,1,none⟩=false/\uI 32 B S w (W'.setCell ⟨o.F,1,none⟩ (.pointer (some ⟨M,0,none⟩))) (yJ o g se sq ep tv tx):=by
 subst he;have hl:=h.lt;have hw:=h.hk.size;have hs:=hb.size;have h2:=h.on hb;have nd:=h.nd;have JL:=h.nw;simp only[List.nodup_cons,List.mem_cons,List.not_mem_nil,or_false,not_or] at nd;obtain⟨⟨n1,n2,n3,n4⟩,_⟩:=nd;have hq:Kq (λq=>q=o.F) W' (W'.setCell ⟨o.F,1,none⟩ (.pointer (some ⟨g.M,0,none⟩))):=Kq.one ⟨_,_,none⟩ _;have dh:∀q,q≠o.F->(W'.setCell ⟨o.F,1,none⟩ (.pointer (some ⟨g.M,0,none⟩))).heap[q]?=W'.heap[q]?:=λq hq=>heap_setCell_other _ _ _ _ (by simpa using hq);have hFl:=hl o.F au;have hFw:=JL o.F au;have hF:=h2.hF.set 1 (.pointer (some ⟨g.M,0,none⟩));have hA:(opA C o.SE o.NO o.GO o.LA (.pointer none) 2 tv sq ep).setIfInBounds 1 (.pointer (some ⟨g.M,0,none⟩))=Nb 32 (yJ o g se sq ep tv tx):=by unfold Nb yJ opA;simp[hC,hr,hd]
 rw[hA] at hF;have hMl:=hg.hi g.M (.inl rfl);have aFw:=hg.hi g.ML (.inr (.inl rfl));have hsm:∀q,Sm g S q->Up S w (W'.setCell ⟨o.F,1,none⟩ (.pointer (some ⟨g.M,0,none⟩))) q:=λq hq=>by
  rcases hq with e|e|e
  ·exact .inr ⟨ae,by rw[World.size_setCell];omega⟩
  ·exact .inr ⟨ae,by rw[World.size_setCell];omega⟩
  ·exact .inl e
 have YV:∀q,w.heap.size<=q->q<W.heap.size->¬Sm g S q:=λq h1 h2 hq=>by
  rcases hq with e|e|e
  ·omega
  ·omega
  ·have:=(hSB q e).2;omega
 refine⟨h2.hF.aj rfl,h2.hF.frozen 1,⟨⟨S,⟨hF,h2.hS.same (dh _ (Ne.symm n1)),h2.hN.same (dh _ (Ne.symm n2)),h2.hG.same (dh _ (Ne.symm n3)),(h2.hL.kq hq (λq hq=>by obtain rfl:=fD _ _ _ _ hq;exact Ne.symm n4)).mono (Nat.zero_le _),h2.hT.kq hq (λq hq e=>(h.nt q hq).2 (by rw[show q=o.F from e];simp)),hg.kq hq (λq hs e=>?_),h.nd,λq hq=>(h.nt q hq).2,λq hq=>?_,λq hq=>?_⟩,λq hq=>?_,λq hq=>?_⟩,?_⟩⟩
 ·have e:q=o.F:=e;exact YV q ae ae hs
 ·rcases hq with e|e|e|e|e|e
  ·exact YV q (e▸JL _ (by simp[yJ])) (e▸hl _ (by simp[yJ]))
  ·exact YV q (e▸JL _ (by simp[yJ])) (e▸hl _ (by simp[yJ]))
  ·exact YV q (e▸JL _ (by simp[yJ])) (e▸hl _ (by simp[yJ]))
  ·exact YV q (e▸JL _ (by simp[yJ])) (e▸hl _ (by simp[yJ]))
  ·exact YV q (e▸JL _ (by simp[yJ])) (e▸hl _ (by simp[yJ]))
  ·exact YV q (h.nt q e).1 (h.hT.lt q e)
 ·have:w.heap.size<=q:=by
   rcases hq with e|e|e|e|e|e
   ·exact e▸JL _ (by simp[yJ])
   ·exact e▸JL _ (by simp[yJ])
   ·exact e▸JL _ (by simp[yJ])
   ·exact e▸JL _ (by simp[yJ])
   ·exact e▸JL _ (by simp[yJ])
   ·exact(h.nt q e).1
  omega
 ·rcases hq with hq|hq
  ·have:w.heap.size<=q/\q<W.heap.size:=by
    rcases hq with e|e|e|e|e|e
    ·exact⟨e▸JL _ (by simp[yJ]),e▸hl _ (by simp[yJ])⟩
    ·exact⟨e▸JL _ (by simp[yJ]),e▸hl _ (by simp[yJ])⟩
    ·exact⟨e▸JL _ (by simp[yJ]),e▸hl _ (by simp[yJ])⟩
    ·exact⟨e▸JL _ (by simp[yJ]),e▸hl _ (by simp[yJ])⟩
    ·exact⟨e▸JL _ (by simp[yJ]),e▸hl _ (by simp[yJ])⟩
    ·exact⟨(h.nt q e).1,h.hT.lt q e⟩
   exact .inr ⟨this.1,by rw[World.size_setCell];omega⟩
  ·exact hsm q hq
 ·rcases hq with e|e
  ·have:=hSB q e;rw[World.size_setCell];omega
  ·omega
 ·exact((h.hk.on hb)).setCell (p:=⟨o.F,1,none⟩) (.inr hFw) _
end
end
section
open Go.RowKit eX Opn Go.ChangeMaps Go.Maps Go.Shelf

attribute [local go_sem] Oper.semAt_some

def MnI (M H:Nat) (w:World) (se:List En) (pre:List (Nat×Bk)) (W:World):Prop:=
 aF W H 3 #[.int .i64 (idl se pre:Int)]/\aF W (H+1) 221 #[.pointer (some ⟨M,0,none⟩)]/\Below w.heap.size w W/\H+2<=W.heap.size
theorem NF (M H:Nat) (w:World) (se:List En) (pre:List (Nat×Bk)) (B:Nat) (hB:w.heap.size<=B):dM [] B (MnI M H w se pre):=
 (aF.Xh au).and ((aF.Xh au).and ((PL au hB (Nat.le_refl _)).and TJ))
def afe (T:Array Value) (gq:Nat) (x:Nat×Bk):Act:=⟨(((T.setIfInBounds 55 (.int .i64 (x.1:Int))).setIfInBounds 56 (TK x.2)).setIfInBounds 8 (.int .i64 (x.1:Int))).setIfInBounds 9 (.pointer (some ⟨gq,0,none⟩)),[]⟩
theorem aa8 (f g:Nat) (W:World):(binOp .eql 301 (.func (.func f) #[] #[.pointer (some ⟨g,0,none⟩)]) .nilFunc).run prog W= .ok (.bool false) W:=az
section
variable {B C BL:Nat} {S T:Nat->Prop} {w W W':World} {ps:Nat->Nat} {bl:Nat->Pb} {o:Oa} {tv:Value} {tx:List UInt8} {sq ep:Nat} {se:List En}
theorem aff (W:World) (D:Nat) (x:Obj):Kq (λq=>q=D) W (W.putObj D x):=⟨rfl,rfl,rfl,by rw[World.putObj_size];exact Nat.le_refl _,λk _ h1=>World.putObj_heap_other h1⟩
def ayp (B:Nat) (S:Nat->Prop) (w:World) (C BL:Nat) (ps:Nat->Nat) (bl:Nat->Pb) (o:Oa) (tv:Value) (tx:List UInt8) (sq ep:Nat) (se:List En) (e:Ending) (W':World):Prop:=
 e= .returned (.tuple #[])/\∃M ML cap,uI 32 B S w W' (yJ o ⟨M,ML,C,BL,cap,ps,bl,bU bl (og bl 32) (qB se) 32,-1,2,0,decide (4<(Gc.greatest (bU bl (og bl 32) (qB se) 32):Int)-Gc.least (bU bl (og bl 32) (qB se) 32)),λ_=>True⟩ se sq ep tv tx)
theorem Ls (h:Op B S w C BL ps bl o 2 tv tx sq ep se W) (hg:Gd 32 bl) (hb:∀e∈se,e.b<32) (hlv:∀k,k<32->inB se k<=8/\((og bl 32).getD k false=true->inB se k=0)) (hSB:∀q,S q->B<=q/\q<w.heap.size) (hB0:B<=w.heap.size) (hid:∃k,k<32/\inB se k=0):
  Calls prog 175 #[o.F,.slice (some ⟨o.R,0,none⟩) 32 32] W (ayp B S w C BL ps bl o tv tx sq ep se):=by
 refine callsIn_wide (n:=9)|>.1 ?_;refine callsIn_of_wp_marks Tryz.func175 rfl trivial ?_ rfl;refine wpIn_wide.2 ?_;simp only[Tryz.ntmps175,List.size_toArray,List.length_cons,List.length_nil,Nat.reduceAdd,Nat.reduceSub,Array.replicate_succ,Array.replicate_zero,List.push_toArray,List.append_toArray,List.nil_append,List.cons_append];have ZQ:=ag hg;have HB:=ag hb;have HLv:=ag hlv;have HSB:=ag hSB;have iC:=ag hB0;have Qr:=ag hid;have HFw:=ag (h.nw o.F au);have hmi:=adk W;have hcp:=iE;have Yu:=ag (show Y0 B S w C BL ps bl o tv tx sq ep se W.heap.size (W.heap.size+1) [] ((W.alloc (.cells ((List.replicate 32 0).map ZT).toArray 3)).alloc (.cells #[.slice (some ⟨W.heap.size,0,none⟩) 32 32] 116)) from by
  have bK:=(Below.refl W.heap.size W).alloc (Nat.le_refl _) (.cells ((List.replicate 32 0).map ZT).toArray 3);have aW:=bK.alloc bK.size (.cells #[.slice (some ⟨W.heap.size,0,none⟩) 32 32] 116);have h1:=Own.made (f:=ZT) (e:=3) (w:=W) (base:=w.heap.size) (xs:=List.replicate 32 0) h.hk.size (by simp[maxLen]);have h2:=aF.new (W.alloc (.cells ((List.replicate 32 0).map ZT).toArray 3)) 116 #[.slice (some ⟨W.heap.size,0,none⟩) 32 32];rw[World.size_alloc] at h2;have hw:=h.hk.size;refine⟨h.on aW,by rw[aiB];exact h1.alloc _,h2,⟨λe=>?_,λe=>?_,λe=>?_,ae⟩,ae⟩
  ·have:=h.lt _ e;omega
  ·have:=h.hT.lt _ e;omega
  ·have:=(h.hR.aP o.R rfl).2;omega)
 clear h hg hb hlv hSB hB0 hid;go_upto_region 1 with fail;generalize jw:(W.alloc _).alloc _=w1;have HM1:=ag (show Y0 B S w C BL ps bl o tv tx sq ep se W.heap.size (W.heap.size+1) [] w1 by rw[<-jw];exact Yu.o);clear jw hmi Yu;obtain⟨LV,hLV⟩:=bu W.heap.size;obtain⟨Q,hQ⟩:=bu (W.heap.size+1);rw[<-hQ,<-hLV] at HM1;rw[<-hQ,<-hLV];clear hLV hQ;have f5:=HM1.o.op.BZ (i:=5) (v:= .map (some o.SE)) rfl
 go_wp2_with (at_range;refine jF _ rfl _ rfl o.SE se rfl HM1.o.op.hS ?_;intro w2 QL aW mr)
 go_frame;have MN:=ag (HM1.o.on aW.o);have oQ:=QL;obtain⟨r,Ve⟩:=bu w1.heap.size;have RP:=ag Ve;rw[<-Ve] at oQ⊢;clear f5 QL aW mr Ve;have HN:=ag (show∃W0,Y0 B S w C BL ps bl o tv tx sq ep se LV Q [] W0/\W0.heap.size<=r from⟨w1,HM1.o,Nat.le_of_eq RP.o.symm⟩);clear HM1 RP;go_wp2_with fail
 go_loopw [6,18] (λ_ _ wr=>Hid (∃d,jE wr o.SE r se d/\Y0 B S w C BL ps bl o tv tx sq ep se LV Q d wr)) (λ_ _ wr=>wr.rangeLeft o.SE r)
 case atStart=>exact⟨[],oQ.o,MN.o⟩
 case round=>
  obtain⟨d,xZ,hm⟩:=hrel.o;have yN:=ag xZ;have HM:=ag hm;clear hrel xZ hm oQ MN
  go_wp2_with (at_next;refine ku _ rfl _ rfl o.SE r se d rfl yN.o ?_ ?_)
  ·intro xq;have HP:=ag xq.o;clear xq;have hm:=HM.o;go_upto_region 5 with fail;have Fp:=(hm.on (ak wr)).op.BZ (i:=0) (v:= .pointer (some ⟨C,0,none⟩)) rfl;have mr:=(hm.on (ak wr)).op.BZ (i:=2) (v:= .int .i64 2) rfl;have hs3:=(hm.on (ak wr)).op.BZ (i:=3) (v:= .int .i64 0) rfl;have VV:=(hm.on (ak wr)).q4.aj (i:=0) (v:= .slice (some ⟨LV,0,none⟩) 32 32) rfl;have JA:=ag (hm.on (ak wr));clear hm;refine iT (λW'=>W'.cell? ⟨o.F,0,none⟩=some (.pointer (some ⟨C,0,none⟩))/\W'.cell? ⟨o.F,2,none⟩=some (.int .i64 2)/\W'.cell? ⟨o.F,3,none⟩=some (.int .i64 0)/\W'.cell? ⟨Q,0,none⟩=some (.slice (some ⟨LV,0,none⟩) 32 32)) ⟨Fp,mr,hs3,VV⟩ (λbJ=>?_);generalize wr.drew=w5 at*;clear Fp mr hs3 VV;refine dP 0 o.F 0 ?_;refine dP 1 o.F 0 ?_;refine aS 2 o.F 0 ?_;refine aS 3 o.F 0 ?_;refine jy 4 (.pointer (some ⟨C,0,none⟩)) rfl (λ_ aI=>by obtain⟨y1,y2,y3,y4⟩:=aI;go_simp) ?_;refine fB 5 (.slice (some ⟨o.R,0,none⟩) 32 32) ?_;refine jy 6 (.slice (some ⟨LV,0,none⟩) 32 32) rfl (λ_ aI=>by obtain⟨y1,y2,y3,y4⟩:=aI;go_simp) ?_;refine dP 7 o.F 0 ?_;refine aS 8 o.F 0 ?_;refine aS 9 o.F 2 ?_;refine jy 10 (.int .i64 2) rfl (λ_ aI=>by obtain⟨y1,y2,y3,y4⟩:=aI;go_simp) ?_;refine dP 11 o.F 0 ?_;refine aS 12 o.F 0 ?_;refine aS 13 o.F 3 ?_;refine jy 14 (.int .i64 0) rfl (λ_ aI=>by obtain⟨y1,y2,y3,y4⟩:=aI;go_simp) ?_;refine dm 15 (λK' hK=>?_);go_simp;have hl5:=JA.o.lv;rw[UM HP.o] at hl5;refine(EF JA.o.op.hc aB aB ZQ.o.aQ _ 32 (og bl 32) (JA.o.op.hR.arr (by rw[Gu];decide)) _ 32 (qB se) (hl5.arr (by rw[Gv];decide)) (λk hk=>by rw[UJ se hk];exact HLv.o k hk) 2 0).mono ?_;rintro e w6 ⟨M,ML,cap,rfl,hM,Qs,hmg,iI⟩;obtain⟨c1,z1,hft⟩:=asq (M:=M) JA.o.op iI hmg hM Qs rfl rfl rfl rfl HSB.o iC.o;have ZH:=ag hft;have yu:=ag (JA.o.on iI);have rE:w6.cell? ⟨o.F,0,none⟩=some (.pointer (some ⟨C,0,none⟩))/\w6.cell? ⟨o.F,2,none⟩=some (.int .i64 2)/\w6.cell? ⟨o.F,3,none⟩=some (.int .i64 0)/\w6.cell? ⟨Q,0,none⟩=some (.slice (some ⟨LV,0,none⟩) 32 32):=
    ⟨yu.o.op.BZ (i:=0) rfl,yu.o.op.BZ (i:=2) rfl,yu.o.op.BZ (i:=3) rfl,yu.o.q4.aj (i:=0) rfl⟩
   clear hft hl5 hM Qs hmg iI;refine hK.out _ _ rE (λF9=>?_)
   try simp only[aO]
   refine fE 16 (.tuple #[.pointer (some ⟨M,0,none⟩),.int .i64 0]) ?_;refine aS 17 M 0 ?_;refine ik 18 0 ?_;refine aS 19 o.F 0 ?_;refine aS 20 o.F 1 ?_;have hqF:Q≠o.F:=λe=>by
    have h1:=yu.o.q4;have h2:=yu.o.op.hF;unfold aF at h1 h2;rw[e,h2] at h1;injection h1 with h1
    injection h1 with _ h1
    exact absurd h1 aB
   have hLF:LV≠o.F:=λe=>yu.o.nl.1 (by rw[e];simp);refine dm 21 (λK' hK=>?_);go_simp;have hF7:=yu.o.op.hF.set 1 (.pointer (some ⟨M,0,none⟩));have hQ7:=yu.o.q4.far (p:=⟨o.F,1,none⟩) (by simpa using hqF) (.pointer (some ⟨M,0,none⟩));have hl7:=yu.o.lv;rw[UM HP.o] at hl7;have hl8:=hl7.far (p:=⟨o.F,1,none⟩) (by simpa[Value.ownBlock] using hLF) (.pointer (some ⟨M,0,none⟩));have VZ:(w6.setCell ⟨o.F,1,none⟩ (.pointer (some ⟨M,0,none⟩))).cell? ⟨o.F,0,none⟩=some (.pointer (some ⟨C,0,none⟩))/\(w6.setCell ⟨o.F,1,none⟩ (.pointer (some ⟨M,0,none⟩))).cell? ⟨o.F,2,none⟩=some (.int .i64 2)/\(w6.setCell ⟨o.F,1,none⟩ (.pointer (some ⟨M,0,none⟩))).cell? ⟨o.F,3,none⟩=some (.int .i64 0)/\(w6.setCell ⟨o.F,1,none⟩ (.pointer (some ⟨M,0,none⟩))).cell? ⟨Q,0,none⟩=some (.slice (some ⟨LV,0,none⟩) 32 32):=
    ⟨hF7.aj (i:=0) rfl,hF7.aj (i:=2) rfl,hF7.aj (i:=3) rfl,hQ7.aj (i:=0) rfl⟩
   have Yr:=ag hl8;have HQ7:=ag hQ7;clear hF7 hQ7 hl7 hl8 c1 z1 hqF hLF;refine hK.out _ _ VZ (λRJ=>?_)
   try simp only[aO]
   generalize w6.setCell ⟨o.F,1,none⟩ (.pointer (some ⟨M,0,none⟩))=w7 at*;refine gB ?_;clear bJ rE F9 VZ RJ HM JA yu yN HP HN;generalize hgg:(⟨M,ML,C,BL,cap,ps,bl,bU bl (og bl 32) (qB se) 32,-1,((2:Nat):Int),((0:Nat):Int),decide (4<(Gc.greatest (bU bl (og bl 32) (qB se) 32):Int)-Gc.least (bU bl (og bl 32) (qB se) 32)),λ_=>True⟩:Mg)=g at*;have HGg:=ag hgg.symm;have hgM:g.M=M:=by rw[<-hgg]
   clear hgg;go_upto_region 7 with fail;have kQ:=(Below.refl w7.heap.size w7).alloc (Nat.le_refl _) (.cells #[.int .i64 0] 3);have c1:=(ZH.o.1.on kQ).c1;change (w7.alloc (.cells #[.int .i64 0] 3)).cell? ⟨o.F,1,none⟩=some (.pointer (some ⟨g.M,0,none⟩)) at c1;rw[hgM] at c1;go_wp2_with fail;refine(aqT M _).mono ?_;rintro e w' ⟨rfl,rfl⟩;clear c1;have gI:=kQ.alloc kQ.size (.cells #[.pointer (some ⟨M,0,none⟩)] 221);have HB9:=ag gI;have HF9:=ag (ZH.o.1.on gI);have Fz:=ag (Yr.o.on gI);have HQ9:=ag (HQ7.o.ah gI);have b2:=(aF.new w7 3 #[.int .i64 0]).alloc (.cells #[.pointer (some ⟨M,0,none⟩)] 221);have b3:=aF.new (w7.alloc (.cells #[.int .i64 0] 3)) 221 #[.pointer (some ⟨M,0,none⟩)];have ja:((w7.alloc (.cells #[.int .i64 0] 3)).alloc (.cells #[.pointer (some ⟨M,0,none⟩)] 221)).heap.size=w7.heap.size+2:=au;simp only[World.size_alloc] at b3;have U1:=aa8 260;go_wp2_with fail;refine aso λT hT=>?_;generalize ((w7.alloc (.cells #[.int .i64 0] 3)).alloc (.cells #[.pointer (some ⟨M,0,none⟩)] 221))=W0 at*;clear kQ gI;obtain⟨Sg,aa9,afg⟩:=HF9.o.mg;have aa9:gu 32 B Sg W0 g:=aa9;have afg:∀q,Sm g Sg q->Up S w w7 q:=afg;have hM9:=aa9.hM;rw[hgM] at hM9;have hlM:M<w7.heap.size:=(ZH.o.1.bnd M (afg M (.inl hgM.symm))).2;have hlL:g.ML<w7.heap.size:=(ZH.o.1.bnd g.ML (afg g.ML (.inr (.inl rfl)))).2;have mJ:=aen g 32 (w7.heap.size+1) w7.heap.size W0 aa9.hM (by
    have h1:=aa9.arr;obtain⟨q1,q2,q3⟩:=h1;refine⟨q1,q2,λhn=>?_⟩;obtain⟨b,o,e,_,q4⟩:=q3 hn;injection e with e
    injection e with e1 e2
    subst e1 e2;exact⟨_,_,rfl,hlL,q4⟩) (by rw[hgM];exact b3) ae ae
   have oP:=ag (show∀x∈qR g.l 32,x.1<32/\x.2.st<=3 from λx hx=>by
    obtain⟨i,hi,rfl⟩:=List.mem_map.1 hx;have hi:=List.mem_range.1 hi;refine⟨hi,?_⟩;show(Gc.at_ g.l i).st<=3;rw[HGg.o];show(Gc.at_ (bU bl (og bl 32) (qB se) 32) i).st<=3;rw[BC _ _ _ hi,wY,ZQ.o.bad i hi];rw[if_neg aB]
    split
    ·exact Nat.zero_le 3
    ·split
     ·exact(show 2<=3 by decide)
     ·exact(show 3<=3 by decide))
   clear aa9 afg hM9;refine wpIn_wide.1 (Xg (gf:=260) (lb:=#[.pointer (some ⟨w7.heap.size+1,0,none⟩)]) (encs:=PM) (xs:=qR g.l 32) (cw:=[]) (own:=[w7.heap.size+1]) (n0:=w7.heap.size) (w0:=W0) (by rw[hT];rfl) (enters_of Tryz.func260 az rfl) mJ (Below.refl _ _) ae (by simp;omega) au (λ_=>rfl)
    (MnI M w7.heap.size w7 se) (λ_ _ _=>False) (λpre=>NF _ _ _ _ _ _ ae) (λ_ _=>dM.pure _)
    ⟨b2,b3,HB9.o,ae⟩
    (λpre x a1 W=>∃gq,a1=afe T gq x/\w7.heap.size+2<=gq/\aF W gq 296 (DV x.2)/\MnI M w7.heap.size w7 se pre W) ?keeps ?assign ?body ?done ?stop)
   case keeps=>intro pre x a1;exact dM.ex λgq=>(dM.pure _).and ((dM.pure _).and ((aF.Xh au).and (NF _ _ _ _ _ _ ae)))
   case assign=>
    intro lp pre x W K hi dQ hK;obtain⟨i1,i2,i3,i4⟩:=hi;have fQ:=(Below.refl W.heap.size W).alloc (Nat.le_refl _) (.cells (DV x.2) 296);have hk:=hK (afe T W.heap.size x) _ (KeepsOthers.alloc W (.cells (DV x.2) 296)) (fQ.mono ae) (λq hq=>by simp only[List.mem_cons,List.not_mem_nil,or_false] at hq;subst hq;exact fQ.block _ ae) fQ.size ⟨W.heap.size,rfl,i4,aF.new W _ _,i1.alloc _,i2.alloc _,i3.alloc ae _,by rw[World.size_alloc];omega⟩;clear hK;have HK:=ag hk;clear hk;unfold PM;subst hT
    gi_wp2
    exact HK.o
   case body=>
    rintro lp pre ⟨k,y⟩ a1 W ⟨gq,rfl,hgq,hk,bv,bv1,jD,hsW⟩ dQ;obtain⟨ayt,eQ⟩:=oP.o (k,y) (dQ.subset au);have oh:pre.length<=32:=by have:=dQ.length_le;simp only[qR,List.length_append,List.length_singleton,List.length_map,List.length_range] at this;omega
    have hid:=anc se pre;have k0:=hk.aj (i:=0) (v:= .int .i64 (y.st:Int)) rfl;have q4:=(HQ7.o.ah jD).aj (i:=0) (v:= .slice (some ⟨LV,0,none⟩) 32 32) rfl;have l4:=((Yr.o.on jD).iH (k:=k) (by rw[Gv];exact ayt)).1;rw[Js] at l4;change W.cell? ⟨LV,k,none⟩=some (.int .i64 (inB se k:Int)) at l4;have cH:=bv.aj (i:=0) (v:= .int .i64 (idl se pre:Int)) rfl;have fH:=bv.frozen 0;have g0:(0:Int)<=(k:Int):=ae;have g1:(k:Int)<32:=ae;have g4:((y.st:Int) !=4)=true:=by rw[bne_iff_ne];simp only at eQ;omega
    have HS:=ag (afd se pre (k,y));have HI:=ag (show MnI M w7.heap.size w7 se pre W from⟨bv,bv1,jD,hsW⟩);obtain⟨id0,anf⟩:=bu (idl se pre);rw[<-anf] at hid cH;have ayu:=ag anf;have iw:=IntWalk.i64_in ((id0:Int)+1) ⟨ae,ae⟩;obtain⟨c,hc⟩:=bu (inB se k);rw[<-hc] at l4;have HCc:=ag hc;unfold afe;subst hT;simp only[List.setIfInBounds_toArray,List.set_cons_succ,List.set_cons_zero];clear mJ dQ jD bv1 hid anf hc eQ hk bv;by_cases h0:c=0
    ·have h0i:((c:Int)==0)=true:=by rw[h0];rfl
     have H0:=ag h0;clear h0
     gi_wp2
     have kb:Below w7.heap.size W (W.setCell ⟨w7.heap.size,0,none⟩ (.int .i64 ((id0:Int)+1))):=(Below.refl w7.heap.size W).setCell (p:=⟨w7.heap.size,0,none⟩) (Nat.le_refl _) _;obtain⟨i1,i2,i3,i4⟩:=HI.o;refine⟨fC _ _ _ _,kb,?_,?_,i2.far (p:=⟨w7.heap.size,0,none⟩) au _,i3.trans kb,by simpa using i4⟩
     ·intro z hz;simp only[List.mem_cons,List.not_mem_nil,or_false] at hz;subst hz;exact heap_setCell_other _ _ _ _ au
     ·have h9:=i1.set 0 (.int .i64 ((id0:Int)+1));rw[HS.o,if_pos (show inB se k=0 by rw[<-HCc.o];exact H0.o),<-ayu.o];rw[show((id0+1:Nat):Int)=(id0:Int)+1 by omega];exact h9
    ·have h0i:((c:Int)==0)=false:=by rw[beq_eq_false_iff_ne];omega
     have H0:=ag h0;clear h0
     gi_wp2
     obtain⟨i1,i2,i3,i4⟩:=HI.o;refine⟨KeepsOthers.refl _,Below.refl _ _,λ_ _=>rfl,?_,i2,i3,i4⟩;rw[HS.o,if_neg (show¬inB se k=0 by rw[<-HCc.o];exact H0.o),Nat.add_zero];exact i1
   case done=>
    rintro D W hD ⟨bv,_,jD,hsW⟩ hK;have TQ:0<idl se (qR g.l 32):=by obtain⟨k,hk,h0⟩:=Qr.o;exact aiC se (x:=(k,Gc.at_ g.l k)) (List.mem_map.2 ⟨k,List.mem_range.2 hk,rfl⟩) h0
    have cH:=bv.aj (i:=0) (v:= .int .i64 (idl se (qR g.l 32):Int)) rfl;have HFW:=ag (ZH.o.1.on jD);have f11:=HFW.o.c11;have z11:=HFW.o.frz 11;change W.cell? ⟨o.F,11,none⟩=some (.bool false) at f11;change W.frozen? ⟨o.F,11,none⟩=false at z11;generalize idl se (qR g.l 32)=nn at*;have hz:((nn:Int)==0)=false:=by rw[beq_eq_false_iff_ne];omega
    have AL:=ag jD;subst hT;clear mJ jD bv TQ;go_wp2;have hlF:o.F<w7.heap.size:=ZH.o.1.ltF;have hDF:D≠o.F:=ae;have hK2:(W.setCell ⟨o.F,11,none⟩ (.bool false)).heap[D]?=some (.deferred (some [])):=by rw[<-hK];exact heap_setCell_other _ _ _ _ (by simpa using hDF)
    refine⟨au,.inl ⟨_,_,rfl,run_takeDeferred hK2,?_⟩⟩;refine⟨.tuple #[],by simp[results,Tryz.results175,go_sem],rfl,M,ML,cap,?_⟩;have h1:=HFW.o.alW 11 (.bool false) (yJ o g se sq ep tv tx) (by unfold Nb yJ;simp) rfl rfl rfl rfl rfl rfl rfl rfl rfl rfl rfl;have h2:=h1.kq (aff _ D (.deferred none)) (λq hq e=>by have:=(ZH.o.1.bnd q hq).2;have e:q=D:=e;omega);have axC:w7.heap.size<=W.heap.size:=AL.o.size;have h3:=ZH.o.2.size;have hgg:=HGg.o;have ass:(⟨M,ML,C,BL,cap,ps,bl,bU bl (og bl 32) (qB se) 32,-1,2,0,decide (4<(Gc.greatest (bU bl (og bl 32) (qB se) 32):Int)-Gc.least (bU bl (og bl 32) (qB se) 32)),λ_=>True⟩:Mg)=g:=hgg.symm;rw[ass];refine⟨h2.more (λq hq=>?_) (λq hq=>?_),?_⟩
    ·rcases hq with e|e
     ·exact .inl e
     ·exact .inr ⟨e.1,by rw[World.putObj_size,World.size_setCell];omega⟩
    ·rw[World.putObj_size,World.size_setCell];rcases hq with e|e
     ·have:=HSB.o q e;omega
     ·rw[World.putObj_size,World.size_setCell] at e;have:=iC.o;omega
    ·refine(((ZH.o.2.on AL.o).setCell (p:=⟨o.F,11,none⟩) (.inr ?_) _).ay (aff _ D (.deferred none)) (λq e=>?_))
     ·rcases ZH.o.1.inF with e|e
      ·have h4:=(HSB.o _ e).2;have h5:=HFw.o;exact h5
      ·exact e.1
     ·have e:q=D:=e;exact .inr ae
   case stop=>rintro D k pre W hD _ h hK;exact h.elim
  ·intro e w6 he Uw Xx hs6 hl6 CJ;rw[wZ] at CJ⊢;have lI:Kq (λq=>q=r) wr w6:=(Kq.grown Xx.o).mono λq e=>(Option.some.inj e).symm;have yu:=ag (HM.o.new lI HN.o);have pG:=(Below.refl w6.heap.size w6).alloc (Nat.le_refl _) (.cells #[.int .i64 (e.b:Int),.int .i64 (e.i:Int)] 247);have Nh:=ag (yu.o.on pG);have ZG:=ag (Uw.o.on pG);have HE7:=ag (show(w6.alloc (.cells #[.int .i64 (e.b:Int),.int .i64 (e.i:Int)] 247)).rangeLeft o.SE r<wr.rangeLeft o.SE r by rw[Uw.o.1.yg pG];exact hl6.o);have HZ:=ag (aF.new w6 247 #[.int .i64 (e.b:Int),.int .i64 (e.i:Int)]);rw[hs6] at HZ;have HBe:=ag (HB.o e he.o.1);have UY:=ag (show inB d e.b<=100000 by
    obtain⟨rest,hr⟩:=yN.o.rest;have h1:=UL hr e.b;have h2:=(HLv.o e.b HBe.o).1;have h3:inB (d++rest) e.b=inB d e.b+inB rest e.b:=by unfold inB;rw[List.filter_append,List.length_append]
    omega)
   clear lI pG Uw Xx hl6;go_upto_region 4 with fail;generalize w6.alloc (.cells #[.int .i64 (e.b:Int),.int .i64 (e.i:Int)] 247)=w7 at*;clear CJ;have c0:=HZ.o.aj (i:=0) (v:= .int .i64 (e.b:Int)) rfl;have c4:=Nh.o.q4.aj (i:=0) rfl;obtain⟨l0,z0,hm8⟩:=Nh.o.cnt HBe.o;have HM8:=ag hm8;have b0:(0:Int)<=(e.b:Int):=ae;have b1:(e.b:Int)<32:=by have:=HBe.o;omega
   have iw:=IntWalk.i64_in ((inB d e.b:Int)+1) ⟨ae,by have:=UY.o;omega⟩;rw[show((inB d e.b+1:Nat):Int)=(inB d e.b:Int)+1 by omega] at HM8;have hq8:Kq (λq=>q=LV) w7 (w7.setCell ⟨LV,e.b,none⟩ (.int .i64 ((inB d e.b:Int)+1))):=Kq.one ⟨_,_,none⟩ _;have hLE:LV≠o.SE:=λe2=>Nh.o.nl.1 (by rw[e2];simp);have hLR:LV≠r:=λe2=>by obtain⟨W0,h0,h1⟩:=HN.o;have:=(h0.lv.aP LV rfl).2;omega
   have q1:=hq8.block o.SE ZG.o.ltb (Ne.symm hLE);have q2:=hq8.block r ZG.o.ltr (Ne.symm hLR);have LK:=ag (ZG.o.same q1 q2);have HE8:=ag (show(w7.setCell ⟨LV,e.b,none⟩ (.int .i64 ((inB d e.b:Int)+1))).rangeLeft o.SE r<wr.rangeLeft o.SE r by rw[qg q1 q2];exact HE7.o);clear hm8 hq8 hLE hLR q1 q2;go_wp2_with fail;go_roundw
   case rel=>exact⟨d++[e],LK.o,HM8.o⟩
   case measure=>exact HE8.o
end
end
end Go.Proofs.YtnieckfelfoopaaGreat

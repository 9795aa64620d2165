import Derived.Test.YtnieckfelfoopaaGreatOpnMan
open Go.Proofs.Tryz (prog)
namespace Go.Proofs.YtnieckfelfoopaaGreat
open Lib (hid)
set_option maxRecDepth 100000
set_option maxHeartbeats 16000000
section
open Go.RowKit eX Opn Go.ChangeMaps Go.Maps

namespace Opn
def maxS (g:En->Nat) (m:Nat) (e:En):Nat:=max m (g e)
def yI (g:En->Nat) (l:List En):Nat:=l.foldl (maxS g) 0
theorem Nz (g:En->Nat) (l:List En):∀m,m<=l.foldl (maxS g) m/\(∀e∈l,g e<=l.foldl (maxS g) m)/\(l.foldl (maxS g) m=m\/∃e∈l,l.foldl (maxS g) m=g e):=by
 induction l with
 |nil=>exact λm=>⟨Nat.le_refl m,λe h=>(by cases h),.inl rfl⟩
 |cons a t ih=>
  intro m;rw[List.foldl_cons];obtain⟨h1,h2,h3⟩:=ih (maxS g m a);have h4:m<=maxS g m a:=Nat.le_max_left _ _;have h5:g a<=maxS g m a:=Nat.le_max_right _ _;refine⟨Nat.le_trans h4 h1,λe he=>?_,?_⟩
  ·rcases List.mem_cons.1 he with rfl|he
   ·exact Nat.le_trans h5 h1
   ·exact h2 e he
  ·rcases h3 with h3|⟨e,he,h3⟩
   ·rcases Nat.le_total m (g a) with e|e
    ·exact .inr ⟨a,au,h3.trans (Nat.max_eq_right e)⟩
    ·exact .inl (h3.trans (Nat.max_eq_left e))
   ·exact .inr ⟨e,List.mem_cons_of_mem _ he,h3⟩
theorem YY {g:En->Nat} {l:List En} {m:Nat} (h:∀e∈l,g e<=m) (hm:∃e∈l,g e=m):yI g l=m:=by
 obtain⟨h1,h2,h3⟩:=Nz g l 0;obtain⟨e,he,h4⟩:=hm;have h5:=h2 e he;unfold yI;rcases h3 with h3|⟨x,hx,h3⟩
 ·omega
 ·have:=h x hx;omega
theorem YZ {g:En->Nat} {l:List En} {m:Nat} (h:∀e∈l,g e<=m):yI g l<=m:=by
 obtain⟨_,_,h3⟩:=Nz g l 0;unfold yI;rcases h3 with h3|⟨x,hx,h3⟩
 ·omega
 ·have:=h x hx;omega
end Opn
section
variable {B C BL:Nat} {S:Nat->Prop} {w:World} {ps:Nat->Nat} {bl:Nat->Pb} {V:Nat->Option (Tg×List UInt8)} {last sq:Nat} {tl:List UInt8}
def ayi (B:Nat) (S:Nat->Prop) (w:World) (C BL:Nat) (ps:Nat->Nat) (bl:Nat->Pb) (last sq:Nat) (tl:List UInt8) (e:Ending) (W':World):Prop:=
 ∃o tv M ML cap,e= .returned (.tuple #[.pointer (some ⟨o.F,0,none⟩),.int .i64 0])/\uI 32 B S w W' (yJ o ⟨M,ML,C,BL,cap,ps,bl,bU bl (og bl 32) (qB (bf (allL bl 32))) 32,-1,2,0,decide (4<(Gc.greatest (bU bl (og bl 32) (qB (bf (allL bl 32))) 32):Int)-Gc.least (bU bl (og bl 32) (qB (bf (allL bl 32))) 32)),λ_=>True⟩ (bf (allL bl 32)) (sq+1) (last+1) tv tl)
theorem Rz (h:eG 32 B S w C BL ps bl) (hg:Gd 32 bl) (hH:aa3 (allL bl 32) V last sq) (Jy:1<=last) (CB:last<=1000000) (mr:sq<=1000000) (hV:∀p x,V p=some x->p<230) (htl:∀x,V 0=some x->x.2=fZ tl) (hlv:∀k,k<32->inB (bf (allL bl 32)) k<=8/\((og bl 32).getD k false=true->inB (bf (allL bl 32)) k=0)) (hid:∃k,k<32/\inB (bf (allL bl 32)) k=0):
  Calls prog 116 #[C] w (ayi B S w C BL ps bl last sq tl):=by
 have HU:=ag (qF h);have HSc:=ag (XK h hg);have ZQ:=ag hg;have HH:=ag hH;have HHl:=ag hH.ajX;have HSe:=ag hH.BU;have HLv:=ag hlv;have Qr:=ag hid;have HV:=ag hV;have HTl:=ag htl;have HSB:=ag (show∀q,S q->B<=q/\q<w.heap.size from λq hq=>⟨h.lo q hq,h.hi q hq⟩);have iC:=ag h.base;have DC:=ag (show(allL bl 32).length<=256 from UF bl 32);have HPs:=ag (show∀e∈allL bl 32,e.t.p<4294967296/\e.b<32/\e.i<8/\Is bl e from λe he=>by obtain⟨h1,h2,h3⟩:=pO.1 he;obtain⟨L,h4,h5,_⟩:=h3;obtain⟨_,_,_,_,_,h6,_⟩:=hg.ok e.b e.i L h1 h2 h4;exact⟨by rw[h5];exact h6,h1,h2,pO.1 he|>.2.2⟩);clear h hg hH hlv hid hV htl
 go_in
 go_wp2_with fail;refine(HU.o).mono ?_;rintro e w_ ⟨rfl,rfl⟩;go_wp2_with fail;refine HSc.o.mono ?_;rintro e w1 ⟨v,gb,G,rfl,hsc⟩;obtain⟨a,c,rfl,hc⟩:=hsc.hv.form;have nZ:=ag hsc;have F8:=ag (hsc.hv.arr (by have:=DC.o;omega));have HLe:=ag (show(allL bl 32).length<=100000 by have:=DC.o;omega);obtain⟨n,hn⟩:=bu ((allL bl 32).length);rw[<-hn] at F8 HLe⊢;have HNn:=ag hn;clear hsc hc hn;go_wp2_with fail;refine(FQ a n c _ w1 F8.o HLe.o).mono ?_;rintro e w2 ⟨rfl,aW⟩;rw[HHl.o];have JH:=ag (F8.o.on aW);have dA:=ag aW;have hlz:((last:Int)==0)=false:=by rw[beq_eq_false_iff_ne];omega
 clear aW;go_wp2_with fail;refine(Qd a n c _ last w2 JH.o HLe.o (λe he=>(HPs.o e he).1)).mono ?_;rintro e w3 ⟨⟨v3,rfl,OZ⟩,bQ⟩;obtain⟨a3,c3,rfl,yR⟩:=OZ.form;have hn3:(xy last (allL bl 32)).length<=100000:=by have h1:=List.length_filter_le (FT last (EU last (allL bl 32))) (allL bl 32);have h2:(xy last (allL bl 32)).length<=(allL bl 32).length:=h1;have:=DC.o;omega
 have zZ:=ag (JH.o.on bQ);have dE:=ag (dA.o.ay bQ);have rf:=ag (OZ.arr ae);have qZ:=ag hn3;obtain⟨n3,asf⟩:=bu ((xy last (allL bl 32)).length);rw[<-asf] at rf qZ⊢;clear bQ OZ yR hn3 asf hlz;go_wp2_with fail;refine(Qe a3 n3 c3 _ w3 rf.o qZ.o (λe he=>by have h1:=(XL he).1;have h2:=HPs.o e h1;exact⟨h2.1,ae⟩)).mono ?_;rintro e w4 ⟨⟨ob,rfl,hob,CU⟩,di⟩;rw[show UG (uo (xy last (allL bl 32))) (xy last (allL bl 32))=bf (allL bl 32) by unfold bf;rw[HHl.o]] at CU;have HX4:=ag (zZ.o.on di);have kL:=ag (dE.o.ay di);have HM4:=ag CU;have HOb:=ag (show w1.heap.size<=ob by have:=dE.o.size;omega);clear di CU hob rf zZ;generalize Dx:bf (allL bl 32)=se at*;have ayj:=ag Dx;clear Dx;have Qp:=@run_makeMap prog;go_wp2_with fail;have iP:=((Below.refl w4.heap.size w4).alloc (Nat.le_refl _) (.map #[] 0)).alloc au (.map #[] 0);have Dt:=ag (HX4.o.on iP);have pV:=ag (kL.o.ay iP);have JA:=ag (HM4.o.on iP);have Y3:=ag (show dC ((w4.alloc (.map #[] 0)).alloc (.map #[] 0)) w4.heap.size [] from(dC.made w4).alloc _);have Kv:=ag (show dC ((w4.alloc (.map #[] 0)).alloc (.map #[] 0)) (w4.heap.size+1) [] from by have h1:=dC.made (w4.alloc (.map #[] 0));rw[World.size_alloc] at h1;exact h1);have HOl:=ag (show ob<w4.heap.size from HM4.o.lt);have Ad:=ag (show((w4.alloc (.map #[] 0)).alloc (.map #[] 0)).heap.size=w4.heap.size+2 by simp);clear Qp iP;generalize (w4.alloc (.map #[] 0)).alloc (.map #[] 0)=w5 at*;refine(dU (nZ.o.hc.on pV.o)).mono ?_;rintro e w6 ⟨rfl,iI⟩;have HX6:=ag (Dt.o.on iI);have vP:=ag (pV.o.ay iI);have yu:=ag (JA.o.on iI);have HN6:=ag (Y3.o.on iI);have HG6:=ag (Kv.o.on iI);have HS6:=ag (show w4.heap.size+2<=w6.heap.size by have:=Ad.o;have:=iI.size;omega);clear iI Dt JA Y3 Kv HM4 HX4;generalize w4.heap.size=NO at*;have hf0:=ajv (.int .i64 32) (.int .i64 8) (.int .i64 64);have uY:=Gg w6;unfold uf;go_upto_region 10 with fail;obtain⟨o,ho⟩:∃o:Oa,o=⟨w6.heap.size+1,ob,NO,NO+1,w6.heap.size,gb⟩:=⟨_,rfl⟩
 obtain⟨w8,hw8⟩:=bu ((w6.alloc (.cells ((List.replicate 32 false).map pI).toArray 4)).alloc (.cells (opA C ob NO (NO+1) w6.heap.size (.pointer none) 0 (.slice none 0 0) 0 0) 225));have kQ:Below w6.heap.size w6 w8:=by rw[hw8];exact((Below.refl _ w6).alloc (Nat.le_refl _) _).alloc au _
 have uP:Op B S w C BL ps bl o 0 (.slice none 0 0) [] 0 0 se w8:=by
  have iO:=nZ.o.hk.size;have hob:=HOb.o;have hol:=HOl.o;have hs6:=HS6.o;have hB1:=vP.o.size;have jr:=nZ.o.ho.aP gb rfl;have am4:=vP.o.ay kQ;have h2:=aF.new (w6.alloc (.cells ((List.replicate 32 false).map pI).toArray 4)) 225 (opA C ob NO (NO+1) w6.heap.size (.pointer none) 0 (.slice none 0 0) 0 0);rw[World.size_alloc,<-hw8] at h2;have h3:=Own.made (f:=pI) (e:=4) (w:=w6) (base:=w.heap.size) (xs:=List.replicate 32 false) ae (by simp[maxLen]);have h4:=h3.alloc (.cells (opA C ob NO (NO+1) w6.heap.size (.pointer none) 0 (.slice none 0 0) 0 0) 225);rw[<-hw8] at h4;subst ho;refine⟨nZ.o.hc.on am4,h2,yu.o.on kQ,HN6.o.on kQ,HG6.o.on kQ,h4,nZ.o.ho.on am4,.of (B:=0) (Own.nil _ _),nZ.o.hk.on am4,?_,λq hq=>?_,λq hq=>(by cases hq),nZ.o.lS,⟨λhm=>?_,jr.1,λhm=>by cases hm⟩⟩
  ·simp only[List.nodup_cons,List.mem_cons,List.not_mem_nil,or_false,not_or];refine⟨⟨ae,ae,ae,ae⟩,⟨ae,ae,ae⟩,⟨ae,ae⟩,ae,⟨λe=>e,List.nodup_nil⟩⟩
  ·simp only[List.mem_cons,List.not_mem_nil,or_false] at hq;omega
  ·simp only[List.mem_cons,List.not_mem_nil,or_false] at hm;omega
 have HOp:=ag uP;have HB8:=ag kQ;have HFw:=ag (show w6.heap.size<=o.F by rw[ho];exact Nat.le_succ _);have hF:o.F=w6.heap.size+1:=by rw[ho]
 have HRg:=ag (show gb=o.R by rw[ho]);rw[<-hF];generalize hww:World.alloc _ _=wa;have hwa:wa=w8:=by rw[hw8,<-hww];rfl
 rw[hwa];clear hww hwa hw8 uP kQ hF ho uY hf0 yu HN6 HG6 HOl HOb Ad HS6 vP pV;clear wa;rw[HRg.o];have HAs:=ag (show∀e∈allL bl 32,e.t.e<=last/\e.t.s<=sq from λe he=>⟨(HH.o.all e he).1,(HH.o.all e he).2.1⟩);have jq:=BX;go_wp2_with fail
 go_loopw [10,48] (λ_ i wr=>∃j:Nat,j<=n/\i= .int .i64 j/\Op B S w C BL ps bl o 0 (.slice none 0 0) [] (yI (·.t.s) ((allL bl 32).take j)) (yI (·.t.e) ((allL bl 32).take j)) se wr/\Below w6.heap.size w6 wr) (λ_ i _=>n-(intOf i).toNat)
 case atStart=>exact⟨0,Nat.zero_le _,rfl,HOp.o,HB8.o⟩
 case round=>
  obtain⟨j,hj,rfl,uP,kF⟩:=hrel;have HO:=ag uP;have HB:=ag kF;clear uP kF HOp HB8;by_cases aU:j<n
  ·obtain⟨x,UH,b,q,rfl,kF,c0,c1,c2,c3,c4,c5⟩:=NC (HX6.o.below HB.o) aU;obtain⟨uX,FU⟩:=List.getElem?_eq_some_iff.1 UH;have eQ:=qi (maxS (·.t.s)) 0 (allL bl 32) uX;have Dx:=qi (maxS (·.t.e)) 0 (allL bl 32) uX;rw[FU] at eQ Dx;have iO:yI (·.t.s) ((allL bl 32).take j)<=sq:=YZ λe he=>(HAs.o e (List.mem_of_mem_take he)).2;have he1:yI (·.t.e) ((allL bl 32).take j)<=last:=YZ λe he=>(HAs.o e (List.mem_of_mem_take he)).1;have Oi:=HAs.o x (FU▸List.getElem_mem uX);have oP:=ag (show yI (·.t.s) ((allL bl 32).take (j+1))=max (yI (·.t.s) ((allL bl 32).take j)) x.t.s from eQ);have am5:=ag (show yI (·.t.e) ((allL bl 32).take (j+1))=max (yI (·.t.e) ((allL bl 32).take j)) x.t.e from Dx);have Qn:(0:Int)<=(j:Int):=ae;have ZL:(j:Int)<(n:Int):=ae;have oC:=HLe.o;clear eQ Dx UH uX FU;generalize yI (·.t.s) ((allL bl 32).take j)=ms at*;generalize yI (·.t.e) ((allL bl 32).take j)=me at*;obtain⟨m1,Ye⟩:=bu (max ms x.t.s);obtain⟨m2,XZ⟩:=bu (max me x.t.e);have Ff:max (ms:Int) (x.t.s:Int)=(m1:Int):=ae;have Ez:max (me:Int) (x.t.e:Int)=(m2:Int):=ae;rw[<-Ye] at oP;rw[<-XZ] at am5;have hle:x.t.e<=last:=Oi.1;clear Ye XZ Oi;have fQ:=(Below.refl wr.heap.size wr).alloc (Nat.le_refl _) (.cells #[.int .i64 x.t.k,.int .u32 (x.t.p:Int),.int .u64 (x.t.s:Int),.int .u64 (x.t.e:Int),.int .i64 (x.b:Int),.int .i64 (x.i:Int)] 249);have yS:=ag (HO.o.on fQ);have dA:=ag (HB.o.ay fQ);have HZ:=ag (aF.new wr 249 #[.int .i64 x.t.k,.int .u32 (x.t.p:Int),.int .u64 (x.t.s:Int),.int .u64 (x.t.e:Int),.int .i64 (x.b:Int),.int .i64 (x.i:Int)]);have Af:=ag (show wr.heap.size≠o.F from λe=>by have:=HO.o.hF.lt;omega);clear fQ;go_upto_region 13 with fail;generalize wr.alloc (.cells #[.int .i64 x.t.k,.int .u32 (x.t.p:Int),.int .u64 (x.t.s:Int),.int .u64 (x.t.e:Int),.int .i64 (x.b:Int),.int .i64 (x.i:Int)] 249)=w9 at*;generalize wr.heap.size=Z at*;clear c0 c1 c2 c3 c4 c5;have H9:=ag (yS.o.on (ak w9));have HB9:=ag (dA.o.ay (ak w9));have qp:w9.drew.cell? ⟨Z,2,none⟩=some (.int .u64 (x.t.s:Int))/\w9.drew.cell? ⟨Z,3,none⟩=some (.int .u64 (x.t.e:Int)):=⟨HZ.o.drew.aj (i:=2) rfl,HZ.o.drew.aj (i:=3) rfl⟩
   have HZd:=ag (show aF w9.drew Z 249 #[.int .i64 x.t.k,.int .u32 (x.t.p:Int),.int .u64 (x.t.s:Int),.int .u64 (x.t.e:Int),.int .i64 (x.b:Int),.int .i64 (x.i:Int)] from HZ.o.drew);have hq8:=H9.o.BZ (i:=8) (v:= .int .u64 ms) rfl;have hq9:=H9.o.BZ (i:=9) (v:= .int .u64 me) rfl;refine iT (λW'=>W'.cell? ⟨Z,2,none⟩=some (.int .u64 (x.t.s:Int))/\W'.cell? ⟨Z,3,none⟩=some (.int .u64 (x.t.e:Int))) qp (λbJ=>?_);generalize w9.drew=Ig at*;refine dP 0 o.F 0 ?_;refine dP 1 o.F 0 ?_;refine dP 2 o.F 0 ?_;refine aS 3 o.F 0 ?_;refine aS 4 o.F 8 ?_;refine aS 6 Z 0 ?_;refine aS 7 Z 2 ?_;refine jy 8 (.int .u64 (x.t.s:Int)) rfl (λ_ aI=>by obtain⟨y1,y2⟩:=aI;go_simp) ?_;refine dP 10 o.F 0 ?_;refine aS 11 o.F 0 ?_;refine aS 12 o.F 9 ?_;refine aS 14 Z 0 ?_;refine aS 15 Z 3 ?_;refine jy 16 (.int .u64 (x.t.e:Int)) rfl (λ_ aI=>by obtain⟨y1,y2⟩:=aI;go_simp) ?_;refine wpAnyH_ready (rs:=[5,13]) az au ?_;refine AllReadyH.cons rfl (λK' hK=>?_) (AllReadyH.cons rfl (λK' hK=>?_) AllReadyH.nil)
   ·go_simp;refine hK.out _ _ qp (λdH=>?_)
    try simp only[aO]
    clear dH;refine fE 9 (.int .u64 m1) ?_;refine dm 13 (λK' hK=>?_);go_simp;refine hK.out _ _ qp (λgm=>?_)
    try simp only[aO]
    clear gm;refine fE 17 (.int .u64 m2) ?_;refine aS 18 o.F 0 ?_;refine aS 19 o.F 8 ?_;have z8:=H9.o.hF.frozen 8;refine dm 20 (λK' hK=>?_);go_simp;have HA:=ag (H9.o.set (res':=0) (tv':= .slice none 0 0) (tx':=[]) (sq':=m1) (ep':=me) 8 (.int .u64 m1) rfl (.inl ⟨rfl,rfl⟩));have HBA:=ag (HB9.o.setCell (p:=⟨o.F,8,none⟩) HFw.o (.int .u64 m1));have hzA:(Ig.setCell ⟨o.F,8,none⟩ (.int .u64 m1)).cell? ⟨Z,2,none⟩=some (.int .u64 (x.t.s:Int))/\(Ig.setCell ⟨o.F,8,none⟩ (.int .u64 m1)).cell? ⟨Z,3,none⟩=some (.int .u64 (x.t.e:Int)):=⟨(World.cell?_setCell_far _ _ _ _ (by simpa using Ne.symm Af.o)).trans qp.1,(World.cell?_setCell_far _ _ _ _ (by simpa using Ne.symm Af.o)).trans qp.2⟩
    clear z8;refine hK.out _ _ hzA (λam6=>?_)
    try simp only[aO]
    generalize Ig.setCell ⟨o.F,8,none⟩ (.int .u64 m1)=ug at*;refine aS 21 o.F 0 ?_;refine aS 22 o.F 9 ?_;have q9:=HA.o.BZ (i:=9) (v:= .int .u64 me) rfl;have z9:=HA.o.hF.frozen 9;refine dm 23 (λK' hK=>?_);go_simp;have HC:=ag (HA.o.set (res':=0) (tv':= .slice none 0 0) (tx':=[]) (sq':=m1) (ep':=m2) 9 (.int .u64 m2) rfl (.inl ⟨rfl,rfl⟩));have HBC:=ag (HBA.o.setCell (p:=⟨o.F,9,none⟩) HFw.o (.int .u64 m2));have hzC:(ug.setCell ⟨o.F,9,none⟩ (.int .u64 m2)).cell? ⟨Z,2,none⟩=some (.int .u64 (x.t.s:Int))/\(ug.setCell ⟨o.F,9,none⟩ (.int .u64 m2)).cell? ⟨Z,3,none⟩=some (.int .u64 (x.t.e:Int)):=⟨(World.cell?_setCell_far _ _ _ _ (by simpa using Ne.symm Af.o)).trans hzA.1,(World.cell?_setCell_far _ _ _ _ (by simpa using Ne.symm Af.o)).trans hzA.2⟩
    clear q9 z9;refine hK.out _ _ hzC (λam8=>?_)
    try simp only[aO]
    generalize ug.setCell ⟨o.F,9,none⟩ (.int .u64 m2)=w12 at*;refine gB ?_;have c3:=hzC.2;clear bJ qp hzA am6 hzC am8 hq8 hq9;go_wp2_with fail;go_roundw
    case rel=>exact⟨j+1,ae,by go_num,by rw[oP.o,am5.o];exact HC.o,HBC.o⟩
    case measure=>simp[intOf];omega
   ·go_simp;refine hK.out _ _ qp (λdH=>?_)
    try simp only[aO]
    clear dH;refine fE 17 (.int .u64 m2) ?_;refine dm 5 (λK' hK=>?_);go_simp;refine hK.out _ _ qp (λgm=>?_)
    try simp only[aO]
    clear gm;refine fE 9 (.int .u64 m1) ?_;refine aS 18 o.F 0 ?_;refine aS 19 o.F 8 ?_;have z8:=H9.o.hF.frozen 8;refine dm 20 (λK' hK=>?_);go_simp;have HA:=ag (H9.o.set (res':=0) (tv':= .slice none 0 0) (tx':=[]) (sq':=m1) (ep':=me) 8 (.int .u64 m1) rfl (.inl ⟨rfl,rfl⟩));have HBA:=ag (HB9.o.setCell (p:=⟨o.F,8,none⟩) HFw.o (.int .u64 m1));have hzA:(Ig.setCell ⟨o.F,8,none⟩ (.int .u64 m1)).cell? ⟨Z,2,none⟩=some (.int .u64 (x.t.s:Int))/\(Ig.setCell ⟨o.F,8,none⟩ (.int .u64 m1)).cell? ⟨Z,3,none⟩=some (.int .u64 (x.t.e:Int)):=⟨(World.cell?_setCell_far _ _ _ _ (by simpa using Ne.symm Af.o)).trans qp.1,(World.cell?_setCell_far _ _ _ _ (by simpa using Ne.symm Af.o)).trans qp.2⟩
    clear z8;refine hK.out _ _ hzA (λam6=>?_)
    try simp only[aO]
    generalize Ig.setCell ⟨o.F,8,none⟩ (.int .u64 m1)=ug at*;refine aS 21 o.F 0 ?_;refine aS 22 o.F 9 ?_;have q9:=HA.o.BZ (i:=9) (v:= .int .u64 me) rfl;have z9:=HA.o.hF.frozen 9;refine dm 23 (λK' hK=>?_);go_simp;have HC:=ag (HA.o.set (res':=0) (tv':= .slice none 0 0) (tx':=[]) (sq':=m1) (ep':=m2) 9 (.int .u64 m2) rfl (.inl ⟨rfl,rfl⟩));have HBC:=ag (HBA.o.setCell (p:=⟨o.F,9,none⟩) HFw.o (.int .u64 m2));have hzC:(ug.setCell ⟨o.F,9,none⟩ (.int .u64 m2)).cell? ⟨Z,2,none⟩=some (.int .u64 (x.t.s:Int))/\(ug.setCell ⟨o.F,9,none⟩ (.int .u64 m2)).cell? ⟨Z,3,none⟩=some (.int .u64 (x.t.e:Int)):=⟨(World.cell?_setCell_far _ _ _ _ (by simpa using Ne.symm Af.o)).trans hzA.1,(World.cell?_setCell_far _ _ _ _ (by simpa using Ne.symm Af.o)).trans hzA.2⟩
    clear q9 z9;refine hK.out _ _ hzC (λam8=>?_)
    try simp only[aO]
    generalize ug.setCell ⟨o.F,9,none⟩ (.int .u64 m2)=w12 at*;refine gB ?_;have c3:=hzC.2;clear bJ qp hzA am6 hzC am8 hq8 hq9;go_wp2_with fail;go_roundw
    case rel=>exact⟨j+1,ae,by go_num,by rw[oP.o,am5.o];exact HC.o,HBC.o⟩
    case measure=>simp[intOf];omega
  ·obtain rfl:j=n:=ae;have hl:=HNn.o;have hms:yI (·.t.s) (allL bl 32)=sq:=by obtain⟨x,h1,h2,h3⟩:=HH.o.UI;obtain⟨_,e,he,h4,_⟩:=HH.o.has 0 x h1;exact YY (λe he=>(HAs.o e he).2) ⟨e,he,by rw[h4];exact h3⟩
   have CU:yI (·.t.e) (allL bl 32)=last:=by obtain⟨x,h1,h2,h3⟩:=HH.o.UI;obtain⟨_,e,he,h4,_⟩:=HH.o.has 0 x h1;exact YY (λe he=>(HAs.o e he).1) ⟨e,he,by rw[h4];exact h2⟩
   rw[List.take_of_length_le (by rw[hl];exact Nat.le_refl _),hms,CU] at HO;clear hms CU hl HB HX6 JH nZ dA dE F8 hj aU;have f8:=HO.o.BZ (i:=8) (v:= .int .u64 sq) rfl;have z8:=HO.o.hF.frozen 8;have i8:=IntWalk.u64_in ((sq:Int)+1) ⟨ae,ae⟩;have H1:=ag (HO.o.set (res':=0) (tv':= .slice none 0 0) (tx':=[]) (sq':=sq+1) (ep':=last) 8 (.int .u64 ((sq:Int)+1)) rfl (.inl ⟨rfl,rfl⟩));go_upto_region 18 with fail;generalize wr.setCell ⟨o.F,8,none⟩ (.int .u64 ((sq:Int)+1))=w9 at*;clear f8 z8 i8 HO;have f9:=H1.o.BZ (i:=9) (v:= .int .u64 last) rfl;have z9:=H1.o.hF.frozen 9;have i9:=IntWalk.u64_in ((last:Int)+1) ⟨ae,ae⟩;have H2:=ag (H1.o.set (res':=0) (tv':= .slice none 0 0) (tx':=[]) (sq':=sq+1) (ep':=last+1) 9 (.int .u64 ((last:Int)+1)) rfl (.inl ⟨rfl,rfl⟩));go_upto_region 19 with fail;generalize w9.setCell ⟨o.F,9,none⟩ (.int .u64 ((last:Int)+1))=Ig at*;clear f9 z9 i9 H1;obtain⟨hu,hin,hvw⟩:=HSe.o;have aa5:=hvw 0;obtain⟨xx,Ff,Ez,hx3⟩:=HH.o.UI;rw[Ff] at aa5;obtain⟨e0,QB,hsk⟩:∃e0,aG se 0=some e0/\sk e0=xx:=by
    cases hz:aG se 0 with
    |none=>rw[hz] at aa5;cases aa5
    |some e0=>rw[hz] at aa5;exact⟨e0,rfl,Option.some.inj aa5⟩
   have ae2:=hin e0 (iq QB).1;obtain⟨_,fF,hi0,ash⟩:=HPs.o e0 ae2;have hd0:e0.d=fZ tl:=by have:=HTl.o xx Ff;rw[<-hsk] at this;exact this
   have HHd:=ag (Qg H2.o ZQ.o e0 QB fF hi0 ash tl hd0);have UY:=ag hin;have HVw:=ag hvw;clear hu hin hvw aa5 Ff Ez hx3 QB hsk ae2 fF hi0 ash hd0;go_wp2_with fail;refine HHd.o.mono ?_;rintro e ug ⟨rfl,tv,uP⟩;have H3:=ag uP;clear uP H2 HHd;have f5:=H3.o.BZ (i:=5) (v:= .map (some o.SE)) rfl
   go_wp2_with (at_range;refine jF _ rfl _ rfl o.SE se rfl H3.o.hS ?_;intro w12 BR PX ayl)
   go_frame;have H4:=ag (H3.o.on PX.o);have UX:=BR;obtain⟨r,Ve⟩:=bu ug.heap.size;have RP:=ag (show ug.heap.size<=r from Nat.le_of_eq Ve.symm);rw[<-Ve] at UX⊢;clear f5 BR PX ayl Ve;go_wp2_with fail
   go_loopw [11,110] (λ_ _ wr=>Hid (∃d,jE wr o.SE r se d/\Op B S w C BL ps bl o 2 tv tl (sq+1) (last+1) se wr)) (λ_ _ wr=>wr.rangeLeft o.SE r)
   case atStart=>exact⟨[],UX.o,H4.o⟩
   case round=>
    obtain⟨d,xZ,uP⟩:=hrel.o;have yN:=ag xZ;have HO:=ag uP;clear hrel xZ uP UX H4
    go_wp2_with (at_next;refine ku _ rfl _ rfl o.SE r se d rfl yN.o ?_ ?_)
    ·intro xq;clear xq;have HMn:=ag (Ls HO.o ZQ.o (λe he=>(HPs.o e (UY.o e he)).2.1) HLv.o HSB.o iC.o Qr.o);clear yN HO;go_wp2_with fail;refine HMn.o.mono ?_;rintro e w13 ⟨rfl,M,ML,cap,hft⟩;have HF:=ag hft;clear hft;go_wp2_with fail;go_ret2;exact⟨o,tv,M,ML,cap,rfl,by rw[ayj.o];exact HF.o⟩
    ·intro e w6 he Uw Xx hs6 hl6 CJ;rw[wZ] at CJ⊢;have lI:Kq (λq=>q=r) wr w6:=(Kq.grown Xx.o).mono λq e=>(Option.some.inj e).symm;have h6:Op B S w C BL ps bl o 2 tv tl (sq+1) (last+1) se w6:=by
      have hr:=RP.o;have hw:=H3.o.hk.size;refine HO.o.kq (HO.o.hc.kq lI λq hq e=>?_) lI λq e=> .inr ⟨?_,λhm=>?_,λhm=>?_,λhm=>?_⟩
      ·have:=HO.o.lS q hq;have e:q=r:=e;omega
      ·have e:q=r:=e;omega
      ·have:=H3.o.lt q hm;have e:q=r:=e;omega
      ·have:=H3.o.hT.lt q hm;have e:q=r:=e;omega
      ·have:=(H3.o.hR.aP o.R rfl).2;have e:q=r:=e;omega
     have Eg:=ag h6;have QH:=Uw;have ZE:=hl6;have HCa:=ag (FV h6);have hp:e.t.p<230:=by have h1:=Gq QH.o.PD.uq he.o.1;have h2:=HVw.o e.t.p;rw[h1] at h2;exact HV.o e.t.p (sk e) h2.symm
     have ip:=IntWalk.i64_in (e.t.p:Int) ⟨ae,ae⟩;have iU:¬(230:Int)<=(e.t.p:Int):=ae;have oq:decide ((230:Int)<=(e.t.p:Int))=false:=decide_eq_false iU;clear lI h6 Uw hl6 Xx he;go_wp2_with fail;refine HCa.o.mono ?_;rintro e' w7 ⟨rfl,kC⟩;have vK:=ag (Eg.o.on kC);have ZG:=ag (QH.o.on kC);have Yr:=ag (show w7.rangeLeft o.SE r<wr.rangeLeft o.SE r by rw[QH.o.1.yg kC];exact ZE.o);clear kC CJ;go_wp2_with fail;go_roundw
     case rel=>exact⟨_,ZG.o,vK.o⟩
     case measure=>exact Yr.o
end
end
section
open Go.RowKit eX Opn

def ana (V:Nat->Option (Tg×List UInt8)) (sq ep:Nat) (L:List UInt8):Prop:=
 ∃t d,L=Tg.page t d/\Tg.Right t/\d.length=64/\(t.k=2↔t.p=0)/\t.s<sq/\t.e<=ep/\∃x,V t.p=some x/\t.s<=x.1.s/\(t.s=x.1.s->t=x.1/\d=x.2)
namespace Opn
theorem ND {V:Nat->Option (Tg×List UInt8)} {sq ep:Nat} {L:List UInt8} (h:ana V sq ep L):Tg.fK L=0/\L.length=96/\Tg.Right (Tg.ed L)/\(Tg.jm L).length=64/\L=Tg.page (Tg.ed L) (Tg.jm L)/\((Tg.ed L).k=2↔(Tg.ed L).p=0)/\(Tg.ed L).s<sq/\(Tg.ed L).e<=ep/\∃x,V (Tg.ed L).p=some x/\(Tg.ed L).s<=x.1.s/\((Tg.ed L).s=x.1.s->Tg.ed L=x.1/\Tg.jm L=x.2):=by obtain⟨t,d,rfl,h1,h2,h3,h4,h5,h6⟩:=h;obtain⟨r1,r2,r3⟩:=Tg.DR h1 (pay:=d) (by rw[h2];decide);rw[r1,r2];exact⟨r3,by rw[Tg.um,h2],h1,h2,rfl,h3,h4,h5,h6⟩
structure Sd (f:Fm) (last:Nat) (tl:List UInt8):Prop where
 fc:Fc 32 f
 no:f.no=[]
 go:f.go=[]
 gh:∀L,f.g.gh L->ana (vw f) f.seq last L
 ep:f.ep=last+1
 s0:∃t,vw f 0=some (t,fZ tl)/\t.e=last/\t.s+1=f.seq
 key:∀q,(vw f q).isSome=true->q<230
 u:Uq f.se
section
variable {f:Fm} {last:Nat} {tl:List UInt8}
theorem Sd.pg (h:Sd f last tl) {k i:Nat} {L:List UInt8} (hk:k<32) (hi:i<8) (hL:(f.g.bl k).sS i=some L):ana (vw f) f.seq last L:=h.gh L (h.fc.fi.al k i L hk hi hL)
theorem Sd.gd (h:Sd f last tl) (hs:f.seq<=1000000):Gd 32 f.g.bl:=by
 have Me:=h.fc.sq;have ZA:=h.ep;refine⟨λk i L hk hi hL=>?_,λk hk=>(h.fc.fi.w.bk k hk).bad,λk hk=>?_⟩
 ·obtain⟨h1,h2,h3,h4,_,h5,h6,h7,_⟩:=ND (h.pg hk hi hL);have:=h3.2.1;exact⟨h1,h2,h5,ae,ae,ae,h4⟩
 ·have:=(h.fc.fi.w.bk k hk).we;have:=(h.fc.fi.w.bk k hk).wn;omega
theorem Sd.ent (h:Sd f last tl) {e:En} (he:e∈allL f.g.bl 32):e.b<32/\e.i<8/\(f.g.bl e.b).sS e.i=some (Tg.page e.t e.d)/\Tg.Right e.t/\e.d.length=64/\(e.t.k=2↔e.t.p=0)/\e.t.s<f.seq/\e.t.e<=last/\∃x,vw f e.t.p=some x/\e.t.s<=x.1.s/\(e.t.s=x.1.s->e.t=x.1/\e.d=x.2):=by obtain⟨h1,h2,L,h3,h4,h5⟩:=pO.1 he;obtain⟨_,_,k3,k4,k5,k6,k7,k8,k9⟩:=ND (h.pg h1 h2 h3);rw[h4,h5];exact⟨h1,h2,by rw[h3];exact congrArg some k5,k3,k4,k6,k7,k8,k9⟩
theorem Sd.hold (h:Sd f last tl):aa3 (allL f.g.bl 32) (vw f) last (f.seq-1):=by
 refine⟨λe he=>?_,λp x hp=>?_,λe he=>(h.ent he).2.2.2.2.2.1,?_⟩
 ·obtain⟨_,_,_,_,_,_,h7,h8,h9⟩:=h.ent he;exact⟨h8,ae,h9⟩
 ·obtain⟨e,he,hd,ht⟩:=Ba hp;have hm:e∈f.se:=by unfold lW at he;rw[h.no,h.go] at he;exact(iq (show aG f.se p=some e from he)).1
  have hpk:e.t.p=p:=by unfold lW at he;rw[h.no,h.go] at he;exact(iq (show aG f.se p=some e from he)).2
  have CU:e∈f.se++f.no:=List.mem_append_left _ hm;have hgp:=h.fc.fi.pg e CU;have zX:=h.fc.fi.ok e CU;have aU:=h.fc.fi.lt CU;obtain⟨r1,r2,_⟩:=Tg.DR zX.rt (pay:=e.d) (by rw[zX.len];decide);exact⟨by rw[<-ht];exact hpk,e,pO.2 ⟨aU,hgp.i8,_,hgp.pg,r1.symm,r2.symm⟩,ht,hd⟩
 ·obtain⟨t,h1,h2,h3⟩:=h.s0;exact⟨_,h1,h2,by show t.s=_;omega⟩
theorem Sd.few (h:Sd f last tl) {k:Nat}:inB (bf (allL f.g.bl 32)) k<=8:=by
 obtain⟨hu,hin,_⟩:=h.hold.BU;have hn:(bf (allL f.g.bl 32)).Nodup:=pK hu;have h1:(((bf (allL f.g.bl 32)).filter λe=>e.b==k).map λe=>e.i).Nodup:=by
  have h2:((bf (allL f.g.bl 32)).filter λe:En=>e.b==k).Nodup:=hn.filter λe:En=>e.b==k;have h3:∀e∈(bf (allL f.g.bl 32)).filter λe:En=>e.b==k,e∈allL f.g.bl 32/\e.b=k:=λe he=>by obtain⟨h4,h5⟩:=List.mem_filter.1 he;exact⟨hin e h4,by simpa using h5⟩
  generalize (bf (allL f.g.bl 32)).filter (λe:En=>e.b==k)=l at h2 h3;clear hn hin hu
  induction l with
  |nil=>exact List.nodup_nil
  |cons a t ih=>
   rw[List.nodup_cons] at h2;rw[List.map_cons,List.nodup_cons];refine⟨λhm=>?_,ih h2.2 λe he=>h3 e (List.mem_cons_of_mem _ he)⟩;obtain⟨y,hy,e⟩:=List.mem_map.1 hm;obtain⟨h4,h5⟩:=h3 a au;obtain⟨h6,h7⟩:=h3 y (List.mem_cons_of_mem _ hy);have:=anb (pO.1 h4).2.2 (pO.1 h6).2.2 (by rw[h5,h7]) e.symm;exact h2.1 (this▸hy)
 have h2:=uk (l':=List.range 8) h1 λi hi=>by obtain⟨e,he,rfl⟩:=List.mem_map.1 hi;exact List.mem_range.2 (pO.1 (hin e (List.mem_filter.1 he).1)).2.1
 rw[List.length_map,List.length_range] at h2;exact h2
theorem Yl {bl:Nat->Pb} {k:Nat} (hk:k<32):(og bl 32).getD k false=XM bl k 8:=by rw[List.getD_eq_getElem?_getD,List.getElem?_eq_getElem (by rw[Gu];exact hk)];simp only[og,List.getElem_map,List.getElem_range,Option.getD_some];rw[decide_eq_true hk,Bool.true_and]
theorem Qh {bl:Nat->Pb} {k:Nat}:XM bl k 8=true↔∀i,i<8->(bl k).sS i=none:=by
 unfold XM;rw[List.all_eq_true];constructor
 ·intro h i hi;have:=h i (List.mem_range.2 hi)
  simpa using this
 ·intro h i hi;rw[h i (List.mem_range.1 hi)];rfl
theorem Sd.free (h:Sd f last tl) {k:Nat} (hf:XM f.g.bl k 8=true):inB (bf (allL f.g.bl 32)) k=0:=by
 obtain⟨_,hin,_⟩:=h.hold.BU;unfold inB;rw[List.length_eq_zero_iff,List.filter_eq_nil_iff];intro e he;obtain⟨_,h2,L,h3,_⟩:=pO.1 (hin e he);intro hb;have hb:e.b=k:=by simpa using hb
 rw[hb,Qh.1 hf e.i h2] at h3;cases h3
theorem Sd.fr0 (h:Sd f last tl) {k:Nat} (hk:k<32) (hs:(Gc.at_ f.g.l k).st=0):XM f.g.bl k 8=true:=by have hn:=((h.fc.fi.w.bk k hk).fr hs).2;exact Qh.2 λi hi=>(h.fc.fi.er k hk i hi).2 ae
theorem Sd.idle (h:Sd f last tl):∃k,k<32/\inB (bf (allL f.g.bl 32)) k=0:=by
 have h1:=h.fc.fr;rw[Gc.tZ,h.fc.fi.w.len] at h1;refine Classical.byContradiction λhno=>?_;have h2:∀k,k<32->(if (Gc.at_ f.g.l k).st=0 then 1 else 0)<=0:=λk hk=>by
  split
  ·rename_i hs;exact absurd ⟨k,hk,h.free (h.fr0 hk hs)⟩ hno
  ·exact Nat.le_refl 0
 have:=o8.ah9 h2;omega
def reF (f:Fm) (o:Oa) (M ML cap:Nat) (tv:Value) (tl:List UInt8) (P:List UInt8->Prop):Fm:=
 yJ o ⟨M,ML,f.g.C,f.g.BL,cap,f.g.ps,f.g.bl,bU f.g.bl (og f.g.bl 32) (qB (bf (allL f.g.bl 32))) 32,-1,2,0,decide (4<(Gc.greatest (bU f.g.bl (og f.g.bl 32) (qB (bf (allL f.g.bl 32))) 32):Int)-Gc.least (bU f.g.bl (og f.g.bl 32) (qB (bf (allL f.g.bl 32))) 32)),P⟩ (bf (allL f.g.bl 32)) f.seq f.ep tv tl
theorem Sd.at_ (h:Sd f last tl) {k:Nat} (hk:k<32):Gc.at_ (bU f.g.bl (og f.g.bl 32) (qB (bf (allL f.g.bl 32))) 32) k=if XM f.g.bl k 8 then⟨0,0,(f.g.bl k).aQ,0⟩ else if 0<inB (bf (allL f.g.bl 32)) k then⟨2,inB (bf (allL f.g.bl 32)) k,(f.g.bl k).aQ,0⟩ else⟨3,0,(f.g.bl k).aQ,0⟩:=by rw[BC _ _ _ hk,wY,(h.fc.fi.w.bk k hk).bad,Yl hk,UJ _ hk];rfl
theorem Sd.fcO (h:Sd f last tl) (o:Oa) (M ML cap:Nat) (tv:Value) {P:List UInt8->Prop} (hP:∀L,f.g.gh L->P L):Fc 32 (reF f o M ML cap tv tl P):=by
 obtain⟨hu,hin,hvw⟩:=h.hold.BU;have hlen:(bU f.g.bl (og f.g.bl 32) (qB (bf (allL f.g.bl 32))) 32).length=32:=by simp[bU]
 have hwe:∀k,k<32->(Gc.at_ (bU f.g.bl (og f.g.bl 32) (qB (bf (allL f.g.bl 32))) 32) k).aQ=(Gc.at_ f.g.l k).aQ:=λk hk=>by rw[BC _ _ _ hk,Jb];exact(h.fc.fi.w.bk k hk).we
 have aaO:∀i j,i<32->j<32->(Gc.at_ (bU f.g.bl (og f.g.bl 32) (qB (bf (allL f.g.bl 32))) 32) i).aQ<=(Gc.at_ (bU f.g.bl (og f.g.bl 32) (qB (bf (allL f.g.bl 32))) 32) j).aQ+4:=λi j hi hj=>by rw[hwe i hi,hwe j hj];exact h.fc.fi.w.gap i j hi hj
 have aiA:∀k,((bf (allL f.g.bl 32)++[]).map (λe:En=>e.b)++[]).count k=inB (bf (allL f.g.bl 32)) k:=λk=>by
  rw[List.append_nil,List.append_nil];unfold inB
  induction bf (allL f.g.bl 32) with
  |nil=>rfl
  |cons a t ih=>
   rw[List.map_cons,List.count_cons,ih,List.filter_cons];by_cases e:a.b=k<;>simp[e]
 have aBE:(bf (allL f.g.bl 32)).length<=f.se.length:=WM hu λq hq=>by
  have h1:=hvw q
  cases hz:aG (bf (allL f.g.bl 32)) q with
  |none=>rw[hz] at hq;cases hq
  |some e=>
   rw[hz] at h1;have h2:=Eu f q;rw[<-h1,h.no,h.go] at h2;have h2:Option.map sk (some e)=(aG f.se q).map sk:=h2
   cases hy:aG f.se q with
   |none=>rw[hy] at h2;cases h2
   |some y=>rfl
 have nO:=h.fc.cap;rw[h.no,List.append_nil] at nO;have Me:=h.fc.sq;refine⟨⟨⟨aB,aB⟩,⟨hlen,λk hk=>?_,aaO,.inl rfl,?_,λx hx=>?_,?_⟩,λe he=>?_,λe he=>?_,rfl,rfl,λk i L hk hi hL=>hP L (h.fc.fi.al k i L hk hi hL),h.fc.fi.er⟩,?_,?_,rfl,Me,λx hx=>(by cases hx),rfl,rfl⟩
 ·have hb:=h.fc.fi.w.bk k hk;show o8.BkI (-1) k (Gc.at_ (bU f.g.bl (og f.g.bl 32) (qB (bf (allL f.g.bl 32))) 32) k) (f.g.bl k) (((bf (allL f.g.bl 32)++[]).map (λe:En=>e.b)++[]).count k) (100000*f.seq);rw[aiA,h.at_ hk];have hwn:(f.g.bl k).aQ<=100000*f.seq:=by rw[hb.we];exact hb.wn
  split
  ·rename_i hf;have h0:(f.g.bl k).nx=0:=by have:=(h.fc.fi.er k hk 0 aB).1 (Qh.1 hf 0 aB);omega
   exact⟨Nat.zero_le 3,(h.free hf).symm,Nat.zero_le 8,Nat.zero_le 8,λe=>(by cases e),λ_=>⟨rfl,h0⟩,λe=>(by cases e),λe=>(by cases e),rfl,hwn,hb.bad,hb.brk⟩
  ·split
   ·rename_i hp;exact⟨(by decide:2<=3),rfl,Nat.zero_le 8,h.few,λe=>(by cases e),λe=>(by cases e),λ_=>hp,λe=>(by cases e),rfl,hwn,hb.bad,hb.brk⟩
   ·rename_i hp;exact⟨Nat.le_refl 3,(show 0=_ by omega),Nat.zero_le 8,Nat.zero_le 8,λe=>(by cases e),λe=>(by cases e),λe=>(by cases e),λ_=>rfl,rfl,hwn,hb.bad,hb.brk⟩
 ·show decide _=false;rw[decide_eq_false_iff_not];unfold Gc.greatest Gc.least;rw[hlen];generalize bU f.g.bl (og f.g.bl 32) (qB (bf (allL f.g.bl 32))) 32=l at aaO
  cases h1:Gc.best Gc.good Gc.more l 32 with
  |none=>
   show¬(4:Int)<((0:Nat):Int)-_;omega
  |some j=>
   obtain⟨hj,hgj⟩:=Gc.gZ h1
   cases h2:Gc.best Gc.good Gc.oN l 32 with
   |none=>
    rw[Gc.Nq h2 j hj] at hgj;cases hgj
   |some i=>
    obtain⟨hi,_⟩:=Gc.gZ h2;have:=aaO j i hj hi;show¬(4:Int)<((Gc.at_ l j).aQ:Int)-((Gc.at_ l i).aQ:Int);omega
 ·rw[List.append_nil] at hx;obtain⟨e,he,rfl⟩:=List.mem_map.1 hx;have he:e∈bf (allL f.g.bl 32)++[]:=he;rw[List.append_nil] at he;exact(pO.1 (hin e he)).1
 ·rw[List.append_nil,List.length_map];show(bf (allL f.g.bl 32)++[]).length<=100000*f.seq;rw[List.append_nil];omega
 ·have he:e∈bf (allL f.g.bl 32)++[]:=he;rw[List.append_nil] at he;obtain⟨h1,h2,h3,_⟩:=h.ent (hin e he);refine⟨h3,?_,h2⟩;show e.i<(f.g.bl e.b).nx;refine Nat.lt_of_not_le λhle=>?_;have:=(h.fc.fi.er e.b h1 e.i h2).2 hle;rw[this] at h3;cases h3
 ·have he:e∈bf (allL f.g.bl 32)++[]:=he;rw[List.append_nil] at he;obtain⟨_,_,_,h4,h5,_⟩:=h.ent (hin e he);exact⟨h4,h5⟩
 ·show 3<=Gc.count 0 (bU f.g.bl (og f.g.bl 32) (qB (bf (allL f.g.bl 32))) 32);have h1:=h.fc.fr;rw[Gc.tZ,h.fc.fi.w.len] at h1;rw[Gc.tZ,hlen];refine Nat.le_trans h1 ?_;have hle:∀k,k<=32->o8.Kz (λi=>if (Gc.at_ f.g.l i).st=0 then 1 else 0) k<=o8.Kz (λi=>if (Gc.at_ (bU f.g.bl (og f.g.bl 32) (qB (bf (allL f.g.bl 32))) 32) i).st=0 then 1 else 0) k:=by
   intro k
   induction k with
   |zero=>exact λ_=>Nat.le_refl 0
   |succ k ih=>
    intro hk;have h2:=ih ae;show _+(if (Gc.at_ f.g.l k).st=0 then 1 else 0)<=_+(if (Gc.at_ (bU f.g.bl (og f.g.bl 32) (qB (bf (allL f.g.bl 32))) 32) k).st=0 then 1 else 0);by_cases hs:(Gc.at_ f.g.l k).st=0
    ·have h3:(Gc.at_ (bU f.g.bl (og f.g.bl 32) (qB (bf (allL f.g.bl 32))) 32) k).st=0:=by rw[h.at_ ae,h.fr0 ae hs];rfl
     rw[if_pos hs,if_pos h3];omega
    ·rw[if_neg hs];omega
  exact hle 32 (Nat.le_refl _)
 ·show(bf (allL f.g.bl 32)++[]).length+2<=8*(32-3);rw[List.append_nil];omega
theorem Sd.vwO (h:Sd f last tl) (o:Oa) (M ML cap:Nat) (tv:Value) (P:List UInt8->Prop) (q:Nat):vw (reF f o M ML cap tv tl P) q=vw f q:=by obtain⟨_,_,hvw⟩:=h.hold.BU;rw[Eu];exact hvw q
end
end Opn
section
open Opn
variable {B last:Nat} {R:Nat->Prop} {w:World} {f:Fm} {tl:List UInt8}
end
end
end Go.Proofs.YtnieckfelfoopaaGreat

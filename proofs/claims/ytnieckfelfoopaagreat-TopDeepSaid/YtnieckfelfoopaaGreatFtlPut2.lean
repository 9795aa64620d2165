import Derived.Test.YtnieckfelfoopaaGreatFtlBad
import Derived.Deep.QuietTactic
import Derived.BigQuiet
import Derived.Shelf.Abstract
open Go.Proofs.Tryz (prog)
namespace Go.Proofs.YtnieckfelfoopaaGreat
open Lib (hid)
set_option maxRecDepth 100000
set_option maxHeartbeats 16000000
section
open Go.RowKit eX

namespace eX
structure Fc (NB:Nat) (f:Fm):Prop where
 fi:Fi NB (100000*f.seq) [] f.g (f.se++f.no)
 fr:3<=Gc.count 0 f.g.l
 cap:(f.se++f.no).length+2<=8*(NB-3)
 ov:f.ov=false
 sq:1<=f.ep/\f.ep<=f.seq
 gk:∀x∈f.go,(aG f.se x.t.p).isSome=true
 n0:aG f.no 0=none
 g0:aG f.go 0=none
def lW (f:Fm) (p:Nat):Option En:=match aG f.no p with
 |some e=>some e
 |none=>if (aG f.go p).isSome then none else aG f.se p
theorem qN (o:Option En):∃b i:Nat,plO o= .agg #[.int .i64 b,.int .i64 i]:=by
 cases o with
 |none=>exact⟨0,0,rfl⟩
 |some e=>exact⟨e.b,e.i,rfl⟩
end eX
section
variable {NB B n:Nat} {R:Nat->Prop} {w:World} {f:Fm} {x:List Nat} {E:List En}
theorem Bl (h:dB NB B R w f):
  Calls prog 208 #[f.F] w λe w'=>e= .returned (.int .i64 0)/\w=w':=by
 have c0:=h.c0;have HU:=ag (Mc h);clear h
 go_in
 go_wp2_with fail;refine(HU.o).mono ?_;rintro e w_ ⟨rfl,rfl⟩;go_wp2;go_ret;exact⟨rfl,rfl⟩
theorem EJ (h:dB NB B R w f):
  Calls prog 206 #[f.F] w λe w'=>e= .returned (.int .i64 64)/\Below w.heap.size w w':=by
 have c0:=h.c0;have HU:=ag (qC h);clear h
 go_in
 go_wp2_with fail;refine HU.o.mono ?_;rintro e w1 ⟨rfl,hb⟩;have HB:=ag hb;clear hb c0;have hf:=MB (.int .i64 NB) (.int .i64 8) (.int .i64 64);unfold uf;go_wp2;go_ret;exact⟨rfl,HB.o⟩
theorem jk (hn:5<=NB/\NB<=1000):
  Calls prog 164 #[.agg #[.int .i64 NB,.int .i64 8,.int .i64 64],.int .i64 2,.int .i64 0] w λe w'=>e= .returned (.int .i64 ((NB:Int)-3))/\Below w.heap.size w w':=by
 have i1:=IntWalk.i64_in ((NB:Int)) ⟨ae,ae⟩;have i2:=IntWalk.i64_in ((NB:Int)-2) ⟨ae,ae⟩;have i3:=IntWalk.i64_in ((NB:Int)-3) ⟨ae,ae⟩;have e3:(NB:Int)-2-1=(NB:Int)-3:=ae;have jq:=qG;have HB:=ag ((Below.refl w.heap.size w).alloc (Nat.le_refl _) (.cells #[.int .i64 NB,.int .i64 8,.int .i64 64] 60));clear hn
 go_in
 go_wp2;go_ret;exact⟨rfl,HB.o⟩
theorem jc (h:dB NB B R w f) (hi:Fi NB n x f.g E):
  Calls prog 113 #[f.F] w λe w'=>e= .returned (.int .i64 (((NB:Int)-3)*8-2))/\Below w.heap.size w w':=by
 have c0:=h.c0;have HH:=ag h;have HU:=ag (qC h);have HNb:=ag hi.nb;have HD:=ag (λ(W:World)=>jk (w:=W) hi.nb);have awm:=ag hi.res;have VH:=ag hi.bad;have i1:=IntWalk.i64_in (((NB:Int)-3)*8) ⟨by have:=HNb.o;omega,by have:=HNb.o;omega⟩;have i2:=IntWalk.i64_in (((NB:Int)-3)*8-2) ⟨by have:=HNb.o;omega,by have:=HNb.o;omega⟩;have jq:=qG;clear h hi
 go_in
 go_wp2_with fail;refine HU.o.mono ?_;rintro e w1 ⟨rfl,hb⟩;have dw:=ag (hb.alloc hb.size (.cells #[.int .i64 NB,.int .i64 8,.int .i64 64] 60));have HK:=ag (aF.new w1 60 #[.int .i64 NB,.int .i64 8,.int .i64 64]);clear hb c0;unfold uf;go_upto_region 4 with fail;generalize w1.alloc (.cells #[.int .i64 NB,.int .i64 8,.int .i64 64] 60)=w2 at*;generalize w1.heap.size=Q at*;have gJ:=ag (show Below w2.heap.size w2 w2.drew from ak w2);have HHo:=ag (λ(W':World) (hW:Below w2.heap.size w2 W')=>(HH.o.on dw.o).on hW);have HKo:=ag (λ(W':World) (hW:Below w2.heap.size w2 W')=>aF.ah HK.o hW);refine iT (λW'=>Below w2.heap.size w2 W') gJ.o (λbJ=>?_);refine jy 0 (.agg #[.int .i64 NB,.int .i64 8,.int .i64 64]) rfl (λW aI=>by have y0:=aF.aj (i:=0) (HKo.o W aI) rfl;have y1:=aF.aj (i:=1) (HKo.o W aI) rfl;have y2:=aF.aj (i:=2) (HKo.o W aI) rfl;go_simp) ?_;refine dP 1 f.F 0 ?_;refine aS 2 f.F 0 ?_;refine aS 3 f.F 2 ?_;refine jy 4 (.int .i64 2) rfl (λW aI=>by have y9:=(HHo.o W aI).c2;rw[awm.o] at y9;go_simp) ?_;refine dP 5 f.F 0 ?_;refine aS 6 f.F 0 ?_;refine aS 7 f.F 3 ?_;refine jy 8 (.int .i64 0) rfl (λW aI=>by have y9:=(HHo.o W aI).c3;rw[VH.o] at y9;go_simp) ?_;refine aS 10 Q 1 ?_;refine jH 11 8 (λW aI=>aF.aj (i:=1) (HKo.o W aI) rfl) ?_;refine dm 9 (λK' hK=>?_);go_simp;refine(HD.o _).mono ?_;rintro e w3 ⟨rfl,bQ⟩;have dH:=bJ.ay bQ;clear bQ;refine hK.out _ _ dH (λgm=>?_)
 try simp only[aO]
 refine ik 12 (((NB:Int)-3)*8) ?_;refine ik 13 (((NB:Int)-3)*8-2) ?_;refine eF 14 (((NB:Int)-3)*8-2) ?_;refine gB ?_;have dE:=ag (dw.o.ay gm);clear bJ dH gm;go_wp2;go_ret;exact⟨rfl,dE.o⟩
theorem Tj {b:Nat} {l:List En} (h:dC w b l) (ty:TypeId):(Builtin.len_ #[222] ty #[.map (some b)]).run prog w= .ok (.int .i64 (l.length:Int)) w:=by obtain⟨es,clock,h1,h2⟩:=h.size;rw[<-h2];simp[Builtin.len_,run_underlying Tryz.underlying222,MapKept.run_getObj_map h1,goInt]
theorem Ew (h:dB NB B R w f) (hl:(f.se++f.no).length<=1000000):
    Calls prog 119 #[f.F] w λe w'=>e= .returned (.int .i64 ((f.se++f.no).length:Int))/\Below w.heap.size w w':=by
  have HH:=ag h;rw[List.length_append] at hl⊢;obtain⟨a,ha⟩:=bu f.se.length;obtain⟨b,hb⟩:=bu f.no.length;rw[<-ha,<-hb] at hl⊢;have HA:=ag ha;have HB:=ag hb;have i1:=IntWalk.i64_in ((a:Int)+(b:Int)) ⟨ae,ae⟩;clear h hl ha hb
  go_in
  go_upto_region 3 with fail;have gJ:=ag (show Below w.heap.size w w.drew from ak w);refine iT (λW'=>Below w.heap.size w W') gJ.o (λbJ=>?_);refine dP 0 f.F 0 ?_;refine aS 1 f.F 0 ?_;refine aS 2 f.F 5 ?_;refine tC 3 (.map (some f.SE)) (λ_ aI=>(HH.o.on aI).c5) ?_;refine jy 4 (.int .i64 a) rfl (λ_ aI=>by have y9:=λty=>Tj (HH.o.on aI).hS ty;rw[<-HA.o] at y9;go_simp) ?_;refine dP 5 f.F 0 ?_;refine aS 6 f.F 0 ?_;refine aS 7 f.F 6 ?_;refine tC 8 (.map (some f.NO)) (λ_ aI=>(HH.o.on aI).c6) ?_;refine jy 9 (.int .i64 b) rfl (λ_ aI=>by have y9:=λty=>Tj (HH.o.on aI).hN ty;rw[<-HB.o] at y9;go_simp) ?_;refine ik 10 (((a:Int)+(b:Int))) ?_;refine eF 11 (((a:Int)+(b:Int))) ?_;refine gB ?_;clear bJ;go_wp2;go_ret;exact⟨by rw[Int.natCast_add];rfl,gJ.o⟩
theorem oM (h:dB NB B R w f) (hi:Fi NB n x f.g E) (ho:f.ov=false):
  Calls prog 90 #[f.F] w λe w'=>e= .returned (.bool false)/\Below w.heap.size w w':=by
 have HL:=ag (Tm h hi);have c1:=h.c1;have c11:=h.c11;rw[ho] at c11;clear h hi ho
 go_in
 go_wp2_with fail;refine HL.o.mono ?_;rintro e w1 ⟨rfl,hb⟩;have HB:=ag hb;clear hb c1 c11;go_wp2;go_ret;exact⟨rfl,HB.o⟩
theorem qL (h:dB NB B R w f) (hi:Fi NB n x f.g E) (p:Nat) (hp:p<4294967296):
  Calls prog 201 #[f.F,.int .u32 p] w λe w'=>e= .returned (.int .i64 (if p=0\/((NB:Int)-3)*8-2<=(p:Int) then 1 else 0))/\Below w.heap.size w w':=by
 have HR:=ag (Bl h);have HC:=ag (jc h hi);clear h hi;by_cases h0:p=0
 ·subst h0;rw[if_pos (.inl rfl)]
  go_in
  go_wp2_with fail;refine(HR.o).mono ?_;rintro e w_ ⟨rfl,rfl⟩;go_wp2;go_ret;exact⟨rfl,Below.refl _ _⟩
 ·have hz:((p:Int)==0)=false:=by rw[beq_eq_false_iff_ne];omega
  have iw:=IntWalk.i64_in (p:Int) ⟨ae,ae⟩;obtain⟨C,hC⟩:∃C,C=((NB:Int)-3)*8-2:=⟨_,rfl⟩
  rw[<-hC] at HC⊢;clear hC;by_cases h1:C<=(p:Int)
  ·rw[if_pos (.inr h1)]
   go_in
   go_wp2_with fail;refine(HR.o).mono ?_;rintro e w_ ⟨rfl,rfl⟩;go_wp2_with fail;refine HC.o.mono ?_;rintro e w1 ⟨rfl,hb⟩;have HB:=ag hb;clear hb;go_wp2;go_ret;exact⟨rfl,HB.o⟩
  ·rw[if_neg (by rintro(e|e);exact h0 e;exact h1 e)]
   go_in
   go_wp2_with fail;refine(HR.o).mono ?_;rintro e w_ ⟨rfl,rfl⟩;go_wp2_with fail;refine HC.o.mono ?_;rintro e w1 ⟨rfl,hb⟩;have HB:=ag hb;clear hb;go_wp2;go_ret;exact⟨rfl,HB.o⟩
end
end
section
open Go.RowKit eX

theorem iE:prog.cellsOf 247=2:=az
section
variable {NB B n:Nat} {R:Nat->Prop} {w:World} {f:Fm} {x:List Nat} {E:List En}
end
end
section
open Go.RowKit eX

section
variable {NB B n:Nat} {R:Nat->Prop} {w:World} {f:Fm}
structure PlZ (w:World) (Z:Nat) (b i:Nat):Prop where
 k0:w.cell? ⟨Z,0,none⟩=some (.int .i64 0)
 k1:w.cell? ⟨Z,1,none⟩=some (.int .i64 0)
 f0:w.frozen? ⟨Z,0,none⟩=false
 f1:w.frozen? ⟨Z,1,none⟩=false
 q0:((w.setCell ⟨Z,0,none⟩ (.int .i64 b)).setCell ⟨Z,1,none⟩ (.int .i64 i)).cell? ⟨Z,0,none⟩=some (.int .i64 b)
 q1:((w.setCell ⟨Z,0,none⟩ (.int .i64 b)).setCell ⟨Z,1,none⟩ (.int .i64 i)).cell? ⟨Z,1,none⟩=some (.int .i64 i)
theorem plZ {Z:Nat} (h:aF w Z 247 #[.int .i64 0,.int .i64 0]) (b i:Nat):PlZ w Z b i:=by have hs:=(h.set 0 (.int .i64 b)).set 1 (.int .i64 i);exact⟨h.aj rfl,h.aj rfl,h.frozen 0,h.frozen 1,hs.aj (i:=0) rfl,hs.aj (i:=1) rfl⟩
theorem dC.Bo {b:Nat} {l:List En} (h:dC w b l) {p:Nat} (hp:p<4294967296) {o:Option En} (e1:aG l p=o) {x y:Nat} (e2:plO o= .agg #[.int .i64 x,.int .i64 y]) {t:Bool} (e3:o.isSome=t):
  (Instr.lookup 222 (.map (some b)) (.int .u32 p) true).run prog w= .ok (.tuple #[.agg #[.int .i64 x,.int .i64 y],.bool t]) w:=by
 have:=h.look hp true;rw[e1,e2,e3] at this;exact this
theorem MX (h:dB NB B R w f) (p:Nat) (hp:p<4294967296):
  Calls prog 227 #[f.F,.int .u32 p] w λe w'=>e= .returned (.tuple #[plO (lW f p),.bool (lW f p).isSome])/\Below w.heap.size w w':=by
 have jq:=iE;have fF:=(Below.refl w.heap.size w).alloc (Nat.le_refl _) (.cells #[.int .i64 0,.int .i64 0] 247);have H1:=ag (h.on fF);have HZ:=ag (aF.new w 247 #[.int .i64 0,.int .i64 0]);have iC:=ag fF;clear h fF;have HC:=ag (show lW f p=match aG f.no p with
  |some e=>some e
  |none=>if (aG f.go p).isSome then none else aG f.se p from rfl)
 go_in
 go_upto_region 1 with fail;generalize w.alloc (.cells #[.int .i64 0,.int .i64 0] 247)=w1 at*;obtain⟨Z,hZ⟩:=bu w.heap.size;rw[<-hZ] at HZ⊢;have WO:=ag hZ;clear hZ;have c6:=H1.o.c6;obtain⟨b1,i1,e1⟩:=qN (aG f.no p);have bK:=(Below.refl w1.heap.size w1).alloc (Nat.le_refl _) (.cells #[.int .i64 b1,.int .i64 i1] 247);have mF:=ag (aF.new w1 247 #[.int .i64 b1,.int .i64 i1]);have H2:=ag (H1.o.on bK);have HZ2:=ag (HZ.o.ah bK);have dw:=ag (iC.o.ay bK);clear bK
 cases hno:aG f.no p with
 |some e=>
  have Jy:=H1.o.hN.Bo hp hno (by rw[<-hno];exact e1) rfl;rw[hno] at HC e1;have HE:=ag e1;clear hno e1;have Jy:(Instr.lookup 222 (.map (some f.NO)) (.int .u32 p) true).run prog w1= .ok (.tuple #[.agg #[.int .i64 b1,.int .i64 i1],.bool true]) w1:=Jy;go_upto_region 2 with fail;generalize w1.alloc (.cells #[.int .i64 b1,.int .i64 i1] 247)=w2 at*;obtain⟨k0,k1,f0,f1,q0,q1⟩:=plZ HZ2.o b1 i1;have y0:=aF.aj (i:=0) mF.o rfl;have y1:=aF.aj (i:=1) mF.o rfl;have HF:=ag ((dw.o.setCell (p:=⟨Z,0,none⟩) (by rw[WO.o];exact Nat.le_refl _) (.int .i64 b1)).setCell (p:=⟨Z,1,none⟩) (by rw[WO.o];exact Nat.le_refl _) (.int .i64 i1));go_wp2_with fail;refine bodyPost_ret (v:= .tuple #[.agg #[.int .i64 b1,.int .i64 i1],.bool true]) (by simp[results,Tryz.results227,go_sem,q0,q1]) rfl ⟨?_,HF.o⟩;rw[HC.o];show _=Ending.returned (.tuple #[plO (some e),.bool true]);rw[HE.o]
 |none=>
  have Jy:=H1.o.hN.Bo hp hno (by rw[<-hno];exact e1) rfl;rw[hno] at HC;clear hno e1;have Jy:(Instr.lookup 222 (.map (some f.NO)) (.int .u32 p) true).run prog w1= .ok (.tuple #[.agg #[.int .i64 b1,.int .i64 i1],.bool false]) w1:=Jy;go_upto_region 2 with fail;generalize w1.alloc (.cells #[.int .i64 b1,.int .i64 i1] 247)=w2 at*;clear Jy c6;have c7:=H2.o.c7;obtain⟨b2,i2,e2⟩:=qN (aG f.go p);have aW:=(Below.refl w2.heap.size w2).alloc (Nat.le_refl _) (.cells #[.int .i64 b2,.int .i64 i2] 247);have H3:=ag (H2.o.on aW);have O0:=ag (HZ2.o.ah aW);have dA:=ag (dw.o.ay aW);clear aW
  cases hgo:aG f.go p with
  |some e=>
   have CB:=H2.o.hG.Bo hp hgo (by rw[<-hgo];exact e2) rfl;rw[hgo] at HC;clear hgo e2;have CB:(Instr.lookup 222 (.map (some f.GO)) (.int .u32 p) true).run prog w2= .ok (.tuple #[.agg #[.int .i64 b2,.int .i64 i2],.bool true]) w2:=CB;go_upto_region 5 with fail;generalize w2.alloc (.cells #[.int .i64 b2,.int .i64 i2] 247)=w3 at*;clear CB c7;obtain⟨k0,k1,f0,f1,q0,q1⟩:=plZ O0.o 0 0;have q0:((w3.setCell ⟨Z,0,none⟩ (.int .i64 0)).setCell ⟨Z,1,none⟩ (.int .i64 0)).cell? ⟨Z,0,none⟩=some (.int .i64 0):=q0;have q1:((w3.setCell ⟨Z,0,none⟩ (.int .i64 0)).setCell ⟨Z,1,none⟩ (.int .i64 0)).cell? ⟨Z,1,none⟩=some (.int .i64 0):=q1;have HF:=ag ((dA.o.setCell (p:=⟨Z,0,none⟩) (by rw[WO.o];exact Nat.le_refl _) (.int .i64 0)).setCell (p:=⟨Z,1,none⟩) (by rw[WO.o];exact Nat.le_refl _) (.int .i64 0));go_wp2_with fail;refine bodyPost_ret (v:= .tuple #[.agg #[.int .i64 0,.int .i64 0],.bool false]) (by simp[results,Tryz.results227,go_sem,q0,q1]) rfl ⟨?_,HF.o⟩;rw[HC.o];rfl
  |none=>
   have CB:=H2.o.hG.Bo hp hgo (by rw[<-hgo];exact e2) rfl;rw[hgo] at HC;clear hgo e2;have CB:(Instr.lookup 222 (.map (some f.GO)) (.int .u32 p) true).run prog w2= .ok (.tuple #[.agg #[.int .i64 b2,.int .i64 i2],.bool false]) w2:=CB;go_upto_region 5 with fail;generalize w2.alloc (.cells #[.int .i64 b2,.int .i64 i2] 247)=w3 at*;clear CB c7;have c5:=H3.o.c5;obtain⟨b3,i3,e3⟩:=qN (aG f.se p);obtain⟨sf,hsf⟩:=AP ((aG f.se p).isSome);have hl3:=H3.o.hS.Bo hp rfl e3 hsf;have bQ:=(Below.refl w3.heap.size w3).alloc (Nat.le_refl _) (.cells #[.int .i64 b3,.int .i64 i3] 247);have jU:=ag (aF.new w3 247 #[.int .i64 b3,.int .i64 i3]);have HZ4:=ag (O0.o.ah bQ);have dE:=ag (dA.o.ay bQ);have HE:=ag e3;have jA:=ag hsf;clear bQ e3 hsf;go_upto_region 8 with fail;generalize w3.alloc (.cells #[.int .i64 b3,.int .i64 i3] 247)=w4 at*;clear hl3 c5;obtain⟨k0,k1,f0,f1,q0,q1⟩:=plZ HZ4.o b3 i3;have y0:=aF.aj (i:=0) jU.o rfl;have y1:=aF.aj (i:=1) jU.o rfl;have HF:=ag ((dE.o.setCell (p:=⟨Z,0,none⟩) (by rw[WO.o];exact Nat.le_refl _) (.int .i64 b3)).setCell (p:=⟨Z,1,none⟩) (by rw[WO.o];exact Nat.le_refl _) (.int .i64 i3));go_wp2_with fail;refine bodyPost_ret (v:= .tuple #[.agg #[.int .i64 b3,.int .i64 i3],.bool sf]) (by simp[results,Tryz.results227,go_sem,q0,q1]) rfl ⟨?_,HF.o⟩;rw[HC.o];show _=Ending.returned (.tuple #[plO (aG f.se p),.bool (aG f.se p).isSome]);rw[HE.o,jA.o]
end
end
section
open Go.RowKit

namespace eX
def sk (e:En):Tg×List UInt8:=(e.t,e.d)
structure Same (f f':Fm):Prop where
 F:f'.F=f.F
 SE:f'.SE=f.SE
 NO:f'.NO=f.NO
 GO:f'.GO=f.GO
 LA:f'.LA=f.LA
 M:f'.g.M=f.g.M
 ML:f'.g.ML=f.g.ML
 C:f'.g.C=f.g.C
 seq:f'.seq=f.seq
 ep:f'.ep=f.ep
 tv:f'.tv=f.tv
 tx:f'.tx=f.tx
 ov:f'.ov=f.ov
 se:f'.se.map sk=f.se.map sk
 no:f'.no.map sk=f.no.map sk
 go:f'.go.map (λe=>e.t.p)=f.go.map λe=>e.t.p
 gh:f'.g.gh=f.g.gh
theorem Same.refl (f:Fm):Same f f:=⟨rfl,rfl,rfl,rfl,rfl,rfl,rfl,rfl,rfl,rfl,rfl,rfl,rfl,rfl,rfl,rfl,rfl⟩
theorem Same.awl {f f':Fm} (h:Same f f'):(f'.se++f'.no).length=(f.se++f.no).length:=by have h1:=congrArg List.length h.se;have h2:=congrArg List.length h.no;simp only[List.length_map] at h1 h2;rw[List.length_append,List.length_append,h1,h2]
theorem aao {l:List En} {x e:En} (hu:Uq l) (hx:x∈l) (hp:x.t.p=e.t.p):(x::fO l e).Perm (e::l):=by obtain⟨l1,l2,rfl⟩:=List.append_of_mem hx;rw[Pq hu hp];refine((List.perm_middle (a:=e) (l₁:=l1) (l₂:=l2)).cons x).trans ?_;refine(List.Perm.swap e x (l1++l2)).trans ?_;exact(List.perm_middle.symm).cons e
theorem aam {l:List En} {e:En} (hs:(aG l e.t.p).isSome=true):(fO l e).map (λe=>e.t.p)=l.map λe=>e.t.p:=by
 unfold fO;rw[if_pos hs,List.map_map];refine List.map_congr_left λx _=>?_;show(if x.t.p=e.t.p then e else x).t.p=x.t.p
 split
 ·rename_i h;exact h.symm
 ·rfl
end eX
end
section
open Go.RowKit

namespace eX
theorem WQ {g:Mg} (h3:3<=Gc.count 0 g.l) (h:g.opn≠-1\/4<=Gc.count 0 g.l):enough g=true:=by unfold enough;rw[decide_eq_true h3,Bool.true_and,Bool.or_eq_true,decide_eq_true_eq,decide_eq_true_eq];exact h
theorem Nc {g:Mg} (h:enough g=true):3<=Gc.count 0 g.l/\(g.opn≠-1\/4<=Gc.count 0 g.l):=by unfold enough at h;rw[Bool.and_eq_true,Bool.or_eq_true,decide_eq_true_eq,decide_eq_true_eq,decide_eq_true_eq] at h;exact h
theorem YI {g:Mg} (h:4<=Gc.count 0 g.l):enough g=true:=WQ ae (.inr h)
def Fr (g g':Mg):Prop:=3<=Gc.count 0 g'.l/\Gc.count 0 g.l<=Gc.count 0 g'.l+1
end eX
section
open eX
variable {NB B n:Nat} {R:Nat->Prop} {w:World} {f:Fm}
def Esd (NB B:Nat) (R:Nat->Prop) (n:Nat) (f:Fm) (w:World) (e:Ending) (w':World):Prop:=
 e= .returned (.int .i64 0)/\∃f',uI NB B R w w' f'/\Same f f'/\Fi NB (n+17*(NB+1)) [] f'.g (f'.se++f'.no)/\eX.enough f'.g=true/\f'.g=f.g
theorem Px (h:dB NB B R w f) (hi:Fi NB n [] f.g (f.se++f.no)) (CJ:eX.enough f.g=true):
  Calls prog 249 #[f.F] w (Esd NB B R n f w):=by
 have oC:=hi.nb;obtain⟨aDW,aDX⟩:=oC;have c0:=h.c0;have HG:=ag (qC h);have HH:=ag h;have HI:=ag hi;have HEn:=ag CJ;have iC:=h.base;have i1:=IntWalk.i64_in (8*(NB:Int)) ⟨ae,ae⟩;have i2:=IntWalk.i64_in (8*(NB:Int)*8) ⟨ae,ae⟩;have jq:=qG;clear h hi CJ
 go_in
 go_wp2_with fail;refine HG.o.mono ?_;rintro e w1 ⟨rfl,hb⟩;have dw:=ag hb;unfold uf;clear hb c0;go_wp2_with fail;have dA:=ag (dw.o.alloc dw.o.size (.cells #[.int .i64 NB,.int .i64 8,.int .i64 64] 60));generalize w1.alloc (.cells #[.int .i64 NB,.int .i64 8,.int .i64 64] 60)=w2 at*
 go_loopw [2,4,16] (λ_ _ v wr=>v= .int .i64 0/\Hid (uI NB B R w2 wr f)) (λ_ _ _ _=>0)
 case atStart=>exact⟨rfl,((HH.o.on dA.o).refl)⟩
 case round=>obtain⟨rfl,H1⟩:=hrel;have aU:(0:Int)<8*(NB:Int)*8:=ae;have hE:=KX H1.o.1 HI.o;rw[HEn.o] at hE;have HE:=ag hE;have hBw:B<=w2.heap.size:=Nat.le_trans iC dA.o.size;clear hE;go_wp2_with fail;refine HE.o.mono ?_;rintro e w3 ⟨rfl,bQ⟩;have H3:=ag ((H1.o.on bQ hBw).from_ dA.o iC);clear bQ;go_wp2;go_ret;exact⟨rfl,f,H3.o,Same.refl f,HI.o.le ae,HEn.o,rfl⟩
end
end
section
open Go.RowKit eX

section
variable {NB B n:Nat} {R:Nat->Prop} {w:World} {f:Fm} {x:List Nat} {E:List En}
theorem Tn (h:dB NB B R w f) (hn:NB<=1000):
  Calls prog 248 #[f.F] w λe w'=>e= .returned (.int .i64 0)/\Below w.heap.size w w':=by
 have fF:=(Below.refl w.heap.size w).alloc (Nat.le_refl _) (.cells #[.bool false,.bool true] 4);have HH:=ag (h.on fF);have HK:=ag (aF.new w 4 #[.bool false,.bool true]);have iC:=ag fF;clear h fF
 go_in
 go_wp2_with fail;generalize w.alloc (.cells #[.bool false,.bool true] 4)=w1 at*;obtain⟨Q,hQ⟩:=bu w.heap.size;rw[<-hQ] at HK⊢;have HQ:=ag hQ;clear hQ
 go_loopw [4,5,6,9] (λ_ _ _ v wr=>∃i:Nat,i<=2/\v= .int .i64 i/\wr=w1) (λ_ _ _ v _=>2-(intOf v).toNat)
 case atStart=>exact⟨0,ae,rfl,rfl⟩
 case round=>
  obtain⟨i,hi,rfl,hw⟩:=hrel;subst hw;by_cases aU:i<2
  ·have hc:∃bv:Bool,wr.cell? ⟨Q,i,none⟩=some (.bool bv):=by
    rcases(show i=0\/i=1 by omega) with rfl|rfl
    ·exact⟨false,aF.aj HK.o rfl⟩
    ·exact⟨true,aF.aj HK.o rfl⟩
   obtain⟨bv,hc⟩:=hc;have g1:(0:Int)<=(i:Int):=ae;have g2:(i:Int)<2:=ae;have c10:=HH.o.c10;go_wp2_with fail
   go_loopw [5,6,18] (λ_ _ v wq=>∃j:Nat,j<=NB/\v= .int .i64 j/\wq=wr) (λ_ _ v _=>NB-(intOf v).toNat)
   case atStart=>exact⟨0,ae,rfl,rfl⟩
   case round=>
    obtain⟨j,hj,rfl,hw⟩:=hrel;subst hw;by_cases hlj:j<NB
    ·have y0:wr.cell? ⟨f.LA,j,none⟩=some (.bool false):=by have y9:=(HH.o.hL.iH (k:=j) (by simpa using hlj)).1;rw[List.getElem_replicate] at y9;exact y9
     have g3:(0:Int)<=(j:Int):=ae;have g4:(j:Int)<(NB:Int):=ae;go_wp2_with fail;go_roundw
     case rel=>exact⟨j+1,ae,by go_num,trivial⟩
     case measure=>simp[intOf];omega
    ·obtain rfl:j=NB:=ae;go_wp2_with fail;go_roundw
     case rel=>exact⟨i+1,ae,by go_num,trivial⟩
     case measure=>simp[intOf];omega
  ·obtain rfl:i=2:=ae;go_wp2;go_ret;exact⟨rfl,iC.o⟩
def Pgm (NB B:Nat) (R:Nat->Prop) (n:Nat) (x:List Nat) (E:List En) (f:Fm) (bs:List UInt8) (w:World) (e:Ending) (w':World):Prop:=
 ∃(k i:Nat) (g':Mg),e= .returned (.tuple #[.agg #[.int .i64 k,.int .i64 i],.int .i64 0])/\uI NB B R w w' {f with g:=g'}/\Pgd NB f.g g' k i bs/\Fi NB (n+1) (k::x) g' E
theorem KY (h:dB NB B R w f) (hi:Fi NB n x f.g E) (hr:f.g.opn≠-1\/0<Gc.count 0 f.g.l) (a:Option Addr) (c:Nat) (bs:List UInt8) (RX:f.g.gh bs) (YJ:Own aH 5 w 0 (.slice a 96 c) bs) (EE:∀q,Value.ownBlock (.slice a 96 c)=some q->¬R q):
  Calls prog 250 #[f.F,.slice a 96 c] w (Pgm NB B R n x E f bs w):=by
 have iC:=h.base;have fF:=(Below.refl w.heap.size w).alloc (Nat.le_refl _) (.cells #[.int .i64 0,.int .i64 0] 247);have h1:=h.on fF;have HK:=ag (aF.new w 247 #[.int .i64 0,.int .i64 0]);have HZ:=ag (h.aV (Nat.le_refl w.heap.size));have ZU:=ag fF;have HP:=ag (Tq h1 hi hr a c bs RX (YJ.on fF) EE);have c1:=h1.c1;clear h h1 hi hr RX YJ EE fF;have jq:=iE
 go_in
 go_wp2_with fail;refine wp_loop_rounds 1 ?_;rw[rounds_succ];generalize w.alloc (.cells #[.int .i64 0,.int .i64 0] 247)=w1 at*;obtain⟨Z,hZ⟩:=bu w.heap.size;rw[<-hZ] at HK HZ⊢;have WO:=ag hZ;clear hZ;go_wp2_with fail;refine HP.o.mono ?_;rintro e w2 ⟨k,i,g',rfl,h2,wQ,zk⟩;have rD:=ag (h2.blk HK.o HZ.o);have H2:=ag h2;have Gi:=ag wQ;have HFi:=ag zk;clear h2 wQ zk c1;obtain⟨k0,k1,f0,f1,q0,q1⟩:=plZ rD.o k i;have HF:=ag (H2.o.tail ZU.o iC (((Kq.refl (λq=>q=Z) w2).setCell (p:=⟨Z,0,none⟩) (.inl rfl) (.int .i64 k)).setCell (p:=⟨Z,1,none⟩) (.inl rfl) (.int .i64 i)) λq hq=>by subst hq;exact⟨by rw[WO.o];exact Nat.le_refl _,aF.lt HK.o,HZ.o⟩);go_wp2_with fail;refine bodyPost_ret (v:= .tuple #[.agg #[.int .i64 k,.int .i64 i],.int .i64 0]) (by simp[results,Tryz.results250,go_sem,q0,q1]) rfl ⟨k,i,g',rfl,HF.o,Gi.o,HFi.o⟩
end
end
section
open Go.RowKit eX

theorem aqA:prog.cellsOf 67=4:=az
section
variable {NB B n:Nat} {R:Nat->Prop} {w:World} {f:Fm}
def Ptd (NB B:Nat) (R:Nat->Prop) (n:Nat) (f:Fm) (t:Tg) (pay:List UInt8) (w:World) (e:Ending) (w':World):Prop:=
 ∃(k i:Nat) (f1:Fm) (g':Mg),e= .returned (.tuple #[.agg #[.int .i64 k,.int .i64 i],.int .i64 0])/\uI NB B R w w' {f1 with g:=g',seq:=f.seq+1}/\Same f f1/\Pgd NB f1.g g' k i (Tg.page t pay)/\Fi NB (n+17*(NB+1)+1) [k] g' (f1.se++f1.no)/\Fr f.g g'
theorem eX.Pgd.fr {g g':Mg} {k i:Nat} {bs:List UInt8} (h:Pgd NB g g' k i bs) (he:eX.enough g=true):Fr g g':=by
 obtain⟨h1,h2⟩:=Nc he;rcases h.was with⟨a1,_,_,a4⟩|⟨a1,_,_,a4⟩
 ·rcases h2 with h2|h2
  ·exact absurd a1 h2
  ·exact⟨ae,ae⟩
 ·exact⟨ae,ae⟩
theorem IJ (Tt:eX.enough f.g=true) (h:dB NB B R w f) (hi:Fi NB n [] f.g (f.se++f.no)) (h3:3<=Gc.count 0 f.g.l) (hE:(f.se++f.no).length+2<=8*(NB-3)) (hn:n<=1099511000000)
  (kd p:Nat) (hk:kd=1\/kd=2) (hp:p<8192) (hs:1<=f.seq/\f.seq<=1000000000) (he:1<=f.ep/\f.ep<=1000000000) (a:Option Addr) (c:Nat) (pay:List UInt8) (RX:f.g.gh (Tg.page ⟨(kd:Int),p,f.seq,f.ep⟩ pay)) (hx:Bytes w w.heap.size a 64 pay) (EE:∀b o,a=some ⟨b,o,none⟩->¬R b):
  Calls prog 207 #[f.F,.agg #[.int .i64 kd,.int .u32 p,.int .u64 0,.int .u64 0],.slice a 64 c] w (Ptd NB B R n f ⟨(kd:Int),p,f.seq,f.ep⟩ pay w):=by
 have adZ:=ag Tt;have iC:=h.base;obtain⟨t,ht⟩:∃t:Tg,t=⟨(kd:Int),p,f.seq,f.ep⟩:=⟨_,rfl⟩
 have ad2:Tg.Right t:=by rw[ht];exact⟨by rcases hk with rfl|rfl<;>simp,hp,hs.1,by show f.seq<_;omega,he.1,by show f.ep<_;omega⟩
 have HT:=ag ht;have HRt:=ag ad2;obtain⟨w1,jw⟩:∃w1,w1=(w.alloc (.cells #[.int .i64 kd,.int .u32 p,.int .u64 0,.int .u64 0] 67)).alloc (.cells #[.int .i64 0,.int .i64 0] 247):=⟨_,rfl⟩
 have bK:Below w.heap.size w w1:=by rw[jw];exact((Below.refl _ w).alloc (Nat.le_refl _) _).alloc au _
 have ED:aF w1 w.heap.size 67 #[.int .i64 kd,.int .u32 p,.int .u64 0,.int .u64 0]:=by rw[jw];exact(aF.new w _ _).alloc _
 have rG:aF w1 (w.heap.size+1) 247 #[.int .i64 0,.int .i64 0]:=by have:=aF.new (w.alloc (.cells #[.int .i64 kd,.int .u32 p,.int .u64 0,.int .u64 0] 67)) 247 #[.int .i64 0,.int .i64 0];rw[World.size_alloc] at this;rw[jw];exact this
 have HW1:=ag jw;have dw:=ag bK;have Ru:=ag ED;have HZ1:=ag rG;have ZW:=ag (h.aV (Nat.le_refl w.heap.size));have Af:=ag (show¬R (w.heap.size+1) from h.aV (Nat.le_succ w.heap.size));have H1:=ag (h.on bK);have F8:=ag (hx.on bK);have Wj:=ag EE;have HAb:=ag (show∀b o,a=some ⟨b,o,none⟩->b<w.heap.size from λb o e=>by obtain⟨b',o',e',aU,_⟩:=hx.2.2 ae;rw[e] at e';injection e' with e';injection e' with e';omega);have HI:=ag hi;have H3:=ag h3;have HE:=ag hE;have HN:=ag hn;have Py:=ag hs;have HEp:=ag he;have HGh:=ag (show f.g.gh (Tg.page t pay) by rw[ht];exact RX);have oC:=hi.nb;clear Tt RX h hi h3 hE hn hk hs he hx EE ht ad2 bK ED rG
 go_in
 go_upto_region 1 with fail;rw[<-jw];clear jw;go_wp2_with fail;refine(Tn H1.o oC.2).mono ?_;rintro e w2 ⟨rfl,aW⟩;have H2:=ag (H1.o.on aW);have U5:=ag (Ru.o.ah aW);have HZ2:=ag (HZ1.o.ah aW);have JH:=ag (F8.o.on aW);have dA:=ag (dw.o.ay aW);clear aW;go_wp2_with fail;refine(Px H2.o HI.o adZ.o).mono ?_;rintro e w3 ⟨rfl,f1,h3,gQ,zk,CJ,hgg⟩;have HGg:=ag hgg;have H4:=ag h3;have HS:=ag gQ;have HFi:=ag zk;have HEn:=ag CJ;have HQ3:=ag (h3.blk U5.o ZW.o);have O0:=ag (h3.blk HZ2.o Af.o);have zZ:=ag ((JH.o.kq (Nat.le_refl _) h3.2 Wj.o).mono h3.2.size);have c8:=h3.1.c8;have c9:=h3.1.c9;rw[gQ.F,gQ.seq] at c8;rw[gQ.F,gQ.ep] at c9;clear h3 gQ zk CJ hgg;go_upto_region 7 with fail;have hd:=HQ3.o.drew;have y2:=aF.aj (i:=2) hd rfl;have y3:=aF.aj (i:=3) hd rfl;have u2:=aF.frozen hd 2;have u3:=aF.frozen hd 3;have iO:=hd.set 2 (.int .u64 (f.seq:Int));have v3:=iO.aj (i:=3) (v:= .int .u64 0) rfl;have x3:=iO.frozen 3;have HQ4:=ag (iO.set 3 (.int .u64 (f.ep:Int)));have hFQ:f.F≠w.heap.size:=by have h1:=H2.o.inF;exact λe=>ZW.o (e▸h1)
 have HFQ:=ag hFQ;clear hd iO hFQ;obtain⟨W,hW⟩:=bu w3.drew;have hc:W.cell? ⟨f.F,8,none⟩=some (.int .u64 (f.seq:Int))/\W.cell? ⟨f.F,9,none⟩=some (.int .u64 (f.ep:Int)):=by rw[hW];exact⟨c8,c9⟩
 rw[<-hW] at y2 y3 u2 u3 v3 x3 HQ4;have HWe:=ag hW;clear c8 c9;have far:∀(U:World) (i:Nat) (u:Value),(U.cell? ⟨f.F,8,none⟩=some (.int .u64 (f.seq:Int))/\U.cell? ⟨f.F,9,none⟩=some (.int .u64 (f.ep:Int)))->(U.setCell ⟨w.heap.size,i,none⟩ u).cell? ⟨f.F,8,none⟩=some (.int .u64 (f.seq:Int))/\(U.setCell ⟨w.heap.size,i,none⟩ u).cell? ⟨f.F,9,none⟩=some (.int .u64 (f.ep:Int)):=λU i u hU=>
  ⟨(World.cell?_setCell_far U ⟨w.heap.size,i,none⟩ ⟨f.F,8,none⟩ u (Ne.symm HFQ.o)).trans hU.1,(World.cell?_setCell_far U ⟨w.heap.size,i,none⟩ ⟨f.F,9,none⟩ u (Ne.symm HFQ.o)).trans hU.2⟩
 have FAR:=ag far;clear far;refine iT (λW'=>W'.cell? ⟨f.F,8,none⟩=some (.int .u64 (f.seq:Int))/\W'.cell? ⟨f.F,9,none⟩=some (.int .u64 (f.ep:Int))) (by rw[<-HWe.o];exact hc) (λbJ=>?_);rw[<-hW] at bJ⊢;clear hW hc;refine dP 0 f.F 0 ?_;refine dP 1 f.F 0 ?_;refine aS 2 f.F 8 ?_;refine jy 3 (.int .u64 (f.seq:Int)) rfl (λ_ aI=>by obtain⟨y8,y9⟩:=aI;go_simp) ?_;refine dP 4 f.F 0 ?_;refine dP 5 f.F 0 ?_;refine aS 6 f.F 9 ?_;refine jy 7 (.int .u64 (f.ep:Int)) rfl (λ_ aI=>by obtain⟨y8,y9⟩:=aI;go_simp) ?_;refine aS 8 w.heap.size 2 ?_;refine dm 9 (λK' hK=>?_);go_simp;have dH:=FAR.o W 2 (.int .u64 (f.seq:Int)) bJ;refine hK.out _ _ dH (λgm=>?_)
 try simp only[aO]
 refine aS 10 w.heap.size 3 ?_;refine dm 11 (λK' hK=>?_);go_simp;have kD:=FAR.o _ 3 (.int .u64 (f.ep:Int)) dH;refine hK.out _ _ kD (λrY=>?_);refine gB ?_;clear bJ dH gm kD rY y2 y3 u2 u3 v3 x3;obtain⟨Z,hZ⟩:=bu (w.heap.size+1);rw[<-hZ] at HZ2 O0 Af⊢;have WO:=ag hZ;clear hZ;obtain⟨Q,hQ⟩:=bu w.heap.size;have HQe:=ag hQ;have zx:=ag (((Kq.of (T:=λq=>q=Q) (ak w3)).setCell (p:=⟨w.heap.size,2,none⟩) (.inl hQ.symm) (.int .u64 (f.seq:Int))).setCell (p:=⟨w.heap.size,3,none⟩) (.inl hQ.symm) (.int .u64 (f.ep:Int)));rw[<-HWe.o] at zx;generalize (W.setCell ⟨w.heap.size,2,none⟩ (.int .u64 (f.seq:Int))).setCell ⟨w.heap.size,3,none⟩ (.int .u64 (f.ep:Int))=W5 at*;rw[<-hQ] at HQ4 ZW Ru⊢;clear hQ;obtain⟨R1,hR1⟩:=bu (Up R w2 w3);have yA:=ag hR1;have ahU:¬R1 Q:=by rw[hR1];exact H4.o.far ZW.o (by rw[HQe.o];exact U5.o.lt)
 have aqC:¬R1 (Z):=by rw[hR1];exact H4.o.far Af.o HZ2.o.lt
 have hm5:dB NB B R1 W5 f1:=by rw[hR1];exact H4.o.1.kq zx.o λq hq e=>by rw[hR1] at ahU;exact ahU (e▸hq)
 have JA:=ag hm5;have aD0:=ag ahU;have alU:=ag aqC;have Dt:=ag ((zZ.o.kq (Nat.le_refl _) zx.o λb o e h1=>by have:=HAb.o b o e;have:=HQe.o;omega).mono zx.o.size);have HZ5:=ag (O0.o.kq zx.o λe=>by have:=HQe.o;have:=WO.o;omega);have z0:=aF.aj (i:=0) HQ4.o rfl;have z1:=aF.aj (i:=1) HQ4.o rfl;have z2:=aF.aj (i:=2) HQ4.o rfl;have z3:=aF.aj (i:=3) HQ4.o rfl;have jq:=aqA;clear hR1 hm5 ahU aqC;have HWr:=ag (EK t a 64 c pay W5 HRt.o (.inl rfl) Dt.o);rw[show tagV t= .agg #[.int .i64 kd,.int .u32 p,.int .u64 (f.seq:Int),.int .u64 (f.ep:Int)] by rw[HT.o]] at HWr;go_wp2_with fail;refine HWr.o.mono ?_;rintro e W6 ⟨⟨v6,rfl,QN⟩,iI⟩;have ajt:(Tg.page t pay).length=96:=by rw[Tg.um,Dt.o.len]
 obtain⟨a6,c6,rfl,ZJ⟩:=QN.bZ ajt;have Eg:=ag QN;have vP:=ag iI;have yu:=ag (JA.o.on iI);have HZ6:=ag (HZ5.o.ah iI);have d8:=yu.o.c8;have u8:=yu.o.frz 8;rw[HS.o.F,HS.o.seq] at d8;rw[HS.o.F] at u8;have i8:=IntWalk.u64_in ((f.seq:Int)+1) ⟨ae,by have:=Py.o;omega⟩;have hm7:=yu.o.alW 8 (.int .u64 ((f.seq:Int)+1)) {f1 with seq:=f.seq+1} (by unfold Nb;simp) rfl rfl rfl rfl rfl rfl rfl rfl rfl rfl rfl;rw[show(⟨f1.F,8,none⟩:Addr)=⟨f.F,8,none⟩ by rw[HS.o.F]] at hm7;have Nh:=ag hm7;have hF1:R1 f.F:=by have:=yu.o.inF;rw[HS.o.F] at this;exact this
 have zH:=ag ((Kq.refl R1 W6).setCell (p:=⟨f.F,8,none⟩) (.inl hF1) (.int .u64 ((f.seq:Int)+1)));clear z0 z1 z2 z3 iI QN hm7 hF1 ajt;go_upto_region 12 with fail;clear d8 u8;generalize W6.setCell ⟨f.F,8,none⟩ (.int .u64 ((f.seq:Int)+1))=W7 at*;have alX:∀q,Value.ownBlock (.slice a6 96 c6)=some q->¬R1 q:=λq hq=>JA.o.aV (Eg.o.aP q hq).1;have vK:=ag ((Eg.o.kq zH.o alX).mono (Nat.zero_le _));have HZ7:=ag (HZ6.o.kq zH.o alU.o);have hr:f1.g.opn≠-1\/0<Gc.count 0 f1.g.l:=by obtain⟨e1,e2⟩:=Nc HEn.o;exact .inr ae
 have HP:=ag (KY Nh.o HFi.o hr a6 c6 _ (show f1.g.gh (Tg.page t pay) by rw[HS.o.gh];exact HGh.o) vK.o alX);rw[show(Value.pointer (some ⟨({f1 with seq:=f.seq+1}:Fm).F,0,none⟩))= .pointer (some ⟨f.F,0,none⟩) from congrArg (λq=>Value.pointer (some ⟨q,0,none⟩)) HS.o.F] at HP;clear alX hr;go_wp2_with fail;refine HP.o.mono ?_;rintro e W8 ⟨k,i,g',rfl,h8,wQ,zk⟩;have HZ8:=ag (h8.blk HZ7.o alU.o);have H8:=ag h8;have Gi:=ag wQ;have awn:=ag zk;have awo:=ag (h8.far alU.o HZ7.o.lt);clear h8 wQ zk;obtain⟨k0,k1,f0,f1',q0,q1⟩:=plZ HZ8.o k i;have aD3:=iE;go_wp2_with fail;refine bodyPost_ret (v:= .tuple #[.agg #[.int .i64 k,.int .i64 i],.int .i64 0]) (by simp[results,Tryz.results207,go_sem,q0,q1]) rfl ⟨k,i,f1,g',rfl,?_,HS.o,by have h9:=Gi.o;rw[HT.o] at h9;exact h9,awn.o,Gi.o.fr HEn.o|>λh=>by rw[HGg.o] at h;exact h⟩;have s2:=dA.o.size;have s3:=H4.o.2.size;have s5:=zx.o.size;have s6:=vP.o.size;have s7:=zH.o.size;have s8:=H8.o.2.size;have alY:∀q,R1 q->R q\/(w.heap.size<=q/\q<w3.heap.size):=λq hq=>by
  rw[yA.o] at hq;rcases hq with h1|h1
  ·exact .inl h1
  ·exact .inr ⟨ae,h1.2⟩
 have hkz:Kq (λq=>q=Z) W8 ((W8.setCell ⟨Z,0,none⟩ (.int .i64 k)).setCell ⟨Z,1,none⟩ (.int .i64 i)):=((Kq.refl (λq=>q=Z) W8).setCell (p:=⟨Z,0,none⟩) (.inl rfl) _).setCell (p:=⟨Z,1,none⟩) (.inl rfl) _;have hm9:=H8.o.1.kq hkz λq hq e=>awo.o (e▸hq);refine⟨hm9.more (λq hq=>?_) λq hq=>?_,?_⟩
 ·rcases hq with h1|h1
  ·rcases alY q h1 with h2|h2
   ·exact .inl h2
   ·exact .inr ⟨h2.1,by simp only[World.size_setCell];omega⟩
  ·exact .inr ⟨ae,by simp only[World.size_setCell];omega⟩
 ·rcases hq with h1|h1
  ·exact hm9.bnd q (.inl (by rw[yA.o];exact .inl h1))
  ·exact⟨ae,h1.2⟩
 ·have jY:Kq R w w3:=(Kq.of dA.o).trans H4.o.2;have zY:Kq R w W5:=jY.ay zx.o λq e=> .inr (by rw[e,HQe.o];exact Nat.le_refl _);have hk7:Kq R w W7:=(zY.on vP.o).ay zH.o λq hq=>by
   rcases alY q hq with h2|h2
   ·exact .inl h2
   ·exact .inr h2.1
  have hk8:Kq R w W8:=hk7.ay H8.o.2 λq hq=>by
   rcases alY q hq with h2|h2
   ·exact .inl h2
   ·exact .inr h2.1
  exact hk8.ay hkz λq e=> .inr (by have:=WO.o;omega)
end
end
end Go.Proofs.YtnieckfelfoopaaGreat

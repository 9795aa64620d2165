import Derived.Test.YtnieckfelfoopaaGreatFsRen
open Go.Proofs.Tryz (prog)
namespace Go.Proofs.YtnieckfelfoopaaGreat
open Lib (hid)
set_option maxRecDepth 100000
set_option maxHeartbeats 16000000
section
open Go.RowKit

def NL:List Bv:=List.replicate 32 bv0
theorem ab6 (u:World):(Instr.makeSlice 74 (.int .i64 32) (.int .i64 32)).run prog u= .ok (.slice (some ⟨u.heap.size,0,none⟩) 32 32) (u.alloc (.cells (NL.flatMap CE).toArray 121)):=by
 kernel_rfl
theorem agj (u:World) (base:Nat) (hb:base<=u.heap.size):dK 5 CE 121 (u.alloc (.cells (NL.flatMap CE).toArray 121)) base (.slice (some ⟨u.heap.size,0,none⟩) 32 32) NL:=
 ⟨ab7,JR,.inr ⟨u.heap.size,32,_,rfl,hb,heap_alloc_new u _,Nat.le_refl _,aB,JR,JR⟩⟩
def Vk (ps:Nat->Nat) (k j:Nat):Bv:=if j<k then JS (ps j) (fresh 0) else bv0
structure BlJ (g:Nat) (w wr:World) (k:Nat) (ps:Nat->Nat):Prop where
 hG:aF wr g 60 #[.int .i64 32,.int .i64 8,.int .i64 64]
 hC:aF wr (g+2) 76 (chQ 32 (g+1) 0 0 0)
 hB:dK 5 CE 121 wr g (.slice (some ⟨g+1,0,none⟩) 32 32) ((List.range 32).map (Vk ps k))
 hP:∀j,j<k->Own Ai 23 wr g (.slice (some ⟨ps j,0,none⟩) 8 8) kJ/\g+2<ps j/\ps j<wr.heap.size
 inj:∀i j,i<k->j<k->ps i=ps j->i=j
 hb:Below g w wr
theorem BlJ.on {g k:Nat} {w wr w':World} {ps:Nat->Nat} (h:BlJ g w wr k ps) (hb:Below wr.heap.size wr w'):BlJ g w w' k ps:=by obtain⟨h1,h2,h3,h4,h5,h6⟩:=h;exact⟨h1.ah hb,h2.ah hb,h3.on hb,λj hj=>⟨(h4 j hj).1.on hb,(h4 j hj).2.1,Nat.lt_of_lt_of_le (h4 j hj).2.2 hb.size⟩,h5,h6.trans (hb.mono (Nat.le_of_lt h1.lt))⟩
theorem BlJ.step {g k:Nat} {w wr:World} {ps:Nat->Nat} (h:BlJ g w wr k ps) (hk:k<32):
  BlJ g w ((wr.alloc (.cells (kJ.map Ai).toArray 23)).setCell ⟨g+1,k*5,none⟩ (.slice (some ⟨wr.heap.size,0,none⟩) 8 8)) (k+1) (upd ps k wr.heap.size):=by
 have aU:=h.hC.lt;have hbe:=h.hb;have ho:=Vl wr g ae;have hold:=λj hj=>(h.hP j hj).2.2;have agk:=h.inj;have ja:(wr.alloc (.cells (kJ.map Ai).toArray 23)).heap.size=wr.heap.size+1:=au;obtain⟨h1,h2,h3,h4,h5,h6⟩:=h.on ((Below.refl wr.heap.size wr).alloc (Nat.le_refl _) (.cells (kJ.map Ai).toArray 23));generalize wr.alloc (.cells (kJ.map Ai).toArray 23)=wp at*;have Aj:=h3.set (i:=k) (j:=0) (u:= .slice (some ⟨wr.heap.size,0,none⟩) 8 8) (y:=JS wr.heap.size (fresh 0)) (by simpa using hk) ae (by rw[List.getElem_map,List.getElem_range,Vk,if_neg (Nat.lt_irrefl _)];rfl);refine⟨h1.far au _,h2.far au _,?_,λj hj=>?_,λi j hi hj e=>?_,h6.setCell (p:=⟨g+1,k*5,none⟩) au _⟩
 ·have e:((List.range 32).map (Vk ps k)).set k (JS wr.heap.size (fresh 0))=(List.range 32).map (Vk (upd ps k wr.heap.size) (k+1)):=by
   apply List.ext_getElem
   ·simp
   ·intro i g1 g2;rw[List.getElem_set];simp only[List.getElem_map,List.getElem_range,Vk];by_cases e:k=i
    ·subst e;rw[if_pos rfl,if_pos ae,upd_same]
    ·rw[if_neg e,bH _ _ (Ne.symm e)];by_cases e2:i<k
     ·rw[if_pos e2,if_pos ae]
     ·rw[if_neg e2,if_neg ae]
  rw[e] at Aj;exact Aj
 ·by_cases e:j=k
  ·subst e;rw[upd_same];exact⟨ho.far (by simp[Value.ownBlock];omega) _,aU,by rw[World.size_setCell];omega⟩
  ·rw[bH _ _ e];obtain⟨p1,p2,p3⟩:=h4 j ae;exact⟨p1.far (by simp[Value.ownBlock];omega) _,p2,by rw[World.size_setCell];exact p3⟩
 ·by_cases e1:i=k
  ·by_cases e2:j=k
   ·rw[e1,e2]
   ·rw[e1,upd_same,bH _ _ e2] at e;have:=hold j ae;omega
  ·by_cases e2:j=k
   ·rw[e2,upd_same,bH _ _ e1] at e;have:=hold i ae;omega
   ·rw[bH _ _ e1,bH _ _ e2] at e;exact agk i j ae ae e
theorem NM (w:World):
  Calls prog 58 #[.agg #[.int .i64 32,.int .i64 8,.int .i64 64]] w λe w'=>e= .returned (.pointer (some ⟨w.heap.size+2,0,none⟩))/\∃ps,BlJ w.heap.size w w' 32 ps:=by
 have B1:=aF.new w 60 #[.int .i64 32,.int .i64 8,.int .i64 64];have hb:=(Below.refl w.heap.size w).alloc (Nat.le_refl _) (.cells #[.int .i64 32,.int .i64 8,.int .i64 64] 60);obtain⟨w1,jw⟩:=bu (w.alloc (.cells #[.int .i64 32,.int .i64 8,.int .i64 64] 60));obtain⟨g,hg⟩:=bu w.heap.size;have iO:w1.heap.size=g+1:=by rw[jw,hg];simp
 rw[<-jw] at B1 hb;rw[<-hg] at B1 hb⊢;have Ak:=ag (show aF w1.drew g 60 #[.int .i64 32,.int .i64 8,.int .i64 64] from B1);have HB:=ag hb;have nZ:=ag iO;have uY:=ab6 w1.drew;have HBg:=ag B1;have hC0:=aF.new (w1.alloc (.cells (NL.flatMap CE).toArray 121)) 76 (chQ 32 (g+1) 0 0 0);have hG0:=(B1.alloc (.cells (NL.flatMap CE).toArray 121)).alloc (.cells (chQ 32 (g+1) 0 0 0) 76);have hO0:=(agj w1 g ae).alloc (.cells (chQ 32 (g+1) 0 0 0) 76);have hB0:=(hb.alloc ae (.cells (NL.flatMap CE).toArray 121)).alloc (by simp;omega) (.cells (chQ 32 (g+1) 0 0 0) 76);rw[World.size_alloc,iO] at hC0;rw[iO] at hO0;have HI:=ag (show BlJ g w ((w1.alloc (.cells (NL.flatMap CE).toArray 121)).alloc (.cells (chQ 32 (g+1) 0 0 0) 76)) 0 (λ_=>0) from⟨hG0,hC0,hO0,λ_ h=>absurd h ae,λ_ _ h=>absurd h ae,hB0⟩);clear B1 hb hC0 hG0 hO0 hB0
 go_in
 go_wp2_with fail;rw[<-jw,<-hg];clear jw hg iO;refine iT (λW'=>aF W' g 60 #[.int .i64 32,.int .i64 8,.int .i64 64]) Ak.o (λbJ=>?_);refine jy 0 (.agg #[.int .i64 32,.int .i64 8,.int .i64 64]) rfl (λ_ aI=>by have y0:=aI.aj (i:=0) rfl;have y1:=aI.aj (i:=1) rfl;have y2:=aI.aj (i:=2) rfl;go_simp) ?_;refine aS 1 g 0 ?_;refine jH 2 32 (λ_ aI=>aI.aj (i:=0) rfl) ?_;refine dm 3 (λK' hK=>?_);go_simp;refine hK.out _ _ (HBg.o.alloc _).drew (λdH=>?_)
 try simp only[aO]
 refine fE 4 (.agg #[.int .i64 32,.int .i64 8,.int .i64 64,.slice (some ⟨w1.heap.size,0,none⟩) 32 32,.slice none 0 0,.int .i64 0,.bool false,.int .i64 0,.int .i64 0]) ?_;refine dm 5 (λK' hK=>?_);go_simp;refine hK.out _ _ ((HBg.o.alloc _).alloc _).drew (λgm=>?_)
 try simp only[aO]
 refine dP 6 (w1.heap.size+1) 0 ?_;refine gB ?_;clear bJ dH gm uY;rw[nZ.o];change Exit.then _ _ _ _ ((w1.alloc (.cells (NL.flatMap CE).toArray 121)).alloc (.cells (chQ 32 (g+1) 0 0 0) 76)).drew;have yL:=HI.o.on (ak _);generalize ((w1.alloc (.cells (NL.flatMap CE).toArray 121)).alloc (.cells (chQ 32 (g+1) 0 0 0) 76)).drew=w3 at*;have c3:w3.cell? ⟨g+1+1,3,none⟩=some (.slice (some ⟨g+1,0,none⟩) 32 32):=yL.hC.aj rfl;have HJ:=ag yL;clear HI yL HB Ak HBg nZ;go_wp2_with fail
 go_loopw [4,16] (λ_ i wr=>∃k:Nat,k<=32/\i= .int .i64 k/\∃ps,BlJ g w wr k ps) (λ_ i _=>32-(intOf i).toNat)
 case atStart=>exact⟨0,ae,rfl,_,HJ.o⟩
 case round=>
  obtain⟨k,hk,rfl,ps,hI⟩:=hrel;have HI:=ag hI;clear HJ;by_cases aU:k<32
  ·have eQ:=(hI.step aU).on (ak _);have oP:=ag eQ;have uY:=NP wr.drew;have k0:(0:Int)<=(k:Int):=ae;have k1:(k:Int)<32:=ae;have e3:wr.drew.cell? ⟨g+1+1,3,none⟩=some (.slice (some ⟨g+1,0,none⟩) 32 32):=(hI.on (ak _)).hC.aj rfl;have e1:wr.drew.cell? ⟨g,1,none⟩=some (.int .i64 8):=(hI.on (ak _)).hG.aj rfl;have hgl:=hI.hC.lt;have HA:=ag (hI.on (((Below.refl wr.heap.size wr).alloc (Nat.le_refl _) (.cells (kJ.map Ai).toArray 23)).drew));obtain⟨z1,z2⟩:=HA.o.hB.iH (i:=k) (j:=0) (by simpa using aU) ae;obtain⟨vz,z3⟩:∃vz,((wr.alloc (.cells (kJ.map Ai).toArray 23)).drew).cell? ⟨g+1,k*5,none⟩=some vz:=⟨_,z1⟩
   have z4:((wr.alloc (.cells (kJ.map Ai).toArray 23)).drew).frozen? ⟨g+1,k*5,none⟩=false:=z2;clear eQ z1 z2 hI;go_upto_region 5 with fail;refine iT (λW'=>W'.cell? ⟨g+1+1,3,none⟩=some (.slice (some ⟨g+1,0,none⟩) 32 32)/\W'.cell? ⟨g,1,none⟩=some (.int .i64 8)) ⟨e3,e1⟩ (λbJ=>?_);refine dP 0 (g+1+1) 0 ?_;refine aS 1 (g+1+1) 0 ?_;refine aS 2 (g+1+1) 3 ?_;refine tC 3 (.slice (some ⟨g+1,0,none⟩) 32 32) (λ_ aI=>aI.1) ?_;refine eF 4 (k:Int) ?_;refine aS 5 g 1 ?_;refine jH 6 8 (λ_ aI=>aI.2) ?_;refine dm 7 (λK' hK=>?_);go_simp;have hlC:g+1+1<wr.drew.heap.size:=hgl;have hlG:g<wr.drew.heap.size:=by show g<wr.heap.size;omega
   have fQ:=(Below.refl wr.drew.heap.size wr.drew).alloc (Nat.le_refl _) (.cells (kJ.map Ai).toArray 23);refine hK.out _ _ ⟨(fQ.cell (p:=⟨g+1+1,3,none⟩) hlC).trans bJ.1,(fQ.cell (p:=⟨g,1,none⟩) hlG).trans bJ.2⟩ (λdH=>?_)
   try simp only[aO]
   refine aS 8 (g+1) (k*5) ?_;refine aS 9 (g+1) (k*5) ?_;refine dm 10 (λK' hK=>?_);go_simp;refine hK.out _ _ ⟨(World.cell?_setCell_far _ _ _ _ au).trans dH.1,(World.cell?_setCell_far _ _ _ _ au).trans dH.2⟩ (λgm=>?_)
   try simp only[aO]
   refine gB ?_;clear bJ dH gm uY fQ;go_wp2_with fail;go_roundw
   case rel=>exact⟨k+1,ae,by go_num,_,oP.o⟩
   case measure=>simp[intOf];omega
  ·obtain rfl:k=32:=ae;clear hI;go_wp2_with fail;go_ret;exact⟨rfl,_,HI.o⟩
theorem BlJ.chm {g B:Nat} {w wr:World} {ps:Nat->Nat} (h:BlJ g w wr 32 ps) (hB:B<=g):eG 32 B (λq=>g<=q/\q<wr.heap.size) wr (g+2) (g+1) ps (λ_=>fresh 0):=by
 obtain⟨h1,h2,h3,h4,h5,h6⟩:=h;have aU:=h2.lt;have e:(List.range 32).map (Vk ps 32)=(List.range 32).map λk=>JS (ps k) (fresh 0):=List.map_congr_left λj hj=>by rw[Vk,if_pos (List.mem_range.1 hj)]
 rw[e] at h3;refine⟨⟨0,0,0,h2⟩,h3.mono (Nat.zero_le _),λk hk=>⟨kJ,rfl,(h4 k hk).1.mono (Nat.zero_le _),λi hi=>?_⟩,⟨ae,λj hj=>?_,λj hj=>?_,h5⟩,λq hq=>?_,λq hq=>ae,λq hq=>hq.2⟩
 ·exact List.eq_of_mem_replicate (n:=8) (List.getElem_mem hi)
 ·have:=(h4 j hj).2.1;omega
 ·have:=(h4 j hj).2.1;omega
 ·rcases hq with rfl|rfl|⟨j,hj,rfl⟩
  ·exact⟨ae,aU⟩
  ·exact⟨ae,ae⟩
  ·exact⟨by have:=(h4 j hj).2.1;omega,(h4 j hj).2.2⟩
theorem QD (w:World):
  Calls prog 21 #[.agg #[.int .i64 32,.int .i64 8,.int .i64 64],.slice none 0 0] w λe w'=>(∃S C BL ps,e= .returned (.tuple #[.pointer (some ⟨C,0,none⟩),.int .i64 0])/\eG 32 w.heap.size S w' C BL ps (λ_=>fresh 0))/\Below w.heap.size w w':=by
 have B1:=ag (aF.new w 60 #[.int .i64 32,.int .i64 8,.int .i64 64]);have iC:=ag ((Below.refl w.heap.size w).alloc (Nat.le_refl _) (.cells #[.int .i64 32,.int .i64 8,.int .i64 64] 60))
 go_in
 obtain⟨c0,c1,c2⟩:=B1.o.c3;go_wp2_with fail;refine(Ec 32 aB aB _).mono ?_;rintro e w1 ⟨rfl,hb⟩;have dw:=ag (iC.o.ay hb);have B2:=B1.o.ah hb;clear hb c0 c1 c2 iC B1;obtain⟨c0,c1,c2⟩:=B2.c3;clear B2;go_wp2_with fail;refine(NM _).mono ?_;rintro e w2 ⟨rfl,ps,hI⟩;have dA:=ag (dw.o.ay hI.hb);have HC:=ag (hI.chm (B:=w.heap.size) dw.o.size);generalize w1.heap.size=g at*;clear hI c0 c1 c2;go_wp2
 go_loopw [8,16] (λ_ i wr=>i= .int .i64 0/\wr=w2) (λ_ _ _=>0)
 case atStart=>exact⟨rfl,rfl⟩
 case round=>obtain⟨rfl,rfl⟩:=hrel;go_wp2;go_ret2;exact⟨⟨_,_,_,_,rfl,HC.o⟩,dA.o⟩
end
section
open Go.RowKit Go.Maps Go.ChangeMaps eX eu Ed Opn

def Mtd (w:World) (e:Ending) (w':World):Prop:=
 ∃B X T Z Q f,e= .returned (.tuple #[.pointer (some ⟨X,0,none⟩),.pointer (some ⟨f.g.C,0,none⟩)])/\w.heap.size<=B/\iQ B Q w' X T Z f (Ps.iY f 10 156 20)/\Od f/\Below w.heap.size w w'
theorem JP (w:World):Calls prog 5 #[.int .i64 32] w (Mtd w):=by
 go_in
 go_wp2_with fail;refine(QD w).mono ?_;rintro e w1 ⟨⟨S,C,BL,ps,rfl,hc⟩,bK⟩;have HC:=ag hc;have dw:=ag bK;clear hc bK;go_wp2_with fail;refine(Gy HC.o).mono ?_;rintro e w2 ⟨rfl,Q,f,hf,hd,hfC,hQ,hK⟩;have HF:=ag hf;have HD:=ag hd;have HFC:=ag hfC;have dA:=ag (show Below w.heap.size w w2 from dw.o.trans (hK.below (λq hq=>HC.o.lo q hq) dw.o.size));have HQ:=ag (show∀q,Q q->w.heap.size<=q from λq hq=>(hQ q hq).elim (HC.o.lo q) λh=>by have:=dw.o.size;omega);clear hf hd hfC hQ hK;go_wp2_with fail;refine(show Calls prog 23 #[C] w2 _ from by have h:=JU HF.o HD.o;rw[HFC.o] at h;exact h).mono ?_;rintro e w3 ⟨X,T,Z,Q2,f2,rfl,hm,hC2,hO,hK⟩;have HM:=ag hm;have HCC:=ag (show f2.g.C=C from hC2);have HO:=ag hO;have dE:=ag (show Below w.heap.size w w3 from dA.o.trans (hK.below HQ.o dA.o.size));clear hm hC2 hO hK;go_wp2;go_ret2;exact⟨w.heap.size,X,T,Z,Q2,f2,by rw[HCC.o];rfl,Nat.le_refl _,HM.o,HO.o,dE.o⟩
end
section
open Go.RowKit Go.Maps Go.ChangeMaps eX eu

namespace jZ
variable {nm:Nat->List UInt8} {c k m:Nat} {s:Ps} {f:Fm}
def DX (nm:Nat->List UInt8) (k:Nat):Nat->List UInt8:=λi=>if i<k then Dir.slotL ⟨(i:Int)+2,nm i⟩ else[]
theorem agl:JV (DX nm k) k (Dir.slotL ⟨(k:Int)+2,nm k⟩)=DX nm (k+1):=funext λi=>by
 unfold JV DX;by_cases e:i=k
 ·subst e;rw[if_pos rfl,if_pos ae]
 ·rw[if_neg e];by_cases h:i<k
  ·rw[if_pos h,if_pos ae]
  ·rw[if_neg h,if_neg ae]
theorem XR (h:m<k):DX nm k m=Dir.slotL ⟨(m:Int)+2,nm m⟩:=if_pos h
def dyP (c k n:Nat):Prop:=c<k/\((11+c<=n/\n<11+k)\/(1+c/2<=n/\n<=1+k/2))
def dyL (c k:Nat):List Nat:=if c<k then(List.range (k-c)).map (11+c+·)++(List.range (k/2+1-c/2)).map (1+c/2+·) else[]
theorem agm (n:Nat):n∈dyL c k↔dyP c k n:=by
 unfold dyL dyP;by_cases h:c<k
 ·rw[if_pos h];simp only[List.mem_append,List.mem_map,List.mem_range];constructor
  ·rintro(⟨i,h1,rfl⟩|⟨i,h1,rfl⟩)
   ·exact⟨h,.inl ae⟩
   ·exact⟨h,.inr ae⟩
  ·rintro⟨_,h1|h1⟩
   ·exact .inl ⟨n-(11+c),ae,ae⟩
   ·exact .inr ⟨n-(1+c/2),ae,ae⟩
 ·rw[if_neg h];exact⟨λh'=>(by cases h'),λh1=>absurd h1.1 h⟩
theorem Y4 (hk:k<=17):(dyL c k).Nodup:=by
 unfold dyL
 split
 ·refine List.nodup_append.2 ⟨?_,?_,?_⟩
  ·unfold List.Nodup;rw[List.pairwise_map];exact List.nodup_range.imp λh e=>h ae
  ·unfold List.Nodup;rw[List.pairwise_map];exact List.nodup_range.imp λh e=>h ae
  ·intro a ha b hb e;obtain⟨i,h1,rfl⟩:=List.mem_map.1 ha;obtain⟨j,h2,rfl⟩:=List.mem_map.1 hb;have h1:=List.mem_range.1 h1;have h2:=List.mem_range.1 h2;omega
 ·exact List.nodup_nil
theorem XT:(dyL c k).length=if c<k then(k-c)+(k/2+1-c/2) else 0:=by
 unfold dyL
 split
 ·simp
 ·rfl
structure St (nm:Nat->List UInt8) (c k:Nat) (s:Ps):Prop where
 dp:jZ.Dp k (DX nm k) s
 dy:∀n,s.dy n↔dyP c k n
 ck:(c=0/\k<=10)\/(c=10/\10<=k)
theorem St.mk_ (h:St nm c k s) (hc:¬(c=0/\k=10)) (hk:k<=15) (hs:(Dir.slotL ⟨(k:Int)+2,nm k⟩).length=16):St nm c (k+1) (mkS k (Dir.slotL ⟨(k:Int)+2,nm k⟩) s):=by
 have hck:=h.ck;refine⟨?_,λn=>?_,ae⟩
 ·have:=(h.dp.mk_ hk hs).2.2
  rwa [agl] at this
 ·have e:(mkS k (Dir.slotL ⟨(k:Int)+2,nm k⟩) s).dy n↔(n=1+(k+2-1)/2\/n=1+(k+1-1)/2\/n=11+k\/n=11+k\/n=1+(k+2-1)/2\/s.dy n):=Iff.rfl;rw[e,h.dy];unfold dyP;omega
theorem St.clean (h:St nm 0 10 s):St nm 10 10 s.clean:=
 ⟨⟨⟨h.dp.pg.tb,h.dp.pg.np,h.dp.pg.ino,⟨h.dp.pg.ok.us,h.dp.pg.ok.nd,h.dp.pg.ok.sz,h.dp.pg.ok.no⟩,h.dp.pg.us,h.dp.pg.pg,h.dp.pg.no⟩,h.dp.tb⟩,λn=>⟨λh=>h.elim,λh=>by have:=h.1;omega⟩,.inr ⟨rfl,Nat.le_refl _⟩⟩
theorem St.start (ho:Od f) (zX:(Ps.iY f 10 156 20).Ok):St nm 0 0 (Ps.iY f 10 156 20):=by
 have h1:(Ps.iY f 10 156 20).g 1=aN.putAt eu.zeros 0 (aX (dN 1 0 0)):=by show(if 1<=1/\1<=10 then CX f [] 1 else[])=_;rw[if_pos ae];obtain⟨e,he,hd⟩:=ho.fo.v1;unfold CX;rw[show tJ.get [] 1=none from rfl];unfold vw;rw[he];exact hd
 have h2:∀p,2<=p->p<=10->(Ps.iY f 10 156 20).g p=eu.zeros:=λp p1 p2=>by show(if 1<=p/\p<=10 then CX f [] p else[])=_;rw[if_pos ae];unfold CX;rw[show tJ.get [] p=none from rfl];unfold vw;rw[ho.fo.vn p p1];rfl
 have hX:DX nm 0=λ_=>[]:=funext λi=>if_neg ae;refine⟨?_,λn=>⟨λh=>h.elim,λh=>by have:=h.1;omega⟩,.inl ⟨rfl,ae⟩⟩;rw[hX];refine aca ⟨rfl,rfl,rfl,zX,λp=>⟨λh=>(by cases h),λh=>ae⟩,λj hj=>ae,λ_ _=>rfl⟩ h1 h2
theorem St.way (h:St nm c k s) (hm:m<=k) (hk:k<=17) (hw:∀i,i<k->Dir.aY ⟨(i:Int)+2,nm i⟩=0):Way s ((List.range m).map nm) (·+1):=by
 refine⟨rfl,λi hi=>?_⟩;rw[List.length_map,List.length_range] at hi;have hd:=h.dp.vV (n:=i+1) hk ae ae;have hX:DX nm k (i+1-1)=Dir.slotL ⟨(i:Int)+2,nm i⟩:=XR ae;have hf:=Dir.Gz (hw i ae);refine⟨_,_,hd,?_,?_⟩
 ·rw[hX,List.getElem_map,List.getElem_range,hf];exact Int.le_refl 0
 ·rw[hX,List.getElem_map,List.getElem_range,hf];show(i:Int)+2=((i+1+1:Nat):Int);omega
end jZ
open jZ
section
variable {B X T Z c k:Nat} {Q:Nat->Prop} {w w':World} {f:Fm} {s:Ps} {nm:Nat->List UInt8}
theorem xK (h:iQ B Q w X T Z f s) (st:St nm c k s) (ho:c=0->Od f) (hk:k<=16):
  ∃c' s0,St nm c' k s0/\¬(c'=0/\k=10)/\Calls prog 32 #[X] w (acb B Q w X T Z s0 λg=>c'=0->Od g):=by
 have hck:=st.ck;have hnd:=Y4 (c:=c) (k:=k) ae;have Am:∀n,s.dy n↔n∈dyL c k:=λn=>(st.dy n).trans (agm n).symm;have htb:=st.dp.pg.tb;have hnp:=st.dp.pg.np;have hin:=st.dp.pg.ino;by_cases e:c=0/\k=10
 ·obtain⟨rfl,rfl⟩:=e;refine⟨10,s.clean,st.clean,ae,?_⟩;refine(EX h (ho rfl) hnd Am (by rw[XT];decide) ae ae).mono ?_;rintro e w' ⟨rfl,f',hr⟩;exact⟨rfl,f',λh=>absurd h aB,hr⟩
 ·refine⟨c,s,st,e,?_⟩;refine(EY h hnd Am (by rw[XT];split<;>omega)).mono ?_;rintro e w' ⟨rfl,hb⟩;exact⟨rfl,f,ho,h.NQ (h.hP.on hb) (Kq.of hb)⟩
end
end
section
open Go.RowKit Go.Maps Go.ChangeMaps eX eu jZ

def FY (nm:Nat->List UInt8):Prop:=∀i,bV.nameB (nm i)=true/\(nm i).length<=3/\nm i≠lq
section
variable {B X T Z c k n:Nat} {Q:Nat->Prop} {w w':World} {f:Fm} {s s0:Ps} {nm:Nat->List UInt8} {xs:List (List UInt8)}
def jf (nm:Nat->List UInt8) (k:Nat):List (List UInt8):=(List.range k).map nm
theorem tH:(jf nm k).length=k:=by unfold jf;rw[List.length_map,List.length_range]
theorem LD:jf nm (k+1)=jf nm k++[nm k]:=by unfold jf;rw[List.range_succ,List.map_append];rfl
theorem LG:jf nm (k+1)=nm 0::(List.range k).map λi=>nm (i+1):=by unfold jf;rw[List.range_succ_eq_map,List.map_cons,List.map_map];rfl
theorem acd {x:List UInt8} (h:x∈jf nm k):∃i,i<k/\nm i=x:=by obtain⟨i,hi,e⟩:=List.mem_map.1 h;exact⟨i,List.mem_range.1 hi,e⟩
theorem zq (h:∀x∈xs,x.length<=5):(aT xs).length<=6*xs.length:=by
 induction xs with
 |nil=>exact Nat.zero_le _
 |cons x t ih=>
  have h1:=h x au;have h2:=ih λy hy=>h y (by simp[hy]);show(47::x++aT t).length<=_;rw[List.length_append,List.length_cons,List.length_cons];omega
theorem QE (hn:FY nm) {i:Nat} (hi:i<=60000):Dir.aY ⟨(i:Int)+2,nm i⟩=0:=
 (Dir.jB _).2 ⟨⟨by show(1:Int)<=(i:Int)+2;omega,by show(i:Int)+2<=65535;omega⟩,by show bV.kR (nm i)=0;unfold bV.kR;rw[if_pos (hn i).1]⟩
theorem qj (h:∀x∈xs,bV.nameB x=true/\x.length<=5) (h0:xs≠[]) (h16:xs.length<=16):bV.parse (aT xs)=(xs,0)/\(aT xs).length<=140737488351232/\xs.length<=100:=by have hl:=zq λx hx=>(h x hx).2;exact⟨jZ.zt (λx hx=>(h x hx).1) h0 h16 ae,ae,ae⟩
theorem GG (ys:List (List UInt8)) (y:List UInt8):(ys++[y]).dropLast=ys/\(ys++[y]).getLast?.getD []=y/\ys++[y]≠[]:=au
theorem FZ (hn:FY nm):∀x∈jf nm k,bV.nameB x=true/\x.length<=5:=λx hx=>by obtain⟨i,_,rfl⟩:=acd hx;exact⟨(hn i).1,by have:=(hn i).2.1;omega⟩
theorem abU (h:iQ B Q w X T Z f s) (st:St nm c k s) (ho:c=0->Od f) (hk:k<=15) (hn:FY nm):
  Calls prog 18 #[X,.string (aJ (aT (jf nm (k+1))))] w λe w'=>e= .returned (.int .i64 0)/\∃c' s' f',St nm c' (k+1) s'/\(c'=0->Od f')/\Ee B Q w w' X T Z f' s':=by
 obtain⟨c',s0,Y5,hc0,CG⟩:=xK h st ho ae;have hr:=FZ hn (k:=k+1);obtain⟨e1,e2,e3⟩:=GG (jf nm k) (nm k);rw[<-LD] at e1 e2 e3;obtain⟨p1,p2,p3⟩:=qj hr e3 (by rw[tH];omega);have hw:=QE hn (i:=k) ae;have hy:Way s0 (jf nm (k+1)).dropLast (·+1):=by rw[e1];exact Y5.way (Nat.le_refl _) ae λi hi=>QE hn ae
 refine(JW h CG Y5.dp hk p2 p1 e3 p3 hy (by rw[e1,tH]) e2 hw).mono ?_;rintro e w' ⟨rfl,f',ho',hr'⟩;exact⟨rfl,c',_,f',Y5.mk_ hc0 hk (Dir.ql hw),ho',hr'⟩
def xL:List UInt8:=[120]
theorem aoK:bV.nameB xL=true/\xL.length<=5:=aB
theorem QF (hn:FY nm):∀x∈jf nm k++[xL],bV.nameB x=true/\x.length<=5:=λx hx=>by
 rcases List.mem_append.1 hx with h|h
 ·exact FZ hn x h
 ·rw[List.mem_singleton.1 h];exact aoK
theorem af9 (h:iQ B Q w X T Z f s) (st:St nm c 16 s) (ho:c=0->Od f) (hn:FY nm):
  Calls prog 18 #[X,.string (aJ (aT (jf nm 16++[xL])))] w λe w'=>e= .returned (.int .i64 30)/\∃c' s' f',St nm c' 16 s'/\(c'=0->Od f')/\Ee B Q w w' X T Z f' s':=by
 obtain⟨c',s0,Y5,hc0,CG⟩:=xK h st ho ae;have hr:=QF hn (k:=16);have auJ:(jf nm 16++[xL]).length=17:=by rw[List.length_append,tH];rfl
 have hl:=zq λx hx=>(hr x hx).2;refine(CY CG h ae (jZ.Vm (λx hx=>(hr x hx).1) auJ ae)).mono ?_;rintro e w' ⟨rfl,f',ho',hr'⟩;exact⟨rfl,c',s0,f',Y5,ho',hr'⟩
theorem aga (h:iQ B Q w X T Z f s) (st:St nm c k s) (ho:c=0->Od f) (iy:1<=k) (hk:k<=15) (hn:FY nm):
  Calls prog 19 #[X,.string (aJ (aT [nm 0])),.string (aJ (aT (jf nm k++[xL])))] w λe w'=>e= .returned (.int .i64 70)/\∃c' s' f',St nm c' k s'/\(c'=0->Od f')/\Ee B Q w w' X T Z f' s':=by
 obtain⟨c',s0,Y5,hc0,CG⟩:=xK h st ho ae;have hr:=QF hn (k:=k);obtain⟨e1,e2,e3⟩:=GG (jf nm k) xL;obtain⟨p1,p2,p3⟩:=qj hr e3 (by rw[List.length_append,tH];simp only[List.length_singleton];omega);obtain⟨q1,q2,q3⟩:=qj (xs:=[nm 0]) (λx hx=>by rw[List.mem_singleton.1 hx];exact⟨(hn 0).1,by have:=(hn 0).2.1;omega⟩) au au;refine(CZ h CG q2 q1 au (na:=nm 0) au p2 p1 e3 e2 ⟨q3,p3⟩ ?_).mono ?_
 ·rw[e1];obtain⟨j,rfl⟩:∃j,k=j+1:=⟨k-1,ae⟩
  rw[LG];unfold bV.xM;refine decide_eq_true ⟨?_,?_⟩
  ·simp
  ·simp
 ·rintro e w' ⟨rfl,f',ho',hr'⟩;exact⟨rfl,c',s0,f',Y5,ho',hr'⟩
end
end
section
open Go.RowKit Go.Maps Go.ChangeMaps eX eu

section
variable {B X T Z:Nat} {Q:Nat->Prop} {w w':World} {f:Fm} {s:Ps} {xs:List (List UInt8)} {ns:Nat->Nat} {l:List UInt8}
theorem NR {fi:Nf} {Xd:List UInt8} (h:iQ B Q w X T Z f s) (hl:l.length<=140737488351232) (hp:bV.parse l=(xs,0)) (hx:xs.length<=100) (hy:Way s xs ns) (hd:jh s (ns xs.length) fi Xd):
  Calls prog 20 #[X,.string (aJ l)] w λe w'=>∃tk:Nat,e= .returned (.tuple #[.agg (stC (ns xs.length) fi tk),.int .i64 0])/\bT 32 B Q w' Z f s/\Kq Q w w':=by
 have NS:=ag (λ(W:World) (hW:iQ B Q W X T Z f s)=>EZ hW hl hp hx hy hd);have oP:=ag (λ(W:World) (hW:iQ B Q W X T Z f s)=>JY (no:=ns xs.length) hW hd.wf);obtain⟨no,hno⟩:=bu (ns xs.length);rw[<-hno] at NS oP⊢;have qY:=ag (aF.new w 53 #[.int .i64 0,.int .i64 0,.int .i64 0,.int .i64 0,.int .i64 0]);have fF:=(Below.refl w.heap.size w).alloc (Nat.le_refl _) (.cells #[.int .i64 0,.int .i64 0,.int .i64 0,.int .i64 0,.int .i64 0] 53);have GH:=ag (h.on fF);have iC:=ag fF;have C9:=ag (h.hP.aV (Nat.le_refl w.heap.size));clear h hl hp hx hy hd fF hno
 go_in
 go_wp2_with fail;obtain⟨Rp,NT⟩:=bu w.heap.size;rw[<-NT] at qY C9⊢;have HRg:=ag (show w.heap.size<=Rp from ae);clear NT;generalize w.alloc (.cells #[.int .i64 0,.int .i64 0,.int .i64 0,.int .i64 0,.int .i64 0] 53)=w0 at*;refine(mX GH.o).mono ?_;rintro e w_ ⟨rfl,rfl⟩;go_wp2_with fail;refine(NS.o w0 GH.o).mono ?_;rintro e w3 ⟨rfl,oq,jY⟩;have QG:=ag (GH.o.ask oq jY);have rC:=ag (qY.o.kq jY C9.o);have jU:=ag (show Kq Q w w3 from(Kq.of iC.o).trans jY);clear oq jY;have qZ:=ag (aF.new w3 107 #[.int .i64 0,.int .i64 0,.int .i64 0,.int .i64 0,.int .i64 0,.int .i64 0,.int .i64 0,.int .i64 0,.int .i64 0,.int .i64 0,.int .i64 0]);obtain⟨w4,yz⟩:=bu ((w3.alloc (.cells #[.int .i64 0,.int .i64 0,.int .i64 0,.int .i64 0,.int .i64 0,.int .i64 0,.int .i64 0,.int .i64 0,.int .i64 0,.int .i64 0,.int .i64 0] 107)).setRow w3.heap.size (dG fi));have di:Below w3.heap.size w3 w4:=by rw[yz];exact((Below.refl _ w3).alloc (Nat.le_refl _) _).cO (Nat.le_refl _) _
 have hi4:aF w4 w3.heap.size 107 (dG fi):=by rw[yz];exact qZ.o.row _
 have UW:=ag yz;have HH4:=ag (QG.o.on di);have UX:=ag (rC.o.ah di);have mY:=ag (jU.o.on di);obtain⟨y0,y1,y2,y3,y4,y5,y6,y7,y8,y9,zu⟩:=fG hi4;clear yz di hi4 QG rC jU;unfold dG at UW
 go_wp2_with (refine aC rfl rfl _ _ _ rfl w3.heap.size #[.int .i64 fi.k,.int .i64 fi.l,.int .i64 fi.s,.int .i64 (nd fi 0),.int .i64 (nd fi 1),.int .i64 (nd fi 2),.int .i64 (nd fi 3),.int .i64 (nd fi 4),.int .i64 (nd fi 5),.int .i64 (fi.io.s:Int),.int .i64 (fi.io.b:Int)] rfl rfl 107 #[.int .i64 0,.int .i64 0,.int .i64 0,.int .i64 0,.int .i64 0,.int .i64 0,.int .i64 0,.int .i64 0,.int .i64 0,.int .i64 0,.int .i64 0] qZ.o rfl dD (qm fi) ?_;rw[<-UW.o])
 refine(oP.o w4 HH4.o).mono ?_;rintro e w5 ⟨tk,rfl,Ef,zY⟩;have HH5:=ag (HH4.o.ask Ef zY);have HR5:=ag (UX.o.kq zY C9.o);have zx:=ag (mY.o.trans zY);clear Ef zY;obtain⟨w6,xJ⟩:=bu (w5.setRow Rp (stC no fi tk));have lI:Kq (λq=>q=Rp) w5 w6:=by rw[xJ];exact eU _ _ _
 have QH:=ag (show aF w6 Rp 53 (stC no fi tk) from by rw[xJ];exact HR5.o.row _);have Y6:=ag (HH5.o.hP.kq lI λq hq e=>C9.o (e▸hq));have uu:=ag (zx.o.ay lI λq hq=> .inr (by rw[hq];exact HRg.o));have HW6:=ag xJ;clear xJ lI
 go_wp2_with (refine aC rfl rfl _ _ _ rfl Rp (stC no fi tk) rfl rfl 53 #[.int .i64 0,.int .i64 0,.int .i64 0,.int .i64 0,.int .i64 0] HR5.o rfl ni (aiS no fi tk) ?_;rw[<-HW6.o])
 refine bodyPost_ret (GI rfl _ _ Rp _ _ _ _ rfl QH.o Tryz.underlying53 rfl ni _ rfl) rfl ?_;exact⟨tk,rfl,Y6.o,uu.o⟩
theorem Ap {fi:Nf} {Xd:List UInt8} (h:iQ B Q w X T Z f s) (hl:l.length<=140737488351232) (hp:bV.parse l=(xs,0)) (hx:xs.length<=100) (h0:0<xs.length) (hd:jh s 1 fi Xd) (hf:(Dir.bY Xd xs[0]).1<0):
  Calls prog 55 #[X,.string (aJ l)] w λe w'=>e= .returned (.tuple #[.int .i64 0,.agg #[.int .i64 0,.int .i64 0,.int .i64 0,.int .i64 0,.int .i64 0,.int .i64 0,.int .i64 0,.int .i64 0,.int .i64 0,.int .i64 0,.int .i64 0],.int .i64 60])/\bT 32 B Q w' Z f s/\Kq Q w w':=by
 have QI:=vW l (w.alloc (.cells #[.int .i64 0,.int .i64 0,.int .i64 0,.int .i64 0,.int .i64 0,.int .i64 0,.int .i64 0,.int .i64 0,.int .i64 0,.int .i64 0,.int .i64 0] 107)) hl;unfold GK at QI;rw[hp] at QI;have XU:=ag QI;have qY:=ag (aF.new w 107 #[.int .i64 0,.int .i64 0,.int .i64 0,.int .i64 0,.int .i64 0,.int .i64 0,.int .i64 0,.int .i64 0,.int .i64 0,.int .i64 0,.int .i64 0]);have fF:=(Below.refl w.heap.size w).alloc (Nat.le_refl _) (.cells #[.int .i64 0,.int .i64 0,.int .i64 0,.int .i64 0,.int .i64 0,.int .i64 0,.int .i64 0,.int .i64 0,.int .i64 0,.int .i64 0,.int .i64 0] 107);have GH:=ag (h.on fF);have iC:=ag fF;have C9:=ag (h.hP.aV (Nat.le_refl w.heap.size));have HW:=ag (λ(W:World) (hW:iQ B Q W X T Z f s) (a:Option Addr) (c:Nat) (xN:jg jV W W.heap.size a xs.length xs)=>E5 (c:=c) hW.hP hW.hT hW.nT h0 hd hf xN);have HX:=ag hx;clear h hl hp hx hd hf QI fF h0
 go_in
 go_wp2_with fail;obtain⟨Rp,NT⟩:=bu w.heap.size;rw[<-NT] at qY C9⊢;have NS:=ag (show w.heap.size<=Rp from ae);clear NT;generalize w.alloc (.cells #[.int .i64 0,.int .i64 0,.int .i64 0,.int .i64 0,.int .i64 0,.int .i64 0,.int .i64 0,.int .i64 0,.int .i64 0,.int .i64 0,.int .i64 0] 107)=w0 at*;refine XU.o.mono ?_;rintro e w1 ⟨⟨v,rfl,ho⟩,bK⟩;obtain⟨a,c,rfl,hc⟩:=ho.form;have HO:=ag (ho.arr (by have:=HX.o;omega));have uZ:=ag (GH.o.on bK);have yA:=ag (qY.o.ah bK);have mF:=ag (show Kq Q w w1 from Kq.of (iC.o.ay bK));have c1:=uZ.o.c1;clear ho bK XU;go_wp2_with fail;refine(HW.o w1 uZ.o a c HO.o).mono ?_;rintro e w2 ⟨rfl,iU,fA⟩;have JB:=ag (uZ.o.ask iU fA);have oQ:=ag (yA.o.kq fA C9.o);have rD:=ag (mF.o.trans fA);clear iU fA;obtain⟨w6,xJ⟩:=bu (w2.setRow Rp #[.int .i64 0,.int .i64 0,.int .i64 0,.int .i64 0,.int .i64 0,.int .i64 0,.int .i64 0,.int .i64 0,.int .i64 0,.int .i64 0,.int .i64 0]);have lI:Kq (λq=>q=Rp) w2 w6:=by rw[xJ];exact eU _ _ _
 have QH:=ag (show aF w6 Rp 107 #[.int .i64 0,.int .i64 0,.int .i64 0,.int .i64 0,.int .i64 0,.int .i64 0,.int .i64 0,.int .i64 0,.int .i64 0,.int .i64 0,.int .i64 0] from by rw[xJ];exact oQ.o.row _);have Y6:=ag (JB.o.hP.kq lI λq hq e=>C9.o (e▸hq));have uu:=ag (rD.o.ay lI λq hq=> .inr (by rw[hq];exact NS.o));have HW6:=ag xJ;clear xJ lI
 go_wp2_with (refine aC rfl rfl _ _ _ rfl Rp #[.int .i64 0,.int .i64 0,.int .i64 0,.int .i64 0,.int .i64 0,.int .i64 0,.int .i64 0,.int .i64 0,.int .i64 0,.int .i64 0,.int .i64 0] rfl rfl 107 #[.int .i64 0,.int .i64 0,.int .i64 0,.int .i64 0,.int .i64 0,.int .i64 0,.int .i64 0,.int .i64 0,.int .i64 0,.int .i64 0,.int .i64 0] oQ.o rfl dD (by simp[Value.oneCell']) ?_;rw[<-HW6.o])
 refine bodyPost_ret (vX rfl _ _ Rp _ _ _ _ rfl QH.o Tryz.underlying107 rfl dD _ _ rfl rfl) rfl ?_;exact⟨rfl,Y6.o,uu.o⟩
theorem GL {fi:Nf} {Xd:List UInt8} (h:iQ B Q w X T Z f s) (hl:l.length<=140737488351232) (hp:bV.parse l=(xs,0)) (hx:xs.length<=100) (h0:0<xs.length) (hd:jh s 1 fi Xd) (hf:(Dir.bY Xd xs[0]).1<0):
  Calls prog 20 #[X,.string (aJ l)] w λe w'=>e= .returned (.tuple #[.agg #[.int .i64 0,.int .i64 0,.int .i64 0,.int .i64 0,.int .i64 0],.int .i64 60])/\bT 32 B Q w' Z f s/\Kq Q w w':=by
 have NS:=ag (λ(W:World) (hW:iQ B Q W X T Z f s)=>Ap hW hl hp hx h0 hd hf);have qY:=ag (aF.new w 53 #[.int .i64 0,.int .i64 0,.int .i64 0,.int .i64 0,.int .i64 0]);have fF:=(Below.refl w.heap.size w).alloc (Nat.le_refl _) (.cells #[.int .i64 0,.int .i64 0,.int .i64 0,.int .i64 0,.int .i64 0] 53);have GH:=ag (h.on fF);have iC:=ag fF;have C9:=ag (h.hP.aV (Nat.le_refl w.heap.size));clear h hl hp hx hd fF h0 hf
 go_in
 go_wp2_with fail;obtain⟨Rp,NT⟩:=bu w.heap.size;rw[<-NT] at qY C9⊢;have HRg:=ag (show w.heap.size<=Rp from ae);clear NT;generalize w.alloc (.cells #[.int .i64 0,.int .i64 0,.int .i64 0,.int .i64 0,.int .i64 0] 53)=w0 at*;refine(mX GH.o).mono ?_;rintro e w_ ⟨rfl,rfl⟩;go_wp2_with fail;refine(NS.o w0 GH.o).mono ?_;rintro e w3 ⟨rfl,oq,jY⟩;have QG:=ag (GH.o.ask oq jY);have rC:=ag (qY.o.kq jY C9.o);have jU:=ag (show Kq Q w w3 from(Kq.of iC.o).trans jY);clear oq jY;have qZ:=ag (aF.new w3 107 #[.int .i64 0,.int .i64 0,.int .i64 0,.int .i64 0,.int .i64 0,.int .i64 0,.int .i64 0,.int .i64 0,.int .i64 0,.int .i64 0,.int .i64 0]);obtain⟨w4,yz⟩:=bu ((w3.alloc (.cells #[.int .i64 0,.int .i64 0,.int .i64 0,.int .i64 0,.int .i64 0,.int .i64 0,.int .i64 0,.int .i64 0,.int .i64 0,.int .i64 0,.int .i64 0] 107)).setRow w3.heap.size #[.int .i64 0,.int .i64 0,.int .i64 0,.int .i64 0,.int .i64 0,.int .i64 0,.int .i64 0,.int .i64 0,.int .i64 0,.int .i64 0,.int .i64 0]);have di:Below w3.heap.size w3 w4:=by rw[yz];exact((Below.refl _ w3).alloc (Nat.le_refl _) _).cO (Nat.le_refl _) _
 have UW:=ag yz;have HH4:=ag (QG.o.on di);have UX:=ag (rC.o.ah di);have mY:=ag (jU.o.on di);clear yz di QG rC jU
 go_upto_region 6 with(refine aC rfl rfl _ _ _ rfl w3.heap.size #[.int .i64 0,.int .i64 0,.int .i64 0,.int .i64 0,.int .i64 0,.int .i64 0,.int .i64 0,.int .i64 0,.int .i64 0,.int .i64 0,.int .i64 0] rfl rfl 107 #[.int .i64 0,.int .i64 0,.int .i64 0,.int .i64 0,.int .i64 0,.int .i64 0,.int .i64 0,.int .i64 0,.int .i64 0,.int .i64 0,.int .i64 0] qZ.o rfl dD (by simp[Value.oneCell']) ?_;rw[<-UW.o])
 obtain⟨w6,xJ⟩:=bu (w4.setRow Rp #[.int .i64 0,.int .i64 0,.int .i64 0,.int .i64 0,.int .i64 0]);have lI:Kq (λq=>q=Rp) w4 w6:=by rw[xJ];exact eU _ _ _
 have QH:=ag (show aF w6 Rp 53 #[.int .i64 0,.int .i64 0,.int .i64 0,.int .i64 0,.int .i64 0] from by rw[xJ];exact UX.o.row _);have Y6:=ag (HH4.o.hP.kq lI λq hq e=>C9.o (e▸hq));have uu:=ag (mY.o.ay lI λq hq=> .inr (by rw[hq];exact HRg.o));have HW6:=ag xJ;clear xJ lI
 go_wp2_with (refine aC rfl rfl _ _ _ rfl Rp #[.int .i64 0,.int .i64 0,.int .i64 0,.int .i64 0,.int .i64 0] rfl rfl 53 #[.int .i64 0,.int .i64 0,.int .i64 0,.int .i64 0,.int .i64 0] UX.o rfl ni (by simp[Value.oneCell']) ?_;rw[<-HW6.o])
 refine bodyPost_ret (GI rfl _ _ Rp _ _ _ _ rfl QH.o Tryz.underlying53 rfl ni _ rfl) rfl ?_;exact⟨rfl,Y6.o,uu.o⟩
end
end
section
open Go.RowKit Go.Maps Go.ChangeMaps eX eu jZ

section
variable {B X T Z c k n:Nat} {Q:Nat->Prop} {w w':World} {f:Fm} {s s0:Ps} {nm:Nat->List UInt8} {xs:List (List UInt8)}
theorem agn (st:St nm c k s0) (hk:k<=16) (hn:FY nm) (d:Nat):∀j,d+j=k+1->1<=j->∀(g:Fm) (W:World) (U:Nat->Prop),iQ B U W X T Z g s0->
  Calls prog 51 #[X,.int .i64 j] W λe w'=>e= .returned (.int .i64 d)/\bT 32 B U w' Z g s0/\Kq U W w':=by
 induction d with
 |zero=>
  intro j hj h1 g W U hW;have hd:=st.dp.vV (n:=j) ae h1 ae;have hX:DX nm k (j-1)=[]:=if_neg ae;rw[hX] at hd;exact tK hW hd (λ_=>0) λx hx=>(by cases hx)
 |succ d ih=>
  intro j hj h1 g W U hW;have hd:=st.dp.vV (n:=j) ae h1 ae;have hX:DX nm k (j-1)=Dir.slotL ⟨((j-1:Nat):Int)+2,nm (j-1)⟩:=XR ae;have CJ:=Dir.ace (QE hn (i:=j-1) ae);have h:=tK hW hd (λ_=>d) λx hx=>by rw[hX,CJ,List.mem_singleton] at hx;refine⟨ae,λW2 hW2=>?_⟩;have h:=ih (j+1) ae ae g W2 U hW2;rw[hx,show((j-1:Nat):Int)+2=((j+1:Nat):Int) from ae];exact h
  rw[hX,CJ] at h;rw[show jZ.mx (λ_=>d) [(0,(⟨((j-1:Nat):Int)+2,nm (j-1)⟩:ny))]=d+1 from by show max 0 (1+d)=d+1;omega] at h;exact h
def X1 (nm:Nat->List UInt8):List UInt8:=Dir.slotL ⟨2,nm 0⟩
def X2 (nm:Nat->List UInt8):List UInt8:=X1 nm++Dir.slotL ⟨2,lq⟩
def X3:List UInt8:=Dir.zeros++Dir.slotL ⟨2,lq⟩
theorem JZ (hn:FY nm):Dir.aY ⟨2,nm 0⟩=0:=QE hn (i:=0) ae
theorem NU (hn:FY nm):(X1 nm).length=16:=Dir.ql (JZ hn)
theorem vY (hn:FY nm):(X2 nm).length=32:=by unfold X2;rw[List.length_append,NU hn,Dir.ql jI]
theorem GM:X3.length=32:=by unfold X3;rw[List.length_append,Dir.dR,Dir.ql jI]
theorem X12 (hn:FY nm):(pad (X1 nm)).take (16*1)++Dir.slotL ⟨2,lq⟩++(pad (X1 nm)).drop (16*1+16)=pad (X2 nm):=by have h1:=NU hn;unfold pad;rw[vY hn,h1,List.take_left' h1,List.drop_append,h1,List.drop_of_length_le ae,List.nil_append,List.drop_replicate];unfold X2;rw[List.append_assoc]
theorem X23 (hn:FY nm):(pad (X2 nm)).take (16*0)++Dir.zeros++(pad (X2 nm)).drop (16*0+16)=pad X3:=by have h1:=NU hn;unfold pad;rw[vY hn,GM];unfold X2 X3;rw[Nat.mul_zero,List.take_zero,List.nil_append,Nat.zero_add,List.append_assoc,List.drop_left' h1,List.append_assoc]
structure Mv (nm:Nat->List UInt8) (k:Nat) (s:Ps):Prop where
 pg:Pg k (JV (DX nm k) 0 X3) s
 tb:Tb s (JC (rX k (DX nm k)) 1 (aX (dN 1 32 11)))
theorem acf (p:Pg k (DX nm k) s) (t:Tb s (rX k (DX nm k))) (iy:1<=k) {x:List UInt8} (hx:x.length=32):
  Pg k (JV (DX nm k) 0 x) (dX (s.put 11 (pad x)) 1 (aX (dN 1 32 11)))/\Tb (dX (s.put 11 (pad x)) 1 (aX (dN 1 32 11))) (JC (rX k (DX nm k)) 1 (aX (dN 1 32 11))):=by
 have p1:=p.old (j:=0) (x:=x) ae ae;have t1:=t.far (s':=s.put 11 (pad x)) λq hq=>eY ae;exact⟨p1.dX ae ae _,t1.dX p1 ae ae (vZ (l:=1) (z:=32) (p:=11) ae ae ae)⟩
theorem Vo {x y:List UInt8} (p:Pg k (JV (DX nm k) 0 y) s) (t:Tb s (JC (rX k (DX nm k)) 1 (aX (dN 1 32 11)))) (iy:1<=k) (hx:x.length=32):
  Pg k (JV (DX nm k) 0 x) (dX (s.put 11 (pad x)) 1 (aX (dN 1 32 11)))/\Tb (dX (s.put 11 (pad x)) 1 (aX (dN 1 32 11))) (JC (rX k (DX nm k)) 1 (aX (dN 1 32 11))):=by
 have p1:=p.old (j:=0) (x:=x) ae ae;have t1:=t.far (s':=s.put 11 (pad x)) λq hq=>eY ae;have ex:JV (JV (DX nm k) 0 y) 0 x=JV (DX nm k) 0 x:=funext λi=>by unfold JV;split<;>rfl
 have ei:JC (JC (rX k (DX nm k)) 1 (aX (dN 1 32 11))) 1 (aX (dN 1 32 11))=JC (rX k (DX nm k)) 1 (aX (dN 1 32 11)):=funext λi=>by unfold JC;split<;>rfl
 rw[ex] at p1;have t2:=t1.dX p1 (n:=1) ae ae (vZ (l:=1) (z:=32) (p:=11) ae ae ae);rw[ei] at t2;exact⟨p1.dX ae ae _,t2⟩
theorem GN {x:List UInt8} (p:Pg k (JV (DX nm k) 0 x) s) (t:Tb s (JC (rX k (DX nm k)) 1 (aX (dN 1 32 11)))) (iy:1<=k) (hx:x.length=32):jh s 1 (dN 1 32 11) x:=by have h:=jZ.vV (n:=1) (l:=1) (p:=11) p t ae ae (by unfold JC;rw[if_pos rfl];show _=aX (dN 1 x.length 11);rw[hx]) (by rw[if_pos iy]);have e:JV (DX nm k) 0 x (1-1)=x:=rfl;rw[e,hx] at h;exact h
theorem agb (h:iQ B Q w X T Z f s) (st:St nm c k s) (ho:c=0->Od f) (iy:1<=k) (hk:k<=16) (hn:FY nm):
  Calls prog 19 #[X,.string (aJ (aT [nm 0])),.string (aJ (aT [lq]))] w λe w'=>e= .returned (.int .i64 0)/\∃s' f',Mv nm k s'/\Ee B Q w w' X T Z f' s':=by
 obtain⟨c',s0,Y5,hc0,CG⟩:=xK h st ho hk;have p0:=Y5.dp.pg;have t0:=Y5.dp.tb;have hX0:DX nm k 0=X1 nm:=XR ae;have d1:jh s0 1 (dN 1 16 11) (X1 nm):=by have h:=Y5.dp.vV (n:=1) ae ae ae;rw[show DX nm k (1-1)=X1 nm from hX0,NU hn,if_pos iy] at h;exact h
 have d2:∃l z p,jh s0 2 (dN l z p) (DX nm k (2-1)):=⟨_,_,_,Y5.dp.vV (n:=2) ae ae ae⟩
 obtain⟨l2,z2,q2,d2⟩:=d2;have auK:s0.g 11=pad (X1 nm):=by rw[<-hX0];exact(p0.pg 0 ae).2
 have g1:=QJ (p:=11) (k:=1) (z:=16) (l:=1) (sl:=Dir.slotL ⟨2,lq⟩) ((p0.us 11).2 ae) (Dir.ql jI) ae ae ae p0.ok (by rw[p0.tb,p0.np];omega) (by rw[p0.len,p0.np];omega) ae;rw[auK,X12 hn] at g1;obtain⟨p1,t1⟩:=acf p0 t0 iy (vY hn);obtain⟨s1,iO⟩:=bu (dX (s0.put 11 (pad (X2 nm))) 1 (aX (dN 1 32 11)));rw[<-iO] at p1 t1;have dd2:=GN p1 t1 iy (vY hn);have auL:s1.g 11=pad (X2 nm):=(p1.pg 0 ae).2;have g2:=QJ (p:=11) (k:=0) (z:=32) (l:=1) (sl:=Dir.zeros) ((p1.us 11).2 ae) Dir.dR ae ae ae p1.ok (by rw[p1.tb,p1.np];omega) (by rw[p1.len,p1.np];omega) ae;rw[auL,X23 hn] at g2;obtain⟨p2,t2⟩:=Vo p1 t1 iy GM;have yK:=t2 1 ae ae;have hrt:dX (dX (s1.put 11 (pad X3)) 1 (aX (dN 1 32 11))) 1 (aX (dN 1 32 11))=dX (dX (s1.put 11 (pad X3)) 1 (aX (dN 1 32 11))) 1 (aX (dN 1 32 11)):=rfl;have p3:=p2.dX (n:=1) ae ae (aX (dN 1 32 11));have t3:=t2.dX p2 (n:=1) ae ae (vZ (l:=1) (z:=32) (p:=11) ae ae ae);have ei:JC (JC (rX k (DX nm k)) 1 (aX (dN 1 32 11))) 1 (aX (dN 1 32 11))=JC (rX k (DX nm k)) 1 (aX (dN 1 32 11)):=funext λi=>by unfold JC;split<;>rfl
 rw[ei] at t3;have dh:lq≠nm 0:=λe=>(hn 0).2.2 e.symm;obtain⟨a1,a2,a3⟩:=qj (xs:=[nm 0]) (λx hx=>by rw[List.mem_singleton.1 hx];exact⟨(hn 0).1,by have:=(hn 0).2.1;omega⟩) au au;obtain⟨b1,b2,b3⟩:=qj (xs:=[lq]) (λx hx=>by rw[List.mem_singleton.1 hx];decide) au au;refine(GR (fi:=dN l2 z2 q2) (m:=k-1) (s1:=s1) (s2:=dX (dX (s1.put 11 (pad X3)) 1 (aX (dN 1 32 11))) 1 (aX (dN 1 32 11))) (na:=nm 0) (nb:=lq) h CG a2 a1 au au b2 b1 au au ⟨a3,b3⟩ ?hin (by show 0+1+(k-1)<=16;omega) ?hNa ?hPb ?hFb ?hDe ?hAd ?hRm).mono ?_
 case hin=>unfold bV.xM;exact decide_eq_false λh=>absurd h.1 au
 case hNa=>intro g W U hW;have hf:=Dir.Gz (JZ hn);exact J3 (n0:=1) (no:=2) (ns:=(·+1)) hW a2 a1 au a3 ⟨rfl,λi hi=>by simp at hi⟩ rfl au d1 (by rw[show X1 nm=Dir.slotL ⟨2,nm 0⟩ from rfl,hf];exact Int.le_refl 0) (by rw[show X1 nm=Dir.slotL ⟨2,nm 0⟩ from rfl,hf];rfl) d2
 case hPb=>intro g W U hW;exact qo (ns:=(·+1)) hW b2 b1 au b3 ⟨rfl,λi hi=>by simp at hi⟩
 case hFb=>intro g W U hW;exact ou (n:=1) hW.hP hW.hT hW.nT d1 lq (by rw[show X1 nm=Dir.slotL ⟨2,nm 0⟩ from rfl,Dir.GU (JZ hn) dh];decide)
 case hDe=>intro g W U hW;exact agn Y5 hk hn (k-1) 2 ae ae g W U hW
 case hAd=>intro g W U hW;rw[iO];exact Aq (n:=1) (XV:=2) (r:=1) hW.hP hW.hT hW.nT d1 lq ae (by rw[p0.ino];omega) (Dir.QK (JZ hn) jI dh) (λr' hr=>Dir.acg (JZ hn) hr) ae g1
 case hRm=>
  intro g W U hW;refine E8 (n:=1) (k:=0) hW.hP hW.hT hW.nT dd2 (nm 0) (Dir.xO (JZ hn) jI dh) ae (by rw[vY hn];omega) ?_ ?_ g2 (by rw[vY hn];rfl) yK (wf1 (.inr ((p2.us 11).2 ae))) λx hx=>?_
  ·rw[show X2 nm=Dir.slotL ⟨2,nm 0⟩++Dir.slotL ⟨2,lq⟩ from rfl,Dir.Dc (JZ hn) jI dh];rfl
  ·rw[vY hn,show X2 nm=Dir.slotL ⟨2,nm 0⟩++Dir.slotL ⟨2,lq⟩ from rfl,Dir.wo (JZ hn) jI dh];exact GM
  ·rw[vY hn];have h2:x∈fJ (aN.yl (dX (s1.put 11 (pad X3)) 1 (aX (dN 1 32 11))).g (vS 11)):=hx;rw[ach,if_neg ae,List.mem_singleton] at h2;rw[h2];decide
 ·rintro e w' ⟨rfl,f',_,hr'⟩;exact⟨rfl,_,f',⟨p3,t3⟩,hr'⟩
end
end
section
open Go.RowKit Go.Maps Go.ChangeMaps eX eu jZ

section
variable {B X T Z c k n:Nat} {Q:Nat->Prop} {w w':World} {f:Fm} {s s0:Ps} {nm:Nat->List UInt8} {xs:List (List UInt8)}
def CW (nm:Nat->List UInt8) (j:Nat):List (List UInt8):=(List.range j).map λi=>nm (i+1)
theorem Ar {j:Nat}:(CW nm j).length=j:=by unfold CW;rw[List.length_map,List.length_range]
theorem aci (hn:FY nm) {j:Nat}:∀x∈lq::CW nm j,bV.nameB x=true/\x.length<=5:=λx hx=>by
 rcases List.mem_cons.1 hx with h|h
 ·rw[h];decide
 ·obtain⟨i,_,rfl⟩:=List.mem_map.1 h;exact⟨(hn _).1,by have:=(hn (i+1)).2.1;omega⟩
theorem Mv.dir (mv:Mv nm k s) (hk:k<=16) {i:Nat} (h1:1<=i) (h2:i<=k):jh s (i+1) (dN 1 (DX nm k i).length (if i+1<=k then 10+(i+1) else 0)) (DX nm k i):=by have e:JV (DX nm k) 0 X3 (i+1-1)=DX nm k i:=if_neg ae;have h:=jZ.vV (n:=i+1) (l:=1) (p:=if i+1<=k then 10+(i+1) else 0) mv.pg mv.tb ae ae (by unfold JC;rw[if_neg ae,e];unfold rX;rw[if_pos ae];rfl) rfl;rw[e] at h;exact h
theorem akf (mv:Mv nm (n+1) s) (hk:n+1<=16) (hn:FY nm):Way s (lq::CW nm n) (·+1):=by
 refine⟨rfl,λi hi=>?_⟩;rw[List.length_cons,Ar] at hi;have dh:lq≠nm 0:=λe=>(hn 0).2.2 e.symm
 cases i with
 |zero=>
  have hd:=GN mv.pg mv.tb ae GM;have hf:=Dir.Y7 (JZ hn) jI dh;refine⟨_,_,hd,?_,?_⟩
  ·show 0<=(Dir.bY X3 lq).1;rw[show X3=Dir.zeros++Dir.slotL ⟨2,lq⟩ from rfl,hf];decide
  ·show(Dir.bY X3 lq).2=_;rw[show X3=Dir.zeros++Dir.slotL ⟨2,lq⟩ from rfl,hf];rfl
 |succ i=>
  have hd:=mv.dir hk (i:=i+1) ae ae;have hX:DX nm (n+1) (i+1)=Dir.slotL ⟨((i+1:Nat):Int)+2,nm (i+1)⟩:=XR ae;have hf:=Dir.Gz (QE hn (i:=i+1) ae);have hx:(lq::CW nm n)[i+1]'(by rw[List.length_cons,Ar];omega)=nm (i+1):=by rw[List.getElem_cons_succ];unfold CW;rw[List.getElem_map,List.getElem_range]
  refine⟨_,_,hd,?_,?_⟩
  ·rw[hx,hX,hf];exact Int.le_refl 0
  ·rw[hx,hX,hf];show((i+1:Nat):Int)+2=((i+1+1+1:Nat):Int);omega
theorem abY (h:iQ B Q w X T Z f s) (mv:Mv nm (n+1) s) (hk:n+1<=16) (hn:FY nm):
  Calls prog 20 #[X,.string (aJ (aT (lq::CW nm n)))] w λe w'=>∃x0 x2 x3 x4:Int,e= .returned (.tuple #[.agg #[.int .i64 x0,.int .i64 2,.int .i64 x2,.int .i64 x3,.int .i64 x4],.int .i64 0])/\iQ B Q w' X T Z f s/\Kq Q w w':=by
 obtain⟨a1,a2,a3⟩:=qj (aci hn (j:=n)) au (by rw[List.length_cons,Ar];omega);have hd:=mv.dir hk (i:=n+1) ae ae;have hl:(lq::CW nm n).length=n+1:=by rw[List.length_cons,Ar]
 refine(NR (ns:=(·+1)) h a2 a1 a3 (akf mv hk hn) (by rw[hl];exact hd)).mono ?_;rintro e w' ⟨tk,rfl,hp,fA⟩;exact⟨_,_,_,_,rfl,h.ask hp fA,fA⟩
theorem ab2 (h:iQ B Q w X T Z f s) (mv:Mv nm (n+1) s) (hk:n+1<=16) (hn:FY nm):
  Calls prog 20 #[X,.string (aJ (aT (jf nm (n+1))))] w λe w'=>e= .returned (.tuple #[.agg #[.int .i64 0,.int .i64 0,.int .i64 0,.int .i64 0,.int .i64 0],.int .i64 60])/\iQ B Q w' X T Z f s/\Kq Q w w':=by
 have dh:lq≠nm 0:=λe=>(hn 0).2.2 e.symm;have hlen:(jf nm (n+1)).length=n+1:=tH;obtain⟨a1,a2,a3⟩:=qj (FZ hn (k:=n+1)) (by intro e;rw[e] at hlen;cases hlen) ae;have hd:=GN mv.pg mv.tb ae GM;refine(GL h a2 a1 a3 ae hd ?_).mono ?_
 ·have hx:(jf nm (n+1))[0]'ae=nm 0:=by unfold jf;rw[List.getElem_map,List.getElem_range]
  rw[hx,show X3=Dir.zeros++Dir.slotL ⟨2,lq⟩ from rfl,Dir.Y8 (JZ hn) jI dh];decide
 ·rintro e w' ⟨rfl,hp,fA⟩;exact⟨rfl,h.ask hp fA,fA⟩
end
end
end Go.Proofs.YtnieckfelfoopaaGreat

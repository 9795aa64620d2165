import Derived.Test.YtnieckfelfoopaaGreatChMem
import Derived.WalkMore
import Derived.Deep.DeepCutAuto
import Derived.Test.YtnieckfelfoopaaGreatDirWrite
import Derived.Test.YtnieckfelfoopaaGreatTagWrite
open Go.Proofs.Tryz (prog)
namespace Go.Proofs.YtnieckfelfoopaaGreat
open Lib (hid)
set_option maxRecDepth 100000
set_option maxHeartbeats 16000000
section
open Go.RowKit

theorem Tz (base N0 C BL P K nx:Nat) (x:Cn) (ls:Nat->Option (List UInt8)) (fs:List Fl) (w:World) (h:mM base N0 w C BL P K x nx ls fs):
  Calls prog 88 #[C,.int .i64 K] w λe w'=>e= .returned (.bool true)/\w=w':=by
 have c3:=h.c3;have g1:(0:Int)<=(K:Int):=ae;have g2:decide ((K:Int)<16)=true:=decide_eq_true (by have:=h.hK;omega);have g3:(K:Int)<16:=by have:=h.hK;omega
 clear h
 go_in
 go_wp2;go_ret;exact⟨rfl,rfl⟩
theorem WT (base N0 C BL P K nx:Nat) (x:Cn) (ls:Nat->Option (List UInt8)) (fs:List Fl) (w:World) (h:mM base N0 w C BL P K x nx ls fs):
  Calls prog 70 #[C] w λe w'=>e= .returned (.int .i64 96)/\w=w':=by
 have c2:=h.c2;clear h
 go_in
 go_wp2;go_ret;exact⟨rfl,rfl⟩
theorem TA (base N0 C BL P K nx i:Nat) (x:Cn) (ls:Nat->Option (List UInt8)) (fs:List Fl) (w:World) (h:mM base N0 w C BL P K x nx ls fs) (hd:x.dn=false) (hi:i<8):
  Calls prog 69 #[C,.int .i64 K,.int .i64 i] w λe w'=>e= .returned (.int .i64 0)/\w=w':=by
 have c1:=h.c1;have c6:=h.c6;rw[hd] at c6;have HT:=ag (Tz base N0 C BL P K nx x ls fs w h);have g1:decide ((i:Int)<0)=false:=decide_eq_false ae;have g2:(i:Int)<8:=ae;clear h hd
 go_in
 go_wp2_with fail;refine(HT.o).mono ?_;rintro e w_ ⟨rfl,rfl⟩;go_wp2;go_ret;exact⟨rfl,rfl⟩
end
section
open Go.RowKit

def fnd (fs:List Fl) (k:Nat):Fl:=(fs.find? λf=>f.no==(k:Int)).getD ⟨0,0,[]⟩
theorem al3 {fs:List Fl} {k:Nat} {rows:List Fv} (hl:rows.length=fs.length) (h3:∀i (h1:i<rows.length) (h2:i<fs.length),rows[i].no=fs[i].no) (h:∀j (h:j<rows.length),rows[j].no≠(k:Int)):fnd fs k=⟨0,0,[]⟩:=by
 unfold fnd;rw[List.find?_eq_none.2]
 ·rfl
 ·intro f hf;obtain⟨i,hi,rfl⟩:=List.getElem_of_mem hf;rw[<-h3 i ae hi]
  simpa using h i ae
theorem ah0 {fs:List Fl} {k q:Nat} {rows:List Fv} (hq:q<rows.length) (hl:rows.length=fs.length) (h3:∀i (h1:i<rows.length) (h2:i<fs.length),rows[i].no=fs[i].no) (h:∀j (h:j<rows.length),j<q->rows[j].no≠(k:Int)) (he:rows[q].no=(k:Int)):fnd fs k=fs[q]'ae:=by unfold fnd;rw[List.find?_eq_some_iff_getElem.2 ⟨by rw[<-h3 q hq ae,he];simp,q,ae,rfl,λj hj=>by rw[<-h3 j ae ae];simpa using h j ae hj⟩];rfl
theorem TB (base N0 C BL P K nx:Nat) (x:Cn) (ls:Nat->Option (List UInt8)) (fs:List Fl) (w:World) (h:mM base N0 w C BL P K x nx ls fs) (hsi:x.si<=1000000) (hsk:x.sk<=1000000) (hfl:fs.length<=1000):
  Calls prog 71 #[C] w λe w'=>(∃no dv,e= .returned (.agg #[.int .i64 no,.int .i64 (fnd fs x.si).kind,dv])/\Own aH 5 w' N0 dv (fnd fs x.si).data)/\mM base N0 w' C BL P K {x with si:=x.si+1,sk:=x.sk+1} nx ls fs/\Kp C BL P w w':=by
 have hCl:C<w.heap.size:=h.hC.lt;have h1:=h.on ((Below.refl w.heap.size w).alloc (Nat.le_refl _) (.cells #[.int .i64 0,.int .i64 0,.slice none 0 0] 35));have hA:=((h.aat (x':={x with si:=x.si+1}) 5 (.int .i64 ((x.si:Int)+1)) rfl rfl).aat (x':={x with si:=x.si+1,sk:=x.sk+1}) 7 (.int .i64 ((x.sk:Int)+1)) rfl rfl)
 have hBA:=((Kp.refl C BL P w).setCell (p:=⟨C,5,none⟩) (.inl rfl) (.int .i64 ((x.si:Int)+1))).setCell (p:=⟨C,7,none⟩) (.inl rfl) (.int .i64 ((x.sk:Int)+1));have hsA:((w.setCell ⟨C,5,none⟩ (.int .i64 ((x.si:Int)+1))).setCell ⟨C,7,none⟩ (.int .i64 ((x.sk:Int)+1))).heap.size=w.heap.size:=au;have hw:=λz:Obj=>World.setCell_alloc_past (w:=w) z C 5 (.int .i64 ((x.si:Int)+1)) hCl;have hw':=λz:Obj=>World.setCell_alloc_past (w:=w.setCell ⟨C,5,none⟩ (.int .i64 ((x.si:Int)+1))) z C 7 (.int .i64 ((x.sk:Int)+1)) (by simpa using hCl);obtain⟨wA,hwA⟩:∃wA,wA=((w.setCell ⟨C,5,none⟩ (.int .i64 ((x.si:Int)+1))).setCell ⟨C,7,none⟩ (.int .i64 ((x.sk:Int)+1))):=⟨_,rfl⟩
 have hWZ:((w.alloc (.cells #[.int .i64 0,.int .i64 0,.slice none 0 0] 35)).setCell ⟨C,5,none⟩ (.int .i64 ((x.si:Int)+1))).setCell ⟨C,7,none⟩ (.int .i64 ((x.sk:Int)+1))=wA.alloc (.cells #[.int .i64 0,.int .i64 0,.slice none 0 0] 35):=by rw[hw,hw',hwA]
 rw[<-hwA] at hA hBA hsA;obtain⟨w1,jw⟩:=bu (w.alloc (.cells #[.int .i64 0,.int .i64 0,.slice none 0 0] 35));obtain⟨g,hg⟩:=bu w.heap.size;have ad8:w1.heap.size=g+1:=by rw[jw,hg];simp
 rw[<-jw] at h1 hWZ;have HWZ:=ag hWZ;have HA:=ag hA;have HBA:=ag hBA;have c5:=h1.c5;have c7:=h1.c7;have f5:=h1.ad9 5;have f7:=h1.ad9 7;have HgA:=ag (hg.trans hsA.symm);clear h h1 hA hBA hw hw' hwA hWZ hsA
 go_in
 go_wp2;rw[<-jw,<-hg];clear jw hg;go_step3;go_wp2_with fail;rw[HWZ.o];clear ad8 c5 c7 f5 f7;have aqJ:=HA.o.on (((Below.refl wA.heap.size wA).alloc (Nat.le_refl _) (.cells #[.int .i64 0,.int .i64 0,.slice none 0 0] 35)).alloc au (.cells #[.int .i64 0,.int .i64 0,.slice none 0 0] 35));have hBB:=((Below.refl wA.heap.size wA).alloc (Nat.le_refl _) (.cells #[.int .i64 0,.int .i64 0,.slice none 0 0] 35)).alloc au (.cells #[.int .i64 0,.int .i64 0,.slice none 0 0] 35);have RA':=(aF.new wA 35 #[.int .i64 0,.int .i64 0,.slice none 0 0]).alloc (.cells #[.int .i64 0,.int .i64 0,.slice none 0 0] 35);have RB':=aF.new (wA.alloc (.cells #[.int .i64 0,.int .i64 0,.slice none 0 0] 35)) 35 #[.int .i64 0,.int .i64 0,.slice none 0 0];rw[World.size_alloc] at RB';rw[<-HgA.o] at RA' RB';generalize (wA.alloc (.cells #[.int .i64 0,.int .i64 0,.slice none 0 0] 35)).alloc (.cells #[.int .i64 0,.int .i64 0,.slice none 0 0] 35)=w2 at*;obtain⟨rows,r1,r2,r3⟩:=HA.o.hF;obtain⟨n,hn⟩:=bu rows.length;obtain⟨a,c,hfv,ve⟩:=r1.bZ hn.symm;have c4:w2.cell? ⟨C,4,none⟩=some (.slice a n c):=by rw[<-hfv];exact aqJ.c4
 have yK:n<=1000:=ae;have HBB:=ag hBB;have HRw:=ag r1;have qY:=ag hn;have HFe:=ag r3;have Il:=ag r2;have HFv:=ag hfv;have RA:=ag RA';have RB:=ag RB';obtain⟨g2,pR⟩:=bu (g+1);rw[<-pR] at RB⊢;have dh:g≠g2:=ae;have hgC:g≠C:=by have:=HgA.o;have:=HA.o.hC.lt;omega
 have vO:=ag pR;clear aqJ RA' RB' hBB r1 r2 r3 hn hfv pR HWZ;go_step3;go_wp2
 go_loopw [6,31] (λ_ i wr=>∃q:Nat,q<=n/\i= .int .i64 q/\(∀j (h:j<rows.length),j<q->rows[j].no≠(x.si:Int))/\Below w2.heap.size w2 wr) (λ_ i _=>n-(intOf i).toNat)
 case atStart=>exact⟨0,ae,rfl,λj _ h=>absurd h ae,Below.refl _ _⟩
 case round=>
  obtain⟨q,hq,rfl,hg0,hb⟩:=hrel;have HNo:=ag hg0;have vH:=ag hb;clear hg0 hb;by_cases aU:q<n
  ·have hqr:q<rows.length:=by rw[<-qY.o];exact aU
   have k0:(0:Int)<=(q:Int):=ae;have k1:(q:Int)<(n:Int):=ae;obtain⟨g3,c3,hv3,_,hN3,hg3⟩:=HRw.o.pY ae;rw[HFv.o] at hv3;injection hv3 with e1 e2 e3
   subst e1;clear e2 e3;have hrw:=HRw.o.on (HBB.o.ay vH.o);rw[HFv.o] at hrw;have d0:wr.cell? ⟨g3,q*3,none⟩=some (.int .i64 rows[q].no):=(hrw.iH (i:=q) (j:=0) hqr ae).1;have d1:wr.cell? ⟨g3,q*3+1,none⟩=some (.int .i64 rows[q].kind):=(hrw.iH (i:=q) (j:=1) hqr ae).1;have d2:wr.cell? ⟨g3,q*3+2,none⟩=some rows[q].data:=(hrw.iH (i:=q) (j:=2) hqr ae).1;clear hrw;have hqf:q<fs.length:=by rw[<-Il.o];exact hqr
   obtain⟨ad,nd,hdv,_⟩:=(HFe.o q hqr hqf).2.2.form;have HDa:=ag (HFe.o q hqr hqf);have HDv:=ag hdv;rw[hdv] at d2;clear hdv;by_cases he:rows[q].no=(x.si:Int)
   ·have g9:(rows[q].no==(x.si:Int))=true:=by simpa using he
    have HY:=ag (ah0 hqr Il.o (λi a b=>(HFe.o i a b).1) HNo.o he);rw[he] at d0;have Zx:=ag (show rows[q].kind=(fs[q]).kind from HDa.o.2.1);generalize rows[q].kind=kd at*;generalize (fs[q]).data.length=nl at*;have fQ:=(Below.refl wr.heap.size wr).alloc (Nat.le_refl _) (.cells #[.int .i64 (x.si:Int),.int .i64 kd,.slice ad nl nd] 35);have yE:=vH.o.ay fQ;have RFa:=aF.new wr 35 #[.int .i64 (x.si:Int),.int .i64 kd,.slice ad nl nd];obtain⟨wf,hwf⟩:∃wf,wf=wr.alloc (.cells #[.int .i64 (x.si:Int),.int .i64 kd,.slice ad nl nd] 35):=⟨_,rfl⟩
    go_upto_region 9 with fail;rw[<-hwf] at yE RFa⊢;obtain⟨gf,hgf⟩:=bu wr.heap.size;rw[<-hgf] at RFa⊢;have RBa:=RB.o.ah yE;have RAa:=RA.o.ah yE;obtain⟨v0,v1,v2⟩:=RFa.c3;obtain⟨e0,e1,e2⟩:=RBa.c3;have l0:=RBa.frozen 0;have l1:=RBa.frozen 1;have l2:=RBa.frozen 2;obtain⟨i0,i1,i2⟩:=RAa.c3;have j0:=RAa.frozen 0;have j1:=RAa.frozen 1;have j2:=RAa.frozen 2;have RQ:=ag (HBB.o.ay yE);clear fQ yE RFa RBa RAa hwf hgf d0 d1 d2 he;go_wp2;have hB1:=((RQ.o.setCell (p:=⟨g2,0,none⟩) (show wA.heap.size<=g2 by have:=HgA.o;have:=vO.o;omega) (.int .i64 (x.si:Int))).setCell (p:=⟨g2,1,none⟩) (show wA.heap.size<=g2 by have:=HgA.o;have:=vO.o;omega) (.int .i64 kd)).setCell (p:=⟨g2,2,none⟩) (show wA.heap.size<=g2 by have:=HgA.o;have:=vO.o;omega) (.slice ad nl nd);have hB2:=((hB1.setCell (p:=⟨g,0,none⟩) (show wA.heap.size<=g by have:=HgA.o;omega) (.int .i64 (x.si:Int))).setCell (p:=⟨g,1,none⟩) (show wA.heap.size<=g by have:=HgA.o;omega) (.int .i64 kd)).setCell (p:=⟨g,2,none⟩) (show wA.heap.size<=g by have:=HgA.o;omega) (.slice ad nl nd);rw[Exit.noGoto_ret];refine bodyPost_ret (v:= .agg #[.int .i64 (x.si:Int),.int .i64 kd,.slice ad nl nd]) (by simp[results,Tryz.results71,go_sem, *]) rfl ⟨⟨_,_,by rw[HY.o,Zx.o],?_⟩,HA.o.on hB2,HBA.o.on hB2⟩;rw[HY.o];have hd:=HDa.o.2.2.on hB2;rw[HDv.o] at hd;exact hd
   ·have g9:(rows[q].no==(x.si:Int))=false:=by simpa using he
    have awC:=ag (show∀j (h:j<rows.length),j<q+1->rows[j].no≠(x.si:Int) from λj h hj=>by
     by_cases e:j=q
     ·subst e;exact he
     ·exact HNo.o j h ae)
    have HQ:=ag aU;clear he;go_wp2;go_roundw
    case rel=>exact⟨q+1,HQ.o,by go_num,awC.o,vH.o.alloc vH.o.size _⟩
    case measure=>have:=HQ.o;simp[intOf];omega
  ·obtain rfl:q=n:=ae;have Be:=ag (al3 Il.o (λi a b=>(HFe.o i a b).1) (λj h=>HNo.o j h (by rw[qY.o];exact h)));have RBa:=RB.o.ah vH.o;have RAa:=RA.o.ah vH.o;obtain⟨e0,e1,e2⟩:=RBa.c3;obtain⟨i0,i1,i2⟩:=RAa.c3;have j0:=RAa.frozen 0;have j1:=RAa.frozen 1;have j2:=RAa.frozen 2;clear RBa RAa;have RQ:=ag (HBB.o.ay vH.o);go_wp2;have hB2:=((RQ.o.setCell (p:=⟨g,0,none⟩) (show wA.heap.size<=g by have:=HgA.o;omega) (.int .i64 0)).setCell (p:=⟨g,1,none⟩) (show wA.heap.size<=g by have:=HgA.o;omega) (.int .i64 0)).setCell (p:=⟨g,2,none⟩) (show wA.heap.size<=g by have:=HgA.o;omega) (.slice none 0 0);rw[Exit.noGoto_ret];refine bodyPost_ret (v:= .agg #[.int .i64 0,.int .i64 0,.slice none 0 0]) (by simp[results,Tryz.results71,go_sem, *]) rfl ⟨⟨_,_,by rw[Be.o],?_⟩,HA.o.on hB2,HBA.o.on hB2⟩;rw[Be.o];exact Own.nil _ _
end
section
open Go.RowKit

end
section
open Go.RowKit

def zl (n k:Nat):List UInt8:=List.replicate k 255++List.replicate (n-k) 0
theorem aau {n k:Nat} (h:k<=n):(zl n k).length=n:=by simp[zl];omega
theorem WU (n:Nat):zl n 0=List.replicate n 0:=by simp[zl]
theorem aav (n:Nat):zl n n=List.replicate n 255:=by simp[zl]
theorem WV {n k:Nat} (h:k<n):(zl n k).set k 255=zl n (k+1):=by unfold zl;rw[List.set_append_right _ _ au,List.length_replicate,Nat.sub_self,show n-k=(n-(k+1))+1 by omega,List.replicate_succ,List.set_cons_zero,List.replicate_succ',List.append_assoc];rfl
theorem WS (n:Nat) (w:World) (hn:n<=1000000):
  Calls prog 128 #[.int .i64 n] w λe w'=>(∃v,e= .returned v/\Own aH 5 w' w.heap.size v (List.replicate n 255))/\Below w.heap.size w w':=by
 have uY:=Hl n ae;have HO0:=ag (nH w w.heap.size n (Nat.le_refl _) ae);have iC:=ag ((Below.refl w.heap.size w).alloc (Nat.le_refl _) (.cells (Array.replicate n (.int .u8 0)) 5))
 go_in
 go_wp2;clear uY
 go_loopw [4,9] (λ_ i wr=>∃k:Nat,k<=n/\i= .int .i64 k/\Own aH 5 wr w.heap.size (.slice (some ⟨w.heap.size,0,none⟩) n n) (zl n k)/\Below w.heap.size w wr) (λ_ i _=>n-(intOf i).toNat)
 case atStart=>exact⟨0,ae,rfl,by rw[WU];exact HO0.o,iC.o⟩
 case round=>
  obtain⟨k,hk,rfl,ho,hb⟩:=hrel;have HO:=ag ho;have HB:=ag hb;clear ho hb HO0 iC;by_cases aU:k<n
  ·obtain⟨c0,f0⟩:=HO.o.iH (k:=k) (by rw[aau hk];exact aU);have g1:(0:Int)<=(k:Int):=ae;have g2:(k:Int)<(n:Int):=ae;have HS:=ag (HO.o.set k 255);rw[WV aU] at HS;go_wp2;go_roundw
   case rel=>exact⟨k+1,ae,by go_num,HS.o,HB.o.setCell (p:=⟨w.heap.size,k,none⟩) (Nat.le_refl _) _⟩
   case measure=>simp[intOf];omega
  ·obtain rfl:k=n:=ae;go_wp2;go_ret;exact⟨⟨_,rfl,by have:=HO.o;rw[aav] at this;exact this⟩,HB.o⟩
end
section
open Go.RowKit

theorem WW (base N0 C BL P K nx:Nat) (x:Cn) (ls:Nat->Option (List UInt8)) (fs:List Fl) (a:Option Addr) (n c:Nat) (L:List UInt8) (w:World) (h:mM base N0 w C BL P K x nx ls fs) (hn:nx<8) (hv:IM w N0 (.slice a n c) (some L)):
  Calls prog 72 #[.pointer (some ⟨BL,K*5,none⟩),.slice a n c] w λe w'=>e= .returned (.tuple #[])/\mM base N0 w' C BL P K x (nx+1) (λi=>if i=nx then some L else ls i) fs/\Kp C BL P w w':=by
 have o7:Below w.heap.size w w.drew:=⟨rfl,rfl,rfl,Nat.le_refl _,λ_ _=>rfl⟩
 have hd:=(h.on o7)
 have b0:=hd.b0.1;have b1:=hd.b1.1;obtain⟨vp,p0,p1,_⟩:=hd.page hn;have H1:=ag (h.al5 nx hv).drew;have dw:=ag (((Kp.refl C BL P w).setCell (p:=⟨P,nx,none⟩) (.inr (.inr rfl)) (.slice a n c)).on (ak _));have dBP:P≠BL:=Ne.symm h.JG.2.2.1;have g1:(0:Int)<=(nx:Int):=ae;have g2:(nx:Int)<8:=ae;clear h hv hd o7
 go_in
 go_wp2_with fail;refine iT (λW'=>W'.cell? ⟨BL,K*5,none⟩=some (.slice (some ⟨P,0,none⟩) 8 8)/\W'.cell? ⟨BL,K*5+1,none⟩=some (.int .i64 nx)) ⟨b0,b1⟩ (λbJ=>?_);refine dP 0 BL (K*5) ?_;refine aS 1 BL (K*5) ?_;refine aS 2 BL (K*5) ?_;refine tC 3 (.slice (some ⟨P,0,none⟩) 8 8) (λ_ aI=>aI.1) ?_;refine dP 4 BL (K*5) ?_;refine aS 5 BL (K*5) ?_;refine aS 6 BL (K*5+1) ?_;refine jH 7 (nx:Int) (λ_ aI=>aI.2) ?_;refine fB 8 (.slice a n c) ?_;refine aS 9 P nx ?_;refine dm 10 (λK' hK=>?_);go_simp;refine hK.out _ _ ⟨(World.cell?_setCell_far _ _ _ _ (by simpa using dBP)).trans bJ.1,(World.cell?_setCell_far _ _ _ _ (by simpa using dBP)).trans bJ.2⟩ (λdH=>?_)
 try simp only[aO]
 refine gB ?_;clear bJ dH b0 b1 p0 p1;obtain⟨w2,jP⟩:=bu ((w.setCell ⟨P,nx,none⟩ (.slice a n c)).drew);rw[<-jP] at H1 dw;have c1:=H1.o.b1.1;have f1:=H1.o.b1.2;have H2:=ag (H1.o.al6 (nx+1));have dA:=ag (dw.o.setCell (p:=⟨BL,K*5+1,none⟩) (.inr (.inl rfl)) (.int .i64 ((nx+1:Nat):Int)));have e1:((nx+1:Nat):Int)=(nx:Int)+1:=ae;rw[e1] at H2 dA;rw[<-jP];clear jP e1;go_wp2;go_end0;exact⟨rfl,H2.o,dA.o⟩
end
section
open Go.RowKit

theorem WX (base N0 C BL P K i:Nat) (x:Cn) (ls:Nat->Option (List UInt8)) (fs:List Fl) (a:Option Addr) (c:Nat) (bs:List UInt8) (w:World) (h:mM base N0 w C BL P K x i ls fs) (hd:x.dn=false) (hi:i<8) (hx:Own aH 5 w N0 (.slice a 96 c) bs) (hk:(fnd fs x.si).kind=0) (hsi:x.si<=1000000) (hsk:x.sk<=1000000) (hfl:fs.length<=1000):
  Calls prog 27 #[C,.int .i64 K,.int .i64 i,.slice a 96 c] w λe w'=>e= .returned (.int .i64 0)/\mM base N0 w' C BL P K {x with si:=x.si+1,sk:=x.sk+1} (i+1) (λj=>if j=i then some bs else ls j) fs/\Kp C BL P w w':=by
 have HA:=ag (TA base N0 C BL P K i i x ls fs w h hd hi);have HF:=ag (WT base N0 C BL P K i x ls fs w h);have HFa:=ag (TB base N0 C BL P K i x ls fs w h hsi hsk hfl);rw[hk] at HFa;have c3:=h.c3;have b1:=h.b1.1;have b2:=h.b2.1;have b3:=h.b3.1;have g1:(0:Int)<=(K:Int):=ae;have g2:(K:Int)<16:=by have:=h.hK;omega
 have HX:=ag hx;have oJ:=ag (show bs.length=96 by obtain⟨_,_,e,_⟩:=hx.form;injection e with _ e2 _;exact e2.symm);have hd4:=h.JG.2.2.2.1;have hd5:=h.JG.2.2.2.2.1;have hd6:=h.JG.2.2.2.2.2.1;clear h hx hd hk
 go_in
 go_wp2_with fail;refine(HA.o).mono ?_;rintro e w_ ⟨rfl,rfl⟩;go_wp2_with fail;refine HF.o.mono ?_;rintro e w_ ⟨rfl,rfl⟩;go_wp2_with fail;refine HFa.o.mono ?_;rintro e w1 ⟨⟨no,dv,rfl,hdv⟩,h1,iy⟩;obtain⟨ad,nd,rfl,hnd⟩:=hdv.form;have H1:=ag (h1.on ((Below.refl w1.heap.size w1).alloc (Nat.le_refl _) (.cells #[.int .i64 no,.int .i64 0,.slice ad (fnd fs x.si).data.length nd] 35)));have mF:=ag (iy.on ((Below.refl w1.heap.size w1).alloc (Nat.le_refl _) (.cells #[.int .i64 no,.int .i64 0,.slice ad (fnd fs x.si).data.length nd] 35)));have Rj:=ag (Own.kp HX.o mF.o hd4 hd5 hd6);clear h1 iy hdv hnd;generalize (fnd fs x.si).data.length=m at*;go_wp2_with fail;refine(ig a 96 c bs _ (Rj.o.arr (by rw[oJ.o];omega))).mono ?_;rintro e w3 ⟨⟨v,rfl,hv⟩,bQ⟩;have H3:=ag (H1.o.on bQ);have jU:=ag (mF.o.on bQ);have hlen:=oJ.o;obtain⟨a3,c3,rfl,yR⟩:=hv.bZ hlen;have HV:=ag (show IM w3 N0 (.slice a3 96 c3) (some bs) from⟨by rw[hlen];omega,hv.mono H1.o.hN⟩);clear bQ hv yR hlen;go_wp2_with fail;refine(WW base N0 C BL P K i _ ls fs a3 96 c3 bs w3 H3.o hi HV.o).mono ?_;rintro e w4 ⟨rfl,h4,oU⟩;have H4:=ag h4;have mY:=ag (jU.o.trans oU);clear h4 oU;go_wp2_with fail;go_ret;exact⟨rfl,H4.o,mY.o⟩
end
section
open Go.RowKit

def al7:Nat->Option (List UInt8):=λ_=>none
theorem BlI.chp {base B K:Nat} {w wr:World} (h:BlI base K w wr 16) (hK:K<16) (hB:B<=base):∃P,mM B wr.heap.size wr (base+2) (base+1) P K cn0 0 al7 []:=by obtain⟨h1,h2,⟨bs,b1,b2,b3,b4⟩,h4⟩:=h;obtain⟨P,p1,p2,p3⟩:=b4 hK;have hP:P<wr.heap.size:=(p2.aP P rfl).2;have hC:=h2.lt;refine⟨P,h2,⟨bs,b1,p1,b2.mono hB⟩,⟨kJ,rfl,p2.mono hB,λi hi=>?_⟩,La.nil _ _,⟨ae,ae,ae,hC,ae,hP,ae,ae,ae⟩,hK,Nat.le_refl _⟩;show kJ[i]= .slice none 0 0;exact List.eq_of_mem_replicate (n:=8) (List.getElem_mem hi)
theorem aax (K:Nat) (hK:K<16) (w:World):
  Calls prog 21 #[.agg #[.int .i64 16,.int .i64 8,.int .i64 64],.slice none 0 0] w λe w'=>(∃C BL P,e= .returned (.tuple #[.pointer (some ⟨C,0,none⟩),.int .i64 0])/\mM w.heap.size w'.heap.size w' C BL P K cn0 0 al7 [])/\Below w.heap.size w w':=by
 have B1:=ag (aF.new w 60 #[.int .i64 16,.int .i64 8,.int .i64 64]);have iC:=ag ((Below.refl w.heap.size w).alloc (Nat.le_refl _) (.cells #[.int .i64 16,.int .i64 8,.int .i64 64] 60))
 go_in
 obtain⟨c0,c1,c2⟩:=B1.o.c3;go_wp2_with fail;refine(Ec 16 aB aB _).mono ?_;rintro e w1 ⟨rfl,hb⟩;have dw:=ag (iC.o.ay hb);have B2:=B1.o.ah hb;clear hb c0 c1 c2 iC B1;obtain⟨c0,c1,c2⟩:=B2.c3;clear B2;go_wp2_with fail;refine(TC K hK _).mono ?_;rintro e w2 ⟨rfl,hI⟩;have dA:=ag (dw.o.ay hI.hb);obtain⟨P,hC⟩:=hI.chp (B:=w.heap.size) hK dw.o.size;have HC:=ag hC;generalize w1.heap.size=g at*;clear hI hC c0 c1 c2;go_wp2
 go_loopw [8,16] (λ_ i wr=>i= .int .i64 0/\wr=w2) (λ_ _ _=>0)
 case atStart=>exact⟨rfl,rfl⟩
 case round=>obtain⟨rfl,rfl⟩:=hrel;go_wp2;go_ret2;exact⟨⟨_,_,_,rfl,HC.o⟩,dA.o⟩
end
section
open Go.RowKit

theorem awD (u:World):(Instr.makeSlice 23 (.int .i64 64) (.int .i64 64)).run prog u= .ok (.slice (some ⟨u.heap.size,0,none⟩) 64 64) (u.alloc (.cells (Array.replicate 64 (.int .u8 0)) 5)):=Hl 64 ae u
namespace Tg
def ones:Tg:=⟨1,1,1,1⟩
theorem WY:Right ones:=aB
end Tg
theorem QC (w:World):
  Calls prog 9 #[] w λe w'=>e= .returned (.bool true)/\Below w.heap.size w w':=by
 have uY:=awD
 go_in
 go_wp2_with fail;refine(TD _).mono ?_;rintro e w1 ⟨rfl,h_⟩;have dw:=ag h_;clear h_;go_wp2_with fail;refine(aax 0 ae _).mono ?_;rintro e w2 ⟨⟨C,BL,P,rfl,hc⟩,hb⟩;have dA:=ag (dw.o.ay hb);have ho:=nH w2 w2.heap.size 64 (Nat.le_refl _) ae;have HX:=ag (ho.arr au);have fQ:=(Below.refl w2.heap.size w2).alloc (Nat.le_refl _) (.cells (Array.replicate 64 (.int .u8 0)) 5);have HC:=ag (hc.on fQ);have dE:=ag (dA.o.ay fQ);clear hb hc ho fQ;go_wp2_with fail;refine(EK Tg.ones _ 64 64 (List.replicate 64 0) _ Tg.WY aB HX.o).mono ?_;rintro e w4 ⟨⟨v,rfl,ho⟩,hb⟩;have hlen:(Tg.page Tg.ones (List.replicate 64 0)).length=96:=by rw[Tg.um];rfl
 obtain⟨a,c,rfl,U0⟩:=ho.bZ hlen;have Va:=ag (HC.o.on hb);have kL:=ag (dE.o.ay hb);have vJ:=ag (ho.mono HC.o.hN);clear hb ho U0 uY hlen;go_wp2_with fail;refine(WX _ _ C BL P 0 0 cn0 al7 [] a c _ _ Va.o rfl ae vJ.o rfl aB aB aB).mono ?_;rintro e w5 ⟨rfl,h5,zY⟩;have pV:=ag (Va.o.below zY);clear h5 zY;go_wp2;go_ret;exact⟨rfl,kL.o.trans (pV.o.mono dw.o.size)⟩
end
end Go.Proofs.YtnieckfelfoopaaGreat

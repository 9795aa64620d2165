
import Derived.Test.YtnieckfelfoopaaGreatGcMath
import Derived.Test.YtnieckfelfoopaaGreatChMem
import Derived.Deep.DeepCutAuto
open Go.Proofs.Tryz (prog)
namespace Go.Proofs.YtnieckfelfoopaaGreat
open Lib (hid)
set_option maxRecDepth 100000
set_option maxHeartbeats 16000000
section
open Go.RowKit

theorem kH {w w':World} {p:Addr} {v:Value} (h:w.cell? p=some v) (hb:Below w.heap.size w w'):w'.cell? p=some v:=(hb.cell (Fg (by rw[h];rfl))).trans h
theorem boxed (x:Bk) (w:World):Below w.heap.size w (w.alloc (.cells (DV x) 296))/\
  (w.alloc (.cells (DV x) 296)).cell? ⟨w.heap.size,0,none⟩=some (.int .i64 (x.st:Int))/\(w.alloc (.cells (DV x) 296)).cell? ⟨w.heap.size,1,none⟩=some (.int .i64 (x.live:Int))/\
  (w.alloc (.cells (DV x) 296)).cell? ⟨w.heap.size,2,none⟩=some (.int .i64 (x.aQ:Int))/\(w.alloc (.cells (DV x) 296)).cell? ⟨w.heap.size,3,none⟩=some (.int .i64 (x.nx:Int)):=
 ⟨(Below.refl _ w).alloc (Nat.le_refl _) _,(aF.new w _ (DV x)).aj rfl,(aF.new w _ (DV x)).aj rfl,(aF.new w _ (DV x)).aj rfl,(aF.new w _ (DV x)).aj rfl⟩
theorem Nl {w:World} {B:Nat} {a:Option Addr} {n k:Nat} {l:List Bk} (h:jv 4 PN w B a n l) (hk:k<n):
  ∃b o,a=some ⟨b,o,none⟩/\b<B/\w.cell? ⟨b,o+k*4,none⟩=some (.int .i64 ((Gc.at_ l k).st:Int))/\w.cell? ⟨b,o+k*4+1,none⟩=some (.int .i64 ((Gc.at_ l k).live:Int))/\
   w.cell? ⟨b,o+k*4+2,none⟩=some (.int .i64 ((Gc.at_ l k).aQ:Int))/\w.cell? ⟨b,o+k*4+3,none⟩=some (.int .i64 ((Gc.at_ l k).nx:Int)):=by
 obtain⟨b,o,Dq,ha,hb,hc⟩:=h.QQ hk;have e:Gc.at_ l k=l[k]:=by rw[Gc.at_,List.getD_eq_getElem?_getD,List.getElem?_eq_getElem Dq];rfl
 rw[e];exact⟨b,o,ha,hb,hc 0 _ rfl,hc 1 _ rfl,hc 2 _ rfl,hc 3 _ rfl⟩
theorem getD_mem {l:List Bk} {k:Nat} (hk:k<l.length):Gc.at_ l k∈l:=by rw[Gc.at_,List.getD_eq_getElem?_getD,List.getElem?_eq_getElem hk];exact List.getElem_mem hk
theorem EP (x:Bk) (w:World):Calls prog 255 #[TK x] w λe w'=>e= .returned (.bool (Gc.good x))/\Below w.heap.size w w':=by
 obtain⟨hb,c0,c1,c2,c3⟩:=boxed x w;have HB:=ag hb;unfold DV at c0 HB;clear hb c1 c2 c3
 go_in
 go_wp2;go_ret;exact⟨rfl,HB.o⟩
theorem aeq (x y:Bk) (w:World):Below w.heap.size w ((w.alloc (.cells (DV x) 296)).alloc (.cells (DV y) 296))/\
  aF ((w.alloc (.cells (DV x) 296)).alloc (.cells (DV y) 296)) w.heap.size 296 (DV x)/\
  aF ((w.alloc (.cells (DV x) 296)).alloc (.cells (DV y) 296)) (w.heap.size+1) 296 (DV y):=
 ⟨((Below.refl _ w).alloc (Nat.le_refl _) _).alloc au _,(aF.new w _ (DV x)).alloc _,by have:=aF.new (w.alloc (.cells (DV x) 296)) 296 (DV y);rwa [World.size_alloc] at this⟩
theorem Lh (x y:Bk) (w:World):Calls prog 257 #[TK x,TK y] w λe w'=>e= .returned (.bool (Gc.oN x y))/\Below w.heap.size w w':=by
 obtain⟨hb,h1,h2⟩:=aeq x y w;have HB:=ag hb;have c0:=h1.aj (i:=2) rfl;have c1:=h2.aj (i:=2) rfl;unfold DV at c0 c1 HB;clear hb h1 h2
 go_in
 go_wp2;go_ret;exact⟨rfl,HB.o⟩
theorem PS (x y:Bk) (w:World):Calls prog 256 #[TK x,TK y] w λe w'=>e= .returned (.bool (Gc.more x y))/\Below w.heap.size w w':=by
 obtain⟨hb,h1,h2⟩:=aeq x y w;have HB:=ag hb;have c0:=h1.aj (i:=2) rfl;have c1:=h2.aj (i:=2) rfl;unfold DV at c0 c1 HB;clear hb h1 h2
 go_in
 go_wp2;go_ret;exact⟨rfl,HB.o⟩
theorem Gs:prog.cellsOf 296=4:=az
end
section
open Go.RowKit

section
variable {NB B C BL:Nat} {S:Nat->Prop} {w:World} {ps:Nat->Nat} {bl:Nat->Pb}
theorem sZ (h:eG NB B S w C BL ps bl) {k:Nat} (hk:k<NB):
  Calls prog 88 #[C,.int .i64 k] w λe w'=>e= .returned (.bool true)/\w=w':=by
 have c3:=h.c3;have g1:(0:Int)<=(k:Int):=ae;have g2:(k:Int)<(NB:Int):=ae;clear h hk
 go_in
 go_wp2;go_ret;exact⟨rfl,rfl⟩
theorem BA (h:eG NB B S w C BL ps bl):
  Calls prog 70 #[C] w λe w'=>e= .returned (.int .i64 96)/\w=w':=by
 have c2:=h.c2;clear h
 go_in
 go_wp2;go_ret;exact⟨rfl,rfl⟩
theorem sV (h:eG NB B S w C BL ps bl) {k i:Nat} (hk:k<NB) (hi:i<8):
  Calls prog 69 #[C,.int .i64 k,.int .i64 i] w λe w'=>e= .returned (.int .i64 0)/\w=w':=by
 have HT:=ag (sZ h hk);have c1:=h.c1;have c6:=h.c6;have g1:(0:Int)<=(i:Int):=ae;have g2:(i:Int)<8:=ae;clear h hk hi
 go_in
 go_wp2_with fail;refine(HT.o).mono ?_;rintro e w_ ⟨rfl,rfl⟩;go_wp2;go_ret;exact⟨rfl,rfl⟩
theorem qF (h:eG NB B S w C BL ps bl):
  Calls prog 89 #[C] w λe w'=>e= .returned (.bool true)/\w=w':=by
 have c6:=h.c6;clear h
 go_in
 go_wp2;go_ret;exact⟨rfl,rfl⟩
def uf (NB:Nat):Value:= .agg #[.int .i64 NB,.int .i64 8,.int .i64 64]
theorem qG:prog.cellsOf 60=3:=az
theorem dU (h:eG NB B S w C BL ps bl):
  Calls prog 35 #[C] w λe w'=>e= .returned (uf NB)/\Below w.heap.size w w':=by
 have hb:=(Below.refl w.heap.size w).alloc (Nat.le_refl _) (.cells #[.int .i64 0,.int .i64 0,.int .i64 0] 60);have h1:=h.on hb;have hk:=aF.new w 60 #[.int .i64 0,.int .i64 0,.int .i64 0];have c0:=h1.c0;have c1:=h1.c1;have c2:=h1.c2;obtain⟨k0,k1,k2⟩:=hk.c3;have f0:=hk.frozen 0;have f1:=hk.frozen 1;have f2:=hk.frozen 2;have jq:=qG;clear h h1 hb hk
 go_in
 go_wp2;refine bodyPost_ret (v:=uf NB) (by simp[results,Tryz.results35,go_sem,uf]) rfl ⟨rfl,(Below.refl _ _).alloc (Nat.le_refl _) _⟩
theorem rQ (h:eG NB B S w C BL ps bl) {k:Nat} (hk:k<NB):
  Calls prog 36 #[C,.int .i64 k] w λe w'=>e= .returned (.bool (bl k).bad)/\w=w':=by
 have HT:=ag (sZ h hk);have c3:=h.c3;have b3:=(h.b3 hk).1;have g1:(0:Int)<=(k:Int):=ae;have g2:(k:Int)<(NB:Int):=ae;clear h hk
 go_in
 go_wp2_with fail;refine(HT.o).mono ?_;rintro e w_ ⟨rfl,rfl⟩;go_wp2;go_ret;exact⟨rfl,rfl⟩
theorem PO (h:eG NB B S w C BL ps bl) {k:Nat} (hk:k<NB):
  Calls prog 37 #[C,.int .i64 k] w λe w'=>e= .returned (.int .i64 ((bl k).aQ:Int))/\w=w':=by
 have HT:=ag (sZ h hk);have c3:=h.c3;have b4:=(h.b4 hk).1;have g1:(0:Int)<=(k:Int):=ae;have g2:(k:Int)<(NB:Int):=ae;clear h hk
 go_in
 go_wp2_with fail;refine(HT.o).mono ?_;rintro e w_ ⟨rfl,rfl⟩;go_wp2;go_ret;exact⟨rfl,rfl⟩
end
end
section
open Go.RowKit

section
variable {NB B C BL:Nat} {S:Nat->Prop} {w:World} {ps:Nat->Nat} {bl:Nat->Pb}
theorem eG.axh (h:eG NB B S w C BL ps bl) (x:Int):eG NB B S (w.setCell ⟨C,5,none⟩ (.int .i64 x)) C BL ps bl:=h.aat 5 _ λ_ sk rd=>⟨x,sk,rd,rfl⟩
theorem eG.axi (h:eG NB B S w C BL ps bl) (x:Int):eG NB B S (w.setCell ⟨C,7,none⟩ (.int .i64 x)) C BL ps bl:=h.aat 7 _ λsi _ rd=>⟨si,x,rd,rfl⟩
theorem eG.awr (h:eG NB B S w C BL ps bl) (x:Int):eG NB B S (w.setCell ⟨C,8,none⟩ (.int .i64 x)) C BL ps bl:=h.aat 8 _ λsi sk _=>⟨si,sk,x,rfl⟩
theorem zo (h:eG NB B S w C BL ps bl):
  Calls prog 71 #[C] w λe w'=>e= .returned (.agg #[.int .i64 0,.int .i64 0,.slice none 0 0])/\eG NB B S w' C BL ps bl/\Kq (λq=>q=C) w w':=by
 obtain⟨si,sk,rd,hC⟩:=h.hC;have c5:w.cell? ⟨C,5,none⟩=some (.int .i64 si):=hC.aj rfl;have c7:w.cell? ⟨C,7,none⟩=some (.int .i64 sk):=hC.aj rfl;have c4:=h.c4;have f5:=h.ad9 5;have f7:=h.ad9 7;have hA:=(h.axh (wrap64 (si+1))).axi (wrap64 (sk+1));have hK:=(Kq.one (w:=w) ⟨C,5,none⟩ (.int .i64 (wrap64 (si+1)))).setCell (p:=⟨C,7,none⟩) (.inl rfl) (.int .i64 (wrap64 (sk+1)));have HA:=ag hA;have HG:=ag (show((w.setCell ⟨C,5,none⟩ (.int .i64 (wrap64 (si+1)))).setCell ⟨C,7,none⟩ (.int .i64 (wrap64 (sk+1)))).heap.size=w.heap.size by simp);have HK:=ag hK;have aU:=h.ltC;clear h hC hA hK
 go_in
 go_wp2;go_step3;go_wp2_with fail;clear c5 c7 c4 f5 f7;generalize (w.setCell ⟨C,5,none⟩ (.int .i64 (wrap64 (si+1)))).setCell ⟨C,7,none⟩ (.int .i64 (wrap64 (sk+1)))=wA at*;generalize w.heap.size=g at*;have yE:=((Below.refl wA.heap.size wA).alloc (Nat.le_refl _) (.cells #[.int .i64 0,.int .i64 0,.slice none 0 0] 35)).alloc au (.cells #[.int .i64 0,.int .i64 0,.slice none 0 0] 35);have ra:=(aF.new wA 35 #[.int .i64 0,.int .i64 0,.slice none 0 0]).alloc (.cells #[.int .i64 0,.int .i64 0,.slice none 0 0] 35);have rb:=aF.new (wA.alloc (.cells #[.int .i64 0,.int .i64 0,.slice none 0 0] 35)) 35 #[.int .i64 0,.int .i64 0,.slice none 0 0];rw[World.size_alloc] at rb;rw[HG.o] at ra rb;have HBb:=ag yE;have H2:=HA.o.on yE;have c4:=H2.c4;generalize (wA.alloc (.cells #[.int .i64 0,.int .i64 0,.slice none 0 0] 35)).alloc (.cells #[.int .i64 0,.int .i64 0,.slice none 0 0] 35)=w2 at*;obtain⟨e0,e1,e2⟩:=rb.c3;obtain⟨i0,i1,i2⟩:=ra.c3;have j0:=ra.frozen 0;have j1:=ra.frozen 1;have j2:=ra.frozen 2;have HR:=ag ra;clear yE H2 ra rb;go_step3;go_wp2
 go_loopw [6,31] (λ_ i wr=>i= .int .i64 0/\wr=w2) (λ_ _ _=>0)
 case atStart=>exact⟨rfl,rfl⟩
 case round=>
  obtain⟨rfl,rfl⟩:=hrel;have hgA:wA.heap.size<=g:=by have:=HG.o;omega
  have dA:=ag (((HBb.o.setCell (p:=⟨g,0,none⟩) hgA (.int .i64 0)).setCell (p:=⟨g,1,none⟩) hgA (.int .i64 0)).setCell (p:=⟨g,2,none⟩) hgA (.slice none 0 0));have hs:=((HR.o.set 0 (.int .i64 0)).set 1 (.int .i64 0)).set 2 (.slice none 0 0);have q0:=hs.aj (i:=0) (v:= .int .i64 0) rfl;have q1:=hs.aj (i:=1) (v:= .int .i64 0) rfl;have q2:=hs.aj (i:=2) (v:= .slice none 0 0) rfl;clear hs hgA;go_wp2;rw[Exit.noGoto_ret];refine bodyPost_ret (v:= .agg #[.int .i64 0,.int .i64 0,.slice none 0 0]) (by simp[results,Tryz.results71,go_sem,q0,q1,q2]) rfl ⟨rfl,HA.o.on dA.o,HK.o.on dA.o⟩
end
end
section
open Go.RowKit

section
variable {NB B C BL:Nat} {S:Nat->Prop} {w:World} {ps:Nat->Nat} {bl:Nat->Pb}
def zO (x:Pb) (i:Nat) (L:List UInt8):Pb:={x with sS:=upd x.sS i (some L),nx:=i+1}
def amu (x:Pb) (i:Nat) (L:List UInt8):Pb:={x with sS:=upd x.sS i (some L)}
theorem BF {α:Type} (f:Nat->α) (k:Nat) (u v:α):upd (upd f k u) k v=upd f k v:=by
 funext j
 unfold upd
 split<;>rfl
theorem TS (h:eG NB B S w C BL ps bl) {k i:Nat} (hk:k<NB) (hi:i<8) (hn:(bl k).nx=i) (a:Option Addr) (n c:Nat) (L:List UInt8) (hv:PgS S (Mu NB C BL ps) w (.slice a n c) (some L)):
  Calls prog 72 #[.pointer (some ⟨BL,k*5,none⟩),.slice a n c] w λe w'=>e= .returned (.tuple #[])/\eG NB B S w' C BL ps (upd bl k (zO (bl k) i L))/\Kq (λq=>q=BL\/q=ps k) w w':=by
 have hd:=h.on (ak w);have b0:=(hd.b0 hk).1;have b1:w.drew.cell? ⟨BL,k*5+1,none⟩=some (.int .i64 i):=by rw[<-hn];exact(hd.b1 hk).1
 obtain⟨v,p0,p1,_⟩:=hd.page hk hi;have H1:=ag ((h.al5 (i:=i) hk (.slice a n c) (some L) hv (amu (bl k) i L) rfl rfl).on (ak _));have dw:=ag (((Kq.refl (λq=>q=BL\/q=ps k) w).setCell (p:=⟨ps k,i,none⟩) (.inl (.inr rfl)) (.slice a n c)).on (ak _));have dBP:ps k≠BL:=h.JG.pb k hk;have g1:(0:Int)<=(i:Int):=ae;have g2:(i:Int)<8:=ae;have HN:=ag hn;clear h hv hd hn;generalize hP:ps k=P at*;have HPe:=ag hP;clear hP
 go_in
 go_wp2_with fail;refine iT (λW'=>W'.cell? ⟨BL,k*5,none⟩=some (.slice (some ⟨P,0,none⟩) 8 8)/\W'.cell? ⟨BL,k*5+1,none⟩=some (.int .i64 i)) ⟨b0,b1⟩ (λbJ=>?_);refine dP 0 BL (k*5) ?_;refine aS 1 BL (k*5) ?_;refine aS 2 BL (k*5) ?_;refine tC 3 (.slice (some ⟨P,0,none⟩) 8 8) (λ_ aI=>aI.1) ?_;refine dP 4 BL (k*5) ?_;refine aS 5 BL (k*5) ?_;refine aS 6 BL (k*5+1) ?_;refine jH 7 (i:Int) (λ_ aI=>aI.2) ?_;refine fB 8 (.slice a n c) ?_;refine aS 9 P i ?_;refine dm 10 (λK' hK=>?_);go_simp;refine hK.out _ _ ⟨(World.cell?_setCell_far _ _ _ _ (by simpa using dBP)).trans bJ.1,(World.cell?_setCell_far _ _ _ _ (by simpa using dBP)).trans bJ.2⟩ (λdH=>?_)
 try simp only[aO]
 refine gB ?_;clear bJ dH b0 b1 p0 p1;obtain⟨w2,jP⟩:=bu ((w.setCell ⟨P,i,none⟩ (.slice a n c)).drew);rw[<-jP] at H1 dw;have c1:=(H1.o.b1 hk).1;have f1:=(H1.o.b1 hk).2;rw[upd_same] at c1;have c1':w2.cell? ⟨BL,k*5+1,none⟩=some (.int .i64 i):=by rw[<-HN.o];exact c1
 have H2:=ag (H1.o.setB (k:=k) (j:=1) hk ae (.int .i64 ((i+1:Nat):Int)) (zO (bl k) i L) (by rw[upd_same];rfl) (by rw[upd_same];rfl));rw[BF] at H2;have dA:=ag (dw.o.setCell (p:=⟨BL,k*5+1,none⟩) (.inl (.inl rfl)) (.int .i64 ((i+1:Nat):Int)));have e1:((i+1:Nat):Int)=(i:Int)+1:=ae;rw[e1] at H2 dA;rw[<-jP];clear jP e1 c1;go_wp2;go_end0;exact⟨rfl,H2.o,dA.o⟩
theorem eG.base (h:eG NB B S w C BL ps bl):B<=w.heap.size:=by have h1:=h.lo C (h.hS C (.inl rfl));have h2:=h.ltC;omega
theorem eG.up {w0:World} (h:eG NB B S w C BL ps bl) (h0:B<=w0.heap.size):eG NB B (Up S w0 w) w C BL ps bl:=
 h.wide (λ_ hs=> .inl hs) (λk hk=>by rcases hk with h1|h1;exact h.lo k h1;omega) (λk hk=>by rcases hk with h1|h1;exact h.hi k h1;exact h1.2)
theorem eG.axj {w0 w1:World} (h:eG NB B (Up S w0 w1) w C BL ps bl) (h0:B<=w0.heap.size) (hs:w1.heap.size<=w.heap.size):eG NB B (Up S w0 w) w C BL ps bl:=
 h.wide (λk hk=>by rcases hk with h1|h1;exact .inl h1;exact .inr ae) (λk hk=>by rcases hk with h1|h1;exact h.lo k (.inl h1);omega) (λk hk=>by rcases hk with h1|h1;exact h.hi k (.inl h1);exact h1.2)
theorem eG.re {w0 wa wb:World} (h:eG NB B (Up S wa wb) w C BL ps bl) (h0:B<=w0.heap.size) (h1:w0.heap.size<=wa.heap.size) (hs:wb.heap.size<=w.heap.size):eG NB B (Up S w0 w) w C BL ps bl:=
 h.wide (λk hk=>by rcases hk with h2|h2;exact .inl h2;exact .inr ae) (λk hk=>by rcases hk with h2|h2;exact h.lo k (.inl h2);omega) (λk hk=>by rcases hk with h2|h2;exact h.hi k (.inl h2);exact h2.2)
theorem eG.aq7 {w0:World} (h:eG NB B S w C BL ps bl) {v:Value} {L:List UInt8} (hl:L.length=96) (ho:Own aH 5 w w0.heap.size v L) (hs:∀k,S k->k<w0.heap.size):PgS (Up S w0 w) (Mu NB C BL ps) w v (some L):=
 ⟨hl,ho.mono (Nat.zero_le _),λg hg=>⟨.inr (ho.aP g hg),λhm=>by have:=hs g (h.hS g hm);have:=(ho.aP g hg).1;omega⟩⟩
theorem vI (h:eG NB B S w C BL ps bl) {k i:Nat} (hk:k<NB) (hi:i<8) (hn:(bl k).nx=i) (bK:(bl k).bad=false) (aW:(bl k).broken=false) (a:Option Addr) (c:Nat) (bs:List UInt8) (hx:Own aH 5 w 0 (.slice a 96 c) bs) (EE:∀g,Value.ownBlock (.slice a 96 c)=some g->¬S g):
  Calls prog 27 #[C,.int .i64 k,.int .i64 i,.slice a 96 c] w λe w'=>e= .returned (.int .i64 0)/\eG NB B (Up S w w') w' C BL ps (upd bl k (zO (bl k) i bs))/\Kq S w w':=by
 have HA:=ag (sV h hk hi);have HF:=ag (BA h);have HFa:=ag (zo h);have c3:=h.c3;have b1:=(h.b1 hk).1;have b2:=(h.b2 hk).1;have b3:=(h.b3 hk).1;rw[hn] at b1;rw[aW] at b2;rw[bK] at b3;have g1:(0:Int)<=(k:Int):=ae;have g2:(k:Int)<(NB:Int):=ae;have HX:=ag hx;have oJ:=ag (show bs.length=96 by obtain⟨_,_,e,_⟩:=hx.form;injection e with _ e2 _;exact e2.symm);have Wj:=ag EE;have HH:=ag h;have HN:=ag hn;clear h hx EE hn bK aW
 go_in
 go_wp2_with fail;refine(HA.o).mono ?_;rintro e w_ ⟨rfl,rfl⟩;go_wp2_with fail;refine HF.o.mono ?_;rintro e w_ ⟨rfl,rfl⟩;go_wp2_with fail;refine HFa.o.mono ?_;rintro e w1 ⟨rfl,h1,iy⟩;have fQ:=(Below.refl w1.heap.size w1).alloc (Nat.le_refl _) (.cells #[.int .i64 0,.int .i64 0,.slice none 0 0] 35);have H1:=ag (h1.on fQ);have mF:=ag ((iy.mono (T':=S) λq hq=>hq▸HH.o.hS C (.inl rfl)).on fQ);have F8:=ag (HX.o.kq mF.o Wj.o);clear h1 iy fQ;go_wp2_with fail;refine(ig a 96 c bs _ (F8.o.arr (by rw[oJ.o];omega))).mono ?_;rintro e w3 ⟨⟨v,rfl,hv⟩,bQ⟩;have jU:=ag (mF.o.on bQ);have hhi:=HH.o.hi;have ja:=mF.o.size;have zD:=ag ((H1.o.on bQ).up (w0:=w) HH.o.base);have hlen:=oJ.o;obtain⟨a3,c3,rfl,yR⟩:=hv.bZ hlen;have HV:=ag ((H1.o.on bQ).aq7 (w0:=w) hlen (hv.mono ja) hhi);clear bQ hv yR hlen hhi ja;go_wp2_with fail;refine(TS zD.o hk hi HN.o a3 96 c3 bs HV.o).mono ?_;rintro e w4 ⟨rfl,h4,oU⟩;have mY:=ag (jU.o.ay oU λq hq=> .inl (by rcases hq with rfl|rfl;exact HH.o.hS _ (.inr (.inl rfl));exact HH.o.hS _ (.inr (.inr ⟨k,hk,rfl⟩))));have H4:=ag (h4.axj HH.o.base oU.size);clear h4 oU;go_wp2_with fail;go_ret;exact⟨rfl,H4.o,mY.o⟩
end
end
section
open Go.RowKit

section
variable {NB B C BL:Nat} {S:Nat->Prop} {w:World} {ps:Nat->Nat} {bl:Nat->Pb}
theorem eG.erased {r:Nat} (h:eG NB B S w C BL ps bl) {k P':Nat} (hk:k<NB) (ho:Own Ai 23 w 0 (.slice (some ⟨P',0,none⟩) 8 8) kJ) (hP:¬S P') (hB:B<=P'):
  eG NB B (λq=>S q\/q=P') (((((w.setCell ⟨BL,k*5,none⟩ (.slice (some ⟨P',0,none⟩) 8 8)).setCell ⟨BL,k*5+1,none⟩ (.int .i64 0)).setCell ⟨BL,k*5+2,none⟩ (.bool false)).setCell ⟨BL,k*5+3,none⟩ (.bool false)).setCell ⟨BL,k*5+4,none⟩ (.int .i64 r)) C BL (upd ps k P') (upd bl k (fresh r)):=by
 have h1:=h.al6 hk ho hP hB {bl k with sS:=λ_=>none} ⟨rfl,rfl,rfl,rfl⟩ rfl;have h2:=h1.setB (k:=k) (j:=1) hk ae (.int .i64 ((0:Nat):Int)) {bl k with sS:=λ_=>none,nx:=0} (by simp only[upd_same];rfl) (by rw[upd_same]);rw[BF] at h2;have h3:=h2.setB (k:=k) (j:=2) hk ae (.bool false) {bl k with sS:=λ_=>none,nx:=0,broken:=false} (by simp only[upd_same];rfl) (by rw[upd_same]);rw[BF] at h3;have h4:=h3.setB (k:=k) (j:=3) hk ae (.bool false) ⟨λ_=>none,0,false,false,(bl k).aQ⟩ (by simp only[upd_same];rfl) (by rw[upd_same]);rw[BF] at h4;have h5:=h4.setB (k:=k) (j:=4) hk ae (.int .i64 r) (fresh r) (by simp only[upd_same];rfl) (by rw[upd_same];rfl);rw[BF] at h5;exact h5
theorem Nr {r:Nat} {T:Nat->Prop} {a b:World} (h:Kq T a b) {k P':Nat} (hT:T BL):
  Kq T a (((((b.setCell ⟨BL,k*5,none⟩ (.slice (some ⟨P',0,none⟩) 8 8)).setCell ⟨BL,k*5+1,none⟩ (.int .i64 0)).setCell ⟨BL,k*5+2,none⟩ (.bool false)).setCell ⟨BL,k*5+3,none⟩ (.bool false)).setCell ⟨BL,k*5+4,none⟩ (.int .i64 r)):=
 ((((h.setCell (.inl hT) _).setCell (.inl hT) _).setCell (.inl hT) _).setCell (.inl hT) _).setCell (.inl hT) _
theorem KF (h:eG NB B S w C BL ps bl) {k:Nat} (hk:k<NB) (bK:(bl k).bad=false) (hw:(bl k).aQ<=1099511627776):
  Calls prog 166 #[C,.int .i64 k] w λe w'=>e= .returned (.int .i64 0)/\(∃ps',eG NB B (Up S w w') w' C BL ps' (upd bl k (fresh ((bl k).aQ+1))))/\Kq S w w':=by
 have HA:=ag (sV h hk (i:=0) ae);have HFa:=ag (zo h);have c3:=h.c3;have b3:=(h.b3 hk).1;rw[bK] at b3;have g1:(0:Int)<=(k:Int):=ae;have g2:(k:Int)<(NB:Int):=ae;have HH:=ag h;have HW:=ag hw;clear h bK hw
 go_in
 go_wp2_with fail;refine HA.o.mono ?_;rintro e w_ ⟨rfl,rfl⟩;go_wp2_with fail;refine HFa.o.mono ?_;rintro e w1 ⟨rfl,h1,iy⟩;have fQ:=(Below.refl w1.heap.size w1).alloc (Nat.le_refl _) (.cells #[.int .i64 0,.int .i64 0,.slice none 0 0] 35);have H1:=ag (h1.on fQ);have mF:=ag ((iy.mono (T':=S) λq hq=>hq▸HH.o.hS C (.inl rfl)).on fQ);clear h1 iy fQ c3 b3;go_upto_region 19 with fail;generalize w1.alloc (.cells #[.int .i64 0,.int .i64 0,.slice none 0 0] 35)=w2 at*;have uY:=NP w2.drew;have HD:=ag (H1.o.on (ak w2));have c1:=HD.o.c1;have b4:=(HD.o.b4 hk).1;have hww:=HW.o;have i1:=IntWalk.i64_in (((bl k).aQ:Int)+1) ⟨ae,ae⟩;generalize hr:(bl k).aQ=r at*;refine iT (λW'=>W'.cell? ⟨C,1,none⟩=some (.int .i64 8)) c1 (λbJ=>?_);refine dP 0 BL (k*5) ?_;refine dP 1 C 0 ?_;refine aS 2 C 0 ?_;refine aS 3 C 0 ?_;refine aS 4 C 1 ?_;refine ik 5 8 ?_;refine dP 7 BL (k*5) ?_;refine aS 8 BL (k*5) ?_;refine aS 9 BL (k*5+4) ?_;have fQ:=((Below.refl w2.heap.size w2).alloc (Nat.le_refl _) (.cells (kJ.map Ai).toArray 23)).drew;have zD:=ag (H1.o.on fQ);have jU:=ag (mF.o.on fQ);have Aa:=ag (show w.heap.size<=w2.heap.size from mF.o.size);have rf:=ag (Vl w2 0 (Nat.zero_le _)).drew;have HR:=ag hr;clear fQ;refine wpAnyH_ready (rs:=[6,10]) az au ?_;refine AllReadyH.cons rfl (λK' hK=>?_) (AllReadyH.cons rfl (λK' hK=>?_) AllReadyH.nil)
 ·go_simp;have d1:=zD.o.c1;have d4:=(zD.o.b4 hk).1;rw[HR.o] at d4;clear uY c1 b4;generalize (w2.alloc (.cells (kJ.map Ai).toArray 23)).drew=w3 at*;generalize hP:w2.heap.size=P' at*;refine hK.out _ _ d1 (λdH=>?_)
  try simp only[aO]
  refine dm 10 (λK' hK=>?_);go_simp;clear d4;refine hK.out _ _ d1 (λRJ=>?_)
  try simp only[aO]
  clear RJ;refine ik 11 ((r:Int)+1) ?_;refine fE 12 (.agg #[.slice (some ⟨P',0,none⟩) 8 8,.int .i64 0,.bool false,.bool false,.int .i64 ((r:Int)+1)]) ?_;refine aS 13 BL (k*5) ?_;obtain⟨x0,y0⟩:=zD.o.b0 hk;obtain⟨x1,y1⟩:=zD.o.b1 hk;obtain⟨x2,y2⟩:=zD.o.b2 hk;obtain⟨x3,y3⟩:=zD.o.b3 hk;obtain⟨x4,y4⟩:=zD.o.b4 hk;have hE:=(zD.o.erased (r:=r+1) hk rf.o (λhs=>by have:=HH.o.hi P' hs;have:=Aa.o;omega) (Nat.le_trans HH.o.base Aa.o))
  have hKE:=(Nr (BL:=BL) (r:=r+1) (P':=P') (k:=k) jU.o (HH.o.hS BL (.inr (.inl rfl))))
  rw[show((r+1:Nat):Int)=(r:Int)+1 by omega] at hE hKE;have HE:=ag hE;have HKE:=ag hKE;have mP:=ag (show P'<w3.heap.size from(rf.o.aP P' rfl).2);have d9:=hE.c1;clear hE hKE;refine dm 14 (λK' hK=>?_);go_simp;refine hK.out _ _ d9 (λgm=>?_)
  try simp only[aO]
  refine gB ?_;clear bJ dH gm x0 x1 x2 x3 x4 y0 y1 y2 y3 y4 d1 d9;go_wp2_with fail;go_ret;refine⟨rfl,⟨upd ps k P',?_⟩,HKE.o⟩;rw[HR.o];refine HE.o.wide (λq hq=>?_) (λq hq=>?_) (λq hq=>?_)
  ·rcases hq with h1|h1
   ·exact .inl h1
   ·exact .inr ⟨h1▸Aa.o,h1▸(HE.o.hi P' (.inr rfl))⟩
  ·rcases hq with h1|h1
   ·exact HH.o.lo q h1
   ·have:=HH.o.base;omega
  ·rcases hq with h1|h1
   ·exact HE.o.hi q (.inl h1)
   ·exact h1.2
 ·go_simp;refine hK.out _ _ c1 (λdH=>?_)
  try simp only[aO]
  clear b4;refine ik 11 ((r:Int)+1) ?_;refine dm 6 (λK' hK=>?_);go_simp;have d1:=zD.o.c1;clear uY c1 dH;generalize (w2.alloc (.cells (kJ.map Ai).toArray 23)).drew=w3 at*;generalize hP:w2.heap.size=P' at*;refine hK.out _ _ d1 (λdH=>?_)
  try simp only[aO]
  refine fE 12 (.agg #[.slice (some ⟨P',0,none⟩) 8 8,.int .i64 0,.bool false,.bool false,.int .i64 ((r:Int)+1)]) ?_;refine aS 13 BL (k*5) ?_;obtain⟨x0,y0⟩:=zD.o.b0 hk;obtain⟨x1,y1⟩:=zD.o.b1 hk;obtain⟨x2,y2⟩:=zD.o.b2 hk;obtain⟨x3,y3⟩:=zD.o.b3 hk;obtain⟨x4,y4⟩:=zD.o.b4 hk;have hE:=(zD.o.erased (r:=r+1) hk rf.o (λhs=>by have:=HH.o.hi P' hs;have:=Aa.o;omega) (Nat.le_trans HH.o.base Aa.o))
  have hKE:=(Nr (BL:=BL) (r:=r+1) (P':=P') (k:=k) jU.o (HH.o.hS BL (.inr (.inl rfl))))
  rw[show((r+1:Nat):Int)=(r:Int)+1 by omega] at hE hKE;have HE:=ag hE;have HKE:=ag hKE;have mP:=ag (show P'<w3.heap.size from(rf.o.aP P' rfl).2);have d9:=hE.c1;clear hE hKE;refine dm 14 (λK' hK=>?_);go_simp;refine hK.out _ _ d9 (λgm=>?_)
  try simp only[aO]
  refine gB ?_;clear bJ dH gm x0 x1 x2 x3 x4 y0 y1 y2 y3 y4 d1 d9;go_wp2_with fail;go_ret;refine⟨rfl,⟨upd ps k P',?_⟩,HKE.o⟩;rw[HR.o];refine HE.o.wide (λq hq=>?_) (λq hq=>?_) (λq hq=>?_)
  ·rcases hq with h1|h1
   ·exact .inl h1
   ·exact .inr ⟨h1▸Aa.o,h1▸(HE.o.hi P' (.inr rfl))⟩
  ·rcases hq with h1|h1
   ·exact HH.o.lo q h1
   ·have:=HH.o.base;omega
  ·rcases hq with h1|h1
   ·exact HE.o.hi q (.inl h1)
   ·exact h1.2
end
end
section
open Go.RowKit

structure Mg where
 M:Nat
 ML:Nat
 C:Nat
 BL:Nat
 cap:Nat
 ps:Nat->Nat
 bl:Nat->Pb
 l:List Bk
 opn:Int
 res:Int
 bad:Int
 even:Bool
 gh:List UInt8->Prop
def mgA (NB:Nat) (g:Mg):Array Value:=#[.pointer (some ⟨g.C,0,none⟩),.slice (some ⟨g.ML,0,none⟩) NB g.cap,.int .i64 g.opn,.int .i64 g.res,.int .i64 g.bad,.bool g.even]
def Sm (g:Mg) (S:Nat->Prop) (q:Nat):Prop:=q=g.M\/q=g.ML\/S q
structure gu (NB B:Nat) (S:Nat->Prop) (w:World) (g:Mg):Prop where
 hM:aF w g.M 283 (mgA NB g)
 hL:dK 4 PN 296 w 0 (.slice (some ⟨g.ML,0,none⟩) NB g.cap) g.l
 hc:eG NB B S w g.C g.BL g.ps g.bl
 ne:g.M≠g.ML
 sM:¬S g.M
 sL:¬S g.ML
 bM:B<=g.M
 bL:B<=g.ML
 nb:NB<=1000
section
variable {NB B:Nat} {S T:Nat->Prop} {w w':World} {g:Mg}
theorem gu.ghost (h:gu NB B S w g) (P:List UInt8->Prop):gu NB B S w {g with gh:=P}:=⟨h.hM,h.hL,h.hc,h.ne,h.sM,h.sL,h.bM,h.bL,h.nb⟩
theorem gu.len (h:gu NB B S w g):g.l.length=NB:=by
 obtain⟨_,_,e,_⟩:=h.hL.form;injection e with _ e2 _
 exact e2.symm
theorem gu.ltM (h:gu NB B S w g):g.M<w.heap.size:=h.hM.lt
theorem gu.ltL (h:gu NB B S w g):g.ML<w.heap.size:=(h.hL.aP _ rfl).2
theorem gu.base (h:gu NB B S w g):B<=w.heap.size:=by have:=h.bM;have:=h.ltM;omega
theorem gu.hi (h:gu NB B S w g):∀q,Sm g S q->q<w.heap.size:=by
 rintro q (rfl|rfl|hq)
 ·exact h.ltM
 ·exact h.ltL
 ·exact h.hc.hi q hq
theorem gu.kq (h:gu NB B S w g) (hk:Kq T w w') (hT:∀q,Sm g S q->¬T q):gu NB B S w' g:=
 ⟨h.hM.kq hk (hT _ (.inl rfl)),h.hL.kq hk λq hq=>by obtain rfl:=fD _ _ _ _ hq;exact hT _ (.inr (.inl rfl)),h.hc.kq hk λq hq=>hT q (.inr (.inr hq)),h.ne,h.sM,h.sL,h.bM,h.bL,h.nb⟩
theorem gu.on (h:gu NB B S w g) (hb:Below w.heap.size w w'):gu NB B S w' g:=h.kq (T:=λ_=>False) (Kq.of hb) λ_ _ h=>h
theorem gu.alZ {S':Nat->Prop} {ps':Nat->Nat} {bl':Nat->Pb} (h:gu NB B S w g) (hc:eG NB B S' w' g.C g.BL ps' bl') (hk:Kq S w w') (hS:∀q,S' q->Up S w w' q):gu NB B S' w' {g with ps:=ps',bl:=bl'}:=
 ⟨h.hM.kq hk h.sM,h.hL.kq hk λq hq=>by obtain rfl:=fD _ _ _ _ hq;exact h.sL,hc,h.ne,λhs=>h.sM (ji (hS _ hs) h.ltM),λhs=>h.sL (ji (hS _ hs) h.ltL),h.bM,h.bL,h.nb⟩
theorem Sm.up {S S':Nat->Prop} (h:∀q,S' q->Up S w w' q) {q:Nat} (hq:Sm g S' q):Up (Sm g S) w w' q:=by
 rcases hq with h1|h1|h1
 ·exact .inl (.inl h1)
 ·exact .inl (.inr (.inl h1))
 ·rcases h q h1 with h2|h2
  ·exact .inl (.inr (.inr h2))
  ·exact .inr h2
theorem gu.up {w0:World} (h:gu NB B S w g) (h0:B<=w0.heap.size) (hM:g.M<w0.heap.size) (hL:g.ML<w0.heap.size):gu NB B (Up S w0 w) w g:=
 ⟨h.hM,h.hL,h.hc.up h0,h.ne,λhs=>h.sM (ji hs hM),λhs=>h.sL (ji hs hL),h.bM,h.bL,h.nb⟩
theorem gu.Je (h:gu NB B S w g) {k j:Nat} (hk:k<NB) (hj:j<4) (u:Value) (y:Bk) (hy:PN y=(PN (Gc.at_ g.l k)).set j u):gu NB B S (w.setCell ⟨g.ML,k*4+j,none⟩ u) {g with l:=g.l.set k y}:=by
 have hl:=h.len;have e:Gc.at_ g.l k=g.l[k]'ae:=by rw[Gc.at_,List.getD_eq_getElem?_getD,List.getElem?_eq_getElem ae];rfl
 have hq:Kq (λq=>q=g.ML) w (w.setCell ⟨g.ML,k*4+j,none⟩ u):=Kq.one ⟨_,_,none⟩ _;exact⟨h.hM.kq hq h.ne,h.hL.set (i:=k) (j:=j) ae hj (by rw[hy,e]),h.hc.kq hq λq hq e=>h.sL (e▸hq),h.ne,h.sM,h.sL,h.bM,h.bL,h.nb⟩
theorem gu.aq4 (h:gu NB B S w g) (x:Int):gu NB B S (w.setCell ⟨g.M,2,none⟩ (.int .i64 x)) {g with opn:=x}:=by have hq:Kq (λq=>q=g.M) w (w.setCell ⟨g.M,2,none⟩ (.int .i64 x)):=Kq.one ⟨_,_,none⟩ _;refine⟨?_,h.hL.kq hq λq hq=>by obtain rfl:=fD _ _ _ _ hq;exact Ne.symm h.ne,h.hc.kq hq λq hq e=>h.sM (e▸hq),h.ne,h.sM,h.sL,h.bM,h.bL,h.nb⟩;exact h.hM.set 2 (.int .i64 x)
theorem gu.axb (h:gu NB B S w g) (x:Bool):gu NB B S (w.setCell ⟨g.M,5,none⟩ (.bool x)) {g with even:=x}:=by have hq:Kq (λq=>q=g.M) w (w.setCell ⟨g.M,5,none⟩ (.bool x)):=Kq.one ⟨_,_,none⟩ _;refine⟨?_,h.hL.kq hq λq hq=>by obtain rfl:=fD _ _ _ _ hq;exact Ne.symm h.ne,h.hc.kq hq λq hq e=>h.sM (e▸hq),h.ne,h.sM,h.sL,h.bM,h.bL,h.nb⟩;exact h.hM.set 5 (.bool x)
theorem gu.m0 (h:gu NB B S w g):w.cell? ⟨g.M,0,none⟩=some (.pointer (some ⟨g.C,0,none⟩)):=h.hM.aj rfl
theorem gu.m1 (h:gu NB B S w g):w.cell? ⟨g.M,1,none⟩=some (.slice (some ⟨g.ML,0,none⟩) NB g.cap):=h.hM.aj rfl
theorem gu.m2 (h:gu NB B S w g):w.cell? ⟨g.M,2,none⟩=some (.int .i64 g.opn):=h.hM.aj rfl
theorem gu.m3 (h:gu NB B S w g):w.cell? ⟨g.M,3,none⟩=some (.int .i64 g.res):=h.hM.aj rfl
theorem gu.m4 (h:gu NB B S w g):w.cell? ⟨g.M,4,none⟩=some (.int .i64 g.bad):=h.hM.aj rfl
theorem gu.m5 (h:gu NB B S w g):w.cell? ⟨g.M,5,none⟩=some (.bool g.even):=h.hM.aj rfl
theorem gu.amo (h:gu NB B S w g) (i:Nat):w.frozen? ⟨g.M,i,none⟩=false:=h.hM.frozen i
theorem gu.row (h:gu NB B S w g) {k j:Nat} (hk:k<NB) (hj:j<4):w.cell? ⟨g.ML,k*4+j,none⟩=(PN (Gc.at_ g.l k))[j]?/\w.frozen? ⟨g.ML,k*4+j,none⟩=false:=by
 have hl:=h.len;have e:Gc.at_ g.l k=g.l[k]'ae:=by rw[Gc.at_,List.getD_eq_getElem?_getD,List.getElem?_eq_getElem ae];rfl
 rw[e];exact h.hL.iH ae hj
theorem gu.r0 (h:gu NB B S w g) {k:Nat} (hk:k<NB):w.cell? ⟨g.ML,k*4,none⟩=some (.int .i64 ((Gc.at_ g.l k).st:Int))/\w.frozen? ⟨g.ML,k*4,none⟩=false:=h.row hk (j:=0) ae
theorem gu.r1 (h:gu NB B S w g) {k:Nat} (hk:k<NB):w.cell? ⟨g.ML,k*4+1,none⟩=some (.int .i64 ((Gc.at_ g.l k).live:Int))/\w.frozen? ⟨g.ML,k*4+1,none⟩=false:=h.row hk (j:=1) ae
theorem gu.r2 (h:gu NB B S w g) {k:Nat} (hk:k<NB):w.cell? ⟨g.ML,k*4+2,none⟩=some (.int .i64 ((Gc.at_ g.l k).aQ:Int))/\w.frozen? ⟨g.ML,k*4+2,none⟩=false:=h.row hk (j:=2) ae
theorem gu.r3 (h:gu NB B S w g) {k:Nat} (hk:k<NB):w.cell? ⟨g.ML,k*4+3,none⟩=some (.int .i64 ((Gc.at_ g.l k).nx:Int))/\w.frozen? ⟨g.ML,k*4+3,none⟩=false:=h.row hk (j:=3) ae
theorem gu.arr (h:gu NB B S w g):jv 4 PN w w.heap.size (some ⟨g.ML,0,none⟩) NB g.l:=h.hL.arr (by rw[h.len];have:=h.nb;omega)
theorem at_set (l:List Bk) {k:Nat} (y:Bk) (hk:k<l.length):Gc.at_ (l.set k y) k=y:=by rw[Gc.at_,List.getD_eq_getElem?_getD,List.getElem?_set_self hk];rfl
theorem fV (l:List Bk) {k j:Nat} (y:Bk) (hj:j≠k):Gc.at_ (l.set k y) j=Gc.at_ l j:=by rw[Gc.at_,List.getD_eq_getElem?_getD,List.getElem?_set_ne (Ne.symm hj)];rfl
end
end
section
open Go.RowKit

theorem ajv (a b c:Value):∀u:World,(Instr.field 60 (.agg #[a,b,c]) 0).run prog u= .ok a u:=λu=>az
theorem ajB (a b c:Value):∀u:World,(Instr.field 60 (.agg #[a,b,c]) 1).run prog u= .ok b u:=λu=>az
theorem MB (a b c:Value):∀u:World,(Instr.field 60 (.agg #[a,b,c]) 2).run prog u= .ok c u:=λu=>az
section
variable {NB B:Nat} {S:Nat->Prop} {w:World} {g:Mg}
theorem BD (h:gu NB B S w g):
  Calls prog 311 #[g.M] w λe w'=>e= .returned (.int .i64 0)/\w=w':=by
 have m0:=h.m0;have HU:=ag (qF h.hc);clear h
 go_in
 go_wp2_with fail;refine(HU.o).mono ?_;rintro e w_ ⟨rfl,rfl⟩;go_wp2;go_ret;exact⟨rfl,rfl⟩
theorem pM (h:gu NB B S w g):
  Calls prog 310 #[g.M] w λe w'=>e= .returned (.int .i64 8)/\Below w.heap.size w w':=by
 have m0:=h.m0;have HU:=ag (dU h.hc);clear h
 go_in
 go_wp2_with fail;refine HU.o.mono ?_;rintro e w1 ⟨rfl,hb⟩;have HB:=ag hb;clear hb m0;have hf:=ajB (.int .i64 NB) (.int .i64 8) (.int .i64 64);unfold uf;go_wp2;go_ret;exact⟨rfl,HB.o⟩
theorem PU (h:gu NB B S w g) {k:Nat} (hk:k<NB):
  Calls prog 244 #[g.M,.int .i64 k] w λe w'=>e= .returned (.bool (Gc.good (Gc.at_ g.l k)))/\w=w':=by
 have m1:=h.m1;have r0:=(h.r0 hk).1;have g1:(0:Int)<=(k:Int):=ae;have g2:(k:Int)<(NB:Int):=ae;clear h hk
 go_in
 go_wp2;go_ret;exact⟨rfl,rfl⟩
def fP (x:Bk):Bk:=⟨if x.st=2/\x.live-1=0 then 3 else x.st,x.live-1,x.aQ,x.nx⟩
theorem Tu (h:gu NB B S w g) {k:Nat} (hk:k<NB) (hg:Gc.good (Gc.at_ g.l k)=true) (hv:0<(Gc.at_ g.l k).live) (hv2:(Gc.at_ g.l k).live<=1000):
  Calls prog 202 #[g.M,.int .i64 k] w λe w'=>e= .returned (.int .i64 0)/\gu NB B S w' {g with l:=g.l.set k (fP (Gc.at_ g.l k))}/\Kq (λq=>q=g.ML) w w':=by
 have HT:=ag (PU h hk);rw[hg] at HT;have hlen:=h.len;have m1:=h.m1;have r1:=(h.r1 hk).1;have f1:=(h.r1 hk).2;obtain⟨x,hx⟩:=bu (Gc.at_ g.l k);rw[<-hx] at r1 hv hv2⊢;have h1:=h.Je hk (j:=1) ae (.int .i64 ((x.live-1:Nat):Int)) {x with live:=x.live-1} (by rw[<-hx];rfl);have m1':=h1.m1;have s0:=h1.r0 hk;have s1:=(h1.r1 hk).1;rw[at_set _ _ ae] at s0 s1;obtain⟨s0,t0⟩:=s0;have k1:Kq (λq=>q=g.ML) w (w.setCell ⟨g.ML,k*4+1,none⟩ (.int .i64 ((x.live-1:Nat):Int))):=Kq.one ⟨_,_,none⟩ _;have h2:=h1.Je hk (j:=0) ae (.int .i64 3) ⟨3,x.live-1,x.aQ,x.nx⟩ (by rw[at_set _ _ ae];rfl);have k2:=k1.setCell (p:=⟨g.ML,k*4+0,none⟩) (.inl rfl) (.int .i64 3);have e2:(g.l.set k {x with live:=x.live-1}).set k ⟨3,x.live-1,x.aQ,x.nx⟩=g.l.set k ⟨3,x.live-1,x.aQ,x.nx⟩:=List.set_set ..;simp only[e2,Nat.add_zero] at h2 k2;have H1:=ag h1;have H2:=ag h2;have mF:=ag k1;have rD:=ag k2;have hd:decide ((x.live:Int)=0)=false:=decide_eq_false ae;have hd2:((x.live:Int)==0)=false:=by rw[beq_eq_false_iff_ne];omega
 have e1:((x.live-1:Nat):Int)=(x.live:Int)-1:=ae;rw[e1] at H1 H2 mF rD m1' s0 s1 t0;have g1:(0:Int)<=(k:Int):=ae;have g2:(k:Int)<(NB:Int):=ae;have i1:=IntWalk.i64_in ((x.live:Int)-1) ⟨ae,ae⟩;have HX:=ag hx;have HE1:=ag e1;clear h hg h1 h2 k1 k2 hx e2 e1;simp only at m1' s0 s1
 go_in
 go_wp2_with fail;refine(HT.o).mono ?_;rintro e w_ ⟨rfl,rfl⟩;go_upto_region 6 with fail;generalize w.setCell ⟨g.ML,k*4+1,none⟩ (.int .i64 ((x.live:Int)-1))=w1 at*;clear m1 r1 f1;by_cases hs:x.st=2
 ·by_cases hz:x.live=1
  ·have e3:fP x=⟨3,x.live-1,x.aQ,x.nx⟩:=by unfold fP;rw[if_pos ⟨hs,ae⟩]
   have E3:=ag e3;rw[hs] at s0;rw[hz] at s1;clear hs hz e3;go_wp2_with fail;go_ret;exact⟨rfl,by rw[E3.o];exact H2.o,rD.o⟩
  ·have e3:fP x={x with live:=x.live-1}:=by unfold fP;rw[if_neg (λh=>by have:=h.2;omega)]
   have yU:((x.live:Int)-1==0)=false:=by rw[beq_eq_false_iff_ne];omega
   have E3:=ag e3;rw[hs] at s0;clear hs hz e3;go_wp2_with fail;go_ret;exact⟨rfl,by rw[E3.o];exact H1.o,mF.o⟩
 ·have e3:fP x={x with live:=x.live-1}:=by unfold fP;rw[if_neg (λh=>hs h.1)]
  have mr:((x.st:Int)==2)=false:=by rw[beq_eq_false_iff_ne];omega
  have E3:=ag e3;clear hs e3;go_wp2_with fail;go_ret;exact⟨rfl,by rw[E3.o];exact H1.o,mF.o⟩
end
end
section
open Go.RowKit

namespace Gap
def hi (f:Nat->Nat):Nat->Nat
 |0=>0
 |k+1=>if k=0\/hi f k<f k then f k else hi f k
end Gap
section
variable {NB B C BL:Nat} {S:Nat->Prop} {w:World} {ps:Nat->Nat} {bl:Nat->Pb}
end
end
end Go.Proofs.YtnieckfelfoopaaGreat

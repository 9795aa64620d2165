import Derived.Test.YtnieckfelfoopaaGreatMany
import Derived.Test.YtnieckfelfoopaaGreatSlClone
import Derived.Deep.DeepCutAuto
open Go.Proofs.Tryz (prog)
namespace Go.Proofs.YtnieckfelfoopaaGreat
open Lib (hid)
set_option maxRecDepth 100000
set_option maxHeartbeats 16000000
section
open Go.RowKit

structure Bv where
 pages:Value
 next:Int
 broken:Bool
 bad:Bool
 aQ:Int
def CE (x:Bv):List Value:=[x.pages,.int .i64 x.next,.bool x.broken,.bool x.bad,.int .i64 x.aQ]
theorem ab7 (x:Bv):(CE x).length=5:=rfl
def Ai (v:Value):Value:=v
structure Fv where
 no:Int
 kind:Int
 data:Value
def fvL (x:Fv):List Value:=[.int .i64 x.no,.int .i64 x.kind,x.data]
theorem al8 (x:Fv):(fvL x).length=3:=rfl
structure Fl where
 no:Int
 kind:Int
 data:List UInt8
def IM (w:World) (N0:Nat) (v:Value):Option (List UInt8)->Prop
 |none=>v= .slice none 0 0
 |some L=>0<L.length/\Own aH 5 w N0 v L
theorem IM.on {w w':World} {N0:Nat} {v:Value} {o:Option (List UInt8)} (h:IM w N0 v o) (hb:Below w.heap.size w w'):IM w' N0 v o:=by
 cases o with
 |none=>exact h
 |some L=>exact⟨h.1,h.2.on hb⟩
theorem YM {α:Type} {f:α->Value} {e:TypeId} {w:World} {N0:Nat} {v:Value} {xs:List α} (h:Own f e w N0 v xs) {p:Addr} (hp:p.block<N0) (u:Value):Own f e (w.setCell p u) N0 v xs:=
 h.far (λe=>by have:=(h.aP _ e).1;omega) u
theorem IM.far {w:World} {N0:Nat} {v:Value} {o:Option (List UInt8)} (h:IM w N0 v o) {p:Addr} (hp:p.block<N0) (u:Value):IM (w.setCell p u) N0 v o:=by
 cases o with
 |none=>exact h
 |some L=>exact⟨h.1,YM h.2 hp u⟩
def La (w:World) (N0:Nat) (fv:Value) (fs:List Fl):Prop:=
 ∃rows:List Fv,dK 3 fvL 35 w N0 fv rows/\rows.length=fs.length/\∀i (h1:i<rows.length) (h2:i<fs.length),rows[i].no=fs[i].no/\rows[i].kind=fs[i].kind/\Own aH 5 w N0 rows[i].data fs[i].data
theorem La.on {w w':World} {N0:Nat} {fv:Value} {fs:List Fl} (h:La w N0 fv fs) (hb:Below w.heap.size w w'):La w' N0 fv fs:=by obtain⟨rows,h1,h2,h3⟩:=h;exact⟨rows,h1.on hb,h2,λi a b=>⟨(h3 i a b).1,(h3 i a b).2.1,(h3 i a b).2.2.on hb⟩⟩
theorem La.far {w:World} {N0:Nat} {fv:Value} {fs:List Fl} (h:La w N0 fv fs) {p:Addr} (hp:p.block<N0) (u:Value):La (w.setCell p u) N0 fv fs:=by obtain⟨rows,h1,h2,h3⟩:=h;exact⟨rows,h1.far (λe=>by have:=(h1.aP _ e).1;omega) u,h2,λi a b=>⟨(h3 i a b).1,(h3 i a b).2.1,YM (h3 i a b).2.2 hp u⟩⟩
theorem La.nil (w:World) (N0:Nat):La w N0 (.slice none 0 0) []:=⟨[],dK.nil al8 w N0,rfl,λi h=>absurd h au⟩
structure Cn where
 fv:Value
 si:Nat
 dn:Bool
 sk:Nat
 rd:Nat
def chA (BL:Nat) (x:Cn):Array Value:=#[.int .i64 16,.int .i64 8,.int .i64 64,.slice (some ⟨BL,0,none⟩) 16 16,x.fv,.int .i64 (x.si:Int),.bool x.dn,.int .i64 (x.sk:Int),.int .i64 (x.rd:Int)]
def Dis (base N0 C BL P:Nat):Prop:=C≠BL/\C≠P/\BL≠P/\C<N0/\BL<N0/\P<N0/\base<=C/\base<=BL/\base<=P
structure mM (base N0:Nat) (w:World) (C BL P K:Nat) (x:Cn) (nx:Nat) (ls:Nat->Option (List UInt8)) (fs:List Fl):Prop where
 hC:aF w C 76 (chA BL x)
 hB:∃bs:List Bv,bs.length=16/\bs[K]?=some ⟨.slice (some ⟨P,0,none⟩) 8 8,nx,false,false,0⟩/\dK 5 CE 121 w base (.slice (some ⟨BL,0,none⟩) 16 16) bs
 hP:∃xs:List Value,xs.length=8/\Own Ai 23 w base (.slice (some ⟨P,0,none⟩) 8 8) xs/\∀i (h:i<xs.length),IM w N0 xs[i] (ls i)
 hF:La w N0 x.fv fs
 JG:Dis base N0 C BL P
 hK:K<16
 hN:N0<=w.heap.size
structure Kp (C BL P:Nat) (w w':World):Prop where
 os:w'.os=w.os
 tape:w'.tape=w.tape
 output:w'.output=w.output
 size:w.heap.size<=w'.heap.size
 block:∀k,k<w.heap.size->k≠C->k≠BL->k≠P->w'.heap[k]?=w.heap[k]?
theorem Kp.refl (C BL P:Nat) (w:World):Kp C BL P w w:=⟨rfl,rfl,rfl,Nat.le_refl _,λ_ _ _ _ _=>rfl⟩
theorem Kp.trans {C BL P:Nat} {a b c:World} (h:Kp C BL P a b) (k:Kp C BL P b c):Kp C BL P a c:=
 ⟨k.os.trans h.os,k.tape.trans h.tape,k.output.trans h.output,Nat.le_trans h.size k.size,λj hj h1 h2 h3=>(k.block j (Nat.lt_of_lt_of_le hj h.size) h1 h2 h3).trans (h.block j hj h1 h2 h3)⟩
theorem Kp.of {C BL P:Nat} {w w':World} (h:Below w.heap.size w w'):Kp C BL P w w':=⟨h.os,h.tape,h.output,h.size,λk hk _ _ _=>h.block k hk⟩
theorem Kp.on {C BL P:Nat} {a b c:World} (h:Kp C BL P a b) (k:Below b.heap.size b c):Kp C BL P a c:=h.trans (Kp.of k)
theorem Kp.setCell {C BL P:Nat} {a b:World} (h:Kp C BL P a b) {p:Addr} (hp:p.block=C\/p.block=BL\/p.block=P) (u:Value):Kp C BL P a (b.setCell p u):=
 h.trans ⟨rfl,rfl,rfl,au,λk _ h1 h2 h3=>heap_setCell_other b p k u (by rcases hp with e|e|e<;>rw[e]<;>assumption)⟩
theorem Kp.below {C BL P base:Nat} {w w':World} (h:Kp C BL P w w') (h1:base<=C) (h2:base<=BL) (h3:base<=P) (hb:base<=w.heap.size):Below base w w':=
 ⟨h.os,h.tape,h.output,h.size,λk hk=>h.block k ae ae ae ae⟩
theorem Own.kp {α:Type} {f:α->Value} {e:TypeId} {C BL P N0:Nat} {w w':World} {v:Value} {xs:List α} (h:Own f e w N0 v xs) (hk:Kp C BL P w w') (h1:C<N0) (h2:BL<N0) (h3:P<N0):Own f e w' N0 v xs:=by
 refine⟨h.1,?_⟩;rcases h.2 with h2'|⟨g,cap,cur,hv,jr,hg,r⟩
 ·exact Or.inl h2'
 ·refine Or.inr ⟨g,cap,cur,hv,jr,?_,r⟩;have aU:g<w.heap.size:=by
   rcases Nat.lt_or_ge g w.heap.size with aU|Fb
   ·exact aU
   ·rw[Array.getElem?_eq_none Fb] at hg;cases hg
  exact(hk.block g aU ae ae ae).trans hg
variable {base N0 C BL P K nx:Nat} {w w':World} {x:Cn} {ls:Nat->Option (List UInt8)} {fs:List Fl}
theorem mM.on (h:mM base N0 w C BL P K x nx ls fs) (hb:Below w.heap.size w w'):mM base N0 w' C BL P K x nx ls fs:=by obtain⟨h1,⟨bs,b1,b2,b3⟩,⟨xs,x1,x2,x3⟩,h4,h5,h6,h7⟩:=h;exact⟨h1.ah hb,⟨bs,b1,b2,b3.on hb⟩,⟨xs,x1,x2.on hb,λi hi=>(x3 i hi).on hb⟩,h4.on hb,h5,h6,Nat.le_trans h7 hb.size⟩
theorem ak (w:World):Below w.heap.size w w.drew:=⟨rfl,rfl,rfl,Nat.le_refl _,λ_ _=>rfl⟩
theorem mM.drew (h:mM base N0 w C BL P K x nx ls fs):mM base N0 w.drew C BL P K x nx ls fs:=h.on (ak w)
theorem mM.aat {x':Cn} (h:mM base N0 w C BL P K x nx ls fs) (i:Nat) (u:Value) (hx:(chA BL x).setIfInBounds i u=chA BL x') (hf:x'.fv=x.fv):mM base N0 (w.setCell ⟨C,i,none⟩ u) C BL P K x' nx ls fs:=by obtain⟨h1,⟨bs,b1,b2,b3⟩,⟨xs,x1,x2,x3⟩,h4,h5,h6,h7⟩:=h;have hd:=h5;obtain⟨d1,d2,d3,d4,d5,d6,d7⟩:=h5;refine⟨?_,⟨bs,b1,b2,b3.far (by simpa[Value.ownBlock] using Ne.symm d1) u⟩,⟨xs,x1,x2.far (by simpa[Value.ownBlock] using Ne.symm d2) u,λj hj=>(x3 j hj).far d4 u⟩,by rw[hf];exact h4.far d4 u,hd,h6,by simpa using h7⟩;rw[<-hx];exact h1.set i u
theorem mM.al5 {v:Value} {L:List UInt8} (h:mM base N0 w C BL P K x nx ls fs) (k:Nat) (hv:IM w N0 v (some L)):mM base N0 (w.setCell ⟨P,k,none⟩ v) C BL P K x nx (λi=>if i=k then some L else ls i) fs:=by
 obtain⟨h1,⟨bs,b1,b2,b3⟩,⟨xs,x1,x2,x3⟩,h4,h5,h6,h7⟩:=h;have hd:=h5;obtain⟨d1,d2,d3,d4,d5,d6,d7⟩:=h5;refine⟨h1.far d2 v,⟨bs,b1,b2,b3.far (by simpa[Value.ownBlock] using d3) v⟩,⟨xs.set k v,by rw[List.length_set];exact x1,x2.set k v,λj hj=>?_⟩,h4.far d6 v,hd,h6,by simpa using h7⟩;rw[List.length_set] at hj;by_cases e:j=k
 ·subst e;rw[List.getElem_set_self,if_pos rfl];exact hv.far d6 v
 ·rw[List.getElem_set_ne (Ne.symm e),if_neg e];exact(x3 j hj).far d6 v
theorem mM.al6 (h:mM base N0 w C BL P K x nx ls fs) (m:Nat):mM base N0 (w.setCell ⟨BL,K*5+1,none⟩ (.int .i64 m)) C BL P K x m ls fs:=by
 obtain⟨h1,⟨bs,b1,b2,b3⟩,⟨xs,x1,x2,x3⟩,h4,h5,h6,h7⟩:=h;have hd:=h5;obtain⟨d1,d2,d3,d4,d5,d6,d7⟩:=h5;have hk:K<bs.length:=ae;have e2:bs[K]=⟨.slice (some ⟨P,0,none⟩) 8 8,nx,false,false,0⟩:=by rw[List.getElem?_eq_getElem hk] at b2;exact Option.some.inj b2
 refine⟨h1.far d1 _,⟨bs.set K ⟨.slice (some ⟨P,0,none⟩) 8 8,m,false,false,0⟩,by rw[List.length_set];exact b1,by rw[List.getElem?_set_self hk],b3.set (i:=K) (j:=1) hk ae (by rw[e2];rfl)⟩,⟨xs,x1,x2.far (by simpa[Value.ownBlock] using Ne.symm d3) _,λj hj=>(x3 j hj).far d5 _⟩,h4.far d5 _,hd,h6,by simpa using h7⟩
theorem mM.ad9 (h:mM base N0 w C BL P K x nx ls fs) (i:Nat):w.frozen? ⟨C,i,none⟩=false:=h.hC.frozen i
theorem mM.YN (h:mM base N0 w C BL P K x nx ls fs):∀j (_:j<5),w.cell? ⟨BL,K*5+j,none⟩=(CE ⟨.slice (some ⟨P,0,none⟩) 8 8,nx,false,false,0⟩)[j]?/\w.frozen? ⟨BL,K*5+j,none⟩=false:=by
 intro j hj;obtain⟨bs,b1,b2,b3⟩:=h.hB;have hk:K<bs.length:=by have:=h.hK;omega
 have e2:bs[K]=⟨.slice (some ⟨P,0,none⟩) 8 8,nx,false,false,0⟩:=by rw[List.getElem?_eq_getElem hk] at b2;exact Option.some.inj b2
 rw[<-e2];exact b3.iH hk hj
theorem mM.c1 (h:mM base N0 w C BL P K x nx ls fs):w.cell? ⟨C,1,none⟩=some (.int .i64 8):=h.hC.aj rfl
theorem mM.c2 (h:mM base N0 w C BL P K x nx ls fs):w.cell? ⟨C,2,none⟩=some (.int .i64 64):=h.hC.aj rfl
theorem mM.c3 (h:mM base N0 w C BL P K x nx ls fs):w.cell? ⟨C,3,none⟩=some (.slice (some ⟨BL,0,none⟩) 16 16):=h.hC.aj rfl
theorem mM.c4 (h:mM base N0 w C BL P K x nx ls fs):w.cell? ⟨C,4,none⟩=some (x.fv):=h.hC.aj rfl
theorem mM.c5 (h:mM base N0 w C BL P K x nx ls fs):w.cell? ⟨C,5,none⟩=some (.int .i64 (x.si:Int)):=h.hC.aj rfl
theorem mM.c6 (h:mM base N0 w C BL P K x nx ls fs):w.cell? ⟨C,6,none⟩=some (.bool x.dn):=h.hC.aj rfl
theorem mM.c7 (h:mM base N0 w C BL P K x nx ls fs):w.cell? ⟨C,7,none⟩=some (.int .i64 (x.sk:Int)):=h.hC.aj rfl
theorem mM.b0 (h:mM base N0 w C BL P K x nx ls fs):w.cell? ⟨BL,K*5,none⟩=some (.slice (some ⟨P,0,none⟩) 8 8)/\w.frozen? ⟨BL,K*5,none⟩=false:=h.YN 0 ae
theorem mM.b1 (h:mM base N0 w C BL P K x nx ls fs):w.cell? ⟨BL,K*5+1,none⟩=some (.int .i64 nx)/\w.frozen? ⟨BL,K*5+1,none⟩=false:=h.YN 1 ae
theorem mM.b2 (h:mM base N0 w C BL P K x nx ls fs):w.cell? ⟨BL,K*5+2,none⟩=some (.bool false)/\w.frozen? ⟨BL,K*5+2,none⟩=false:=h.YN 2 ae
theorem mM.b3 (h:mM base N0 w C BL P K x nx ls fs):w.cell? ⟨BL,K*5+3,none⟩=some (.bool false)/\w.frozen? ⟨BL,K*5+3,none⟩=false:=h.YN 3 ae
theorem mM.page (h:mM base N0 w C BL P K x nx ls fs) {i:Nat} (hi:i<8):∃v,w.cell? ⟨P,i,none⟩=some v/\w.frozen? ⟨P,i,none⟩=false/\IM w N0 v (ls i):=by obtain⟨xs,x1,x2,x3⟩:=h.hP;obtain⟨c1,c2⟩:=x2.iH (k:=i) ae;exact⟨xs[i],c1,c2,x3 i ae⟩
theorem mM.below (h:mM base N0 w C BL P K x nx ls fs) (hk:Kp C BL P w w'):Below base w w':=by obtain⟨d1,d2,d3,d4,d5,d6,d7,d8,d9⟩:=h.JG;have:=h.hN;exact hk.below d7 d8 d9 ae
end
section
open Go.RowKit

theorem TD (w:World):Calls prog 25 #[] w λe w'=>e= .returned (.agg #[.int .i64 16,.int .i64 8,.int .i64 64])/\Below w.heap.size w w':=by
 go_in
 go_wp2;refine bodyPost_ret (v:= .agg #[.int .i64 16,.int .i64 8,.int .i64 64]) (by simp[results,Tryz.results25,go_sem]) rfl ⟨rfl,?_⟩;exact(Below.refl _ _).alloc (Nat.le_refl _) _
theorem TE (b o:Nat) (w:World) (h:w.cell? ⟨b,o,none⟩=some (.int .i64 64)):
  Calls prog 163 #[.slice (some ⟨b,o,none⟩) 4 4,.int .i64 64] w λe w'=>e= .returned (.int .i64 0)/\w=w':=by
 go_in
 go_wp2
 go_loop [5,8] (λ_ i=>i= .int .i64 0) (λ_ _=>0)
 case atStart=>exact rfl
 case round=>subst hrel;go_wp2;go_ret;exact⟨rfl,rfl⟩
theorem IP (b o:Nat) (w:World) (h:w.cell? ⟨b,o,none⟩=some (.int .i64 64)):
  Calls prog 110 #[.slice (some ⟨b,o,none⟩) 4 4,.int .i64 64] w λe w'=>e= .returned (.bool true)/\w=w':=by
 have HI:=ag (TE b o w h);clear h
 go_in
 go_wp2_with fail;refine(HI.o).mono ?_;rintro e w_ ⟨rfl,rfl⟩;go_wp2;go_ret;exact⟨rfl,rfl⟩
theorem Ec (n:Int) (yK:8<=n) (J5:n<=128) (w:World):Calls prog 57 #[.agg #[.int .i64 n,.int .i64 8,.int .i64 64]] w λe w'=>e= .returned (.bool true)/\Below w.heap.size w w':=by
 have B1:=(aF.new w 60 #[.int .i64 n,.int .i64 8,.int .i64 64]).alloc (.cells #[.int .i64 64,.int .i64 128,.int .i64 256,.int .i64 512] 178);have B2:=aF.new (w.alloc (.cells #[.int .i64 n,.int .i64 8,.int .i64 64] 60)) 178 #[.int .i64 64,.int .i64 128,.int .i64 256,.int .i64 512];rw[World.size_alloc] at B2;have hb:=((Below.refl w.heap.size w).alloc (Nat.le_refl _) (.cells #[.int .i64 n,.int .i64 8,.int .i64 64] 60)).alloc au (.cells #[.int .i64 64,.int .i64 128,.int .i64 256,.int .i64 512] 178);obtain⟨w2,jP⟩:=bu ((w.alloc (.cells #[.int .i64 n,.int .i64 8,.int .i64 64] 60)).alloc (.cells #[.int .i64 64,.int .i64 128,.int .i64 256,.int .i64 512] 178));obtain⟨g,hg⟩:=bu w.heap.size;obtain⟨g2,pR⟩:=bu (w.heap.size+1);rw[<-jP] at B1 B2 hb;rw[<-hg] at B1;rw[<-pR] at B2;have HB:=ag hb;have dw:=ag B1;have dA:=ag B2;have HC:=ag (λu (h:aF u g2 178 #[.int .i64 64,.int .i64 128,.int .i64 256,.int .i64 512])=>IP g2 0 u (h.aj (i:=0) rfl));have k1:¬n<8:=ae;have k2:¬128<n:=ae;have k3:decide ((8:Int)<=n)=true:=decide_eq_true yK;have k4:decide (n<=(128:Int))=true:=decide_eq_true J5;clear B1 B2 hb
 go_in
 go_wp2_with fail;rw[<-jP,<-pR,<-hg];clear jP hg pR;refine iT (λW'=>aF W' g 60 #[.int .i64 n,.int .i64 8,.int .i64 64]/\aF W' g2 178 #[.int .i64 64,.int .i64 128,.int .i64 256,.int .i64 512]) ⟨dw.o,dA.o⟩ (λbJ=>?_);refine aS 0 g 0 ?_;refine jH 1 n (λ_ aI=>(aI.1.aj (i:=0) rfl)) ?_;refine fE 2 (.bool true) ?_;refine fB 3 (.bool true) ?_;refine aS 4 g 0 ?_;refine jH 5 n (λ_ aI=>(aI.1.aj (i:=0) rfl)) ?_;refine fE 6 (.bool true) ?_;refine fE 7 (.bool true) ?_;refine fB 8 (.bool true) ?_;refine aS 9 g 1 ?_;refine jH 10 8 (λ_ aI=>(aI.1.aj (i:=1) rfl)) ?_;refine fE 11 (.bool true) ?_;refine fE 12 (.bool true) ?_;refine fB 13 (.bool true) ?_;refine aS 14 g 1 ?_;refine jH 15 8 (λ_ aI=>(aI.1.aj (i:=1) rfl)) ?_;refine fE 16 (.bool true) ?_;refine fE 17 (.bool true) ?_;refine fB 18 (.bool true) ?_;refine fE 19 (.slice (some ⟨g2,0,none⟩) 4 4) ?_;refine aS 20 g 2 ?_;refine jH 21 64 (λ_ aI=>(aI.1.aj (i:=2) rfl)) ?_;refine dm 22 (λK' hK=>?_);go_simp;refine(HC.o _ bJ.2).mono ?_;rintro e w_ ⟨rfl,rfl⟩;refine hK.out _ _ bJ (λdH=>?_)
 try simp only[aO]
 refine fE 23 (.bool true) ?_;refine fB 24 (.bool true) ?_;refine gB ?_;clear bJ dH;go_wp2_with fail;go_ret;exact⟨rfl,HB.o.drew⟩
end
section
open Go.RowKit

def bv0:Bv:=⟨.slice none 0 0,0,false,false,0⟩
def IQ:List Bv:=List.replicate 16 bv0
def kJ:List Value:=List.replicate 8 (.slice none 0 0)
theorem ah1 (u:World):(Instr.makeSlice 74 (.int .i64 16) (.int .i64 16)).run prog u= .ok (.slice (some ⟨u.heap.size,0,none⟩) 16 16) (u.alloc (.cells (IQ.flatMap CE).toArray 121)):=by
 kernel_rfl
theorem NP (u:World):(Instr.makeSlice 119 (.int .i64 8) (.int .i64 8)).run prog u= .ok (.slice (some ⟨u.heap.size,0,none⟩) 8 8) (u.alloc (.cells (kJ.map Ai).toArray 23)):=by
 kernel_rfl
theorem al9 (u:World) (base:Nat) (hb:base<=u.heap.size):dK 5 CE 121 (u.alloc (.cells (IQ.flatMap CE).toArray 121)) base (.slice (some ⟨u.heap.size,0,none⟩) 16 16) IQ:=
 ⟨ab7,JR,.inr ⟨u.heap.size,16,_,rfl,hb,heap_alloc_new u _,Nat.le_refl _,aB,JR,JR⟩⟩
theorem Vl (u:World) (base:Nat) (hb:base<=u.heap.size):Own Ai 23 (u.alloc (.cells (kJ.map Ai).toArray 23)) base (.slice (some ⟨u.heap.size,0,none⟩) 8 8) kJ:=
 ⟨JR,.inr ⟨u.heap.size,8,_,rfl,hb,heap_alloc_new u _,Nat.le_refl _,aB,JR,JR⟩⟩
def cn0:Cn:=⟨.slice none 0 0,0,false,0,0⟩
structure BlI (base K:Nat) (w wr:World) (k:Nat):Prop where
 hG:aF wr base 60 #[.int .i64 16,.int .i64 8,.int .i64 64]
 hC:aF wr (base+2) 76 (chA (base+1) cn0)
 hB:∃bs:List Bv,bs.length=16/\dK 5 CE 121 wr base (.slice (some ⟨base+1,0,none⟩) 16 16) bs/\(k<=K->bs[K]?=some bv0)/\
  (K<k->∃P,bs[K]?=some ⟨.slice (some ⟨P,0,none⟩) 8 8,0,false,false,0⟩/\Own Ai 23 wr base (.slice (some ⟨P,0,none⟩) 8 8) kJ/\base+2<P)
 hb:Below base w wr
theorem BlI.on {base K k:Nat} {w wr w':World} (h:BlI base K w wr k) (hb:Below wr.heap.size wr w'):BlI base K w w' k:=by obtain⟨h1,h2,⟨bs,b1,b2,b3,b4⟩,h4⟩:=h;have ja:base<=wr.heap.size:=Nat.le_of_lt h1.lt;exact⟨h1.ah hb,h2.ah hb,⟨bs,b1,b2.on hb,b3,λhk=>by obtain⟨P,p1,p2,p3⟩:=b4 hk;exact⟨P,p1,p2.on hb,p3⟩⟩,h4.trans (hb.mono ja)⟩
theorem BlI.step {base K k:Nat} {w wr:World} (h:BlI base K w wr k) (hk:k<16):
  BlI base K w ((wr.alloc (.cells (kJ.map Ai).toArray 23)).setCell ⟨base+1,k*5,none⟩ (.slice (some ⟨wr.heap.size,0,none⟩) 8 8)) (k+1):=by
 have aU:=h.hC.lt;have ho:=Vl wr base ae;obtain⟨h1,h2,⟨bs,b1,b2,b3,b4⟩,h4⟩:=h.on ((Below.refl wr.heap.size wr).alloc (Nat.le_refl _) (.cells (kJ.map Ai).toArray 23));have b5:∀hKk:K<k,∃P,bs[K]?=some ⟨.slice (some ⟨P,0,none⟩) 8 8,0,false,false,0⟩/\Own Ai 23 (wr.alloc (.cells (kJ.map Ai).toArray 23)) base (.slice (some ⟨P,0,none⟩) 8 8) kJ/\base+2<P:=b4;generalize wr.alloc (.cells (kJ.map Ai).toArray 23)=wp at*;have hkb:k<bs.length:=ae;have Aj:=b2.set (i:=k) (j:=0) (u:= .slice (some ⟨wr.heap.size,0,none⟩) 8 8) (y:={bs[k] with pages:= .slice (some ⟨wr.heap.size,0,none⟩) 8 8}) hkb ae rfl;refine⟨h1.far au _,h2.far au _,⟨_,by rw[List.length_set];exact b1,Aj,λhle=>?_,λqw=>?_⟩,h4.setCell (p:=⟨base+1,k*5,none⟩) au _⟩
 ·rw[List.getElem?_set_ne ae];exact b3 ae
 ·by_cases e:K=k
  ·subst e;refine⟨wr.heap.size,?_,ho.far (by simp[Value.ownBlock];omega) _,aU⟩;have hz:=b3 (Nat.le_refl _);rw[List.getElem?_eq_getElem hkb] at hz;rw[List.getElem?_set_self hkb,Option.some.inj hz];rfl
  ·obtain⟨P,p1,p2,p3⟩:=b5 ae;exact⟨P,by rw[List.getElem?_set_ne ae];exact p1,p2.far (by simp[Value.ownBlock];omega) _,p3⟩
theorem TC (K:Nat) (hK:K<16) (w:World):
  Calls prog 58 #[.agg #[.int .i64 16,.int .i64 8,.int .i64 64]] w λe w'=>e= .returned (.pointer (some ⟨w.heap.size+2,0,none⟩))/\BlI w.heap.size K w w' 16:=by
 have B1:=aF.new w 60 #[.int .i64 16,.int .i64 8,.int .i64 64];have hb:=(Below.refl w.heap.size w).alloc (Nat.le_refl _) (.cells #[.int .i64 16,.int .i64 8,.int .i64 64] 60);obtain⟨w1,jw⟩:=bu (w.alloc (.cells #[.int .i64 16,.int .i64 8,.int .i64 64] 60));obtain⟨g,hg⟩:=bu w.heap.size;have iO:w1.heap.size=g+1:=by rw[jw,hg];simp
 rw[<-jw] at B1 hb;rw[<-hg] at B1 hb⊢;have Ak:=ag (show aF w1.drew g 60 #[.int .i64 16,.int .i64 8,.int .i64 64] from B1);have HB:=ag hb;have nZ:=ag iO;have uY:=ah1 w1.drew;have HBg:=ag B1;have hC0:=aF.new (w1.alloc (.cells (IQ.flatMap CE).toArray 121)) 76 (chA (g+1) cn0);have hG0:=(B1.alloc (.cells (IQ.flatMap CE).toArray 121)).alloc (.cells (chA (g+1) cn0) 76);have hO0:=(al9 w1 g ae).alloc (.cells (chA (g+1) cn0) 76);have hB0:=(hb.alloc ae (.cells (IQ.flatMap CE).toArray 121)).alloc (by simp;omega) (.cells (chA (g+1) cn0) 76);rw[World.size_alloc,iO] at hC0;rw[iO] at hO0;have HI:=ag (show BlI g K w ((w1.alloc (.cells (IQ.flatMap CE).toArray 121)).alloc (.cells (chA (g+1) cn0) 76)) 0 from⟨hG0,hC0,⟨IQ,rfl,hO0,λ_=>by unfold IQ;rw[List.getElem?_replicate,if_pos hK],λh=>absurd h ae⟩,hB0⟩);clear B1 hb hC0 hG0 hO0 hB0
 go_in
 go_wp2_with fail;rw[<-jw,<-hg];clear jw hg iO;refine iT (λW'=>aF W' g 60 #[.int .i64 16,.int .i64 8,.int .i64 64]) Ak.o (λbJ=>?_);refine jy 0 (.agg #[.int .i64 16,.int .i64 8,.int .i64 64]) rfl (λ_ aI=>by have y0:=aI.aj (i:=0) rfl;have y1:=aI.aj (i:=1) rfl;have y2:=aI.aj (i:=2) rfl;go_simp) ?_;refine aS 1 g 0 ?_;refine jH 2 16 (λ_ aI=>aI.aj (i:=0) rfl) ?_;refine dm 3 (λK' hK=>?_);go_simp;refine hK.out _ _ (HBg.o.alloc _).drew (λdH=>?_)
 try simp only[aO]
 refine fE 4 (.agg #[.int .i64 16,.int .i64 8,.int .i64 64,.slice (some ⟨w1.heap.size,0,none⟩) 16 16,.slice none 0 0,.int .i64 0,.bool false,.int .i64 0,.int .i64 0]) ?_;refine dm 5 (λK' hK=>?_);go_simp;refine hK.out _ _ ((HBg.o.alloc _).alloc _).drew (λgm=>?_)
 try simp only[aO]
 refine dP 6 (w1.heap.size+1) 0 ?_;refine gB ?_;clear bJ dH gm uY;rw[nZ.o];change Exit.then _ _ _ _ ((w1.alloc (.cells (IQ.flatMap CE).toArray 121)).alloc (.cells (chA (g+1) cn0) 76)).drew;have yL:=HI.o.on (ak _);generalize ((w1.alloc (.cells (IQ.flatMap CE).toArray 121)).alloc (.cells (chA (g+1) cn0) 76)).drew=w3 at*;have c3:w3.cell? ⟨g+1+1,3,none⟩=some (.slice (some ⟨g+1,0,none⟩) 16 16):=yL.hC.aj rfl;have HJ:=ag yL;clear HI yL HB Ak HBg nZ;go_wp2_with fail
 go_loopw [4,16] (λ_ i wr=>∃k:Nat,k<=16/\i= .int .i64 k/\BlI g K w wr k) (λ_ i _=>16-(intOf i).toNat)
 case atStart=>exact⟨0,ae,rfl,HJ.o⟩
 case round=>
  obtain⟨k,hk,rfl,hI⟩:=hrel;have HI:=ag hI;clear HJ;by_cases aU:k<16
  ·have eQ:=(hI.step aU).on (ak _);have oP:=ag eQ;have uY:=NP wr.drew;have k0:(0:Int)<=(k:Int):=ae;have k1:(k:Int)<16:=ae;have e3:wr.drew.cell? ⟨g+1+1,3,none⟩=some (.slice (some ⟨g+1,0,none⟩) 16 16):=(hI.on (ak _)).hC.aj rfl;have e1:wr.drew.cell? ⟨g,1,none⟩=some (.int .i64 8):=(hI.on (ak _)).hG.aj rfl;have hgl:=hI.hC.lt;have HA:=ag (hI.on (((Below.refl wr.heap.size wr).alloc (Nat.le_refl _) (.cells (kJ.map Ai).toArray 23)).drew));obtain⟨bs,b1,b2,_,_⟩:=HA.o.hB;obtain⟨z1,z2⟩:=b2.iH (i:=k) (j:=0) ae ae;have z3:((wr.alloc (.cells (kJ.map Ai).toArray 23)).drew).cell? ⟨g+1,k*5,none⟩=some bs[k].pages:=z1;have z4:((wr.alloc (.cells (kJ.map Ai).toArray 23)).drew).frozen? ⟨g+1,k*5,none⟩=false:=z2;clear eQ z1 z2 b2 hI;go_upto_region 5 with fail;refine iT (λW'=>W'.cell? ⟨g+1+1,3,none⟩=some (.slice (some ⟨g+1,0,none⟩) 16 16)/\W'.cell? ⟨g,1,none⟩=some (.int .i64 8)) ⟨e3,e1⟩ (λbJ=>?_);refine dP 0 (g+1+1) 0 ?_;refine aS 1 (g+1+1) 0 ?_;refine aS 2 (g+1+1) 3 ?_;refine tC 3 (.slice (some ⟨g+1,0,none⟩) 16 16) (λ_ aI=>aI.1) ?_;refine eF 4 (k:Int) ?_;refine aS 5 g 1 ?_;refine jH 6 8 (λ_ aI=>aI.2) ?_;refine dm 7 (λK' hK=>?_);go_simp;have hlC:g+1+1<wr.drew.heap.size:=hgl;have hlG:g<wr.drew.heap.size:=by show g<wr.heap.size;omega
   have fQ:=(Below.refl wr.drew.heap.size wr.drew).alloc (Nat.le_refl _) (.cells (kJ.map Ai).toArray 23);refine hK.out _ _ ⟨(fQ.cell (p:=⟨g+1+1,3,none⟩) hlC).trans bJ.1,(fQ.cell (p:=⟨g,1,none⟩) hlG).trans bJ.2⟩ (λdH=>?_)
   try simp only[aO]
   refine aS 8 (g+1) (k*5) ?_;refine aS 9 (g+1) (k*5) ?_;refine dm 10 (λK' hK=>?_);go_simp;refine hK.out _ _ ⟨(World.cell?_setCell_far _ _ _ _ au).trans dH.1,(World.cell?_setCell_far _ _ _ _ au).trans dH.2⟩ (λgm=>?_)
   try simp only[aO]
   refine gB ?_;clear bJ dH gm uY fQ;go_wp2_with fail;go_roundw
   case rel=>exact⟨k+1,ae,by go_num,oP.o⟩
   case measure=>simp[intOf];omega
  ·obtain rfl:k=16:=ae;clear hI;go_wp2_with fail;go_ret;exact⟨rfl,HI.o⟩
end
section
open Go.RowKit

structure Kq (T:Nat->Prop) (w w':World):Prop where
 os:w'.os=w.os
 tape:w'.tape=w.tape
 output:w'.output=w.output
 size:w.heap.size<=w'.heap.size
 block:∀k,k<w.heap.size->¬T k->w'.heap[k]?=w.heap[k]?
section
variable {T T':Nat->Prop} {a b c w w':World}
theorem Kq.refl (T:Nat->Prop) (w:World):Kq T w w:=⟨rfl,rfl,rfl,Nat.le_refl _,λ_ _ _=>rfl⟩
theorem Kq.trans (h:Kq T a b) (k:Kq T b c):Kq T a c:=
 ⟨k.os.trans h.os,k.tape.trans h.tape,k.output.trans h.output,Nat.le_trans h.size k.size,λj hj h1=>(k.block j (Nat.lt_of_lt_of_le hj h.size) h1).trans (h.block j hj h1)⟩
theorem Kq.of (h:Below w.heap.size w w'):Kq T w w':=⟨h.os,h.tape,h.output,h.size,λk hk _=>h.block k hk⟩
theorem Kq.on (h:Kq T a b) (k:Below b.heap.size b c):Kq T a c:=h.trans (Kq.of k)
theorem Kq.mono (h:Kq T w w') (hT:∀k,T k->T' k):Kq T' w w':=⟨h.os,h.tape,h.output,h.size,λk hk hn=>h.block k hk λh'=>hn (hT k h')⟩
theorem Kq.ay (h:Kq T a b) (k:Kq T' b c) (hT:∀k,T' k->T k\/a.heap.size<=k):Kq T a c:=
 ⟨k.os.trans h.os,k.tape.trans h.tape,k.output.trans h.output,Nat.le_trans h.size k.size,λj hj h1=>(k.block j (Nat.lt_of_lt_of_le hj h.size) λh2=>by rcases hT j h2 with h3|h3;exact h1 h3;omega).trans (h.block j hj h1)⟩
theorem Kq.setCell (h:Kq T a b) {p:Addr} (hp:T p.block\/a.heap.size<=p.block) (u:Value):Kq T a (b.setCell p u):=
 ⟨h.os,h.tape,h.output,by simpa using h.size,λk hk h1=>(heap_setCell_other b p k u λe=>by rcases hp with h2|h2;exact h1 (e▸h2);omega).trans (h.block k hk h1)⟩
theorem Kq.one (p:Addr) (u:Value):Kq (λk=>k=p.block) w (w.setCell p u):=(Kq.refl _ w).setCell (T:=λk=>k=p.block) (p:=p) (.inl rfl) u
theorem Kq.below {B:Nat} (h:Kq T w w') (hT:∀k,T k->B<=k) (hB:B<=w.heap.size):Below B w w':=
 ⟨h.os,h.tape,h.output,h.size,λk hk=>h.block k ae λh1=>by have:=hT k h1;omega⟩
theorem Kq.grown {r:Option Nat} (h:w.grownBy w' r):Kq (λk=>r=some k) w w':=⟨h.os,h.tape,h.output,h.size,λk hk h1=>h.block k hk λe=>h1 e.symm⟩
theorem aF.kq {g:Nat} {t:TypeId} {cs:Array Value} (h:aF w g t cs) (hk:Kq T w w') (hg:¬T g):aF w' g t cs:=(hk.block g h.lt hg).trans h
theorem dK.kq {α:Type} {m:Nat} {f:α->List Value} {e:TypeId} {B:Nat} {v:Value} {xs:List α} (h:dK m f e w B v xs) (hk:Kq T w w') (hv:∀g,v.ownBlock=some g->¬T g):dK m f e w' B v xs:=by
 refine⟨h.1,h.2.1,?_⟩;rcases h.2.2 with h2|⟨g,cap,cur,rfl,jr,hg,r⟩
 ·exact Or.inl h2
 ·refine Or.inr ⟨g,cap,cur,rfl,jr,?_,r⟩;have aU:g<w.heap.size:=by
   rcases Nat.lt_or_ge g w.heap.size with aU|Fb
   ·exact aU
   ·rw[Array.getElem?_eq_none Fb] at hg;cases hg
  exact(hk.block g aU (hv g rfl)).trans hg
theorem Own.kq {α:Type} {f:α->Value} {e:TypeId} {B:Nat} {v:Value} {xs:List α} (h:Own f e w B v xs) (hk:Kq T w w') (hv:∀g,v.ownBlock=some g->¬T g):Own f e w' B v xs:=by
 refine⟨h.1,?_⟩;rcases h.2 with h2|⟨g,cap,cur,rfl,jr,hg,r⟩
 ·exact Or.inl h2
 ·refine Or.inr ⟨g,cap,cur,rfl,jr,?_,r⟩;have aU:g<w.heap.size:=by
   rcases Nat.lt_or_ge g w.heap.size with aU|Fb
   ·exact aU
   ·rw[Array.getElem?_eq_none Fb] at hg;cases hg
  exact(hk.block g aU (hv g rfl)).trans hg
end
def Up (S:Nat->Prop) (w w':World):Nat->Prop:=λk=>S k\/(w.heap.size<=k/\k<w'.heap.size)
theorem ji {S:Nat->Prop} {w w':World} {k:Nat} (h:Up S w w' k) (hk:k<w.heap.size):S k:=by
 rcases h with h|h
 ·exact h
 ·omega
structure Pb where
 sS:Nat->Option (List UInt8)
 nx:Nat
 broken:Bool
 bad:Bool
 aQ:Nat
def fresh (w:Nat):Pb:=⟨λ_=>none,0,false,false,w⟩
def upd {α:Type} (f:Nat->α) (k:Nat) (v:α):Nat->α:=λj=>if j=k then v else f j
theorem upd_same {α:Type} (f:Nat->α) (k:Nat) (v:α):upd f k v k=v:=if_pos rfl
theorem bH {α:Type} (f:Nat->α) {k j:Nat} (v:α) (h:j≠k):upd f k v j=f j:=if_neg h
def JS (P:Nat) (x:Pb):Bv:=⟨.slice (some ⟨P,0,none⟩) 8 8,x.nx,x.broken,x.bad,x.aQ⟩
def chQ (NB BL:Nat) (si sk rd:Int):Array Value:=#[.int .i64 NB,.int .i64 8,.int .i64 64,.slice (some ⟨BL,0,none⟩) NB NB,.slice none 0 0,.int .i64 si,.bool false,.int .i64 sk,.int .i64 rd]
def Mu (NB C BL:Nat) (ps:Nat->Nat) (k:Nat):Prop:=k=C\/k=BL\/∃j,j<NB/\k=ps j
def PgS (S M:Nat->Prop) (w:World) (v:Value):Option (List UInt8)->Prop
 |none=>v= .slice none 0 0
 |some L=>L.length=96/\Own aH 5 w 0 v L/\∀g,v.ownBlock=some g->S g/\¬M g
theorem PgS.kq {S M T:Nat->Prop} {w w':World} {v:Value} {o:Option (List UInt8)} (h:PgS S M w v o) (hk:Kq T w w') (hT:∀k,S k->¬M k->¬T k):PgS S M w' v o:=by
 cases o with
 |none=>exact h
 |some L=>exact⟨h.1,h.2.1.kq hk λg hg=>hT g (h.2.2 g hg).1 (h.2.2 g hg).2,h.2.2⟩
theorem PgS.weaken {S S' M M':Nat->Prop} {w:World} {v:Value} {o:Option (List UInt8)} (h:PgS S M w v o) (hS:∀k,S k->S' k) (hM:∀k,S k->M' k->M k):PgS S' M' w v o:=by
 cases o with
 |none=>exact h
 |some L=>exact⟨h.1,h.2.1,λg hg=>⟨hS g (h.2.2 g hg).1,λhm=>(h.2.2 g hg).2 (hM g (h.2.2 g hg).1 hm)⟩⟩
structure awE (NB C BL:Nat) (ps:Nat->Nat):Prop where
 cb:C≠BL
 pc:∀j,j<NB->ps j≠C
 pb:∀j,j<NB->ps j≠BL
 inj:∀i j,i<NB->j<NB->ps i=ps j->i=j
structure eG (NB B:Nat) (S:Nat->Prop) (w:World) (C BL:Nat) (ps:Nat->Nat) (bl:Nat->Pb):Prop where
 hC:∃si sk rd:Int,aF w C 76 (chQ NB BL si sk rd)
 hB:dK 5 CE 121 w 0 (.slice (some ⟨BL,0,none⟩) NB NB) ((List.range NB).map λk=>JS (ps k) (bl k))
 hP:∀k,k<NB->∃xs:List Value,xs.length=8/\Own Ai 23 w 0 (.slice (some ⟨ps k,0,none⟩) 8 8) xs/\∀i (h:i<xs.length),PgS S (Mu NB C BL ps) w xs[i] ((bl k).sS i)
 JG:awE NB C BL ps
 hS:∀k,Mu NB C BL ps k->S k
 lo:∀k,S k->B<=k
 hi:∀k,S k->k<w.heap.size
section
variable {NB B C BL:Nat} {S T:Nat->Prop} {w w':World} {ps:Nat->Nat} {bl:Nat->Pb}
theorem fD (P n c:Nat) (g:Nat) (h:Value.ownBlock (.slice (some ⟨P,0,none⟩) n c)=some g):g=P:=by
 simpa[Value.ownBlock,eq_comm] using h
theorem eG.kq (h:eG NB B S w C BL ps bl) (hk:Kq T w w') (hT:∀k,S k->¬T k):eG NB B S w' C BL ps bl:=by obtain⟨⟨si,sk,rd,h1⟩,h2,h3,h4,h5,h6,h7⟩:=h;refine⟨⟨si,sk,rd,h1.kq hk (hT _ (h5 _ (.inl rfl)))⟩,h2.kq hk λg hg=>by obtain rfl:=fD _ _ _ _ hg;exact hT _ (h5 _ (.inr (.inl rfl))),λk Dq=>?_,h4,h5,h6,λk Dq=>Nat.lt_of_lt_of_le (h7 k Dq) hk.size⟩;obtain⟨xs,x1,x2,x3⟩:=h3 k Dq;exact⟨xs,x1,x2.kq hk λg hg=>by obtain rfl:=fD _ _ _ _ hg;exact hT _ (h5 _ (.inr (.inr ⟨k,Dq,rfl⟩))),λi hi=>(x3 i hi).kq hk λk hs _=>hT k hs⟩
theorem eG.on (h:eG NB B S w C BL ps bl) (hb:Below w.heap.size w w'):eG NB B S w' C BL ps bl:=h.kq (T:=λ_=>False) (Kq.of hb) λ_ _ h=>h
theorem eG.wide {S':Nat->Prop} (h:eG NB B S w C BL ps bl) (hS:∀k,S k->S' k) (lo:∀k,S' k->B<=k) (hi:∀k,S' k->k<w.heap.size):eG NB B S' w C BL ps bl:=by obtain⟨h1,h2,h3,h4,h5,h6,h7⟩:=h;refine⟨h1,h2,λk hk=>?_,h4,λk hk=>hS k (h5 k hk),lo,hi⟩;obtain⟨xs,x1,x2,x3⟩:=h3 k hk;exact⟨xs,x1,x2,λi hi=>(x3 i hi).weaken hS λ_ _ h=>h⟩
theorem eG.rows (h:eG NB B S w C BL ps bl) {k j:Nat} (hk:k<NB) (hj:j<5):w.cell? ⟨BL,k*5+j,none⟩=(CE (JS (ps k) (bl k)))[j]?/\w.frozen? ⟨BL,k*5+j,none⟩=false:=by
 have h1:=h.hB.iH (i:=k) (j:=j) (by simpa using hk) hj
 simpa using h1
theorem eG.c0 (h:eG NB B S w C BL ps bl):w.cell? ⟨C,0,none⟩=some (.int .i64 NB):=by obtain⟨_,_,_,h⟩:=h.hC;exact h.aj rfl
theorem eG.c1 (h:eG NB B S w C BL ps bl):w.cell? ⟨C,1,none⟩=some (.int .i64 8):=by obtain⟨_,_,_,h⟩:=h.hC;exact h.aj rfl
theorem eG.c2 (h:eG NB B S w C BL ps bl):w.cell? ⟨C,2,none⟩=some (.int .i64 64):=by obtain⟨_,_,_,h⟩:=h.hC;exact h.aj rfl
theorem eG.c3 (h:eG NB B S w C BL ps bl):w.cell? ⟨C,3,none⟩=some (.slice (some ⟨BL,0,none⟩) NB NB):=by obtain⟨_,_,_,h⟩:=h.hC;exact h.aj rfl
theorem eG.c4 (h:eG NB B S w C BL ps bl):w.cell? ⟨C,4,none⟩=some (.slice none 0 0):=by obtain⟨_,_,_,h⟩:=h.hC;exact h.aj rfl
theorem eG.c6 (h:eG NB B S w C BL ps bl):w.cell? ⟨C,6,none⟩=some (.bool false):=by obtain⟨_,_,_,h⟩:=h.hC;exact h.aj rfl
theorem eG.b0 (h:eG NB B S w C BL ps bl) {k:Nat} (hk:k<NB):w.cell? ⟨BL,k*5,none⟩=some (.slice (some ⟨ps k,0,none⟩) 8 8)/\w.frozen? ⟨BL,k*5,none⟩=false:=h.rows hk (j:=0) ae
theorem eG.b1 (h:eG NB B S w C BL ps bl) {k:Nat} (hk:k<NB):w.cell? ⟨BL,k*5+1,none⟩=some (.int .i64 ((bl k).nx:Int))/\w.frozen? ⟨BL,k*5+1,none⟩=false:=h.rows hk (j:=1) ae
theorem eG.b2 (h:eG NB B S w C BL ps bl) {k:Nat} (hk:k<NB):w.cell? ⟨BL,k*5+2,none⟩=some (.bool (bl k).broken)/\w.frozen? ⟨BL,k*5+2,none⟩=false:=h.rows hk (j:=2) ae
theorem eG.b3 (h:eG NB B S w C BL ps bl) {k:Nat} (hk:k<NB):w.cell? ⟨BL,k*5+3,none⟩=some (.bool (bl k).bad)/\w.frozen? ⟨BL,k*5+3,none⟩=false:=h.rows hk (j:=3) ae
theorem eG.b4 (h:eG NB B S w C BL ps bl) {k:Nat} (hk:k<NB):w.cell? ⟨BL,k*5+4,none⟩=some (.int .i64 ((bl k).aQ:Int))/\w.frozen? ⟨BL,k*5+4,none⟩=false:=h.rows hk (j:=4) ae
theorem eG.ad9 (h:eG NB B S w C BL ps bl) (i:Nat):w.frozen? ⟨C,i,none⟩=false:=by obtain⟨_,_,_,h⟩:=h.hC;exact h.frozen i
theorem eG.ltC (h:eG NB B S w C BL ps bl):C<w.heap.size:=h.hi _ (h.hS _ (.inl rfl))
theorem eG.aat (h:eG NB B S w C BL ps bl) (i:Nat) (u:Value) (hx:∀si sk rd:Int,∃si' sk' rd':Int,(chQ NB BL si sk rd).setIfInBounds i u=chQ NB BL si' sk' rd'):eG NB B S (w.setCell ⟨C,i,none⟩ u) C BL ps bl:=by obtain⟨⟨si,sk,rd,h1⟩,h2,h3,h4,h5,h6,h7⟩:=h;obtain⟨si',sk',rd',e⟩:=hx si sk rd;have hk:Kq (λk=>k=C) w (w.setCell ⟨C,i,none⟩ u):=Kq.one ⟨_,_,none⟩ _;refine⟨⟨si',sk',rd',e▸h1.set i u⟩,h2.kq hk λg hg=>by obtain rfl:=fD _ _ _ _ hg;exact Ne.symm h4.cb,λk Dq=>?_,h4,h5,h6,λk Dq=>by simpa using h7 k Dq⟩;obtain⟨xs,x1,x2,x3⟩:=h3 k Dq;exact⟨xs,x1,x2.kq hk λg hg=>by obtain rfl:=fD _ _ _ _ hg;exact h4.pc k Dq,λi hi=>(x3 i hi).kq hk λk _ hm e=>hm (.inl e)⟩
theorem eG.setB (h:eG NB B S w C BL ps bl) {k j:Nat} (hk:k<NB) (hj:j<5) (u:Value) (x:Pb) (hx:CE (JS (ps k) x)=(CE (JS (ps k) (bl k))).set j u) (hp:x.sS=(bl k).sS):eG NB B S (w.setCell ⟨BL,k*5+j,none⟩ u) C BL ps (upd bl k x):=by
 obtain⟨⟨si,sk,rd,h1⟩,h2,h3,h4,h5,h6,h7⟩:=h;have hq:Kq (λk=>k=BL) w (w.setCell ⟨BL,k*5+j,none⟩ u):=Kq.one ⟨_,_,none⟩ _;refine⟨⟨si,sk,rd,h1.kq hq h4.cb⟩,?_,λi hi'=>?_,h4,h5,h6,λk Dq=>by simpa using h7 k Dq⟩
 ·have hs:=h2.set (i:=k) (j:=j) (u:=u) (y:=JS (ps k) x) (by simpa using hk) hj (by simpa using hx);have e:((List.range NB).map λk=>JS (ps k) (bl k)).set k (JS (ps k) x)=(List.range NB).map λi=>JS (ps i) (upd bl k x i):=by
   apply List.ext_getElem
   ·simp
   ·intro i g1 g2;rw[List.getElem_set];simp only[List.getElem_map,List.getElem_range];by_cases e:k=i
    ·subst e;rw[if_pos rfl,upd_same]
    ·rw[if_neg e,bH _ _ (Ne.symm e)]
  rw[e] at hs;exact hs
 ·obtain⟨xs,x1,x2,x3⟩:=h3 i hi';refine⟨xs,x1,x2.kq hq λg hg=>by obtain rfl:=fD _ _ _ _ hg;exact h4.pb i hi',λq hq'=>?_⟩;have h8:=(x3 q hq').kq hq λk _ hm e=>hm (.inr (.inl e));by_cases e:i=k
  ·subst e;rw[upd_same,hp];exact h8
  ·rw[bH _ _ e];exact h8
theorem eG.al5 (h:eG NB B S w C BL ps bl) {k i:Nat} (hk:k<NB) (v:Value) (o:Option (List UInt8)) (hv:PgS S (Mu NB C BL ps) w v o) (x:Pb) (hx:JS (ps k) x=JS (ps k) (bl k)) (hp:x.sS=upd (bl k).sS i o):eG NB B S (w.setCell ⟨ps k,i,none⟩ v) C BL ps (upd bl k x):=by
 obtain⟨⟨si,sk,rd,h1⟩,h2,h3,h4,h5,h6,h7⟩:=h;have hq:Kq (λq=>q=ps k) w (w.setCell ⟨ps k,i,none⟩ v):=Kq.one ⟨_,_,none⟩ _;have hMu:∀q,S q->¬Mu NB C BL ps q->¬(q=ps k):=λq _ hm e=>hm (.inr (.inr ⟨k,hk,e⟩));refine⟨⟨si,sk,rd,h1.kq hq (Ne.symm (h4.pc k hk))⟩,?_,λj hj=>?_,h4,h5,h6,λk Dq=>by simpa using h7 k Dq⟩
 ·have e:((List.range NB).map λk=>JS (ps k) (bl k))=(List.range NB).map λi=>JS (ps i) (upd bl k x i):=by
   apply List.map_congr_left;intro q _;by_cases e:q=k
   ·subst e;rw[upd_same,hx]
   ·rw[bH _ _ e]
  rw[<-e];exact h2.kq hq λg hg=>by obtain rfl:=fD _ _ _ _ hg;exact Ne.symm (h4.pb k hk)
 ·obtain⟨xs,x1,x2,x3⟩:=h3 j hj;by_cases e:j=k
  ·subst e;refine⟨xs.set i v,by rw[List.length_set];exact x1,x2.set i v,λq hq'=>?_⟩;rw[List.length_set] at hq';rw[upd_same,hp,List.getElem_set];by_cases e2:i=q
   ·subst e2;rw[if_pos rfl,upd_same];exact hv.kq hq hMu
   ·rw[if_neg e2,bH _ _ (Ne.symm e2)];exact(x3 q hq').kq hq hMu
  ·refine⟨xs,x1,x2.kq hq λg hg=>by obtain rfl:=fD _ _ _ _ hg;exact λe2=>e (h4.inj j k hj hk e2),λq hq'=>?_⟩;rw[bH _ _ e];exact(x3 q hq').kq hq hMu
theorem eG.al6 (h:eG NB B S w C BL ps bl) {k P':Nat} (hk:k<NB) (ho:Own Ai 23 w 0 (.slice (some ⟨P',0,none⟩) 8 8) kJ) (hP:¬S P') (hB:B<=P') (x:Pb) (hx:x.nx=(bl k).nx/\x.broken=(bl k).broken/\x.bad=(bl k).bad/\x.aQ=(bl k).aQ) (hp:x.sS=λ_=>none):
  eG NB B (λq=>S q\/q=P') (w.setCell ⟨BL,k*5,none⟩ (.slice (some ⟨P',0,none⟩) 8 8)) C BL (upd ps k P') (upd bl k x):=by
 obtain⟨⟨si,sk,rd,h1⟩,h2,h3,h4,h5,h6,h7⟩:=h;have aU:P'<w.heap.size:=(ho.aP P' rfl).2;have hq:Kq (λk=>k=BL) w (w.setCell ⟨BL,k*5,none⟩ (.slice (some ⟨P',0,none⟩) 8 8)):=Kq.one ⟨_,_,none⟩ _;have hM1:∀q,S q->¬Mu NB C BL ps q->¬(q=BL):=λq _ hm e=>hm (.inr (.inl e));have hMM:∀q,Mu NB C BL (upd ps k P') q->Mu NB C BL ps q\/q=P':=by
  rintro q (e|e|⟨j,hj,e⟩)
  ·exact .inl (.inl e)
  ·exact .inl (.inr (.inl e))
  ·by_cases e2:j=k
   ·subst e2;rw[upd_same] at e;exact .inr e
   ·rw[bH _ _ e2] at e;exact .inl (.inr (.inr ⟨j,hj,e⟩))
 have dh:∀q,Mu NB C BL ps q->q≠P':=λq hm e=>hP (e▸h5 q hm);refine⟨⟨si,sk,rd,h1.kq hq h4.cb⟩,?_,λj hj=>?_,⟨h4.cb,λj hj=>?_,λj hj=>?_,λi j hi hj e=>?_⟩,λq hm=>?_,λq hs=>?_,λq hs=>?_⟩
 ·have hs:=h2.set (i:=k) (j:=0) (u:= .slice (some ⟨P',0,none⟩) 8 8) (y:=JS P' x) (by simpa using hk) ae (by obtain⟨e1,e2,e3,e4⟩:=hx;simp[CE,JS,e1,e2,e3,e4]);have e:((List.range NB).map λk=>JS (ps k) (bl k)).set k (JS P' x)=(List.range NB).map λi=>JS (upd ps k P' i) (upd bl k x i):=by
   apply List.ext_getElem
   ·simp
   ·intro i g1 g2;rw[List.getElem_set];simp only[List.getElem_map,List.getElem_range];by_cases e:k=i
    ·subst e;rw[if_pos rfl,upd_same,upd_same]
    ·rw[if_neg e,bH _ _ (Ne.symm e),bH _ _ (Ne.symm e)]
  rw[e] at hs;exact hs
 ·by_cases e:j=k
  ·subst e;rw[upd_same,upd_same,hp];refine⟨kJ,rfl,ho.kq hq λg hg=>by obtain rfl:=fD _ _ _ _ hg;exact λe=>dh _ (.inr (.inl rfl)) e.symm,λi hi=>?_⟩;exact List.eq_of_mem_replicate (n:=8) (List.getElem_mem hi)
  ·obtain⟨xs,x1,x2,x3⟩:=h3 j hj;rw[bH _ _ e,bH _ _ e];exact⟨xs,x1,x2.kq hq λg hg=>by obtain rfl:=fD _ _ _ _ hg;exact h4.pb j hj,λi hi=>((x3 i hi).kq hq hM1).weaken (λ_ hs=> .inl hs) λq hs hm=>by rcases hMM q hm with h8|h8;exact h8;exact absurd hs (h8▸hP)⟩
 ·by_cases e:j=k
  ·subst e;rw[upd_same];exact λe=>dh _ (.inl rfl) e.symm
  ·rw[bH _ _ e];exact h4.pc j hj
 ·by_cases e:j=k
  ·subst e;rw[upd_same];exact λe=>dh _ (.inr (.inl rfl)) e.symm
  ·rw[bH _ _ e];exact h4.pb j hj
 ·by_cases e1:i=k
  ·by_cases e2:j=k
   ·rw[e1,e2]
   ·subst e1;rw[upd_same,bH _ _ e2] at e;exact absurd e.symm (dh _ (.inr (.inr ⟨j,hj,rfl⟩)))
  ·by_cases e2:j=k
   ·subst e2;rw[upd_same,bH _ _ e1] at e;exact absurd e (dh _ (.inr (.inr ⟨i,hi,rfl⟩)))
   ·rw[bH _ _ e1,bH _ _ e2] at e;exact h4.inj i j hi hj e
 ·rcases hMM q hm with h8|h8
  ·exact .inl (h5 q h8)
  ·exact .inr h8
 ·rcases hs with h8|h8
  ·exact h6 q h8
  ·omega
 ·rw[World.size_setCell];rcases hs with h8|h8
  ·exact h7 q h8
  ·omega
theorem eG.page (h:eG NB B S w C BL ps bl) {k i:Nat} (hk:k<NB) (hi:i<8):∃v,w.cell? ⟨ps k,i,none⟩=some v/\w.frozen? ⟨ps k,i,none⟩=false/\PgS S (Mu NB C BL ps) w v ((bl k).sS i):=by obtain⟨xs,x1,x2,x3⟩:=h.hP k hk;obtain⟨c1,c2⟩:=x2.iH (k:=i) ae;exact⟨xs[i],c1,c2,x3 i ae⟩
end
end
end Go.Proofs.YtnieckfelfoopaaGreat

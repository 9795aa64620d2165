import Derived.Test.YtnieckfelfoopaaGreatNodPtrs
import Derived.Test.YtnieckfelfoopaaGreatRoomInts
open Go.Proofs.Tryz (prog)
namespace Go.Proofs.YtnieckfelfoopaaGreat
open Lib (hid)
set_option maxRecDepth 100000
set_option maxHeartbeats 16000000
section
open Go.RowKit eu aN
variable {NB B P:Nat} {Q:Nat->Prop} {w w':World} {f:Fm} {s:Ps}

theorem ajo {n:Nat} (hn:n<1062):Ino.nJ 64 (n:Int)=0:=Ino.Gj (.inl rfl) ae (by rw[Ino.adM];omega)
theorem O6 {fi:Nf} {F:Nat} (h:bT NB B Q w P f s) (hN:sJ w F P fi) {n:Nat} (hn:n<6):
  Calls prog 135 #[F,.int .i64 n] w (qA NB B Q P f s (.int .i64 (CS s.g fi.io n:Int)) w):=by
 have hS:=ag (dO h);have he:=ajo (n:=n) ae;obtain⟨a,b,c⟩:Ino.lD 64 (n:Int)=0/\Ino.oL 64 (n:Int)=n/\Ino.uN 64 (n:Int)=0:=by
  rcases Ino.qc he with⟨a,b,c,_⟩|⟨_,_,_,d,_⟩|⟨_,_,_,d⟩
  ·exact⟨a,b,c⟩
  ·omega
  ·omega
 have hT:=ag (Ij 64 (n:Int) w ae ae);have HW:=ag (show uM 64 (n:Int)= .tuple #[.agg #[.int .i64 0,.int .i64 n,.int .i64 0],.int .i64 0] by unfold uM;rw[a,b,c,he]);have HN:=ag hN;have hp:=hN.p;have HL:=ag (show fi.io.d.getD n 0=CS s.g fi.io n from(if_pos hn).symm);have JQ:=ag h;clear h hN he a b c
 go_in
 go_wp2_with fail;refine hS.o.mono ?_;rintro e w_ ⟨rfl,rfl⟩;go_wp2_with fail;refine hT.o.mono ?_;rintro e w1 ⟨rfl,bK⟩;rw[HW.o];have dw:=ag bK;have XX:=ag (HN.o.on bK);clear bK;go_upto_region 6 with fail;have dA:=ag (dw.o.alloc dw.o.size (.cells #[.int .i64 0,.int .i64 n,.int .i64 0] 267));have hq:=aF.new w1 267 #[.int .i64 0,.int .i64 n,.int .i64 0];have q1:=hq.aj (i:=1) rfl;have HQ:=ag q1;have hd:=(XX.o.on ((Below.refl w1.heap.size w1).alloc (Nat.le_refl _) (.cells #[.int .i64 0,.int .i64 n,.int .i64 0] 267))).d hn;rw[HL.o] at hd;have HD:=ag hd;obtain⟨L,hL⟩:=bu (CS s.g fi.io n);rw[<-hL] at HD;have HLe:=ag hL;clear hq q1 hd hp hL HL;generalize w1.alloc (.cells #[.int .i64 0,.int .i64 n,.int .i64 0] 267)=W2 at*;generalize w1.heap.size=Q at*;have g0:(0:Int)<=(n:Int):=ae;have g1:(n:Int)<6:=ae;refine iT (λW'=>W'.cell? ⟨Q,1,none⟩=some (.int .i64 n)/\W'.cell? ⟨F,4+n,none⟩=some (.int .i64 (L:Nat))) ⟨HQ.o,HD.o⟩ (λbJ=>?_);refine dP 0 F 0 ?_;refine aS 1 Q 1 ?_;refine jH 2 (n:Int) (λ_ aI=>aI.1) ?_;refine aS 3 F 0 ?_;refine aS 4 F 1 ?_;refine aS 5 F 4 ?_;refine aS 6 F (4+n) ?_;refine jH 7 (L:Nat) (λ_ aI=>aI.2) ?_;refine eF 8 (L:Nat) ?_;refine gB ?_;clear bJ;go_wp2;go_ret;refine⟨?_,JQ.o.on (dA.o.ay (ak W2)),Kq.of (dA.o.ay (ak W2))⟩;rw[<-HLe.o];rfl
theorem rU {fi:Nf} {F:Nat} (h:bT NB B Q w P f s) (hN:sJ w F P fi) (_:¬Q F) (_:Wf s fi.io) {n:Nat} (hn:n<6):
  Calls prog 135 #[F,.int .i64 n] w (qA NB B Q P f s (.int .i64 (CS s.g fi.io n:Int)) w):=O6 h hN hn
end
section
open eu zJ
namespace aN
structure Sj (s:Ps) (io:Io) (n tt:Nat):Prop where
 dl:io.d.length=6
 hn:n<6
 ht:tt<8192
noncomputable def Qw (s:Ps) (io:Io) (n:Nat):Ps×Io×Nat:=
 if CS s.g io n=0 then((FC (s.add s.nx) io n s.nx).1,(FC (s.add s.nx) io n s.nx).2,s.nx) else(s,io,CS s.g io n)
structure aqf (s:Ps) (io:Io) (n:Nat):Prop where
 wf:Wf s io
 hn:n<6
 new:CS s.g io n=0->s.us.length<s.np/\Sj (s.add s.nx) io n s.nx
 th:(Qw s io n).1.There (Qw s io n).2.2
 dl:(Qw s io n).2.1.d.length=6
def KH (off:Nat) (b:List UInt8):Nat:=min (64-off%64) b.length
def wrX (x:List UInt8) (off:Nat) (b:List UInt8):List UInt8:=x.take (off%64)++b.take (KH off b)++x.drop (off%64+KH off b)
noncomputable def Z4 (s:Ps) (io:Io) (off:Nat) (b:List UInt8):Ps×Io:=
 ((Qw s io (off/64)).1.put (Qw s io (off/64)).2.2 (wrX ((Qw s io (off/64)).1.g (Qw s io (off/64)).2.2) off b),(Qw s io (off/64)).2.1)
noncomputable def Qv:Nat->Ps->Io->Nat->List UInt8->Ps×Io
 |0,s,io,_,_=>(s,io)
 |m+1,s,io,off,b=>if b=[] then(s,io) else Qv m (Z4 s io off b).1 (Z4 s io off b).2 (off+KH off b) (b.drop (KH off b))
def adu:Nat->Ps->Io->Nat->List UInt8->Prop
 |0,_,_,_,b=>b=[]
 |m+1,s,io,off,b=>b=[]\/(aqf s io (off/64)/\adu m (Z4 s io off b).1 (Z4 s io off b).2 (off+KH off b) (b.drop (KH off b)))
theorem ahg {off:Nat} {b:List UInt8} (h:b≠[]):1<=KH off b/\KH off b<=b.length/\off%64+KH off b<=64:=by have:=List.length_pos_iff.2 h;unfold KH;omega
theorem ahh {x b:List UInt8} {off:Nat} (hx:x.length=64):(wrX x off b).length=64:=by unfold wrX KH;simp only[List.length_append,List.length_take,List.length_drop,hx];omega
end aN
end
section
open eu zJ
namespace aN
noncomputable def tr1 (s:Ps) (io:Io) (n:Nat):Ps×Io:=FC (s.del (CS s.g io n)) io n 0
noncomputable def trL:List Nat->Ps->Io->Ps×Io
 |[],s,io=>(s,io)
 |n::l,s,io=>trL l (tr1 s io n).1 (tr1 s io n).2
structure ajp (s:Ps) (io:Io) (n:Nat):Prop where
 wf:Wf s io
 hn:n<6
 us:CS s.g io n∈s.us
 set:Sj (s.del (CS s.g io n)) io n 0
def WH:List Nat->Ps->Io->Prop
 |[],s,io=>Wf s io
 |n::l,s,io=>ajp s io n/\WH l (tr1 s io n).1 (tr1 s io n).2
def trX (x:List UInt8) (tt:Nat):List UInt8:=x.take (tt%64)++List.replicate (64-tt%64) 0
def trT (s:Ps) (io:Io) (z tt:Nat):Ps:=if CS s.g io (tt/64)≠0/\tt%64≠0/\tt<z then s.put (CS s.g io (tt/64)) (trX (s.g (CS s.g io (tt/64))) tt) else s
theorem ahA {x:List UInt8} (hx:x.length=64) (tt:Nat):(trX x tt).length=64:=by unfold trX;rw[List.length_append,List.length_take,List.length_replicate];omega
theorem WH.wf {l:List Nat} {s:Ps} {io:Io} (h:WH l s io):Wf s io:=by
 cases l with
 |nil=>exact h
 |cons n l=>exact h.1.wf
end aN
end
section
open Go.RowKit eu aN
variable {NB B P:Nat} {Q:Nat->Prop} {w w':World} {f:Fm} {s:Ps}

section
variable {F:Nat} {fi:Nf}
theorem sJ.av1 (h:sJ w F P fi) {n:Nat} (hn:n<6) (tt:Nat):sJ (w.setCell ⟨F,4+n,none⟩ (.int .i64 tt)) F P {fi with io:={fi.io with d:=fi.io.d.set n tt}}:=by
 refine⟨?_,by show(fi.io.d.set n tt).length=6;rw[List.length_set];exact h.dl⟩;have hb:=h.blk.set (4+n) (.int .i64 tt);have e:(nfL P fi).toArray.setIfInBounds (4+n) (.int .i64 tt)=(nfL P {fi with io:={fi.io with d:=fi.io.d.set n tt}}).toArray:=by
  rw[List.setIfInBounds_toArray]
  congr 1
  have hd:=h.dl;unfold nfL;rw[List.set_append_left _ _ (by simp[hd];omega),List.set_append_right _ _ au];simp only[List.length_cons,List.length_nil,Nat.zero_add,Nat.reduceAdd,Nat.add_sub_cancel_left];rw[List.map_set];rfl
 rw[e] at hb;exact hb
end
def Wy (NB B:Nat) (Q:Nat->Prop) (F P:Nat) (f:Fm) (s:Ps) (fi:Nf) (io:zJ.Io) (w:World) (e:Ending) (w':World):Prop:=
 (∃v,e= .returned v)/\bT NB B (Up Q w w') w' P f s/\sJ w' F P {fi with io:=io}/\Kq (λq=>Q q\/q=F) w w'
theorem KT {fi:Nf} {F tt:Nat} (h:bT NB B Q w P f s) (hN:sJ w F P fi) (hF:¬Q F) {n:Nat} (hn:n<6):
  Calls prog 137 #[F,.int .i64 n,.int .i64 tt] w (Wy NB B Q F P f (FC s fi.io n tt).1 fi (FC s fi.io n tt).2 w):=by
 have hS:=ag (dO h);have he:=ajo (n:=n) ae;obtain⟨a,b,c⟩:Ino.lD 64 (n:Int)=0/\Ino.oL 64 (n:Int)=(n:Int)/\Ino.uN 64 (n:Int)=0:=by
  rcases Ino.qc he with⟨a,b,c,_⟩|⟨_,_,_,d,_⟩|⟨_,_,_,d⟩
  ·exact⟨a,b,c⟩
  ·omega
  ·omega
 have hT:=ag (Ij 64 (n:Int) w ae ae);have HW:=ag (show uM 64 (n:Int)= .tuple #[.agg #[.int .i64 0,.int .i64 n,.int .i64 0],.int .i64 0] by unfold uM;rw[a,b,c,he]);have HSs:=ag (show FC s fi.io n tt=(s,{fi.io with d:=fi.io.d.set n tt}) from if_pos hn);have HN:=ag hN;have hp:=hN.p;have JQ:=ag h;have HFn:=ag hF;clear h hN he a b c hF
 go_in
 go_wp2_with fail;refine hS.o.mono ?_;rintro e w_ ⟨rfl,rfl⟩;go_wp2_with fail;refine hT.o.mono ?_;rintro e w1 ⟨rfl,bK⟩;rw[HW.o];have dw:=ag bK;have XX:=ag (HN.o.on bK);clear bK;go_upto_region 3 with fail;have fQ:=(Below.refl w1.heap.size w1).alloc (Nat.le_refl _) (.cells #[.int .i64 0,.int .i64 n,.int .i64 0] 267);have dA:=ag (dw.o.ay fQ);have HQ:=ag (aF.new w1 267 #[.int .i64 0,.int .i64 n,.int .i64 0]);have xQ:=ag (XX.o.on fQ);have HZ:=ag (show F<w1.heap.size/\w.heap.size<=w1.heap.size from⟨XX.o.lt,dw.o.size⟩);have pF:=ag ((JQ.o.on (dw.o.ay fQ)).drew);clear hp fQ;generalize w1.alloc (.cells #[.int .i64 0,.int .i64 n,.int .i64 0] 267)=W2 at*;generalize w1.heap.size=Z at*;have Ak:=ag (dA.o.ay (ak W2));have HNd:=ag (xQ.o.on (ak W2));have Af:=ag (JQ.o.aV HZ.o.2);have g0:(0:Int)<=(n:Int):=ae;have g1:(n:Int)<6:=ae;refine iT (λW'=>aF W' Z 267 #[.int .i64 0,.int .i64 n,.int .i64 0]) HQ.o.drew (λbJ=>?_);refine dP 0 F 0 ?_;refine aS 1 Z 1 ?_;refine jH 2 (n:Int) (λ_ aI=>aI.aj (i:=1) rfl) ?_;refine eF 3 (tt:Int) ?_;refine aS 4 F 0 ?_;refine aS 5 F 1 ?_;refine aS 6 F 4 ?_;refine aS 7 F (4+n) ?_;have s1:=HNd.o.d hn;have s2:=HNd.o.blk.frozen (4+n);have qZ:=ag (HNd.o.av1 hn tt);have HKs:=ag (show Kq (λq=>q=F) W2.drew (W2.drew.setCell ⟨F,4+n,none⟩ (.int .i64 tt)) from Kq.one ⟨F,4+n,none⟩ _);refine dm 8 (λK' hK=>?_);go_simp;refine hK.out _ _ (bJ.kq HKs.o (λe=>by have:=HZ.o;omega)) (λdH=>?_)
 try simp only[aO]
 refine gB ?_;clear bJ dH s1 s2;go_wp2;go_end0;rw[HSs.o];have oq:=pF.o.kq HKs.o λq hq e=>HFn.o (e▸hq);have ja:=Ak.o.size;have hsk:=HKs.o.size;refine⟨⟨_,rfl⟩,oq.more (λq hq=> .inl hq) λq hq=>?_,qZ.o,((Kq.of Ak.o).mono λq h=>h).trans (HKs.o.mono λq e=> .inr e)⟩;rcases hq with h|h
 ·have:=JQ.o.bnd q h;exact⟨this.1,Nat.lt_of_lt_of_le this.2 (Nat.le_trans ja hsk)⟩
 ·have:=JQ.o.base;exact⟨ae,h.2⟩
theorem Bf {fi:Nf} {F n tt:Nat} (h:bT NB B Q w P f s) (hN:sJ w F P fi) (hF:¬Q F) (ho:Sj s fi.io n tt):
  Calls prog 137 #[F,.int .i64 n,.int .i64 tt] w (Wy NB B Q F P f (FC s fi.io n tt).1 fi (FC s fi.io n tt).2 w):=KT h hN hF ho.hn
end
section
open Go.RowKit eu aN
variable {NB B P:Nat} {Q:Nat->Prop} {w w':World} {f:Fm} {s:Ps}

theorem alF (d:Nat->Nat) {k:Nat} (hk:k<6) (w:World):(Instr.index 105 (.agg #[.int .i64 (d 0:Int),.int .i64 (d 1:Int),.int .i64 (d 2:Int),.int .i64 (d 3:Int),.int .i64 (d 4:Int),.int .i64 (d 5:Int)]) (.int .i64 k)).run prog w= .ok (.int .i64 (d k:Int)) w:=by
 obtain h|h|h|h|h|h:k=0\/k=1\/k=2\/k=3\/k=4\/k=5:=ae
 all_goals subst h
 ·exact ahp (d 0) (d 1) (d 2) (d 3) (d 4) (d 5) w
 ·exact ahq (d 0) (d 1) (d 2) (d 3) (d 4) (d 5) w
 ·exact ahr (d 0) (d 1) (d 2) (d 3) (d 4) (d 5) w
 ·exact ahs (d 0) (d 1) (d 2) (d 3) (d 4) (d 5) w
 ·exact aht (d 0) (d 1) (d 2) (d 3) (d 4) (d 5) w
 ·exact ahu (d 0) (d 1) (d 2) (d 3) (d 4) (d 5) w
def ahC (NB B:Nat) (Q:Nat->Prop) (P:Nat) (f:Fm) (s:Ps) (J:List (Nat×Nat×Nat)->(Nat->Prop)->World->Prop) (l:List (Nat×Nat×Nat)) (X:Nat->Prop) (w:World) (e:Ending) (w':World):Prop:=
 (∃v,e= .returned v)/\(∃X',J l X' w'/\Grew X w X')/\bT NB B Q w' P f s/\Kq (λq=>Q q\/X q) w w'
def DN (g:Nat->List UInt8) (io:zJ.Io) (k:Nat):List (Nat×Nat×Nat):=(List.range k).flatMap λk=>ptrs g 0 (io.d.getD k 0) k
theorem MV (g:Nat->List UInt8) (io:zJ.Io) (k:Nat):DN g io (k+1)=DN g io k++ptrs g 0 (io.d.getD k 0) k:=by unfold DN;rw[List.range_succ,List.flatMap_append];simp
theorem adR (g:Nat->List UInt8) (io:zJ.Io) {k:Nat} (hk:k<=6):DN g io k<+:yl g io:=by
 obtain⟨m,hm⟩:∃m,6=k+m:=⟨6-k,ae⟩
 have e:DN g io 6=DN g io k++(((List.range m).map λi=>k+i).flatMap λk=>ptrs g 0 (io.d.getD k 0) k):=by unfold DN;rw[hm,List.range_add,List.flatMap_append]
 refine⟨(((List.range m).map λi=>k+i).flatMap λk=>ptrs g 0 (io.d.getD k 0) k)++ptrs g 1 io.s 6++ptrs g 2 io.b 38,?_⟩;show _=DN g io 6++_++_;rw[e];simp
structure Nal (NB B:Nat) (Q:Nat->Prop) (F P:Nat) (f:Fm) (s:Ps) (fi:Nf) (J:List (Nat×Nat×Nat)->(Nat->Prop)->World->Prop) (X:Nat->Prop) (w:World) (l:List (Nat×Nat×Nat)) (X1:Nat->Prop) (wr:World):Prop where
 j:J l X1 wr
 g:Grew X w X1
 p:bT NB B Q wr P f s
 k:Kq (λq=>Q q\/X q) w wr
 n:sJ wr F P fi
 d:∀q,X1 q->¬Q q/\q≠F
theorem Nal.next {F:Nat} {fi:Nf} {J:List (Nat×Nat×Nat)->(Nat->Prop)->World->Prop} {X X1:Nat->Prop} {l l':List (Nat×Nat×Nat)} {wr w2:World} {e:Ending} (h:Nal NB B Q F P f s fi J X w l X1 wr) (hFl:F<w.heap.size) (hF:¬Q F) (hX:∀q,X q->¬Q q/\q≠F) (hQ:∀q,Q q->q<w.heap.size) (hc:ui NB B Q P f s J l' X1 wr e w2):∃X2,Nal NB B Q F P f s fi J X w l' X2 w2:=by
 obtain⟨_,⟨X2,h1,h2⟩,h3,h4⟩:=hc;have hs:=h.k.size;have hg:Grew X w X2:=h.g.trans h2 hs;have hk:Kq (λq=>Q q\/X q) w w2:=h.k.ay h4 λq hq=>by
  rcases hq with h5|h5
  ·exact .inl (.inl h5)
  ·rcases h.g q h5 with h6|h6
   ·exact .inl (.inr h6)
   ·exact .inr h6
 refine⟨X2,h1,hg,h3,hk,h.n.kq h4 λh5=>?_,λq hq=>?_⟩
 ·rcases h5 with h5|h5
  ·exact hF h5
  ·exact(h.d F h5).2 rfl
 ·rcases hg q hq with h5|h5
  ·exact hX q h5
  ·exact⟨λh6=>by have:=hQ q h6;omega,λe=>ae⟩
theorem AY {F gy n:Nat} {lb:Array Value} {fi:Nf} {X:Nat->Prop} {J:List (Nat×Nat×Nat)->(Nat->Prop)->World->Prop} (h:bT NB B Q w P f s) (hN:sJ w F P fi) (hF:¬Q F) (hw:Wf s fi.io) (hy:AX gy lb (yl s.g fi.io) Q n J) (hn:n<=w.heap.size) (hX:∀q,X q->¬Q q/\q≠F) (hj:J [] X w):
  Calls prog 190 #[F,.func (.func gy) #[] lb] w (ahC NB B Q P f s J (yl s.g fi.io) X w):=by
 have HH:=ag h;have HN:=ag hN;have Be:=ag hF;have HW:=ag hw;have HY:=ag hy;have HX:=ag hX;have HJ:=ag hj;have hFl:=hN.lt;have VU:=ag (hy.jx.bd _ _ _ hj);obtain⟨d,hd⟩:∃d:Nat->Nat,d=λk=>fi.io.d.getD k 0:=⟨_,rfl⟩
 have hc:∀k,k<6->w.cell? ⟨F,4+k,none⟩=some (.int .i64 (d k:Int)):=λk hk=>by rw[hd];exact hN.d hk
 have d0:=hc 0 ae;have d1:=hc 1 ae;have d2:=hc 2 ae;have d3:=hc 3 ae;have d4:=hc 4 ae;have d5:=hc 5 ae;have HD:=ag hd;clear h hN hF hw hy hX hj hc hd
 go_in
 go_upto_region 1 with fail;have H0:=ag (show Nal NB B Q F P f s fi J X w [] X w from⟨HJ.o,Grew.refl _ _,HH.o,Kq.refl _ _,HN.o,HX.o⟩);have HQb:=ag (λq (h:Q q)=>(HH.o.bnd q h).2)
 go_loopw [4,5,12] (λ_ _ i wr=>∃(k:Nat) (X1:Nat->Prop),k<=6/\i= .int .i64 k/\Nal NB B Q F P f s fi J X w (DN s.g fi.io k) X1 wr) (λ_ _ i _=>7-(intOf i).toNat)
 case atStart=>exact⟨0,X,ae,rfl,H0.o⟩
 case round=>
  obtain⟨k,X1,hk,rfl,hr⟩:=hrel;have HR:=ag hr;have Qu:=ag hr.k.size;clear hr;by_cases aU:k<6
  ·have g1:(k:Int)<6:=ae;have hix:=alF d aU;have iv:=IntWalk.i64_in ((k:Int)+1) ⟨ae,ae⟩;have o6:=SY HY.o wr (d k) k (DN s.g fi.io k) X1 HR.o.p HR.o.n.p HR.o.n.lt Be.o (by have:=Qu.o;omega) HR.o.d HR.o.j (by rw[HD.o,<-MV];exact adR _ _ ae) (by rw[HD.o];exact HW.o.wd k aU) ae;rw[HD.o,<-MV,<-HD.o] at o6;have adS:=ag (show Calls prog 237 #[F,.int .i64 (d k:Int),.int .i64 k,.int .i64 0,.func (.func gy) #[] lb] wr (ui NB B Q P f s J (DN s.g fi.io (k+1)) X1 wr) from o6);clear o6;go_wp2_with fail;refine adS.o.mono ?_;rintro e w2 hc;obtain rfl:=hc.1;obtain⟨X2,QL⟩:=HR.o.next hFl Be.o HX.o HQb.o hc
   have oQ:=ag QL;clear hc QL hix;go_wp2_with fail;go_roundw
   case rel=>exact⟨k+1,X2,ae,by go_num,oQ.o⟩
   case measure=>simp[intOf];omega
  ·obtain rfl:k=6:=ae;have y0:=HR.o.n.p;have y1:=HR.o.n.s;have c1:=S9 (lv:=0) HY.o (.inl rfl) (SY (NB:=NB) (B:=B) (F:=F) (P:=P) (f:=f) (s:=s) HY.o);have HC1:=ag c1;have Wn:=ag (S9 (lv:=1) HY.o (.inr rfl) c1);have o6:=c1 wr fi.io.s 6 (DN s.g fi.io 6) X1 HR.o.p HR.o.n.p HR.o.n.lt Be.o (by have:=Qu.o;omega) HR.o.d HR.o.j (by exact⟨ptrs s.g 2 fi.io.b 38,rfl⟩) HW.o.gs ae;have adS:=ag (show Calls prog 237 #[F,.int .i64 (fi.io.s:Int),.int .i64 6,.int .i64 1,.func (.func gy) #[] lb] wr (ui NB B Q P f s J (DN s.g fi.io 6++ptrs s.g 1 fi.io.s 6) X1 wr) from o6);have g38:IntKind.i64.wrap (6+32)=38:=IntWalk.i64_in (6+32) ⟨ae,ae⟩;have av3:=ag (dO HR.o.p);clear o6 c1;go_wp2_with fail;refine av3.o.mono ?_;rintro e w_ ⟨rfl,rfl⟩;go_wp2_with fail;refine adS.o.mono ?_;rintro e w2 hc;obtain rfl:=hc.1;obtain⟨X2,QL⟩:=HR.o.next hFl Be.o HX.o HQb.o hc
   have oQ:=ag QL;clear hc QL y0 y1;have y2:=oQ.o.n.b;have o6:=Wn.o w2 fi.io.b 38 _ X2 oQ.o.p oQ.o.n.p oQ.o.n.lt Be.o (by have:=oQ.o.k.size;omega) oQ.o.d oQ.o.j (by exact⟨[],by rw[List.append_nil];rfl⟩) HW.o.gb ae;have alH:=ag (show Calls prog 237 #[F,.int .i64 (fi.io.b:Int),.int .i64 38,.int .i64 2,.func (.func gy) #[] lb] w2 (ui NB B Q P f s J (yl s.g fi.io) X2 w2) from o6);clear o6;go_wp2_with fail;refine alH.o.mono ?_;rintro e w3 hc;obtain rfl:=hc.1;obtain⟨X3,hr3⟩:=oQ.o.next hFl Be.o HX.o HQb.o hc
   have rC:=ag hr3;clear hc hr3 y2;go_wp2;go_end0;exact⟨⟨_,rfl⟩,⟨X3,rC.o.j,rC.o.g⟩,rC.o.p,rC.o.k⟩
end
section
open Go.RowKit eu aN
variable {NB B P:Nat} {Q:Nat->Prop} {w w':World} {f:Fm} {s:Ps}

def nd (fi:Nf) (k:Nat):Int:=(fi.io.d.getD k 0:Nat)
def dG (fi:Nf):Array Value:=#[.int .i64 fi.k,.int .i64 fi.l,.int .i64 fi.s,.int .i64 (nd fi 0),.int .i64 (nd fi 1),.int .i64 (nd fi 2),.int .i64 (nd fi 3),.int .i64 (nd fi 4),.int .i64 (nd fi 5),.int .i64 (fi.io.s:Int),.int .i64 (fi.io.b:Int)]
def zG (fi:Nf):Value:= .agg (dG fi)
def nfA (P:Nat) (fi:Nf):Array Value:=#[.pointer (some ⟨P,0,none⟩),.int .i64 fi.k,.int .i64 fi.l,.int .i64 fi.s,.int .i64 (nd fi 0),.int .i64 (nd fi 1),.int .i64 (nd fi 2),.int .i64 (nd fi 3),.int .i64 (nd fi 4),.int .i64 (nd fi 5),.int .i64 (fi.io.s:Int),.int .i64 (fi.io.b:Int)]
theorem adE {fi:Nf} (h:fi.io.d.length=6) (P:Nat):nfA P fi=(nfL P fi).toArray:=by
 obtain⟨k,l,s,d,a,b⟩:=fi
 match d,h with
 |[d0,d1,d2,d3,d4,d5],_=>rfl
theorem sJ.made (w:World) {fi:Nf} (h:fi.io.d.length=6) (P:Nat):sJ (w.alloc (.cells (nfA P fi) 204)) w.heap.size P fi:=⟨by rw[<-adE h];exact aF.new w _ _,h⟩
def fJ (l:List (Nat×Nat×Nat)):List Int:=(l.filter λx=>x.2.2==0).map λx=>(x.1:Int)
theorem MW (l l':List (Nat×Nat×Nat)):fJ (l++l')=fJ l++fJ l':=by unfold fJ;rw[List.filter_append,List.map_append]
theorem DI (l:List (Nat×Nat×Nat)):(fJ l).length<=l.length:=by unfold fJ;rw[List.length_map];exact List.length_filter_le _ _
theorem O7 {α β:Type} (l:List α) (g:α->List β) (m:Nat) (h:∀x∈l,(g x).length<=m):(l.flatMap g).length<=l.length*m:=by
 induction l with
 |nil=>simp
 |cons x t ih=>
  rw[List.flatMap_cons,List.length_append,List.length_cons,Nat.add_mul,Nat.one_mul];have:=h x au;have:=ih λy hy=>h y (by simp[hy]);omega
theorem YB (x:List UInt8) (hx:x.length=64\/x=[]):(Pt.pts x).length<=32:=by
 have hto:∀k,(Pt.Iw x k).length<=k:=λk=>by
  induction k with
  |zero=>exact Nat.zero_le _
  |succ k ih=>
   rw[Pt.Iw]
   split
   ·omega
   ·rw[List.length_append,List.length_singleton];omega
 unfold Pt.pts
 split
 ·rename_i hs;rcases hx with hx|hx
  ·rw[hx];exact hto _
  ·subst hx;exact Nat.le_trans (hto _) aB
 ·exact Nat.zero_le _
theorem OA {s:Ps} (ho:s.Ok) (io:zJ.Io):(yl s.g io).length<=2000:=by
 have hx:∀p,(s.g p).length=64\/s.g p=[]:=λp=>by
  by_cases h:s.There p
  ·exact .inl (ho.sz p h)
  ·exact .inr (ho.no p h)
 have h0:∀p fr,(ptrs s.g 0 p fr).length<=1:=λp fr=>by unfold ptrs;split<;>simp
 have h1:∀p fr,(ptrs s.g 1 p fr).length<=33:=λp fr=>by
  rw[ptrs]
  split
  ·simp
  ·rw[List.length_cons];have:=O7 (Pt.pts (s.g p)) (λx=>ptrs s.g 0 x.2 (fr+x.1*(if 0=1 then 32 else 1))) 1 λx _=>h0 _ _;have:=YB (s.g p) (hx p);omega
 have h2:∀p fr,(ptrs s.g 2 p fr).length<=1057:=λp fr=>by
  rw[ptrs]
  split
  ·simp
  ·rw[List.length_cons];have a:=O7 (Pt.pts (s.g p)) (λx=>ptrs s.g 1 x.2 (fr+x.1*(if 1=1 then 32 else 1))) 33 λx _=>h1 _ _;have b:=YB (s.g p) (hx p);have c:(Pt.pts (s.g p)).length*33<=32*33:=Nat.mul_le_mul b (Nat.le_refl _);omega
 unfold yl;rw[List.length_append,List.length_append];have a:=O7 (List.range 6) (λk=>ptrs s.g 0 (io.d.getD k 0) k) 1 λx _=>h0 _ _;rw[List.length_range] at a;have b:=h1 io.s 6;have c:=h2 io.b 38;omega
def PgJ (Zo n0:Nat) (pre:List (Nat×Nat×Nat)) (X:Nat->Prop) (W:World):Prop:=∃v,aF W Zo 116 #[v]/\Own jL 3 W n0 v (fJ pre)/\Zo<n0/\n0<=W.heap.size/\∀q,X q↔q=Zo\/v.ownBlock=some q
theorem alI (Zo n0:Nat) (T:Nat->Prop) (n:Nat):JX T n (PgJ Zo n0):=by
 refine⟨?_,?_⟩
 ·rintro pre X W ⟨v,h1,h2,h3,h4,h5⟩ q hq;rcases(h5 q).1 hq with h|h
  ·have:=h1.lt;omega
  ·exact(h2.aP q h).2
 ·rintro pre X W W' T' ⟨v,h1,h2,h3,h4,h5⟩ hk hT;exact⟨v,h1.kq hk λh=>(hT _ h).2 ((h5 _).2 (.inl rfl)),h2.kq hk λg hg h=>(hT _ h).2 ((h5 _).2 (.inr hg)),h3,Nat.le_trans h4 hk.size,h5⟩
theorem O8 {ops:Array Oper} {rest:List Oper} {o:Oper} {ac:Act} {Q:Exit->Act->World->Prop} {cs:Array Value} (mD:o.guard=none) (s x:Operand)
  (ho:o.op= .call {callee:= .builtin .append,args:=#[s,x],argTypes:=#[116,116]}) (base:Nat)
  (v:Value) (xs:List Int) (hs:ac.eval s=v) (bG:Own jL 3 w base v xs) (y:Int) (hx:ac.eval x= .slice (some ⟨w.heap.size,0,none⟩) 1 1) (jq:cs=#[.int .i64 y])
  (dW:xs.length<=1000000) (cZ:base<=w.heap.size)
  (h:∀v' w',Hid (Own jL 3 w' base v' (xs++[y]))->Hid (Kq (λq=>v.ownBlock=some q) w w')->Hid (∀q,v'.ownBlock=some q->v.ownBlock=some q\/w.heap.size<=q)->wpList prog ops Q rest (ac.put o.dst v') w'):wpList prog ops Q (o::rest) ac (w.alloc (.cells cs 3)):=
 wpList_plain mD λ_ hK=>Yy s x ho base v xs hs (bG.alloc _) _ _ 1 1 [y] hx (jg.lit w 3 [y] 1 rfl ae jq) (by simp;omega) (by simp;omega) λv' w' h1 h2 h3=>hK _ _ (h v' w' (ag h1)
  (ag ((Kq.of ((Below.refl _ w).alloc (Nat.le_refl _) _)).trans (Kq.grown h2))) (ag λq hq=>by
   rcases h3 with h4|h4
   ·exact .inl (h4▸hq)
   ·rw[h4,World.size_alloc] at hq;exact .inr (by injection hq with hq;omega)))
theorem aag (Zo n0:Nat) (total:List (Nat×Nat×Nat)) (ht:total.length<=100000) (n:Nat):AX 191 #[.pointer (some ⟨Zo,0,none⟩)] total Q n (PgJ Zo n0):=by
 refine⟨alI Zo n0 Q n,enters_of Tryz.func191 az rfl,?_⟩;rintro pre ⟨a,p,lv⟩ X W ⟨v,h1,h2,h3,h4,h5⟩ dQ;have hl:(fJ pre).length<=100000:=by have:=DI pre;have:=dQ.length_le;rw[List.length_append] at this;omega
 obtain⟨m,hm⟩:=bu ((fJ pre).length);obtain⟨ad,c,rfl,_⟩:=h2.bZ hm.symm;have H1:=ag h1;have H2:=ag h2;have H5:=ag h5;have HM:=ag hm;have c0:=h1.aj (i:=0) rfl;have aU:=h1.lt;by_cases h0:lv=0
 ·have HE:=ag (show fJ (pre++[(a,p,lv)])=fJ pre++[(a:Int)] by rw[MW];subst h0;rfl);have g0:((lv:Int)==0)=true:=by rw[beq_iff_eq];omega
  unfold ylV;clear h1 h2 h5 hm h0
  go_in
  go_wp2_with (at_builtin;refine O8 rfl _ _ rfl n0 _ (fJ pre) rfl H2.o (a:Int) rfl rfl ae h4 ?_;intro v3 w3 rf jU HV3;obtain⟨a3,c3,rfl,_⟩:=rf.o.bZ (n:=m+1) (by rw[List.length_append,<-HM.o];rfl);have dE:=ag (H1.o.kq jU.o (λh=>by have:=(H2.o.aP _ h).1;omega));have c42:=dE.o.aj (i:=0) rfl;have f42:=dE.o.frozen 0)
  go_ret;have eQ:Kq (λq=>q=Zo) w3 (w3.setCell ⟨Zo,0,none⟩ (.slice a3 (m+1) c3)):=Kq.one ⟨Zo,0,none⟩ _;have hs3:=jU.o.size;have dh:∀q,(Value.slice a3 (m+1) c3).ownBlock=some q->q≠Zo:=λq hq e=>by have:=(rf.o.aP q hq).1;omega
  refine⟨rfl,⟨λq=>q=Zo\/(Value.slice a3 (m+1) c3).ownBlock=some q,⟨_,dE.o.set 0 _,?_,h3,Nat.le_trans h4 (Nat.le_trans hs3 eQ.size),λq=>Iff.rfl⟩,λq hq=>?_⟩,(jU.o.mono λq h=>(H5.o q).2 (.inr h)).trans (eQ.mono λq h=>(H5.o q).2 (.inl h))⟩
  ·rw[HE.o];exact rf.o.kq eQ dh
  ·rcases hq with h|h
   ·exact .inl ((H5.o q).2 (.inl h))
   ·rcases HV3.o q h with h6|h6
    ·exact .inl ((H5.o q).2 (.inr h6))
    ·exact .inr h6
 ·have HE:=ag (show fJ (pre++[(a,p,lv)])=fJ pre by rw[MW];unfold fJ;simp[h0]);have g0:((lv:Int)==0)=false:=by rw[beq_eq_false_iff_ne];omega
  unfold ylV;have Gi:=ag (show PgJ Zo n0 (pre++[(a,p,lv)]) X W from⟨_,h1,by rw[HE.o];exact h2,h3,h4,h5⟩);clear h1 h2 h5 hm h0
  go_in
  go_wp2;go_ret;exact⟨rfl,⟨X,Gi.o,Grew.refl _ _⟩,Kq.refl _ _⟩
def aah (NB B:Nat) (Q:Nat->Prop) (P:Nat) (f:Fm) (s:Ps) (l:List Int) (w:World) (e:Ending) (w':World):Prop:=
 (∃v,e= .returned v/\Own jL 3 w' w.heap.size v l)/\bT NB B Q w' P f s/\Kq Q w w'
theorem wV {fi:Nf} (h:bT NB B Q w P f s) (hw:Wf s fi.io):
  Calls prog 134 #[P,zG fi] w (aah NB B Q P f s (fJ (yl s.g fi.io)) w):=by
 have HH:=ag h;have HW:=ag hw;have hdl:=hw.dl;obtain⟨l,hl⟩:=bu (yl s.g fi.io);have HLl:=ag (show l.length<=2000 from by rw[hl];exact OA h.ok fi.io);have HL:=ag hl;rw[<-hl];have VT:=ag hdl;unfold zG dG;clear h hw hl hdl
 go_in
 have hm:=sJ.made ((w.alloc (.cells #[.int .i64 fi.k,.int .i64 fi.l,.int .i64 fi.s,.int .i64 (nd fi 0),.int .i64 (nd fi 1),.int .i64 (nd fi 2),.int .i64 (nd fi 3),.int .i64 (nd fi 4),.int .i64 (nd fi 5),.int .i64 (fi.io.s:Int),.int .i64 (fi.io.b:Int)] 107)).alloc (.cells #[.slice none 0 0] 116)) VT.o P;have hz:=(aF.new (w.alloc (.cells #[.int .i64 fi.k,.int .i64 fi.l,.int .i64 fi.s,.int .i64 (nd fi 0),.int .i64 (nd fi 1),.int .i64 (nd fi 2),.int .i64 (nd fi 3),.int .i64 (nd fi 4),.int .i64 (nd fi 5),.int .i64 (fi.io.s:Int),.int .i64 (fi.io.b:Int)] 107)) 116 #[.slice none 0 0]).alloc (.cells (nfA P fi) 204);have hb:Below w.heap.size w (((w.alloc (.cells #[.int .i64 fi.k,.int .i64 fi.l,.int .i64 fi.s,.int .i64 (nd fi 0),.int .i64 (nd fi 1),.int .i64 (nd fi 2),.int .i64 (nd fi 3),.int .i64 (nd fi 4),.int .i64 (nd fi 5),.int .i64 (fi.io.s:Int),.int .i64 (fi.io.b:Int)] 107)).alloc (.cells #[.slice none 0 0] 116)).alloc (.cells (nfA P fi) 204)):=(((Below.refl _ w).alloc (Nat.le_refl _) _).alloc au _).alloc (by simp;omega) _;have ja:(((w.alloc (.cells #[.int .i64 fi.k,.int .i64 fi.l,.int .i64 fi.s,.int .i64 (nd fi 0),.int .i64 (nd fi 1),.int .i64 (nd fi 2),.int .i64 (nd fi 3),.int .i64 (nd fi 4),.int .i64 (nd fi 5),.int .i64 (fi.io.s:Int),.int .i64 (fi.io.b:Int)] 107)).alloc (.cells #[.slice none 0 0] 116)).alloc (.cells (nfA P fi) 204)).heap.size=w.heap.size+3:=au;simp only[World.size_alloc] at hm hz;have HM:=ag hm;have HZ:=ag hz;have HB:=ag hb;have Qu:=ag ja;clear hm hz hb ja;go_wp2_with fail;obtain⟨w3,hw3⟩:∃w3,w3=((w.alloc (.cells #[.int .i64 fi.k,.int .i64 fi.l,.int .i64 fi.s,.int .i64 (nd fi 0),.int .i64 (nd fi 1),.int .i64 (nd fi 2),.int .i64 (nd fi 3),.int .i64 (nd fi 4),.int .i64 (nd fi 5),.int .i64 (fi.io.s:Int),.int .i64 (fi.io.b:Int)] 107)).alloc (.cells #[.slice none 0 0] 116)).alloc (.cells (nfA P fi) 204):=⟨_,rfl⟩
 rw[<-hw3] at HM HZ HB Qu;have mP:=ag (HH.o.on HB.o);have HJ3:=ag (show PgJ (w.heap.size+1) (w.heap.size+2) [] (λq=>q=w.heap.size+1) w3 from⟨_,HZ.o,Own.nil _ _,ae,by have:=Qu.o;omega,λq=>⟨.inl,λh=>by rcases h with h|h;exact h;cases h⟩⟩);have o6:=AY (n:=w3.heap.size) mP.o HM.o (HH.o.aV ae) HW.o (by rw[<-HL.o];exact aag (Q:=Q) (w.heap.size+1) (w.heap.size+2) l (by have:=HLl.o;omega) w3.heap.size) (Nat.le_refl _) (λq e=>⟨λh=>by have:=(HH.o.bnd q h).2;omega,ae⟩) HJ3.o;rw[<-HL.o,hw3] at o6;refine o6.mono ?_;rintro e w4 ⟨⟨v,rfl⟩,⟨X',⟨ov,h1,h2,h3,h4,h5⟩,hg⟩,Yb,oU⟩;have c5:=h1.aj (i:=0) rfl;have lX:=ag (show Own jL 3 w4 w.heap.size ov (fJ l)/\bT NB B Q w4 P f s/\Kq Q w w4 from⟨h2.mono ae,Yb,((Kq.of (T:=Q) HB.o).ay (by rw[<-hw3] at oU;exact oU) λq h=>by rcases h with h|h;exact .inl h;exact .inr ae)⟩);clear o6 hw3 h1 h2 h5 hg Yb oU;go_wp2;go_ret;exact⟨⟨_,rfl,lX.o.1⟩,lX.o.2⟩
end
section
open Go.RowKit eu aN
variable {NB B P:Nat} {Q:Nat->Prop} {w w':World} {f:Fm} {s:Ps}

namespace aN
def ZZ (s:Ps) (io:zJ.Io) (n:Nat):List UInt8:=if CS s.g io n=0 then zeros else s.g (CS s.g io n)
def Wv (off e:Nat):Nat:=min 64 (off%64+(e-off))
def rdB (s:Ps) (io:zJ.Io) (off e:Nat):List UInt8:=((ZZ s io (off/64)).take (Wv off e)).drop (off%64)
def rdS:Nat->Ps->zJ.Io->Nat->Nat->List UInt8
 |0,_,_,_,_=>[]
 |m+1,s,io,off,e=>if off<e then rdB s io off e++rdS m s io (off+(Wv off e-off%64)) e else[]
theorem ahD {off e:Nat} (h:off<e):off%64<Wv off e/\Wv off e<=64/\off+(Wv off e-off%64)<=e:=by unfold Wv;omega
theorem Tc {s:Ps} (ho:s.Ok) {io:zJ.Io} (hw:Wf s io) {n:Nat} (hn:n<1062):(ZZ s io n).length=64:=by
 unfold ZZ
 split
 ·exact dR
 ·rename_i h;exact ho.sz _ ((hw.at_ hn).there h)
theorem ahE {s:Ps} (ho:s.Ok) {io:zJ.Io} (hw:Wf s io) {off e:Nat} (hn:off/64<1062):(rdB s io off e).length=Wv off e-off%64:=by unfold rdB;rw[List.length_drop,List.length_take,Tc ho hw hn];unfold Wv;omega
end aN
theorem adT {B:Nat} {W W':World} (h:Below B W W'):Kq (λk=>B<=k) W W':=⟨h.os,h.tape,h.output,h.size,λk _ h1=>h.block k ae⟩
def Ws (NB B:Nat) (Q:Nat->Prop) (P:Nat) (f:Fm) (s:Ps) (x:List UInt8) (w:World) (e:Ending) (w':World):Prop:=
 (∃v,e= .returned (.tuple #[v,.int .i64 0])/\Own aH 5 w' w.heap.size v x)/\bT NB B Q w' P f s/\Kq Q w w'
theorem IC {fi:Nf} {off n z e:Nat} {R:List UInt8} (h:bT NB B Q w P f s) (hw:Wf s fi.io) (hn:n<=1024) (hz:fi.s=(z:Int)) (yU:z<=384) (ag4:off<=384) (he:e=off+min n (z-off)) (hR:R=rdS 20 s fi.io off e):
  Calls prog 87 #[P,zG fi,.int .i64 off,.int .i64 n] w (Ws NB B Q P f s R w):=by
 have HH:=ag h;have HW:=ag hw;have VT:=ag hw.dl;have HZz:=ag hz;have HR:=ag hR;have HE0:=ag he;clear hR he;unfold zG dG;have g0:¬(off:Int)<0:=ae;have g1:¬(n:Int)<0:=ae;have g2:¬(1024:Int)<(n:Int):=ae;clear h hw
 go_in
 rw[hz];obtain⟨w2,jP⟩:∃W,W=w.alloc (.cells #[.int .i64 fi.k,.int .i64 fi.l,.int .i64 z,.int .i64 (nd fi 0),.int .i64 (nd fi 1),.int .i64 (nd fi 2),.int .i64 (nd fi 3),.int .i64 (nd fi 4),.int .i64 (nd fi 5),.int .i64 (fi.io.s:Int),.int .i64 (fi.io.b:Int)] 107):=⟨_,rfl⟩
 have aW:Below w.heap.size w w2:=by rw[jP];exact(Below.refl _ w).alloc (Nat.le_refl _) _
 have qp:aF w2 w.heap.size 107 #[.int .i64 fi.k,.int .i64 fi.l,.int .i64 z,.int .i64 (nd fi 0),.int .i64 (nd fi 1),.int .i64 (nd fi 2),.int .i64 (nd fi 3),.int .i64 (nd fi 4),.int .i64 (nd fi 5),.int .i64 (fi.io.s:Int),.int .i64 (fi.io.b:Int)]:=by rw[jP];exact aF.new w _ _
 have mr:w2.heap.size=w.heap.size+1:=by rw[jP];simp
 have dA:=ag aW;have HZ0:=ag qp;have wJ:=ag mr;have pF:=ag (HH.o.on aW);have HW2:=ag jP;clear aW qp mr hz jP;by_cases aU:off<z
 ·have gz:¬(z:Int)<=(off:Int):=ae;go_upto_region 8 with fail;rw[<-HW2.o];obtain⟨w1,jw⟩:∃W,W=w2.alloc (.cells #[.pointer (some ⟨P,0,none⟩),.int .i64 fi.k,.int .i64 fi.l,.int .i64 z,.int .i64 (nd fi 0),.int .i64 (nd fi 1),.int .i64 (nd fi 2),.int .i64 (nd fi 3),.int .i64 (nd fi 4),.int .i64 (nd fi 5),.int .i64 (fi.io.s:Int),.int .i64 (fi.io.b:Int)] 204):=⟨_,rfl⟩
  rw[<-jw];have bK:Below w2.heap.size w2 w1:=by rw[jw];exact(Below.refl _ w2).alloc (Nat.le_refl _) _
  have yK:sJ w1 (w.heap.size+1) P fi:=by rw[jw,<-wJ.o,<-HZz.o];exact sJ.made w2 VT.o P
  have iO:w1.heap.size=w.heap.size+2:=by rw[jw];simp[wJ.o]
  have y2:=(HZ0.o.ah bK).aj (i:=2) rfl;have uw:=ag (pF.o.on bK);have mF:=ag ((Kq.of (T:=Q) dA.o).on bK);have XX:=ag yK;have he:=HE0.o;have h1:=IntWalk.i64_in ((z:Int)-(off:Int)) ⟨ae,ae⟩;have h2:min (n:Int) ((z:Int)-(off:Int))=(e:Int)-(off:Int):=ae;have h3:=IntWalk.i64_in ((off:Int)+((e:Int)-(off:Int))) ⟨ae,ae⟩;have h4:(off:Int)+((e:Int)-(off:Int))=(e:Int):=ae;have HE:=ag (show off<=e/\e<=off+1024/\e<=z by omega);clear jw bK yK he;go_wp2_with fail;refine(dO uw.o).mono ?_;rintro e9 w_ ⟨rfl,rfl⟩;clear y2 h1 h2 h3 h4;go_wp2_with fail;have HF:=ag (show¬Q (w.heap.size+1) from HH.o.aV ae);have nZ:=ag iO;have uY:=adU;have hl0:=HE.o
  go_loopw [2,12,14,15,16,17,18] (λv2 v12 _ _ _ _ _ wr=>∃(bF fu:Nat) (acc:List UInt8),v2= .int .i64 bF/\Own aH 5 wr w1.heap.size v12 acc/\bF<=e/\(bF<e->(e+63)/64-bF/64<=fu)/\acc.length+(e-bF)<=1024/\acc++rdS fu s fi.io bF e=R/\bT NB B Q wr P f s/\sJ wr (w.heap.size+1) P fi/\Kq Q w1 wr) (λv2 _ _ _ _ _ _ _=>100000-(intOf v2).toNat)
  case atStart=>exact⟨off,20,[],rfl,Own.nil _ _,ae,λ_=>ae,by simp;omega,by rw[HR.o];rfl,uw.o,XX.o,Kq.refl _ _⟩
  case round=>
   obtain⟨bF,fu,acc,rfl,ho',hle,hfu,hac,hR',hp',hn',Dq⟩:=hrel;have HO':=ag ho';have HP':=ag hp';have U9:=ag hn';have HK':=ag Dq;have HR':=ag hR';clear ho' hp' hn' Dq hR';by_cases qw:bF<e
   ·have h1:=hfu qw;obtain⟨fu,rfl⟩:∃k,fu=k+1:=⟨fu-1,ae⟩
    have HFu:=ag (show(e+63)/64-bF/64<=fu+1 from h1);obtain⟨k,hk⟩:=bu (bF/64);have qY:=ag (show(acc++rdB s fi.io bF e)++rdS fu s fi.io (bF+(Wv bF e-bF%64)) e=R from by rw[<-HR'.o,List.append_assoc];exact congrArg _ (if_pos qw).symm);have ZU:=ag (ahE HH.o.ok HW.o (off:=bF) (e:=e) ae);have JQ:=ag (Tc HH.o.ok HW.o (n:=k) ae);have HRb:=ag (show rdB s fi.io bF e=((ZZ s fi.io k).take (Wv bF e)).drop (bF%64) by rw[hk];rfl);have uZ:=ag (ahD qw);have HHe:=ag (show Wv bF e=min 64 (bF%64+(e-bF)) from rfl);obtain⟨L,hL⟩:=bu (Wv bF e);rw[<-hL] at qY ZU HRb uZ HHe;obtain⟨X,hX⟩:=bu (rdB s fi.io bF e);rw[<-hX] at qY ZU HRb;obtain⟨At,O1⟩:=bu (CS s.g fi.io k);have QA:=ag O1;obtain⟨pg,wQ⟩:=bu (ZZ s fi.io k);have Gi:=ag (show pg=if At=0 then zeros else s.g At from by rw[wQ,O1];rfl);rw[<-wQ] at HRb JQ;have HAc:=ag (λW (hp:bT NB B Q W P f s) (hn:sJ W (w.heap.size+1) P fi)=>(show Calls prog 135 #[.pointer (some ⟨w.heap.size+1,0,none⟩),.int .i64 ((bF:Int)/64)] W (qA NB B Q P f s (.int .i64 At) W) from by rw[O1,show(bF:Int)/64=(k:Int) from ae];exact rU hp hn HF.o HW.o ae));have q0:IntKind.i64.wrap (Int.tdiv (bF:Int) 64)=(k:Int):=by rw[Int.tdiv_eq_ediv_of_nonneg ae];rw[show(bF:Int)/64=(k:Int) from ae];exact IntWalk.i64_in (k:Int) ⟨ae,ae⟩
    have MK:=ag (show At≠0->s.There At from λh0=>by rw[O1] at h0⊢;exact(HW.o.at_ ae).there h0);clear h1 hfu hL hX O1 wQ hk;go_upto_region 13 with fail;have fQ:Below wr.heap.size wr (wr.alloc (.cells (Array.replicate 64 (.int .u8 0)) 5)):=(Below.refl _ wr).alloc (Nat.le_refl _) _;have HZr:=ag ((nH wr wr.heap.size 64 (Nat.le_refl _) ae).mono (show w1.heap.size<=wr.heap.size from HK'.o.size));have HPa:=ag (HP'.o.on fQ);have HNa:=ag (U9.o.on fQ);have HKa:=ag (HK'.o.on fQ);have HOa:=ag (HO'.o.kq (Kq.of (T:=Q) fQ) λq hq h=>by have:=(HO'.o.aP q hq).1;have:=(HH.o.bnd q h).2;omega);have HZb:=ag (show∀q,u12.ownBlock=some q->q≠wr.heap.size from λq hq=>by have:=(HO'.o.aP q hq).2;omega);clear fQ uY;generalize wr.alloc (.cells (Array.replicate 64 (.int .u8 0)) 5)=W at*;generalize wr.heap.size=g at*;go_wp2_with fail;refine(HAc.o W HPa.o HNa.o).mono ?_;rintro e9 W2 ⟨rfl,iU,fA⟩;have aqi:=ag iU;have alJ:=ag fA;clear iU fA;go_upto_if 63 with fail
    go_cut [14] from 52 to 94 (λv14 wx=>∃g c,v14= .slice (some ⟨g,0,none⟩) 64 c/\Hid (64<=c)/\Hid (Bytes wx wx.heap.size (some ⟨g,0,none⟩) 64 pg)/\Hid (bT NB B Q wx P f s)/\Hid (Kq Q W wx))
    case first=>
     by_cases h0:At=0
     ·have gz:((At:Int)==0)=true:=by rw[beq_iff_eq];omega
      have HPz:=ag (show pg=zeros from Gi.o.trans (if_pos h0));clear h0;go_wp2_with fail;go_meet
      case rel=>
       refine⟨g,64,rfl,ag (Nat.le_refl _),hid ?_,aqi,alJ⟩;rw[HPz.o];have hz:Own aH 5 W2 w1.heap.size (.slice (some ⟨g,0,none⟩) 64 64) zeros:=HZr.o.kq alJ.o λq hq h=>by have:=(HZr.o.aP q hq).1;have:=(HH.o.bnd q h).2;omega
       exact hz.arr aB
     ·have gz:((At:Int)==0)=false:=by rw[beq_eq_false_iff_ne];omega
      have HPz:=ag (show pg=s.g At from Gi.o.trans (if_neg h0));have JK:=ag (MK.o h0);clear h0;go_wp2_with fail;refine(lZ aqi.o JK.o).mono ?_;rintro e9 W3 ⟨⟨v,rfl,ho⟩,oq,jY⟩;have hx3:=oq.ok.sz At JK.o;obtain⟨a3,c3,rfl,yR⟩:=ho.bZ hx3;obtain⟨g3,rfl,_,_⟩:=ho.addr (by rw[hx3];omega);have zZ:=ag (show Bytes W3 W3.heap.size (some ⟨g3,0,none⟩) 64 pg from by rw[HPz.o];exact ho.arr (by rw[hx3];decide));have zD:=ag yR;have mP:=ag oq;have jU:=ag (alJ.o.trans jY);clear ho oq jY hx3 yR;go_wp2_with fail;go_meet
      case rel=>exact⟨g3,c3,rfl,zD,zZ,mP,jU⟩
    case rest=>
     obtain⟨g4,c4,rfl,Va,HX4,xP,mY⟩:=hcut;generalize wc=W4 at*;clear q0;have hh1:=uZ.o;have hhe:=HHe.o;have ajq:∀u,(Instr.slice 23 (.slice (some ⟨g4,0,none⟩) 64 c4) (some (.int .i64 ((bF:Int)%64))) (some (.int .i64 L)) none).run prog u= .ok (.slice (some ⟨g4,bF%64,none⟩) (L-bF%64:Nat) (c4-bF%64:Nat)) u:=λu=>by have h:=Hm (some ⟨g4,0,none⟩) 64 c4 (bF%64) L ae (by have:=Va.o;omega) u;rw[iL,if_neg (by have:=Va.o;omega)] at h;rw[show(bF:Int)%64=((bF%64:Nat):Int) from ae,h];show Result.ok (Value.slice (some ((⟨g4,0,none⟩:Addr).add (bF%64))) _ _) u=_;rw[Addr.add_mid,Nat.zero_add]
     have av7:=ag ajq;have Ad:=ag (show w1.heap.size<=W4.drew.heap.size from Nat.le_trans HKa.o.size (Nat.le_trans mY.o.size (ak W4).size));have Si:=ag (xP.o.on (ak W4));have zx:=ag ((HKa.o.trans mY.o).on (ak W4));have Y3:=ag ((HNa.o.kq mY.o HF.o).on (ak W4));have GZ:=ag ((HOa.o.kq mY.o λq hq h=>by have:=(HOa.o.aP q hq).1;have:=(HH.o.bnd q h).2;omega).kq (Kq.of (T:=λ_=>False) (ak W4)) λq hq h=>h);have Dt:=ag (show Bytes W4.drew W4.drew.heap.size (some ⟨g4,bF%64,none⟩) (L-bF%64) X from by
      have h1:=((HX4.o.on (ak W4)).take (show L<=64 by omega)).drop (l:=bF%64) (c:=c4) ae (by have:=Va.o;omega);rw[iL,if_neg (by have:=Va.o;omega),<-HRb.o] at h1;have e:(⟨g4,0,none⟩:Addr).add (bF%64)=⟨g4,bF%64,none⟩:=by rw[Addr.add_mid,Nat.zero_add]
      rw[<-e];exact h1)
     clear ajq;have q2:=IntWalk.i64_in ((bF:Int)%64) ⟨ae,ae⟩;have q3:Int.tmod (bF:Int) 64=(bF:Int)%64:=Int.tmod_eq_emod_of_nonneg ae;have q4:=IntWalk.i64_in ((bF:Int)%64+(e:Int)) ⟨ae,ae⟩;have q5:=IntWalk.i64_in ((bF:Int)%64+(e:Int)-(bF:Int)) ⟨ae,ae⟩;have q6:min (64:Int) ((bF:Int)%64+(e:Int)-(bF:Int))=(L:Int):=ae;have q7:L<=c4:=by have:=Va.o;omega
     clear hh1 hhe;go_upto_region 19 with fail;refine iT (λ_=>True) trivial (λbJ=>?_);refine fB 0 (.slice (some ⟨g4,0,none⟩) 64 c4) ?_;refine eF 1 (bF:Int) ?_;refine eF 2 64 ?_;refine ik 3 ((bF:Int)%64) ?_;refine eF 4 64 ?_;refine eF 5 (bF:Int) ?_;refine eF 6 64 ?_;refine ik 7 ((bF:Int)%64) ?_;refine eF 8 (e:Int) ?_;refine ik 9 (((bF:Int)%64+(e:Int))) ?_;refine eF 10 (bF:Int) ?_;refine ik 11 (((bF:Int)%64+(e:Int)-(bF:Int))) ?_;refine ik 12 (L:Int) ?_;refine tC 13 (.slice (some ⟨g4,bF%64,none⟩) (L-bF%64:Nat) (c4-bF%64:Nat)) (λ_ aI=>av7.o) ?_;refine fB 14 (.slice (some ⟨g4,bF%64,none⟩) (L-bF%64:Nat) (c4-bF%64:Nat)) ?_;refine gB ?_;clear bJ q2 q3 q4 q5 q6;generalize W4.drew=W5 at*;obtain⟨pl,oh⟩:=bu (L-bF%64);rw[<-oh];rw[<-oh] at Dt qY ZU;have hh1:=uZ.o;rw[<-oh] at hh1;have alK:=ag (show 1<=pl/\bF+pl<=e/\pl<=64 by omega);have av8:=ag (show bF+pl<e->(bF+pl)%64=0 by have:=HHe.o;omega);have HGk:=ag (IntWalk.i64_in ((bF:Int)+(pl:Int)) ⟨ae,ae⟩);have gk:=HGk.o;have aDz:acc.length+pl<=1024:=by have:=alK.o;omega
     clear hh1 oh
     go_wp2_with (at_builtin;refine lU rfl _ _ rfl w1.heap.size u12 acc rfl GZ.o _ (some ⟨g4,bF%64,none⟩) pl (c4-bF%64) X rfl Dt.o ae Ad.o ?_;intro v6 W6 Eg vP)
     have uu:=ag (adT vP.o);have hs6:=nZ.o;go_roundw
     case rel=>
      have h1:=alK.o;refine⟨bF+pl,fu,acc++X,by go_num,Eg.o,ae,λh=>?_,?_,qY.o,Si.o.kq uu.o λq hq h=>?_,Y3.o.kq uu.o ae,zx.o.ay uu.o λq h=> .inr h⟩
      ·have:=av8.o h;have:=HFu.o;omega
      ·rw[List.length_append,ZU.o];omega
      ·have:=(HH.o.bnd q hq).2;omega
     case measure=>have h1:=alK.o;have h2:=HGk.o;simp only[intOf];omega
   ·have ge:¬(bF:Int)<(e:Int):=ae;have NS:=ag (show R=acc from by
     rw[<-HR'.o]
     cases fu with
     |zero=>exact List.append_nil _
     |succ k=>rw[show rdS (k+1) s fi.io bF e=[] from if_neg qw,List.append_nil])
    go_wp2_with fail;go_ret2;exact⟨⟨_,rfl,by rw[NS.o];exact HO'.o.mono (by have:=nZ.o;omega)⟩,HP'.o,mF.o.trans HK'.o⟩
 ·have gz:(z:Int)<=(off:Int):=ae;have oQ:=ag (show R=[] from HR.o.trans (if_neg (by have:=HE0.o;omega)));go_wp2_with fail;rw[<-HW2.o];go_ret2;exact⟨⟨_,rfl,by rw[oQ.o];exact Own.nil _ _⟩,pF.o,Kq.of dA.o⟩
theorem KG {fi:Nf} {off n z:Nat} (h:bT NB B Q w P f s) (hw:Wf s fi.io) (hn:n<=1024) (hz:fi.s=(z:Int)) (yU:z<=384) (ag4:off<=384):
  Calls prog 87 #[P,zG fi,.int .i64 off,.int .i64 n] w (Ws NB B Q P f s (rdS 20 s fi.io off (off+min n (z-off))) w):=
 IC h hw hn hz yU ag4 rfl rfl
end
end Go.Proofs.YtnieckfelfoopaaGreat

import Derived.Test.YtnieckfelfoopaaGreatDirZero
import Derived.Test.YtnieckfelfoopaaGreatChMem
import Derived.RangeFuncGives
import Derived.Test.YtnieckfelfoopaaGreatMapKey
import Derived.OwnWalkIn
import Derived.TacticsInMore
import Derived.RegionIn
import Derived.LoopNIn
import Derived.LoopIn
import Derived.Sort.MapsRangeIn
open Go.Proofs.Tryz (prog)
namespace Go.Proofs.YtnieckfelfoopaaGreat
open Lib (hid)
set_option maxRecDepth 100000
set_option maxHeartbeats 16000000
section
open Go.RowKit

def Grew (X:Nat->Prop) (W:World) (X':Nat->Prop):Prop:=∀q,X' q->X q\/W.heap.size<=q
structure JX {α:Type} (T:Nat->Prop) (n:Nat) (J:List α->(Nat->Prop)->World->Prop):Prop where
 bd:∀pre X W,J pre X W->∀q,X q->q<W.heap.size
 kq:∀pre X W W' (T':Nat->Prop),J pre X W->Kq T' W W'->(∀q,T' q->(T q\/n<=q)/\¬X q)->J pre X W'
theorem JX.mono {α:Type} {T:Nat->Prop} {n m:Nat} {J:List α->(Nat->Prop)->World->Prop} (h:JX T n J) (hm:n<=m):JX T m J:=
 ⟨h.bd,λpre X W W' T' h1 h2 h3=>h.kq pre X W W' T' h1 h2 λq hq=>⟨(h3 q hq).1.imp id (Nat.le_trans hm),(h3 q hq).2⟩⟩
theorem JX.on {α:Type} {T:Nat->Prop} {n:Nat} {J:List α->(Nat->Prop)->World->Prop} (h:JX T n J) {pre:List α} {X:Nat->Prop} {W W':World} (h1:J pre X W) (hb:Below W.heap.size W W'):J pre X W':=
 h.kq pre X W W' (λ_=>False) h1 (Kq.of hb) λ_ h=>h.elim
def acV {α:Type} (J Jx:List α->(Nat->Prop)->World->Prop) (pre:List α) (X:Nat->Prop) (W:World) (e:Ending) (W':World):Prop:=
 ((e= .returned (.bool true)/\∃X',J pre X' W'/\Grew X W X')\/(e= .returned (.bool false)/\∃X',Jx pre X' W'/\Grew X W X'))/\Kq X W W'
def X7 {α:Type} (P:Program) (gf:Nat) (lb:Array Value) (encs:α->Array Value) (xs:List α) (st:Prop) (Po:World->Prop) (T own:Nat->Prop) (w0:World):Prop:=
 ∀(l:Nat) (J Jx:List α->(Nat->Prop)->World->Prop) (X:Nat->Prop) (W:World),JX T W.heap.size J->JX T W.heap.size Jx->(st\/∀pre X W,¬Jx pre X W)->Kq (λq=>¬own q) w0 W->(∀q,X q->¬T q/\¬own q)->(∀q,own q->q<w0.heap.size)->
  (∀pre x X1 W1,J pre X1 W1->(pre++[x])<+:xs->YieldAt Fence.wide 7 P l (encs x) W1 (acV J Jx (pre++[x]) X1 W1))->J [] X W->
  CallsIn Fence.wide 8 P gf (#[.func (.yield l) #[] #[]]++lb) W λe W'=>(∃v,e= .returned v)/\((∃X',J xs X' W'/\Grew X W X')\/∃pre X',pre<+:xs/\Jx pre X' W'/\Grew X W X')/\Kq (λq=>T q\/X q) W W'/\Po W'
def Rt {α:Type} (I:List α->(Nat->Prop)->World->Prop) (Ix:Code->List α->(Nat->Prop)->World->Prop) (pre:List α) (X:Nat->Prop) (W:World):Exit->Act->World->Prop
 | .normal,_,W'=>(∃X',I pre X' W'/\Grew X W X')/\Kq X W W'
 | .ret,_,W'=>(∃X',Ix .ret pre X' W'/\Grew X W X')/\Kq X W W'
 | .exit id,_,W'=>(∃X',Ix (.exit id) pre X' W'/\Grew X W X')/\Kq X W W'
 | .goto g,_,W'=>(∃X',Ix (.goto g) pre X' W'/\Grew X W X')/\Kq X W W'
 | .panic _,_,_=>False
 | .outgrown,_,_=>False
theorem Grew.refl (X:Nat->Prop) (W:World):Grew X W X:=λ_ h=> .inl h
theorem Grew.trans {X X1 X2:Nat->Prop} {W W1:World} (h:Grew X W X1) (k:Grew X1 W1 X2) (hs:W.heap.size<=W1.heap.size):Grew X W X2:=λq hq=>by
 rcases k q hq with h1|h1
 ·exact h q h1
 ·exact .inr ae
theorem Grew.not {X X':Nat->Prop} {W:World} (h:Grew X W X') {q:Nat} (hq:¬X q) (hl:q<W.heap.size):¬X' q:=λh1=>by
 rcases h q h1 with h2|h2
 ·exact hq h2
 ·omega
theorem dS (W:World) (l:Nat) (o:Obj):Kq (λq=>q=l) W (W.putObj l o):=
 ⟨rfl,rfl,rfl,by rw[World.putObj_size];exact Nat.le_refl _,λk _ hn=>World.putObj_heap_other (λe=>hn e)⟩
theorem Es {α:Type} {P:Program} {g:Operand} {ps:Array Tmp} {assign body:Code} {Q:Exit->Act->World->Prop} {a:Act} {w:World} {gf:Nat} {lb:Array Value} {encs:α->Array Value} {xs:List α} {st:Prop} {Po:World->Prop} {T own:Nat->Prop} {w0:World}
  (hg:a.eval g= .func (.func gf) #[] lb) (eg:∀args w,(callFunc gf args).run P w= .ok (.enter gf args) w) (mJ:X7 P gf lb encs xs st Po T own w0) (hPo:∀W W' q0,Po W->Kq (λq=>q=q0) W W'->w.heap.size<=q0->Po W') (fF:Kq (λq=>¬own q) w0 w) (bG:∀q,own q->q<w0.heap.size) (hT:∀q,T q->q<w.heap.size)
  (LC:∀x,(encs x).size=ps.size) (I:List α->(Nat->Prop)->World->Prop) (hI:JX T w.heap.size I) (Ix:Code->List α->(Nat->Prop)->World->Prop) (vU:∀k,JX T w.heap.size (Ix k)) (eQ:st\/∀k pre X W,¬Ix k pre X W) (X:Nat->Prop) (h0:I [] X w) (hX:∀q,X q->¬T q/\¬own q) (A:α->World->World->Act->Prop) (hA:∀x W0 W W' a,A x W0 W a->Kq (λq=>q<W0.heap.size) W W'->A x W0 W' a)
  (lT:∀(l:Nat) (x:α) (W:World) (K:Act->World->Prop),(∀vM W',A x W W' vM->Below W.heap.size W W'->K vM W')->assign.wpIn (Fence.wide.inRound l) 7 P (Exit.then K (λ_ _ _=>False)) {tmps:=(ps.zip (encs x)).foldl (λt (p,v)=>t.setIfInBounds p v) a.tmps,defers:=[]} W)
  (wF:∀(l:Nat) (pre:List α) (x:α) (X1:Nat->Prop) (W0 W:World) (vM:Act),I pre X1 W->A x W0 W vM->(∀q,X1 q->q<W0.heap.size)->w.heap.size<=W0.heap.size->W0.heap.size<=W.heap.size->Grew X w X1->(pre++[x])<+:xs->body.wpIn (Fence.wide.inRound l) 7 P (Rt I Ix (pre++[x]) X1 W) vM W)
  (wG:∀(D:Nat) (X1:Nat->Prop) (W:World),w.heap.size<=D->I xs X1 W->Grew X w X1->Kq (λq=>T q\/X q) w W->(∀q,X1 q->q≠D)->Po W->W.heap[D]?=some (.deferred (some []))->Q .normal {a with defers:={target:= .collected D,args:=#[]}::a.defers} W)
  (AO:∀(D:Nat) (k:Code) (pre:List α) (X1:Nat->Prop) (W:World),w.heap.size<=D->pre<+:xs->Ix k pre X1 W->Grew X w X1->Kq (λq=>T q\/X q) w W->(∀q,X1 q->q≠D)->Po W->W.heap[D]?=some (.deferred (some []))->k.wpIn Fence.wide 9 P Q {a with defers:={target:= .collected D,args:=#[]}::a.defers} W):
  (Code.rangeFunc g ps assign body).wpIn Fence.wide 9 P Q a w:=by
 refine wpIn_rangeFunc λfn U1=>?_;obtain⟨D,hD⟩:=AP w.heap.size;obtain⟨R,hR⟩:∃R:LoopState->Option Code->Loop,R=λst pe=>{state:=st,pending:=pe,fn,tmps:=a.tmps,params:=ps,assign,body,defers:=D}:=⟨_,rfl⟩
 obtain⟨V,hV⟩:=AP ((w.alloc (.deferred (some []))).alloc (.loop (R .ready none)));have vl:V.heap[D+1]?=some (.loop (R .ready none)):=by have h:=World.alloc_heap_new (w.alloc (.deferred (some []))) (.loop (R .ready none));rw[World.size_alloc,hD,hV] at h;exact h
 have vd:V.heap[D]?=some (.deferred (some [])):=by rw[<-hV,Below.heap_alloc _ _ _ (by rw[World.size_alloc];omega),<-hD];exact World.alloc_heap_new w _
 have vs:V.heap.size=D+2:=by rw[<-hV,World.size_alloc,World.size_alloc,hD]
 have Zm:Below w.heap.size w V:=by rw[<-hV];exact((Below.refl _ w).alloc (Nat.le_refl _) _).alloc (by rw[World.size_alloc];omega) _
 have hXb:=hI.bd _ _ _ h0;have hIV:I [] X V:=hI.on h0 Zm;have oW:∀(A:World) (r:Loop) (jump:Option Code),A.heap[D+1]?=some (.loop r)->(A.putObj (D+1) (.loop {r with state:=if jump.isNone then .ready else .done,pending:=jump})).heap[D+1]?=some (.loop {r with state:=if jump.isNone then .ready else .done,pending:=jump}):=
  λA r jump h=>World.putObj_heap_same (kE h)
 obtain⟨JJ,hJJ⟩:∃JJ:(List α->(Nat->Prop)->World->Prop)->LoopState->Option Code->List α->(Nat->Prop)->World->Prop,JJ=λK st pe pre X' W=>∃X1,K pre X1 W/\Grew X w X1/\W.heap[D+1]?=some (.loop (R st pe))/\W.heap[D]?=some (.deferred (some []))/\(∀q,X' q↔X1 q\/q=D\/q=D+1)/\(∀q,X1 q->q≠D/\q≠D+1)/\D+2<=W.heap.size:=⟨_,rfl⟩
 have amE:∀K st pe,JX T w.heap.size K->JX T w.heap.size (JJ K st pe):=by
  intro K st pe hK;rw[hJJ];refine⟨?_,?_⟩
  ·rintro pre X' W ⟨X1,h1,h2,h3,h4,h5,h6,h7⟩ q hq;rcases(h5 q).1 hq with h|h|h
   ·exact hK.bd _ _ _ h1 q h
   ·omega
   ·omega
  ·rintro pre X' W W' T' ⟨X1,h1,h2,h3,h4,h5,h6,h7⟩ hk hn;refine⟨X1,hK.kq _ _ _ _ T' h1 hk λq hq=>⟨(hn q hq).1,λh=>(hn q hq).2 ((h5 q).2 (.inl h))⟩,h2,?_,?_,h5,h6,Nat.le_trans h7 hk.size⟩
   ·exact(hk.block _ ae λh=>(hn _ h).2 ((h5 _).2 (.inr (.inr rfl)))).trans h3
   ·exact(hk.block _ ae λh=>(hn _ h).2 ((h5 _).2 (.inr (.inl rfl)))).trans h4
 obtain⟨J,hJ⟩:=bu (JJ I .ready none);have hJX:JX T V.heap.size J:=by rw[hJ];exact(amE _ _ _ hI).mono ae
 obtain⟨Jx,hJx⟩:∃Jx:List α->(Nat->Prop)->World->Prop,Jx=λpre X' W=>∃k,JJ (Ix k) .done (some k) pre X' W:=⟨_,rfl⟩
 have axw:JX T V.heap.size Jx:=by rw[hJx];refine JX.mono (n:=w.heap.size) ?_ ae;exact⟨λpre X' W ⟨k,h⟩=>(amE _ _ _ (vU k)).bd pre X' W h,λpre X' W W' T' ⟨k,h⟩ hk hn=>⟨k,(amE _ _ _ (vU k)).kq pre X' W W' T' h hk hn⟩⟩
 refine⟨D+1,[{target:= .collected D,args:=#[]}],V,{target:= .fn (.func gf) lb,args:=#[.func (.yield (D+1)) #[] #[]]},V,gf,#[.func (.yield (D+1)) #[] #[]]++lb,V,?_,?_,λ_ _=>trivial,?_,wE,?_⟩
 ·have h:=run_enterLoop_outer (P:=P) (w:=w) fn a.tmps ps assign body;rw[hD] at h;rw[<-hV,hR];exact h
 ·simp only[resolve,hg];simp[go_sem]
 ·simp[invoke,go_sem,eg]
 ·have af7:=fF.size;have hkV:Kq (λq=>¬own q) w0 V:=fF.on Zm;refine(mJ (D+1) J Jx (λq=>X q\/q=D\/q=D+1) V hJX axw (eQ.imp id λh pre X W hj=>by rw[hJx] at hj;obtain⟨k,hj⟩:=hj;rw[hJJ] at hj;obtain⟨X1,h1,_⟩:=hj;exact h k pre X1 W h1) hkV ?_ bG ?_ ?_).mono ?_
  ·rintro q (h|h|h)
   ·exact hX q h
   ·exact⟨λht=>by have:=hT q ht;omega,λho=>by have:=bG q ho;omega⟩
   ·exact⟨λht=>by have:=hT q ht;omega,λho=>by have:=bG q ho;omega⟩
  ·intro pre x X' A0 hj dQ;rw[hJ,hJJ] at hj;obtain⟨X1,hi,X9,hl,hd,hx,dh,ja⟩:=hj;refine⟨fn,_,assign,body,by have h:=run_yield (P:=P) (args:=encs x) hl (by rw[hR];exact LC x);rw[hR] at h;exact h,roundIn_of_wpIn U1 (lT _ x A0 _ λvM A1 hA1 bK=>?_)⟩;have h1l:A1.heap[D+1]?=some (.loop (R .ready none)):=(bK.block _ ae).trans hl;have h1d:A1.heap[D]?=some (.deferred (some [])):=(bK.block _ ae).trans hd;have h1i:I pre X1 A1:=hI.on hi bK;have h1s:=bK.size;refine⟨_,run_beginRound h1l (by rw[hR]),?_⟩;obtain⟨A2,yT⟩:∃A2,A1.putObj (D+1) (.loop {R .ready none with state:= .busy})=A2:=⟨_,rfl⟩
   have k2:Kq (λq=>q=D+1) A1 A2:=by rw[<-yT];exact dS _ _ _
   have al:A2.heap[D+1]?=some (.loop {R .ready none with state:= .busy}):=by rw[<-yT];exact World.putObj_heap_same (kE h1l)
   have ad:A2.heap[D]?=some (.deferred (some [])):=by rw[<-yT];exact(World.putObj_heap_other ae).trans h1d
   have asz:A2.heap.size=A1.heap.size:=by rw[<-yT,World.putObj_size]
   have ai:I pre X1 A2:=hI.kq _ _ _ _ _ h1i k2 λq e=>⟨.inr ae,λh=>(dh q h).2 e⟩
   have aA:A x A0 A2 vM:=hA _ _ _ _ _ hA1 (k2.mono λq e=>ae);have hXl:∀q,X1 q->q<A0.heap.size:=hI.bd _ _ _ hi;have yK:¬X1 (D+1):=λh=>(dh _ h).2 rfl;have JD:¬X1 D:=λh=>(dh _ h).1 rfl;have e1:∀q,q=D+1->X' q:=λq h=>(hx q).2 (.inr (.inr h));have fin:∀(K:List α->(Nat->Prop)->World->Prop) (hK:JX T w.heap.size K) (jump:Option Code) (X2:Nat->Prop) (B:World),K (pre++[x]) X2 B->Grew X1 A2 X2->Kq X1 A2 B->
     ∃o,(Instr.endRound (D+1) jump).run P B= .ok (.bool jump.isNone) (B.putObj (D+1) o)/\(∃X'',JJ K (if jump.isNone then .ready else .done) jump (pre++[x]) X'' (B.putObj (D+1) o)/\Grew X' A0 X'')/\Kq X' A0 (B.putObj (D+1) o):=by
    intro K hK jump X2 B h1 h2 h3;have bl:=(h3.block (D+1) ae yK).trans al;have bd:=(h3.block D ae JD).trans ad;have hsB:=h3.size;have m1:¬X2 (D+1):=h2.not yK ae;have m0:¬X2 D:=h2.not JD ae;refine⟨_,run_endRound jump bl,⟨λq=>X2 q\/q=D\/q=D+1,?_,?_⟩,(((Kq.of bK).trans (k2.mono e1)).trans (h3.mono λq h=>(hx q).2 (.inl h))).trans ((dS B (D+1) _).mono e1)⟩
    ·rw[hJJ];refine⟨X2,hK.kq _ _ _ _ _ h1 (dS _ _ _) (λq e=>⟨.inr ae,λh=>m1 (e▸h)⟩),X9.trans h2 ae,?_,(World.putObj_heap_other ae).trans bd,λq=>Iff.rfl,λq hq=>⟨λe=>m0 (e▸hq),λe=>m1 (e▸hq)⟩,by rw[World.putObj_size];omega⟩;rw[hR] at bl⊢;exact oW B _ jump bl
    ·rintro q (h|h|h)
     ·rcases h2 q h with h4|h4
      ·exact .inl ((hx q).2 (.inl h4))
      ·exact .inr ae
     ·exact .inl ((hx q).2 (.inr (.inl h)))
     ·exact .inl ((hx q).2 (.inr (.inr h)))
   rw[yT];refine wpIn_mono (wF _ pre x X1 A0 A2 vM ai aA hXl ae ae X9 dQ) ?_;intro e a3 B hp
   cases e with
   |normal=>
    obtain⟨⟨X2,h1,h2⟩,h3⟩:=hp;obtain⟨o,r1,r2,r3⟩:=fin I hI none X2 B h1 h2 h3;exact⟨_,_,r1,.inl ⟨rfl,by rw[hJ];exact r2⟩,r3⟩
   |ret=>
    obtain⟨⟨X2,h1,h2⟩,h3⟩:=hp;obtain⟨o,r1,⟨X3,r2,r4⟩,r3⟩:=fin (Ix .ret) (vU _) (some .ret) X2 B h1 h2 h3;exact⟨_,_,r1,.inr ⟨rfl,X3,by rw[hJx];exact⟨_,r2⟩,r4⟩,r3⟩
   |exit id=>
    obtain⟨⟨X2,h1,h2⟩,h3⟩:=hp;obtain⟨o,r1,⟨X3,r2,r4⟩,r3⟩:=fin (Ix (.exit id)) (vU _) (some (.exit id)) X2 B h1 h2 h3;exact⟨_,_,r1,.inr ⟨rfl,X3,by rw[hJx];exact⟨_,r2⟩,r4⟩,r3⟩
   |goto t=>
    obtain⟨⟨X2,h1,h2⟩,h3⟩:=hp;obtain⟨o,r1,⟨X3,r2,r4⟩,r3⟩:=fin (Ix (.goto t)) (vU _) (some (.goto t)) X2 B h1 h2 h3;exact⟨_,_,r1,.inr ⟨rfl,X3,by rw[hJx];exact⟨_,r2⟩,r4⟩,r3⟩
   |panic ch=>exact hp.elim
   |outgrown=>exact hp.elim
  ·rw[hJ,hJJ];refine⟨X,hIV,Grew.refl _ _,vl,vd,λq=>Iff.rfl,λq hq=>?_,ae⟩;have:=hXb q hq;omega
  ·rintro e B ⟨⟨v,rfl⟩,hor,hk,hpo⟩;have Wi:∀o,Kq (λq=>T q\/X q) w (B.putObj (D+1) o):=λo=>by
    refine((Kq.of (T:=λq=>T q\/X q) Zm).ay hk ?_).ay (dS B (D+1) _) ?_
    ·rintro q (h|h|h|h)
     ·exact .inl (.inl h)
     ·exact .inl (.inr h)
     ·exact .inr ae
     ·exact .inr ae
    ·rintro q h;exact .inr ae
   rcases hor with⟨X',hj,hg'⟩|⟨pre,X',dQ,hj,hg'⟩
   ·rw[hJ,hJJ] at hj;obtain⟨X1,h1,X9,bl,bd,hx,dh,ja⟩:=hj;refine⟨none,_,by have h:=run_endLoop (P:=P) bl (by rw[hR];simp);rw[hR] at h;exact h,?_⟩;exact wG D X1 _ ae (hI.kq _ _ _ _ _ h1 (dS _ _ _) λq e=>⟨.inr ae,λh=>(dh q h).2 e⟩) X9 (Wi _) (λq hq=>(dh q hq).1) (hPo _ _ _ hpo (dS B (D+1) _) ae) ((World.putObj_heap_other ae).trans bd)
   ·rw[hJx] at hj;obtain⟨k,hj⟩:=hj;rw[hJJ] at hj;obtain⟨X1,h1,X9,bl,bd,hx,dh,ja⟩:=hj;refine⟨some k,_,by have h:=run_endLoop (P:=P) bl (by rw[hR];simp);rw[hR] at h;exact h,?_⟩;exact AO D k pre X1 _ ae dQ ((vU k).kq _ _ _ _ _ h1 (dS _ _ _) λq e=>⟨.inr ae,λh=>(dh q h).2 e⟩) X9 (Wi _) (λq hq=>(dh q hq).1) (hPo _ _ _ hpo (dS B (D+1) _) ae) ((World.putObj_heap_other ae).trans bd)
theorem VY {α:Type} {P:Program} {g:Operand} {ps:Array Tmp} {assign body:Code} {Q:Exit->Act->World->Prop} {a:Act} {w:World} {gf:Nat} {lb:Array Value} {encs:α->Array Value} {xs:List α} {st:Prop} {Po:World->Prop} {T own:Nat->Prop} {w0:World}
  (hg:a.eval g= .func (.func gf) #[] lb) (eg:∀args w,(callFunc gf args).run P w= .ok (.enter gf args) w) (mJ:X7 P gf lb encs xs st Po T own w0) (hPo:∀W W' q0,Po W->Kq (λq=>q=q0) W W'->w.heap.size<=q0->Po W') (fF:Kq (λq=>¬own q) w0 w) (bG:∀q,own q->q<w0.heap.size) (hT:∀q,T q->q<w.heap.size)
  (LC:∀x,(encs x).size=ps.size) (I:List α->(Nat->Prop)->World->Prop) (hI:JX T w.heap.size I) (Ix:Code->List α->(Nat->Prop)->World->Prop) (vU:∀k,JX T w.heap.size (Ix k)) (eQ:st\/∀k pre X W,¬Ix k pre X W) (X:Nat->Prop) (h0:I [] X w) (hX:∀q,X q->¬T q/\¬own q) (vM:α->Act)
  (lT:∀(l:Nat) (x:α) (W:World) (K:Act->World->Prop),K (vM x) W->assign.wpIn (Fence.wide.inRound l) 7 P (Exit.then K (λ_ _ _=>False)) {tmps:=(ps.zip (encs x)).foldl (λt (p,v)=>t.setIfInBounds p v) a.tmps,defers:=[]} W)
  (wF:∀(l:Nat) (pre:List α) (x:α) (X1:Nat->Prop) (W:World),I pre X1 W->Grew X w X1->w.heap.size<=W.heap.size->(pre++[x])<+:xs->body.wpIn (Fence.wide.inRound l) 7 P (Rt I Ix (pre++[x]) X1 W) (vM x) W)
  (wG:∀(D:Nat) (X1:Nat->Prop) (W:World),w.heap.size<=D->I xs X1 W->Grew X w X1->Kq (λq=>T q\/X q) w W->(∀q,X1 q->q≠D)->Po W->W.heap[D]?=some (.deferred (some []))->Q .normal {a with defers:={target:= .collected D,args:=#[]}::a.defers} W)
  (AO:∀(D:Nat) (k:Code) (pre:List α) (X1:Nat->Prop) (W:World),w.heap.size<=D->pre<+:xs->Ix k pre X1 W->Grew X w X1->Kq (λq=>T q\/X q) w W->(∀q,X1 q->q≠D)->Po W->W.heap[D]?=some (.deferred (some []))->k.wpIn Fence.wide 9 P Q {a with defers:={target:= .collected D,args:=#[]}::a.defers} W):
  (Code.rangeFunc g ps assign body).wpIn Fence.wide 9 P Q a w:=
 Es hg eg mJ hPo fF bG hT LC I hI Ix vU eQ X h0 hX (λx _ _ a=>a=vM x) (λ_ _ _ _ _ h _=>h) (λl x W K hK=>lT l x W K (hK _ _ rfl (Below.refl _ _))) (λl pre x X1 _ W _ h e _ h1 h2 hg hp=>e▸wF l pre x X1 W h hg (Nat.le_trans h1 h2) hp) wG AO
theorem Yc {P:Program} {c:Code} {Q:Exit->Act->World->Prop} {T0:Array Value} {ds:List Deferred} {w:World} (h:∀T,T=T0->Code.wp P c Q ⟨T,ds⟩ w):Code.wp P c Q ⟨T0,ds⟩ w:=h T0 rfl
theorem apg (i j:Nat) (T:Array Value) (u v:Value):(#[i,j].zip #[u,v]).foldl (λt (p,v)=>t.setIfInBounds p v) T=(T.setIfInBounds i u).setIfInBounds j v:=au
end
section
open Go.RowKit

section
variable {c B:Nat} {I J:World->Prop}
end
end
section
open Go.RowKit Go.Maps

section
variable {F:Fence} {n:Nat} {P:Program} {w:World} {ops:Array Oper} {rest:List Oper} {o:Oper} {a:Act} {Q:Exit->Act->World->Prop}
theorem jo (hg:o.guard=none) (m:Operand) (t:TypeId) (uP:o.op=Op.range t m) (k e:TypeId) (ht:P.underlying t=some (.map k e)) (b:Nat) (l:List (Value×Value)) (hm:a.eval m= .map (some b)) (h:MapAt P k w b l)
  (hK:∀w',eP P k w' b w.heap.size l []->Below w.heap.size w w'->w'.heap.size=w.heap.size+1->wpListIn F n P ops Q rest (a.put o.dst (.pointer (some ⟨w.heap.size,0,none⟩))) w'):
  wpListIn F n P ops Q (o::rest) a w:=by
 refine wpListIn_plain hg λK' hK'=>?_;obtain⟨w',bP,r1,r2,r3⟩:=h.range ht;unfold Oper.wpIn;refine⟨?_,?_⟩
 ·simp[Oper.about,uP]
 ·rw[Oper.semAt_plain F _ _ (by rw[uP];intro c Zh;cases Zh)];simp[execOp,uP,hm,bP,Result.andThen];exact hK' _ _ (hK w' r1 r2 r3)
theorem jO (hg:o.guard=none) (it:Operand) (uP:o.op=Op.next it false) (k:TypeId) (b r:Nat) (l d:List (Value×Value)) (mJ:a.eval it= .pointer (some ⟨r,0,none⟩)) (h:eP P k w b r l d)
  (Iz:d.Perm l->wpListIn F n P ops Q rest (a.put o.dst (.tuple #[.bool false])) w)
  (IA:∀p w',p∈l->p∉d->eP P k w' b r l (d++[p])->w.grownBy w' (some r)->w'.heap.size=w.heap.size->w'.rangeLeft b r<w.rangeLeft b r->(Instr.entry (.pointer (some ⟨r,0,none⟩))).run P w'= .ok (.tuple #[p.1,p.2]) w'->wpListIn F n P ops Q rest (a.put o.dst (.tuple #[.bool true,p.1,p.2])) w'):
  wpListIn F n P ops Q (o::rest) a w:=by
 refine wpListIn_plain hg λK' hK'=>?_;unfold Oper.wpIn;refine⟨by simp[Oper.about,uP],?_⟩;rw[Oper.semAt_plain F _ _ (by rw[uP];intro c Zh;cases Zh)];rcases h.next o.type with⟨h0,bP⟩|⟨p,w',h1,h2,bP,h3,h4,h5,h6,h7⟩
 ·simp[execOp,uP,mJ,bP,Result.andThen];exact hK' _ _ (Iz h0)
 ·simp[execOp,uP,mJ,bP,Result.andThen];exact hK' _ _ (IA p w' h1 h2 h3 h4 h5 h6 h7)
end
theorem eP.walks {P:Program} {k:TypeId} {w w':World} {b r:Nat} {l d:List (Value×Value)} (h:eP P k w b r l d) (hk:KeepsWalks w w'):eP P k w' b r l d/\w'.rangeLeft b r=w.rangeLeft b r:=by
 obtain⟨es,clock,since,seen,c0,h1,h2,h3,_⟩:=id h;have e1:w'.heap[b]?=w.heap[b]?:=by rw[h1];exact hk.same _ _ h1 rfl
 have e2:w'.heap[r]?=w.heap[r]?:=by rw[h3];exact hk.same _ _ h3 rfl
 exact⟨h.same e1 e2,qg e1 e2⟩
theorem eP.Ud {P:Program} {k:TypeId} {w:World} {b r:Nat} {l d:List (Value×Value)} (h:eP P k w b r l d):∃o:Obj,w.heap[r]?=some o/\o.isWalk=true:=by obtain⟨es,clock,since,seen,c0,_,_,h3,_⟩:=h;exact⟨_,h3,rfl⟩
theorem eP.few {P:Program} {k:TypeId} {w:World} {b r:Nat} {l d:List (Value×Value)} (h:eP P k w b r l d):d.length<=l.length:=by
 obtain⟨es,clock,since,seen,c0,_,_,_,_,_,_,_,_,_,L8,h11,_⟩:=h;have h9:∀{d l:List (Value×Value)},d.Nodup->(∀p∈d,p∈l)->d.length<=l.length:=by
  intro d
  induction d with
  |nil=>intro l _ _;exact Nat.zero_le _
  |cons x t ih=>
   intro l hn hs;obtain⟨l1,l2,rfl⟩:=List.append_of_mem (hs x au);rw[List.nodup_cons] at hn;have:=ih (l:=l1++l2) hn.2 λy hy=>by
    have h1:=hs y (List.mem_cons_of_mem _ hy);rcases List.mem_append.1 h1 with h2|h2
    ·exact List.mem_append_left _ h2
    ·rcases List.mem_cons.1 h2 with h3|h3
     ·exact absurd (h3▸hy) hn.1
     ·exact List.mem_append_right _ h3
   rw[List.length_append] at this;rw[List.length_append,List.length_cons,List.length_cons];omega
 exact h9 h11 L8
theorem Ue (mb:Option Nat) (w:World):Calls prog 200 #[.map mb] w λe w'=>e= .returned (.func (.func 243) #[] #[.pointer (some ⟨w.heap.size,0,none⟩)])/\w.alloc (.cells #[.map mb] 222)=w':=by
 go_in
 go_wp2;go_ret;exact⟨rfl,rfl⟩
theorem Uf {α:Type} {w:World} {Bm b:Nat} {l:List (Value×Value)} {enc:α->Value} {dec:Value->α} (hB:aF w Bm 153 #[.map (some b)]) (hm:MapAt prog 3 w b l) (hed:∀x,dec (enc x)=x) (hk:∀p∈l,∃x,p.1=enc x):
  SeqGives Fence.wide 8 prog 205 #[.pointer (some ⟨Bm,0,none⟩)] enc (λss=>ss.Perm (l.map λp=>dec p.1)) l.length w:=by
 intro lp J W hW hJ hY h0;have hc:=(hB.ah hW).aj (i:=0) rfl;have hmW:=hm.on hW;have HK:=ag hk;have HD:=ag hed;have HY:=ag hY;have HJ:=ag hJ;clear hB hm hk hed hY hJ hW;refine callsIn_of_wp Tryz.func205 rfl trivial ?_ rfl;simp only[Tryz.ntmps205,List.size_toArray,List.length_cons,List.length_nil,Nat.reduceAdd,Nat.reduceSub,Array.replicate_succ,Array.replicate_zero,List.push_toArray,List.append_toArray,List.nil_append,List.cons_append]
 gi_wp2_with (first
  |(gi_at_range;refine jo rfl _ 153 rfl 3 23 Tryz.underlying153 b l rfl hmW ?_;intro w0 Ug fF Fp)
  |gi_in)
 have Qn:=HJ.o [] _ _ none h0 ⟨fF.os,fF.tape,fF.output,fF.size,λk hk _=>fF.block k hk⟩ (λr e=>by cases e);have Ya:=ag Qn;have F5:=ag Ug;clear Qn h0 Ug fF Fp hmW;go_frame
 gi_loopw [3] (λ_ wr=>∃(d:List (Value×Value)) (ss:List α),eP prog 3 wr b W.heap.size l d/\d.map Prod.fst=ss.map enc/\J ss wr) (λ_ wr=>wr.rangeLeft b W.heap.size)
 case atStart=>exact⟨[],[],F5.o,rfl,Ya.o⟩
 case round=>
  obtain⟨d,ss,hrg,hds,hjs⟩:=hrel;clear Ya F5;have HDs:=ag hds;have HJs:=ag hjs;clear hds hjs
  gi_wp2_with (first
   |(gi_at_next;refine jO rfl _ rfl 3 b W.heap.size l d rfl hrg ?_ ?_)
   |gi_in)
  ·intro hp
   gi_wp2
   go_end0;refine⟨⟨_,rfl⟩,ss,?_,HJs.o⟩;have h1:=(hp.map Prod.fst).map dec;rw[HDs.o,List.map_map,List.map_map] at h1;have h2:List.map (dec∘enc) ss=ss:=by
    conv=>rhs;rw[<-List.map_id ss]
    exact List.map_congr_left λx _=>HD.o x
   rw[h2] at h1;exact h1
  ·intro p1 p2 w2 oh hpd BH pR mr aU CJ;obtain⟨p,NK⟩:=bu ((p1,p2));obtain⟨x,hx⟩:=HK.o _ oh;obtain rfl:p1=_:=hx;rw[<-NK] at BH;have HX:=ag (show p.1=enc x from by rw[NK]);have vN:=BH.few;have hlen:ss.length<l.length:=by have:=congrArg List.length HDs.o;rw[List.length_map,List.length_map] at this;rw[List.length_append,List.length_singleton] at vN;omega
   have hJ2:=HJ.o ss wr w2 (some W.heap.size) HJs.o pR (λr e=>by cases e;exact⟨Nat.le_refl _,hrg.Ud⟩);obtain⟨fn,tmps,assign,body,hy,hR⟩:=HY.o ss x w2 hJ2 hlen;have Uh:=ag BH;have HLt:=ag aU;clear mr hlen vN hrg oh hpd pR NK aU BH
   gi_wp2
   refine hR.mono ?_;rintro e W3 ⟨rfl,Zi,jY⟩;have h3:=Uh.o.walks jY;have rC:=ag h3.1;have yD:=ag h3.2;clear h3 jY
   gi_wp2
   go_roundw
   case rel=>exact⟨d++[p],ss++[x],rC.o,by rw[List.map_append,List.map_append,HDs.o];simp[HX.o],Zi⟩
   case measure=>rw[yD.o];exact HLt.o
theorem Ui (mb:Option Nat) (w:World):Calls prog 146 #[.map mb] w λe w'=>e= .returned (.func (.func 205) #[] #[.pointer (some ⟨w.heap.size,0,none⟩)])/\w.alloc (.cells #[.map mb] 153)=w':=by
 go_in
 go_wp2;go_ret;exact⟨rfl,rfl⟩
theorem Rx {α:Type} {w:World} {Bm b:Nat} {l:List (Value×Value)} {enc:α->Value} {dec:Value->α} (hB:aF w Bm 152 #[.map (some b)]) (hm:MapAt prog 3 w b l) (hed:∀x,dec (enc x)=x) (hk:∀p∈l,∃x,p.1=enc x):
  SeqGives Fence.wide 8 prog 231 #[.pointer (some ⟨Bm,0,none⟩)] enc (λss=>ss.Perm (l.map λp=>dec p.1)) l.length w:=by
 intro lp J W hW hJ hY h0;have hc:=(hB.ah hW).aj (i:=0) rfl;have hmW:=hm.on hW;have HK:=ag hk;have HD:=ag hed;have HY:=ag hY;have HJ:=ag hJ;clear hB hm hk hed hY hJ hW;refine callsIn_of_wp Tryz.func231 rfl trivial ?_ rfl;simp only[Tryz.ntmps231,List.size_toArray,List.length_cons,List.length_nil,Nat.reduceAdd,Nat.reduceSub,Array.replicate_succ,Array.replicate_zero,List.push_toArray,List.append_toArray,List.nil_append,List.cons_append]
 gi_wp2_with (first
  |(gi_at_range;refine jo rfl _ 152 rfl 3 3 Tryz.underlying152 b l rfl hmW ?_;intro w0 Ug fF Fp)
  |gi_in)
 have Qn:=HJ.o [] _ _ none h0 ⟨fF.os,fF.tape,fF.output,fF.size,λk hk _=>fF.block k hk⟩ (λr e=>by cases e);have Ya:=ag Qn;have F5:=ag Ug;clear Qn h0 Ug fF Fp hmW;go_frame
 gi_loopw [3] (λ_ wr=>∃(d:List (Value×Value)) (ss:List α),eP prog 3 wr b W.heap.size l d/\d.map Prod.fst=ss.map enc/\J ss wr) (λ_ wr=>wr.rangeLeft b W.heap.size)
 case atStart=>exact⟨[],[],F5.o,rfl,Ya.o⟩
 case round=>
  obtain⟨d,ss,hrg,hds,hjs⟩:=hrel;clear Ya F5;have HDs:=ag hds;have HJs:=ag hjs;clear hds hjs
  gi_wp2_with (first
   |(gi_at_next;refine jO rfl _ rfl 3 b W.heap.size l d rfl hrg ?_ ?_)
   |gi_in)
  ·intro hp
   gi_wp2
   go_end0;refine⟨⟨_,rfl⟩,ss,?_,HJs.o⟩;have h1:=(hp.map Prod.fst).map dec;rw[HDs.o,List.map_map,List.map_map] at h1;have h2:List.map (dec∘enc) ss=ss:=by
    conv=>rhs;rw[<-List.map_id ss]
    exact List.map_congr_left λx _=>HD.o x
   rw[h2] at h1;exact h1
  ·intro p1 p2 w2 oh hpd BH pR mr aU CJ;obtain⟨p,NK⟩:=bu ((p1,p2));obtain⟨x,hx⟩:=HK.o _ oh;obtain rfl:p1=_:=hx;rw[<-NK] at BH;have HX:=ag (show p.1=enc x from by rw[NK]);have vN:=BH.few;have hlen:ss.length<l.length:=by have:=congrArg List.length HDs.o;rw[List.length_map,List.length_map] at this;rw[List.length_append,List.length_singleton] at vN;omega
   have hJ2:=HJ.o ss wr w2 (some W.heap.size) HJs.o pR (λr e=>by cases e;exact⟨Nat.le_refl _,hrg.Ud⟩);obtain⟨fn,tmps,assign,body,hy,hR⟩:=HY.o ss x w2 hJ2 hlen;have Uh:=ag BH;have HLt:=ag aU;clear mr hlen vN hrg oh hpd pR NK aU BH
   gi_wp2
   refine hR.mono ?_;rintro e W3 ⟨rfl,Zi,jY⟩;have h3:=Uh.o.walks jY;have rC:=ag h3.1;have yD:=ag h3.2;clear h3 jY
   gi_wp2
   go_roundw
   case rel=>exact⟨d++[p],ss++[x],rC.o,by rw[List.map_append,List.map_append,HDs.o];simp[HX.o],Zi⟩
   case measure=>rw[yD.o];exact HLt.o
theorem Rw (mb:Option Nat) (w:World):Calls prog 180 #[.map mb] w λe w'=>e= .returned (.func (.func 231) #[] #[.pointer (some ⟨w.heap.size,0,none⟩)])/\w.alloc (.cells #[.map mb] 152)=w':=by
 go_in
 go_wp2;go_ret;exact⟨rfl,rfl⟩
end
end Go.Proofs.YtnieckfelfoopaaGreat

import Derived.Test.YtnieckfelfoopaaGreatDirZero
import Derived.Shelf.Abstract
import Derived.Test.YtnieckfelfoopaaGreatWearsM2
import Derived.Test.YtnieckfelfoopaaGreatMapKey
import Derived.Deep.CutBlock
open Go.Proofs.Tryz (prog)
namespace Go.Proofs.YtnieckfelfoopaaGreat
open Lib (hid)
set_option maxRecDepth 100000
set_option maxHeartbeats 16000000
section
open Go.RowKit

def PK (cw:List Nat) (I:World->Prop):Prop:=∀W W' r,I W->W.grownBy W' r->(r=none\/∃c∈cw,r=some c)->I W'
def dM (cw:List Nat) (B:Nat) (I:World->Prop):Prop:=
 ∀W W' r,I W->W.grownBy W' r->(r=none\/(∃c∈cw,r=some c)\/∃g,r=some g/\B<=g/\∃o:Obj,W.heap[g]?=some o/\o.isCells=false)->I W'
def aem {α:Type} (n0:Nat) (own:List Nat) (J Jx:List α->World->Prop) (pre:List α) (W:World) (e:Ending) (W':World):Prop:=
 (e= .returned (.bool true)/\J pre W'/\Below n0 W W'/\∀q∈own,W'.heap[q]?=W.heap[q]?)\/(e= .returned (.bool false)/\Jx pre W')
def ajy {α:Type} (P:Program) (gf:Nat) (lb:Array Value) (encs:α->Array Value) (xs:List α) (cw own:List Nat) (n0:Nat) (w:World):Prop:=
 ∀(l:Nat) (J Jx:List α->World->Prop) (W:World),Below w.heap.size w W->(∀pre,PK cw (J pre))->(∀pre,PK cw (Jx pre))->
  (∀pre x W1,J pre W1->(pre++[x])<+:xs->YieldAt Fence.wide 7 P l (encs x) W1 (aem n0 own J Jx (pre++[x]) W1))->J [] W->
  CallsIn Fence.wide 8 P gf (#[.func (.yield l) #[] #[]]++lb) W λe W'=>(∃v,e= .returned v)/\(J xs W'\/∃pre,pre<+:xs/\Jx pre W')
def ah6 {α:Type} (n0:Nat) (own:List Nat) (I:List α->World->Prop) (Ix:Code->List α->World->Prop) (pre:List α) (W:World):Exit->Act->World->Prop
 | .normal,_,W'=>KeepsOthers W W'/\Below n0 W W'/\(∀q∈own,W'.heap[q]?=W.heap[q]?)/\I pre W'
 | .ret,_,W'=>KeepsOthers W W'/\Ix .ret pre W'
 | .exit id,_,W'=>KeepsOthers W W'/\Ix (.exit id) pre W'
 | .goto t,_,W'=>KeepsOthers W W'/\Ix (.goto t) pre W'
 | .panic _,_,_=>False
 | .outgrown,_,_=>False
theorem dM.one {cw:List Nat} {B:Nat} {I:World->Prop} (h:dM cw B I):PK cw I:=λW W' r hi hg hr=>h W W' r hi hg (by rcases hr with h|h;exact .inl h;exact .inr (.inl h))
theorem dM.alloc {cw:List Nat} {B:Nat} {I:World->Prop} (h:dM cw B I) {W:World} (o:Obj) (hi:I W):I (W.alloc o):=
 h W _ none hi ⟨rfl,rfl,rfl,au,λk hk _=>Below.heap_alloc W o k hk⟩ (.inl rfl)
theorem dM.turn {cw:List Nat} {B:Nat} {I:World->Prop} (h:dM cw B I) {W:World} {l:Nat} {o:Obj} (o':Obj) (hl:B<=l) (hi:I W) (ho:W.heap[l]?=some o) (hc:o.isCells=false):I (W.putObj l o'):=
 h W _ (some l) hi (grownBy_putObj' W l o') (.inr (.inr ⟨l,rfl,hl,o,ho,hc⟩))
theorem YP {W W':World} {k:Nat} {r:Option Nat} {o:Obj} (h:W.heap[k]?=some o) (hg:W.grownBy W' r) (dh:r≠some k):W'.heap[k]?=some o:=
 (hg.block k (kE h) (λe=>dh e.symm)).trans h

theorem Xg {α:Type} {P:Program} {g:Operand} {ps:Array Tmp} {assign body:Code} {Q:Exit->Act->World->Prop} {a:Act} {w:World} {gf:Nat} {lb:Array Value} {encs:α->Array Value} {xs:List α} {cw own:List Nat} {n0:Nat} {w0:World}
  (hg:a.eval g= .func (.func gf) #[] lb) (eg:∀args w,(callFunc gf args).run P w= .ok (.enter gf args) w) (mJ:ajy P gf lb encs xs cw own n0 w0) (fF:Below w0.heap.size w0 w) (JD:n0<=w.heap.size) (hc:∀c∈own,c<w.heap.size) (hcw:∀c∈cw,c∈own)
  (LC:∀x,(encs x).size=ps.size) (I:List α->World->Prop) (Ix:Code->List α->World->Prop) (hI:∀pre,dM cw w.heap.size (I pre)) (vU:∀k pre,dM cw w.heap.size (Ix k pre)) (h0:I [] w) (M:List α->α->Act->World->Prop) (hM:∀pre x a1,dM cw w.heap.size (M pre x a1))
  (lT:∀(l:Nat) (pre:List α) (x:α) (W:World) (K:Act->World->Prop),I pre W->(pre++[x])<+:xs->(∀a1 W',KeepsOthers W W'->Below n0 W W'->(∀q∈own,W'.heap[q]?=W.heap[q]?)->W.heap.size<=W'.heap.size->M pre x a1 W'->K a1 W')->
   assign.wpIn (Fence.wide.inRound l) 7 P (Exit.then K (λ_ _ _=>False)) {tmps:=(ps.zip (encs x)).foldl (λt (p,v)=>t.setIfInBounds p v) a.tmps,defers:=[]} W)
  (wF:∀(l:Nat) (pre:List α) (x:α) (a1:Act) (W:World),M pre x a1 W->(pre++[x])<+:xs->body.wpIn (Fence.wide.inRound l) 7 P (ah6 n0 own I Ix (pre++[x]) W) a1 W)
  (wG:∀(D:Nat) (W:World),w.heap.size<=D->I xs W->W.heap[D]?=some (.deferred (some []))->Q .normal {a with defers:={target:= .collected D,args:=#[]}::a.defers} W)
  (AO:∀(D:Nat) (k:Code) (pre:List α) (W:World),w.heap.size<=D->pre<+:xs->Ix k pre W->W.heap[D]?=some (.deferred (some []))->k.wpIn Fence.wide 9 P Q {a with defers:={target:= .collected D,args:=#[]}::a.defers} W):
  (Code.rangeFunc g ps assign body).wpIn Fence.wide 9 P Q a w:=by
 refine wpIn_rangeFunc λfn U1=>?_;obtain⟨D,hD⟩:=AP w.heap.size;obtain⟨R,hR⟩:∃R:LoopState->Option Code->Loop,R=λst pe=>{state:=st,pending:=pe,fn,tmps:=a.tmps,params:=ps,assign,body,defers:=D}:=⟨_,rfl⟩
 have acM:∀st pe st' pe',{R st pe with state:=st',pending:=pe'}=R st' pe':=by intros;rw[hR]
 obtain⟨V,hV⟩:=AP ((w.alloc (.deferred (some []))).alloc (.loop (R .ready none)));have vl:V.heap[D+1]?=some (.loop (R .ready none)):=by have h:=World.alloc_heap_new (w.alloc (.deferred (some []))) (.loop (R .ready none));rw[World.size_alloc,hD,hV] at h;exact h
 have vd:V.heap[D]?=some (.deferred (some [])):=by rw[<-hV,Below.heap_alloc _ _ _ (by rw[World.size_alloc];omega),<-hD];exact World.alloc_heap_new w _
 have hIV:I [] V:=by rw[<-hV];exact(hI []).alloc _ ((hI []).alloc _ h0)
 have Zm:Below w0.heap.size w0 V:=by rw[<-hV];exact(fF.alloc fF.size _).alloc (by rw[World.size_alloc];have:=fF.size;omega) _
 have oW:∀(A:World) (r:Loop) (jump:Option Code),A.heap[D+1]?=some (.loop r)->(A.putObj (D+1) (.loop {r with state:=if jump.isNone then .ready else .done,pending:=jump})).heap[D+1]?=some (.loop {r with state:=if jump.isNone then .ready else .done,pending:=jump}):=
  λA r jump h=>World.putObj_heap_same (kE h)
 refine⟨D+1,[{target:= .collected D,args:=#[]}],V,{target:= .fn (.func gf) lb,args:=#[.func (.yield (D+1)) #[] #[]]},V,gf,#[.func (.yield (D+1)) #[] #[]]++lb,V,?_,?_,λ_ _=>trivial,?_,wE,?_⟩
 ·have h:=run_enterLoop_outer (P:=P) (w:=w) fn a.tmps ps assign body;rw[hD] at h;rw[<-hV,hR];exact h
 ·simp only[resolve,hg];simp[go_sem]
 ·simp[invoke,go_sem,eg]
 ·refine(mJ (D+1) (λpre W=>I pre W/\W.heap[D+1]?=some (.loop (R .ready none))/\W.heap[D]?=some (.deferred (some [])))
   (λpre W=>∃k,Ix k pre W/\W.heap[D+1]?=some (.loop (R .done (some k)))/\W.heap[D]?=some (.deferred (some []))) V Zm ?_ ?_ ?_ ⟨hIV,vl,vd⟩).mono ?_
  ·rintro pre A B r ⟨h1,h2,h3⟩ CO hr;have dh:∀k,D<=k->r≠some k:=λk hk e=>by
    rcases hr with h|⟨c,vT,h⟩
    ·rw[h] at e;cases e
    ·rw[h] at e;injection e with e;have:=hc c (hcw c vT);omega
   exact⟨(hI pre).one A B r h1 CO hr,YP h2 CO (dh _ ae),YP h3 CO (dh _ ae)⟩
  ·rintro pre A B r ⟨k,h1,h2,h3⟩ CO hr;have dh:∀k,D<=k->r≠some k:=λk hk e=>by
    rcases hr with h|⟨c,vT,h⟩
    ·rw[h] at e;cases e
    ·rw[h] at e;injection e with e;have:=hc c (hcw c vT);omega
   exact⟨k,(vU k pre).one A B r h1 CO hr,YP h2 CO (dh _ ae),YP h3 CO (dh _ ae)⟩
  ·rintro pre x A ⟨hi,hl,hd⟩ dQ;refine⟨fn,_,assign,body,by have h:=run_yield (P:=P) (args:=encs x) hl (by rw[hR];exact LC x);rw[hR] at h;exact h,roundIn_of_wpIn U1 (lT _ pre x A _ hi dQ ?_)⟩;intro a1 A1 ko ab1 ac1 _ am;have al1:=ko.same _ _ hl rfl;have ad1:=ko.same _ _ hd rfl;refine⟨_,run_beginRound al1 (by rw[hR]),?_⟩;obtain⟨A2,yT⟩:∃A2,A1.putObj (D+1) (.loop {R .ready none with state:= .busy})=A2:=⟨_,rfl⟩
   have al:A2.heap[D+1]?=some (.loop {R .ready none with state:= .busy}):=by rw[<-yT];exact World.putObj_heap_same (kE al1)
   have ad:A2.heap[D]?=some (.deferred (some [])):=by rw[<-yT];exact(World.putObj_heap_other ae).trans ad1
   have ac:∀q∈own,A2.heap[q]?=A.heap[q]?:=λq hq=>by rw[<-yT];exact(World.putObj_heap_other (by have:=hc q hq;omega)).trans (ac1 q hq)
   have ab:Below n0 A A2:=by rw[<-yT];exact ab1.trans (fM _ ae)
   have ai:M pre x a1 A2:=by rw[<-yT];exact(hM pre x a1).turn _ ae am al1 rfl
   rw[yT];refine wpIn_mono (wF _ pre x a1 A2 ai dQ) ?_;intro e a3 B hp
   cases e with
   |normal=>
    obtain⟨h1,h2,h3,h4⟩:=hp;have bl:=h1.same _ _ al rfl;have bd:=h1.same _ _ ad rfl;refine⟨_,_,run_endRound none bl,.inl ⟨rfl,⟨(hI _).turn _ ae h4 bl rfl,?_,(World.putObj_heap_other ae).trans bd⟩,(ab.trans h2).trans (fM _ ae),?_⟩⟩
    ·rw[oW B _ none bl,hR];rfl
    ·intro q hq;rw[World.putObj_heap_other (by have:=hc q hq;omega),h3 q hq,ac q hq]
   |ret=>
    obtain⟨h1,h4⟩:=hp;have bl:=h1.same _ _ al rfl;have bd:=h1.same _ _ ad rfl;refine⟨_,_,run_endRound (some .ret) bl,.inr ⟨rfl,.ret,(vU _ _).turn _ ae h4 bl rfl,?_,(World.putObj_heap_other ae).trans bd⟩⟩;rw[oW B _ (some .ret) bl,hR];rfl
   |exit id=>
    obtain⟨h1,h4⟩:=hp;have bl:=h1.same _ _ al rfl;have bd:=h1.same _ _ ad rfl;refine⟨_,_,run_endRound (some (.exit id)) bl,.inr ⟨rfl,.exit id,(vU _ _).turn _ ae h4 bl rfl,?_,(World.putObj_heap_other ae).trans bd⟩⟩;rw[oW B _ (some (.exit id)) bl,hR];rfl
   |goto t=>
    obtain⟨h1,h4⟩:=hp;have bl:=h1.same _ _ al rfl;have bd:=h1.same _ _ ad rfl;refine⟨_,_,run_endRound (some (.goto t)) bl,.inr ⟨rfl,.goto t,(vU _ _).turn _ ae h4 bl rfl,?_,(World.putObj_heap_other ae).trans bd⟩⟩;rw[oW B _ (some (.goto t)) bl,hR];rfl
   |panic ch=>exact hp.elim
   |outgrown=>exact hp.elim
  ·rintro e B ⟨⟨v,rfl⟩,h|⟨pre,dQ,k,h1,bl,bd⟩⟩
   ·obtain⟨h1,bl,bd⟩:=h;refine⟨none,_,by have h:=run_endLoop (P:=P) bl (by rw[hR];simp);rw[hR] at h;exact h,?_⟩;exact wG D _ ae ((hI _).turn _ ae h1 bl rfl) ((World.putObj_heap_other ae).trans bd)
   ·refine⟨some k,_,by have h:=run_endLoop (P:=P) bl (by rw[hR];simp);rw[hR] at h;exact h,?_⟩;exact AO D k pre _ ae dQ ((vU k pre).turn _ ae h1 bl rfl) ((World.putObj_heap_other ae).trans bd)

theorem aF.Xh {g B:Nat} {t:TypeId} {cs:Array Value} {cw:List Nat} (dh:g∉cw):dM cw B (λW=>aF W g t cs):=λW W' r h hg hr=>by
 refine h.grown hg λe=>?_;subst e;rcases hr with h1|⟨c,hc,h1⟩|⟨g',h1,_,o,ho,zy⟩
 ·cases h1
 ·injection h1 with h1;subst h1;exact dh hc
 ·injection h1 with h1
  subst h1;unfold aF at h;rw[h] at ho;cases ho;cases zy
theorem PL {w:World} {n0 B:Nat} {cw:List Nat} (hc:∀c∈cw,n0<=c) (hB:n0<=B) (hn:n0<=w.heap.size):dM cw B (λW=>Below n0 w W):=λW W' r h hg hr=>
 h.grown hg (Nat.le_trans hn h.size) (λk e=>by
  subst e;rcases hr with h1|⟨c,vT,h1⟩|⟨g,h1,h2,_⟩
  ·cases h1
  ·injection h1 with h1;subst h1;exact hc _ vT
  ·injection h1 with h1;subst h1;omega)
theorem TJ {n B:Nat} {cw:List Nat}:dM cw B (λW=>n<=W.heap.size):=λ_ _ _ h hg _=>Nat.le_trans h hg.size
theorem dM.and {cw:List Nat} {B:Nat} {I J:World->Prop} (h:dM cw B I) (k:dM cw B J):dM cw B (λW=>I W/\J W):=λW W' r hi hg hr=>⟨h W W' r hi.1 hg hr,k W W' r hi.2 hg hr⟩
theorem dM.ex {α:Type} {cw:List Nat} {B:Nat} {I:α->World->Prop} (h:∀x,dM cw B (I x)):dM cw B (λW=>∃x,I x W):=λW W' r ⟨x,hi⟩ hg hr=>⟨x,h x W W' r hi hg hr⟩
theorem dM.pure {cw:List Nat} {B:Nat} (p:Prop):dM cw B (λ_=>p):=λ_ _ _ h _ _=>h
end
section
open Go.RowKit

section
variable {α:Type} {m:Nat} {f:α->List Value} {e:TypeId} {w:World} {base:Nat} {v:Value} {xs:List α}
theorem dK.zT {g:Nat} {t:TypeId} {cs:Array Value} (h:dK m f e w base v xs) (hb:aF w g t cs) (ht:e≠t):v.ownBlock≠some g:=by
 rcases h.2.2 with⟨rfl,_⟩|⟨g',cap,cur,rfl,_,hh,_⟩
 ·intro e;cases e
 ·intro he;have:g'=g:=by simpa[Value.ownBlock] using he
  subst this;unfold aF at hb;rw[hh] at hb;injection hb with hb
  injection hb with _ hb
  exact ht hb
end
end
section
open Go.RowKit Go.Shelf

attribute [local go_sem] Oper.semAt_some

def qR (l:List Bk) (k:Nat):List (Nat×Bk):=(List.range k).map λi=>(i,Gc.at_ l i)
theorem I8 (l:List Bk) (k:Nat):qR l (k+1)=qR l k++[(k,Gc.at_ l k)]:=by simp[qR,List.range_succ]
theorem aaC (l:List Bk) {k n:Nat} (h:k<n):qR l k++[(k,Gc.at_ l k)]<+:qR l n:=by
 rw[<-I8];have:(List.range (k+1))<+:List.range n:=by
  refine⟨(List.range (n-(k+1))).map (k+1+·),?_⟩;rw[<-List.range_add]
  congr 1
  omega
 obtain⟨t,ht⟩:=this;exact⟨t.map λi=>(i,Gc.at_ l i),by unfold qR;rw[<-List.map_append,ht]⟩
def PM (x:Nat×Bk):Array Value:=#[.int .i64 (x.1:Int),TK x.2]
theorem aen (g:Mg) (NB C n0:Nat) (w:World) (hM:aF w g.M 283 (mgA NB g)) (hx:jv 4 PN w n0 (some ⟨g.ML,0,none⟩) NB g.l) (hC:aF w C 221 #[.pointer (some ⟨g.M,0,none⟩)]) (JD:n0<=w.heap.size) (oC:NB<=1000):
  ajy prog 260 #[.pointer (some ⟨C,0,none⟩)] PM (qR g.l NB) [] [C] n0 w:=by
 intro lp J Jx W hW hJ hJx hY h0;have HC:=ag (hC.ah hW);have HM:=ag (hM.ah hW);have hsW:=Nat.le_trans JD hW.size;have HX:=ag (hx.below (hW.mono JD));have HY:=ag hY;have HJ:=ag hJ;have H0:=ag h0;have c0:=HC.o.aj (i:=0) rfl;have m1:W.cell? ⟨g.M,1,none⟩=some (.slice (some ⟨g.ML,0,none⟩) NB g.cap):=HM.o.aj rfl;have jq:=Gs;clear hY hJ h0 hW hC hx hM;refine callsIn_of_wp Tryz.func260 rfl trivial ?_ rfl;simp only[Tryz.ntmps260,List.size_toArray,List.length_cons,List.length_nil,Nat.reduceAdd,Nat.reduceSub,Array.replicate_succ,Array.replicate_zero,List.push_toArray,List.append_toArray,List.nil_append,List.cons_append]
 gi_wp2
 gi_loopw [3,4,12] (λ_ _ i wr=>∃k:Nat,k<=NB/\i= .int .i64 k/\aF wr C 221 #[.pointer (some ⟨g.M,0,none⟩)]/\jv 4 PN wr n0 (some ⟨g.ML,0,none⟩) NB g.l/\n0<=wr.heap.size/\J (qR g.l k) wr) (λ_ _ i _=>NB-(intOf i).toNat)
 case atStart=>exact⟨0,ae,rfl,HC.o,HX.o,hsW,H0.o⟩
 case round=>
  obtain⟨k,hk,rfl,hc,hx,ja,hj⟩:=hrel;have J7:=ag hj;have HC:=ag hc;have HX:=ag hx;clear hj hc hx;by_cases aU:k<NB
  ·obtain⟨b,o,ha,kF,c0,c1,c2,c3⟩:=Nl HX.o (k:=k) aU;injection ha with ha
   injection ha with ha1 ha2
   subst ha1 ha2;rw[Nat.zero_add] at c0 c1 c2 c3;have hk0:(0:Int)<=(k:Int):=ae;have iy:(k:Int)<(NB:Int):=ae;have HD:=ag (I8 g.l k);have dQ:=ag (aaC g.l (k:=k) (n:=NB) aU);have fQ:=(Below.refl wr.heap.size wr).alloc (Nat.le_refl _) (.cells #[.int .i64 ((Gc.at_ g.l k).st:Int),.int .i64 ((Gc.at_ g.l k).live:Int),.int .i64 ((Gc.at_ g.l k).aQ:Int),.int .i64 ((Gc.at_ g.l k).nx:Int)] 296);have UU:=HJ.o _ _ _ none J7.o (show wr.grownBy (wr.alloc (.cells #[.int .i64 ((Gc.at_ g.l k).st:Int),.int .i64 ((Gc.at_ g.l k).live:Int),.int .i64 ((Gc.at_ g.l k).aQ:Int),.int .i64 ((Gc.at_ g.l k).nx:Int)] 296)) none from⟨rfl,rfl,rfl,au,λq hq _=>fQ.block q hq⟩) (.inl rfl);have Wn:=ag (HC.o.ah fQ);have JH:=ag (HX.o.below (fQ.mono ja));have wJ:=ag (Nat.le_trans ja fQ.size);obtain⟨fn,tmps,assign,body,hy,hR⟩:=HY.o (qR g.l k) (k,Gc.at_ g.l k) _ UU dQ.o;unfold PM TK at hy;clear fQ UU;generalize Gc.at_ g.l k=x at*
   gi_wp2
   refine hR.mono ?_;rintro e W3 (⟨rfl,Zi,bQ,yR⟩|⟨rfl,acH⟩)
   ·have HC5:=ag ((yR C au).trans Wn.o);have Dt:=ag (JH.o.below bQ);have Ad:=ag (Nat.le_trans wJ.o bQ.size);have HJ3:=ag Zi;clear Zi bQ yR hy hR c0 c1 c2 c3
    gi_wp2
    go_roundw
    case rel=>exact⟨k+1,ae,by go_num,HC5.o,Dt.o,Ad.o,by rw[HD.o];exact HJ3.o⟩
    case measure=>simp[intOf];omega
   ·gi_wp2
    refine bodyPost_ret (results_none rfl _ _ _) rfl ?_;exact⟨⟨_,rfl⟩,.inr ⟨_,dQ.o,acH⟩⟩
  ·obtain rfl:k=NB:=ae
   gi_wp2
   go_end0;exact⟨⟨_,rfl⟩,.inl J7.o⟩
theorem aqT (M:Nat) (w:World):
  Calls prog 226 #[M] w λe w'=>e= .returned (.func (.func 260) #[] #[.pointer (some ⟨w.heap.size,0,none⟩)])/\w.alloc (.cells #[.pointer (some ⟨M,0,none⟩)] 221)=w':=by
 go_in
 go_wp2;go_ret;exact⟨rfl,rfl⟩
end
section
open Go.RowKit

def pI (x:Bool):Value:= .bool x
theorem ah7 (x:Bool):pI x= .bool x:=rfl
def ZT (x:Nat):Value:= .int .i64 x
theorem amj (x:Nat):ZT x= .int .i64 x:=rfl
theorem Ja {w:World} {ops:Array Oper} {o:Oper} {ac:Act} {Q:Exit->Act->World->Prop} {cs:Array Value} {K:Act->World->Prop} {E:Prop} (mD:o.guard=none) (s x:Operand) (ho:o.op= .call {callee:= .builtin .append,args:=#[s,x],argTypes:=#[281,281]})
  (base:Nat) (v:Value) (xs:List Bk) (hs:ac.eval s=v) (bG:dK 4 PN 296 w base v xs) (y:Bk) (g:Nat) (hx:ac.eval x= .slice (some ⟨g,0,none⟩) 1 1) (hg:g=w.heap.size) (jq:cs=(PN y).toArray) (hlen:xs.length<=1000000) (cZ:base<=w.heap.size)
  (h:∀v' w',Hid (dK 4 PN 296 w' base v' (xs++[y]))->Hid ((w.alloc (.cells cs 296)).grownBy w' v.ownBlock)->K (ac.put o.dst v') w'):if Region.wanted o (yielded ops ac.tmps)=true then Oper.wp prog o ac (w.alloc (.cells cs 296)) K Q else E:=by
 have hw:Region.wanted o (yielded ops ac.tmps)=true:=by simp[Region.wanted,mD]
 rw[if_pos hw];subst hg;obtain⟨i0,hi,qp,rG,yU⟩:=info_parts amk;exact xe s x 281 ho base 296 i0 _ 32 Tryz.underlying281 hi qp rG yU rfl aB aml v xs hs (bG.alloc _) _ _ 1 1 [y] hx (jv.aqN w 296 y jq) ae (by simp only[maxLen];omega) (by simp;omega) λv' w' h1 h2 _=>
  h v' w' (ag h1) (ag h2)
def wY (x:Pb) (fr:Bool) (n:Nat):Bk:=if x.bad then⟨4,0,x.aQ,0⟩ else if fr then⟨0,0,x.aQ,0⟩ else if 0<n then⟨2,n,x.aQ,0⟩ else⟨3,0,x.aQ,0⟩
def bU (bl:Nat->Pb) (fr:List Bool) (lv:List Nat) (k:Nat):List Bk:=(List.range k).map λi=>wY (bl i) (fr.getD i false) (lv.getD i 0)
theorem Xi (bl:Nat->Pb) (fr:List Bool) (lv:List Nat) (k:Nat):bU bl fr lv (k+1)=bU bl fr lv k++[wY (bl k) (fr.getD k false) (lv.getD k 0)]:=by simp[bU,List.range_succ]
def Opened (NB B:Nat) (S:Nat->Prop) (w:World) (C BL:Nat) (ps:Nat->Nat) (bl:Nat->Pb) (fr:List Bool) (lv:List Nat) (res bad:Nat) (e:Ending) (w':World):Prop:=
 ∃M ML cap,e= .returned (.tuple #[.pointer (some ⟨M,0,none⟩),.int .i64 0])/\w.heap.size<=M/\w.heap.size<=ML/\
   gu NB B S w' ⟨M,ML,C,BL,cap,ps,bl,bU bl fr lv NB,-1,res,bad,decide (4<(Gc.greatest (bU bl fr lv NB):Int)-Gc.least (bU bl fr lv NB)),λ_=>True⟩/\Below w.heap.size w w'
theorem Jb (x:Pb) (fr:Bool) (n:Nat):(wY x fr n).aQ=x.aQ:=by
 unfold wY
 split
 ·rfl
 ·split
  ·rfl
  ·split<;>rfl
theorem BC (bl:Nat->Pb) (fr:List Bool) (lv:List Nat) {k i:Nat} (hi:i<k):Gc.at_ (bU bl fr lv k) i=wY (bl i) (fr.getD i false) (lv.getD i 0):=by rw[Gc.at_,List.getD_eq_getElem?_getD,bU,List.getElem?_map,List.getElem?_range hi];rfl
theorem Np {l:List Bk} {o:Option Nat} {b n:Nat} (h:∀i,i<n->(Gc.at_ l i).aQ<=b) (ho:∀k,o=some k->k<n):Gc.Jc l o<=b:=by
 cases o with
 |none=>exact Nat.zero_le _
 |some k=>exact h k (ho k rfl)
section
variable {NB B C BL:Nat} {S:Nat->Prop} {w:World} {ps:Nat->Nat} {bl:Nat->Pb}
def OpI (GB M NB C:Nat) (res bad:Nat) (bl:Nat->Pb) (fr:List Bool) (lv:List Nat) (w:World) (k:Nat) (W:World):Prop:=
 ∃v,aF W GB 60 #[.int .i64 NB,.int .i64 8,.int .i64 64]/\aF W M 283 #[.pointer (some ⟨C,0,none⟩),v,.int .i64 (-1),.int .i64 res,.int .i64 bad,.bool false]/\dK 4 PN 296 W w.heap.size v (bU bl fr lv k)/\Below w.heap.size w W
theorem EF (h:eG NB B S w C BL ps bl) (hN:0<NB) (oC:NB<=1000) (hw:∀k,k<NB->(bl k).aQ<=1099511627776) (af:Option Addr) (cf:Nat) (fr:List Bool) (hf:jg pI w w.heap.size af NB fr) (al:Option Addr) (cl:Nat) (lv:List Nat) (hl:jg ZT w w.heap.size al NB lv) (hlv:∀k,k<NB->lv.getD k 0<=8/\(fr.getD k false=true->lv.getD k 0=0)) (res bad:Nat):
  Calls prog 168 #[C,.slice af NB cf,.slice al NB cl,.int .i64 res,.int .i64 bad] w (Opened NB B S w C BL ps bl fr lv res bad):=by
 have HU:=ag (qF h);have HG:=ag (dU h);have HH:=ag h;have HF:=ag hf;have HL:=ag hl;have HV:=ag hlv;have HW:=ag hw;have hlf:=hf.len;have hll:=hl.len;have aU:=h.ltC;have d1:decide ((res:Int)<0)=false:=decide_eq_false ae;have d2:decide ((bad:Int)<0)=false:=decide_eq_false ae;clear h hf hl hlv hw
 go_in
 go_wp2_with fail;refine(HU.o).mono ?_;rintro e w_ ⟨rfl,rfl⟩;go_wp2_with fail;refine HG.o.mono ?_;rintro e w1 ⟨rfl,hb⟩;have hgk:=aF.new w1 60 #[.int .i64 NB,.int .i64 8,.int .i64 64];have hbg:=(Below.refl w1.heap.size w1).alloc (Nat.le_refl _) (.cells #[.int .i64 NB,.int .i64 8,.int .i64 64] 60);have q0:=hgk.aj (i:=0) (v:= .int .i64 NB) rfl;have pR:=hgk.alloc (.cells #[.pointer (some ⟨C,0,none⟩),.slice none 0 0,.int .i64 (-1),.int .i64 res,.int .i64 bad,.bool false] 283);have XZ:=aF.new (w1.alloc (.cells #[.int .i64 NB,.int .i64 8,.int .i64 64] 60)) 283 #[.pointer (some ⟨C,0,none⟩),.slice none 0 0,.int .i64 (-1),.int .i64 res,.int .i64 bad,.bool false];have aW:=(hb.ay hbg).alloc (Nat.le_trans hb.size hbg.size) (.cells #[.pointer (some ⟨C,0,none⟩),.slice none 0 0,.int .i64 (-1),.int .i64 res,.int .i64 bad,.bool false] 283);rw[World.size_alloc] at XZ;have dA:=ag aW;have vO:=ag pR;have MN:=ag XZ;have nZ:=ag hb.size;clear hb hgk hbg pR XZ aW;unfold uf;go_wp2_with fail;clear q0;generalize jP:(w1.alloc (.cells #[.int .i64 NB,.int .i64 8,.int .i64 64] 60)).alloc (.cells #[.pointer (some ⟨C,0,none⟩),.slice none 0 0,.int .i64 (-1),.int .i64 res,.int .i64 bad,.bool false] 283)=w2 at*;clear jP;generalize hMe:w1.heap.size+1=M at*;generalize hGe:w1.heap.size=GB at*;have HMe:=ag hMe;clear hGe hMe
 go_loopw [14,15,16,53] (λ_ _ _ i wr=>∃k:Nat,k<=NB/\i= .int .i64 k/\OpI GB M NB C res bad bl fr lv w k wr) (λ_ _ _ i _=>NB-(intOf i).toNat)
 case atStart=>exact⟨0,ae,rfl,.slice none 0 0,vO.o,MN.o,dK.nil amm _ _,dA.o⟩
 case round=>
  obtain⟨k,hk,rfl,v,hg,hm,ho,hb⟩:=hrel;have HGr:=ag hg;have HMr:=ag hm;have HOr:=ag ho;have vH:=ag hb;clear hg hm ho hb;by_cases qw:k<NB
  ·obtain⟨b1,o1,iy,rfl,NZ,vT⟩:=(HL.o.below vH.o).QQ qw;obtain⟨b2,o2,fA,rfl,ao0,F6⟩:=(HF.o.below vH.o).QQ qw;have hnv:=HV.o k qw;have e1:lv[k]=lv.getD k 0:=by rw[List.getD_eq_getElem?_getD,List.getElem?_eq_getElem iy];rfl
   have e2:fr[k]=fr.getD k false:=by rw[List.getD_eq_getElem?_getD,List.getElem?_eq_getElem fA];rfl
   rw[e1,amj] at vT;rw[e2,ah7] at F6;have HSu:=ag (Xi bl fr lv k);clear e1 e2;generalize lv.getD k 0=n at*;generalize fr.getD k false=f at*;obtain⟨hn8,U1⟩:=hnv;have gc1:=HGr.o.aj (i:=1) (v:= .int .i64 8) rfl;have k0:(0:Int)<=(k:Int):=ae;have k1:(k:Int)<(NB:Int):=ae;have d3:decide ((n:Int)<0)=false:=decide_eq_false ae;have d4:decide ((8:Int)<(n:Int))=false:=decide_eq_false ae;have HFn:=ag U1;clear U1;go_upto_region 12 with fail
   go_cut [75] (λv wx=>v= .bool false/\wr=wx)
   case first=>
    cases f
    ·go_wp2_with fail;go_meet;exact⟨rfl,rfl⟩
    ·obtain rfl:n=0:=HFn.o rfl;go_wp2_with fail;go_meet;exact⟨rfl,rfl⟩
   case rest=>
    obtain⟨rfl,hw⟩:=hcut;subst hw;have HCr:=ag (HH.o.on vH.o);have HWe:=ag (PO HCr.o qw);have RQ:=ag (rQ (HCr.o.on ((Below.refl wr.heap.size wr).alloc (Nat.le_refl _) (.cells #[.int .i64 3,.int .i64 0,.int .i64 ((bl k).aQ:Int),.int .i64 0] 296))) qw);have OE:=ag (aF.new wr 296 #[.int .i64 3,.int .i64 0,.int .i64 ((bl k).aQ:Int),.int .i64 0]);have aw6:=kH F6 ((Below.refl wr.heap.size wr).alloc (Nat.le_refl _) (.cells #[.int .i64 3,.int .i64 0,.int .i64 ((bl k).aQ:Int),.int .i64 0] 296));have dE:=ag ((Below.refl wr.heap.size wr).alloc (Nat.le_refl _) (.cells #[.int .i64 3,.int .i64 0,.int .i64 ((bl k).aQ:Int),.int .i64 0] 296));have HOp:=ag (show wY (bl k) f n=if (bl k).bad then⟨4,0,(bl k).aQ,0⟩ else if f then⟨0,0,(bl k).aQ,0⟩ else if 0<n then⟨2,n,(bl k).aQ,0⟩ else⟨3,0,(bl k).aQ,0⟩ from rfl);clear gc1 d3 d4 vT;generalize (bl k).aQ=we at*;generalize (bl k).bad=bd at*;go_wp2_with fail;refine HWe.o.mono ?_;rintro e w_ ⟨rfl,rfl⟩;go_upto_block 3 with fail;clear F6;generalize hw3:wr.alloc (.cells #[.int .i64 3,.int .i64 0,.int .i64 we,.int .i64 0] 296)=w3 at*;generalize jr:wr.heap.size=gb at*;have HW3:=ag hw3;clear hw3
    go_cut [] (λwx=>aF wx gb 296 (DV (wY (bl k) f n))/\Below gb wr wx)
    case first=>
     have a0:=OE.o.aj (i:=0) (v:= .int .i64 3) rfl;have z0:=OE.o.frozen 0;cases bd
     ·cases f
      ·by_cases JD:0<n
       ·have dn:decide ((0:Int)<(n:Int))=true:=decide_eq_true ae;have a1:=OE.o.aj (i:=1) (v:= .int .i64 0) rfl;have z1:=OE.o.frozen 1;have hs:=(OE.o.set 0 (.int .i64 2)).set 1 (.int .i64 n);have HSs:=ag hs;have QT:=ag ((dE.o.setCell (p:=⟨gb,0,none⟩) (Nat.le_refl _) (.int .i64 2)).setCell (p:=⟨gb,1,none⟩) (Nat.le_refl _) (.int .i64 n));clear hs;go_wp2_with fail;refine RQ.o.mono ?_;rintro e w_ ⟨rfl,rfl⟩;go_wp2_with fail;go_meet;refine⟨?_,QT.o⟩;rw[HOp.o,if_neg au,if_neg au,if_pos JD];exact HSs.o
       ·obtain rfl:n=0:=ae;go_wp2_with fail;refine RQ.o.mono ?_;rintro e w_ ⟨rfl,rfl⟩;go_wp2_with fail;go_meet;refine⟨?_,dE.o⟩;rw[HOp.o,if_neg au,if_neg au,if_neg au];exact OE.o
      ·have hs:=OE.o.set 0 (.int .i64 0);have HSs:=ag hs;have QT:=ag (dE.o.setCell (p:=⟨gb,0,none⟩) (Nat.le_refl _) (.int .i64 0));clear hs;go_wp2_with fail;refine RQ.o.mono ?_;rintro e w_ ⟨rfl,rfl⟩;go_wp2_with fail;go_meet;refine⟨?_,QT.o⟩;rw[HOp.o,if_neg au,if_pos trivial];exact HSs.o
     ·have hs:=OE.o.set 0 (.int .i64 4);have HSs:=ag hs;have QT:=ag (dE.o.setCell (p:=⟨gb,0,none⟩) (Nat.le_refl _) (.int .i64 4));clear hs;go_wp2_with fail;refine RQ.o.mono ?_;rintro e w_ ⟨rfl,rfl⟩;go_wp2_with fail;go_meet;refine⟨?_,QT.o⟩;rw[HOp.o,if_pos trivial];exact HSs.o
    case rest=>
     obtain⟨oU,di⟩:=hcut;generalize hye:wY (bl k) f n=y at*;have MZ:=HMr.o.below di (by rw[<-jr];exact HMr.o.lt);have JE:=HGr.o.below di (by rw[<-jr];exact HGr.o.lt);have yB:=HOr.o.below di (by rw[jr];exact Nat.le_refl _);have CP:=ag (show v.ownBlock≠some gb from λe=>by have:=(HOr.o.aP _ e).2;omega);have Vr:=di.size;have FB:=ag jr;have YJ:=vH.o.size;have JA:=ag (MZ.drew);have Kv:=ag (JE.drew);have GZ:=ag (yB.drew);have HY5:=ag (oU.drew);have pV:=ag ((vH.o.trans (di.mono ae)).drew);have Le:=ag (show w.heap.size<=wc.drew.heap.size from Nat.le_trans YJ (by show wr.heap.size<=wc.heap.size;omega));have DC:=ag (show(bU bl fr lv k).length=k by simp[bU]);have HMw:=ag (show w.heap.size<=M by have:=HMe.o;have:=nZ.o;omega);have HGM:=ag (show GB≠M from λe=>by have h1:=HGr.o;have h2:=HMr.o;rw[e] at h1;unfold aF at h1 h2;rw[h1] at h2;injection h2 with h2;injection h2 with _ h2;exact absurd h2 aB);have cc1:=JA.o.aj (i:=1) rfl;clear MZ JE yB oU di Vr YJ HOp HWe RQ OE dE hye aw6 HW3;go_upto_region 21 with fail;refine iT (λW'=>aF W' gb 296 #[.int .i64 (y.st:Int),.int .i64 (y.live:Int),.int .i64 (y.aQ:Int),.int .i64 (y.nx:Int)]) HY5.o (λbJ=>?_);generalize wc.drew=w5 at*;refine dP 0 M 0 ?_;refine dP 1 M 0 ?_;refine aS 2 M 0 ?_;refine aS 3 M 1 ?_;refine jy 5 (.agg #[.int .i64 (y.st:Int),.int .i64 (y.live:Int),.int .i64 (y.aQ:Int),.int .i64 (y.nx:Int)]) rfl (λ_ aI=>by have y0:=aI.aj (i:=0) rfl;have y1:=aI.aj (i:=1) rfl;have y2:=aI.aj (i:=2) rfl;have y3:=aI.aj (i:=3) rfl;go_simp) ?_;refine wpAnyH_ready (rs:=[4,6]) az au ?_;refine AllReadyH.cons rfl (λK' hK=>?_) (AllReadyH.cons rfl (λK' hK=>?_) AllReadyH.nil)
     ·go_simp;refine hK.out _ _ bJ (λdH=>?_)
      try simp only[aO]
      refine dm 6 (λK' hK=>?_);go_simp;refine hK.out _ _ (dH.alloc _) (λgm=>?_)
      try simp only[aO]
      clear dH gm;refine dm 7 (λK' hK=>?_);refine Ja (w:=w5) (cs:=#[.int .i64 (y.st:Int),.int .i64 (y.live:Int),.int .i64 (y.aQ:Int),.int .i64 (y.nx:Int)]) rfl (.tmp 101) (.tmp 103) rfl w.heap.size _ (bU bl fr lv k) rfl GZ.o y w5.heap.size rfl rfl rfl (by rw[DC.o];omega) Le.o ?_;intro v7 w7 vK HG7;obtain⟨a7,c7,rfl,_⟩:=vK.o.bZ (n:=k+1) (by rw[List.length_append,DC.o];rfl);have Nh:=ag ((JA.o.alloc (.cells #[.int .i64 (y.st:Int),.int .i64 (y.live:Int),.int .i64 (y.aQ:Int),.int .i64 (y.nx:Int)] 296)).grown HG7.o (λe=>GZ.o.zT JA.o aB e.symm));have HG8:=ag ((Kv.o.alloc (.cells #[.int .i64 (y.st:Int),.int .i64 (y.live:Int),.int .i64 (y.aQ:Int),.int .i64 (y.nx:Int)] 296)).grown HG7.o (λe=>GZ.o.zT Kv.o aB e.symm));have zH:=ag ((HY5.o.alloc (.cells #[.int .i64 (y.st:Int),.int .i64 (y.live:Int),.int .i64 (y.aQ:Int),.int .i64 (y.nx:Int)] 296)).grown HG7.o (λe=>CP.o e.symm));have EC:=ag ((pV.o.alloc Le.o (.cells #[.int .i64 (y.st:Int),.int .i64 (y.live:Int),.int .i64 (y.aQ:Int),.int .i64 (y.nx:Int)] 296)).grown HG7.o (by rw[World.size_alloc];have:=Le.o;omega) (λq hq=>(GZ.o.aP q hq).1));have e1:=Nh.o.aj (i:=1) rfl;have z1:=Nh.o.frozen 1;refine hK.out _ _ zH.o (λwK=>?_)
      try simp only[aO]
      refine aS 8 M 0 ?_;refine aS 9 M 1 ?_;have aep:gb≠M:=by have:=HMr.o.lt;have:=FB.o;omega
      refine dm 10 (λK' hK=>?_);go_simp;refine hK.out _ _ (zH.o.far (p:=⟨M,1,none⟩) aep _) (λrE=>?_)
      try simp only[aO]
      refine gB ?_;have HMf:=ag (Nh.o.set 1 (.slice a7 (k+1) c7));have HGf:=ag (HG8.o.far (p:=⟨M,1,none⟩) (by have:=HGM.o;simpa using this) (.slice a7 (k+1) c7));have HOf:=ag (vK.o.far (p:=⟨M,1,none⟩) (vK.o.zT Nh.o aB) (.slice a7 (k+1) c7));have PQ:=ag (EC.o.setCell (p:=⟨M,1,none⟩) HMw.o (.slice a7 (k+1) c7));clear bJ wK rE e1 z1 aep;go_wp2_with fail;go_roundw
      case rel=>exact⟨k+1,ae,by go_num,_,HGf.o,HMf.o,by rw[HSu.o];exact HOf.o,PQ.o⟩
      case measure=>simp[intOf];omega
     ·go_simp;refine hK.out _ _ (bJ.alloc _) (λdH=>?_)
      try simp only[aO]
      have cc2:=kH cc1 ((Below.refl w5.heap.size w5).alloc (Nat.le_refl _) (.cells #[.int .i64 (y.st:Int),.int .i64 (y.live:Int),.int .i64 (y.aQ:Int),.int .i64 (y.nx:Int)] 296));refine dm 4 (λK' hK=>?_);go_simp;refine hK.out _ _ dH (λgm=>?_)
      try simp only[aO]
      clear dH gm;refine dm 7 (λK' hK=>?_);refine Ja (w:=w5) (cs:=#[.int .i64 (y.st:Int),.int .i64 (y.live:Int),.int .i64 (y.aQ:Int),.int .i64 (y.nx:Int)]) rfl (.tmp 101) (.tmp 103) rfl w.heap.size _ (bU bl fr lv k) rfl GZ.o y w5.heap.size rfl rfl rfl (by rw[DC.o];omega) Le.o ?_;intro v7 w7 vK HG7;obtain⟨a7,c7,rfl,_⟩:=vK.o.bZ (n:=k+1) (by rw[List.length_append,DC.o];rfl);have Nh:=ag ((JA.o.alloc (.cells #[.int .i64 (y.st:Int),.int .i64 (y.live:Int),.int .i64 (y.aQ:Int),.int .i64 (y.nx:Int)] 296)).grown HG7.o (λe=>GZ.o.zT JA.o aB e.symm));have HG8:=ag ((Kv.o.alloc (.cells #[.int .i64 (y.st:Int),.int .i64 (y.live:Int),.int .i64 (y.aQ:Int),.int .i64 (y.nx:Int)] 296)).grown HG7.o (λe=>GZ.o.zT Kv.o aB e.symm));have zH:=ag ((HY5.o.alloc (.cells #[.int .i64 (y.st:Int),.int .i64 (y.live:Int),.int .i64 (y.aQ:Int),.int .i64 (y.nx:Int)] 296)).grown HG7.o (λe=>CP.o e.symm));have EC:=ag ((pV.o.alloc Le.o (.cells #[.int .i64 (y.st:Int),.int .i64 (y.live:Int),.int .i64 (y.aQ:Int),.int .i64 (y.nx:Int)] 296)).grown HG7.o (by rw[World.size_alloc];have:=Le.o;omega) (λq hq=>(GZ.o.aP q hq).1));have e1:=Nh.o.aj (i:=1) rfl;have z1:=Nh.o.frozen 1;refine hK.out _ _ zH.o (λwK=>?_)
      try simp only[aO]
      refine aS 8 M 0 ?_;refine aS 9 M 1 ?_;have aep:gb≠M:=by have:=HMr.o.lt;have:=FB.o;omega
      refine dm 10 (λK' hK=>?_);go_simp;refine hK.out _ _ (zH.o.far (p:=⟨M,1,none⟩) aep _) (λrE=>?_)
      try simp only[aO]
      refine gB ?_;have HMf:=ag (Nh.o.set 1 (.slice a7 (k+1) c7));have HGf:=ag (HG8.o.far (p:=⟨M,1,none⟩) (by have:=HGM.o;simpa using this) (.slice a7 (k+1) c7));have HOf:=ag (vK.o.far (p:=⟨M,1,none⟩) (vK.o.zT Nh.o aB) (.slice a7 (k+1) c7));have PQ:=ag (EC.o.setCell (p:=⟨M,1,none⟩) HMw.o (.slice a7 (k+1) c7));clear bJ wK rE e1 z1 aep;go_wp2_with fail;go_roundw
      case rel=>exact⟨k+1,ae,by go_num,_,HGf.o,HMf.o,by rw[HSu.o];exact HOf.o,PQ.o⟩
      case measure=>simp[intOf];omega
  ·obtain rfl:k=NB:=ae;have hlen:(bU bl fr lv k).length=k:=by simp[bU]
   obtain⟨ML,cap,rfl,nO,Qs,aEh⟩:=HOr.o.pY (by rw[hlen];exact hN);rw[hlen] at HMr HOr nO;have hg:gu k B S wr ⟨M,ML,C,BL,cap,ps,bl,bU bl fr lv k,-1,res,bad,false,λ_=>True⟩:=⟨HMr.o,HOr.o.mono (Nat.zero_le _),HH.o.on vH.o,λe=>HOr.o.zT HMr.o aB (by rw[show M=ML from e];rfl),λhs=>by have h1:M<w.heap.size:=HH.o.hi _ hs;have:=HMe.o;have:=nZ.o;omega,λhs=>by have h1:ML<w.heap.size:=HH.o.hi _ hs;omega,by have:=HH.o.base;have:=HMe.o;have:=nZ.o;show B<=M;omega,by have:=HH.o.base;show B<=ML;omega,oC⟩
   have HGm:=ag hg;have CO:=ag (λ(W:World) (hW:Below wr.heap.size wr W)=>Jd (some ⟨ML,0,none⟩) k cap _ W ((hg.on hW).arr) oC);have hls:=ag (λ(W:World) (hW:Below wr.heap.size wr W)=>TL (some ⟨ML,0,none⟩) k cap _ W ((hg.on hW).arr) oC);have aqV:=ag (show w.heap.size<=M by have:=HMe.o;have:=nZ.o;omega);have m1:=(hg.on (ak wr)).m1;simp only at m1;have hwl:∀i,i<k->(Gc.at_ (bU bl fr lv k) i).aQ<=1099511627776:=λi hi=>by rw[BC _ _ _ hi,Jb];exact HW.o i hi
   have aEj:Gc.greatest (bU bl fr lv k)<=1099511627776:=Np hwl λq hq=>by have:=(Gc.gZ hq).1;omega
   have aEk:Gc.least (bU bl fr lv k)<=1099511627776:=Np hwl λq hq=>by have:=(Gc.gZ hq).1;omega
   clear hwl;clear hg;generalize aqW:Gc.greatest (bU bl fr lv k)=gr at*;generalize aqX:Gc.least (bU bl fr lv k)=ls at*;have HE1:=ag aqW;have HE2:=ag aqX;clear aqW aqX;have i1:=IntWalk.i64_in ((gr:Int)-ls) ⟨ae,ae⟩;go_upto_region 23 with fail;have HD0:=ag (show Below wr.heap.size wr wr.drew from ak wr);refine iT (λW'=>W'.cell? ⟨M,1,none⟩=some (.slice (some ⟨ML,0,none⟩) k cap)) m1 (λbJ=>?_);generalize wr.drew=w5 at*;refine dP 0 M 0 ?_;refine dP 1 M 0 ?_;refine aS 2 M 0 ?_;refine aS 3 M 1 ?_;refine fE 4 (.slice (some ⟨ML,0,none⟩) k cap) ?_;refine dP 6 M 0 ?_;refine aS 7 M 0 ?_;refine aS 8 M 1 ?_;refine fE 9 (.slice (some ⟨ML,0,none⟩) k cap) ?_;refine dm 5 (λK' hK=>?_);go_simp;refine(CO.o w5 HD0.o).mono ?_;rintro e w6 ⟨rfl,iI⟩;have HD6:=ag (HD0.o.ay iI);have m6:=kH bJ iI;clear iI;refine hK.out _ _ m6 (λdH=>?_)
   try simp only[aO]
   refine dm 10 (λK' hK=>?_);go_simp;refine(hls.o w6 HD6.o).mono ?_;rintro e w7 ⟨rfl,kC⟩;have HD7:=ag (HD6.o.ay kC);have m7:=kH m6 kC;clear kC;refine hK.out _ _ m7 (λgm=>?_)
   try simp only[aO]
   refine ik 11 ((gr:Int)-ls) ?_;refine fE 12 (.bool (decide (4<(gr:Int)-ls))) ?_;refine aS 13 M 0 ?_;refine aS 14 M 5 ?_;have hg7:=HGm.o.on HD7.o;have m5:=hg7.m5;have z5:=hg7.amo 5;simp only at m5 z5;have HF7:=ag (hg7.axb (decide (4<(gr:Int)-ls)));have m8:=HF7.o.m1;simp only at m8;have EC:=ag ((vH.o.ay HD7.o).setCell (p:=⟨M,5,none⟩) aqV.o (.bool (decide (4<(gr:Int)-ls))));clear hg7;refine dm 15 (λK' hK=>?_);go_simp;refine hK.out _ _ m8 (λkD=>?_)
   try simp only[aO]
   refine gB ?_;clear bJ dH gm kD m1 m6 m7 m5 z5 m8;go_wp2_with fail;go_ret2;refine⟨M,ML,cap,rfl,aqV.o,Qs,?_,EC.o⟩;rw[HE1.o,HE2.o];exact HF7.o
end
end
end Go.Proofs.YtnieckfelfoopaaGreat

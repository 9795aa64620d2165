import Derived.Shelf.Small.Bits
import Derived.Test.YtnieckfelfoopaaGreatProg
import Derived.Test.YtnieckfelfoopaaGreatKeysIt
import Derived.WalkMore
import Derived.Shelf.SlSortCmp.SmallK
import Derived.Ground.SlsfProg
import Derived.Test.YtnieckfelfoopaaGreatFtlMem
open Go.Proofs.Tryz (prog)
namespace Go.Proofs.YtnieckfelfoopaaGreat
open Lib (hid)
set_option maxRecDepth 100000
set_option maxHeartbeats 16000000
section
open Go.Shelf

def UC:Go.Shelf.Ren:=⟨fun|125=>247|128=>275|129=>276|n=>n,fun|46=>196|3=>3|51=>64|53=>65|4=>4|5=>5|9=>9|n=>n,fun|n=>n⟩
theorem lays125:Go.Proofs.Lays.n125 prog UC:={
 mixed:=az
 f125:=Tryz.func247.trans (congrArg some az)
 f128:=Tryz.func275.trans (congrArg some az)
 f129:=Tryz.func276.trans (congrArg some az)
 t3:=Tryz.underlying3
 a3:=Tryz.isAgg3
 z3:=Tryz.sizeOf3
 v3:=Tryz.zeroValue3
 t4:=Tryz.underlying4
 a4:=Tryz.isAgg4
 z4:=Tryz.sizeOf4
 v4:=Tryz.zeroValue4
 t5:=Tryz.underlying5
 a5:=Tryz.isAgg5
 z5:=Tryz.sizeOf5
 v5:=Tryz.zeroValue5
 t9:=Tryz.underlying9
 a9:=Tryz.isAgg9
 z9:=Tryz.sizeOf9
 v9:=Tryz.zeroValue9
 t46:=Tryz.underlying196
 a46:=Tryz.isAgg196
 z46:=Tryz.sizeOf196
 v46:=Tryz.zeroValue196
 t51:=Tryz.underlying64
 a51:=Tryz.isAgg64
 z51:=Tryz.sizeOf64
 v51:=Tryz.zeroValue64
 t53:=Tryz.underlying65
 a53:=Tryz.isAgg65
 z53:=Tryz.sizeOf65
 v53:=Tryz.zeroValue65}
theorem Lp (x:Int) (w:World) (h0:0<=x) (h1:x<=18446744073709551615):
  Calls prog 247 #[.int .u64 x] w λe w'=>e= .returned (.int .i64 (Lib.bitLen x.toNat))/\w'=w:=Any.bits_Len lays125 x w h0 h1
end
section
open Go.RowKit

theorem XI (a:Option Addr) (n c:Nat) (w:World) (h:n<=1):
  Calls prog 287 #[.slice a n c,.int .i64 0,.int .i64 n] w λe w'=>e= .returned (.tuple #[])/\w'=w:=by
 have g1:¬(1:Int)<(n:Int):=ae;have g2:n<=1:=h;clear h
 go_in
 go_wp2
 go_loopw [6] (λv6 wr=>v6= .int .i64 1/\wr=w) (λ_ _=>0)
 case atStart=>exact⟨rfl,rfl⟩
 case round=>obtain⟨rfl,rfl⟩:=hrel;go_wp2;go_end0;exact⟨rfl,rfl⟩
theorem XJ (a:Option Addr) (n c:Nat) (l:Int) (w:World) (h:n<=1):
  Calls prog 265 #[.slice a n c,.int .i64 0,.int .i64 n,.int .i64 l] w λe w'=>e= .returned (.tuple #[])/\w'=w:=by
 have HI:=ag (XI a n c w h);have g1:(n:Int)<=12:=ae;have i1:=IntWalk.i64_in (n:Int) ⟨ae,ae⟩;clear h
 go_in
 go_wp2
 go_loopw [1,2] (λv1 v2 wr=>v1= .int .i64 0/\v2= .int .i64 n/\wr=w) (λ_ _ _=>0)
 case atStart=>exact⟨rfl,rfl,rfl⟩
 case round=>obtain⟨rfl,rfl,rfl⟩:=hrel;go_wp2_with fail;refine HI.o.mono ?_;rintro e w1 ⟨rfl,rfl⟩;go_wp2;refine bodyPost_ret (results_none rfl _ _ _) rfl ?_;exact⟨rfl,rfl⟩
theorem UD (a:Option Addr) (n c:Nat) (w:World) (h:n<=1):
  Calls prog 242 #[.slice a n c] w λe w'=>e= .returned (.tuple #[])/\w'=w:=by
 have HP:=ag (λl=>XJ a n c l w h);have HL:=ag (Lp (n:Int) w ae ae);have i1:=IntWalk.u64_in (n:Int) ⟨ae,ae⟩;clear h
 go_in
 go_wp2_with fail;refine HL.o.mono ?_;rintro e w1 ⟨rfl,rfl⟩;go_wp2_with fail;refine(HP.o _).mono ?_;rintro e w1 ⟨rfl,rfl⟩;go_wp2;go_end0;exact⟨rfl,rfl⟩
end
section
open Go.RowKit

def D5 {α:Type} (P:Program) (gf:Nat) (lb:Array Value) (enc:α->Value) (S:List α->Prop) (N:Nat) (own:Nat->Prop) (w0:World):Prop:=
 ∀(l:Nat) (J:List α->(Nat->Prop)->World->Prop) (X:Nat->Prop) (W:World),JX (λ_=>False) W.heap.size J->Kq (λq=>¬own q) w0 W->(∀q,X q->¬own q)->(∀q,own q->q<w0.heap.size)->
  (∀pre x X1 W1,J pre X1 W1->pre.length<N->YieldAt Fence.wide 7 P l #[enc x] W1 λe W'=>e= .returned (.bool true)/\(∃X',J (pre++[x]) X' W'/\Grew X1 W1 X')/\Kq X1 W1 W')->J [] X W->
  CallsIn Fence.wide 8 P gf (#[.func (.yield l) #[] #[]]++lb) W λe W'=>(∃v,e= .returned v)/\(∃xs X',S xs/\J xs X' W'/\Grew X W X')/\Kq X W W'
def am2 {α:Type} (I:List α->(Nat->Prop)->World->Prop) (pre:List α) (X:Nat->Prop) (W:World):Exit->Act->World->Prop
 | .normal,_,W'=>(∃X',I pre X' W'/\Grew X W X')/\Kq X W W'
 | .ret,_,_=>False
 | .exit _,_,_=>False
 | .goto _,_,_=>False
 | .panic _,_,_=>False
 | .outgrown,_,_=>False
theorem UE {α:Type} {P:Program} {g:Operand} {ps:Array Tmp} {assign body:Code} {Q:Exit->Act->World->Prop} {a:Act} {w:World} {gf:Nat} {lb:Array Value} {enc:α->Value} {S:List α->Prop} {N:Nat} {own:Nat->Prop} {w0:World}
  (hg:a.eval g= .func (.func gf) #[] lb) (eg:∀args w,(callFunc gf args).run P w= .ok (.enter gf args) w) (mJ:D5 P gf lb enc S N own w0) (fF:Kq (λq=>¬own q) w0 w) (bG:∀q,own q->q<w0.heap.size)
  (LC:ps.size=1) (I:List α->(Nat->Prop)->World->Prop) (hI:JX (λ_=>False) w.heap.size I) (X:Nat->Prop) (h0:I [] X w) (hX:∀q,X q->¬own q) (vM:α->Act)
  (lT:∀(l:Nat) (x:α) (W:World) (K:Act->World->Prop),K (vM x) W->assign.wpIn (Fence.wide.inRound l) 7 P (Exit.then K (λ_ _ _=>False)) {tmps:=(ps.zip #[enc x]).foldl (λt (p,v)=>t.setIfInBounds p v) a.tmps,defers:=[]} W)
  (wF:∀(l:Nat) (pre:List α) (x:α) (X1:Nat->Prop) (W:World),I pre X1 W->pre.length<N->Grew X w X1->w.heap.size<=W.heap.size->body.wpIn (Fence.wide.inRound l) 7 P (am2 I (pre++[x]) X1 W) (vM x) W)
  (wG:∀(D:Nat) (xs:List α) (X1:Nat->Prop) (W:World),w.heap.size<=D->S xs->I xs X1 W->Grew X w X1->Kq X w W->(∀q,X1 q->q≠D)->W.heap[D]?=some (.deferred (some []))->Q .normal {a with defers:={target:= .collected D,args:=#[]}::a.defers} W):
  (Code.rangeFunc g ps assign body).wpIn Fence.wide 9 P Q a w:=by
 refine wpIn_rangeFunc λfn U1=>?_;obtain⟨D,hD⟩:=AP w.heap.size;obtain⟨R,hR⟩:∃R:LoopState->Option Code->Loop,R=λst pe=>{state:=st,pending:=pe,fn,tmps:=a.tmps,params:=ps,assign,body,defers:=D}:=⟨_,rfl⟩
 obtain⟨V,hV⟩:=AP ((w.alloc (.deferred (some []))).alloc (.loop (R .ready none)));have vl:V.heap[D+1]?=some (.loop (R .ready none)):=by have h:=World.alloc_heap_new (w.alloc (.deferred (some []))) (.loop (R .ready none));rw[World.size_alloc,hD,hV] at h;exact h
 have vd:V.heap[D]?=some (.deferred (some [])):=by rw[<-hV,Below.heap_alloc _ _ _ (by rw[World.size_alloc];omega),<-hD];exact World.alloc_heap_new w _
 have vs:V.heap.size=D+2:=by rw[<-hV,World.size_alloc,World.size_alloc,hD]
 have Zm:Below w.heap.size w V:=by rw[<-hV];exact((Below.refl _ w).alloc (Nat.le_refl _) _).alloc (by rw[World.size_alloc];omega) _
 have hXb:=hI.bd _ _ _ h0;have hIV:I [] X V:=hI.on h0 Zm;obtain⟨J,hJ⟩:∃J:List α->(Nat->Prop)->World->Prop,J=λpre X' W=>∃X1,I pre X1 W/\Grew X w X1/\W.heap[D+1]?=some (.loop (R .ready none))/\W.heap[D]?=some (.deferred (some []))/\(∀q,X' q↔X1 q\/q=D\/q=D+1)/\(∀q,X1 q->q≠D/\q≠D+1)/\D+2<=W.heap.size:=⟨_,rfl⟩
 have hJX:JX (λ_=>False) V.heap.size J:=by
  rw[hJ];refine JX.mono (n:=w.heap.size) ?_ ae;refine⟨?_,?_⟩
  ·rintro pre X' W ⟨X1,h1,h2,h3,h4,h5,h6,h7⟩ q hq;rcases(h5 q).1 hq with h|h|h
   ·exact hI.bd _ _ _ h1 q h
   ·omega
   ·omega
  ·rintro pre X' W W' T' ⟨X1,h1,h2,h3,h4,h5,h6,h7⟩ hk hn;refine⟨X1,hI.kq _ _ _ _ T' h1 hk λq hq=>⟨(hn q hq).1,λh=>(hn q hq).2 ((h5 q).2 (.inl h))⟩,h2,?_,?_,h5,h6,Nat.le_trans h7 hk.size⟩
   ·exact(hk.block _ ae λh=>(hn _ h).2 ((h5 _).2 (.inr (.inr rfl)))).trans h3
   ·exact(hk.block _ ae λh=>(hn _ h).2 ((h5 _).2 (.inr (.inl rfl)))).trans h4
 refine⟨D+1,[{target:= .collected D,args:=#[]}],V,{target:= .fn (.func gf) lb,args:=#[.func (.yield (D+1)) #[] #[]]},V,gf,#[.func (.yield (D+1)) #[] #[]]++lb,V,?_,?_,λ_ _=>trivial,?_,wE,?_⟩
 ·have h:=run_enterLoop_outer (P:=P) (w:=w) fn a.tmps ps assign body;rw[hD] at h;rw[<-hV,hR];exact h
 ·simp only[resolve,hg];simp[go_sem]
 ·simp[invoke,go_sem,eg]
 ·have af7:=fF.size;have hkV:Kq (λq=>¬own q) w0 V:=fF.on Zm;refine(mJ (D+1) J (λq=>X q\/q=D\/q=D+1) V hJX hkV ?_ bG ?_ ?_).mono ?_
  ·rintro q (h|h|h)
   ·exact hX q h
   ·exact λho=>by have:=bG q ho;omega
   ·exact λho=>by have:=bG q ho;omega
  ·intro pre x X' A hj dQ;rw[hJ] at hj;obtain⟨X1,hi,X9,hl,hd,hx,dh,ja⟩:=hj;refine⟨fn,_,assign,body,by have h:=run_yield (P:=P) (args:=#[enc x]) hl (by rw[hR];exact LC.symm);rw[hR] at h;exact h,roundIn_of_wpIn U1 (lT _ x A _ ?_)⟩;refine⟨_,run_beginRound hl (by rw[hR]),?_⟩;obtain⟨A2,yT⟩:∃A2,A.putObj (D+1) (.loop {R .ready none with state:= .busy})=A2:=⟨_,rfl⟩
   have k2:Kq (λq=>q=D+1) A A2:=by rw[<-yT];exact dS _ _ _
   have al:A2.heap[D+1]?=some (.loop {R .ready none with state:= .busy}):=by rw[<-yT];exact World.putObj_heap_same (kE hl)
   have ad:A2.heap[D]?=some (.deferred (some [])):=by rw[<-yT];exact(World.putObj_heap_other ae).trans hd
   have asz:A2.heap.size=A.heap.size:=by rw[<-yT,World.putObj_size]
   have ai:I pre X1 A2:=hI.kq _ _ _ _ _ hi k2 λq e=>⟨.inr ae,λh=>(dh q h).2 e⟩
   have yK:¬X1 (D+1):=λh=>(dh _ h).2 rfl;have JD:¬X1 D:=λh=>(dh _ h).1 rfl;have e1:∀q,q=D+1->X' q:=λq h=>(hx q).2 (.inr (.inr h));rw[yT];refine wpIn_mono (wF _ pre x X1 A2 ai dQ X9 ae) ?_;intro e a3 B hp
   cases e with
   |normal=>
    obtain⟨⟨X2,h1,h2⟩,h3⟩:=hp;have bl:=(h3.block (D+1) ae yK).trans al;have bd:=(h3.block D ae JD).trans ad;have hsB:=h3.size;have m1:¬X2 (D+1):=h2.not yK ae;have m0:¬X2 D:=h2.not JD ae;refine⟨_,_,run_endRound none bl,rfl,⟨λq=>X2 q\/q=D\/q=D+1,?_,?_⟩,((k2.mono e1).trans (h3.mono λq h=>(hx q).2 (.inl h))).trans ((dS B (D+1) _).mono e1)⟩
    ·rw[hJ];refine⟨X2,hI.kq _ _ _ _ _ h1 (dS _ _ _) (λq e=>⟨.inr ae,λh=>m1 (e▸h)⟩),X9.trans h2 ae,?_,(World.putObj_heap_other ae).trans bd,λq=>Iff.rfl,λq hq=>⟨λe=>m0 (e▸hq),λe=>m1 (e▸hq)⟩,by rw[World.putObj_size];omega⟩;rw[World.putObj_heap_same (kE bl),hR];rfl
    ·rintro q (h|h|h)
     ·rcases h2 q h with h4|h4
      ·exact .inl ((hx q).2 (.inl h4))
      ·exact .inr ae
     ·exact .inl ((hx q).2 (.inr (.inl h)))
     ·exact .inl ((hx q).2 (.inr (.inr h)))
   |ret=>exact hp.elim
   |exit id=>exact hp.elim
   |goto t=>exact hp.elim
   |panic ch=>exact hp.elim
   |outgrown=>exact hp.elim
  ·rw[hJ];refine⟨X,hIV,Grew.refl _ _,vl,vd,λq=>Iff.rfl,λq hq=>?_,ae⟩;have:=hXb q hq;omega
  ·rintro e B ⟨⟨v,rfl⟩,⟨xs,X',hS,hj,hg'⟩,hk⟩;rw[hJ] at hj;obtain⟨X1,h1,X9,bl,bd,hx,dh,ja⟩:=hj;have Wi:∀o,Kq X w (B.putObj (D+1) o):=λo=>by
    refine((Kq.of (T:=X) Zm).ay hk ?_).ay (dS B (D+1) _) ?_
    ·rintro q (h|h|h)
     ·exact .inl h
     ·exact .inr ae
     ·exact .inr ae
    ·rintro q h;exact .inr ae
   refine⟨none,_,by have h:=run_endLoop (P:=P) bl (by rw[hR];simp);rw[hR] at h;exact h,?_⟩;exact wG D xs X1 _ ae hS (hI.kq _ _ _ _ _ h1 (dS _ _ _) λq e=>⟨.inr ae,λh=>(dh q h).2 e⟩) X9 (Wi _) (λq hq=>(dh q hq).1) ((World.putObj_heap_other ae).trans bd)
end
section
open Go.RowKit Go.Maps

theorem Ux {α:Type} {w:World} {Bm b:Nat} {l:List (Value×Value)} {enc:α->Value} {dec:Value->α} (hB:aF w Bm 222 #[.map (some b)]) (hm:MapAt prog 64 w b l) (hed:∀x,dec (enc x)=x) (hk:∀p∈l,∃x,p.1=enc x):
  D5 prog 243 #[.pointer (some ⟨Bm,0,none⟩)] enc (λss=>ss.Perm (l.map λp=>dec p.1)) l.length (λq=>q=Bm\/q=b) w:=by
 intro lp J X W hJ hW hX _ hY h0;have hc:=(hB.kq hW λh=>h (.inl rfl)).aj (i:=0) rfl;have hmW:=hm.same (hW.block b hm.lt λh=>h (.inr rfl));have VU:=ag (λq (h:X q)=>hJ.bd _ _ _ h0 q h);have HXn:=ag (λ(h:X b)=>hX b h (.inr rfl));have HK:=ag hk;have HD:=ag hed;have HY:=ag hY;have HJ:=ag hJ;clear hB hm hk hed hY hW hX;refine callsIn_of_wp Tryz.func243 rfl trivial ?_ rfl;simp only[Tryz.ntmps243,List.size_toArray,List.length_cons,List.length_nil,Nat.reduceAdd,Nat.reduceSub,Array.replicate_succ,Array.replicate_zero,List.push_toArray,List.append_toArray,List.nil_append,List.cons_append]
 gi_wp2_with (first
  |(gi_at_range;refine jo rfl _ 222 rfl 64 247 Tryz.underlying222 b l rfl hmW ?_;intro w0 Ug fF Fp)
  |gi_in)
 have Ya:=ag (HJ.o.on h0 fF);have gJ:=ag Fp;have HG0:=ag (Kq.of (T:=X) fF);have F5:=ag Ug;clear hJ h0 Ug fF Fp hmW
 try go_frame
 gi_loopw [3] (λ_ wr=>∃(d:List (Value×Value)) (ss:List α) (X1:Nat->Prop),eP prog 64 wr b W.heap.size l d/\d.map Prod.fst=ss.map enc/\J ss X1 wr/\Grew X W X1/\¬X1 W.heap.size/\¬X1 b/\Kq X W wr/\W.heap.size<wr.heap.size) (λ_ wr=>wr.rangeLeft b W.heap.size)
 case atStart=>exact⟨[],[],X,F5.o,rfl,Ya.o,Grew.refl _ _,λh=>by have:=VU.o _ h;omega,HXn.o,HG0.o,by rw[gJ.o];omega⟩
 case round=>
  obtain⟨d,ss,X1,hrg,hds,hjs,CO,yK,J5,hkq,ja⟩:=hrel;clear Ya F5;have HGr:=ag CO;have XX:=ag yK;have xQ:=ag J5;have HKq:=ag hkq;have Qu:=ag ja;clear CO yK J5 hkq ja;have HDs:=ag hds;have HJs:=ag hjs;clear hds hjs
  gi_wp2_with (first
   |(gi_at_next;refine jO rfl _ rfl 64 b W.heap.size l d rfl hrg ?_ ?_)
   |gi_in)
  ·intro hp
   gi_wp2
   go_end0;refine⟨⟨_,rfl⟩,⟨ss,X1,?_,HJs.o,HGr.o⟩,HKq.o⟩;have h1:=(hp.map Prod.fst).map dec;rw[HDs.o,List.map_map,List.map_map] at h1;have h2:List.map (dec∘enc) ss=ss:=by
    conv=>rhs;rw[<-List.map_id ss]
    exact List.map_congr_left λx _=>HD.o x
   rw[h2] at h1;exact h1
  ·intro p1 p2 w2 oh hpd BH pR mr aU CJ;obtain⟨p,NK⟩:=bu ((p1,p2));obtain⟨x,hx⟩:=HK.o _ oh;obtain rfl:p1=_:=hx;rw[<-NK] at BH;have HX:=ag (show p.1=enc x from by rw[NK]);have vN:=BH.few;have hlen:ss.length<l.length:=by have:=congrArg List.length HDs.o;rw[List.length_map,List.length_map] at this;rw[List.length_append,List.length_singleton] at vN;omega
   have hJ2:=HJ.o.kq ss X1 wr w2 _ HJs.o (Kq.grown pR) (λq e=>by have e:=(Option.some.inj e).symm;exact⟨.inr ae,λh=>XX.o (e▸h)⟩);have rD:=ag (HKq.o.ay (Kq.grown pR) λq e=> .inr (by have e:=Option.some.inj e;omega));have wJ:=ag mr;obtain⟨fn,tmps,assign,body,hy,hR⟩:=HY.o ss x X1 w2 hJ2 hlen;have Uh:=ag BH;have HLt:=ag aU;clear mr hlen vN hrg oh hpd pR NK aU BH
   gi_wp2
   refine hR.mono ?_;rintro e W3 ⟨rfl,⟨X3,Zi,hg3⟩,jY⟩;have e1:=jY.block b Uh.o.ltb xQ.o;have e2:=jY.block W.heap.size Uh.o.ltr XX.o;have rC:=ag (Uh.o.same e1 e2);have yD:=ag (qg (b:=b) (r:=W.heap.size) e1 e2);have JM:=Qu.o;have mr:=wJ.o;have kF:=Uh.o.ltb;have zZ:=ag (And.intro (HGr.o.trans hg3 ae) (And.intro (hg3.not XX.o ae) (And.intro (hg3.not xQ.o kF) (And.intro (rD.o.ay jY λq h=>by
    rcases HGr.o q h with h|h
    ·exact .inl h
    ·exact .inr h) (show W.heap.size<W3.heap.size from by have:=jY.size;omega)))))
   clear e1 e2 jY hg3 JM mr kF
   gi_wp2
   go_roundw
   case rel=>exact⟨d++[p],ss++[x],X3,rC.o,by rw[List.map_append,List.map_append,HDs.o];simp[HX.o],Zi,zZ.o⟩
   case measure=>rw[yD.o];exact HLt.o
end
section
open Go.RowKit Go.Maps

attribute [local go_sem] Oper.semAt_some

def tu (n:Nat):Value:= .int .u32 n
def aeT:Value->Nat
 | .int _ a=>a.toNat
 |_=>0
theorem XA (n:Nat):aeT (tu n)=n:=Int.toNat_natCast n
theorem ae8 (n:Nat):(tu n).oneCell'=true:=rfl
theorem asc:(prog.info? 64).map (λi=>(i.zero,i.size,i.bytes))=some (some (.int .u32 0),1,4):=az
theorem Lr {F:Fence} {fuel:Nat} {w:World} {ops:Array Oper} {rest:List Oper} {o:Oper} {ac:Act} {Q:Exit->Act->World->Prop} (mD:o.guard=none) (s x:Operand)
  (ho:o.op= .call {callee:= .builtin .append,args:=#[s,x],argTypes:=#[209,209]}) (base:Nat)
  (v:Value) (xs:List Nat) (hs:ac.eval s=v) (bG:Own tu 64 w base v xs) (g y:Nat) (hx:ac.eval x= .slice (some ⟨g,0,none⟩) 1 1) (hgg:g=w.heap.size)
  (dW:xs.length<=10000000) (cZ:base<=w.heap.size)
  (h:∀v' w',Hid (Own tu 64 w' base v' (xs++[y]))->Hid (Below base w w')->Hid ((w.alloc (.cells #[.int .u32 y] 64)).grownBy w' v.ownBlock)->Hid (v'.ownBlock=v.ownBlock\/v'.ownBlock=some (w.heap.size+1))->wpListIn F fuel prog ops Q rest (ac.put o.dst v') w'):wpListIn F fuel prog ops Q (o::rest) ac (w.alloc (.cells #[.int .u32 y] 64)):=by
 subst hgg;obtain⟨i0,hi,qp,rG,yU⟩:=info_parts asc;exact oZ mD s x 209 ho base 64 i0 _ 4 Tryz.underlying209 hi qp rG yU rfl ae8 v xs hs (bG.alloc _) _ _ 1 1 [y] hx (jg.lit w 64 [y] 1 rfl ae rfl) ae (by simp only[maxLen];omega) (by simp;omega) λv' w' h1 h2 h3=>
  h v' w' (ag h1) (ag (((Below.refl base w).alloc cZ _).trans (jK (Below.refl base _) (bG.alloc _) h2 (by simp;omega)))) (ag h2) (ag (by rw[World.size_alloc] at h3;exact h3))
theorem aa2 {T:Nat->Prop} {w w':World} {row:Option Nat} (h:w.grownBy w' row) (hT:∀q,row=some q->T q):Kq T w w':=⟨h.os,h.tape,h.output,h.size,λk hk hn=>h.block k hk λe=>hn (hT k e.symm)⟩
def ApU (H:Nat) (w:World) (pre:List Nat) (X:Nat->Prop) (W:World):Prop:=
 ∃v,aF W H 209 #[v]/\Own tu 64 W (H+1) v pre/\(∀q,X q↔q=H\/v.ownBlock=some q)/\Below H w W/\H+1<=W.heap.size
theorem am3 (H n:Nat) (w:World) (hw:H<=w.heap.size) (hn:H<=n):JX (λ_=>False) n (ApU H w):=by
 refine⟨?_,?_⟩
 ·rintro pre X W ⟨v,h1,h2,h3,h4,h5⟩ q hq;rcases(h3 q).1 hq with e|e
  ·omega
  ·exact(h2.aP q e).2
 ·rintro pre X W W' T' ⟨v,h1,h2,h3,h4,h5⟩ hk hT;refine⟨v,h1.kq hk λh=>(hT _ h).2 ((h3 _).2 (.inl rfl)),h2.kq hk λq hq h=>(hT _ h).2 ((h3 _).2 (.inr hq)),h3,h4.trans (hk.below (λq h=>?_) (Nat.le_trans hw h4.size)),Nat.le_trans h5 hk.size⟩;rcases(hT q h).1 with e|e
  ·exact e.elim
  ·omega
theorem D9 {S:List Nat->Prop} {N g:Nat} {lb:Array Value} {w:World} (eg:∀args w,(callFunc g args).run prog w= .ok (.enter g args) w) (hN:N<=1000000) {own:Nat->Prop} (mJ:D5 prog g lb tu S N own w) (bG:∀q,own q->q<w.heap.size):
  Calls prog 196 #[.slice none 0 0,.func (.func g) #[] lb] w λe w'=>(∃v ss,e= .returned v/\S ss/\Own tu 64 w' w.heap.size v ss)/\Below w.heap.size w w':=by
 refine callsIn_wide (n:=9)|>.1 ?_;refine callsIn_of_wp_marks Tryz.func196 rfl trivial ?_ rfl;refine wpIn_wide.2 ?_;simp only[Tryz.ntmps196,List.size_toArray,List.length_cons,List.length_nil,Nat.reduceAdd,Nat.reduceSub,Array.replicate_succ,Array.replicate_zero,List.push_toArray,List.append_toArray,List.nil_append,List.cons_append];go_wp2;have b0:=aF.new w 209 #[.slice none 0 0];have fF:Below w.heap.size w (w.alloc (.cells #[.slice none 0 0] 209)):=(Below.refl _ w).alloc (Nat.le_refl _) _;have ja:(w.alloc (.cells #[.slice none 0 0] 209)).heap.size=w.heap.size+1:=au;generalize w.alloc (.cells #[.slice none 0 0] 209)=W0 at*;refine wpIn_wide.1 (UE (gf:=g) (lb:=lb) (enc:=tu) (S:=S) (N:=N) (w0:=w) rfl eg mJ (Kq.of fF) bG rfl (ApU w.heap.size w) (am3 _ _ w (Nat.le_refl _) ae) (λq=>q=w.heap.size) ⟨_,b0,Own.nil _ _,λq=>⟨.inl,λh=>h.elim id λh=>by cases h⟩,fF,ae⟩ (λq e h=>by have:=bG q h;omega)
  (λx=>{tmps:=#[.slice none 0 0,.func (.func g) #[] lb,.pointer (some ⟨w.heap.size,0,none⟩),undef,.slice none 0 0,.int .u32 x,.func (.func g) #[] lb,.int .u32 x,undef,undef,undef,undef,undef],defers:=[]}) ?assign ?body ?done)
 case assign=>
  intro lp x W K hK;unfold tu
  gi_wp2
  exact hK
 case body=>
  rintro lp pre x X1 W ⟨v,bv,ho,hxi,jD,hsW⟩ dQ _ _;obtain⟨a1,c1,rfl,_⟩:=ho.bZ (n:=pre.length) rfl;have HO:=ag ho;have AL:=ag jD;have BV:=ag bv;have HXi:=ag hxi;have c4:W.cell? ⟨w.heap.size,0,none⟩=some (.slice a1 pre.length c1):=bv.aj (i:=0) rfl;have f4:=bv.frozen 0;have oh:pre.length<=10000000:=ae;clear bv ho jD mJ hxi bG
  gi_wp2_with (gi_at_builtin;refine Lr rfl _ _ rfl (w.heap.size+1) _ pre rfl HO.o _ x rfl rfl oh hsW ?_;intro v2 w2 yS dA vO HV2;obtain⟨a3,c3,rfl,_⟩:=yS.o.bZ (n:=pre.length+1) au;have BV2:=ag (BV.o.below dA.o ae);have c42:=BV2.o.aj (i:=0) rfl;have f42:=BV2.o.frozen 0)
  have J5:=yS.o.Oj (r:=w.heap.size) (.inl ae);have iy:Kq X1 W (w2.setCell ⟨w.heap.size,0,none⟩ (.slice a3 (pre.length+1) c3)):=((Kq.of ((Below.refl _ W).alloc (Nat.le_refl _) _)).trans (aa2 vO.o (λq e=>(HXi.o q).2 (.inr e)))).trans ((Kq.one ⟨w.heap.size,0,none⟩ _).mono λq e=>(HXi.o q).2 (.inl e));refine⟨⟨λq=>q=w.heap.size\/(Value.slice a3 (pre.length+1) c3).ownBlock=some q,⟨_,BV2.o.set 0 _,yS.o.far J5 _,λq=>Iff.rfl,(AL.o.trans (dA.o.mono ae)).setCell (p:=⟨w.heap.size,0,none⟩) (Nat.le_refl _) _,by have:=dA.o.size;simp;omega⟩,?_⟩,iy⟩;rintro q (e|e)
  ·exact .inl ((HXi.o q).2 (.inl e))
  ·rcases HV2.o with h|h
   ·rw[h] at e;exact .inl ((HXi.o q).2 (.inr e))
   ·rw[h] at e;injection e with e
    exact .inr ae
 case done=>rintro D xs X1 W hD hS ⟨v,bv,ho,_,jD,_⟩ _ _ _ hK;have HO:=ag ho;have AL:=ag jD;have HS:=ag hS;have c4:=bv.aj (i:=0) rfl;clear ho jD hS;go_wp2;refine⟨au,.inl ⟨_,_,rfl,run_takeDeferred hK,?_⟩⟩;refine⟨_,by simp[results,Tryz.results196,go_sem],⟨v,xs,rfl,HS.o,?_⟩,AL.o.trans (fM _ ae)⟩;exact((Own.iZ (c:=w.heap.size) (B:=0) ae) W _ D HO.o (grownBy_putObj' _ _ _) (.inr ⟨ae,_,hK,rfl⟩)).mono ae
theorem xu {S:List Nat->Prop} {N g:Nat} {lb:Array Value} {w:World} (eg:∀args w,(callFunc g args).run prog w= .ok (.enter g args) w) (hN:N<=1000000) {own:Nat->Prop} (mJ:D5 prog g lb tu S N own w) (bG:∀q,own q->q<w.heap.size):
  Calls prog 141 #[.func (.func g) #[] lb] w λe w'=>(∃v ss,e= .returned v/\S ss/\Own tu 64 w' w.heap.size v ss)/\Below w.heap.size w w':=by
 have HA:=ag (D9 eg hN mJ bG);clear eg mJ bG
 go_in
 go_wp2_with fail;refine HA.o.mono ?_;rintro e w1 ⟨⟨v,ss,rfl,hS,ho⟩,hb⟩;have HS:=ag hS;have HO:=ag ho;have HB:=ag hb;clear hS ho hb;go_wp2;go_ret;exact⟨⟨_,ss,rfl,HS.o,HO.o⟩,HB.o⟩
theorem Lj {S:List Nat->Prop} {N g:Nat} {lb:Array Value} {w:World} (eg:∀args w,(callFunc g args).run prog w= .ok (.enter g args) w) (hN:N<=1000000) {own:Nat->Prop} (h1:∀ss,S ss->ss.length<=1) (mJ:D5 prog g lb tu S N own w) (bG:∀q,own q->q<w.heap.size):
  Calls prog 199 #[.func (.func g) #[] lb] w λe w'=>(∃v ss,e= .returned v/\S ss/\Own tu 64 w' w.heap.size v ss)/\Below w.heap.size w w':=by
 have HA:=ag (xu eg hN mJ bG);have H1:=ag h1;clear eg mJ bG h1
 go_in
 go_wp2_with fail;refine HA.o.mono ?_;rintro e w1 ⟨⟨v,ss,rfl,hS,ho⟩,hb⟩;obtain⟨a,c,rfl,_⟩:=ho.bZ rfl;have HS:=ag hS;have HO:=ag ho;have HB:=ag hb;clear hS ho hb;go_wp2_with fail;refine(UD a ss.length c w1 (H1.o _ HS.o)).mono ?_;rintro e w_ ⟨rfl,rfl⟩;go_wp2;go_ret;exact⟨⟨_,ss,rfl,HS.o,HO.o⟩,HB.o⟩
end
section
open Go.Shelf

end
section
open Go.RowKit Go.Shelf Go.Sort

structure Hd where
 n:Bool
 e:En
 h:e.i<8
instance:Inhabited Hd:=⟨⟨false,⟨Tg.zero,[],0,0⟩,aB⟩⟩
end
section
open Go.RowKit Go.Maps

namespace eX
end eX
namespace eX
end eX
section
open eX
variable {NB B:Nat} {R:Nat->Prop} {w:World} {f:Fm}
end
end
end Go.Proofs.YtnieckfelfoopaaGreat

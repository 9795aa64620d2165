import Derived.Test.YtnieckfelfoopaaGreatDirAll
import Derived.WalkMore
import Derived.BigRegionIn
import Derived.Shelf.Abstract
open Go.Proofs.Tryz (prog)
namespace Go.Proofs.YtnieckfelfoopaaGreat
open Lib (hid)
set_option maxRecDepth 100000
set_option maxHeartbeats 16000000
section
open Go.RowKit

theorem Hz {α:Type} {P:Program} {g:Operand} {ps:Array Tmp} {assign body:Code} {Q:Exit->Act->World->Prop} {a:Act} {w:World} {gf:Nat} {lb:Array Value} {encs:α->Array Value} {xs:List α} {c n0:Nat} {w0:World}
  (hg:a.eval g= .func (.func gf) #[] lb) (eg:∀args w,(callFunc gf args).run P w= .ok (.enter gf args) w) (mJ:Iter P gf lb encs xs c n0 w0) (fF:Below w0.heap.size w0 w) (JD:n0<=w.heap.size) (hc:c<w.heap.size)
  (LC:∀x,(encs x).size=ps.size) (I:List α->World->Prop) (Ix:Code->List α->World->Prop) (hI:∀pre,df c w.heap.size (I pre)) (vU:∀k pre,df c w.heap.size (Ix k pre)) (h0:I [] w) (M:List α->α->Act->World->Prop) (hM:∀pre x a1,df c w.heap.size (M pre x a1))
  (lT:∀(l:Nat) (pre:List α) (x:α) (W:World) (K:Act->World->Prop),I pre W->(pre++[x])<+:xs->(∀a1 W',KeepsOthers W W'->Below n0 W W'->W'.heap[c]?=W.heap[c]?->W.heap.size<=W'.heap.size->M pre x a1 W'->K a1 W')->
   assign.wpIn (Fence.wide.inRound l) 7 P (Exit.then K (λ_ _ _=>False)) {tmps:=(ps.zip (encs x)).foldl (λt (p,v)=>t.setIfInBounds p v) a.tmps,defers:=[]} W)
  (wF:∀(l:Nat) (pre:List α) (x:α) (a1:Act) (W:World),M pre x a1 W->(pre++[x])<+:xs->body.wpIn (Fence.wide.inRound l) 7 P (acL n0 c I Ix (pre++[x]) W) a1 W)
  (wG:∀(D:Nat) (W:World),w.heap.size<=D->I xs W->W.heap[D]?=some (.deferred (some []))->Q .normal {a with defers:={target:= .collected D,args:=#[]}::a.defers} W)
  (AO:∀(D:Nat) (k:Code) (pre:List α) (W:World),w.heap.size<=D->pre<+:xs->Ix k pre W->W.heap[D]?=some (.deferred (some []))->k.wpIn Fence.wide 9 P Q {a with defers:={target:= .collected D,args:=#[]}::a.defers} W):
  (Code.rangeFunc g ps assign body).wpIn Fence.wide 9 P Q a w:=by
 refine wpIn_rangeFunc λfn U1=>?_;obtain⟨D,hD⟩:=AP w.heap.size;obtain⟨R,hR⟩:∃R:LoopState->Option Code->Loop,R=λst pe=>{state:=st,pending:=pe,fn,tmps:=a.tmps,params:=ps,assign,body,defers:=D}:=⟨_,rfl⟩
 have acM:∀st pe st' pe',{R st pe with state:=st',pending:=pe'}=R st' pe':=by intros;rw[hR]
 obtain⟨V,hV⟩:=AP ((w.alloc (.deferred (some []))).alloc (.loop (R .ready none)));have vl:V.heap[D+1]?=some (.loop (R .ready none)):=by have h:=World.alloc_heap_new (w.alloc (.deferred (some []))) (.loop (R .ready none));rw[World.size_alloc,hD,hV] at h;exact h
 have vd:V.heap[D]?=some (.deferred (some [])):=by rw[<-hV,Below.heap_alloc _ _ _ (by rw[World.size_alloc];omega),<-hD];exact World.alloc_heap_new w _
 have hIV:I [] V:=by rw[<-hV];exact(hI []).alloc _ ((hI []).alloc _ h0)
 have Zm:Below w0.heap.size w0 V:=by rw[<-hV];exact(fF.alloc fF.size _).alloc (by rw[World.size_alloc];have:=fF.size;omega) _
 have oW:∀(A:World) (r:Loop) (jump:Option Code),A.heap[D+1]?=some (.loop r)->(A.putObj (D+1) (.loop {r with state:=if jump.isNone then .ready else .done,pending:=jump})).heap[D+1]?=some (.loop {r with state:=if jump.isNone then .ready else .done,pending:=jump}):=
  λA r jump h=>World.putObj_heap_same (kE h)
 refine⟨D+1,[{target:= .collected D,args:=#[]}],V,{target:= .fn (.func gf) lb,args:=#[.func (.yield (D+1)) #[] #[]]},V,gf,#[.func (.yield (D+1)) #[] #[]]++lb,V,?_,?_,λ_ _=>trivial,?_,wE,?_⟩
 ·have h:=run_enterLoop_outer (P:=P) (w:=w) fn a.tmps ps assign body;rw[hD] at h;rw[<-hV,hR];exact h
 ·simp only[resolve,hg];simp[go_sem]
 ·simp[invoke,go_sem,eg]
 ·refine(mJ (D+1) (λpre W=>I pre W/\W.heap[D+1]?=some (.loop (R .ready none))/\W.heap[D]?=some (.deferred (some [])))
   (λpre W=>∃k,Ix k pre W/\W.heap[D+1]?=some (.loop (R .done (some k)))/\W.heap[D]?=some (.deferred (some []))) V Zm ?_ ?_ ?_ ⟨hIV,vl,vd⟩).mono ?_
  ·rintro pre A B ⟨h1,h2,h3⟩ CO;exact⟨(hI pre).one A B h1 CO,Em h2 CO ae,Em h3 CO ae⟩
  ·rintro pre A B ⟨k,h1,h2,h3⟩ CO;exact⟨k,(vU k pre).one A B h1 CO,Em h2 CO ae,Em h3 CO ae⟩
  ·rintro pre x A ⟨hi,hl,hd⟩ dQ;refine⟨fn,_,assign,body,by have h:=run_yield (P:=P) (args:=encs x) hl (by rw[hR];exact LC x);rw[hR] at h;exact h,roundIn_of_wpIn U1 (lT _ pre x A _ hi dQ ?_)⟩;intro a1 A1 ko ab1 ac1 _ am;have al1:=ko.same _ _ hl rfl;have ad1:=ko.same _ _ hd rfl;refine⟨_,run_beginRound al1 (by rw[hR]),?_⟩;obtain⟨A2,yT⟩:∃A2,A1.putObj (D+1) (.loop {R .ready none with state:= .busy})=A2:=⟨_,rfl⟩
   have al:A2.heap[D+1]?=some (.loop {R .ready none with state:= .busy}):=by rw[<-yT];exact World.putObj_heap_same (kE al1)
   have ad:A2.heap[D]?=some (.deferred (some [])):=by rw[<-yT];exact(World.putObj_heap_other ae).trans ad1
   have ac:A2.heap[c]?=A.heap[c]?:=by rw[<-yT];exact(World.putObj_heap_other ae).trans ac1
   have ab:Below n0 A A2:=by rw[<-yT];exact ab1.trans (fM _ ae)
   have ai:M pre x a1 A2:=by rw[<-yT];exact(hM pre x a1).turn _ ae am al1 rfl
   rw[yT];refine wpIn_mono (wF _ pre x a1 A2 ai dQ) ?_;intro e a3 B hp
   cases e with
   |normal=>
    obtain⟨h1,h2,h3,h4⟩:=hp;have bl:=h1.same _ _ al rfl;have bd:=h1.same _ _ ad rfl;refine⟨_,_,run_endRound none bl,.inl ⟨rfl,⟨(hI _).turn _ ae h4 bl rfl,?_,(World.putObj_heap_other ae).trans bd⟩,(ab.trans h2).trans (fM _ ae),?_⟩⟩
    ·rw[oW B _ none bl,hR];rfl
    ·rw[World.putObj_heap_other ae,h3,ac]
   |ret=>
    obtain⟨h1,h4⟩:=hp;have bl:=h1.same _ _ al rfl;have bd:=h1.same _ _ ad rfl;refine⟨_,_,run_endRound (some .ret) bl,.inr ⟨rfl,.ret,(vU _ _).turn _ ae h4 bl rfl,?_,(World.putObj_heap_other ae).trans bd⟩⟩;rw[oW B _ (some .ret) bl,hR];rfl
   |exit id=>
    obtain⟨h1,h4⟩:=hp;have bl:=h1.same _ _ al rfl;have bd:=h1.same _ _ ad rfl;refine⟨_,_,run_endRound (some (.exit id)) bl,.inr ⟨rfl,.exit id,(vU _ _).turn _ ae h4 bl rfl,?_,(World.putObj_heap_other ae).trans bd⟩⟩;rw[oW B _ (some (.exit id)) bl,hR];rfl
   |goto t=>
    obtain⟨h1,h4⟩:=hp;have bl:=h1.same _ _ al rfl;have bd:=h1.same _ _ ad rfl;refine⟨_,_,run_endRound (some (.goto t)) bl,.inr ⟨rfl,.goto t,(vU _ _).turn _ ae h4 bl rfl,?_,(World.putObj_heap_other ae).trans bd⟩⟩;rw[oW B _ (some (.goto t)) bl,hR];rfl
   |panic ch=>exact hp.elim
   |outgrown=>exact hp.elim
  ·rintro e B ⟨⟨v,rfl⟩,h|⟨pre,dQ,k,h1,bl,bd⟩⟩
   ·obtain⟨h1,bl,bd⟩:=h;refine⟨none,_,by have h:=run_endLoop (P:=P) bl (by rw[hR];simp);rw[hR] at h;exact h,?_⟩;exact wG D _ ae ((hI _).turn _ ae h1 bl rfl) ((World.putObj_heap_other ae).trans bd)
   ·refine⟨some k,_,by have h:=run_endLoop (P:=P) bl (by rw[hR];simp);rw[hR] at h;exact h,?_⟩;exact AO D k pre _ ae dQ ((vU k pre).turn _ ae h1 bl rfl) ((World.putObj_heap_other ae).trans bd)
end
section
open Go.RowKit Go.Shelf

attribute [local go_sem] Oper.semAt_some

namespace Dir
def jX (nm:List UInt8):List (Nat×ny)->Int×Int
 |[]=>(-1,0)
 |x::t=>if x.2.nm=nm then((x.1:Int),x.2.i) else jX nm t
def bY (b nm:List UInt8):Int×Int:=jX nm (tX b)
theorem ES {nm:List UInt8} {l:List (Nat×ny)} (h:∀y∈l,y.2.nm≠nm):jX nm l=(-1,0):=by
 induction l with
 |nil=>rfl
 |cons x t ih=>
  rw[jX,if_neg (h x au),ih (λy hy=>h y (by simp[hy]))]
theorem Um {nm:List UInt8} {pre l:List (Nat×ny)} {x:Nat×ny} (hp:(pre++[x])<+:l) (h:∀y∈pre,y.2.nm≠nm) (hx:x.2.nm=nm):jX nm l=((x.1:Int),x.2.i):=by
 obtain⟨t,rfl⟩:=hp
 induction pre with
 |nil=>simp[jX,hx]
 |cons y r ih=>
  rw[List.cons_append,List.cons_append,jX,if_neg (h y au)];exact ih (λz hz=>h z (by simp[hz]))
end Dir
def aeI (H:Nat) (w:World) (nm:List UInt8) (pre:List (Nat×ny)) (W:World):Prop:=
 aF W H 9 #[.string (aJ nm)]/\aF W (H+1) 3 #[.int .i64 0]/\aF W (H+2) 3 #[.int .i64 0]/\Below H w W/\H+4<=W.heap.size/\(∀y∈pre,y.2.nm≠nm)
def ajN (H:Nat) (w:World) (r:Int×Int) (k:Code) (W:World):Prop:=
 aF W (H+1) 3 #[.int .i64 r.1]/\aF W (H+2) 3 #[.int .i64 r.2]/\Below H w W/\k= .ret
theorem ET (H:Nat) (w:World) (hw:H<=w.heap.size) (nm:List UInt8) (pre:List (Nat×ny)):df (H+3) (H+4) (aeI H w nm pre):=
 (aF.iZ ae).and ((aF.iZ ae).and ((aF.iZ ae).and ((lM ae ae hw).and (Ej.and (df.pure _)))))
theorem Un (H:Nat) (w:World) (hw:H<=w.heap.size) (r:Int×Int) (k:Code):df (H+3) (H+4) (ajN H w r k):=
 (aF.iZ ae).and ((aF.iZ ae).and ((lM ae ae hw).and (df.pure _)))
theorem VP (a:Option Addr) (n c:Nat) (w:World):
  Calls prog 150 #[.slice a n c] w λe w'=>e= .returned (.func (.func 211) #[] #[.pointer (some ⟨w.heap.size,0,none⟩)])/\w.alloc (.cells #[.slice a n c] 23)=w':=by
 go_in
 go_wp2;go_ret;exact⟨rfl,rfl⟩
def YS (a:Option Addr) (n c H:Nat) (nm:List UInt8) (x:Nat×ny) (g:Nat):Act:=
 {tmps:=#[.slice a n c,.string (aJ nm),undef,.pointer (some ⟨H,0,none⟩),.pointer (some ⟨H+1,0,none⟩),.pointer (some ⟨H+2,0,none⟩),.int .i64 (x.1:Int),.pointer (some ⟨g,0,none⟩),.slice a n c,.func (.func 211) #[] #[.pointer (some ⟨H+3,0,none⟩)],.int .i64 (x.1:Int),.agg #[.int .i64 x.2.i,.string (aJ x.2.nm)],undef,undef,undef,undef,undef,undef,undef],defers:=[]}
theorem qy (a:Option Addr) (n c:Nat) (b nm:List UInt8) (w:World) (hx:Bytes w w.heap.size a n b) (ve:n<=c):
  Calls prog 93 #[.slice a n c,.string (aJ nm)] w λe w'=>e= .returned (.tuple #[.int .i64 (Dir.bY b nm).1,.int .i64 (Dir.bY b nm).2])/\Below w.heap.size w w':=by
 refine callsIn_wide (n:=9)|>.1 ?_;refine callsIn_of_wp_marks Tryz.func93 rfl trivial ?_ rfl;refine wpIn_wide.2 ?_;simp only[Tryz.ntmps93,List.size_toArray,List.length_cons,List.length_nil,Nat.reduceAdd,Nat.reduceSub,Array.replicate_succ,Array.replicate_zero,List.push_toArray,List.append_toArray,List.nil_append,List.cons_append];go_wp2_with fail;refine(VP a n c _).mono ?_;rintro e w' ⟨rfl,rfl⟩;go_wp2;rw[show w.heap.size+1+1+1=w.heap.size+3 from rfl,show w.heap.size+1+1=w.heap.size+2 from rfl];have b3:=(((aF.new w 9 #[.string (aJ nm)]).alloc (.cells #[.int .i64 0] 3)).alloc (.cells #[.int .i64 0] 3)).alloc (.cells #[.slice a n c] 23);have b4:=((aF.new (w.alloc (.cells #[.string (aJ nm)] 9)) 3 #[.int .i64 0]).alloc (.cells #[.int .i64 0] 3)).alloc (.cells #[.slice a n c] 23);have b5:=(aF.new ((w.alloc (.cells #[.string (aJ nm)] 9)).alloc (.cells #[.int .i64 0] 3)) 3 #[.int .i64 0]).alloc (.cells #[.slice a n c] 23);have b6:=aF.new (((w.alloc (.cells #[.string (aJ nm)] 9)).alloc (.cells #[.int .i64 0] 3)).alloc (.cells #[.int .i64 0] 3)) 23 #[.slice a n c];have fF:Below w.heap.size w ((((w.alloc (.cells #[.string (aJ nm)] 9)).alloc (.cells #[.int .i64 0] 3)).alloc (.cells #[.int .i64 0] 3)).alloc (.cells #[.slice a n c] 23)):=((((Below.refl _ w).alloc (Nat.le_refl _) _).alloc au _).alloc (by simp;omega) _).alloc (by simp;omega) _;have ja:((((w.alloc (.cells #[.string (aJ nm)] 9)).alloc (.cells #[.int .i64 0] 3)).alloc (.cells #[.int .i64 0] 3)).alloc (.cells #[.slice a n c] 23)).heap.size=w.heap.size+4:=au;simp only[World.size_alloc] at b4 b5 b6;rw[show w.heap.size+1+1=w.heap.size+2 from rfl] at b5;rw[show w.heap.size+1+1+1=w.heap.size+3 from rfl] at b6;generalize (((w.alloc (.cells #[.string (aJ nm)] 9)).alloc (.cells #[.int .i64 0] 3)).alloc (.cells #[.int .i64 0] 3)).alloc (.cells #[.slice a n c] 23)=W0 at*;have mJ:=Md a n c b (w.heap.size+3) w.heap.size W0 ve (hx.below fF) b6 ae;have HNE:=ag (λpre x (h:(pre++[x])<+:Dir.tX b) (h1:∀y∈pre,y.2.nm≠nm) (h2:x.2.nm=nm)=>(show Dir.bY b nm=_ from Dir.Um h h1 h2));have HNO:=ag (λ(h1:∀y∈Dir.tX b,y.2.nm≠nm)=>(show Dir.bY b nm=_ from Dir.ES h1));refine wpIn_wide.1 (Hz (gf:=211) (lb:=#[.pointer (some ⟨w.heap.size+3,0,none⟩)]) (encs:=uH) (xs:=Dir.tX b) (c:=w.heap.size+3) (n0:=w.heap.size) (w0:=W0) rfl (enters_of Tryz.func211 az rfl) mJ (Below.refl _ _) ae ae (λ_=>rfl)
  (aeI w.heap.size w nm) (λk _=>ajN w.heap.size w (Dir.bY b nm) k) (λpre=>by rw[ja];exact ET _ w (Nat.le_refl _) nm pre) (λk pre=>by rw[ja];exact Un _ w (Nat.le_refl _) _ k)
  ⟨b3,b4,b5,fF,ae,au⟩
  (λpre x a1 W=>∃g,a1=YS a n c w.heap.size nm x g/\w.heap.size+4<=g/\aF W g 167 #[.int .i64 x.2.i,.string (aJ x.2.nm)]/\aeI w.heap.size w nm pre W) ?keeps ?assign ?body ?done ?stop)
 case keeps=>
  intro pre x a1;rw[ja];refine df.ex λg=>?_;by_cases hg:w.heap.size+4<=g
  ·exact(df.pure _).and ((df.pure _).and ((aF.iZ ae).and (ET _ w (Nat.le_refl _) nm pre)))
  ·intro W W' r h;exact absurd h.2.1 hg
 case assign=>
  intro lp pre x W K hi dQ hK;unfold uH;obtain⟨i3,i4,i5,i6,i7,i8⟩:=id hi
  gi_wp2
  refine hK _ _ (KeepsOthers.alloc _ _) ((Below.refl w.heap.size W).alloc ae _) (Below.heap_alloc _ _ _ ae) au ⟨W.heap.size,rfl,i7,aF.new _ _ _,i3.alloc _,i4.alloc _,i5.alloc _,i6.alloc ae _,by simp;omega,i8⟩
 case body=>
  rintro lp pre x a1 W ⟨g,rfl,hg,bg,b3,b4,b5,jD,hsW,hn⟩ dQ;unfold YS;obtain⟨k,i,xm⟩:=x;have e0:=bg.aj (i:=0) rfl;have e1:=bg.aj (i:=1) rfl;have c3:=b3.aj (i:=0) rfl;have c4:=b4.aj (i:=0) rfl;have c5:=b5.aj (i:=0) rfl;have f4:=b4.frozen 0;have f5:=b5.frozen 0;have HB:=ag jD;have HN:=ag hn;have B3:=ag b3;have B4:=ag b4;have B5:=ag b5;by_cases he:xm=nm
  ·have sG:=ag (HNE.o pre _ dQ hn he);subst he;have g1:(xm==xm)=true:=au;clear hn jD b3 b4 b5 bg
   gi_wp2
   gi_region
   all_goals
    gi_wp2
    have ko:=(fC W (w.heap.size+1) 0 (.int .i64 k)).trans (fC _ (w.heap.size+2) 0 (.int .i64 i));refine⟨⟨ko.size,ko.same⟩,?_,?_,((HB.o.setCell (p:=⟨w.heap.size+1,0,none⟩) au _).setCell (p:=⟨w.heap.size+2,0,none⟩) au _).drew,rfl⟩
    ·rw[sG.o];exact((B4.o.set 0 _).far au _).drew
    ·rw[sG.o];exact((B5.o.far au _).set 0 _).drew
  ·have g1:(xm==nm)=false:=by simpa using he
   have J5:=ag (show∀y∈pre++[(k,(⟨i,xm⟩:ny))],y.2.nm≠nm from by
    intro y hy;rw[List.mem_append] at hy;rcases hy with h|h
    ·exact hn y h
    ·rw[List.mem_singleton.1 h];exact he)
   clear hn jD b3 b4 b5 bg he
   gi_wp2
   exact⟨KeepsOthers.refl _,Below.refl _ _,rfl,B3.o,B4.o,B5.o,HB.o,hsW,J5.o⟩
 case done=>
  rintro D W hD ⟨b3,b4,b5,jD,hsW,hn⟩ hK;have sG:=ag (HNO.o hn);have HB:=ag jD;have B4:=ag b4;have B5:=ag b5;have c4:=b4.aj (i:=0) rfl;have c5:=b5.aj (i:=0) rfl;have f4:=b4.frozen 0;have f5:=b5.frozen 0;have hK2:∀u v,((W.setCell ⟨w.heap.size+1,0,none⟩ u).setCell ⟨w.heap.size+2,0,none⟩ v).heap[D]?=some (.deferred (some [])):=λu v=>by rw[heap_setCell_other _ _ _ _ (by simp;omega),heap_setCell_other _ _ _ _ (by simp;omega)];exact hK
  clear hn jD b3 b4 b5;go_wp2;refine⟨au,.inl ⟨_,_,rfl,run_takeDeferred (hK2 _ _),?_⟩⟩;have z4:=((aF.iZ (c:=w.heap.size) (B:=0) ae) _ _ D ((B4.o.set 0 (.int .i64 (-1))).far (p:=⟨w.heap.size+2,0,none⟩) au (.int .i64 0)) (grownBy_putObj' _ D (.deferred none)) (.inr ⟨ae,_,hK2 _ _,rfl⟩):aF _ _ _ _).aj (i:=0) rfl;have z5:=((aF.iZ (c:=w.heap.size) (B:=0) ae) _ _ D ((B5.o.far (p:=⟨w.heap.size+1,0,none⟩) au (.int .i64 (-1))).set 0 (.int .i64 0)) (grownBy_putObj' _ D (.deferred none)) (.inr ⟨ae,_,hK2 _ _,rfl⟩):aF _ _ _ _).aj (i:=0) rfl;have gI:=((HB.o.setCell (p:=⟨w.heap.size+1,0,none⟩) au (.int .i64 (-1))).setCell (p:=⟨w.heap.size+2,0,none⟩) au (.int .i64 0)).trans (fM (l:=D) (.deferred none) ae);refine⟨_,by simp[results,Tryz.results93,go_sem,z4,z5];rfl,by rw[sG.o],gI⟩
 case stop=>rintro D k pre W hD _ ⟨b4,b5,jD,rfl⟩ hK;have HB:=ag jD;have c4:=b4.aj (i:=0) rfl;have c5:=b5.aj (i:=0) rfl;have B4:=ag b4;have B5:=ag b5;clear jD b4 b5;refine wpIn_wide.2 ?_;go_wp2;refine⟨au,.inl ⟨_,_,rfl,run_takeDeferred hK,?_⟩⟩;have z4:=((aF.iZ (c:=w.heap.size) (B:=0) ae) _ _ D B4.o (grownBy_putObj' _ D (.deferred none)) (.inr ⟨ae,_,hK,rfl⟩):aF _ _ _ _).aj (i:=0) rfl;have z5:=((aF.iZ (c:=w.heap.size) (B:=0) ae) _ _ D B5.o (grownBy_putObj' _ D (.deferred none)) (.inr ⟨ae,_,hK,rfl⟩):aF _ _ _ _).aj (i:=0) rfl;refine⟨_,by simp[results,Tryz.results93,go_sem,z4,z5],rfl,HB.o.trans (fM _ ae)⟩
end
section
open Go.RowKit

namespace Dir
theorem Xr {b:List UInt8} (h:jQ b=true):wL b=0:=by unfold wL;rw[if_pos h]
theorem aaR {b:List UInt8} {k:Nat} {x:Nat×ny} (h:x∈dI b k):x.1<k:=by
 induction k with
 |zero=>cases h
 |succ k ih=>
  rw[dI] at h;split at h
  ·rw[List.mem_append] at h;rcases h with h|h
   ·have:=ih h;omega
   ·rw[List.mem_singleton] at h;subst h;simp
  ·have:=ih h;omega
theorem Ji {nm:List UInt8} {l:List (Nat×ny)} (h:0<=(jX nm l).1):∃x∈l,jX nm l=((x.1:Int),x.2.i)/\x.2.nm=nm:=by
 induction l with
 |nil=>simp[jX] at h
 |cons x t ih=>
  rw[jX] at h⊢
  split
  ·rename_i he;exact⟨x,au,rfl,he⟩
  ·rename_i he;rw[if_neg he] at h;obtain⟨y,hy,h1⟩:=ih h;exact⟨y,by simp[hy],h1⟩
theorem Nu {b nm:List UInt8} (h:0<=(bY b nm).1):∃k:Nat,(bY b nm).1=k/\k<cnt b:=by obtain⟨x,hx,h1,_⟩:=Ji (l:=tX b) h;exact⟨x.1,by unfold bY;rw[h1],aaR hx⟩
theorem Nv {b nm:List UInt8} (h:¬0<=(bY b nm).1):(bY b nm).1= -1:=by
 unfold bY at h⊢;have:∀l:List (Nat×ny),¬0<=(jX nm l).1->(jX nm l).1= -1:=by
  intro l
  induction l with
  |nil=>intro _;rfl
  |cons x t ih=>
   intro h;rw[jX] at h⊢
   split
   ·rename_i he;rw[if_pos he] at h;simp at h
   ·rename_i he;rw[if_neg he] at h;exact ih h
 exact this _ h
def iK (b nm:List UInt8):Int:=if jQ b=true then(if 0<=(bY b nm).1 then 0 else 60) else 50
def fU (b nm:List UInt8):Nat:=if iK b nm=0 then(bY b nm).1.toNat else 0
def QW (b:List UInt8) (e:ny):Int:=if jQ b=true then(if aY e=0 then(if 0<=(bY b e.nm).1 then 61 else 0) else aY e) else 50
def bC (b:List UInt8) (k:Nat) (s:List UInt8):List UInt8:=b.take (16*k)++s++b.drop (16*k+16)
def uC (b:List UInt8) (e:ny) (r:Nat):List UInt8:=if r=cnt b then b++slotL e else bC b r (slotL e)
end Dir
theorem Uo (a:Option Addr) (n c:Nat) (b nm:List UInt8) (w:World) (hx:Bytes w w.heap.size a n b) (ve:n<=c):
  Calls prog 159 #[.slice a n c,.string (aJ nm)] w λe w'=>e= .returned (.tuple #[.int .i64 (Dir.fU b nm:Nat),.int .i64 (Dir.iK b nm)])/\Below w.heap.size w w':=by
 have HC:=ag (Et a n c b w hx ve);have HF:=ag (λW (hb:Below w.heap.size w W)=>qy a n c b nm W (hx.on hb) ve)
 cases hg:Dir.jQ b
 ·have hE:Dir.iK b nm=50:=by unfold Dir.iK;rw[hg];rfl
  have hK:Dir.fU b nm=0:=by unfold Dir.fU;rw[hE];rfl
  have HE:=ag hE;have HK:=ag hK;rw[Dir.DY hg] at HC;clear hx hE hK hg HF
  go_in
  go_wp2_with fail;refine HC.o.mono ?_;rintro e w1 ⟨rfl,hb⟩;have HB:=ag hb;clear hb;go_wp2;go_ret2;exact⟨by rw[HE.o,HK.o];rfl,HB.o⟩
 rw[Dir.Xr hg] at HC;by_cases hf:0<=(Dir.bY b nm).1
 ·obtain⟨k,hk,_⟩:=Dir.Nu hf;have hE:Dir.iK b nm=0:=by unfold Dir.iK;rw[if_pos hg,if_pos hf]
  have hK:Dir.fU b nm=k:=by unfold Dir.fU;rw[if_pos hE,hk];rfl
  have HE:=ag hE;have HK:=ag hK;rw[hk] at HF;clear hx hE hK hg hk hf;generalize (Dir.bY b nm).2=z at*
  go_in
  go_wp2_with fail;refine HC.o.mono ?_;rintro e w1 ⟨rfl,hb⟩;have HB:=ag hb;clear hb;go_wp2_with fail;refine(HF.o _ HB.o).mono ?_;rintro e w2 ⟨rfl,hb⟩;have dA:=ag (HB.o.ay hb);clear hb;go_wp2;go_ret2;exact⟨by rw[HE.o,HK.o];rfl,dA.o⟩
 ·have hk:=Dir.Nv hf;have hE:Dir.iK b nm=60:=by unfold Dir.iK;rw[if_pos hg,if_neg hf]
  have hK:Dir.fU b nm=0:=by unfold Dir.fU;rw[hE];rfl
  have HE:=ag hE;have HK:=ag hK;rw[hk] at HF;clear hx hE hK hg hk hf;generalize (Dir.bY b nm).2=z at*
  go_in
  go_wp2_with fail;refine HC.o.mono ?_;rintro e w1 ⟨rfl,hb⟩;have HB:=ag hb;clear hb;go_wp2_with fail;refine(HF.o _ HB.o).mono ?_;rintro e w2 ⟨rfl,hb⟩;have dA:=ag (HB.o.ay hb);clear hb;go_wp2;go_ret2;exact⟨by rw[HE.o,HK.o];rfl,dA.o⟩
end
section
open Go.RowKit

theorem Own.take {α:Type} {f:α->Value} {e:TypeId} {w:World} {base g n c:Nat} {xs:List α} (h:Own f e w base (.slice (some ⟨g,0,none⟩) n c) xs) {k:Nat} (hk:k<=n):Own f e w base (.slice (some ⟨g,0,none⟩) k c) (xs.take k):=by
 rcases h.2 with⟨hv,_⟩|⟨g',cap,cur,hv,jr,hg,hc,hm,hs,ht⟩
 ·cases hv
 ·injection hv with h1 h2 h3
  injection h1 with h1
  injection h1 with h1
  subst h1 h3;have hl:(xs.take k).length=k:=by rw[List.length_take];omega
  refine⟨au,.inr ⟨g,c,cur,by rw[hl],jr,hg,ae,hm,hs,?_⟩⟩;rw[hl,List.map_take,<-ht,List.take_take]
  congr 1
  omega
namespace Dir
def gU (b:List UInt8):Nat->List UInt8
 |0=>[]
 |m+1=>if tN (bD b m)=true then gU b m else b.take (16*(m+1))
def zeros:List UInt8:=List.replicate 16 0
def jb (b nm:List UInt8):List UInt8:=gU (bC b (fU b nm) zeros) (cnt b)
theorem named_ok {b nm:List UInt8} (h:iK b nm=0):jQ b=true/\0<=(bY b nm).1/\(bY b nm).1=(fU b nm:Nat)/\fU b nm<cnt b:=by
 have h0:=h;unfold iK at h;split at h
 ·rename_i hg;split at h
  ·rename_i hf;obtain⟨k,hk,aU⟩:=Nu hf;have:fU b nm=k:=by unfold fU;rw[if_pos h0,hk];rfl
   exact⟨hg,hf,by rw[this,hk],by rw[this];exact aU⟩
  ·cases h
 ·cases h
theorem Ur {b:List UInt8} (h:jQ b=true):b.length=16*cnt b:=by rw[jQ,Bool.and_eq_true,Bool.and_eq_true] at h;have:=of_decide_eq_true h.1.1;unfold cnt;omega
theorem nz {b s:List UInt8} {k:Nat} (hk:k<cnt b) (hs:s.length=16):(bC b k s).length=b.length:=by unfold cnt at hk;unfold bC;simp only[List.length_append,List.length_take,List.length_drop,hs];omega
theorem Eh {b:List UInt8} {k m:Nat} (h:k<m):bD (b.take (16*m)) k=bD b k:=by
 unfold bD;rw[List.drop_take,List.take_take]
 congr 1
 omega
end Dir
def YT (b nm:List UInt8) (w:World) (x:Ending) (w':World):Prop:=
 (∃v xs,x= .returned (.tuple #[v,.int .i64 (Dir.iK b nm)])/\Own aH 5 w' w.heap.size v xs/\(Dir.iK b nm=0->xs=Dir.jb b nm)/\(Dir.iK b nm≠0->xs=[]))/\Below w.heap.size w w'
theorem P6 (a:Option Addr) (n c:Nat) (b nm:List UInt8) (w:World) (hx:Bytes w w.heap.size a n b) (ve:n<=c) (hn:n<=100000):
  Calls prog 107 #[.slice a n c,.string (aJ nm)] w (YT b nm w):=by
 have HN:=ag (Uo a n c b nm w hx ve);have HX:=ag hx;have HL:=ag hx.len;have yV:=hx.room;clear hx;unfold YT;by_cases hE:Dir.iK b nm=0
 case neg=>
  have hr:=ag hE;generalize Dir.iK b nm=E at*;have g1:(E==0)=false:=by simpa using hE
  have g2:(E !=0)=true:=by simpa using hE
  clear hE
  go_in
  go_wp2_with fail;refine HN.o.mono ?_;rintro e w1 ⟨rfl,hb⟩;have HB:=ag hb;clear hb;go_wp2;go_ret2;exact⟨⟨_,[],rfl,Own.nil _ _,λh=>absurd h hr.o,λ_=>rfl⟩,HB.o⟩
 obtain⟨hg,hf,hk,aU⟩:=Dir.named_ok hE;have hlen:=Dir.Ur hg;have hr:=ag (show Dir.jb b nm=Dir.gU (Dir.bC b (Dir.fU b nm) Dir.zeros) (Dir.cnt b) from rfl);have oh:=Dir.nz (s:=Dir.zeros) aU (by simp[Dir.zeros]);have LC:=ag (show b.take (16*Dir.fU b nm)++List.replicate 16 0++b.drop (16*Dir.fU b nm+16)=Dir.bC b (Dir.fU b nm) Dir.zeros from rfl);rw[hE] at HN⊢;generalize Dir.fU b nm=k at*;generalize Dir.jb b nm=T at*;generalize Dir.bC b k Dir.zeros=b1 at*;generalize Dir.cnt b=S at*;have hnS:n=16*S:=by rw[<-HL.o];exact hlen
 rw[HL.o] at oh;have HPL:=ag oh;have HNS:=ag hnS;have bJ:0<S:=ae;have HSN:=ag (show n/16=S by omega);have aoB:16<=n:=ae;have hkb:=ag (show k<n/16/\16*k+16<=n by omega);clear hE hg hf hk hlen oh hnS
 go_in
 go_wp2_with fail;refine HN.o.mono ?_;rintro e w1 ⟨rfl,hb⟩;have dw:=ag hb;have F8:=ag (HX.o.on hb);clear hb;go_wp2_with fail;refine(ig a n c b _ F8.o).mono ?_;rintro e w2 ⟨⟨v2,rfl,ho⟩,hb⟩;obtain⟨a2,c2,rfl,F6⟩:=ho.bZ (n:=n) HL.o;obtain⟨g,rfl,jr,_⟩:=ho.addr (by rw[HL.o];omega);have dA:=ag (dw.o.ay hb);have ad8:=dw.o.size;have axC:=hb.size;have eQ:=ag (mO (some ⟨g,0,none⟩) n c2 k b w2 (ho.arr (by rw[HL.o];omega)) F6 hkb.o.1);have yS:=ag (ho.mono ad8);clear hb ho;go_wp2_with fail;refine eQ.o.mono ?_;rintro e w_ ⟨⟨a6,c6,rfl,ZJ,ha6,_⟩,rfl⟩;obtain⟨w3,bP,OZ,bQ⟩:=Xa (dl:=16) (dc:=c6) ha6 yS.o hkb.o.2 ae;rw[LC.o] at OZ;have rf:=ag OZ;have dE:=ag (dA.o.trans bQ);clear ha6 OZ bQ;go_wp2_with fail;refine(nI _ n c2 _ ae).mono ?_;rintro e w_ ⟨rfl,rfl⟩;rw[HSN.o];go_wp2_with fail
 go_loop [8,9] (λo i=>∃m:Nat,m<=S/\i= .int .i64 m/\o= .slice (some ⟨g,0,none⟩) (16*m) c2/\T=Dir.gU b1 m) (λ_ i=>(intOf i).toNat)
 case atStart=>exact⟨S,Nat.le_refl _,rfl,by rw[<-HNS.o],hr.o⟩
 case round=>
  obtain⟨m,hm,rfl,rfl,hT⟩:=hrel;have HT:=ag hT;clear hT;have HOm:=ag (rf.o.take (k:=16*m) (by have:=HNS.o;omega))
  cases m with
  |zero=>
   go_wp2;go_ret2;have h:=HOm.o;rw[Nat.mul_zero,List.take_zero] at h;have ht:=HT.o;rw[show Dir.gU b1 0=[] from rfl] at ht
   first
    |exact⟨⟨_,[],rfl,h,λ_=>ht.symm,λh=>absurd rfl h⟩,dE.o⟩
    |exact⟨⟨_,rfl,by rw[ht];exact h⟩,dE.o⟩
  |succ m=>
   have Jy:(b1.take (16*(m+1))).length=16*(m+1):=by rw[List.length_take,HPL.o];have:=HNS.o;omega
   have amK:=mO (some ⟨g,0,none⟩) (16*(m+1)) c2 m (b1.take (16*(m+1))) w3 (HOm.o.arr (by rw[Jy];have:=HNS.o;omega)) (by have:=HNS.o;omega) ae;rw[Dir.Eh ae] at amK;have HST:=ag amK;have HTR:=ag (show Dir.gU b1 (m+1)=if Dir.tN (Dir.bD b1 m)=true then Dir.gU b1 m else b1.take (16*(m+1)) from rfl);have Vf:m<=100000:=by have:=HNS.o;omega
   have g2:decide ((0:Int)<((m+1:Nat):Int))=true:=decide_eq_true ae;clear amK Jy;go_wp2_with fail;refine HST.o.mono ?_;rintro e w_ ⟨⟨a7,c7,rfl,hc7,ha7,hy⟩,rfl⟩;have HEM:=ag (nD a7 16 c7 _ w3 hy);clear ha7 hy
   cases hz:Dir.tN (Dir.bD b1 m)
   ·rw[hz] at HEM HTR;have htr:=ag (show Dir.gU b1 (m+1)=b1.take (16*(m+1)) from HTR.o);clear hz;go_wp2_with fail;refine HEM.o.mono ?_;rintro e w_ ⟨rfl,rfl⟩;go_wp2;go_ret2;exact⟨⟨_,b1.take (16*(m+1)),rfl,HOm.o,λ_=>by rw[HT.o,htr.o],λh=>absurd rfl h⟩,dE.o⟩
   ·rw[hz] at HEM HTR;have htr:=ag (show Dir.gU b1 (m+1)=Dir.gU b1 m from HTR.o);have hcut:=Oq (some ⟨g,0,none⟩) (16*(m+1)) c2 (16*m) (by have:=HNS.o;omega);rw[show((16*m:Nat):Int)=(m:Int)*16 by omega] at hcut;have q1:IntKind.i64.wrap ((m:Int)*16)=(m:Int)*16:=IntWalk.i64_in _ ⟨ae,by have:=HNS.o;omega⟩;clear hz;go_wp2_with fail;refine HEM.o.mono ?_;rintro e w_ ⟨rfl,rfl⟩;go_wp2;exact⟨⟨m,ae,rfl,rfl,by rw[HT.o,htr.o]⟩,by simp[intOf]⟩
end
section

namespace Dir
def used (b:List UInt8) (k:Nat):Prop:=(rd b k).2.1=true
def lu (b:List UInt8) (k:Nat):List UInt8:=(rd b k).1.nm
theorem mem_seen {b:List UInt8} {k:Nat} {nm:List UInt8}:nm∈seen b k↔∃j,j<k/\used b j/\lu b j=nm:=by
 induction k with
 |zero=>simp[seen]
 |succ k ih=>
  rw[seen];by_cases h:(rd b k).2.1=true
  ·rw[if_pos h,List.mem_append,ih,List.mem_singleton];constructor
   ·rintro(⟨j,h1,h2,h3⟩|h1)
    ·exact⟨j,ae,h2,h3⟩
    ·exact⟨k,ae,h,h1.symm⟩
   ·rintro⟨j,h1,h2,h3⟩;by_cases hj:j=k
    ·subst hj;exact .inr h3.symm
    ·exact .inl ⟨j,ae,h2,h3⟩
  ·rw[if_neg h,ih];constructor
   ·rintro⟨j,h1,h2,h3⟩;exact⟨j,ae,h2,h3⟩
   ·rintro⟨j,h1,h2,h3⟩;by_cases hj:j=k
    ·subst hj;exact absurd h2 h
    ·exact⟨j,ae,h2,h3⟩
theorem Jj {b:List UInt8} {k:Nat}:Us b k=true↔(rd b k).2.2=0/\(used b k->∀j,j<k->used b j->lu b j≠lu b k):=by
 unfold Us;rw[Bool.and_eq_true,decide_eq_true_iff];refine and_congr_right λ_=>?_
 cases h:(rd b k).2.1
 ·constructor
  ·intro _ hu;unfold used at hu;rw[h] at hu;cases hu
  ·intro _;rfl
 ·rw[Bool.true_and,Bool.not_eq_true'];have hm:=mem_seen (b:=b) (k:=k) (nm:=lu b k);constructor
  ·intro hc _ j hj hu he;have:=hm.2 ⟨j,hj,hu,he⟩;have h2:(seen b k).contains (rd b k).1.nm=true:=by rw[List.contains_iff_mem];exact this
   rw[hc] at h2;cases h2
  ·intro Ha
   cases hc:(seen b k).contains (rd b k).1.nm
   ·rfl
   ·rw[List.contains_iff_mem] at hc;obtain⟨j,h1,h2,h3⟩:=hm.1 hc;exact absurd h3 (Ha h j h1 h2)
theorem Ut {b:List UInt8} {m:Nat}:yH b m=true↔∀k,k<m->Us b k=true:=by
 induction m with
 |zero=>simp[yH]
 |succ m ih=>
  rw[yH,Bool.and_eq_true,ih];constructor
  ·rintro⟨h1,h2⟩ k hk;by_cases h:k=m
   ·subst h;exact h2
   ·exact h1 k ae
  ·intro h;exact⟨λk hk=>h k ae,h m ae⟩
structure Good (b:List UInt8):Prop where
 len:b.length=16*cnt b
 err:∀k,k<cnt b->(rd b k).2.2=0
 apart:∀j k,j<k->k<cnt b->used b j->used b k->lu b j≠lu b k
 last:cnt b=0\/used b (cnt b-1)
theorem lJ {b:List UInt8}:jQ b=true↔Good b:=by
 constructor
 ·intro h;have hl:=Ur h;rw[jQ,Bool.and_eq_true,Bool.and_eq_true,Ut] at h;obtain⟨⟨_,h2⟩,h3⟩:=h;refine⟨hl,λk hk=>(Jj.1 (h2 k hk)).1,λj k hj hk hu hv=>(Jj.1 (h2 k hk)).2 hv j hj hu,?_⟩;unfold Jk at h3;rw[Bool.or_eq_true,decide_eq_true_iff] at h3;exact h3
 ·intro h;rw[jQ,Bool.and_eq_true,Bool.and_eq_true,Ut];refine⟨⟨decide_eq_true (by have:=h.len;omega),λk hk=>Jj.2 ⟨h.err k hk,λhv j hj hu=>h.apart j k hj hk hu hv⟩⟩,?_⟩;unfold Jk;rw[Bool.or_eq_true,decide_eq_true_iff];exact h.last
theorem zV {b:List UInt8} {m:Nat} {x:Nat×ny}:x∈dI b m↔x.1<m/\used b x.1/\x.2=(rd b x.1).1:=by
 induction m with
 |zero=>simp[dI]
 |succ m ih=>
  rw[dI];by_cases h:(rd b m).2.1=true
  ·rw[if_pos h,List.mem_append,ih,List.mem_singleton];constructor
   ·rintro(⟨h1,h2,h3⟩|h1)
    ·exact⟨ae,h2,h3⟩
    ·subst h1;exact⟨au,h,rfl⟩
   ·rintro⟨h1,h2,h3⟩;by_cases hj:x.1=m
    ·obtain⟨k,y⟩:=x;simp only at hj h3;subst hj;exact .inr (by rw[h3])
    ·exact .inl ⟨ae,h2,h3⟩
  ·rw[if_neg h,ih];constructor
   ·rintro⟨h1,h2,h3⟩;exact⟨ae,h2,h3⟩
   ·rintro⟨h1,h2,h3⟩;by_cases hj:x.1=m
    ·rw[hj] at h2;exact absurd h2 h
    ·exact⟨ae,h2,h3⟩
theorem X4 {b nm:List UInt8} (h:0<=(bY b nm).1):∃k,k<cnt b/\used b k/\lu b k=nm/\bY b nm=((k:Int),(rd b k).1.i):=by obtain⟨x,hx,h1,h2⟩:=Ji (l:=tX b) h;obtain⟨q1,q2,q3⟩:=zV.1 hx;exact⟨x.1,q1,q2,by unfold lu;rw[<-q3];exact h2,by unfold bY;rw[h1,q3]⟩
theorem AA {b nm:List UInt8} (h:∀k,k<cnt b->used b k->lu b k≠nm):bY b nm=(-1,0):=
 ES λy hy=>by obtain⟨q1,q2,q3⟩:=zV.1 hy;rw[q3];exact h y.1 q1 q2
theorem xR {b nm:List UInt8} (hg:Good b) {k:Nat} (hk:k<cnt b) (hu:used b k) (hn:lu b k=nm):bY b nm=((k:Int),(rd b k).1.i):=by
 have h0:0<=(bY b nm).1:=by
  by_cases h:0<=(bY b nm).1
  ·exact h
  ·exfalso;have hm:(k,(rd b k).1)∈tX b:=zV.2 ⟨hk,hu,rfl⟩;have aaE:=Nv h;have:∀l:List (Nat×ny),(k,(rd b k).1)∈l->0<=(jX nm l).1:=by
    intro l
    induction l with
    |nil=>intro h;cases h
    |cons x t ih=>
     intro hm;rw[jX]
     split
     ·simp
     ·rename_i dh;rcases List.mem_cons.1 hm with h|h
      ·subst h;exact absurd hn dh
      ·exact ih h
   exact h (this _ hm)
 obtain⟨j,h1,h2,h3,h4⟩:=X4 h0;have:j=k:=by
  rcases Nat.lt_trichotomy j k with h|h|h
  ·exact absurd (h3.trans hn.symm) (hg.apart j k h hk h2 hu)
  ·exact h
  ·exact absurd (hn.trans h3.symm) (hg.apart k j h h1 hu h2)
 subst this;exact h4
theorem sD {b:List UInt8} {k:Nat} (h:used b k):tN (bD b k)=false:=by
 cases hz:tN (bD b k)
 ·rfl
 ·have hr:(gK (bD b k)).2.1=false:=by
   unfold gK;by_cases hl:(bD b k).length≠16
   ·rw[if_pos hl]
   ·rw[if_neg hl,if_pos hz]
  unfold used rd at h;rw[hr] at h;cases h
theorem Xt {b:List UInt8} {k:Nat} (h:k<cnt b):(bD b k).length=16:=by unfold cnt at h;unfold bD;rw[List.length_take,List.length_drop];omega
theorem QU {b s:List UInt8} {r:Nat} (h:r<cnt b) (hs:s.length=16):bD (bC b r s) r=s:=by unfold cnt at h;unfold bD bC;rw[List.append_assoc,List.drop_left' (by rw[List.length_take];omega),List.take_left' hs]
theorem Dj {b s:List UInt8} {r j:Nat} (h:r<cnt b) (hs:s.length=16) (hj:j<cnt b) (dh:j≠r):bD (bC b r s) j=bD b j:=by
 unfold cnt at h hj;apply List.ext_getElem?;intro i;unfold bD bC;rw[List.getElem?_take,List.getElem?_take]
 split
 ·rename_i hi;rw[List.getElem?_drop,List.getElem?_drop];rcases Nat.lt_or_ge j r with aU|Fb
  ·rw[List.append_assoc,List.getElem?_append_left (by rw[List.length_take];omega),List.getElem?_take,if_pos ae]
  ·rw[List.getElem?_append_right (by simp only[List.length_append,List.length_take,hs];omega),List.getElem?_drop]
   congr 1
   simp only[List.length_append,List.length_take,hs];omega
 ·rfl
theorem aim {b s t:List UInt8} {r:Nat} (h:r<cnt b) (hs:s.length=16):bC (bC b r s) r t=bC b r t:=by
 unfold cnt at h;have h1:(bC b r s).take (16*r)=b.take (16*r):=by unfold bC;rw[List.append_assoc,List.take_left' (by rw[List.length_take];omega)]
 have h2:(bC b r s).drop (16*r+16)=b.drop (16*r+16):=by unfold bC;rw[List.drop_left' (by simp only[List.length_append,List.length_take,hs];omega)]
 show(bC b r s).take (16*r)++t++(bC b r s).drop (16*r+16)=_;rw[h1,h2];rfl
theorem aeJ (b:List UInt8) (r:Nat):bC b r (bD b r)=b:=by unfold bC bD;rw[List.append_assoc,<-List.drop_drop,List.take_append_drop,List.take_append_drop]
theorem aeK {b s:List UInt8} (hb:b.length=16*cnt b) (hs:s.length=16):cnt (b++s)=cnt b+1/\bD (b++s) (cnt b)=s/\(∀j,j<cnt b->bD (b++s) j=bD b j)/\(∀t,bC (b++s) (cnt b) t=b++t):=by
 refine⟨by unfold cnt;rw[List.length_append,hs];omega,?_,λj hj=>?_,λt=>?_⟩
 ·unfold bD;rw[List.drop_left' hb,List.take_of_length_le ae]
 ·unfold bD;rw[List.drop_append_of_le_length ae,List.take_append_of_le_length (by rw[List.length_drop];omega)]
 ·unfold bC;rw[List.take_left' hb,List.drop_of_length_le (by rw[List.length_append,hs,hb];omega),List.append_nil]
theorem aaS {s:List UInt8} (hl:s.length=16) (h:tN s=true):s=zeros:=by rw[agC,hl] at h;exact h
theorem Nw {b:List UInt8} (hg:Good b):gU b (cnt b)=b:=by
 cases hc:cnt b with
 |zero=>
  have hl:=hg.len;rw[hc] at hl;exact(List.eq_nil_of_length_eq_zero hl).symm
 |succ m=>
  have hu:used b m:=by
   rcases hg.last with h|h
   ·omega
   ·rw[hc,Nat.add_sub_cancel] at h;exact h
  rw[gU,if_neg (by rw[sD hu];simp),List.take_of_length_le (by rw[hg.len,hc];omega)]
end Dir
end
section
open Go.RowKit

namespace Dir
structure Added (b:List UInt8) (e:ny) (r:Nat) (x:List UInt8):Prop where
 good:Good x
 new:rd x r=(e,true,0)
 here:r<cnt x
 old:∀j,j<cnt b->j≠r->rd x j=rd b j
 cnt:∀j,j<cnt x->j<cnt b\/j=r
 back:gU (bC x r zeros) (Dir.cnt x)=b
 more:Dir.cnt b<=Dir.cnt x
theorem sF {b:List UInt8} {r:Nat} (h:tN (bD b r)=true):¬used b r:=λhu=>by rw[sD hu] at h;cases h
theorem YU {b:List UInt8} {e:ny} (h:QW b e=0):Good b/\aY e=0/\∀k,k<cnt b->used b k->lu b k≠e.nm:=by
 unfold QW at h;split at h
 ·rename_i hg;split at h
  ·rename_i hw;split at h
   ·cases h
   ·rename_i hf;refine⟨lJ.1 hg,hw,λk hk hu hn=>hf ?_⟩;rw[xR (lJ.1 hg) hk hu hn];simp
  ·rename_i hw;exact absurd h hw
 ·cases h
theorem added {b:List UInt8} {e:ny} {r:Nat} (h:QW b e=0) (hr:uB b r):Added b e r (uC b e r):=by
 obtain⟨hg,hw,hn⟩:=YU h;have hs:=tV e (kT ((jB e).1 hw).2).2;have xZ:=G6 e hw;by_cases hc:r=cnt b
 ·have hx:uC b e r=b++slotL e:=if_pos hc;rw[hx];obtain⟨q1,q2,q3,q4⟩:=aeK hg.len hs;have n1:rd (b++slotL e) r=(e,true,0):=by unfold rd;rw[hc,q2];exact xZ
  have n2:∀j,j<cnt b->rd (b++slotL e) j=rd b j:=λj hj=>by unfold rd;rw[q3 j hj]
  refine⟨⟨by rw[q1,List.length_append,hs,hg.len];omega,λk hk=>?_,λj k hj hk hu hv=>?_,.inr ?_⟩,n1,ae,λj hj _=>n2 j hj,λj hj=>ae,?_,ae⟩
  ·by_cases yF:k=r
   ·rw[yF,n1]
   ·rw[n2 k ae];exact hg.err k ae
  ·by_cases yF:k=r
   ·subst yF;unfold lu;rw[n1,n2 j ae];unfold used at hu;rw[n2 j ae] at hu;exact hn j ae hu
   ·unfold used lu at*;rw[n2 j ae] at hu⊢;rw[n2 k ae] at hv⊢;exact hg.apart j k hj ae hu hv
  ·unfold used;rw[show cnt (b++slotL e)-1=r by omega,n1]
  ·rw[hc,q4,q1];have hz:=aeK (s:=zeros) hg.len (by simp[zeros]);rw[gU,if_pos (by rw[hz.2.1];exact X6 16)];have ht:∀m,m<=cnt b->gU (b++zeros) m=gU b m:=by
    intro m
    induction m with
    |zero=>intro _;rfl
    |succ m ih=>
     intro hm;rw[gU,gU,hz.2.2.1 m ae,ih ae]
     split
     ·rfl
     ·rw[List.take_append_of_le_length (by have:=hg.len;omega)]
   rw[ht _ (Nat.le_refl _)];exact Nw hg
 ·have hx:uC b e r=bC b r (slotL e):=if_neg hc;rw[hx];have hrl:r<cnt b:=by have:=hr.2.1;omega
  have hz:=hr.2.2 hrl;have hcn:cnt (bC b r (slotL e))=cnt b:=by unfold cnt;rw[nz hrl hs]
  have n1:rd (bC b r (slotL e)) r=(e,true,0):=by unfold rd;rw[QU hrl hs];exact xZ
  have n2:∀j,j<cnt b->j≠r->rd (bC b r (slotL e)) j=rd b j:=λj hj dh=>by unfold rd;rw[Dj hrl hs hj dh]
  refine⟨⟨by rw[nz hrl hs,hcn];exact hg.len,λk hk=>?_,λj k hj hk hu hv=>?_,.inr ?_⟩,n1,ae,n2,λj hj=>ae,?_,ae⟩
  ·by_cases yF:k=r
   ·rw[yF,n1]
   ·rw[n2 k ae yF];exact hg.err k ae
  ·by_cases yF:k=r
   ·subst yF;unfold lu;rw[n1,n2 j ae ae];unfold used at hu;rw[n2 j ae ae] at hu;exact hn j ae hu
   ·by_cases hjr:j=r
    ·subst hjr;unfold lu;rw[n1,n2 k ae yF];unfold used at hv;rw[n2 k ae yF] at hv;exact λhe=>hn k ae hv he.symm
    ·unfold used lu at*;rw[n2 j ae hjr] at hu⊢;rw[n2 k ae yF] at hv⊢;exact hg.apart j k hj ae hu hv
  ·rw[hcn];by_cases hlr:cnt b-1=r
   ·unfold used;rw[hlr,n1]
   ·unfold used;rw[n2 _ ae hlr];rcases hg.last with h|h
    ·omega
    ·exact h
  ·rw[aim hrl hs,hcn];have ja:=aaS (Xt hrl) hz;rw[<-ja,aeJ];exact Nw hg
end Dir
end
end Go.Proofs.YtnieckfelfoopaaGreat

import Derived.RangeFuncWrites
import Derived.RangeFuncFrom
import Derived.RangeFuncCalls
import Derived.RangeFuncLeaves
import Derived.RangeFuncBound
import Derived.OwnWalkIn
import Derived.TacticsInMore
import Derived.LoopNIn
import Derived.LoopIn
import Derived.WalkMore
import Derived.Test.YtnieckfelfoopaaGreatRows
import Derived.Test.YtnieckfelfoopaaGreatSlClone
import Derived.TacticsIn
import Derived.Lib.Strings
import Derived.Lib.SlicesS
import Derived.Deep.QuietTactic
import Derived.BigQuiet
open Go.Proofs.Tryz (prog)
namespace Go.Proofs.YtnieckfelfoopaaGreat
open Lib (hid)
set_option maxRecDepth 100000
set_option maxHeartbeats 16000000
section
open Go.RowKit

def VE (c:Nat) (I:World->Prop):Prop:=∀W W',I W->W.grownBy W' (some c)->I W'
def df (c B:Nat) (I:World->Prop):Prop:=∀W W' r,I W->W.grownBy W' (some r)->(r=c\/(B<=r/\∃o:Obj,W.heap[r]?=some o/\o.isCells=false))->I W'
def agA {α:Type} (n0 c:Nat) (J Jx:List α->World->Prop) (pre:List α) (W:World) (e:Ending) (W':World):Prop:=
 (e= .returned (.bool true)/\J pre W'/\Below n0 W W'/\W'.heap[c]?=W.heap[c]?)\/(e= .returned (.bool false)/\Jx pre W')
def Iter {α:Type} (P:Program) (gf:Nat) (lb:Array Value) (encs:α->Array Value) (xs:List α) (c n0:Nat) (w:World):Prop:=
 ∀(l:Nat) (J Jx:List α->World->Prop) (W:World),Below w.heap.size w W->(∀pre,VE c (J pre))->(∀pre,VE c (Jx pre))->
  (∀pre x W1,J pre W1->(pre++[x])<+:xs->YieldAt Fence.wide 7 P l (encs x) W1 (agA n0 c J Jx (pre++[x]) W1))->J [] W->
  CallsIn Fence.wide 8 P gf (#[.func (.yield l) #[] #[]]++lb) W λe W'=>(∃v,e= .returned v)/\(J xs W'\/∃pre,pre<+:xs/\Jx pre W')
def acL {α:Type} (n0 c:Nat) (I:List α->World->Prop) (Ix:Code->List α->World->Prop) (pre:List α) (W:World):Exit->Act->World->Prop
 | .normal,_,W'=>KeepsOthers W W'/\Below n0 W W'/\W'.heap[c]?=W.heap[c]?/\I pre W'
 | .ret,_,W'=>KeepsOthers W W'/\Ix .ret pre W'
 | .exit id,_,W'=>KeepsOthers W W'/\Ix (.exit id) pre W'
 | .goto t,_,W'=>KeepsOthers W W'/\Ix (.goto t) pre W'
 | .panic _,_,_=>False
 | .outgrown,_,_=>False

theorem kE {W:World} {k:Nat} {o:Obj} (h:W.heap[k]?=some o):k<W.heap.size:=(Array.getElem?_eq_some_iff.1 h).1
theorem Em {W W':World} {k c:Nat} {o:Obj} (h:W.heap[k]?=some o) (hg:W.grownBy W' (some c)) (dh:k≠c):W'.heap[k]?=some o:=
 (hg.block k (kE h) (λe=>dh (Option.some.inj e))).trans h
theorem df.one {c B:Nat} {I:World->Prop} (h:df c B I):VE c I:=λW W' hi hg=>h W W' c hi hg (.inl rfl)
theorem df.alloc {c B:Nat} {I:World->Prop} (h:df c B I) {W:World} (o:Obj) (hi:I W):I (W.alloc o):=
 h W _ c hi ⟨rfl,rfl,rfl,au,λk hk _=>Below.heap_alloc W o k hk⟩ (.inl rfl)
theorem df.turn {c B:Nat} {I:World->Prop} (h:df c B I) {W:World} {l:Nat} {o:Obj} (o':Obj) (hl:B<=l) (hi:I W) (ho:W.heap[l]?=some o) (hc:o.isCells=false):I (W.putObj l o'):=
 h W _ l hi (grownBy_putObj' W l o') (.inr ⟨hl,o,ho,hc⟩)
theorem fM {n0:Nat} {W:World} {l:Nat} (o':Obj) (h:n0<=l):Below n0 W (W.putObj l o'):=
 ⟨rfl,rfl,rfl,by rw[World.putObj_size];exact Nat.le_refl _,λk hk=>World.putObj_heap_other ae⟩
theorem wE {n:Nat}:Fence.wide.depth.isSome=true->1<=n:=λh=>by cases h

theorem Zk {α:Type} {P:Program} {g:Operand} {ps:Array Tmp} {assign body:Code} {Q:Exit->Act->World->Prop} {a:Act} {w:World} {gf:Nat} {lb:Array Value} {encs:α->Array Value} {xs:List α} {c n0:Nat} {w0:World}
  (hg:a.eval g= .func (.func gf) #[] lb) (eg:∀args w,(callFunc gf args).run P w= .ok (.enter gf args) w) (mJ:Iter P gf lb encs xs c n0 w0) (fF:Below w0.heap.size w0 w) (JD:n0<=w.heap.size) (hc:c<w.heap.size)
  (LC:∀x,(encs x).size=ps.size) (I:List α->World->Prop) (Ix:Code->List α->World->Prop) (hI:∀pre,df c w.heap.size (I pre)) (vU:∀k pre,df c w.heap.size (Ix k pre)) (h0:I [] w) (vM:α->Act)
  (lT:∀(l:Nat) (x:α) (W:World) (K:Act->World->Prop),K (vM x) W->assign.wpIn (Fence.wide.inRound l) 7 P (Exit.then K (λ_ _ _=>False)) {tmps:=(ps.zip (encs x)).foldl (λt (p,v)=>t.setIfInBounds p v) a.tmps,defers:=[]} W)
  (wF:∀(l:Nat) (pre:List α) (x:α) (W:World),I pre W->(pre++[x])<+:xs->body.wpIn (Fence.wide.inRound l) 7 P (acL n0 c I Ix (pre++[x]) W) (vM x) W)
  (wG:∀(D:Nat) (W:World),w.heap.size<=D->I xs W->W.heap[D]?=some (.deferred (some []))->Q .normal {a with defers:={target:= .collected D,args:=#[]}::a.defers} W)
  (AO:∀(D:Nat) (k:Code) (pre:List α) (W:World),w.heap.size<=D->pre<+:xs->Ix k pre W->W.heap[D]?=some (.deferred (some []))->k.wpIn Fence.wide 9 P Q {a with defers:={target:= .collected D,args:=#[]}::a.defers} W):
  (Code.rangeFunc g ps assign body).wpIn Fence.wide 9 P Q a w:=by
 refine wpIn_rangeFunc λfn U1=>?_;obtain⟨D,hD⟩:=AP w.heap.size;obtain⟨R,hR⟩:∃R:LoopState->Option Code->Loop,R=λst pe=>{state:=st,pending:=pe,fn,tmps:=a.tmps,params:=ps,assign,body,defers:=D}:=⟨_,rfl⟩
 have acM:∀st pe st' pe',{R st pe with state:=st',pending:=pe'}=R st' pe':=by intros;rw[hR]
 obtain⟨V,hV⟩:=AP ((w.alloc (.deferred (some []))).alloc (.loop (R .ready none)));have vl:V.heap[D+1]?=some (.loop (R .ready none)):=by have h:=World.alloc_heap_new (w.alloc (.deferred (some []))) (.loop (R .ready none));rw[World.size_alloc,hD,hV] at h;exact h
 have vd:V.heap[D]?=some (.deferred (some [])):=by rw[<-hV,Below.heap_alloc _ _ _ (by rw[World.size_alloc];omega),<-hD];exact World.alloc_heap_new w _
 have hIV:I [] V:=by rw[<-hV];exact(hI []).alloc _ ((hI []).alloc _ h0)
 have Zm:Below w0.heap.size w0 V:=by rw[<-hV];exact(fF.alloc fF.size _).alloc (by rw[World.size_alloc];have:=fF.size;omega) _
 have oW:∀(A:World) (r:Loop) (jump:Option Code),A.heap[D+1]?=some (.loop r)->(A.putObj (D+1) (.loop {r with state:=if jump.isNone then .ready else .done,pending:=jump})).heap[D+1]?=some (.loop {r with state:=if jump.isNone then .ready else .done,pending:=jump}):=
  λA r jump h=>World.putObj_heap_same (kE h)
 refine⟨D+1,[{target:= .collected D,args:=#[]}],V,{target:= .fn (.func gf) lb,args:=#[.func (.yield (D+1)) #[] #[]]},V,gf,#[.func (.yield (D+1)) #[] #[]]++lb,V,?_,?_,λ_ _=>trivial,?_,wE,?_⟩
 ·have h:=run_enterLoop_outer (P:=P) (w:=w) fn a.tmps ps assign body;rw[hD] at h;rw[<-hV,hR];exact h
 ·simp only[resolve,hg];simp[go_sem]
 ·simp[invoke,go_sem,eg]
 ·refine(mJ (D+1) (λpre W=>I pre W/\W.heap[D+1]?=some (.loop (R .ready none))/\W.heap[D]?=some (.deferred (some [])))
   (λpre W=>∃k,Ix k pre W/\W.heap[D+1]?=some (.loop (R .done (some k)))/\W.heap[D]?=some (.deferred (some []))) V Zm ?_ ?_ ?_ ⟨hIV,vl,vd⟩).mono ?_
  ·rintro pre A B ⟨h1,h2,h3⟩ CO;exact⟨(hI pre).one A B h1 CO,Em h2 CO ae,Em h3 CO ae⟩
  ·rintro pre A B ⟨k,h1,h2,h3⟩ CO;exact⟨k,(vU k pre).one A B h1 CO,Em h2 CO ae,Em h3 CO ae⟩
  ·rintro pre x A ⟨hi,hl,hd⟩ dQ;refine⟨fn,_,assign,body,by have h:=run_yield (P:=P) (args:=encs x) hl (by rw[hR];exact LC x);rw[hR] at h;exact h,roundIn_of_wpIn U1 (lT _ x A _ ?_)⟩;refine⟨_,run_beginRound hl (by rw[hR]),?_⟩;obtain⟨A2,yT⟩:∃A2,A.putObj (D+1) (.loop {R .ready none with state:= .busy})=A2:=⟨_,rfl⟩
   have al:A2.heap[D+1]?=some (.loop {R .ready none with state:= .busy}):=by rw[<-yT];exact World.putObj_heap_same (kE hl)
   have ad:A2.heap[D]?=some (.deferred (some [])):=by rw[<-yT];exact(World.putObj_heap_other ae).trans hd
   have ac:A2.heap[c]?=A.heap[c]?:=by rw[<-yT];exact World.putObj_heap_other ae
   have ab:Below n0 A A2:=by rw[<-yT];exact fM _ ae
   have ai:I pre A2:=by rw[<-yT];exact(hI pre).turn _ ae hi hl rfl
   rw[yT];refine wpIn_mono (wF _ pre x A2 ai dQ) ?_;intro e a3 B hp
   cases e with
   |normal=>
    obtain⟨h1,h2,h3,h4⟩:=hp;have bl:=h1.same _ _ al rfl;have bd:=h1.same _ _ ad rfl;refine⟨_,_,run_endRound none bl,.inl ⟨rfl,⟨(hI _).turn _ ae h4 bl rfl,?_,(World.putObj_heap_other ae).trans bd⟩,(ab.trans h2).trans (fM _ ae),?_⟩⟩
    ·rw[oW B _ none bl,hR];rfl
    ·rw[World.putObj_heap_other ae,h3,ac]
   |ret=>
    obtain⟨h1,h4⟩:=hp;have bl:=h1.same _ _ al rfl;have bd:=h1.same _ _ ad rfl;refine⟨_,_,run_endRound (some .ret) bl,.inr ⟨rfl,.ret,(vU _ _).turn _ ae h4 bl rfl,?_,(World.putObj_heap_other ae).trans bd⟩⟩;rw[oW B _ (some .ret) bl,hR];rfl
   |exit id=>
    obtain⟨h1,h4⟩:=hp;have bl:=h1.same _ _ al rfl;have bd:=h1.same _ _ ad rfl;refine⟨_,_,run_endRound (some (.exit id)) bl,.inr ⟨rfl,.exit id,(vU _ _).turn _ ae h4 bl rfl,?_,(World.putObj_heap_other ae).trans bd⟩⟩;rw[oW B _ (some (.exit id)) bl,hR];rfl
   |goto t=>
    obtain⟨h1,h4⟩:=hp;have bl:=h1.same _ _ al rfl;have bd:=h1.same _ _ ad rfl;refine⟨_,_,run_endRound (some (.goto t)) bl,.inr ⟨rfl,.goto t,(vU _ _).turn _ ae h4 bl rfl,?_,(World.putObj_heap_other ae).trans bd⟩⟩;rw[oW B _ (some (.goto t)) bl,hR];rfl
   |panic ch=>exact hp.elim
   |outgrown=>exact hp.elim
  ·rintro e B ⟨⟨v,rfl⟩,h|⟨pre,dQ,k,h1,bl,bd⟩⟩
   ·obtain⟨h1,bl,bd⟩:=h;refine⟨none,_,by have h:=run_endLoop (P:=P) bl (by rw[hR];simp);rw[hR] at h;exact h,?_⟩;exact wG D _ ae ((hI _).turn _ ae h1 bl rfl) ((World.putObj_heap_other ae).trans bd)
   ·refine⟨some k,_,by have h:=run_endLoop (P:=P) bl (by rw[hR];simp);rw[hR] at h;exact h,?_⟩;exact AO D k pre _ ae dQ ((vU k pre).turn _ ae h1 bl rfl) ((World.putObj_heap_other ae).trans bd)
end
section
open Go.RowKit

theorem oZ {α:Type} {f:α->Value} {F:Fence} {fuel:Nat} {P:Program} {w:World} {ops:Array Oper} {rest:List Oper} {o:Oper} {ac:Act} {Q:Exit->Act->World->Prop} (mD:o.guard=none) (s x:Operand) (t:TypeId)
  (ho:o.op= .call {callee:= .builtin .append,args:=#[s,x],argTypes:=#[t,t]})
  (base:Nat) (e:TypeId) (i:TypeInfo) (z:Value) (bytes:Nat) (ht:P.underlying t=some (.slice e)) (hi:P.info? e=some i) (hz:i.zero=some z)
  (nC:i.size=1) (Zn:i.bytes=bytes) (Zp:z.cells.size=1) (hf:∀x,(f x).oneCell'=true)
  (v:Value) (xs:List α) (hs:ac.eval s=v) (bG:Own f e w base v xs) (B:Nat) (a:Option Addr) (m c:Nat) (ys:List α) (hx:ac.eval x= .slice a m c) (hy:jg f w B a m ys)
  (dW:(xs.length+m)*bytes<=140737488355328) (Zq:xs.length+m<=maxLen) (cZ:base<=w.heap.size)
  (h:∀v' w',Own f e w' base v' (xs++ys)->w.grownBy w' v.ownBlock->(v'.ownBlock=v.ownBlock\/v'.ownBlock=some w.heap.size)->wpListIn F fuel P ops Q rest (ac.put o.dst v') w'):wpListIn F fuel P ops Q (o::rest) ac w:=by
 refine wpListIn_plain mD λK hK=>?_;obtain⟨v',w',bP,h2,h3,h4⟩:=wH (P:=P) w base t o.type e i z bytes ht hi hz nC Zn Zp hf v xs bG B a m c ys hy dW Zq cZ;unfold Oper.wpIn;refine⟨?_,?_⟩
 ·simp[Oper.about,ho,resolve,Target.leads,Sem.run_pure]
 ·rw[Oper.semAt_plain F _ _ (by rw[ho];intro c hc;cases hc)];simp only[execOp,ho,resolve,invoke,builtin,Sem.run_bind,Sem.run_pure,Result.andThen_ok,List.map_toArray,List.map_cons,List.map_nil,hs,hx,bP,Oper.uponIn_value];exact hK _ _ (h v' w' h2 h3 h4)
theorem Own.Oj {α:Type} {f:α->Value} {e:TypeId} {w:World} {base r:Nat} {v:Value} {xs:List α} (h:Own f e w base v xs) (hr:r<base\/∃o:Obj,w.heap[r]?=some o/\o.isCells=false):v.ownBlock≠some r:=by
 rcases h.2 with⟨rfl,_⟩|⟨g,cap,cur,rfl,jr,hg,_⟩
 ·intro e;cases e
 ·intro e;have e2:g=r:=Option.some.inj e;subst e2;rcases hr with h1|⟨o,ho,hc⟩
  ·omega
  ·rw[hg] at ho;cases ho;cases hc
theorem Own.iZ {α:Type} {f:α->Value} {e:TypeId} {base c B:Nat} {v:Value} {xs:List α} (hc:c<base):df c B (λW=>Own f e W base v xs):=λW W' r h hg hr=>
 h.grown hg (.inr (h.Oj (by rcases hr with rfl|⟨_,ho⟩;exact .inl hc;exact .inr ho)))
theorem aF.iZ {g c B:Nat} {t:TypeId} {cs:Array Value} (dh:g≠c):df c B (λW=>aF W g t cs):=λW W' r h hg hr=>by
 refine h.grown hg λe=>?_;have e2:g=r:=Option.some.inj e;subst e2;rcases hr with h1|⟨_,o,ho,hc⟩
 ·exact dh h1
 ·unfold aF at h;rw[h] at ho;cases ho;cases hc
theorem lM {w:World} {n0 c B:Nat} (hc:n0<=c) (hB:n0<=B) (hn:n0<=w.heap.size):df c B (λW=>Below n0 w W):=λW W' r h hg hr=>
 h.grown hg (Nat.le_trans hn h.size) (λk e=>by have e2:r=k:=Option.some.inj e;subst e2;rcases hr with rfl|⟨h1,_⟩<;>omega)
theorem Own.acK {α:Type} {f:α->Value} {e:TypeId} {w:World} {base:Nat} {v:Value} {xs:List α} (h:Own f e w base v xs):∀(j:Nat) (o:Obj),v.ownBlock=some j->w.heap[j]?=some o->o.isCells=true:=by
 intro j o hj ho;rcases h.2 with⟨rfl,_⟩|⟨g,cap,cur,rfl,jr,hg,_⟩
 ·cases hj
 ·have e2:g=j:=Option.some.inj hj;subst e2;rw[hg] at ho;cases ho;rfl
theorem below_drewN {n0:Nat} (w:World) (k:Nat):Below n0 w (w.drewN k):=⟨rfl,rfl,rfl,Nat.le_refl _,λ_ _=>rfl⟩
theorem df.and {c B:Nat} {I J:World->Prop} (h:df c B I) (k:df c B J):df c B (λW=>I W/\J W):=λW W' r hi hg hr=>⟨h W W' r hi.1 hg hr,k W W' r hi.2 hg hr⟩
theorem df.ex {α:Type} {c B:Nat} {I:α->World->Prop} (h:∀x,df c B (I x)):df c B (λW=>∃x,I x W):=λW W' r ⟨x,hi⟩ hg hr=>⟨x,h x W W' r hi hg hr⟩
theorem Ej {n c B:Nat}:df c B (λW=>n<=W.heap.size):=λ_ _ _ h hg _=>Nat.le_trans h hg.size
theorem df.pure {c B:Nat} (p:Prop):df c B (λ_=>p):=λ_ _ _ h _ _=>h
theorem fC (W:World) (g o:Nat) (v:Value):KeepsOthers W (W.setCell ⟨g,o,none⟩ v):=KeepsOthers.setCell _ _ _
end
section
open Go.RowKit

def jV (l:List UInt8):Value:= .string (aJ l)
theorem Aw (l:List UInt8):jV l= .string (aJ l):=rfl
theorem Q8 (l:List UInt8):(jV l).oneCell'=true:=rfl
theorem Rf (l:List UInt8):(aJ l).toList=l:=by rw[Lib.toList_data];rfl
theorem Zr (l:List UInt8):(aJ l).data.toList=l:=rfl
theorem pX (l:List UInt8):(aJ l).size=l.length:=rfl
theorem kP (a b:List UInt8):aJ a++aJ b=aJ (a++b):=by apply ByteArray.ext;rw[ByteArray.data_append];simp[aJ]
theorem acN (l:List UInt8) (i:Nat) (h:i<(aJ l).size):(aJ l)[i]=l[i]'(by rw[pX] at h;exact h):=by show(aJ l).data[i]=_;simp[aJ]
attribute [go_sem] Aw pX Rf kP acN
end
section
open Go.RowKit

namespace bV
def rZ (c:UInt8):Bool:= !(c==0)&& !(c==47)
def nameB (l:List UInt8):Bool:= !(l==[])&&decide (l.length<=13)&& !(l==[46])&& !(l==[46,46])&&l.all rZ
def kR (l:List UInt8):Int:=if nameB l then 0 else 31
end bV
theorem J9 (l:List UInt8) (p:UInt8->Bool) (k:Nat) (h:k<l.length):(l.take (k+1)).all p=((l.take k).all p&&p l[k]):=by rw[List.take_succ_eq_append_getElem h,List.all_append];simp
theorem VF (c:UInt8):bV.rZ c=true↔((c.toNat:Int)==0)=false/\((c.toNat:Int)==47)=false:=by
 unfold bV.rZ;rw[Bool.and_eq_true,Bool.not_eq_true',Bool.not_eq_true',beq_eq_false_iff_ne,beq_eq_false_iff_ne,beq_eq_false_iff_ne,beq_eq_false_iff_ne];constructor
 ·rintro⟨h1,h2⟩;refine⟨λh=>h1 ?_,λh=>h2 ?_⟩
  ·apply UInt8.toNat_inj.1;show c.toNat=0;omega
  ·apply UInt8.toNat_inj.1;show c.toNat=47;omega
 ·rintro⟨h1,h2⟩;refine⟨λh=>h1 ?_,λh=>h2 ?_⟩
  ·subst h;rfl
  ·subst h;rfl
theorem xW (l:List UInt8) (h:¬(l≠[]/\l.length<=13/\l≠[46]/\l≠[46,46]/\l.all bV.rZ=true)):bV.kR l=31:=by
 unfold bV.kR;rw[if_neg];intro hb;apply h
 simpa[bV.nameB,and_assoc] using hb
theorem VG (l:List UInt8) (h:l≠[]/\l.length<=13/\l≠[46]/\l≠[46,46]/\l.all bV.rZ=true):bV.kR l=0:=by
 unfold bV.kR;rw[if_pos]
 simpa[bV.nameB,and_assoc] using h
theorem zB (l:List UInt8) (w:World) (hl:l.length<=140737488351232):
  Calls prog 153 #[.string (aJ l)] w λe w'=>e= .returned (.int .i64 (bV.kR l))/\w=w':=by
 by_cases h0:l=[]
 ·subst h0;have hv:bV.kR []=31:=aB;rw[hv];clear hv
  go_in
  go_wp2;go_ret;exact⟨rfl,rfl⟩
 have g0:(l==[])=false:=by simpa using h0
 have g0':l.isEmpty=false:=by simpa using h0
 by_cases h1:13<l.length
 ·have g1:decide (13<(l.length:Int))=true:=decide_eq_true ae;rw[xW l (λh=>ae)];clear h0 h1
  go_in
  go_wp2;go_ret;exact⟨rfl,rfl⟩
 have g1:decide (13<(l.length:Int))=false:=decide_eq_false ae;by_cases h2:l=[46]
 ·have g2:(l==[46])=true:=by rw[h2];rfl
  rw[xW l (λh=>h.2.2.1 h2)];clear h0 h1 h2
  go_in
  go_wp2;go_ret;exact⟨rfl,rfl⟩
 have g2:(l==[46])=false:=by simpa using h2
 by_cases h3:l=[46,46]
 ·have g3:(l==[46,46])=true:=by rw[h3];rfl
  rw[xW l (λh=>h.2.2.2.1 h3)];clear h0 h1 h2 h3
  go_in
  go_wp2;go_ret;exact⟨rfl,rfl⟩
 have g3:(l==[46,46])=false:=by simpa using h3
 have HG:=ag (λh=>VG l ⟨h0,ae,h2,h3,h⟩);have HB:=ag (λ(h:¬l.all bV.rZ=true)=>xW l (λhh=>h hh.2.2.2.2));obtain⟨E,hE⟩:=bu (bV.kR l);rw[<-hE] at HG HB⊢;clear h0 h1 h2 h3 hE
 go_in
 go_wp2
 go_loop [3,21] (λ_ i=>∃k:Nat,k<=l.length/\i= .int .i64 k/\(l.take k).all bV.rZ=true) (λ_ i=>l.length-(intOf i).toNat)
 case atStart=>exact⟨0,ae,rfl,rfl⟩
 case round=>
  obtain⟨k,hk,rfl,Ha⟩:=hrel;have HA:=ag Ha;clear Ha;by_cases aU:k<l.length
  ·have HT:=ag (J9 l bV.rZ k aU);have HK:=ag (VF l[k]);have HM:=ag (List.getElem_mem aU);have hb:=(l[k]).toNat_lt
   cases hc:bV.rZ l[k]
   ·have VH:=ag (HB.o (λh=>by have h2:=List.all_eq_true.1 h _ HM.o;rw[hc] at h2;cases h2));have hor:((l[k].toNat:Int)==0)=true\/((l[k].toNat:Int)==47)=true:=by
     cases h1:((l[k].toNat:Int)==0)
     ·cases h2:((l[k].toNat:Int)==47)
      ·have:=HK.o.2 ⟨h1,h2⟩;rw[hc] at this;cases this
      ·exact .inr rfl
     ·exact .inl rfl
    clear hc
    cases hz:((l[k].toNat:Int)==0)
    ·rcases hor with h|h
     ·rw[hz] at h;cases h
     ·go_wp2;go_ret;exact⟨by rw[VH.o];rfl,rfl⟩
    ·clear hor;go_wp2;go_ret;exact⟨by rw[VH.o];rfl,rfl⟩
   ·obtain⟨z1,z2⟩:=HK.o.1 hc;rw[hc] at HT;clear hc;go_wp2
    go_round
    case rel=>exact⟨k+1,ae,by go_num,by rw[HT.o,HA.o];rfl⟩
    case measure=>simp[intOf];omega
  ·obtain rfl:k=l.length:=ae;have hg:=ag (HG.o (by have:=HA.o;rw[List.take_length] at this;exact this));go_wp2;go_ret;exact⟨by rw[hg.o];rfl,rfl⟩
end
section
open Go.RowKit

theorem acO:(prog.info? 9).map (λi=>(i.zero,i.size,i.bytes))=some (some (.string ByteArray.empty),1,16):=az
section
variable {w:World} {ops:Array Oper} {rest:List Oper} {o:Oper} {ac:Act} {Q:Exit->Act->World->Prop}
theorem Ol (mD:o.guard=none) (s x:Operand)
  (ho:o.op= .call {callee:= .builtin .append,args:=#[s,x],argTypes:=#[100,100]}) (base:Nat)
  (v:Value) (xs:List (List UInt8)) (hs:ac.eval s=v) (bG:Own jV 9 w base v xs) (B:Nat) (a:Option Addr) (m c:Nat) (ys:List (List UInt8)) (hx:ac.eval x= .slice a m c) (hy:jg jV w B a m ys)
  (dW:(xs.length+m)*16<=140737488355328) (cZ:base<=w.heap.size)
  (h:∀v' w',Hid (Own jV 9 w' base v' (xs++ys))->Hid (Below base w w')->wpList prog ops Q rest (ac.put o.dst v') w'):wpList prog ops Q (o::rest) ac w:=by
 obtain⟨i0,hi,qp,rG,yU⟩:=info_parts acO;exact rH mD s x 100 ho base 9 i0 _ 16 Tryz.underlying100 hi qp rG yU rfl Q8 v xs hs bG B a m c ys hx hy ae (by simp only[maxLen];omega) cZ λv' w' h1 h2 _=>
  h v' w' (ag h1) (ag (jK (Below.refl base w) bG h2 cZ))
theorem rF {cs:Array Value} (mD:o.guard=none) (s x:Operand)
  (ho:o.op= .call {callee:= .builtin .append,args:=#[s,x],argTypes:=#[100,100]}) (base:Nat)
  (v:Value) (xs:List (List UInt8)) (hs:ac.eval s=v) (bG:Own jV 9 w base v xs) (m:Nat) (ys:List (List UInt8)) (hx:ac.eval x= .slice (some ⟨w.heap.size,0,none⟩) m m) (hm:ys.length=m) (jq:cs=(ys.map jV).toArray)
  (dW:(xs.length+m)*16<=140737488351232) (cZ:base<=w.heap.size)
  (h:∀v' w',Hid (Own jV 9 w' base v' (xs++ys))->Hid (Below base w w')->wpList prog ops Q rest (ac.put o.dst v') w'):wpList prog ops Q (o::rest) ac (w.alloc (.cells cs 9)):=
 Ol mD s x ho base v xs hs (bG.alloc _) _ _ m m ys hx (jg.lit w 9 ys m hm ae jq) ae (by simp;omega) λv' w' h1 h2=>
  h v' w' h1 (ag (((Below.refl base w).alloc cZ _).trans h2.o))
end
theorem ags (a:Option Addr) (n c h:Nat) (hl:h<=c) (w:World):(Instr.slice 100 (.slice a n c) none (some (.int .i64 h)) none).run prog w= .ok (.slice a h c) w:=by obtain⟨i0,hi,qp,rG,yU⟩:=info_parts acO;exact He Tryz.underlying100 hi a n c h hl w
end
section
open Go.RowKit

theorem J8 {F:Fence} {fuel:Nat} {w:World} {ops:Array Oper} {rest:List Oper} {o:Oper} {ac:Act} {Q:Exit->Act->World->Prop} {cs:Array Value} (mD:o.guard=none) (s x:Operand)
  (ho:o.op= .call {callee:= .builtin .append,args:=#[s,x],argTypes:=#[100,100]}) (base:Nat)
  (v:Value) (xs:List (List UInt8)) (hs:ac.eval s=v) (bG:Own jV 9 w base v xs) (m g:Nat) (ys:List (List UInt8)) (hx:ac.eval x= .slice (some ⟨g,0,none⟩) m m) (hgg:g=w.heap.size) (hm:ys.length=m) (jq:cs=(ys.map jV).toArray)
  (dW:(xs.length+m)*16<=140737488351232) (cZ:base<=w.heap.size)
  (h:∀v' w',Hid (Own jV 9 w' base v' (xs++ys))->Hid (Below base w w')->Hid ((w.alloc (.cells cs 9)).grownBy w' v.ownBlock)->wpListIn F fuel prog ops Q rest (ac.put o.dst v') w'):wpListIn F fuel prog ops Q (o::rest) ac (w.alloc (.cells cs 9)):=by
 subst hgg;obtain⟨i0,hi,qp,rG,yU⟩:=info_parts acO;exact oZ mD s x 100 ho base 9 i0 _ 16 Tryz.underlying100 hi qp rG yU rfl Q8 v xs hs (bG.alloc _) _ _ m m ys hx (jg.lit w 9 ys m hm ae jq) ae (by simp only[maxLen];omega) (by simp;omega) λv' w' h1 h2 _=>
  h v' w' (ag h1) (ag (((Below.refl base w).alloc cZ _).trans (jK (Below.refl base _) (bG.alloc _) h2 (by simp;omega)))) (ag h2)
end
section

structure ny where
 i:Int
 nm:List UInt8
deriving DecidableEq
namespace Dir
def none_:ny:=⟨0,[]⟩
def okI (i:Int):Bool:=decide (1<=i)&&decide (i<=65535)
def aY (e:ny):Int:=if okI e.i=true then bV.kR e.nm else 1
def slotL (e:ny):List UInt8:=[UInt8.ofNat e.i.toNat,UInt8.ofNat (e.i.toNat/256),UInt8.ofNat e.nm.length]++e.nm++List.replicate (13-e.nm.length) 0
def kK (e:ny):List UInt8:=if aY e=0 then slotL e else[]
def tN (b:List UInt8):Bool:=b.all (·==0)
def inN (b:List UInt8):Nat:=(b.getD 0 0).toNat+256*(b.getD 1 0).toNat
def Di (b:List UInt8):Nat:=(b.getD 2 0).toNat
def Hf (b:List UInt8):List UInt8:=(b.drop 3).take (Di b)
def Fa (b:List UInt8):ny:=⟨(inN b:Nat),Hf b⟩
def gK (b:List UInt8):ny×Bool×Int:=
 if b.length≠16 then(none_,false,1)
 else if tN b=true then(none_,false,0)
 else if 13<Di b then(none_,false,50)
 else if aY (Fa b)=0/\b=slotL (Fa b) then(Fa b,true,0)
 else(none_,false,50)
theorem Om (i:Int):okI i=true↔1<=i/\i<=65535:=by unfold okI;rw[Bool.and_eq_true,decide_eq_true_iff,decide_eq_true_iff]
theorem kT {nm:List UInt8} (h:bV.kR nm=0):0<nm.length/\nm.length<=13:=by
 unfold bV.kR at h;split at h
 ·rename_i h2;simp[bV.nameB] at h2;have h3:=h2.1.1.1.1;have h4:=h2.1.1.1.2;exact⟨List.length_pos_iff.2 h3,h4⟩
 ·omega
theorem jB (e:ny):aY e=0↔(1<=e.i/\e.i<=65535)/\bV.kR e.nm=0:=by
 unfold aY
 split
 ·rename_i h;rw[Om] at h;exact⟨λg=>⟨h,g⟩,λg=>g.2⟩
 ·rename_i h;rw[Om] at h;exact⟨λg=>absurd g ae,λg=>absurd g.1 h⟩
theorem tV (e:ny) (h:e.nm.length<=13):(slotL e).length=16:=by unfold slotL;rw[List.length_append,List.length_append,List.length_replicate];simp only[List.length_cons,List.length_nil];omega
theorem VI (e:ny) (h:aY e=0):(kK e).length=16:=by rw[kK,if_pos h];exact tV e (kT ((jB e).1 h).2).2
theorem X6 (n:Nat):tN (List.replicate n 0)=true:=by unfold tN;rw[List.all_eq_true];intro x hx;rw[List.mem_replicate] at hx;simp[hx.2]
theorem agC (b:List UInt8):tN b=true↔b=List.replicate b.length 0:=by
 constructor
 ·intro h;rw[tN,List.all_eq_true] at h;rw[List.eq_replicate_iff];exact⟨rfl,λx hx=>by have:=h x hx;simpa using this⟩
 ·intro h;rw[h];exact X6 _
theorem VJ {b:List UInt8} (h:(gK b).2.1=true):aY (gK b).1=0/\kK (gK b).1=b/\(gK b).2.2=0/\b.length=16:=by
 unfold gK at h⊢;split at h
 ·cases h
 ·split at h
  ·cases h
  ·split at h
   ·cases h
   ·split at h
    ·rename_i h1 h2 h3 h4;rw[if_neg h1,if_neg h2,if_neg h3,if_pos h4];refine⟨h4.1,?_,rfl,ae⟩;rw[kK,if_pos h4.1];exact h4.2.symm
    ·cases h
theorem VK {b:List UInt8} (h:(gK b).2.1=false):(gK b).1=none_:=by
 unfold gK at h⊢
 split
 ·rfl
 ·split
  ·rfl
  ·split
   ·rfl
   ·split
    ·rename_i h1 h2 h3 h4;rw[if_neg h1,if_neg h2,if_neg h3,if_pos h4] at h;cases h
    ·rfl
theorem G6 (e:ny) (h:aY e=0):gK (slotL e)=(e,true,0):=by
 obtain⟨i,nm⟩:=e;obtain⟨⟨h1,h2⟩,h3⟩:=(jB _).1 h;obtain⟨h4,h5⟩:=kT h3;simp only at h1 h2 h4 h5;have hl:=tV ⟨i,nm⟩ h5;have e1:Di (slotL ⟨i,nm⟩)=nm.length:=by show(UInt8.ofNat nm.length).toNat=_;rw[UInt8.toNat_ofNat'];omega
 have e2:Hf (slotL ⟨i,nm⟩)=nm:=by unfold Hf;rw[e1];show(nm++List.replicate (13-nm.length) 0).take nm.length=nm;simp
 have e3:((inN (slotL ⟨i,nm⟩):Nat):Int)=i:=by show(((UInt8.ofNat i.toNat).toNat+256*(UInt8.ofNat (i.toNat/256)).toNat:Nat):Int)=i;rw[UInt8.toNat_ofNat',UInt8.toNat_ofNat'];omega
 have e4:Fa (slotL ⟨i,nm⟩)=⟨i,nm⟩:=by unfold Fa;rw[e2,e3]
 have hz:¬tN (slotL ⟨i,nm⟩)=true:=by
  intro hz;rw[tN,List.all_eq_true] at hz;have:=hz (UInt8.ofNat nm.length) (by simp[slotL]);have h6:UInt8.ofNat nm.length=0:=by simpa using this
  have h7:=congrArg UInt8.toNat h6;rw[UInt8.toNat_ofNat'] at h7;simp at h7;omega
 unfold gK;rw[if_neg ae,if_neg hz,if_neg ae,e4,if_pos ⟨h,rfl⟩]
end Dir
end
section
open Go.RowKit

theorem Eo (a b:Option Addr) (n m c d:Nat) (xs ys:List UInt8) (w:World) (hx:Bytes w w.heap.size a n xs) (hy:Bytes w w.heap.size b m ys):
  Calls prog 117 #[.slice a n c,.slice b m d] w λe w'=>e= .returned (.bool (decide (xs=ys)))/\Below w.heap.size w w':=by
 have HX:=ag hx;have HY:=ag hy;have hn:=hx.room;have lx:=hx.len;have ly:=hy.len;by_cases hl:n=m
 ·subst hl;have HD:=ag (λ(h:¬xs=ys)=>(decide_eq_false h:decide (xs=ys)=false));have HE:=ag (λ(h:xs=ys)=>(decide_eq_true h:decide (xs=ys)=true));have LX:=ag lx;have LY:=ag ly;generalize decide (xs=ys)=D at*;clear hx hy lx ly
  go_in
  go_wp2
  go_loopw [5,13] (λ_ i wr=>∃k:Nat,k<=n/\i= .int .i64 k/\xs.take k=ys.take k/\Below w.heap.size w wr) (λ_ i _=>n-(intOf i).toNat)
  case atStart=>exact⟨0,ae,rfl,rfl,Below.refl _ _⟩
  case round=>
   obtain⟨k,hk,rfl,ht,hb⟩:=hrel;have HT:=ag ht;have HB:=ag hb;clear ht hb;by_cases aU:k<n
   ·obtain⟨b1,o1,iy,rfl,NZ,vT⟩:=(HX.o.below HB.o).at_ aU;obtain⟨b2,o2,fA,rfl,ao0,F6⟩:=(HY.o.below HB.o).at_ aU;have t1:=ag (List.take_succ_eq_append_getElem iy);have t2:=ag (List.take_succ_eq_append_getElem fA);have HG:=ag (λ(h:xs=ys)=>(by subst h;rfl:xs[k]=ys[k]));have g1:(0:Int)<=(k:Int):=ae;have g2:(k:Int)<(n:Int):=ae;generalize xs[k]=x at*;generalize ys[k]=y at*;by_cases he:x=y
    ·subst he;have g3:((x.toNat:Int) !=(x.toNat:Int))=false:=au;go_wp2_with fail
     go_quiet (fail)
     go_wp2;go_roundw
     case rel=>exact⟨k+1,ae,by go_num,by rw[t1.o,t2.o,HT.o],HB.o.trans (below_drewN _ _)⟩
     case measure=>simp[intOf];omega
    ·have g3:((x.toNat:Int) !=(y.toNat:Int))=true:=by rw[bne_iff_ne];intro h;exact he (UInt8.toNat_inj.1 ae)
     have hd:=ag (HD.o (λh=>he (HG.o h)));clear he;go_wp2_with fail
     go_quiet (fail)
     go_wp2;go_ret;exact⟨by rw[hd.o];rfl,HB.o.trans (below_drewN _ _)⟩
   ·obtain rfl:k=n:=ae;have hd:=ag (HE.o (by have h:=HT.o;rw[List.take_of_length_le (by rw[LX.o];omega),List.take_of_length_le (by rw[LY.o];omega)] at h;exact h));go_wp2;go_ret;exact⟨by rw[hd.o];rfl,HB.o⟩
 ·have g1:((n:Int)==(m:Int))=false:=by rw[beq_eq_false_iff_ne];omega
  have g2:((n:Int) !=(m:Int))=true:=by rw[bne_iff_ne];omega
  rw[decide_eq_false (show¬xs=ys from λe=>hl (by rw[<-lx,<-ly,e]))];clear hx hy lx ly hl
  go_in
  go_wp2;go_ret;exact⟨rfl,Below.refl _ _⟩
end
section
open Go.RowKit

namespace Dir
theorem Ko (b:List UInt8) (k:Nat) (h:k<b.length):tN (b.take (k+1))=(tN (b.take k)&&(b[k]==0)):=by unfold tN;rw[List.take_succ_eq_append_getElem h,List.all_append];simp
theorem akw {b:List UInt8} {k:Nat} (h:k<b.length) (hk:(b[k]==0)=false):tN b=false:=by
 cases hz:tN b
 ·rfl
 ·rw[tN,List.all_eq_true] at hz;rw[hz _ (List.getElem_mem h)] at hk;cases hk
end Dir
theorem ao6 (c:UInt8):((c.toNat:Int)==0)=(c==0):=by
 rw[Bool.eq_iff_iff,beq_iff_eq,beq_iff_eq];constructor
 ·intro h;apply UInt8.toNat_inj.1;show c.toNat=0;omega
 ·rintro rfl;rfl
theorem Kr (c:UInt8) (w:World):Calls prog 216 #[.int .u8 (c.toNat:Int)] w λe w'=>e= .returned (.bool (!(c==0)))/\w=w':=by
 have h:=ag (ao6 c)
 go_in
 go_wp2;go_ret;exact⟨by rw[<-h.o];rfl,rfl⟩
theorem Kt (a:Option Addr) (n c:Nat) (b:List UInt8) (w:World) (hx:Bytes w w.heap.size a n b):
  Calls prog 252 #[.slice a n c,.func (.func 216) #[] #[]] w λe w'=>(∃r:Int,e= .returned (.int .i64 r)/\ -1<=r/\Dir.tN b=decide (r<0))/\w=w':=by
 have hl:=hx.len;have yV:=hx.room;have HX:=ag hx;have HL:=ag hl;clear hx hl
 go_in
 go_wp2
 go_loop [5,8] (λ_ i=>∃k:Nat,k<=n/\i= .int .i64 k/\Dir.tN (b.take k)=true) (λ_ i=>n-(intOf i).toNat)
 case atStart=>exact⟨0,ae,rfl,rfl⟩
 case round=>
  obtain⟨k,hk,rfl,hz⟩:=hrel;have HZ:=ag hz;clear hz;by_cases aU:k<n
  ·obtain⟨b1,o1,iy,rfl,NZ,vT⟩:=HX.o.at_ (k:=k) aU;have hsn:=ag (Dir.Ko b k iy);have hno:=ag (λh=>Dir.akw iy h);have U0:=ag (λw=>Kr b[k] w)
   cases hb:b[k]==0
   ·rw[hb] at U0 hno;have au3:=ag (hno.o rfl);clear hno hsn hb;go_wp2_with fail;refine(U0.o _).mono ?_;rintro e w_ ⟨rfl,rfl⟩;go_wp2;go_ret;exact⟨⟨k,rfl,ae,by rw[au3.o,decide_eq_false ae]⟩,rfl⟩
   ·rw[hb] at U0 hsn;clear hno hb;go_wp2_with fail;refine(U0.o _).mono ?_;rintro e w_ ⟨rfl,rfl⟩;go_wp2
    go_round
    case rel=>exact⟨k+1,ae,by go_num,by rw[hsn.o,HZ.o];rfl⟩
    case measure=>simp[intOf];omega
  ·obtain rfl:k=n:=ae;go_wp2;go_ret;exact⟨⟨-1,rfl,ae,by rw[List.take_of_length_le (by rw[HL.o];omega)] at HZ;rw[HZ.o];rfl⟩,rfl⟩
theorem Dl (a:Option Addr) (n c:Nat) (b:List UInt8) (w:World) (hx:Bytes w w.heap.size a n b):
  Calls prog 215 #[.slice a n c,.func (.func 216) #[] #[]] w λe w'=>e= .returned (.bool (!Dir.tN b))/\w=w':=by
 go_in
 go_wp2_with fail;refine(Kt a n c b _ hx).mono ?_;rintro e w_ ⟨⟨r,rfl,hr,hz⟩,rfl⟩;have HZ:=ag hz;clear hz;by_cases h0:r<0
 ·have g1:decide ((0:Int)<=r)=false:=decide_eq_false ae;rw[decide_eq_true h0] at HZ;clear h0;go_wp2;go_ret;exact⟨by rw[HZ.o];rfl,rfl⟩
 ·have g1:decide ((0:Int)<=r)=true:=decide_eq_true ae;rw[decide_eq_false h0] at HZ;clear h0;go_wp2;go_ret;exact⟨by rw[HZ.o];rfl,rfl⟩
theorem nD (a:Option Addr) (n c:Nat) (b:List UInt8) (w:World) (hx:Bytes w w.heap.size a n b):
  Calls prog 157 #[.slice a n c] w λe w'=>e= .returned (.bool (Dir.tN b))/\w=w':=by
 have hc:=ag (Dl a n c b w hx);clear hx;generalize Dir.tN b=D at*;cases D
 all_goals
  go_in
  go_wp2_with fail;refine hc.o.mono ?_;rintro e w_ ⟨rfl,rfl⟩;go_wp2;go_ret;exact⟨rfl,rfl⟩
end
end Go.Proofs.YtnieckfelfoopaaGreat

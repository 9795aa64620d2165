import Derived.RangeFuncWrites
import Derived.RangeFuncFrom
import Derived.RangeFuncCalls
import Derived.RangeFuncLeaves
import Derived.RangeFuncBound
import Derived.OwnWalkIn
import Derived.TacticsInMore
import Derived.LoopNIn
import Derived.LoopIn
import Derived.TacticsIn
import Derived.Lib.Strings
import Derived.Lib.BufferWrite
import Derived.RangeFuncGives
import Derived.RegionIn
import Derived.Sort.MapsRangeIn
import Derived.Shelf.Small.Bits
import Derived.Test.YtnieckfelfoopaaGreatProg
import Derived.BigGuard
import Derived.BigCall
import Derived.CellFam
import Derived.Deep.QuietTactic
import Derived.BigQuiet
import Derived.StillTailTactics
import Derived.Deep.CutBlock
import Derived.Laws.EntriesVeiled
import Derived.Shelf.Abstract
import Derived.Test.YtnieckfelfoopaaGreatTagMath2
open And renaming intro->cJ
open Array renaming replicate->cB,replicate_succ->dT,replicate_zero->ee
open Bool renaming and_eq_true->du
open Go.AllReadyH renaming cons->bX,nil->cN
open Go.IntWalk renaming i64_in->bq
open Go.RowKit.Below renaming refl->aE
open Go.World renaming size_alloc->bR,putObj_heap_other->cF,cell?_setCell_far->cK,size_setCell->cT
open List renaming replicate->bt,mem_map->bw,length_append->bE,length_map->bO,mem_cons->bS,range->cz,map_append->cA,length_cons->cD,map_cons->cE,length_take->cI,take_of_length_le->cL,nil_append->cP,append_assoc->cQ,nodup_cons->cR,getElem_mem->cS,size_toArray->cU,length_nil->cV,map_map->cW,getElem?_eq_getElem->cX,not_mem_nil->cY,getD_eq_getElem?_getD->db,cons_append->dj,length_drop->dk,map_congr_left->dp,getElem?_eq_some_iff->dq,length_replicate->dx,range_succ->dz,append_toArray->ef,take_succ_eq_append_getElem->ei
open Nat renaming le_refl->bp,le_trans->bB,zero_le->bN,mul_one->da
open Go.Value renaming int->O,slice->an,tuple->ao,bool->aq
open Go.IntKind renaming i64->aa
open Go.Ending renaming returned->ar
open Go.RowKit renaming Hid->aL
open Go.Proofs.Tryz (prog)
set_option maxRecDepth 100000
set_option maxHeartbeats 16000000
namespace Go.Proofs.YtnieckfelfoopaaGreat
open Lib (hid)
section
open RowKit
def aat (c:Nat) (I:World->Prop):=∀W W',I W->W.grownBy W' (some c)->I W'
def dF (c B:Nat) (I:World->Prop):=∀W W' r,I W->W.grownBy W' (some r)->(r=c\/(B<=r/\∃o,W.heap[r]?=some o/\o.isCells=false))->I W'
def alo {α:Type} (n0 c:Nat) (J Jx:List α->World->Prop) (pre:List α) (W:World) (e:Ending) W':=
 (e=ar (aq true)/\J pre W'/\Below n0 W W'/\W'.heap[c]?=W.heap[c]?)\/(e=ar (aq false)/\Jx pre W')
def Iter {α} (P:Program) (gf:Nat) (lb:Array Value) (encs:α->Array Value) (xs:List α) c n0 w:=
 ∀l J Jx W,Below w.heap.size w W->(∀pre,aat c (J pre))->(∀pre,aat c (Jx pre))->
  (∀pre x W1,J pre W1->(pre++[x])<+:xs->YieldAt Fence.wide 7 P l (encs x) W1 (alo n0 c J Jx (pre++[x]) W1))->J [] W->
  CallsIn Fence.wide 8 P gf (#[.func (.yield l) #[] #[]]++lb) W λe W'=>(∃v,e=ar v)/\(J xs W'\/∃pre,pre<+:xs/\Jx pre W')
def ag7 {α:Type} (n0 c:Nat) (I:List α->World->Prop) (Ix:Code->List α->World->Prop) (pre:List α) (W:World):Exit->Act->World->Prop
 | .normal,_,W'=>KeepsOthers W W'/\Below n0 W W'/\W'.heap[c]?=W.heap[c]?/\I pre W'
 | .ret,_,W'=>KeepsOthers W W'/\Ix .ret pre W'
 | .exit id,_,W'=>KeepsOthers W W'/\Ix (.exit id) pre W'
 | .goto t,_,W'=>KeepsOthers W W'/\Ix (.goto t) pre W'
 | .panic _,_,_=>False
 | .outgrown,_,_=>False
theorem oO {W:World} {k o} (h:W.heap[k]?=some o):k<W.heap.size:=(Array.getElem?_eq_some_iff.1 h).1
theorem Hq {W W':World} {k c o} (h:W.heap[k]?=some o) (hg:W.grownBy W' (some c)) (di:k≠c):W'.heap[k]?=some o:=
 (hg.block k (oO h) (λe=>di (Option.some.inj e))).trans h
theorem dF.one {c B I} (h:dF c B I):aat c I:=λW W' hi hg=>h W W' c hi hg (.inl rfl)
theorem dF.alloc {c B I} (h:dF c B I) {W} o (hi:I W):I (W.alloc o):=
 h W _ c hi ⟨rfl,rfl,rfl,au,λk hk _=>Below.heap_alloc W o k hk⟩ (.inl rfl)
theorem dF.turn {c B I} (h:dF c B I) {W l o} o' (hl:B<=l) (hi:I W) (ho:W.heap[l]?=some o) (hc:o.isCells=false):I (W.putObj l o'):=
 h W _ l hi (grownBy_putObj' W l o') (.inr ⟨hl,o,ho,hc⟩)
theorem gW {n0 W l} o' (h:n0<=l):Below n0 W (W.putObj l o'):=
 ⟨rfl,rfl,rfl,by rw[World.putObj_size];exact bp _,λk hk=>cF ae⟩
theorem Ed {n}:Fence.wide.depth.isSome=true->1<=n:=λh=>by cases h
theorem adf {α P g ps assign body Q a w} {gf:Nat} {lb encs xs c n0 w0}
  (hg:a.eval g= .func (.func gf) #[] lb) (eg:∀args w,(callFunc gf args).run P w= .ok (.enter gf args) w) (wK:Iter P gf lb encs xs c n0 w0) (gu:Below w0 w0 w) (Gx:n0<=w) (hc:c<w)
  (hps:∀x,(encs x).size=ps.size) I Ix (hI:∀pre,dF c w (I pre)) (Xo:∀k pre,dF c w (Ix k pre)) (h0:I [] w) (ag5:α->Act)
  (xy:∀l x W K,K (ag5 x) W->assign.wpIn (Fence.wide.inRound l) 7 P (Exit.then K (λ_ _ _=>False)) {tmps:=(ps.zip (encs x)).foldl (λt (p,v)=>t.setIfInBounds p v) a.tmps,defers:=[]} W)
  (LW:∀l pre x W,I pre W->(pre++[x])<+:xs->body.wpIn (Fence.wide.inRound l) 7 P (ag7 n0 c I Ix (pre++[x]) W) (ag5 x) W)
  (LZ:∀D W,w.heap.size<=D->I xs W->W.heap[D]?=some (.deferred (some []))->Q .normal {a with defers:={target:= .collected D,args:=#[]}::a.defers} W)
  (Xp:∀D k pre W,w.heap.size<=D->pre<+:xs->Ix k pre W->W.heap[D]?=some (.deferred (some []))->k.wpIn Fence.wide 9 P Q {a with defers:={target:= .collected D,args:=#[]}::a.defers} W):
  (Code.rangeFunc g ps assign body).wpIn Fence.wide 9 P Q a w:=by
 refine wpIn_rangeFunc λfn hfn=>?_;obtain⟨D,hD⟩:=Iu w.heap.size;obtain⟨R,hR⟩:∃R:LoopState->Option Code->Loop,R=λst pe=>{state:=st,pending:=pe,fn,tmps:=a.tmps,params:=ps,assign,body,defers:=D}:=⟨_,rfl⟩
 have ag8:∀st pe st' pe',{R st pe with state:=st',pending:=pe'}=R st' pe':=by intros;rw[hR]
 obtain⟨V,hV⟩:=Iu ((w.alloc (.deferred (some []))).alloc (.loop (R .ready none)));have vl:V.heap[D+1]?=some (.loop (R .ready none)):=by have h:=World.alloc_heap_new (w.alloc (.deferred (some []))) (.loop (R .ready none));rw[bR,hD,hV] at h;exact h
 have vd:V.heap[D]?=some (.deferred (some [])):=by rw[<-hV,Below.heap_alloc _ _ _ (by rw[bR];omega),<-hD];exact World.alloc_heap_new w _
 have hIV:I [] V:=by rw[<-hV];exact(hI []).alloc _ ((hI []).alloc _ h0)
 have hbV:Below w0 w0 V:=by rw[<-hV];exact(gu.alloc gu.size _).alloc (by rw[bR];have:=gu.size;omega) _
 have uo:∀(A:World) (r:Loop) (jump:Option Code),A.heap[D+1]?=some (.loop r)->(A.putObj (D+1) (.loop {r with state:=if jump.isNone then .ready else .done,pending:=jump})).heap[D+1]?=some (.loop {r with state:=if jump.isNone then .ready else .done,pending:=jump}):=
  λA r jump h=>World.putObj_heap_same (oO h)
 refine⟨D+1,[{target:= .collected D,args:=#[]}],V,{target:= .fn (.func gf) lb,args:=#[.func (.yield (D+1)) #[] #[]]},V,gf,#[.func (.yield (D+1)) #[] #[]]++lb,V,?_,?_,λ_ _=>trivial,?_,Ed,?_⟩
 .have h:=run_enterLoop_outer (P:=P) (w:=w) fn a.tmps ps assign body;rw[hD] at h;rw[<-hV,hR];exact h
 .simp only[resolve,hg];simp[go_sem]
 .simp[invoke,go_sem,eg]
 .refine(wK (D+1) (λpre W=>I pre W/\W.heap[D+1]?=some (.loop (R .ready none))/\W.heap[D]?=some (.deferred (some [])))
   (λpre W=>∃k,Ix k pre W/\W.heap[D+1]?=some (.loop (R .done (some k)))/\W.heap[D]?=some (.deferred (some []))) V hbV ?_ ?_ ?_ ⟨hIV,vl,vd⟩).mono ?_
  .rintro pre A B ⟨h1,h2,h3⟩ EX;exact⟨(hI pre).one A B h1 EX,Hq h2 EX ae,Hq h3 EX ae⟩
  .rintro pre A B ⟨k,h1,h2,h3⟩ EX;exact⟨k,(Xo k pre).one A B h1 EX,Hq h2 EX ae,Hq h3 EX ae⟩
  .rintro pre x A ⟨hi,hl,hd⟩ iJ;refine⟨fn,_,assign,body,by have h:=run_yield (P:=P) (args:=encs x) hl (by rw[hR];exact hps x);rw[hR] at h;exact h,roundIn_of_wpIn hfn (xy _ x A _ ?_)⟩;refine⟨_,run_beginRound hl (by rw[hR]),?_⟩;obtain⟨A2,Bg⟩:∃A2,A.putObj (D+1) (.loop {R .ready none with state:= .busy})=A2:=⟨_,rfl⟩
   have al:A2.heap[D+1]?=some (.loop {R .ready none with state:= .busy}):=by rw[<-Bg];exact World.putObj_heap_same (oO hl)
   have ad:A2.heap[D]?=some (.deferred (some [])):=by rw[<-Bg];exact(cF ae).trans hd
   have ac:A2.heap[c]?=A.heap[c]?:=by rw[<-Bg];exact cF ae
   have ab:Below n0 A A2:=by rw[<-Bg];exact gW _ ae
   have ai:I pre A2:=by rw[<-Bg];exact(hI pre).turn _ ae hi hl rfl
   rw[Bg];refine wpIn_mono (LW _ pre x A2 ai iJ) ?_;intro e a3 B hp
   cases e with
   |normal=>
    obtain⟨h1,h2,h3,h4⟩:=hp;have bl:=h1.same _ _ al rfl;have bd:=h1.same _ _ ad rfl;refine⟨_,_,run_endRound none bl,.inl ⟨rfl,⟨(hI _).turn _ ae h4 bl rfl,?_,(cF ae).trans bd⟩,(ab.trans h2).trans (gW _ ae),?_⟩⟩
    .rw[uo B _ none bl,hR];rfl
    .rw[cF ae,h3,ac]
   |ret=>
    obtain⟨h1,h4⟩:=hp;have bl:=h1.same _ _ al rfl;have bd:=h1.same _ _ ad rfl;refine⟨_,_,run_endRound (some .ret) bl,.inr ⟨rfl,.ret,(Xo _ _).turn _ ae h4 bl rfl,?_,(cF ae).trans bd⟩⟩;rw[uo B _ (some .ret) bl,hR];rfl
   |exit id=>
    obtain⟨h1,h4⟩:=hp;have bl:=h1.same _ _ al rfl;have bd:=h1.same _ _ ad rfl;refine⟨_,_,run_endRound (some (.exit id)) bl,.inr ⟨rfl,.exit id,(Xo _ _).turn _ ae h4 bl rfl,?_,(cF ae).trans bd⟩⟩;rw[uo B _ (some (.exit id)) bl,hR];rfl
   |goto t=>
    obtain⟨h1,h4⟩:=hp;have bl:=h1.same _ _ al rfl;have bd:=h1.same _ _ ad rfl;refine⟨_,_,run_endRound (some (.goto t)) bl,.inr ⟨rfl,.goto t,(Xo _ _).turn _ ae h4 bl rfl,?_,(cF ae).trans bd⟩⟩;rw[uo B _ (some (.goto t)) bl,hR];rfl
   |panic ch=>exact hp.elim
   |outgrown=>exact hp.elim
  .rintro e B ⟨⟨v,rfl⟩,h|⟨pre,iJ,k,h1,bl,bd⟩⟩
   .obtain⟨h1,bl,bd⟩:=h;refine⟨none,_,by have h:=run_endLoop (P:=P) bl (by rw[hR];simp);rw[hR] at h;exact h,?_⟩;exact LZ D _ ae ((hI _).turn _ ae h1 bl rfl) ((cF ae).trans bd)
   .refine⟨some k,_,by have h:=run_endLoop (P:=P) bl (by rw[hR];simp);rw[hR] at h;exact h,?_⟩;exact Xp D k pre _ ae iJ ((Xo k pre).turn _ ae h1 bl rfl) ((cF ae).trans bd)
theorem qp {α f F fuel P w ops rest o ac Q} (mF:o.guard=none) s x t
  (ho:o.op= .call {callee:= .builtin .append,args:=#[s,x],argTypes:=#[t,t]})
  base e i z bytes (ht:P.underlying t=some (.slice e)) (hi:P.info? e=some i) (hz:i.zero=some z)
  (oU:i.size=1) (hby:i.bytes=bytes) (hzs:z.cells.size=1) (hf:∀x,(f x).oneCell'=true)
  v xs (hs:ac.eval s=v) (bz:Own f e w base v xs) B a m c (ys:List α) (hx:ac.eval x=an a m c) (hy:jq f w B a m ys)
  (fB:(xs.length+m)*bytes<=140737488355328) (h63:xs.length+m<=maxLen) (dE:base<=w)
  (h:∀v' w',Own f e w' base v' (xs++ys)->w.grownBy w' v.ownBlock->(v'.ownBlock=v.ownBlock\/v'.ownBlock=some w.heap.size)->wpListIn F fuel P ops Q rest (ac.put o.dst v') w'):wpListIn F fuel P ops Q (o::rest) ac w:=by
 refine wpListIn_plain mF λK hK=>?_;obtain⟨v',w',bF,h2,h3,h4⟩:=yA (P:=P) w base t o.type e i z bytes ht hi hz oU hby hzs hf v xs bz B a m c ys hy fB h63 dE;unfold Oper.wpIn;refine⟨?_,?_⟩
 .simp[Oper.about,ho,resolve,Target.leads,Sem.run_pure]
 .rw[Oper.semAt_plain F _ _ (by rw[ho];intro c hc;cases hc)];simp only[execOp,ho,resolve,invoke,builtin,Sem.run_bind,Sem.run_pure,Result.andThen_ok,List.map_toArray,cE,List.map_nil,hs,hx,bF,Oper.uponIn_value];exact hK _ _ (h v' w' h2 h3 h4)
theorem Own.Sj {α f e w base r v} {xs:List α} (h:Own f e w base v xs) (hr:r<base\/∃o,w.heap[r]?=some o/\o.isCells=false):v.ownBlock≠some r:=by
 rcases h.2 with⟨rfl,_⟩|⟨g,cap,cur,rfl,jf,hg,_⟩
 .intro e;cases e
 .intro e;have e2:g=r:=Option.some.inj e;subst e2;rcases hr with h1|⟨o,ho,hc⟩
  .omega
  .rw[hg] at ho;cases ho;cases hc
theorem Own.jB {α f e base c B v} {xs:List α} (hc:c<base):dF c B (λW=>Own f e W base v xs):=λW W' r h hg hr=>
 h.grown hg (.inr (h.Sj (by rcases hr with rfl|⟨_,ho⟩;exact .inl hc;exact .inr ho)))
theorem aF.jB {g c B t cs} (di:g≠c):dF c B (λW=>aF W g t cs):=λW W' r h hg hr=>by
 refine h.grown hg λe=>?_;have e2:g=r:=Option.some.inj e;subst e2;rcases hr with h1|⟨_,o,ho,hc⟩
 .exact di h1
 .unfold aF at h;rw[h] at ho;cases ho;cases hc
theorem mX {w n0 c B} (hc:n0<=c) (hB:n0<=B) (hn:n0<=w.heap.size):dF c B (λW=>Below n0 w W):=λW W' r h hg hr=>
 h.grown hg (bB hn h.size) (λk e=>by have e2:r=k:=Option.some.inj e;subst e2;rcases hr with rfl|⟨h1,_⟩<;>omega)
theorem Own.af5 {α f e w base v} {xs:List α} (h:Own f e w base v xs):∀j o,v.ownBlock=some j->w.heap[j]?=some o->o.isCells=true:=by
 intro j o hj ho;rcases h.2 with⟨rfl,_⟩|⟨g,cap,cur,rfl,jf,hg,_⟩
 .cases hj
 .have e2:g=j:=Option.some.inj hj;subst e2;rw[hg] at ho;cases ho;rfl
theorem below_drewN {n0} w k:Below n0 w (w.drewN k):=⟨rfl,rfl,rfl,bp _,λ_ _=>rfl⟩
theorem dF.and {c B I J} (h:dF c B I) (k:dF c B J):dF c B (λW=>I W/\J W):=λW W' r hi hg hr=>⟨h W W' r hi.1 hg hr,k W W' r hi.2 hg hr⟩
theorem dF.ex {α:Type} {c B} {I:α->World->Prop} (h:∀x,dF c B (I x)):dF c B (λW=>∃x,I x W):=λW W' r ⟨x,hi⟩ hg hr=>⟨x,h x W W' r hi hg hr⟩
theorem G5 {n c B}:dF c B (λW=>n<=W.heap.size):=λ_ _ _ h hg _=>bB h hg.size
theorem dF.pure {c B} p:dF c B (λ_=>p):=λ_ _ _ h _ _=>h
theorem gG W g o v:KeepsOthers W (W.setCell ⟨g,o,none⟩ v):=KeepsOthers.setCell _ _ _
def IY (l:List UInt8):Value:= .string (aX l)
theorem Sl l:IY l= .string (aX l):=rfl
theorem ag9 l:(IY l).oneCell'=true:=rfl
theorem Xq l:(aX l).toList=l:=by rw[Lib.toList_data];rfl
theorem adR l:(aX l).data.toList=l:=rfl
theorem qR l:(aX l).size=l.length:=rfl
theorem Gt a b:aX a++aX b=aX (a++b):=by apply ByteArray.ext;rw[ByteArray.data_append];simp[aX]
theorem aha l i (h:i<(aX l).size):(aX l)[i]=l[i]'(by rw[qR] at h;exact h):=by show(aX l).data[i]=_;simp[aX]
attribute [go_sem] Sl qR Xq Gt aha
namespace ed
def xA (c:UInt8):= !(c==0)&& !(c==47)
def nameB l:= !(l==[])&&decide (l.length<=13)&& !(l==[46])&& !(l==[46,46])&&l.all xA
def oh (l:List UInt8):Int:=if nameB l then 0 else 31
end ed
theorem O5 (l:List UInt8) p k h:(l.take (k+1)).all p=((l.take k).all p&&p l[k]):=by rw[ei h,List.all_append];simp
theorem aau c:ed.xA c=true↔((c.toNat:Int)==0)=false/\((c.toNat:Int)==47)=false:=by
 unfold ed.xA;rw[du,Bool.not_eq_true',Bool.not_eq_true',ew,ew,ew,ew];constructor
 .rintro⟨h1,h2⟩;refine⟨λh=>h1 ?_,λh=>h2 ?_⟩
  .apply UInt8.toNat_inj.1;show c.toNat=0;omega
  .apply UInt8.toNat_inj.1;show c.toNat=47;omega
 .rintro⟨h1,h2⟩;refine⟨λh=>h1 ?_,λh=>h2 ?_⟩
  .subst h;rfl
  .subst h;rfl
theorem zW l (h:¬(l≠[]/\l.length<=13/\l≠[46]/\l≠[46,46]/\l.all ed.xA=true)):ed.oh l=31:=by
 unfold ed.oh;rw[eo];intro hb;apply h
 simpa[ed.nameB,and_assoc] using hb
theorem aav l (h:l≠[]/\l.length<=13/\l≠[46]/\l≠[46,46]/\l.all ed.xA=true):ed.oh l=0:=by
 unfold ed.oh;rw[ev]
 simpa[ed.nameB,and_assoc] using h
theorem BJ l w (hl:l.length<=140737488351232):
  Calls prog 153 #[.string (aX l)] w λe w'=>e=ar (O aa (ed.oh l))/\w=w':=by
 by_cases h0:l=[]
 .subst h0;have hv:ed.oh []=31:=aB;rw[hv];clear hv
  go_in
  go_wp2;go_ret;exact⟨rfl,rfl⟩
 have g0:(l==[])=false:=by simpa using h0
 have g0':l.isEmpty=false:=by simpa using h0
 by_cases h1:13<l.length
 .have g1:decide (13<(l.length:Int))=true:=ez ae;rw[zW l (λh=>ae)];clear h0 h1
  go_in
  go_wp2;go_ret;exact⟨rfl,rfl⟩
 have g1:decide (13<(l.length:Int))=false:=ey ae;by_cases h2:l=[46]
 .have g2:(l==[46])=true:=by rw[h2];rfl
  rw[zW l (λh=>h.2.2.1 h2)];clear h0 h1 h2
  go_in
  go_wp2;go_ret;exact⟨rfl,rfl⟩
 have g2:(l==[46])=false:=by simpa using h2
 by_cases h3:l=[46,46]
 .have g3:(l==[46,46])=true:=by rw[h3];rfl
  rw[zW l (λh=>h.2.2.2.1 h3)];clear h0 h1 h2 h3
  go_in
  go_wp2;go_ret;exact⟨rfl,rfl⟩
 have g3:(l==[46,46])=false:=by simpa using h3
 obtain⟨HG,HB⟩:=cn (λh=>aav l ⟨h0,ae,h2,h3,h⟩) (λ(h:¬l.all ed.xA=true)=>zW l (λhh=>h hh.2.2.2.2));obtain⟨E,hE⟩:=aW (ed.oh l);rw[<-hE] at HG HB⊢;clear h0 h1 h2 h3 hE
 go_in
 go_wp2
 go_loop [3,21] (λ_ i=>∃k:Nat,k<=l.length/\i=O aa k/\(l.take k).all ed.xA=true) (λ_ i=>l.length-(intOf i).toNat)
 case atStart=>exact⟨0,ae,rfl,rfl⟩
 case round=>
  obtain⟨k,hk,rfl,FV⟩:=hrel;have HA:=ag FV;clear FV;by_cases aT:k<l.length
  .obtain⟨HT,HK,HM⟩:=cp (O5 l ed.xA k aT) (aau l[k]) (cS aT);have hb:=(l[k]).toNat_lt
   cases hc:ed.xA l[k]
   .have hbad:=ag (HB.o (λh=>by have h2:=List.all_eq_true.1 h _ HM.o;rw[hc] at h2;cases h2));have Vb:((l[k].toNat:Int)==0)=true\/((l[k].toNat:Int)==47)=true:=by
     cases h1:((l[k].toNat:Int)==0)
     .cases h2:((l[k].toNat:Int)==47)
      .have:=HK.o.2 ⟨h1,h2⟩;rw[hc] at this;cases this
      .exact .inr rfl
     .exact .inl rfl
    clear hc
    cases hz:((l[k].toNat:Int)==0)
    .rcases Vb with h|h
     .rw[hz] at h;cases h
     .go_wp2;go_ret;exact⟨by rw[hbad.o];rfl,rfl⟩
    .clear Vb;go_wp2;go_ret;exact⟨by rw[hbad.o];rfl,rfl⟩
   .obtain⟨z1,z2⟩:=HK.o.1 hc;rw[hc] at HT;clear hc;go_wp2
    go_round
    case rel=>exact⟨k+1,ae,by go_num,by rw[HT.o,HA.o];rfl⟩
    case measure=>simp[intOf];omega
  .obtain rfl:k=l.length:=ae;have hg:=ag (HG.o (by have:=HA.o;rw[List.take_length] at this;exact this));go_wp2;go_ret;exact⟨by rw[hg.o];rfl,rfl⟩
theorem awu:(prog.info? 9).map (λi=>(i.zero,i.size,i.bytes))=some (some (.string ByteArray.empty),1,16):=az
section
variable {w:World} {ops:Array Oper} {rest:List Oper} {o:Oper} {ac:Act} {Q:Exit->Act->World->Prop}
end
theorem OB {F fuel w ops rest o ac Q cs} (mF:o.guard=none) s x
  (ho:o.op= .call {callee:= .builtin .append,args:=#[s,x],argTypes:=#[100,100]}) base
  v xs (hs:ac.eval s=v) (bz:Own IY 9 w base v xs) m g ys (hx:ac.eval x=an (g,0) m m) (hgg:g=w.heap.size) (hm:ys.length=m) (gm:cs=(ys.map IY).toArray)
  (fB:(xs.length+m)*16<=140737488351232) (dE:base<=w)
  (h:∀v' w',Hid (Own IY 9 w' base v' (xs++ys))->Hid (Below base w w')->Hid ((w.alloc (.cells cs 9)).grownBy w' v.ownBlock)->wpListIn F fuel prog ops Q rest (ac.put o.dst v') w'):wpListIn F fuel prog ops Q (o::rest) ac (w.alloc (.cells cs 9)):=by
 subst hgg;obtain⟨i0,hi,qm,tZ,tu⟩:=info_parts awu;exact qp mF s x 100 ho base 9 i0 _ 16 Tryz.underlying100 hi qm tZ tu rfl ag9 v xs hs (bz.alloc _) _ _ m m ys hx (jq.lit w 9 ys m hm ae gm) ae (by simp only[maxLen];omega) (by simp;omega) λv' w' h1 h2 _=>
  h v' w' (ag h1) (ag (((aE base w).alloc dE _).trans (kD (aE base _) (bz.alloc _) h2 (by simp;omega)))) (ag h2)
theorem Tz l:Lib.byteCells l=l.map aJ:=rfl
theorem BU {w base g L C off xs} (bz:Own aJ 5 w base (an (some ⟨g,0,none⟩) L C) xs) ys (hm:off+ys.length<=L):
  ∃cur,w.heap[g]?=some (.cells cur 5 (0,0))/\cur.size=C/\L<=C/\Own aJ 5 (w.setRow g (cur.toList.take off++ys.map aJ++cur.toList.drop (off+ys.length)).toArray) base (an (aw g 0) L C) (xs.take off++ys++xs.drop (off+ys.length))/\base<=g:=by
 rcases bz.2 with⟨hv,_⟩|⟨g',cap,cur,hv,jf,hg,pR,hmx,iG,ht⟩
 .cases hv
 .injection hv with e1 e2 e3
  injection e1 with e1
  injection e1 with e1
  subst e1 e3;have NI:xs.length=L:=e2.symm;have uF:cur.toList.length=C:=by simpa using iG
  rw[NI] at pR ht;have gm:(ys.map aJ).length=ys.length:=bO _;refine⟨cur,hg,by simpa using iG,pR,?_,jf⟩;have hlen:(xs.take off++ys++xs.drop (off+ys.length)).length=L:=by simp only[bE,cI,dk,NI];omega
  have hsp:cur.toList.take off++ys.map aJ++cur.toList.drop (off+ys.length)=splice cur.toList off (ys.map aJ):=by unfold splice;rw[gm,cQ]
  rw[hsp];refine⟨by rw[bO,da],.inr ⟨g,C,(splice cur.toList off (ys.map aJ)).toArray,by rw[hlen],jf,setRow_heap w g cur _ 5 _ hg,by rw[hlen];exact pR,hmx,?_,?_⟩⟩
  .rw[cU,length_splice _ _ _ (by rw[gm,uF];omega),uF,da]
  .rw[hlen];show(splice cur.toList off (ys.map aJ)).take (L*1)=_;rw[da,uf _ _ _ _ (by rw[gm];omega) (by rw[uF];omega)];have ht':cur.toList.take L=xs.map aJ:=by simpa using ht
   rw[ht',gm,cA,cA,List.map_take,List.map_drop]
theorem aaw {w ops o a K Q E} (mF:o.guard=none) d s
  (ho:o.op= .call {callee:= .builtin .copy,args:=#[d,s],argTypes:=#[23,9]}) base g L C off l c xs
  (hd:a.eval d=an (g,off) l c) (bz:Own aJ 5 w base (an (g,0) L C) xs)
  ys (hs:a.eval s= .string (aX ys)) (hm:off+ys.length<=L) (hl:ys.length<=l)
  (h:∀w',Hid (Own aJ 5 w' base (an (aw g 0) L C) (xs.take off++ys++xs.drop (off+ys.length)))->Hid (Below base w w')->K (a.put o.dst (goInt ys.length)) w'):
  if Region.wanted o (yielded ops a.tmps)=true then Oper.wp prog o a w K Q else E:=by
 have hw:Region.wanted o (yielded ops a.tmps)=true:=by simp[Region.wanted,mF]
 rw[ev hw];obtain⟨cur,hg,iG,hLC,AO,jf⟩:=BU bz ys hm;have bF:=Lib.run_copy_row_string (P:=prog) w 23 9 o.type 5 g off l c (aX ys) cur 5 Tryz.underlying23 Fa hg (by rw[qR];exact hl) (by rw[qR];omega);rw[qR,adR,Tz] at bF;unfold Oper.wp;simp[execOp,ho,resolve,invoke,builtin,hd,hs,bF,Result.andThen];refine h _ (hid ?_) (ag (below_setRow (aE _ _) jf _))
 simpa using AO
theorem aqP w:(zeroValue 5).run prog w= .ok (O .u8 0) w:=az
theorem aax w ty g off m c cur (hg:w.heap[g]?=some (.cells cur 5 (0,0))) (hm:0<m) (aCI:off+m<=cur.size):
  (Builtin.clear_ #[23] ty #[an (g,off) m c]).run prog w= .ok (ao #[]) (w.setRow g (cur.toList.take off++(bt m 0).map aJ++cur.toList.drop (off+m)).toArray):=by
 have hzc:(Builtin.zeroCells (Value.int .u8 0).cells m).toList=(bt m (0:UInt8)).map aJ:=by
  rw[List.map_replicate];show(Builtin.zeroCells #[Value.int .u8 0] m).toList=_;simp[Builtin.zeroCells];apply List.ext_getElem
  .simp
  .intro i h1 h2;simp[Nat.mod_one,aJ]
 have hst:=run_storeCells_at prog g off 5 ((bt m (0:UInt8)).map aJ) 0 cur w hg (by simpa using aCI) (by intro v hv';rw[List.map_replicate] at hv';rw[List.eq_of_mem_replicate hv'];rfl);rw[bO,dx] at hst;simp only[Nat.add_zero] at hst;obtain⟨k,rfl⟩:∃k,m=k+1:=⟨m-1,ae⟩
 have hz:=λw=>aqP w;simp[Builtin.clear_,run_underlying Tryz.underlying23,hz,hzc];rw[List.map_replicate] at hst;rw[hst];simp
theorem Ou {w ops rest o ac Q} (mF:o.guard=none) d
  (ho:o.op= .call {callee:= .builtin .clear,args:=#[d],argTypes:=#[23]}) base g L C off xs ad dl dc
  (hd:ac.eval d=an ad dl dc) (had:ad=iQ (g,0) C off) (bz:Own aJ 5 w base (an (g,0) L C) xs)
  (hm:off+dl<=L) (hp:0<dl)
  (h:∀w',Hid (Own aJ 5 w' base (an (aw g 0) L C) (xs.take off++bt dl 0++xs.drop (off+dl)))->Hid (Below base w w')->wpList prog ops Q rest (ac.put o.dst (ao #[])) w'):wpList prog ops Q (o::rest) ac w:=by
 obtain⟨cur,hg,iG,hLC,AO,jf⟩:=BU bz (bt dl (0:UInt8)) (by rw[dx];exact hm);rw[dx] at AO;have aqQ:ad=(g,off):=by rw[had,iQ,eo ae];show some (((g,0):Addr).add off)=_;rw[Addr.add_mid,Nat.zero_add]
 subst aqQ;have bF:=aax w o.type g off dl dc cur hg hp ae;refine wpList_plain mF λK hK=>?_;unfold Oper.wp;simp[execOp,ho,resolve,invoke,builtin,hd,bF,Result.andThen];refine hK _ _ (h _ (hid ?_) (ag (below_setRow (aE _ _) jf _)))
 simpa using AO
def Grew (X:Nat->Prop) (W:World) (X':Nat->Prop):=∀q,X' q->X q\/W<=q
structure JX {α:Type} (T:Nat->Prop) n (J:List α->(Nat->Prop)->World->Prop):Prop where
 bd:∀pre X W,J pre X W->∀q,X q->q<W
 kq:∀pre X W W' T',J pre X W->Kq T' W W'->(∀q,T' q->(T q\/n<=q)/\¬X q)->J pre X W'
theorem JX.mono {α T n m} {J:List α->(Nat->Prop)->World->Prop} (h:JX T n J) (hm:n<=m):JX T m J:=
 ⟨h.bd,λpre X W W' T' h1 h2 h3=>h.kq pre X W W' T' h1 h2 λq hq=>⟨(h3 q hq).1.imp id (bB hm),(h3 q hq).2⟩⟩
theorem JX.on {α T n J} (h:JX T n J) {pre:List α} {X W W'} (h1:J pre X W) (hb:Below W W W'):J pre X W':=
 h.kq pre X W W' (λ_=>False) h1 (Kq.of hb) λ_ h=>h.elim
theorem Grew.refl X W:Grew X W X:=λ_ h=> .inl h
theorem Grew.trans {X X1 X2 W W1} (h:Grew X W X1) (k:Grew X1 W1 X2) (hs:W<=W1.heap.size):Grew X W X2:=λq hq=>by
 rcases k q hq with h1|h1
 .exact h q h1
 .exact .inr ae
theorem Grew.not {X X' W} (h:Grew X W X') {q} (hq:¬X q) (hl:q<W):¬X' q:=λh1=>by
 rcases h q h1 with h2|h2
 .exact hq h2
 .omega
theorem wo W l o:Kq (λq=>q=l) W (W.putObj l o):=
 ⟨rfl,rfl,rfl,by rw[World.putObj_size];exact bp _,λk _ hn=>cF (λe=>hn e)⟩
section
variable {c B:Nat} {I J:World->Prop}
end
end
section
open RowKit Maps
section
variable {F:Fence} {n:Nat} {P:Program} {w:World} {ops:Array Oper} {rest:List Oper} {o:Oper} {a:Act} {Q:Exit->Act->World->Prop}
theorem jQ (hg:o.guard=none) m t (wJ:o.op=Op.range t m) k e (ht:P.underlying t=some (.map k e)) b l (hm:a.eval m= .map (some b)) (h:MapAt P k w b l)
  (hK:∀w',fQ P k w' b w l []->Below w w w'->w'=w.heap.size+1->wpListIn F n P ops Q rest (a.put o.dst w) w'):
  wpListIn F n P ops Q (o::rest) a w:=by
 refine wpListIn_plain hg λK' hK'=>?_;obtain⟨w',bF,r1,r2,r3⟩:=h.range ht;unfold Oper.wpIn;refine⟨?_,?_⟩
 .simp[Oper.about,wJ]
 .rw[Oper.semAt_plain F _ _ (by grind)];simp[execOp,wJ,hm,bF,Result.andThen];exact hK' _ _ (hK w' r1 r2 r3)
theorem kH (hg:o.guard=none) it (wJ:o.op=Op.next it false) k b r l d (wK:a.eval it= .pointer (some ⟨r,0,none⟩)) (h:fQ P k w b r l d)
  (KD:d.Perm l->wpListIn F n P ops Q rest (a.put o.dst (ao #[aq false])) w)
  (KE:∀p w',p∈l->p∉d->fQ P k w' b r l (d++[p])->w.grownBy w' (some r)->w'=w.heap.size->w'.rangeLeft b r<w.rangeLeft b r->(Instr.entry r).run P w'= .ok (ao #[p.1,p.2]) w'->wpListIn F n P ops Q rest (a.put o.dst (ao #[aq true,p.1,p.2])) w'):
  wpListIn F n P ops Q (o::rest) a w:=by
 refine wpListIn_plain hg λK' hK'=>?_;unfold Oper.wpIn;refine⟨by simp[Oper.about,wJ],?_⟩;rw[Oper.semAt_plain F _ _ (by grind)];rcases h.next o.type with⟨h0,bF⟩|⟨p,w',h1,h2,bF,h3,h4,h5,h6,h7⟩
 .simp[execOp,wJ,wK,bF,Result.andThen];exact hK' _ _ (KD h0)
 .simp[execOp,wJ,wK,bF,Result.andThen];exact hK' _ _ (KE p w' h1 h2 h3 h4 h5 h6 h7)
end
theorem fQ.walks {P k w w' b r l d} (h:fQ P k w b r l d) (hk:KeepsWalks w w'):fQ P k w' b r l d/\w'.rangeLeft b r=w.rangeLeft b r:=by
 obtain⟨es,clock,since,seen,c0,h1,h2,h3,_⟩:=id h;have e1:w'.heap[b]?=w.heap[b]?:=by rw[h1];exact hk.same _ _ h1 rfl
 have e2:w'.heap[r]?=w.heap[r]?:=by rw[h3];exact hk.same _ _ h3 rfl
 grind[fQ.same,oG]
theorem fQ.Xh {P k w b r l d} (h:fQ P k w b r l d):∃o,w.heap[r]?=some o/\o.isWalk=true:=by obtain⟨es,clock,since,seen,c0,_,_,h3,_⟩:=h;exact⟨_,h3,rfl⟩
theorem fQ.few {P k w b r l d} (h:fQ P k w b r l d):d.length<=l.length:=by
 obtain⟨es,clock,since,seen,c0,_,_,_,_,_,_,_,_,_,J6,Zg,_⟩:=h;have h9:∀{d l:List (Value×Value)},d.Nodup->(∀p∈d,p∈l)->d.length<=l.length:=by
  intro d
  induction d with
  |nil=>grind
  |cons x t ih=>
   intro l hn hs;obtain⟨l1,l2,rfl⟩:=List.append_of_mem (hs x au);rw[cR] at hn;have:=ih (l:=l1++l2) hn.2 λy hy=>by
    grind
   grind
 exact h9 Zg J6
theorem WI mb w:Calls prog 200 #[.map mb] w λe w'=>e=ar (.func (.func 243) #[] #[w])/\w.alloc (.cells #[.map mb] 222)=w':=by
 go_in
 go_wp2;go_ret;exact⟨rfl,rfl⟩
theorem WO {α w Bm b l enc} {dec:Value->α} (hB:aF w Bm 153 #[.map (some b)]) (hm:MapAt prog 3 w b l) (hed:∀x,dec (enc x)=x) (hk:∀p∈l,∃x,p.1=enc x):
  SeqGives Fence.wide 8 prog 205 #[Bm] enc (λss=>ss.Perm (l.map λp=>dec p.1)) l.length w:=by
 intro lp J W hW hJ hY h0;have hc:=(hB.ah hW).aj (i:=0) rfl;have hmW:=hm.on hW;obtain⟨HK,HD,HY,HJ⟩:=cr hk hed hY hJ;clear hB hm hk hed hY hJ hW;refine callsIn_of_wp Tryz.func205 rfl trivial ?_ rfl;simp only[Tryz.ntmps205,cU,cD,cV,Nat.reduceAdd,Nat.reduceSub,dT,ee,List.push_toArray,ef,cP,dj]
 gi_wp2_with (first
  |(gi_at_range;refine jQ rfl _ 153 rfl 3 23 Tryz.underlying153 b l rfl hmW ?_;intro w0 Xi gu ET)
  |gi_in)
 have hj0:=HJ.o [] _ _ none h0 ⟨gu.os,gu.tape,gu.output,gu.size,λk hk _=>gu.block k hk⟩ (λr e=>by cases e);obtain⟨ZH,YS⟩:=cn hj0 Xi;clear hj0 h0 Xi gu ET hmW;go_frame
 gi_loopw [3] (λ_ wr=>∃(d:List (Value×Value)) (ss:List α),fQ prog 3 wr b W l d/\d.map Prod.fst=ss.map enc/\J ss wr) (λ_ wr=>wr.rangeLeft b W)
 case atStart=>exact⟨[],[],YS,rfl,ZH⟩
 case round=>
  obtain⟨d,ss,hrg,hds,hjs⟩:=hrel;clear ZH YS;obtain⟨HDs,HJs⟩:=cn hds hjs;clear hds hjs
  gi_wp2_with (first
   |(gi_at_next;refine kH rfl _ rfl 3 b W l d rfl hrg ?_ ?_)
   |gi_in)
  .intro hp
   gi_wp2
   go_end0;refine⟨⟨_,rfl⟩,ss,?_,HJs⟩;have h1:=(hp.map Prod.fst).map dec;rw[HDs.o,cW,cW] at h1;have h2:List.map (dec∘enc) ss=ss:=by
    conv=>rhs;rw[<-List.map_id ss]
    exact dp λx _=>HD.o x
   rw[h2] at h1;exact h1
  .intro p1 p2 w2 uh hpd Ec nH mQ aT hen;obtain⟨p,hpe⟩:=aW ((p1,p2));obtain⟨x,hx⟩:=HK.o _ uh;obtain rfl:p1=_:=hx;rw[<-hpe] at Ec;have HX:=ag (show p.1=enc x from by rw[hpe]);have DN:=Ec.few;have hlen:ss.length<l.length:=by have:=congrArg List.length HDs.o;rw[bO,bO] at this;rw[bE,List.length_singleton] at DN;omega
   have hJ2:=HJ.o ss wr w2 (some W) HJs.o nH (λr e=>by cases e;exact⟨bp _,hrg.Xh⟩);obtain⟨fn,tmps,assign,body,hy,hR⟩:=HY.o ss x w2 hJ2 hlen;obtain⟨Xj,HLt⟩:=cn Ec aT;clear mQ hlen DN hrg uh hpd nH hpe aT Ec
   gi_wp2
   refine hR.mono ?_;rintro e W3 ⟨rfl,hJ3,mr⟩;have h3:=Xj.walks mr;obtain⟨CY,wR⟩:=cn h3.1 h3.2;clear h3 mr
   gi_wp2
   go_roundw
   case rel=>exact⟨d++[p],ss++[x],CY,by rw[cA,cA,HDs.o];simp[HX.o],hJ3⟩
   case measure=>rw[wR.o];exact HLt.o
theorem WQ mb w:Calls prog 146 #[.map mb] w λe w'=>e=ar (.func (.func 205) #[] #[w])/\w.alloc (.cells #[.map mb] 153)=w':=by
 go_in
 go_wp2;go_ret;exact⟨rfl,rfl⟩
theorem Wj {α w Bm b l enc} {dec:Value->α} (hB:aF w Bm 152 #[.map (some b)]) (hm:MapAt prog 3 w b l) (hed:∀x,dec (enc x)=x) (hk:∀p∈l,∃x,p.1=enc x):
  SeqGives Fence.wide 8 prog 231 #[Bm] enc (λss=>ss.Perm (l.map λp=>dec p.1)) l.length w:=by
 intro lp J W hW hJ hY h0;have hc:=(hB.ah hW).aj (i:=0) rfl;have hmW:=hm.on hW;obtain⟨HK,HD,HY,HJ⟩:=cr hk hed hY hJ;clear hB hm hk hed hY hJ hW;refine callsIn_of_wp Tryz.func231 rfl trivial ?_ rfl;simp only[Tryz.ntmps231,cU,cD,cV,Nat.reduceAdd,Nat.reduceSub,dT,ee,List.push_toArray,ef,cP,dj]
 gi_wp2_with (first
  |(gi_at_range;refine jQ rfl _ 152 rfl 3 3 Tryz.underlying152 b l rfl hmW ?_;intro w0 Xi gu ET)
  |gi_in)
 have hj0:=HJ.o [] _ _ none h0 ⟨gu.os,gu.tape,gu.output,gu.size,λk hk _=>gu.block k hk⟩ (λr e=>by cases e);obtain⟨ZH,YS⟩:=cn hj0 Xi;clear hj0 h0 Xi gu ET hmW;go_frame
 gi_loopw [3] (λ_ wr=>∃(d:List (Value×Value)) (ss:List α),fQ prog 3 wr b W l d/\d.map Prod.fst=ss.map enc/\J ss wr) (λ_ wr=>wr.rangeLeft b W)
 case atStart=>exact⟨[],[],YS,rfl,ZH⟩
 case round=>
  obtain⟨d,ss,hrg,hds,hjs⟩:=hrel;clear ZH YS;obtain⟨HDs,HJs⟩:=cn hds hjs;clear hds hjs
  gi_wp2_with (first
   |(gi_at_next;refine kH rfl _ rfl 3 b W l d rfl hrg ?_ ?_)
   |gi_in)
  .intro hp
   gi_wp2
   go_end0;refine⟨⟨_,rfl⟩,ss,?_,HJs⟩;have h1:=(hp.map Prod.fst).map dec;rw[HDs.o,cW,cW] at h1;have h2:List.map (dec∘enc) ss=ss:=by
    conv=>rhs;rw[<-List.map_id ss]
    exact dp λx _=>HD.o x
   rw[h2] at h1;exact h1
  .intro p1 p2 w2 uh hpd Ec nH mQ aT hen;obtain⟨p,hpe⟩:=aW ((p1,p2));obtain⟨x,hx⟩:=HK.o _ uh;obtain rfl:p1=_:=hx;rw[<-hpe] at Ec;have HX:=ag (show p.1=enc x from by rw[hpe]);have DN:=Ec.few;have hlen:ss.length<l.length:=by have:=congrArg List.length HDs.o;rw[bO,bO] at this;rw[bE,List.length_singleton] at DN;omega
   have hJ2:=HJ.o ss wr w2 (some W) HJs.o nH (λr e=>by cases e;exact⟨bp _,hrg.Xh⟩);obtain⟨fn,tmps,assign,body,hy,hR⟩:=HY.o ss x w2 hJ2 hlen;obtain⟨Xj,HLt⟩:=cn Ec aT;clear mQ hlen DN hrg uh hpd nH hpe aT Ec
   gi_wp2
   refine hR.mono ?_;rintro e W3 ⟨rfl,hJ3,mr⟩;have h3:=Xj.walks mr;obtain⟨CY,wR⟩:=cn h3.1 h3.2;clear h3 mr
   gi_wp2
   go_roundw
   case rel=>exact⟨d++[p],ss++[x],CY,by rw[cA,cA,HDs.o];simp[HX.o],hJ3⟩
   case measure=>rw[wR.o];exact HLt.o
theorem Wi mb w:Calls prog 180 #[.map mb] w λe w'=>e=ar (.func (.func 231) #[] #[w])/\w.alloc (.cells #[.map mb] 152)=w':=by
 go_in
 go_wp2;go_ret;exact⟨rfl,rfl⟩
end
section
open Shelf
def Xk:Go.Shelf.Ren:=⟨fun|125=>247|128=>275|129=>276|n=>n,fun|46=>196|3=>3|51=>64|53=>65|4=>4|5=>5|9=>9|n=>n,fun|n=>n⟩
theorem lays125:Go.Proofs.Lays.n125 prog Xk:={
 mixed:=az
 f125:=Tryz.func247.trans (congrArg some az)
 f128:=Tryz.func275.trans (congrArg some az)
 f129:=Tryz.func276.trans (congrArg some az)
 t3:=Tryz.underlying3
 a3:=Tryz.isAgg3
 z3:=Tryz.sizeOf3
 v3:=Tryz.zeroValue3
 t4:=Tryz.underlying4
 a4:=Tryz.isAgg4
 z4:=Tryz.sizeOf4
 v4:=Tryz.zeroValue4
 t5:=Tryz.underlying5
 a5:=Tryz.isAgg5
 z5:=Tryz.sizeOf5
 v5:=Tryz.zeroValue5
 t9:=Tryz.underlying9
 a9:=Tryz.isAgg9
 z9:=Tryz.sizeOf9
 v9:=Tryz.zeroValue9
 t46:=Tryz.underlying196
 a46:=Tryz.isAgg196
 z46:=Tryz.sizeOf196
 v46:=Tryz.zeroValue196
 t51:=Tryz.underlying64
 a51:=Tryz.isAgg64
 z51:=Tryz.sizeOf64
 v51:=Tryz.zeroValue64
 t53:=Tryz.underlying65
 a53:=Tryz.isAgg65
 z53:=Tryz.sizeOf65
 v53:=Tryz.zeroValue65}
theorem uS x w (h0:0<=x) (h1:x<=18446744073709551615):
  Calls prog 247 #[O .u64 x] w λe w'=>e=ar (O aa (Lib.bitLen x.toNat))/\w'=w:=Any.bits_Len lays125 x w h0 h1
end
section
open RowKit
def FT {α} (P:Program) (gf:Nat) (lb:Array Value) (enc:α->Value) (S:List α->Prop) (N:Nat) (own:Nat->Prop) w0:=
 ∀l J X W,JX (λ_=>False) W.heap.size J->Kq (λq=>¬own q) w0 W->(∀q,X q->¬own q)->(∀q,own q->q<w0)->
  (∀pre x X1 W1,J pre X1 W1->pre.length<N->YieldAt Fence.wide 7 P l #[enc x] W1 λe W'=>e=ar (aq true)/\(∃X',J (pre++[x]) X' W'/\Grew X1 W1 X')/\Kq X1 W1 W')->J [] X W->
  CallsIn Fence.wide 8 P gf (#[.func (.yield l) #[] #[]]++lb) W λe W'=>(∃v,e=ar v)/\(∃xs X',S xs/\J xs X' W'/\Grew X W X')/\Kq X W W'
def aqL {α:Type} (I:List α->(Nat->Prop)->World->Prop) (pre:List α) (X:Nat->Prop) (W:World):Exit->Act->World->Prop
 | .normal,_,W'=>(∃X',I pre X' W'/\Grew X W X')/\Kq X W W'
 | .ret,_,_=>False
 | .exit _,_,_=>False
 | .goto _,_,_=>False
 | .panic _,_,_=>False
 | .outgrown,_,_=>False
theorem Xl {α P g ps assign body Q a w} {gf:Nat} {lb enc S N own w0}
  (hg:a.eval g= .func (.func gf) #[] lb) (eg:∀args w,(callFunc gf args).run P w= .ok (.enter gf args) w) (wK:FT P gf lb enc S N own w0) (gu:Kq (λq=>¬own q) w0 w) (bz:∀q,own q->q<w0)
  (hps:ps.size=1) I (hI:JX (λ_=>False) w I) X (h0:I [] X w) (hX:∀q,X q->¬own q) (ag5:α->Act)
  (xy:∀l x W K,K (ag5 x) W->assign.wpIn (Fence.wide.inRound l) 7 P (Exit.then K (λ_ _ _=>False)) {tmps:=(ps.zip #[enc x]).foldl (λt (p,v)=>t.setIfInBounds p v) a.tmps,defers:=[]} W)
  (LW:∀l pre x X1 W,I pre X1 W->pre.length<N->Grew X w X1->w<=W.heap.size->body.wpIn (Fence.wide.inRound l) 7 P (aqL I (pre++[x]) X1 W) (ag5 x) W)
  (LZ:∀D xs X1 W,w.heap.size<=D->S xs->I xs X1 W->Grew X w X1->Kq X w W->(∀q,X1 q->q≠D)->W.heap[D]?=some (.deferred (some []))->Q .normal {a with defers:={target:= .collected D,args:=#[]}::a.defers} W):
  (Code.rangeFunc g ps assign body).wpIn Fence.wide 9 P Q a w:=by
 refine wpIn_rangeFunc λfn hfn=>?_;obtain⟨D,hD⟩:=Iu w.heap.size;obtain⟨R,hR⟩:∃R:LoopState->Option Code->Loop,R=λst pe=>{state:=st,pending:=pe,fn,tmps:=a.tmps,params:=ps,assign,body,defers:=D}:=⟨_,rfl⟩
 obtain⟨V,hV⟩:=Iu ((w.alloc (.deferred (some []))).alloc (.loop (R .ready none)));have vl:V.heap[D+1]?=some (.loop (R .ready none)):=by have h:=World.alloc_heap_new (w.alloc (.deferred (some []))) (.loop (R .ready none));rw[bR,hD,hV] at h;exact h
 have vd:V.heap[D]?=some (.deferred (some [])):=by rw[<-hV,Below.heap_alloc _ _ _ (by rw[bR];omega),<-hD];exact World.alloc_heap_new w _
 have vs:V.heap.size=D+2:=by rw[<-hV,bR,bR,hD]
 have hbV:Below w w V:=by rw[<-hV];exact((aE _ w).alloc av _).alloc (by rw[bR];omega) _
 have hXb:=hI.bd _ _ _ h0;have hIV:I [] X V:=hI.on h0 hbV;obtain⟨J,hJ⟩:∃J:List α->(Nat->Prop)->World->Prop,J=λpre X' W=>∃X1,I pre X1 W/\Grew X w X1/\W.heap[D+1]?=some (.loop (R .ready none))/\W.heap[D]?=some (.deferred (some []))/\(∀q,X' q↔X1 q\/q=D\/q=D+1)/\(∀q,X1 q->q≠D/\q≠D+1)/\D+2<=W.heap.size:=⟨_,rfl⟩
 have hJX:JX (λ_=>False) V J:=by
  rw[hJ];refine JX.mono (n:=w.heap.size) ?_ ae;refine⟨?_,?_⟩
  .rintro pre X' W ⟨X1,h1,h2,h3,h4,h5,h6,h7⟩ q hq;rcases(h5 q).1 hq with h|h|h
   .exact hI.bd _ _ _ h1 q h
   .omega
   .omega
  .rintro pre X' W W' T' ⟨X1,h1,h2,h3,h4,h5,h6,h7⟩ hk hn;refine⟨X1,hI.kq _ _ _ _ T' h1 hk λq hq=>⟨(hn q hq).1,λh=>(hn q hq).2 ((h5 q).2 (.inl h))⟩,h2,?_,?_,h5,h6,bB h7 hk.size⟩
   .exact(hk.block _ ae λh=>(hn _ h).2 ((h5 _).2 (.inr (.inr rfl)))).trans h3
   .exact(hk.block _ ae λh=>(hn _ h).2 ((h5 _).2 (.inr (.inl rfl)))).trans h4
 refine⟨D+1,[{target:= .collected D,args:=#[]}],V,{target:= .fn (.func gf) lb,args:=#[.func (.yield (D+1)) #[] #[]]},V,gf,#[.func (.yield (D+1)) #[] #[]]++lb,V,?_,?_,λ_ _=>trivial,?_,Ed,?_⟩
 .have h:=run_enterLoop_outer (P:=P) (w:=w) fn a.tmps ps assign body;rw[hD] at h;rw[<-hV,hR];exact h
 .simp only[resolve,hg];simp[go_sem]
 .simp[invoke,go_sem,eg]
 .have aoL:=gu.size;have hkV:Kq (λq=>¬own q) w0 V:=gu.on hbV;refine(wK (D+1) J (λq=>X q\/q=D\/q=D+1) V hJX hkV ?_ bz ?_ ?_).mono ?_
  .rintro q (h|h|h)
   .exact hX q h
   .exact λho=>by have:=bz q ho;omega
   .exact λho=>by have:=bz q ho;omega
  .intro pre x X' A hj iJ;rw[hJ] at hj;obtain⟨X1,hi,hgw,hl,hd,hx,di,iG⟩:=hj;refine⟨fn,_,assign,body,by have h:=run_yield (P:=P) (args:=#[enc x]) hl (by rw[hR];exact hps.symm);rw[hR] at h;exact h,roundIn_of_wpIn hfn (xy _ x A _ ?_)⟩;refine⟨_,run_beginRound hl (by rw[hR]),?_⟩;obtain⟨A2,Bg⟩:∃A2,A.putObj (D+1) (.loop {R .ready none with state:= .busy})=A2:=⟨_,rfl⟩
   have k2:Kq (λq=>q=D+1) A A2:=by rw[<-Bg];exact wo _ _ _
   have al:A2.heap[D+1]?=some (.loop {R .ready none with state:= .busy}):=by rw[<-Bg];exact World.putObj_heap_same (oO hl)
   have ad:A2.heap[D]?=some (.deferred (some [])):=by rw[<-Bg];exact(cF ae).trans hd
   have asz:A2.heap.size=A.heap.size:=by rw[<-Bg,World.putObj_size]
   have ai:I pre X1 A2:=hI.kq _ _ _ _ _ hi k2 λq e=>⟨.inr ae,λh=>(di q h).2 e⟩
   have UH:¬X1 (D+1):=λh=>(di _ h).2 rfl;have Gx:¬X1 D:=λh=>(di _ h).1 rfl;have e1:∀q,q=D+1->X' q:=λq h=>(hx q).2 (.inr (.inr h));rw[Bg];refine wpIn_mono (LW _ pre x X1 A2 ai iJ hgw ae) ?_;intro e a3 B hp
   cases e with
   |normal=>
    obtain⟨⟨X2,h1,h2⟩,h3⟩:=hp;have bl:=(h3.block (D+1) ae UH).trans al;have bd:=(h3.block D ae Gx).trans ad;have hsB:=h3.size;have m1:¬X2 (D+1):=h2.not UH ae;have m0:¬X2 D:=h2.not Gx ae;refine⟨_,_,run_endRound none bl,rfl,⟨λq=>X2 q\/q=D\/q=D+1,?_,?_⟩,((k2.mono e1).trans (h3.mono λq h=>(hx q).2 (.inl h))).trans ((wo B (D+1) _).mono e1)⟩
    .rw[hJ];refine⟨X2,hI.kq _ _ _ _ _ h1 (wo _ _ _) (λq e=>⟨.inr ae,λh=>m1 (e▸h)⟩),hgw.trans h2 ae,?_,(cF ae).trans bd,λq=>Iff.rfl,λq hq=>⟨λe=>m0 (e▸hq),λe=>m1 (e▸hq)⟩,by rw[World.putObj_size];omega⟩;rw[World.putObj_heap_same (oO bl),hR];rfl
    .rintro q (h|h|h)
     .rcases h2 q h with h4|h4
      .exact .inl ((hx q).2 (.inl h4))
      .exact .inr ae
     .exact .inl ((hx q).2 (.inr (.inl h)))
     .exact .inl ((hx q).2 (.inr (.inr h)))
   |ret=>exact hp.elim
   |exit id=>exact hp.elim
   |goto t=>exact hp.elim
   |panic ch=>exact hp.elim
   |outgrown=>exact hp.elim
  .rw[hJ];refine⟨X,hIV,Grew.refl _ _,vl,vd,λq=>Iff.rfl,λq hq=>?_,ae⟩;have:=hXb q hq;omega
  .rintro e B ⟨⟨v,rfl⟩,⟨xs,X',hS,hj,hg'⟩,hk⟩;rw[hJ] at hj;obtain⟨X1,h1,hgw,bl,bd,hx,di,iG⟩:=hj;have hkw:∀o,Kq X w (B.putObj (D+1) o):=λo=>by
    refine((Kq.of (T:=X) hbV).aA hk ?_).aA (wo B (D+1) _) ?_
    .rintro q (h|h|h)
     .exact .inl h
     .exact .inr ae
     .exact .inr ae
    .rintro q h;exact .inr ae
   refine⟨none,_,by have h:=run_endLoop (P:=P) bl (by rw[hR];simp);rw[hR] at h;exact h,?_⟩;exact LZ D xs X1 _ ae hS (hI.kq _ _ _ _ _ h1 (wo _ _ _) λq e=>⟨.inr ae,λh=>(di q h).2 e⟩) hgw (hkw _) (λq hq=>(di q hq).1) ((cF ae).trans bd)
end
section
open RowKit Maps
theorem WJ {α w Bm b l enc} {dec:Value->α} (hB:aF w Bm 222 #[.map (some b)]) (hm:MapAt prog 64 w b l) (hed:∀x,dec (enc x)=x) (hk:∀p∈l,∃x,p.1=enc x):
  FT prog 243 #[Bm] enc (λss=>ss.Perm (l.map λp=>dec p.1)) l.length (λq=>q=Bm\/q=b) w:=by
 intro lp J X W hJ hW hX _ hY h0;have hc:=(hB.kq hW λh=>h (.inl rfl)).aj (i:=0) rfl;have hmW:=hm.same (hW.block b hm.lt λh=>h (.inr rfl));obtain⟨HXb,HXn,HK⟩:=cp (λq (h:X q)=>hJ.bd _ _ _ h0 q h) (λ(h:X b)=>hX b h (.inr rfl)) hk;obtain⟨HD,HY,HJ⟩:=cp hed hY hJ;clear hB hm hk hed hY hW hX;refine callsIn_of_wp Tryz.func243 rfl trivial ?_ rfl;simp only[Tryz.ntmps243,cU,cD,cV,Nat.reduceAdd,Nat.reduceSub,dT,ee,List.push_toArray,ef,cP,dj]
 gi_wp2_with (first
  |(gi_at_range;refine jQ rfl _ 222 rfl 64 247 Tryz.underlying222 b l rfl hmW ?_;intro w0 Xi gu ET)
  |gi_in)
 obtain⟨ZH,gZ,HG0,YS⟩:=cr (HJ.on h0 gu) ET (Kq.of (T:=X) gu) Xi;clear hJ h0 Xi gu ET hmW
 try go_frame
 gi_loopw [3] (λ_ wr=>∃(d:List (Value×Value)) (ss:List α) (X1:Nat->Prop),fQ prog 64 wr b W l d/\d.map Prod.fst=ss.map enc/\J ss X1 wr/\Grew X W X1/\¬X1 W.heap.size/\¬X1 b/\Kq X W wr/\W.heap.size<wr.heap.size) (λ_ wr=>wr.rangeLeft b W)
 case atStart=>exact⟨[],[],X,YS,rfl,ZH,Grew.refl _ _,λh=>by have:=HXb.o _ h;omega,HXn,HG0,by rw[gZ.o];omega⟩
 case round=>
  obtain⟨d,ss,X1,hrg,hds,hjs,EX,UH,YK,hkq,iG⟩:=hrel;clear ZH YS;obtain⟨HGr,HN1,JC,HKq,Js⟩:=ct EX UH YK hkq iG;clear EX UH YK hkq iG;obtain⟨HDs,HJs⟩:=cn hds hjs;clear hds hjs
  gi_wp2_with (first
   |(gi_at_next;refine kH rfl _ rfl 64 b W l d rfl hrg ?_ ?_)
   |gi_in)
  .intro hp
   gi_wp2
   go_end0;refine⟨⟨_,rfl⟩,⟨ss,X1,?_,HJs,HGr⟩,HKq⟩;have h1:=(hp.map Prod.fst).map dec;rw[HDs.o,cW,cW] at h1;have h2:List.map (dec∘enc) ss=ss:=by
    conv=>rhs;rw[<-List.map_id ss]
    exact dp λx _=>HD.o x
   rw[h2] at h1;exact h1
  .intro p1 p2 w2 uh hpd Ec nH mQ aT hen;obtain⟨p,hpe⟩:=aW ((p1,p2));obtain⟨x,hx⟩:=HK.o _ uh;obtain rfl:p1=_:=hx;rw[<-hpe] at Ec;have HX:=ag (show p.1=enc x from by rw[hpe]);have DN:=Ec.few;have hlen:ss.length<l.length:=by have:=congrArg List.length HDs.o;rw[bO,bO] at this;rw[bE,List.length_singleton] at DN;omega
   have hJ2:=HJ.kq ss X1 wr w2 _ HJs.o (Kq.grown nH) (λq e=>by have e:=(Option.some.inj e).symm;exact⟨.inr ae,λh=>HN1.o (e▸h)⟩);obtain⟨ja,qN⟩:=cn (HKq.aA (Kq.grown nH) λq e=> .inr (by have e:=Option.some.inj e;omega)) mQ;obtain⟨fn,tmps,assign,body,hy,hR⟩:=HY.o ss x X1 w2 hJ2 hlen;obtain⟨Xj,HLt⟩:=cn Ec aT;clear mQ hlen DN hrg uh hpd nH hpe aT Ec
   gi_wp2
   refine hR.mono ?_;rintro e W3 ⟨rfl,⟨X3,hJ3,hg3⟩,mr⟩;have e1:=mr.block b Xj.ltb JC.o;have e2:=mr.block W Xj.ltr HN1.o;obtain⟨CY,wR⟩:=cn (Xj.same e1 e2) (oG (b:=b) (r:=W.heap.size) e1 e2);have NQ:=Js.o;have mQ:=qN.o;have gB:=Xj.ltb;have IQ:=ag (cJ (HGr.trans hg3 ae) (cJ (hg3.not HN1 ae) (cJ (hg3.not JC gB) (cJ (ja.aA mr λq h=>by
    rcases HGr.o q h with h|h
    .exact .inl h
    .exact .inr h) (show W.heap.size<W3.heap.size from by have:=mr.size;omega)))))
   clear e1 e2 mr hg3 NQ mQ gB
   gi_wp2
   go_roundw
   case rel=>exact⟨d++[p],ss++[x],X3,CY,by rw[cA,cA,HDs.o];simp[HX.o],hJ3,IQ⟩
   case measure=>rw[wR.o];exact HLt.o
end
section
open RowKit
def lY (n:Nat):Value:=O .u32 n
def alm (l:List Nat) i j:=(l.set i (l.getD j 0)).set j (l.getD i 0)
theorem Mc {l:List Nat} {i v q} (hi:i<l.length):(l.set i v).count q+(if l.getD i 0=q then 1 else 0)=l.count q+(if v=q then 1 else 0):=by grind
theorem adP {l i j} (hi:i<l.length) (hj:j<l.length):(alm l i j).Perm l:=by grind[alm]
theorem aao (x:Nat) w:Calls prog 324 #[O .u32 x] w λe w'=>e=ar (aq false)/\w=w':=by
 go_in
 go_wp2;go_ret;exact⟨rfl,rfl⟩
theorem Xm (x y:Nat) w:Calls prog 293 #[O .u32 x,O .u32 y] w λe w'=>e=ar (aq (decide (x<y)))/\w'=w:=by
 have HX:=ag (aao x w)
 go_in
 go_wp2_with fail;refine HX.cj ?_;go_wp2;go_ret;exact⟨rfl,rfl⟩
structure SrU w g n c xs ys wr:Prop where
 o:Own lY 64 wr 0 (an (some ⟨g,0,none⟩) n c) ys
 p:ys.Perm xs
 k:Kq (λq=>q=g) w wr
theorem Qx w q:Below w.heap.size w (w.drewN q):=⟨rfl,rfl,rfl,bp _,λ_ _=>rfl⟩
theorem SrU.drewN {w wr g n c xs ys} (h:SrU w g n c xs ys wr) q:SrU w g n c xs ys (wr.drewN q):=⟨h.o.on (Qx wr q),h.p,h.k.on (Qx wr q)⟩
theorem SrU.swap {w wr g n c xs ys} (h:SrU w g n c xs ys wr) {i j} (hi:i<ys.length) (hj:j<ys.length):SrU w g n c xs (alm ys i j) ((wr.setCell (g,i) (lY (ys.getD j 0))).setCell (g,j) (lY (ys.getD i 0))):=
 ⟨(h.o.set i (ys.getD j 0)).set j (ys.getD i 0),(adP hi hj).trans h.p,(h.k.setCell (p:=⟨g,i,none⟩) (.inl rfl) _).setCell (p:=⟨g,j,none⟩) (.inl rfl) _⟩
theorem aap {g n c xs w} (ho:Own lY 64 w 0 (an (some ⟨g,0,none⟩) n c) xs) (hx:xs.length=n) (hn:n<=12):
  Calls prog 287 #[an (g,0) n c,O aa 0,O aa n] w λe w'=>e=ar (ao #[])/\∃ys,SrU w g n c xs ys w':=by
 obtain⟨H0,HX⟩:=cn (show SrU w g n c xs xs w from⟨ho,List.Perm.refl _,Kq.refl _ _⟩) hx;clear ho hx
 go_in
 go_wp2
 go_loopw [6] (λv6 wr=>∃i:Nat,v6=O aa i/\1<=i/\i<=n+1/\Hid (∃ys,SrU w g n c xs ys wr)) (λv6 _=>n+1-(intOf v6).toNat)
 case atStart=>exact⟨1,by go_num,ae,ae,ag ⟨xs,H0⟩⟩
 case round=>
  obtain⟨i,rfl,hi1,Y5,HY⟩:=hrel;by_cases aT:i<n
  .have g1:(i:Int)<(n:Int):=ae;go_wp2
   go_loopw [7] (λv7 wq=>∃j:Nat,v7=O aa j/\j<=i/\Hid (∃ys,SrU w g n c xs ys wq)) (λv7 _=>(intOf v7).toNat)
   case atStart=>exact⟨i,rfl,bp _,HY⟩
   case round=>
    obtain⟨j,rfl,hji,HZ⟩:=hrel;obtain⟨ys,hz⟩:=HZ.o;have hyl:ys.length=n:=by rw[hz.p.length_eq];exact HX.o
    obtain⟨G,hG⟩:∃G:Nat->Nat,∀t,G t=ys.getD t 0:=⟨λt=>ys.getD t 0,λ_=>rfl⟩
    have hcw:∀t,t<n->wr.cell? (g,t)=some (O .u32 (G t)):=λt ht=>by rw[hG,db,cX ae];exact(hz.o.dU (k:=t) ae).1
    have hfw:∀t,t<n->wr.frozen? (g,t)=false:=λt ht=>(hz.o.dU (k:=t) ae).2;obtain⟨HG,HW,HYl⟩:=cp hG hz hyl;clear HY HZ hz hG hyl;go_wp2;by_cases hja:0<j
    .obtain⟨k,rfl⟩:∃k,j=k+1:=⟨j-1,ae⟩
     have HL:=ag (λW=>Xm (G (k+1)) (G k) W);have q1:(k:Int)+1<(n:Int):=ae;have q2:(0:Int)<=(k:Int)+1:=ae;have q3:(k:Int)<(n:Int):=ae;have q4:(0:Int)<=(k:Int):=ae;have q7:=hcw (k+1) ae;have q8:=hcw k ae;have q9:=hfw (k+1) ae;have q10:=hfw k ae;have i1:=bq (k:Int) ⟨ae,ae⟩;have HIj:=ag hji;clear hji hcw hfw
     go_quiet (first|(go_at_call 293;refine Calls.quiet_of_same (HL.o _)))
     go_wp2
     .go_region
      all_goals go_wp2
      go_roundw
      case rel=>refine⟨k,rfl,by have:=HIj.o;omega,ag ⟨alm ys (k+1) k,?_⟩⟩;rw[HG.o,HG.o];exact(HW.drewN (nq+1)).swap (by have:=HYl.o;omega) (by have:=HYl.o;omega)
      case measure=>simp[intOf]
     .go_roundw
      case rel=>exact⟨i+1,by go_num,ae,ae,ag ⟨ys,HW.drewN _⟩⟩
      case measure=>simp[intOf];omega
    .obtain rfl:j=0:=ae
     go_quiet (first|(go_at_call 293;fail))
     go_wp2;go_roundw
     case rel=>exact⟨i+1,by go_num,ae,ae,ag ⟨ys,HW.drewN _⟩⟩
     case measure=>simp[intOf];omega
  .go_wp2;go_end0;obtain⟨ys,hy⟩:=HY.o;exact⟨rfl,ys,hy⟩
theorem aaq a c w:
  Calls prog 287 #[an a 0 c,O aa 0,O aa 0] w λe w'=>e=ar (ao #[])/\w'=w:=by
 go_in
 go_wp2
 go_loopw [6] (λv6 wr=>v6=O aa 1/\wr=w) (λ_ _=>0)
 case atStart=>exact⟨rfl,rfl⟩
 case round=>obtain⟨rfl,rfl⟩:=hrel;go_wp2;go_end0;exact⟨rfl,rfl⟩
def aqN (w:World) (v:Value) (xs:List Nat) (e:Ending) w':=e=ar (ao #[])/\(∃ys,ys.Perm xs/\Own lY 64 w' 0 v ys)/\Kq (λq=>v.ownBlock=some q) w w'
theorem aar {a n c xs w} (ho:Own lY 64 w 0 (an a n c) xs) (hx:xs.length=n) (hn:n<=12):
  Calls prog 287 #[an a n c,O aa 0,O aa n] w (aqN w (an a n c) xs):=by
 rcases Nat.eq_zero_or_pos n with rfl|hp
 .refine(aaq a c w).mono ?_;rintro e w' ⟨rfl,rfl⟩;exact⟨rfl,⟨xs,List.Perm.refl _,ho⟩,Kq.refl _ _⟩
 .obtain⟨g,rfl,_,_⟩:=ho.addr ae;refine(aap ho hx hn).mono ?_;rintro e w' ⟨rfl,ys,h⟩;exact⟨rfl,⟨ys,h.p,h.o⟩,h.k.mono λq hq=>by subst hq;rfl⟩
theorem aas {a n c xs w} l (ho:Own lY 64 w 0 (an a n c) xs) (hx:xs.length=n) (hn:n<=12):
  Calls prog 265 #[an a n c,O aa 0,O aa n,O aa l] w (aqN w (an a n c) xs):=by
 have HI:=ag (aar ho hx hn);have g1:(n:Int)<=12:=ae;have i1:=bq (n:Int) ⟨ae,ae⟩;clear ho hx hn
 go_in
 go_wp2
 go_loopw [1,2] (λv1 v2 wr=>v1=O aa 0/\v2=O aa n/\wr=w) (λ_ _ _=>0)
 case atStart=>exact⟨rfl,rfl,rfl⟩
 case round=>obtain⟨rfl,rfl,rfl⟩:=hrel;go_wp2_with fail;go_call HI as e w1 ⟨rfl,hy,hk⟩;obtain⟨HY,HK⟩:=cn hy hk;clear hy hk;go_wp2;refine bodyPost_ret (results_none rfl _ _ _) rfl ?_;exact⟨rfl,HY.o,HK.o⟩
theorem Xn {a n c xs w} (ho:Own lY 64 w 0 (an a n c) xs) (hx:xs.length=n) (hn:n<=12):
  Calls prog 242 #[an a n c] w (aqN w (an a n c) xs):=by
 obtain⟨HP,HL⟩:=cn (λl=>aas l ho hx hn) (uS (n:Int) w ae ae);have i1:=IntWalk.u64_in (n:Int) ⟨ae,ae⟩;clear ho hx hn
 go_in
 go_wp2_with fail;refine HL.mono ?_;rintro e w1 ⟨rfl,rfl⟩;go_wp2_with fail;go_call(HP.o _) as e w1 ⟨rfl,hy,hk⟩;obtain⟨HY,HK⟩:=cn hy hk;clear hy hk;go_wp2;go_end0;exact⟨rfl,HY,HK⟩
end
section
open RowKit Maps
attribute [local go_sem] Oper.semAt_some
def agt:Value->Nat
 | .int _ a=>a.toNat
 |_=>0
theorem ZQ n:agt (lY n)=n:=Int.toNat_natCast n
theorem ag6 n:(lY n).oneCell'=true:=rfl
theorem awt:(prog.info? 64).map (λi=>(i.zero,i.size,i.bytes))=some (some (O .u32 0),1,4):=az
theorem O4 {F fuel w ops rest o ac Q} (mF:o.guard=none) s x
  (ho:o.op= .call {callee:= .builtin .append,args:=#[s,x],argTypes:=#[209,209]}) base
  v xs (hs:ac.eval s=v) (bz:Own lY 64 w base v xs) (g y:Nat) (hx:ac.eval x=an (g,0) 1 1) (hgg:g=w)
  (fB:xs.length<=10000000) (dE:base<=w)
  (h:∀v' w',Hid (Own lY 64 w' base v' (xs++[y]))->Hid (Below base w w')->Hid ((w.alloc (.cells #[O .u32 y] 64)).grownBy w' v.ownBlock)->Hid (v'.ownBlock=v.ownBlock\/v'.ownBlock=some (w.heap.size+1))->wpListIn F fuel prog ops Q rest (ac.put o.dst v') w'):wpListIn F fuel prog ops Q (o::rest) ac (w.alloc (.cells #[O .u32 y] 64)):=by
 subst hgg;obtain⟨i0,hi,qm,tZ,tu⟩:=info_parts awt;exact qp mF s x 209 ho base 64 i0 _ 4 Tryz.underlying209 hi qm tZ tu rfl ag6 v xs hs (bz.alloc _) _ _ 1 1 [y] hx (jq.lit w 64 [y] 1 rfl ae rfl) ae (by simp only[maxLen];omega) (by simp;omega) λv' w' h1 h2 h3=>
  h v' w' (ag h1) (ag (((aE base w).alloc dE _).trans (kD (aE base _) (bz.alloc _) h2 (by simp;omega)))) (ag h2) (ag (by rw[bR] at h3;exact h3))
theorem adQ {T w w' row} (h:w.grownBy w' row) (hT:∀q,row=some q->T q):Kq T w w':=⟨h.os,h.tape,h.output,h.size,λk hk hn=>h.block k hk λe=>hn (hT k e.symm)⟩
def ApU (H:Nat) (w:World) (pre:List Nat) (X:Nat->Prop) (W:World):=
 ∃v,aF W H 209 #[v]/\Own lY 64 W (H+1) v pre/\(∀q,X q↔q=H\/v.ownBlock=some q)/\Below H w W/\H+1<=W
theorem aqO H n w (hw:H<=w.heap.size) (hn:H<=n):JX (λ_=>False) n (ApU H w):=by
 refine⟨?_,?_⟩
 .rintro pre X W ⟨v,h1,h2,h3,h4,h5⟩ q hq;rcases(h3 q).1 hq with e|e
  .omega
  .exact(h2.aN q e).2
 .rintro pre X W W' T' ⟨v,h1,h2,h3,h4,h5⟩ hk hT;refine⟨v,h1.kq hk λh=>(hT _ h).2 ((h3 _).2 (.inl rfl)),h2.kq hk λq hq h=>(hT _ h).2 ((h3 _).2 (.inr hq)),h3,h4.trans (hk.below (λq h=>?_) (bB hw h4.size)),bB h5 hk.size⟩;grind
theorem F6 {S} {N g:Nat} {lb w} (eg:∀args w,(callFunc g args).run prog w= .ok (.enter g args) w) (hN:N<=1000000) {own} (wK:FT prog g lb lY S N own w) (bz:∀q,own q->q<w):
  Calls prog 196 #[an none 0 0,.func (.func g) #[] lb] w λe w'=>(∃v ss,e=ar v/\S ss/\Own lY 64 w' w v ss)/\Below w w w':=by
 refine callsIn_wide (n:=9)|>.1 ?_;refine callsIn_of_wp_marks Tryz.func196 rfl trivial ?_ rfl;refine wpIn_wide.2 ?_;simp only[Tryz.ntmps196,cU,cD,cV,Nat.reduceAdd,Nat.reduceSub,dT,ee,List.push_toArray,ef,cP,dj];go_wp2;have b0:=aF.new w 209 #[an none 0 0];have gu:Below w w (w.alloc (.cells #[an none 0 0] 209)):=(aE _ w).alloc av _;have iG:(w.alloc (.cells #[an none 0 0] 209)).heap.size=w.heap.size+1:=au;generalize w.alloc (.cells #[an none 0 0] 209)=W0 at*;refine wpIn_wide.1 (Xl (gf:=g) (lb:=lb) (enc:=lY) (S:=S) (N:=N) (w0:=w) rfl eg wK (Kq.of gu) bz rfl (ApU w w) (aqO _ _ w av ae) (λq=>q=w.heap.size) ⟨_,b0,Own.nil _ _,λq=>⟨.inl,λh=>h.elim id λh=>by cases h⟩,gu,ae⟩ (λq e h=>by have:=bz q h;omega)
  (λx=>{tmps:=#[an none 0 0,.func (.func g) #[] lb,w.heap.size,undef,an none 0 0,O .u32 x,.func (.func g) #[] lb,O .u32 x,undef,undef,undef,undef,undef],defers:=[]}) ?assign ?body ?done)
 case assign=>
  intro lp x W K hK;unfold lY
  gi_wp2
  exact hK
 case body=>
  rintro lp pre x X1 W ⟨v,bv,ho,hxi,jW,hsW⟩ iJ _ _;obtain⟨a1,c1,rfl,_⟩:=ho.bG (n:=pre.length) rfl;obtain⟨HO,DC,BV,HXi⟩:=cr ho jW bv hxi;have c4:W.cell? (w.heap.size,0)=some (an a1 pre.length c1):=bv.aj (i:=0) rfl;have f4:=bv.frozen 0;have uh:pre.length<=10000000:=ae;clear bv ho jW wK hxi bz
  gi_wp2_with (gi_at_builtin;refine O4 rfl _ _ rfl (w.heap.size+1) _ pre rfl HO.o _ x rfl rfl uh hsW ?_;intro v2 w2 tJ df oC HV2;obtain⟨a3,c3,rfl,_⟩:=tJ.bG (n:=pre.length+1) au;have BV2:=ag (BV.below df ae);have c42:=BV2.aj (i:=0) rfl;have f42:=BV2.frozen 0)
  have YK:=tJ.Sj (r:=w.heap.size) (.inl ae);have fO:Kq X1 W (w2.setCell (w.heap.size,0) (an a3 (pre.length+1) c3)):=((Kq.of ((aE _ W).alloc av _)).trans (adQ oC (λq e=>(HXi.o q).2 (.inr e)))).trans ((Kq.one (w.heap.size,0) _).mono λq e=>(HXi.o q).2 (.inl e));refine⟨⟨λq=>q=w.heap.size\/(Value.slice a3 (pre.length+1) c3).ownBlock=some q,⟨_,BV2.set 0 _,tJ.far YK _,λq=>Iff.rfl,(DC.trans (df.mono ae)).setCell (p:=⟨w.heap.size,0,none⟩) av _,by have:=df.size;simp;omega⟩,?_⟩,fO⟩;rintro q (e|e)
  .exact .inl ((HXi.o q).2 (.inl e))
  .rcases HV2.o with h|h
   .rw[h] at e;exact .inl ((HXi.o q).2 (.inr e))
   .rw[h] at e;injection e with e
    exact .inr ae
 case done=>rintro D xs X1 W hD hS ⟨v,bv,ho,_,jW,_⟩ _ _ _ hK;obtain⟨HO,DC,HS⟩:=cp ho jW hS;have c4:=bv.aj (i:=0) rfl;clear ho jW hS;go_wp2;refine⟨au,.inl ⟨_,_,rfl,run_takeDeferred hK,?_⟩⟩;refine⟨_,by simp[results,Tryz.results196,go_sem],⟨v,xs,rfl,HS,?_⟩,DC.trans (gW _ ae)⟩;exact((Own.jB (c:=w.heap.size) (B:=0) ae) W _ D HO (grownBy_putObj' _ _ _) (.inr ⟨ae,_,hK,rfl⟩)).mono ae
theorem yN {S} {N g:Nat} {lb w} (eg:∀args w,(callFunc g args).run prog w= .ok (.enter g args) w) (hN:N<=1000000) {own} (wK:FT prog g lb lY S N own w) (bz:∀q,own q->q<w):
  Calls prog 141 #[.func (.func g) #[] lb] w λe w'=>(∃v ss,e=ar v/\S ss/\Own lY 64 w' w v ss)/\Below w w w':=by
 have HA:=ag (F6 eg hN wK bz);clear eg wK bz
 go_in
 go_wp2_with fail;go_call HA as e w1 ⟨⟨v,ss,rfl,hS,ho⟩,hb⟩;obtain⟨HS,HO,HB⟩:=cp hS ho hb;clear hS ho hb;go_wp2;go_ret;exact⟨⟨_,ss,rfl,HS,HO⟩,HB⟩
theorem Own.rise {α f e w v} {xs:List α} {a b} (h:Own f e w a v xs) (hb:∀q,v.ownBlock=some q->b<=q):Own f e w b v xs:=by
 refine⟨h.1,?_⟩;rcases h.2 with h2|⟨g,cap,cur,rfl,jf,r⟩
 .exact Or.inl h2
 .exact Or.inr ⟨g,cap,cur,rfl,hb g rfl,r⟩
theorem OO {S} {N g:Nat} {lb w} (eg:∀args w,(callFunc g args).run prog w= .ok (.enter g args) w) (hN:N<=1000000) {own} (h1:∀ss,S ss->ss.length<=12) (wK:FT prog g lb lY S N own w) (bz:∀q,own q->q<w):
  Calls prog 199 #[.func (.func g) #[] lb] w λe w'=>(∃v ss ys,e=ar v/\S ss/\ys.Perm ss/\Own lY 64 w' w v ys)/\Below w w w':=by
 obtain⟨HA,H1⟩:=cn (yN eg hN wK bz) h1;clear eg wK bz h1
 go_in
 go_wp2_with fail;go_call HA as e w1 ⟨⟨v,ss,rfl,hS,ho⟩,hb⟩;obtain⟨a,c,rfl,_⟩:=ho.bG rfl;obtain⟨HS,HO,HB⟩:=cp hS ho hb;clear hS ho hb;go_wp2_with fail;go_call(Xn (HO.mono (bN _)) rfl (H1.o _ HS)) as e w2 ⟨rfl,⟨ys,hp,hy⟩,hk⟩;obtain⟨HY,df⟩:=cn (show∃ys,List.Perm ys ss/\Own lY 64 w2 w (an a ss.length c) ys from⟨ys,hp,hy.rise λq hq=>(HO.aN q hq).1⟩) (HB.trans (hk.below (λq hq=>(HO.aN q hq).1) HB.size));clear hp hy hk;go_wp2;go_ret;obtain⟨ys,h2,h3⟩:=HY.o;exact⟨⟨_,ss,ys,rfl,HS,h2,h3⟩,df⟩
end
section
open RowKit
structure Bk where
 st:Nat
 live:Nat
 aC:Nat
 nx:Nat
instance:Coe Bk (Array Value):=⟨λx=>#[O aa x.st,O aa x.live,O aa x.aC,O aa x.nx]⟩
def vF (x:Bk):Array Value:=#[O aa x.st,O aa x.live,O aa x.aC,O aa x.nx]
def BZ (x:Bk):Value:= .agg #[O aa x.st,O aa x.live,O aa x.aC,O aa x.nx]
theorem aqX x:BZ x= .agg x:=rfl
attribute [go_sem] aqX
def Eh (x:Bk):List Value:=[O aa x.st,O aa x.live,O aa x.aC,O aa x.nx]
theorem ahk x:(Eh x).length=4:=rfl
theorem ahj:∀x,∀u∈Eh x,u.oneCell'=true:=λx u hu=>by simp only[Eh,bS,cY,or_false] at hu;rcases hu with rfl|rfl|rfl|rfl<;>rfl
namespace Gc
def z:Bk:=⟨0,0,0,0⟩
def at_ (l:List Bk) k:=l.getD k z
structure Ok pages (x:Bk):Prop where
 st:x.st<=4
 live:x.live<=pages
 nx:x.nx<=pages
 aC:x.aC<=1099511627776
 empty:x.st=0\/x.st=3\/x.st=4->x.live=0
def good (x:Bk):=(x.st:Int) !=4
def stale (x:Bk):=(x.st:Int)==3
def iy (a b:Bk):=decide (a.aC<b.aC)
def more (a b:Bk):=decide (b.aC<a.aC)
def iC a b:=decide (a.live<b.live)||decide (a.live=b.live)&&iy a b
def may (least:Nat) (x:Bk):=good x&&decide ((x.aC:Int)-least<4)
theorem jm {x}:good x=true↔x.st≠4:=by unfold good;rw[bne_iff_ne];omega
theorem Qv {x}:stale x=true↔x.st=3:=by unfold stale;rw[beq_iff_eq];omega
theorem aca {l x}:may l x=true↔x.st≠4/\x.aC<l+4:=by unfold may;rw[du,jm,decide_eq_true_eq];omega
def best (p:Bk->Bool) (lt:Bk->Bk->Bool) l
 |0=>none
 |n+1=>match best p lt l n with
  |none=>if p (at_ l n) then some n else none
  |some a=>if p (at_ l n)&&lt (at_ l n) (at_ l a) then some n else some a
def oI:Option Nat->Int
 |none=> -1
 |some n=>n
theorem gU {p lt l}:∀{n a},best p lt l n=some a->a<n/\p (at_ l a)=true:=by
 intro n
 induction n with
 |zero=>intro a h;cases h
 |succ n ih=>
  intro a h;unfold best at h
  grind
theorem vX {p lt l}:∀{n},best p lt l n=none->∀i,i<n->p (at_ l i)=false:=by
 intro n
 induction n with
 |zero=>intro _ i hi;omega
 |succ n ih=>
  intro h i hi;unfold best at h
  grind
theorem ad9 {p lt l} (tr:∀a b c,lt a b=false->lt b c=false->lt a c=false) (aD:∀a b,lt a b=true->lt b a=false) (ir:∀a,lt a a=false):
  ∀{n a},best p lt l n=some a->∀i,i<n->p (at_ l i)=true->lt (at_ l i) (at_ l a)=false:=by
 intro n
 induction n with
 |zero=>intro a h;cases h
 |succ n ih=>
  intro a h i hi hp;unfold best at h
  cases hb:best p lt l n with
  |none=>
   rw[hb] at h;simp only at h;split at h
   .cases h;by_cases e:i=n
    .subst e;exact ir _
    .rw[vX hb i ae] at hp;cases hp
   .cases h
  |some b=>
   grind
def MJ (l:List Bk):Option Nat->Nat
 |none=>0
 |some k=>(at_ l k).aC
def least l:=MJ l (best good iy l l.length)
def greatest l:=MJ l (best good more l l.length)
theorem alG a b c (h1:iy a b=false) (h2:iy b c=false):iy a c=false:=by unfold iy at*;simp only[decide_eq_false_iff_not] at*;omega
theorem alH a b (h:iy a b=true):iy b a=false:=by unfold iy at*;simp only[decide_eq_false_iff_not,decide_eq_true_eq] at*;omega
theorem alI a:iy a a=false:=by simp[iy]
theorem least_le {l i} (hi:i<l.length) (hg:good (at_ l i)=true):least l<=(at_ l i).aC:=by
 unfold least
 cases h:best good iy l l.length with
 |none=>exact bN _
 |some a=>
  have:=ad9 alG alH alI h i hi hg;unfold iy at this;simp only[decide_eq_false_iff_not] at this;show(at_ l a).aC<=_;omega
theorem agV {l i} (hi:i<l.length) (hg:good (at_ l i)=true):∃k,k<l.length/\good (at_ l k)=true/\least l=(at_ l k).aC:=by
 unfold least
 cases h:best good iy l l.length with
 |none=>rw[vX h i hi] at hg;cases hg
 |some a=>
  obtain⟨h1,h2⟩:=gU h;exact⟨a,h1,h2,rfl⟩
end Gc
theorem bu {w w' p v} (h:w.cell? p=some v) (hb:Below w.heap.size w w'):w'.cell? p=some v:=(hb.cell (Iy (by rw[h];rfl))).trans h
theorem boxed x w:Below w.heap.size w (w.alloc (.cells (vF x) 296))/\
  (w.alloc (.cells (vF x) 296)).cell? (w,0)=some (O aa x.st)/\(w.alloc (.cells (vF x) 296)).cell? (w,1)=some (O aa x.live)/\
  (w.alloc (.cells (vF x) 296)).cell? (w,2)=some (O aa x.aC)/\(w.alloc (.cells (vF x) 296)).cell? (w,3)=some (O aa x.nx):=
 ⟨(aE _ w).alloc av _,(aF.new w _ (vF x)).aj rfl,(aF.new w _ (vF x)).aj rfl,(aF.new w _ (vF x)).aj rfl,(aF.new w _ (vF x)).aj rfl⟩
theorem Hy {w B a n k l} (h:fP 4 Eh w B a n l) (hk:k<n):
  ∃b o,a=some ⟨b,o,none⟩/\b<B/\w.cell? (b,o+k*4)=some (O aa (Gc.at_ l k).st)/\w.cell? (b,o+k*4+1)=some (O aa (Gc.at_ l k).live)/\
   w.cell? (b,o+k*4+2)=some (O aa (Gc.at_ l k).aC)/\w.cell? (b,o+k*4+3)=some (O aa (Gc.at_ l k).nx):=by
 obtain⟨b,o,nD,ha,hb,hc⟩:=h.YJ hk;have e:Gc.at_ l k=l[k]:=by rw[Gc.at_,db,cX nD];rfl
 rw[e];exact⟨b,o,ha,hb,hc 0 _ rfl,hc 1 _ rfl,hc 2 _ rfl,hc 3 _ rfl⟩
theorem getD_mem {l k} (hk:k<l.length):Gc.at_ l k∈l:=by grind[Gc.at_]
theorem uu x w:Calls prog 255 #[BZ x] w λe w'=>e=ar (aq (Gc.good x))/\Below w w w':=by
 obtain⟨hb,c0,c1,c2,c3⟩:=boxed x w;have HB:=ag hb;unfold vF at c0 HB;clear hb c1 c2 c3
 go_in
 go_wp2;go_ret;exact⟨rfl,HB⟩
theorem Ei x w:Calls prog 330 #[BZ x] w λe w'=>e=ar (aq (Gc.stale x))/\Below w w w':=by
 obtain⟨hb,c0,c1,c2,c3⟩:=boxed x w;have HB:=ag hb;unfold vF at c0 HB;clear hb c1 c2 c3
 go_in
 go_wp2;go_ret;exact⟨rfl,HB⟩
theorem MN x y w:Below w.heap.size w ((w.alloc (.cells (vF x) 296)).alloc (.cells (vF y) 296))/\
  aF ((w.alloc (.cells (vF x) 296)).alloc (.cells (vF y) 296)) w 296 (vF x)/\
  aF ((w.alloc (.cells (vF x) 296)).alloc (.cells (vF y) 296)) (w+1) 296 (vF y):=
 ⟨((aE _ w).alloc av _).alloc au _,(aF.new w _ (vF x)).alloc _,by have:=aF.new (w.alloc (.cells (vF x) 296)) 296 (vF y);rwa [bR] at this⟩
theorem yX x y w:Calls prog 334 #[BZ x,BZ y] w λe w'=>e=ar (aq (Gc.iy x y))/\Below w w w':=by
 obtain⟨hb,h1,h2⟩:=MN x y w;have HB:=ag hb;have c0:=h1.aj (i:=2) rfl;have c1:=h2.aj (i:=2) rfl;unfold vF at c0 c1 HB;clear hb h1 h2
 go_in
 go_wp2;go_ret;exact⟨rfl,HB⟩
theorem Pj x y w:Calls prog 257 #[BZ x,BZ y] w λe w'=>e=ar (aq (Gc.iy x y))/\Below w w w':=by
 obtain⟨hb,h1,h2⟩:=MN x y w;have HB:=ag hb;have c0:=h1.aj (i:=2) rfl;have c1:=h2.aj (i:=2) rfl;unfold vF at c0 c1 HB;clear hb h1 h2
 go_in
 go_wp2;go_ret;exact⟨rfl,HB⟩
theorem TP x y w:Calls prog 256 #[BZ x,BZ y] w λe w'=>e=ar (aq (Gc.more x y))/\Below w w w':=by
 obtain⟨hb,h1,h2⟩:=MN x y w;have HB:=ag hb;have c0:=h1.aj (i:=2) rfl;have c1:=h2.aj (i:=2) rfl;unfold vF at c0 c1 HB;clear hb h1 h2
 go_in
 go_wp2;go_ret;exact⟨rfl,HB⟩
theorem lg:prog.cellsOf 296=4:=az
theorem sD x y w:Calls prog 336 #[BZ x,BZ y] w λe w'=>e=ar (aq (Gc.iC x y))/\Below w w w':=by
 by_cases e3:x.live=y.live
 .have e2:Gc.iC x y=Gc.iy x y:=by unfold Gc.iC;rw[ey ae,Bool.false_or,ez e3,Bool.true_and]
  rw[e2];obtain⟨xs,xl,xw,xn⟩:=x;obtain⟨ys,yl,yw,yn⟩:=y;obtain rfl:xl=yl:=e3;clear e2;obtain⟨hb,h1,h2⟩:=MN ⟨xs,xl,xw,xn⟩ ⟨ys,xl,yw,yn⟩ w;have HB:=ag hb;obtain⟨c0,c1,c2,c3⟩:=h1.c4;obtain⟨d0,d1,d2,d3⟩:=h2.c4;have gm:=lg;unfold vF at c0 c1 c2 c3 d0 d1 d2 d3 HB;clear hb h1 h2
  go_in
  go_wp2_with fail;go_call(yX ⟨xs,xl,xw,xn⟩ ⟨ys,xl,yw,yn⟩ _) as e w1 ⟨rfl,hb⟩;have bV:=ag (HB.aA hb);clear hb c0 c1 c2 c3 d0 d1 d2 d3;go_wp2;go_ret;exact⟨rfl,bV⟩
 .obtain⟨hb,h1,h2⟩:=MN x y w;have HB:=ag hb;have c1:=h1.aj (i:=1) rfl;have d1:=h2.aj (i:=1) rfl;unfold vF at c1 d1 HB;clear hb h1 h2;by_cases e1:x.live<y.live
  .have e2:Gc.iC x y=true:=by unfold Gc.iC;rw[ez e1,Bool.true_or]
   rw[e2];clear e2
   go_in
   go_wp2;go_ret;exact⟨rfl,HB⟩
  .have e2:Gc.iC x y=false:=by unfold Gc.iC;rw[ey e1,Bool.false_or,ey e3,Bool.false_and]
   rw[e2];clear e2
   go_in
   go_wp2;go_ret;exact⟨rfl,HB⟩
theorem MM x (l:Nat) w (hl:l<=2199023255552) (hx:x.aC<=2199023255552):Calls prog 333 #[BZ x,O aa l] w λe w'=>e=ar (aq (Gc.may l x))/\Below w w w':=by
 obtain⟨hb,c0,c1,c2,c3⟩:=boxed x w;have hk:=aF.new w 296 (vF x);obtain⟨HB,HK⟩:=cn hb hk;have gm:=lg;have hw:=bq ((x.aC:Int)-l) ⟨ae,ae⟩;unfold vF at c0 c1 c2 c3 HB HK;clear hb hk
 cases hg:Gc.good x
 .have e2:Gc.may l x=false:=by unfold Gc.may;rw[hg,Bool.false_and]
  rw[e2];clear e2
  go_in
  go_wp2_with fail;go_call(uu x _) as e w1 ⟨rfl,hb⟩;have bV:=ag (HB.aA hb);clear hb c0 c1 c2 c3;rw[hg];go_wp2;go_ret;exact⟨rfl,bV⟩
 .have e2:Gc.may l x=decide ((x.aC:Int)-l<4):=by unfold Gc.may;rw[hg,Bool.true_and]
  rw[e2];clear e2
  go_in
  go_wp2_with fail;go_call(uu x _) as e w1 ⟨rfl,hb⟩;have bV:=ag (HB.aA hb);have d2:=(HK.ah hb).aj (i:=2) rfl;clear hb c0 c1 c2 c3;rw[hg];go_wp2;go_ret;exact⟨rfl,bV⟩
theorem ad5 {w base g L C off xs ad dl dc m k} (had:ad=iQ (some ⟨g,0,none⟩) C off) (bz:Own aJ 5 w base (an (g,0) L C) xs)
  {B} {a} {c} {ys} (hy:Bytes w B a m ys) (hm:off+dl<=L) (hp:0<k) (hk:k=min dl m):
  ∃w',(∀ty,(Builtin.copy_ #[23,23] ty #[an ad dl dc,an a m c]).run prog w= .ok (goInt k) w')/\Own aJ 5 w' base (an (g,0) L C) (xs.take off++ys.take k++xs.drop (off+k))/\Below base w w':=by
 have hl:=hy.len;have htk:(ys.take k).length=k:=by grind
 obtain⟨cur,hg,iG,hLC,AO,jf⟩:=BU (off:=off) bz (ys.take k) (by rw[htk];omega);have gm:((ys.take k).map aJ).length=k:=by rw[bO,htk]
 have aqQ:ad=(g,off):=by rw[had,iQ,eo ae];show some (((g,0):Addr).add off)=_;rw[Addr.add_mid,Nat.zero_add]
 subst aqQ;obtain⟨b,o',rfl,_,hc⟩:=hy.2.2 ae;refine⟨_,λty=>?_,by rw[htk] at AO;exact AO,below_setRow (aE _ _) jf _⟩;have h:=run_copy_row prog w 23 23 ty 5 g off dl dc (b,o') m c cur 5 ((ys.take k).map aJ) Tryz.underlying23 Fa hg (by grind)
  (λj v hj=>by
   rw[List.getElem?_map] at hj
   cases hkk:(ys.take k)[j]? with
   |none=>rw[hkk] at hj;cases hj
   |some y=>
    rw[hkk] at hj;injection hj with hj
    subst hj;obtain⟨vJ,hje⟩:=dq.1 hkk;rw[cI] at vJ;rw[List.getElem_take] at hje;rw[Addr.add_mid,hc j ae,hje]) (by rw[gm];omega)
  (λv hv=>by obtain⟨x,_,rfl⟩:=bw.1 hv;exact qL x)
 rw[gm] at h;exact h
def Je (v:UInt8) n:=bt n v++bt (96-n) 0
theorem aho {v n} (h:n<=96):(Je v n).length=96:=by simp[Je];omega
theorem ad6 {v n k} (hk:k=min (96-n) n):(Je v n).take n++((Je v n).take n).take k++(Je v n).drop (n+k)=Je v (n+k):=by grind[Je,List.drop_append,List.replicate_append_replicate]
theorem XH w:Calls prog 320 #[O .u64 1,O .u64 96] w λe w'=>e=ar (ao #[O .u64 0,O .u64 96])/\w=w':=by
 go_in
 go_wp2;go_ret2;exact⟨rfl,rfl⟩
theorem ad7 w:Calls prog 286 #[O .u64 1,O .u64 96] w λe w'=>e=ar (ao #[O .u64 0,O .u64 96])/\w=w':=by
 go_in
 go_wp2_with fail;refine(XH w).cj ?_;go_wp2;go_ret2;exact⟨rfl,rfl⟩
theorem MO a c v w (hx:Bytes w w a 1 [v]):
  Calls prog 253 #[an a 1 c,O aa 96] w λe w'=>(∃u,e=ar u/\Own aJ 5 w' w u (bt 96 v))/\Below w w w':=by
 have wI:∀u:World,(Instr.makeSlice 23 (O aa 96) (O aa 96)).run prog u= .ok (an (u.heap.size,0) 96 96) (u.alloc (.cells (cB 96 (O .u8 0)) 5)):=GG 96 ae;obtain⟨HO0,gX,HX⟩:=cp (kU w w 96 av ae) ((aE w w).alloc av (.cells (cB 96 (O .u8 0)) 5)) hx;clear hx
 go_in
 go_wp2_with fail;refine(ad7 w).cj ?_;go_upto_region 7 with fail;obtain⟨w1,ku⟩:=aW (w.alloc (.cells (cB 96 (O .u8 0)) 5));rw[<-ku] at HO0 gX⊢;have yg:=ag (HX.on gX);clear ku wI;generalize hg:w.heap.size=g at*;have HG:=ag hg
 go_wp2_with (with_reducible refine wU rfl _ _ rfl g g 96 96 _ rfl HO0.o _ a 1 c [v] rfl yg.o ?_;intro w2 tJ df)
 obtain⟨tN,cO⟩:=cn (show Own aJ 5 w2 g (an (g,0) 96 96) (Je v 1) from tJ.o) (gX.trans df);clear tJ df hg
 go_loopw [8] (λn wr=>∃q:Nat,1<=q/\q<=96/\n=O aa q/\Own aJ 5 wr g (an (g,0) 96 96) (Je v q)/\Below g w wr) (λn _=>96-(intOf n).toNat)
 case atStart=>exact⟨1,ae,ae,rfl,tN,cO⟩
 case round=>
  obtain⟨q,BA,JG,rfl,ho,hb⟩:=hrel;obtain⟨HO,HB⟩:=cn ho hb;clear ho hb;by_cases aT:q<96
  .have k0:(0:Int)<=(q:Int):=ae;have k1:(q:Int)<96:=ae;have k2:(q:Int)<=96:=ae;obtain⟨k,hk⟩:=aW (min (96-q) q);have hA:=((HO.drew.arr (by rw[aho JG];omega)).take (k:=q) JG)
   obtain⟨w5,bF,Y8,eQ⟩:=ad5 (off:=q) (dl:=96-q) (dc:=96-q) (m:=q) (c:=96) (k:=k) (ad:=(g,q)) (by rw[iQ,eo ae];show _=some (((g,0):Addr).add q);rw[Addr.add_mid,Nat.zero_add]) HO.drew hA ae ae hk;rw[ad6 hk] at Y8;obtain⟨Gs,je⟩:=cn Y8 (HB.drew.trans eQ);have hqk:q+k<=96:=ae;have fO:1<=k:=ae;have HQ:=ag (show 1<=q+k/\q<q+k/\q<96 from⟨ae,ae,aT⟩);have e1:=bq ((q:Int)+(k:Int)) ⟨ae,ae⟩;clear Y8 eQ hA hk fO;go_upto_region 9 with fail;have q96:¬(96=q):=ae;refine iE (λ_=>True) trivial (λaY=>?_);refine dI 0 (q:Int) ?_;refine dG 1 (an (g,0) 96 96) ?_;refine dI 2 (q:Int) ?_;refine eX 3 (an (g,q) (96-q) (96-q)) ?_;refine dG 4 (an (g,0) 96 96) ?_;refine dI 5 (q:Int) ?_;refine eX 6 (an (g,0) q 96) ?_;refine bY 7 (λK' hK=>?_);go_simp;refine hK.out _ _ trivial (λnZ=>?_)
   refine iR 8 (((q:Int)+(k:Int))) ?_;refine dI 9 (((q:Int)+(k:Int))) ?_;refine eH ?_;clear aY nZ bF q96 e1;go_wp2;go_roundw
   case rel=>exact⟨q+k,by have:=HQ.o;omega,hqk,au,Gs,je⟩
   case measure=>have:=HQ.o;simp[intOf];omega
  .obtain rfl:q=96:=ae;clear aT BA JG;go_wp2;go_ret;refine⟨⟨_,rfl,?_⟩,?_⟩
   .rw[HG.o];have h:=HO.o;unfold Je at h
    simpa using h
   .rw[HG.o];exact HB.o
section
variable {NB B C BL:Nat} {S:Nat->Prop} {w:World} {ps:Nat->Nat} {bl:Nat->Pb}
def brk (x:Pb) (pg:Nat->Option (List UInt8)):Pb:=⟨pg,x.nx,true,x.bad,x.aC+1⟩
def BrI NB B S w C BL ps bl k W:=
 (∃pg,eu NB B (Up S w W) W C BL ps (upd bl k (brk (bl k) pg)))/\Kq (Mu NB C BL ps) w W
theorem Pn (h:eu NB B S w C BL ps bl) {k} (hk:k<NB) (hw:(bl k).aC<=1099511627776) a m c L (ho:Own aJ 5 w 0 (an a m c) L) (hog:∀g,Value.ownBlock (an a m c)=some g->S g/\¬Mu NB C BL ps g) (hm:m<=96):
  Calls prog 220 #[C,(BL,k*5),an a m c] w λe w'=>e=ar (ao #[])/\BrI NB B S w C BL ps bl k w':=by
 have b4:=(h.b4 hk).1;have f4:=(h.b4 hk).2;have b2:=(h.b2 hk).1;have f2:=(h.b2 hk).2;have b0:=(h.b0 hk).1;have i1:=bq (((bl k).aC:Int)+1) ⟨ae,ae⟩;have kz:=ag (show L.length=m by obtain⟨_,_,e,_⟩:=ho.form;injection e with _ e2 _;exact e2.symm);have h1:=h.setB (k:=k) (j:=4) hk ae (O aa (((bl k).aC+1:Nat))) {bl k with aC:=(bl k).aC+1} rfl rfl;have h2:=h1.setB (k:=k) (j:=2) hk ae (aq true) (brk (bl k) (bl k).qB) (by rw[upd_same];rfl) (by rw[upd_same];rfl);rw[qE] at h2;have hK2:=((Kq.refl (Mu NB C BL ps) w).setCell (p:=⟨BL,k*5+4,none⟩) (.inl (.inr (.inl rfl))) (O aa (((bl k).aC+1:Nat)))).setCell (p:=⟨BL,k*5+2,none⟩) (.inl (.inr (.inl rfl))) (aq true);rw[show(((bl k).aC+1:Nat):Int)=((bl k).aC:Int)+1 by omega] at h2 hK2;obtain⟨H2,ja,HO,HOg,HH⟩:=ct h2 hK2 ho hog h;clear h h1 h2 hK2 ho hog hw
 go_in
 go_upto_region 2 with fail;obtain⟨wA,hwA⟩:∃wA,wA=(w.setCell (BL,k*5+4) (O aa (((bl k).aC:Int)+1))).setCell (BL,k*5+2) (aq true):=⟨_,rfl⟩
 rw[<-hwA] at H2 ja⊢;clear hwA b4 f4 b2 f2 b0 i1;have b0:=(H2.b0 hk).1;have HI:=ag (show BrI NB B S w C BL ps bl k wA from⟨⟨_,H2.up (w0:=w) HH.base⟩,ja⟩);have dBP:ps k≠BL:=HH.PZ.pb k hk;have HDb:=ag dBP;clear H2 ja;go_wp2_with fail
 go_loopw [22] (λi wr=>∃q:Nat,q<=8/\i=O aa q/\BrI NB B S w C BL ps bl k wr) (λi _=>8-(intOf i).toNat)
 case atStart=>exact⟨0,ae,rfl,HI⟩
 case round=>
  obtain⟨q,hq,rfl,⟨pg,hc⟩,hkq⟩:=hrel;obtain⟨HC,HKq⟩:=cn hc hkq;clear hc hkq;by_cases aT:q<8
  .have k0:(0:Int)<=(q:Int):=ae;have k1:(q:Int)<8:=ae;have HQ:=ag aT;by_cases hmq:m<=q
   .have e1:(m:Int)<=(q:Int):=ae;clear b0;go_wp2;go_roundw
    case rel=>exact⟨q+1,HQ,by go_num,⟨pg,HC⟩,HKq⟩
    case measure=>have:=HQ.o;simp[intOf];omega
   .have e1:¬(m:Int)<=(q:Int):=ae;have e2:(q:Int)<(m:Int):=ae;have hO:=HO.kq HKq.o λg hg=>(HOg.o g hg).2;have hA:=hO.arr (by rw[kz.o];omega);obtain⟨b,o,rfl,gB,rC⟩:=hA.2.2 ae;have hql:q<L.length:=by rw[kz.o];omega
    have dd:=rC q hql;have HA:=ag hA;obtain⟨u,hu⟩:∃u:Nat,u=(L[q]).toNat:=⟨_,rfl⟩
    have d:wr.cell? (b,o+q)=some (O .u8 u):=by rw[hu];exact dd
    have HU:=ag hu;clear hO hA rC hu dd;by_cases hu0:u=0
    .subst hu0;clear b0;go_wp2;go_roundw
     case rel=>exact⟨q+1,HQ,by go_num,⟨pg,HC⟩,HKq⟩
     case measure=>have:=HQ.o;simp[intOf];omega
    .have e3:((u:Int)==0)=false:=by rw[ew];omega
     have e4:¬(u:Int)=0:=ae;have b0:=(HC.b0 hk).1;obtain⟨v0,p0,p1,_⟩:=HC.page hk aT;have HS:=ag (HC.afz (i:=q) hk (an none 0 0) none rfl (brk (bl k) (upd pg q none)) (by rw[upd_same];rfl) (by rw[upd_same];rfl));rw[qE] at HS;have HKs:=ag (HKq.setCell (p:=⟨ps k,q,none⟩) (.inl (.inr (.inr ⟨k,hk,rfl⟩))) (an none 0 0));have hbp:b≠ps k:=λe=>(HOg.o b rfl).2 (.inr (.inr ⟨k,hk,e⟩));go_upto_region 7 with fail;obtain⟨wB,hwB⟩:=aW (wr.setCell (ps k,q) (an none 0 0));rw[<-hwB] at HS HKs⊢;have d2:wB.cell? (b,o+q)=some (O .u8 u):=by rw[hwB];exact(cK _ _ _ _ (by simpa using Ne.symm hbp)).trans d
     have iG:wr.heap.size<=wB.heap.size:=by rw[hwB];simp
     obtain⟨qN,Js⟩:=cn (HS.Ob HH.base iG) iG;clear hwB b0 d p0 p1 HS iG;by_cases ZT:u=1
     .subst ZT;go_wp2;go_roundw
      case rel=>exact⟨q+1,HQ,by go_num,⟨_,qN⟩,HKs⟩
      case measure=>have:=HQ.o;simp[intOf];omega
     .have e5:(1:Int)<(u:Int):=ae;have b0:=(qN.b0 hk).1;have e6:=bq ((q:Int)+1) ⟨ae,ae⟩;have hA1:=(HO.kq HKs λg hg=>(HOg.o g hg).2).arr (by rw[kz.o];omega);have Bg:Bytes wB wB (b,o+q) 1 [L[q]]:=by
       obtain⟨b',o',ha,hl',UR⟩:=hA1.2.2 ae;injection ha with ha
       injection ha with ha1 ha2
       subst ha1 ha2;refine⟨rfl,ae,λ_=>⟨b,o+q,rfl,hl',λi hi=>?_⟩⟩;obtain rfl:i=0:=by simpa using hi
       exact UR q (by rw[kz.o];omega)
      have HA2:=ag Bg;have hcm:m<=c:=by
       obtain⟨_,c',hv,UR⟩:=HO.form;injection hv with _ _ e3
       rw[kz.o] at UR;omega
      have e7:¬(c=q):=ae;have e8:(q:Int)+1<=(c:Int):=ae;have k3:(q:Int)<=(q:Int)+1:=ae;clear hA1 Bg;go_upto_region 8 with fail;clear d2;obtain⟨HF,HRp⟩:=cn (λ(W:World) (hb:Below wB wB W)=>qC (qN.on hb)) (λ(W:World) (hb:Below wB wB W)=>MO (b,o+q) (c-q) L[q] W (HA2.on hb));have nJ:=ak wB;have b0d:=((qN.on nJ).b0 hk).1;refine iE (λW'=>W'.cell? (BL,k*5)=some (an (ps k,0) 8 8)) b0d (λaY=>?_);refine dw 0 BL (k*5) ?_;refine aS 1 BL (k*5) ?_;refine aS 2 BL (k*5) ?_;refine kS 3 (an (ps k,0) 8 8) (λ_ aK=>aK) ?_;refine dI 4 (q:Int) ?_;refine dG 5 (an (b,o) m c) ?_;refine dI 6 (q:Int) ?_;refine dI 7 (q:Int) ?_;refine iR 8 ((q:Int)+1) ?_;refine eX 9 (an (b,o+q) 1 (c-q)) ?_;refine dw 10 C 0 ?_;refine bY 11 (λK' hK=>?_);go_simp;refine(HF.o _ nJ).cj ?_;refine hK.out _ _ aY (λdh=>?_)
      refine bY 12 (λK' hK=>?_);go_simp;go_call(HRp.o _ nJ) as e w6 ⟨⟨uv,rfl,ho6⟩,fJ⟩;have jr:=Below.aA nJ fJ;have b6:=((qN.on jr).b0 hk).1;obtain⟨BQ,nY⟩:=cn ho6 jr;obtain⟨ua,uc,rfl,huc⟩:=ho6.bG (n:=96) au;clear ho6 fJ dh;refine hK.out _ _ b6 (λfE=>?_)
      refine aS 13 (ps k) q ?_;have HC6:=ag (qN.on nY);obtain⟨v1,p0,p1,_⟩:=HC6.page hk aT;have hv:PgS (Up S w w6) (Mu NB C BL ps) w6 (an ua 96 uc) (some (bt 96 L[q])):=⟨au,BQ.mono (bN _),λg hg=>by obtain⟨g1,g2⟩:=BQ.aN g hg;have h8:=HKs.size;rw[World.size_drew] at g1;refine⟨.inr ⟨ae,g2⟩,λhm=>?_⟩;have:=qN.hi g (qN.hS g hm);omega⟩
      have hP:=(HC6.Ob HH.base nY.size).afz (i:=q) hk (an ua 96 uc) (some (bt 96 L[q])) hv (brk (bl k) (upd (upd pg q none) q (some (bt 96 L[q])))) (by rw[upd_same];rfl) (by rw[upd_same];rfl);rw[qE] at hP;have HP:=ag hP;have b9:=(hP.b0 hk).1;have ql:=ag ((HKs.on nY).setCell (p:=⟨ps k,q,none⟩) (.inl (.inr (.inr ⟨k,hk,rfl⟩))) (an ua 96 uc));clear hP hv;refine bY 14 (λK' hK=>?_);go_simp;refine hK.out _ _ b9 (λiZ=>?_)
      refine eH ?_;clear aY fE iZ b0 b0d b6 b9 nJ jr p0 p1;go_wp2;go_roundw
      case rel=>exact⟨q+1,HQ,by go_num,⟨_,HP.Ob HH.base au⟩,ql⟩
      case measure=>have:=HQ.o;simp[intOf];omega
  .obtain rfl:q=8:=ae;clear b0 aT;go_wp2;go_end0;exact⟨rfl,⟨pg,HC⟩,HKq⟩
end
section
variable {NB B C BL:Nat} {S:Nat->Prop} {w:World} {ps:Nat->Nat} {bl:Nat->Pb}
theorem eu.erased {r:Nat} (h:eu NB B S w C BL ps bl) {k P'} (hk:k<NB) (ho:Own CZ 23 w 0 (an (some ⟨P',0,none⟩) 8 8) lh) (hP:¬S P') (hB:B<=P'):
  eu NB B (λq=>S q\/q=P') (((((w.setCell (BL,k*5) (an (P',0) 8 8)).setCell (BL,k*5+1) (O aa 0)).setCell (BL,k*5+2) (aq false)).setCell (BL,k*5+3) (aq false)).setCell (BL,k*5+4) (O aa r)) C BL (upd ps k P') (upd bl k (fresh r)):=by
 have h1:=h.apb hk ho hP hB {bl k with qB:=λ_=>none} ⟨rfl,rfl,rfl,rfl⟩ rfl;have h2:=h1.setB (k:=k) (j:=1) hk ae (O aa ((0:Nat))) {bl k with qB:=λ_=>none,nx:=0} (by simp only[upd_same];rfl) (by rw[upd_same]);rw[qE] at h2;have h3:=h2.setB (k:=k) (j:=2) hk ae (aq false) {bl k with qB:=λ_=>none,nx:=0,broken:=false} (by simp only[upd_same];rfl) (by rw[upd_same]);rw[qE] at h3;have h4:=h3.setB (k:=k) (j:=3) hk ae (aq false) ⟨λ_=>none,0,false,false,(bl k).aC⟩ (by simp only[upd_same];rfl) (by rw[upd_same]);rw[qE] at h4;have h5:=h4.setB (k:=k) (j:=4) hk ae (O aa r) (fresh r) (by simp only[upd_same];rfl) (by rw[upd_same];rfl);rw[qE] at h5;exact h5
theorem QC {r:Nat} {T a b} (h:Kq T a b) {k P'} (hT:T BL):
  Kq T a (((((b.setCell ⟨BL,k*5,none⟩ (an (some ⟨P',0,none⟩) 8 8)).setCell (BL,k*5+1) (O aa 0)).setCell (BL,k*5+2) (aq false)).setCell (BL,k*5+3) (aq false)).setCell (BL,k*5+4) (O aa r)):=by grind[Kq.setCell]
def aDa (NB B:Nat) (S:Nat->Prop) (w:World) (C BL:Nat) (ps:Nat->Nat) (bl:Nat->Pb) (k:Nat) (e:Ending) w':=
 ∃y,((e=ar (O aa 0)/\mG (bl NB) y true/\∃ps',eu NB B (Up S w w') w' C BL ps' (upd (upd bl NB y) k (fresh ((bl k).aC+1))))\/(e=ar (O aa 11)/\mG (bl NB) y false/\∃pg,eu NB B (Up S w w') w' C BL ps (upd (upd bl NB y) k (brk (bl k) pg))))/\Kq S w w'
theorem Be (h:eu NB B S w C BL ps bl) (PX:(bl NB).aC<=1099511627776) {k} (hk:k<NB) (bP:(bl k).bad=false) (hw:(bl k).aC<=1099511627776):
  Calls prog 166 #[C,O aa k] w (aDa NB B S w C BL ps bl k):=by
 obtain⟨HA,HFa⟩:=cn (oM h hk (i:=0) ae) (AB h PX);have c3:=h.c3;have b3:=(h.b3 hk).1;rw[bP] at b3;have g1:(0:Int)<=(k:Int):=ae;have g2:(k:Int)<(NB:Int):=ae;obtain⟨HH,HW,HNk⟩:=cp h hw (show∀y,upd bl NB y k=bl k from λy=>aG _ _ (Nat.ne_of_lt hk));clear h bP hw PX
 go_in
 go_wp2_with fail;refine HA.cj ?_;go_wp2_with fail;go_call HFa as e w1 ⟨y,hfl,h1,fO⟩;rcases hfl with⟨rfl,hst⟩|⟨no,dv,L,rfl,Ru,hod,hog,hst⟩
 .have jI:=ag hst;clear hst;have fM:=(aE w1 w1).alloc av (.cells bm 35);obtain⟨H1,iH⟩:=cn (h1.on fM) ((fO.mono (T':=S) λq hq=>hq▸HH.hS C (.inl rfl)).on fM);clear h1 fO fM c3 b3;go_upto_region 19 with fail;generalize w1.alloc (.cells bm 35)=w2 at*;have wI:=Rf w2.drew;have HD:=ag (H1.on (ak w2));have c1:=HD.c1;have b4:=(HD.b4 hk).1;rw[HNk.o y] at b4;have hww:=HW.o;have i1:=bq (((bl k).aC:Int)+1) ⟨ae,ae⟩;generalize hr:(bl k).aC=r at*;refine iE (λW'=>W'.cell? (C,1)=some (O aa 8)) c1 (λaY=>?_);refine dw 0 BL (k*5) ?_;refine dw 1 C 0 ?_;refine aS 2 C 0 ?_;refine aS 3 C 0 ?_;refine aS 4 C 1 ?_;refine iR 5 8 ?_;refine dw 7 BL (k*5) ?_;refine aS 8 BL (k*5) ?_;refine aS 9 BL (k*5+4) ?_;have fM:=((aE w2 w2).alloc av (.cells (lh.map CZ).toArray 23)).drew;obtain⟨EM,jZ,AX,tN,HR⟩:=ct (H1.on fM) (iH.on fM) (show w.heap.size<=w2.heap.size from iH.size) (Ze w2 0 (bN _)).drew hr;clear fM;refine wpAnyH_ready (rs:=[6,10]) az au ?_;refine bX rfl (λK' hK=>?_) (bX rfl (λK' hK=>?_) cN)
  .go_simp;have d1:=EM.c1;have d4:=(EM.b4 hk).1;rw[HNk.o y,HR.o] at d4;clear wI c1 b4;generalize (w2.alloc (.cells (lh.map CZ).toArray 23)).drew=w3 at*;generalize hP:w2.heap.size=P' at*;refine hK.out _ _ d1 (λdh=>?_)
   refine bY 10 (λK' hK=>?_);go_simp;clear d4;refine hK.out _ _ d1 (λIA=>?_)
   clear IA;refine iR 11 ((r:Int)+1) ?_;refine eX 12 (.agg #[an (P',0) 8 8,O aa 0,aq false,aq false,O aa ((r:Int)+1)]) ?_;refine aS 13 BL (k*5) ?_;obtain⟨x0,y0⟩:=EM.b0 hk;obtain⟨x1,y1⟩:=EM.b1 hk;obtain⟨x2,y2⟩:=EM.b2 hk;obtain⟨x3,y3⟩:=EM.b3 hk;obtain⟨x4,y4⟩:=EM.b4 hk;rw[HNk.o y] at x1 x2 x3 x4;rw[HR.o] at x4;have hE:=(EM.erased (r:=r+1) hk tN (λhs=>by have:=HH.hi P' hs;have:=AX.o;omega) (bB HH.base AX))
   have hKE:=(QC (BL:=BL) (r:=r+1) (P':=P') (k:=k) jZ (HH.hS BL (.inr (.inl rfl))))
   rw[show((r+1:Nat):Int)=(r:Int)+1 by omega] at hE hKE;obtain⟨HE,HKE,pU⟩:=cp hE hKE (show P'<w3.heap.size from(tN.aN P' rfl).2);have d9:=hE.c1;clear hE hKE;refine bY 14 (λK' hK=>?_);go_simp;refine hK.out _ _ d9 (λfE=>?_)
   refine eH ?_;clear aY dh fE x0 x1 x2 x3 x4 y0 y1 y2 y3 y4 d1 d9;go_wp2_with fail;go_ret;refine⟨y,.inl ⟨rfl,jI,upd ps k P',?_⟩,HKE⟩;rw[HR.o];refine HE.wide (λq hq=>?_) (λq hq=>?_) (λq hq=>?_)
   .rcases hq with h1|h1
    .exact .inl h1
    .exact .inr ⟨h1▸AX,h1▸(HE.hi P' (.inr rfl))⟩
   .rcases hq with h1|h1
    .exact HH.lo q h1
    .have:=HH.base;omega
   .rcases hq with h1|h1
    .exact HE.hi q (.inl h1)
    .exact h1.2
  .go_simp;refine hK.out _ _ c1 (λdh=>?_)
   clear b4;refine iR 11 ((r:Int)+1) ?_;refine bY 6 (λK' hK=>?_);go_simp;have d1:=EM.c1;clear wI c1 dh;generalize (w2.alloc (.cells (lh.map CZ).toArray 23)).drew=w3 at*;generalize hP:w2.heap.size=P' at*;refine hK.out _ _ d1 (λdh=>?_)
   refine eX 12 (.agg #[an (P',0) 8 8,O aa 0,aq false,aq false,O aa ((r:Int)+1)]) ?_;refine aS 13 BL (k*5) ?_;obtain⟨x0,y0⟩:=EM.b0 hk;obtain⟨x1,y1⟩:=EM.b1 hk;obtain⟨x2,y2⟩:=EM.b2 hk;obtain⟨x3,y3⟩:=EM.b3 hk;obtain⟨x4,y4⟩:=EM.b4 hk;rw[HNk.o y] at x1 x2 x3 x4;rw[HR.o] at x4;have hE:=(EM.erased (r:=r+1) hk tN (λhs=>by have:=HH.hi P' hs;have:=AX.o;omega) (bB HH.base AX))
   have hKE:=(QC (BL:=BL) (r:=r+1) (P':=P') (k:=k) jZ (HH.hS BL (.inr (.inl rfl))))
   rw[show((r+1:Nat):Int)=(r:Int)+1 by omega] at hE hKE;obtain⟨HE,HKE,pU⟩:=cp hE hKE (show P'<w3.heap.size from(tN.aN P' rfl).2);have d9:=hE.c1;clear hE hKE;refine bY 14 (λK' hK=>?_);go_simp;refine hK.out _ _ d9 (λfE=>?_)
   refine eH ?_;clear aY dh fE x0 x1 x2 x3 x4 y0 y1 y2 y3 y4 d1 d9;go_wp2_with fail;go_ret;refine⟨y,.inl ⟨rfl,jI,upd ps k P',?_⟩,HKE⟩;rw[HR.o];refine HE.wide (λq hq=>?_) (λq hq=>?_) (λq hq=>?_)
   .rcases hq with h1|h1
    .exact .inl h1
    .exact .inr ⟨h1▸AX,h1▸(HE.hi P' (.inr rfl))⟩
   .rcases hq with h1|h1
    .exact HH.lo q h1
    .have:=HH.base;omega
   .rcases hq with h1|h1
    .exact HE.hi q (.inl h1)
    .exact h1.2
 .have jI:=ag hst;obtain⟨m,hm⟩:=aW L.length;obtain⟨ad,nd,rfl,hnd⟩:=hod.bG hm.symm;have apa:m<=96:=by rw[hm];exact Ru
  have fM:=(aE w1 w1).alloc av (.cells #[O aa no,O aa 3,an ad m nd] 35);obtain⟨H1,iH,HD,HDo⟩:=cr (h1.on fM) ((fO.mono (T':=S) λq hq=>hq▸HH.hS C (.inl rfl)).on fM) (hod.on fM) hog;have jT:(upd bl NB y k).aC<=1099511627776:=by rw[HNk.o y];exact HW.o
  clear h1 fO fM hst hod hog Ru hm hnd c3 b3;go_wp2_with fail;go_call(Pn H1 hk jT ad m nd L HD HDo apa) as e w3 ⟨rfl,⟨pg,h3⟩,mr⟩;rw[HNk.o y] at h3;obtain⟨jZ,H3⟩:=cn (iH.aA mr λq hq=> .inl (HH.hS q hq)) (h3.re (w0:=w) HH.base iH.size av);clear h3 mr jT;go_wp2_with fail;go_ret;exact⟨y,.inr ⟨rfl,jI,pg,H3⟩,jZ⟩
end
structure Mg where
 M:Nat
 ML:Nat
 C:Nat
 BL:Nat
 cap:Nat
 ps:Nat->Nat
 bl:Nat->Pb
 l:List Bk
 opn:Int
 res:Int
 bad:Int
 even:Bool
 gh:List UInt8->Prop
def mgA (NB:Nat) (g:Mg):Array Value:=#[g.C,an (g.ML,0) NB g.cap,O aa g.opn,O aa g.res,O aa g.bad,aq g.even]
def Sm (g:Mg) (S:Nat->Prop) q:=q=g.M\/q=g.ML\/S q
structure fF NB B S w g:Prop where
 hM:aF w g.M 283 (mgA NB g)
 hL:bQ 4 Eh 296 w 0 (an (g.ML,0) NB g.cap) g.l
 hc:eu NB B S w g.C g.BL g.ps g.bl
 ne:g.M≠g.ML
 sM:¬S g.M
 sL:¬S g.ML
 bM:B<=g.M
 bL:B<=g.ML
 nb:NB<=1000
section
variable {NB B:Nat} {S T:Nat->Prop} {w w':World} {g:Mg}
theorem fF.ghost (h:fF NB B S w g) P:fF NB B S w {g with gh:=P}:=⟨h.hM,h.hL,h.hc,h.ne,h.sM,h.sL,h.bM,h.bL,h.nb⟩
theorem fF.len (h:fF NB B S w g):g.l.length=NB:=by
 obtain⟨_,_,e,_⟩:=h.hL.form;injection e with _ e2 _
 exact e2.symm
theorem fF.ltM (h:fF NB B S w g):g.M<w:=h.hM.lt
theorem fF.ltL (h:fF NB B S w g):g.ML<w:=(h.hL.aN _ rfl).2
theorem fF.base (h:fF NB B S w g):B<=w:=by have:=h.bM;have:=h.ltM;omega
theorem fF.hi (h:fF NB B S w g):∀q,Sm g S q->q<w:=by
 rintro q (rfl|rfl|hq)
 .exact h.ltM
 .exact h.ltL
 .exact h.hc.hi q hq
theorem fF.kq (h:fF NB B S w g) (hk:Kq T w w') (hT:∀q,Sm g S q->¬T q):fF NB B S w' g:=
 ⟨h.hM.kq hk (hT _ (.inl rfl)),h.hL.kq hk λq hq=>by obtain rfl:=dP _ _ _ _ hq;exact hT _ (.inr (.inl rfl)),h.hc.kq hk λq hq=>hT q (.inr (.inr hq)),h.ne,h.sM,h.sL,h.bM,h.bL,h.nb⟩
theorem fF.on (h:fF NB B S w g) (hb:Below w w w'):fF NB B S w' g:=h.kq (T:=λ_=>False) (Kq.of hb) λ_ _ h=>h
theorem fF.aaD {S' ps' bl'} (h:fF NB B S w g) (hc:eu NB B S' w' g.C g.BL ps' bl') (hk:Kq S w w') (hS:∀q,S' q->Up S w w' q):fF NB B S' w' {g with ps:=ps',bl:=bl'}:=
 ⟨h.hM.kq hk h.sM,h.hL.kq hk λq hq=>by obtain rfl:=dP _ _ _ _ hq;exact h.sL,hc,h.ne,λhs=>h.sM (fA (hS _ hs) h.ltM),λhs=>h.sL (fA (hS _ hs) h.ltL),h.bM,h.bL,h.nb⟩
theorem Sm.up {S S'} (h:∀q,S' q->Up S w w' q) {q} (hq:Sm g S' q):Up (Sm g S) w w' q:=by
 rcases hq with h1|h1|h1
 .exact .inl (.inl h1)
 .exact .inl (.inr (.inl h1))
 .rcases h q h1 with h2|h2
  .exact .inl (.inr (.inr h2))
  .exact .inr h2
theorem fF.up {w0} (h:fF NB B S w g) (h0:B<=w0.heap.size) (hM:g.M<w0.heap.size) (hL:g.ML<w0.heap.size):fF NB B (Up S w0 w) w g:=
 ⟨h.hM,h.hL,h.hc.up h0,h.ne,λhs=>h.sM (fA hs hM),λhs=>h.sL (fA hs hL),h.bM,h.bL,h.nb⟩
theorem fF.yU (h:fF NB B S w g) {k j} (hk:k<NB) (hj:j<4) u y (hy:Eh y=(Eh (Gc.at_ g.l k)).set j u):fF NB B S (w.setCell (g.ML,k*4+j) u) {g with l:=g.l.set k y}:=by
 have hl:=h.len;have e:Gc.at_ g.l k=g.l[k]'ae:=by rw[Gc.at_,db,cX ae];rfl
 have hq:Kq (λq=>q=g.ML) w (w.setCell (g.ML,k*4+j) u):=Kq.one ⟨_,_,none⟩ _;exact⟨h.hM.kq hq h.ne,h.hL.set (i:=k) (j:=j) ae hj (by rw[hy,e]),h.hc.kq hq λq hq e=>h.sL (e▸hq),h.ne,h.sM,h.sL,h.bM,h.bL,h.nb⟩
theorem fF.ahn (h:fF NB B S w g) x:fF NB B S (w.setCell (g.M,2) (O aa x)) {g with opn:=x}:=by have hq:Kq (λq=>q=g.M) w (w.setCell (g.M,2) (O aa x)):=Kq.one ⟨_,_,none⟩ _;refine⟨?_,h.hL.kq hq λq hq=>by obtain rfl:=dP _ _ _ _ hq;exact Ne.symm h.ne,h.hc.kq hq λq hq e=>h.sM (e▸hq),h.ne,h.sM,h.sL,h.bM,h.bL,h.nb⟩;exact h.hM.set 2 (O aa x)
theorem fF.aC1 (h:fF NB B S w g) x:fF NB B S (w.setCell (g.M,5) (aq x)) {g with even:=x}:=by have hq:Kq (λq=>q=g.M) w (w.setCell (g.M,5) (aq x)):=Kq.one ⟨_,_,none⟩ _;refine⟨?_,h.hL.kq hq λq hq=>by obtain rfl:=dP _ _ _ _ hq;exact Ne.symm h.ne,h.hc.kq hq λq hq e=>h.sM (e▸hq),h.ne,h.sM,h.sL,h.bM,h.bL,h.nb⟩;exact h.hM.set 5 (aq x)
theorem fF.m0 (h:fF NB B S w g):w.cell? (g.M,0)=some (.pointer (g.C,0)):=h.hM.aj rfl
theorem fF.m1 (h:fF NB B S w g):w.cell? (g.M,1)=some (an (g.ML,0) NB g.cap):=h.hM.aj rfl
theorem fF.m2 (h:fF NB B S w g):w.cell? (g.M,2)=some (O aa g.opn):=h.hM.aj rfl
theorem fF.m3 (h:fF NB B S w g):w.cell? (g.M,3)=some (O aa g.res):=h.hM.aj rfl
theorem fF.m4 (h:fF NB B S w g):w.cell? (g.M,4)=some (O aa g.bad):=h.hM.aj rfl
theorem fF.m5 (h:fF NB B S w g):w.cell? (g.M,5)=some (aq g.even):=h.hM.aj rfl
theorem fF.ad3 (h:fF NB B S w g) i:w.frozen? ⟨g.M,i,none⟩=false:=h.hM.frozen i
theorem fF.row (h:fF NB B S w g) {k j} (hk:k<NB) (hj:j<4):w.cell? (g.ML,k*4+j)=(Eh (Gc.at_ g.l k))[j]?/\w.frozen? (g.ML,k*4+j)=false:=by
 have hl:=h.len;have e:Gc.at_ g.l k=g.l[k]'ae:=by rw[Gc.at_,db,cX ae];rfl
 rw[e];exact h.hL.dU ae hj
theorem fF.r0 (h:fF NB B S w g) {k} (hk:k<NB):w.cell? (g.ML,k*4)=some (O aa (Gc.at_ g.l k).st)/\w.frozen? (g.ML,k*4)=false:=h.row hk (j:=0) ae
theorem fF.r1 (h:fF NB B S w g) {k} (hk:k<NB):w.cell? (g.ML,k*4+1)=some (O aa (Gc.at_ g.l k).live)/\w.frozen? (g.ML,k*4+1)=false:=h.row hk (j:=1) ae
theorem fF.r2 (h:fF NB B S w g) {k} (hk:k<NB):w.cell? (g.ML,k*4+2)=some (O aa (Gc.at_ g.l k).aC)/\w.frozen? (g.ML,k*4+2)=false:=h.row hk (j:=2) ae
theorem fF.r3 (h:fF NB B S w g) {k} (hk:k<NB):w.cell? (g.ML,k*4+3)=some (O aa (Gc.at_ g.l k).nx)/\w.frozen? (g.ML,k*4+3)=false:=h.row hk (j:=3) ae
theorem fF.arr (h:fF NB B S w g):fP 4 Eh w w (g.ML,0) NB g.l:=h.hL.arr (by rw[h.len];have:=h.nb;omega)
theorem at_set (l:List Bk) {k} y (hk:k<l.length):Gc.at_ (l.set k y) k=y:=by rw[Gc.at_,db,List.getElem?_set_self hk];rfl
theorem bC l {k j} y (hj:j≠k):Gc.at_ (l.set k y) j=Gc.at_ l j:=by rw[Gc.at_,db,List.getElem?_set_ne (Ne.symm hj)];rfl
end
theorem ahf a b c:∀u,(Instr.field 60 (.agg #[a,b,c]) 0).run prog u= .ok a u:=λu=>az
theorem aoe a b c:∀u,(Instr.field 60 (.agg #[a,b,c]) 1).run prog u= .ok b u:=λu=>az
theorem Qa a b c:∀u,(Instr.field 60 (.agg #[a,b,c]) 2).run prog u= .ok c u:=λu=>az
section
variable {NB B:Nat} {S:Nat->Prop} {w:World} {g:Mg}
theorem xG (h:fF NB B S w g):
  Calls prog 311 #[g.M] w λe w'=>e=ar (O aa 0)/\w=w':=by
 have m0:=h.m0;have HU:=ag (rq h.hc);clear h
 go_in
 go_wp2_with fail;refine(HU).cj ?_;go_wp2;go_ret;exact⟨rfl,rfl⟩
theorem kK (h:fF NB B S w g):
  Calls prog 310 #[g.M] w λe w'=>e=ar (O aa 8)/\Below w w w':=by
 have m0:=h.m0;have HU:=ag (dQ h.hc);clear h
 go_in
 go_wp2_with fail;go_call HU as e w1 ⟨rfl,hb⟩;have HB:=ag hb;clear hb m0;have hf:=aoe (O aa NB) (O aa 8) (O aa 64);unfold uI;go_wp2;go_ret;exact⟨rfl,HB⟩
theorem Em (h:fF NB B S w g) {k} (hk:k<NB):
  Calls prog 244 #[g.M,O aa k] w λe w'=>e=ar (aq (Gc.good (Gc.at_ g.l k)))/\w=w':=by
 have m1:=h.m1;have r0:=(h.r0 hk).1;have g1:(0:Int)<=(k:Int):=ae;have g2:(k:Int)<(NB:Int):=ae;clear h hk
 go_in
 go_wp2;go_ret;exact⟨rfl,rfl⟩
theorem Ih (h:fF NB B S w g) {k} (hk:k<NB) (hg:Gc.good (Gc.at_ g.l k)=true) (hv:(Gc.at_ g.l k).live=0):
  Calls prog 342 #[g.M,O aa k] w λe w'=>e=ar (O aa 0)/\w=w':=by
 obtain⟨HR,HT⟩:=cn (xG h) (Em h hk);rw[hg] at HT;have m1:=h.m1;have r1:=(h.r1 hk).1;rw[hv] at r1;have g1:(0:Int)<=(k:Int):=ae;have g2:(k:Int)<(NB:Int):=ae;clear h hk hg hv
 go_in
 go_wp2_with fail;refine(HR).cj ?_;go_wp2_with fail;refine(HT).cj ?_;go_wp2;go_ret;exact⟨rfl,rfl⟩
def dD (x:Bk):Bk:=⟨if x.st=2/\x.live-1=0 then 3 else x.st,x.live-1,x.aC,x.nx⟩
theorem Ht (h:fF NB B S w g) {k} (hk:k<NB) (hg:Gc.good (Gc.at_ g.l k)=true) (hv:0<(Gc.at_ g.l k).live) (hv2:(Gc.at_ g.l k).live<=1000):
  Calls prog 202 #[g.M,O aa k] w λe w'=>e=ar (O aa 0)/\fF NB B S w' {g with l:=g.l.set k (dD (Gc.at_ g.l k))}/\Kq (λq=>q=g.ML) w w':=by
 have HT:=ag (Em h hk);rw[hg] at HT;have hlen:=h.len;have m1:=h.m1;have r1:=(h.r1 hk).1;have f1:=(h.r1 hk).2;obtain⟨x,hx⟩:=aW (Gc.at_ g.l k);rw[<-hx] at r1 hv hv2⊢;have h1:=h.yU hk (j:=1) ae (O aa ((x.live-1:Nat))) {x with live:=x.live-1} (by rw[<-hx];rfl);have m1':=h1.m1;have s0:=h1.r0 hk;have s1:=(h1.r1 hk).1;rw[at_set _ _ ae] at s0 s1;obtain⟨s0,t0⟩:=s0;have k1:Kq (λq=>q=g.ML) w (w.setCell (g.ML,k*4+1) (O aa ((x.live-1:Nat)))):=Kq.one ⟨_,_,none⟩ _;have h2:=h1.yU hk (j:=0) ae (O aa 3) ⟨3,x.live-1,x.aC,x.nx⟩ (by rw[at_set _ _ ae];rfl);have k2:=k1.setCell (p:=⟨g.ML,k*4+0,none⟩) (.inl rfl) (O aa 3);have e2:(g.l.set k {x with live:=x.live-1}).set k ⟨3,x.live-1,x.aC,x.nx⟩=g.l.set k ⟨3,x.live-1,x.aC,x.nx⟩:=List.set_set ..;simp only[e2,Nat.add_zero] at h2 k2;obtain⟨H1,H2,iH,ja⟩:=cr h1 h2 k1 k2;have hd:decide ((x.live:Int)=0)=false:=ey ae;have hd2:((x.live:Int)==0)=false:=by rw[ew];omega
 have e1:((x.live-1:Nat):Int)=(x.live:Int)-1:=ae;rw[e1] at H1 H2 iH ja m1' s0 s1 t0;have g1:(0:Int)<=(k:Int):=ae;have g2:(k:Int)<(NB:Int):=ae;have i1:=bq ((x.live:Int)-1) ⟨ae,ae⟩;obtain⟨HX,HE1⟩:=cn hx e1;clear h hg h1 h2 k1 k2 hx e2 e1;simp only at m1' s0 s1
 go_in
 go_wp2_with fail;refine(HT).cj ?_;go_upto_region 6 with fail;generalize w.setCell (g.ML,k*4+1) (O aa ((x.live:Int)-1))=w1 at*;clear m1 r1 f1;by_cases hs:x.st=2
 .by_cases hz:x.live=1
  .have e3:dD x=⟨3,x.live-1,x.aC,x.nx⟩:=by unfold dD;rw[ev ⟨hs,ae⟩]
   have E3:=ag e3;rw[hs] at s0;rw[hz] at s1;clear hs hz e3;go_wp2_with fail;go_ret;exact⟨rfl,by rw[E3.o];exact H2.o,ja⟩
  .have e3:dD x={x with live:=x.live-1}:=by unfold dD;rw[eo (λh=>by have:=h.2;omega)]
   have tu:((x.live:Int)-1==0)=false:=by rw[ew];omega
   have E3:=ag e3;rw[hs] at s0;clear hs hz e3;go_wp2_with fail;go_ret;exact⟨rfl,by rw[E3.o];exact H1.o,iH⟩
 .have e3:dD x={x with live:=x.live-1}:=by unfold dD;rw[eo (λh=>hs h.1)]
  have mQ:((x.st:Int)==2)=false:=by rw[ew];omega
  have E3:=ag e3;clear hs e3;go_wp2_with fail;go_ret;exact⟨rfl,by rw[E3.o];exact H1.o,iH⟩
end
theorem lH p lt F G (fm fb:Nat) cm cb (hF:F= .func (.func fm) #[] cm) (hG:G= .func (.func fb) #[] cb) a n c l w (hx:fP 4 Eh w w a n l) (hn:n<=1000)
  (i1:∀args w,(callFunc fm args).run prog w= .ok (.enter fm args) w) (i2:∀args w,(callFunc fb args).run prog w= .ok (.enter fb args) w)
  (hm:∀w' x,Below w w w'->x∈l->Calls prog fm (#[BZ x]++cm) w' λe w''=>e=ar (aq (p x))/\Below w' w' w'')
  (hb:∀w' x y,Below w w w'->x∈l->y∈l->Calls prog fb (#[BZ x,BZ y]++cb) w' λe w''=>e=ar (aq (lt x y))/\Below w' w' w''):
  Calls prog 254 #[an a n c,F,G] w λe w'=>e=ar (O aa (Gc.oI (Gc.best p lt l n)))/\Below w w w':=by
 obtain⟨HM,HB,HX⟩:=cp hm hb hx;have hlen:=hx.len;subst hF hG;clear hm hb hx;have gm:=lg
 go_in
 go_wp2
 go_loopw [7,8,9,12] (λv _ _ i wr=>∃k:Nat,k<=n/\i=O aa k/\v=O aa (Gc.oI (Gc.best p lt l k))/\Below w w wr) (λ_ _ _ i _=>n-(intOf i).toNat)
 case atStart=>exact⟨0,ae,rfl,rfl,aE _ _⟩
 case round=>
  obtain⟨k,hk,rfl,rfl,hb⟩:=hrel;have kT:=ag hb;clear hb;by_cases aT:k<n
  .obtain⟨b,o,rfl,gB,c0,c1,c2,c3⟩:=Hy (HX.below kT) (k:=k) aT;have WA:(0:Int)<=(k:Int):=ae;have fO:(k:Int)<(n:Int):=ae;have Eb:=getD_mem (l:=l) (k:=k) ae;generalize hXe:Gc.at_ l k=x at*;go_upto_region 5 with fail;obtain⟨XF,bV⟩:=cn (aF.new wr 296 x) (kT.alloc kT.size (.cells x 296));generalize wr.heap.size=g at*;generalize wr.alloc _=w1 at*;have gZ:=ag (show Below w w w1.drew/\aF w1.drew g 296 x from⟨bV.drew,XF⟩);clear c0 c1 c2 c3;have hE:Gc.best p lt l (k+1)=match Gc.best p lt l k with
    |none=>if p x then some k else none
    |some a=>if p x&&lt x (Gc.at_ l a) then some k else some a:=by subst hXe;rfl
   cases hp:p x
   .have HE:=ag (show Gc.best p lt l (k+1)=Gc.best p lt l k by rw[hE,hp];cases Gc.best p lt l k<;>rfl);clear hE;refine iE (λW'=>Below w w W'/\aF W' g 296 x) gZ.o (λaY=>?_);refine dG 0 (.func (.func fm) #[] cm) ?_;refine jE 1 (BZ x) rfl (λ_ aK=>by have y0:=aK.2.aj (i:=0) rfl;have y1:=aK.2.aj (i:=1) rfl;have y2:=aK.2.aj (i:=2) rfl;have y3:=aK.2.aj (i:=3) rfl;go_simp) ?_;refine bY 2 (λK' hK=>?_);go_simp;go_call(HM.o w1.drew x gZ.o.1 Eb) as e w2 ⟨rfl,aZ⟩;rw[hp];have dh:Below w w w2/\aF w2 g 296 x:=⟨gZ.o.1.aA aZ,gZ.o.2.ah aZ⟩
    refine hK.out _ _ dh (λfE=>?_)
    refine eX 3 (aq false) ?_;refine oD 4 ?_;refine oD 5 ?_;refine oD 6 ?_;refine oD 7 ?_;refine oD 8 ?_;refine oD 9 ?_;refine oD 10 ?_;refine oD 11 ?_;refine oD 12 ?_;refine oD 13 ?_;refine oD 14 ?_;refine eX 15 (aq false) ?_;refine eH ?_;have xE:=ag fE.1;clear aY dh fE;go_wp2_with fail;go_roundw
    case rel=>exact⟨k+1,ae,by go_num,(congrArg (λo=>O aa (Gc.oI o)) HE).symm,xE⟩
    case measure=>simp[intOf];omega
   .cases ho:Gc.best p lt l k with
    |none=>
     have HE:=ag (show Gc.best p lt l (k+1)=some k by rw[hE,hp,ho];rfl);clear hE;have ad4:Gc.oI none= -1:=rfl;rw[ad4];refine iE (λW'=>Below w w W'/\aF W' g 296 x) gZ.o (λaY=>?_);refine dG 0 (.func (.func fm) #[] cm) ?_;refine jE 1 (BZ x) rfl (λ_ aK=>by have y0:=aK.2.aj (i:=0) rfl;have y1:=aK.2.aj (i:=1) rfl;have y2:=aK.2.aj (i:=2) rfl;have y3:=aK.2.aj (i:=3) rfl;go_simp) ?_;refine bY 2 (λK' hK=>?_);go_simp;go_call(HM.o w1.drew x gZ.o.1 Eb) as e w2 ⟨rfl,aZ⟩;rw[hp];have dh:Below w w w2/\aF w2 g 296 x:=⟨gZ.o.1.aA aZ,gZ.o.2.ah aZ⟩
     refine hK.out _ _ dh (λfE=>?_)
     refine eX 3 (aq true) ?_;refine iR 4 (-1) ?_;refine eX 5 (aq true) ?_;refine eX 6 (aq true) ?_;refine oD 7 ?_;refine oD 8 ?_;refine oD 9 ?_;refine oD 10 ?_;refine oD 11 ?_;refine oD 12 ?_;refine oD 13 ?_;refine eX 14 (aq true) ?_;refine eX 15 (aq true) ?_;refine eH ?_;have xE:=ag fE.1;clear aY dh fE;go_wp2_with fail;go_roundw
     case rel=>exact⟨k+1,ae,by go_num,(congrArg (λo=>O aa (Gc.oI o)) HE).symm,xE⟩
     case measure=>simp[intOf];omega
    |some q=>
     have hq:q<k:=(Gc.gU ho).1;have XG:Gc.oI (some q)=(q:Int):=rfl;have hnn:decide ((q:Int)<0)=false:=ey ae;have YN:(0:Int)<=(q:Int):=ae;have BA:(q:Int)<(n:Int):=ae;have HY:=ag (λ(W':World) (hW:Below w w W')=>Hy (HX.below hW) (k:=q) ae);have hmy:=getD_mem (l:=l) (k:=q) ae;rw[XG];generalize hYe:Gc.at_ l q=y at*;have hE2:Gc.best p lt l (k+1)=if lt x y then some k else some q:=by rw[hE,hp,ho];show(if (true&&lt x (Gc.at_ l q))=true then some k else some q)=_;rw[hYe,Bool.true_and]
     have HE:=ag hE2;clear hE hE2;refine iE (λW'=>Below w w W'/\aF W' g 296 x) gZ.o (λaY=>?_);refine dG 0 (.func (.func fm) #[] cm) ?_;refine jE 1 (BZ x) rfl (λ_ aK=>by have y0:=aK.2.aj (i:=0) rfl;have y1:=aK.2.aj (i:=1) rfl;have y2:=aK.2.aj (i:=2) rfl;have y3:=aK.2.aj (i:=3) rfl;go_simp) ?_;refine bY 2 (λK' hK=>?_);go_simp;go_call(HM.o w1.drew x gZ.o.1 Eb) as e w2 ⟨rfl,aZ⟩;rw[hp];have dh:Below w w w2/\aF w2 g 296 x:=⟨gZ.o.1.aA aZ,gZ.o.2.ah aZ⟩
     refine hK.out _ _ dh (λfE=>?_)
     refine eX 3 (aq true) ?_;refine iR 4 (q:Int) ?_;refine eX 5 (aq false) ?_;refine eX 6 (aq false) ?_;refine dG 7 (.func (.func fb) #[] cb) ?_;refine jE 8 (BZ x) rfl (λ_ aK=>by have y0:=aK.2.aj (i:=0) rfl;have y1:=aK.2.aj (i:=1) rfl;have y2:=aK.2.aj (i:=2) rfl;have y3:=aK.2.aj (i:=3) rfl;go_simp) ?_;refine dG 9 (an (b,o) n c) ?_;refine dI 10 (q:Int) ?_;refine aS 11 b (o+q*4) ?_;refine jE 12 (BZ y) rfl (λ_ aK=>by obtain⟨b',o',he,_,y0,y1,y2,y3⟩:=HY.o _ aK.1;injection he with he;injection he with he1 he2;subst he1 he2;go_simp) ?_;refine bY 13 (λK' hK=>?_);go_simp;go_call(HB.o w2 x y fE.1 Eb hmy) as e w3 ⟨rfl,bJ⟩;have iZ:Below w w w3/\aF w3 g 296 x:=⟨fE.1.aA bJ,fE.2.ah bJ⟩
     refine hK.out _ _ iZ (λqX=>?_)
     refine eX 14 (aq (lt x y)) ?_;refine eX 15 (aq (lt x y)) ?_;refine eH ?_;have xE:=ag qX.1;clear aY dh fE iZ qX
     cases hl:lt x y
     .rw[hl,eo au] at HE;go_wp2_with fail;go_roundw
      case rel=>exact⟨k+1,ae,by go_num,(congrArg (λo=>O aa (Gc.oI o)) HE).symm,xE⟩
      case measure=>simp[intOf];omega
     .rw[hl,ev rfl] at HE;go_wp2_with fail;go_roundw
      case rel=>exact⟨k+1,ae,by go_num,(congrArg (λo=>O aa (Gc.oI o)) HE).symm,xE⟩
      case measure=>simp[intOf];omega
  .obtain rfl:k=n:=ae;go_wp2_with fail;go_ret;exact⟨rfl,kT⟩
theorem fV {f fn c} (hf : prog.funcs[f]? = some fn) (awG : (fn.name == "runtime.NumGoroutine") = false) (hb : fn.body = some c) args w :
  (callFunc f args).run prog w= .ok (.enter f args) w:=by
 have h1 : fn.name ≠ "runtime.NumGoroutine" := by simpa using awG
 simp[callFunc,hf,h1,hb]
theorem Hz a n c l w (hx:fP 4 Eh w w a n l) (hn:n<=1000):
  Calls prog 222 #[an a n c] w λe w'=>e=ar (O aa (Gc.least l))/\Below w w w':=by
 have HC:=ag (lH Gc.good Gc.iy _ _ 255 257 #[] #[] rfl rfl a n c l w hx hn (fV Tryz.func255 az rfl) (fV Tryz.func257 az rfl)
  (λw' x _ _=>uu x w') (λw' x y _ _ _=>Pj x y w'))
 have hl:=hx.len;obtain⟨HX,HL⟩:=cn hx (show Gc.least l=Gc.MJ l (Gc.best Gc.good Gc.iy l n) by rw[<-hl];rfl);clear hx
 go_in
 go_wp2_with fail;go_call HC as e w1 ⟨rfl,hb⟩;have HB:=ag hb;clear hb
 cases ho:Gc.best Gc.good Gc.iy l n with
 |none=>
  rw[ho] at HL;have e0:Gc.oI none= -1:=rfl;rw[e0];go_wp2;go_ret;exact⟨by rw[HL.o];rfl,HB⟩
 |some k=>
  rw[ho] at HL;have hk:=(Gc.gU ho).1;have e0:Gc.oI (some k)=(k:Int):=rfl;have e1:decide ((k:Int)<0)=false:=ey ae;have e2:(0:Int)<=(k:Int):=ae;have e3:(k:Int)<(n:Int):=ae;obtain⟨b,o,rfl,_,_,_,c2,_⟩:=Hy (HX.below HB) (k:=k) hk;rw[e0];clear ho e0;go_wp2;go_ret;exact⟨by rw[HL.o];rfl,HB⟩
theorem MK a n c l w (hx:fP 4 Eh w w a n l) (hn:n<=1000):
  Calls prog 221 #[an a n c] w λe w'=>e=ar (O aa (Gc.greatest l))/\Below w w w':=by
 have HC:=ag (lH Gc.good Gc.more _ _ 255 256 #[] #[] rfl rfl a n c l w hx hn (fV Tryz.func255 az rfl) (fV Tryz.func256 az rfl)
  (λw' x _ _=>uu x w') (λw' x y _ _ _=>TP x y w'))
 have hl:=hx.len;obtain⟨HX,HL⟩:=cn hx (show Gc.greatest l=Gc.MJ l (Gc.best Gc.good Gc.more l n) by rw[<-hl];rfl);clear hx
 go_in
 go_wp2_with fail;go_call HC as e w1 ⟨rfl,hb⟩;have HB:=ag hb;clear hb
 cases ho:Gc.best Gc.good Gc.more l n with
 |none=>
  rw[ho] at HL;have e0:Gc.oI none= -1:=rfl;rw[e0];go_wp2;go_ret;exact⟨by rw[HL.o];rfl,HB⟩
 |some k=>
  rw[ho] at HL;have hk:=(Gc.gU ho).1;have e0:Gc.oI (some k)=(k:Int):=rfl;have e1:decide ((k:Int)<0)=false:=ey ae;have e2:(0:Int)<=(k:Int):=ae;have e3:(k:Int)<(n:Int):=ae;obtain⟨b,o,rfl,_,_,_,c2,_⟩:=Hy (HX.below HB) (k:=k) hk;rw[e0];clear ho e0;go_wp2;go_ret;exact⟨by rw[HL.o];rfl,HB⟩
namespace Gc
def count (s:Nat) (l:List Bk):=(l.filter λx=>decide (x.st=s)).length
theorem count_le s l:count s l<=l.length:=List.length_filter_le _ _
theorem MF s l {k} (hk:k<l.length):count s (l.take (k+1))=count s (l.take k)+if (at_ l k).st=s then 1 else 0:=by
 unfold count;rw[List.take_add_one,cX hk,List.filter_append,bE,at_,db,cX hk];grind
end Gc
theorem Ic (s:Nat) a n c l w (hx:fP 4 Eh w w a n l) (hn:n<=1000):
  Calls prog 210 #[an a n c,O aa s] w λe w'=>e=ar (O aa (Gc.count s l))/\Below w w w':=by
 have HX:=ag hx;have hl:=hx.len;have gm:=lg;clear hx
 go_in
 go_wp2
 go_loopw [5,7,10] (λm _ i wr=>∃k:Nat,k<=n/\i=O aa k/\m=O aa (Gc.count s (l.take k))/\Below w w wr) (λ_ _ i _=>n-(intOf i).toNat)
 case atStart=>exact⟨0,ae,rfl,rfl,aE _ _⟩
 case round=>
  obtain⟨k,hk,rfl,rfl,hb⟩:=hrel;have kT:=ag hb;clear hb;by_cases aT:k<n
  .obtain⟨b,o,rfl,gB,c0,c1,c2,c3⟩:=Hy (HX.below kT) (k:=k) aT;have WA:(0:Int)<=(k:Int):=ae;have fO:(k:Int)<(n:Int):=ae;have HC:=ag (Gc.MF s l (k:=k) ae);have uF:=bB (Gc.count_le s (l.take k)) (by rw[cI];exact Nat.min_le_left _ _);generalize Gc.at_ l k=x at*;generalize Gc.count s (l.take k)=q at*;by_cases he:x.st=s
   .have he2:((x.st:Int)==(s:Int))=true:=by rw[beq_iff_eq,he]
    have HE:=ag he;clear he;go_wp2_with fail;go_roundw
    case rel=>exact⟨k+1,ae,by go_num,by rw[HC.o,ev HE.o];go_num,kT.alloc kT.size _⟩
    case measure=>simp[intOf];omega
   .have he2:((x.st:Int)==(s:Int))=false:=by rw[ew];omega
    have HE:=ag he;clear he;go_wp2_with fail;go_roundw
    case rel=>exact⟨k+1,ae,by go_num,by rw[HC.o,eo HE.o];rfl,kT.alloc kT.size _⟩
    case measure=>simp[intOf];omega
  .obtain rfl:k=n:=ae;go_wp2_with fail;go_ret;exact⟨by rw[cL ae];rfl,kT⟩
theorem TQ x pages (h:Gc.Ok pages x) w:
  Calls prog 355 #[BZ x,O aa pages] w λe w'=>e=ar (aq true)/\Below w w w':=by
 obtain⟨hb,c0,c1,c2,c3⟩:=boxed x w;have HB:=ag hb;unfold vF at c0 c1 c2 c3 HB;obtain⟨s,l,r,n⟩:=x;obtain⟨h1,h2,h3,h4,h5⟩:=h;simp only at h1 h2 h3 h4 h5;have i2:(l:Int)<=(pages:Int):=ae;have i3:(n:Int)<=(pages:Int):=ae;have i4:(r:Int)<=1099511627776:=ae;clear hb h2 h3 h4;have hs:s=0\/s=1\/s=2\/s=3\/s=4:=ae;rcases hs with rfl|rfl|rfl|rfl|rfl
 .obtain rfl:l=0:=h5 aB;clear h1 h5
  go_in
  go_wp2;go_ret;exact⟨rfl,HB⟩
 .clear h1 h5
  go_in
  go_wp2;go_ret;exact⟨rfl,HB⟩
 .clear h1 h5
  go_in
  go_wp2;go_ret;exact⟨rfl,HB⟩
 .obtain rfl:l=0:=h5 aB;clear h1 h5
  go_in
  go_wp2;go_ret;exact⟨rfl,HB⟩
 .obtain rfl:l=0:=h5 aB;clear h1 h5
  go_in
  go_wp2;go_ret;exact⟨rfl,HB⟩
theorem TL a n c l pages w (hx:fP 4 Eh w w a n l) (hn:n<=1000) (yc:1<=pages) (hp:pages<=32) (h:∀k,k<n->Gc.Ok pages (Gc.at_ l k)):
  Calls prog 329 #[an a n c,O aa pages] w λe w'=>e=ar (aq true)/\Below w w w':=by
 obtain⟨HX,HO⟩:=cn hx h;have hl:=hx.len;have gm:=lg;have hd1:decide ((pages:Int)<1)=false:=ey ae;have hd2:decide ((32:Int)<(pages:Int))=false:=ey ae;clear hx h
 go_in
 go_wp2;go_step3;go_wp2_with fail;go_step3;go_wp2_with fail
 go_loopw [5,7,16] (λg _ i wr=>∃k:Nat,k<=n/\i=O aa k/\g=aq true/\Below w w wr) (λ_ _ i _=>n-(intOf i).toNat)
 case atStart=>exact⟨0,ae,rfl,rfl,aE _ _⟩
 case round=>
  obtain⟨k,hk,rfl,rfl,hb⟩:=hrel;have kT:=ag hb;clear hb;by_cases aT:k<n
  .obtain⟨b,o,rfl,gB,c0,c1,c2,c3⟩:=Hy (HX.below kT) (k:=k) aT;have WA:(0:Int)<=(k:Int):=ae;have fO:(k:Int)<(n:Int):=ae;have Vs:=ag (HO.o k aT);generalize Gc.at_ l k=x at*;go_wp2_with fail;go_call(TQ x pages Vs _) as e w1 ⟨rfl,hb⟩;have bV:=ag ((kT.alloc kT.size _).aA hb);clear hb c0 c1 c2 c3;go_wp2_with fail;go_roundw
   case rel=>exact⟨k+1,ae,by go_num,rfl,bV⟩
   case measure=>simp[intOf];omega
  .obtain rfl:k=n:=ae;go_wp2_with fail;rw[Exit.noGoto_ret];go_ret;exact⟨rfl,kT⟩
namespace Gc
def p2 (room:Bool) (x:Bk):=room&&((x.st:Int)==2)
def p3 l x:=stale x&&may l x
def p4 room l pages x:=p2 room x&&may l x&&decide (x.live<pages)
def p5 (l:Nat) (x:Bk):=((x.aC:Int)==l)&&(((x.st:Int)==0)||((x.st:Int)==1)&&((x.nx:Int)==0))
def p6 (room:Bool) (l:Nat) (x:Bk):=p2 room x&&((x.aC:Int)==l)
def p7 room pages x:=p2 room x&&decide (x.live<pages)
end Gc
theorem alC x (w:World):aF (w.alloc (.cells (vF x) 296)) w 296 (vF x):=aF.new w _ _
theorem yY x RB room (w:World) (hr:w.cell? ⟨RB,0,none⟩=some (aq room)):
  Calls prog 331 #[BZ x,RB] w λe w'=>e=ar (aq (Gc.p2 room x))/\Below w w w':=by
 obtain⟨hb,c0,c1,c2,c3⟩:=boxed x w;have r0:=bu hr hb;have HB:=ag hb;unfold vF at c0 c1 c2 c3 HB r0;clear hb hr;cases room
 .go_in
  go_wp2;go_ret;exact⟨rfl,HB⟩
 .go_in
  go_wp2;go_ret;exact⟨rfl,HB⟩
theorem XB x SB LB (l:Nat) (hl:l<=2199023255552) (hx:x.aC<=2199023255552) (w:World) (hs:w.cell? ⟨SB,0,none⟩=some (.func (.func 330) #[] #[])) (h2:w.cell? ⟨LB,0,none⟩=some (O aa l)):
  Calls prog 332 #[BZ x,SB,LB] w λe w'=>e=ar (aq (Gc.p3 l x))/\Below w w w':=by
 obtain⟨hb,c0,c1,c2,c3⟩:=boxed x w;have s0:=bu hs hb;have l0:=bu h2 hb;have hk:=alC x w;obtain⟨HB,HK⟩:=cn hb hk;have gm:=lg;unfold vF at c0 c1 c2 c3 HB HK s0 l0;have HL:=ag l0;clear hb hs h2 hk l0
 go_in
 go_wp2_with fail;go_call(Ei x _) as e w1 ⟨rfl,hb⟩;have l0:=bu HL.o hb;have bV:=ag (HB.aA hb);have iH:=HK.ah hb;clear hb c0 c1 c2 c3 s0;obtain⟨c0,c1,c2,c3⟩:=iH.c4;clear iH;have HE:=ag (show Gc.p3 l x=(Gc.stale x&&Gc.may l x) from rfl)
 cases hst:Gc.stale x
 .rw[hst] at HE;go_wp2_with fail;go_ret;exact⟨by rw[HE.o];rfl,bV⟩
 .rw[hst] at HE;go_wp2_with fail;go_call(MM x l _ hl hx) as e w2 ⟨rfl,hb⟩;have df:=ag (bV.aA hb);clear hb;go_wp2_with fail;go_ret;exact⟨by rw[HE.o];rfl,df⟩
theorem XC x FB RB LB PB room (l pages:Nat) (hl:l<=2199023255552) (hx:x.aC<=2199023255552) (w:World) (hf:w.cell? ⟨FB,0,none⟩=some (.func (.func 331) #[] #[.pointer (some ⟨RB,0,none⟩)])) (hr:w.cell? (RB,0)=some (aq room)) (h2:w.cell? ⟨LB,0,none⟩=some (O aa l)) (hp:w.cell? ⟨PB,0,none⟩=some (O aa pages)):
  Calls prog 335 #[BZ x,FB,LB,PB] w λe w'=>e=ar (aq (Gc.p4 room l pages x))/\Below w w w':=by
 obtain⟨hb,c0,c1,c2,c3⟩:=boxed x w;have f0:=bu hf hb;have l0:=bu h2 hb;have r0:=bu hr hb;have p0:=bu hp hb;have hk:=alC x w;obtain⟨HB,HK⟩:=cn hb hk;have gm:=lg;unfold vF at c0 c1 c2 c3 HB HK f0 l0 r0 p0;obtain⟨HL,HP,HR⟩:=cp l0 p0 r0;clear hb hf h2 hk l0 p0 r0 hr hp
 go_in
 go_wp2_with fail;go_call(yY x RB room _ HR) as e w1 ⟨rfl,hb⟩;have l0:=bu HL.o hb;obtain⟨sV,bV,iH⟩:=cp (bu HP hb) (HB.aA hb) (HK.ah hb);clear hb c0 c1 c2 c3 f0;obtain⟨c0,c1,c2,c3⟩:=iH.c4;have HE:=ag (show Gc.p4 room l pages x=(Gc.p2 room x&&Gc.may l x&&decide (x.live<pages)) from rfl)
 cases hst:Gc.p2 room x
 .rw[hst] at HE;go_wp2_with fail;go_ret;exact⟨by rw[HE.o];rfl,bV⟩
 .rw[hst] at HE;go_wp2_with fail;go_call(MM x l _ hl hx) as e w2 ⟨rfl,hb⟩;have df:=ag (bV.aA hb);have p0:=bu sV.o hb;have d1:=(iH.ah hb).aj (i:=1) rfl;clear hb c0 c1 c2 c3 l0
  cases hm:Gc.may l x
  .rw[hm] at HE;go_wp2_with fail;go_ret;exact⟨by rw[HE.o];rfl,df⟩
  .rw[hm] at HE;go_wp2_with fail;go_ret;exact⟨by rw[HE.o];simp,df⟩
theorem XD x LB (l:Nat) (w:World) (h2:w.cell? ⟨LB,0,none⟩=some (O aa l)):
  Calls prog 338 #[BZ x,LB] w λe w'=>e=ar (aq (Gc.p5 l x))/\Below w w w':=by
 obtain⟨hb,c0,c1,c2,c3⟩:=boxed x w;have l0:=bu h2 hb;have HB:=ag hb;unfold vF at c0 c1 c2 c3 HB l0;clear hb h2;have HE:=ag (show Gc.p5 l x=(((x.aC:Int)==l)&&(((x.st:Int)==0)||((x.st:Int)==1)&&((x.nx:Int)==0))) from rfl)
 cases e1:((x.aC:Int)==(l:Int))
 .rw[e1] at HE
  go_in
  go_wp2;go_ret;exact⟨by rw[HE.o];rfl,HB⟩
 .cases e2:((x.st:Int)==0)
  .cases e3:((x.st:Int)==1)
   .rw[e1,e2,e3] at HE
    go_in
    go_wp2;go_ret;exact⟨by rw[HE.o];rfl,HB⟩
   .rw[e1,e2,e3] at HE
    go_in
    go_wp2;go_ret;exact⟨by rw[HE.o];simp,HB⟩
  .rw[e1,e2] at HE
   go_in
   go_wp2;go_ret;exact⟨by rw[HE.o];simp,HB⟩
theorem XE x FB RB LB room (l:Nat) (w:World) (hf:w.cell? ⟨FB,0,none⟩=some (.func (.func 331) #[] #[.pointer (some ⟨RB,0,none⟩)])) (hr:w.cell? (RB,0)=some (aq room)) (h2:w.cell? ⟨LB,0,none⟩=some (O aa l)):
  Calls prog 339 #[BZ x,FB,LB] w λe w'=>e=ar (aq (Gc.p6 room l x))/\Below w w w':=by
 obtain⟨hb,c0,c1,c2,c3⟩:=boxed x w;have f0:=bu hf hb;have l0:=bu h2 hb;have r0:=bu hr hb;have hk:=alC x w;obtain⟨HB,HK⟩:=cn hb hk;have gm:=lg;unfold vF at c0 c1 c2 c3 HB HK f0 l0 r0;obtain⟨HL,HR⟩:=cn l0 r0;clear hb hf h2 hk l0 r0 hr
 go_in
 go_wp2_with fail;go_call(yY x RB room _ HR) as e w1 ⟨rfl,hb⟩;have l0:=bu HL.o hb;have bV:=ag (HB.aA hb);have d2:=(HK.ah hb).aj (i:=2) rfl;clear hb c0 c1 c2 c3 f0;have HE:=ag (show Gc.p6 room l x=(Gc.p2 room x&&((x.aC:Int)==l)) from rfl)
 cases hst:Gc.p2 room x
 .rw[hst] at HE;go_wp2_with fail;go_ret;exact⟨by rw[HE.o];rfl,bV⟩
 .rw[hst] at HE;go_wp2_with fail;go_ret;exact⟨by rw[HE.o];simp,bV⟩
theorem Xy x FB RB PB room (pages:Nat) (w:World) (hf:w.cell? ⟨FB,0,none⟩=some (.func (.func 331) #[] #[.pointer (some ⟨RB,0,none⟩)])) (hr:w.cell? (RB,0)=some (aq room)) (h2:w.cell? ⟨PB,0,none⟩=some (O aa pages)):
  Calls prog 341 #[BZ x,FB,PB] w λe w'=>e=ar (aq (Gc.p7 room pages x))/\Below w w w':=by
 obtain⟨hb,c0,c1,c2,c3⟩:=boxed x w;have f0:=bu hf hb;have l0:=bu h2 hb;have r0:=bu hr hb;have hk:=alC x w;obtain⟨HB,HK⟩:=cn hb hk;have gm:=lg;unfold vF at c0 c1 c2 c3 HB HK f0 l0 r0;obtain⟨HL,HR⟩:=cn l0 r0;clear hb hf h2 hk l0 r0 hr
 go_in
 go_wp2_with fail;go_call(yY x RB room _ HR) as e w1 ⟨rfl,hb⟩;have l0:=bu HL.o hb;have bV:=ag (HB.aA hb);have d2:=(HK.ah hb).aj (i:=1) rfl;clear hb c0 c1 c2 c3 f0;have HE:=ag (show Gc.p7 room pages x=(Gc.p2 room x&&decide (x.live<pages)) from rfl)
 cases hst:Gc.p2 room x
 .rw[hst] at HE;go_wp2_with fail;go_ret;exact⟨by rw[HE.o];rfl,bV⟩
 .rw[hst] at HE;go_wp2_with fail;go_ret;exact⟨by rw[HE.o];simp,bV⟩
namespace Gc
def ff (_ _:Bk):=false
theorem alD {p l k a} (h:best p ff l k=some a):∀m,k<=m->best p ff l m=some a:=by
 intro m hm
 induction m with
 |zero=>
  grind
 |succ m ih=>
  by_cases e:k=m+1
  .subst e;exact h
  .unfold best;rw[ih ae];simp[ff]
end Gc
theorem TM p F (fm:Nat) cm (hF:F= .func (.func fm) #[] cm) a n c l w (hx:fP 4 Eh w w a n l) (hn:n<=1000)
  (i1:∀args w,(callFunc fm args).run prog w= .ok (.enter fm args) w)
  (hm:∀w' x,Below w w w'->x∈l->Calls prog fm (#[BZ x]++cm) w' λe w''=>e=ar (aq (p x))/\Below w' w' w''):
  Calls prog 337 #[an a n c,F] w λe w'=>e=ar (O aa (Gc.oI (Gc.best p Gc.ff l n)))/\Below w w w':=by
 obtain⟨HM,HX⟩:=cn hm hx;have hlen:=hx.len;subst hF;clear hm hx;have gm:=lg
 go_in
 go_wp2
 go_loopw [5,8] (λ_ i wr=>∃k:Nat,k<=n/\i=O aa k/\Gc.best p Gc.ff l k=none/\Below w w wr) (λ_ i _=>n-(intOf i).toNat)
 case atStart=>exact⟨0,ae,rfl,rfl,aE _ _⟩
 case round=>
  obtain⟨k,hk,rfl,hno,hb⟩:=hrel;obtain⟨kT,HNo⟩:=cn hb hno;clear hb hno;by_cases aT:k<n
  .obtain⟨b,o,rfl,gB,c0,c1,c2,c3⟩:=Hy (HX.below kT) (k:=k) aT;have WA:(0:Int)<=(k:Int):=ae;have fO:(k:Int)<(n:Int):=ae;have Eb:=getD_mem (l:=l) (k:=k) ae;have HE:=ag (show Gc.best p Gc.ff l (k+1)=if p (Gc.at_ l k) then some k else none by unfold Gc.best;rw[HNo.o]);generalize Gc.at_ l k=x at*;go_wp2_with fail;go_call(HM.o wr x kT Eb) as e w1 ⟨rfl,hb⟩;have bV:=ag (kT.aA hb);clear hb c0 c1 c2 c3
   cases hp:p x
   .rw[hp,eo au] at HE;go_wp2_with fail;go_roundw
    case rel=>exact⟨k+1,ae,by go_num,HE,bV⟩
    case measure=>simp[intOf];omega
   .rw[hp,ev rfl] at HE;go_wp2_with fail;go_ret;exact⟨by rw[Gc.alD HE.o n ae];rfl,bV⟩
  .obtain rfl:k=n:=ae;go_wp2_with fail;go_ret;exact⟨by rw[HNo.o];rfl,kT⟩
section
variable {NB B:Nat} {S:Nat->Prop} {w:World} {g:Mg}
def aof (w:World) (ML k:Nat) (y:Bk):=(((w.setCell (ML,k*4) (O aa y.st)).setCell (ML,k*4+1) (O aa y.live)).setCell (ML,k*4+2) (O aa y.aC)).setCell (ML,k*4+3) (O aa y.nx)
theorem fF.setRow (h:fF NB B S w g) {k} (hk:k<NB) y:fF NB B S (aof w g.ML k y) {g with l:=g.l.set k y}:=by have hl:=h.len;have h0:=h.yU hk (j:=0) ae (O aa y.st) {Gc.at_ g.l k with st:=y.st} rfl;have h1:=h0.yU hk (j:=1) ae (O aa y.live) {Gc.at_ g.l k with st:=y.st,live:=y.live} (by rw[at_set _ _ ae];rfl);simp only[List.set_set] at h1;have h2:=h1.yU hk (j:=2) ae (O aa y.aC) {y with nx:=(Gc.at_ g.l k).nx} (by rw[at_set _ _ ae];rfl);simp only[List.set_set] at h2;have h3:=h2.yU hk (j:=3) ae (O aa y.nx) y (by rw[at_set _ _ ae];rfl);simp only[List.set_set] at h3;exact h3
theorem aaH {T a b} (h:Kq T a b) {ML k} (hT:T ML) y:Kq T a (aof b ML k y):=
 (((h.setCell (p:=⟨ML,k*4,none⟩) (.inl hT) _).setCell (p:=⟨ML,k*4+1,none⟩) (.inl hT) _).setCell (p:=⟨ML,k*4+2,none⟩) (.inl hT) _).setCell (p:=⟨ML,k*4+3,none⟩) (.inl hT) _
theorem Ej (h:fF NB B S w g) {k} (hk:k<NB) (hv:0<(Gc.at_ g.l k).live) (ho:g.opn=k):
  Calls prog 313 #[g.M,O aa k] w λe w'=>e=ar (ao #[])/\fF NB B S w' {g with l:=g.l.set k {Gc.at_ g.l k with st:=2},opn:= -1}/\Kq (λq=>q=g.M\/q=g.ML) w w':=by
 have hlen:=h.len;have m1:=h.m1;have r0:=(h.r0 hk).1;have f0:=(h.r0 hk).2;have h1:=h.yU hk (j:=0) ae (O aa 2) {Gc.at_ g.l k with st:=2} rfl;have k1:Kq (λq=>q=g.M\/q=g.ML) w (w.setCell (g.ML,k*4+0) (O aa 2)):=(Kq.refl _ w).setCell (p:=⟨g.ML,k*4+0,none⟩) (.inl (.inr rfl)) _;have n1:=h1.m1;have n2:=h1.m2;have f2:=h1.ad3 2;have s1:=(h1.r1 hk).1;rw[at_set _ _ ae] at s1;have h2:=h1.ahn (-1);have k2:=k1.setCell (p:=⟨g.M,2,none⟩) (.inl (.inl rfl)) (O aa (-1));simp only[Nat.add_zero] at h1 h2 k2 n1 n2 f2 s1;rw[ho] at n2;have hz:(((Gc.at_ g.l k).live:Int)==0)=false:=by rw[ew];omega
 generalize hx:Gc.at_ g.l k=x at*;have g1:(0:Int)<=(k:Int):=ae;have g2:(k:Int)<(NB:Int):=ae;obtain⟨H2,ja⟩:=cn h2 k2;clear h h1 h2 k1 k2 hx ho
 go_in
 go_upto_region 1 with fail;generalize w.setCell (g.ML,k*4) (O aa 2)=w1 at*;clear m1 r0 f0;go_wp2;go_end0;exact⟨rfl,H2,ja⟩
theorem Pm (h:fF NB B S w g) {k} (hk:k<NB) (hv:(Gc.at_ g.l k).live=0) (ho:g.opn=k):
  Calls prog 313 #[g.M,O aa k] w λe w'=>e=ar (ao #[])/\fF NB B S w' {g with l:=g.l.set k {Gc.at_ g.l k with st:=3},opn:= -1}/\Kq (λq=>q=g.M\/q=g.ML) w w':=by
 have hlen:=h.len;have m1:=h.m1;have r0:=(h.r0 hk).1;have f0:=(h.r0 hk).2;have h1:=h.yU hk (j:=0) ae (O aa 2) {Gc.at_ g.l k with st:=2} rfl;have k1:Kq (λq=>q=g.M\/q=g.ML) w (w.setCell (g.ML,k*4+0) (O aa 2)):=(Kq.refl _ w).setCell (p:=⟨g.ML,k*4+0,none⟩) (.inl (.inr rfl)) _;have n1:=h1.m1;have s1:=(h1.r1 hk).1;rw[at_set _ _ ae] at s1;have s0:=(h1.r0 hk).1;have z0:=(h1.r0 hk).2;have h1b:=h1.yU hk (j:=0) ae (O aa 3) {Gc.at_ g.l k with st:=3} (by rw[at_set _ _ ae];rfl);have k1b:=k1.setCell (p:=⟨g.ML,k*4+0,none⟩) (.inl (.inr rfl)) (O aa 3);have n2:=h1b.m2;have f2:=h1b.ad3 2;have h2:=h1b.ahn (-1);have k2:=k1b.setCell (p:=⟨g.M,2,none⟩) (.inl (.inl rfl)) (O aa (-1));simp only[Nat.add_zero,List.set_set] at h1 h2 k2 n1 n2 f2 s1 s0 z0;rw[ho] at n2;rw[hv] at s1;generalize hx:Gc.at_ g.l k=x at*;have g1:(0:Int)<=(k:Int):=ae;have g2:(k:Int)<(NB:Int):=ae;obtain⟨H2,ja⟩:=cn h2 k2;clear h h1 h2 k1 k2 hx ho h1b k1b hv
 go_in
 go_upto_region 1 with fail;generalize w.setCell (g.ML,k*4) (O aa 2)=w1 at*;clear m1 r0 f0;go_wp2;go_end0;exact⟨rfl,H2,ja⟩
def Eg (x:Bk):={x with st:=if x.live=0 then 3 else 2}
theorem Bj (h:fF NB B S w g) {k} (hk:k<NB) (ho:g.opn=k):
  Calls prog 313 #[g.M,O aa k] w λe w'=>e=ar (ao #[])/\fF NB B S w' {g with l:=g.l.set k (Eg (Gc.at_ g.l k)),opn:= -1}/\Kq (λq=>q=g.M\/q=g.ML) w w':=by
 unfold Eg;by_cases hv:(Gc.at_ g.l k).live=0
 .rw[ev hv];exact Pm h hk hv ho
 .rw[eo hv];exact Ej h hk ae ho
def jD (x:Bk):=(x.st:Int)==0
def aci (NB B:Nat) (S:Nat->Prop) (g:Mg) (w:World) (o:Option Nat) (e:Ending) (w':World):Prop:=match o with
 |none=>e=ar (aq false)/\Below w w w'
 |some a=>e=ar (aq true)/\fF NB B S w' {g with l:=g.l.set a ⟨1,0,(Gc.at_ g.l a).aC,0⟩,opn:=a}/\Kq (λq=>q=g.M\/q=g.ML) w w'
theorem TR (h:fF NB B S w g):
  Calls prog 312 #[g.M] w (aci NB B S g w (Gc.best jD Gc.iy g.l NB)):=by
 have HH:=ag h;have hlen:=h.len;have pK:=h.nb;have gm:=lg;have m1:=h.m1;clear h
 go_in
 go_wp2
 go_loopw [3,4,5,11] (λv _ _ i wr=>∃k:Nat,k<=NB/\i=O aa k/\v=O aa (Gc.oI (Gc.best jD Gc.iy g.l k))/\Below w w wr) (λ_ _ _ i _=>NB-(intOf i).toNat)
 case atStart=>exact⟨0,ae,rfl,rfl,aE _ _⟩
 case round=>
  obtain⟨k,hk,rfl,rfl,hb⟩:=hrel;have kT:=ag hb;clear hb m1;by_cases aT:k<NB
  .have hr:=HH.on kT.o;have c0:=(hr.r0 aT).1;have c1:=(hr.r1 aT).1;have c2:=(hr.r2 aT).1;have c3:=(hr.r3 aT).1;have WA:(0:Int)<=(k:Int):=ae;have fO:(k:Int)<(NB:Int):=ae;clear hr;have hE:Gc.best jD Gc.iy g.l (k+1)=match Gc.best jD Gc.iy g.l k with
    |none=>if jD (Gc.at_ g.l k) then some k else none
    |some a=>if jD (Gc.at_ g.l k)&&Gc.iy (Gc.at_ g.l k) (Gc.at_ g.l a) then some k else some a:=rfl
   generalize Gc.at_ g.l k=x at*;go_upto_region 5 with fail;obtain⟨XF,bV⟩:=cn (aF.new wr 296 x) (kT.alloc kT.size (.cells x 296));generalize wr.heap.size=gx at*;generalize wr.alloc _=w1 at*;have gZ:=ag (show Below w w w1.drew/\aF w1.drew gx 296 x from⟨bV.drew,XF⟩);clear c0 c1 c2 c3
   cases hp:jD x
   .have HE:=ag (show Gc.best jD Gc.iy g.l (k+1)=Gc.best jD Gc.iy g.l k by rw[hE,hp];cases Gc.best jD Gc.iy g.l k<;>rfl);have hpe:((x.st:Int)==0)=false:=hp;clear hE hp;refine iE (λW'=>Below w w W'/\aF W' gx 296 x) gZ.o (λaY=>?_);refine aS 0 gx 0 ?_;refine jV 1 (x.st:Int) (λ_ aK=>aK.2.aj (i:=0) rfl) ?_;refine eX 2 (aq false) ?_;refine eX 3 (aq false) ?_;refine oD 4 ?_;refine oD 5 ?_;refine oD 6 ?_;refine oD 7 ?_;refine oD 8 ?_;refine oD 9 ?_;refine oD 10 ?_;refine oD 11 ?_;refine oD 12 ?_;refine oD 13 ?_;refine oD 14 ?_;refine oD 15 ?_;refine oD 16 ?_;refine oD 17 ?_;refine oD 18 ?_;refine eX 19 (aq false) ?_;refine eH ?_;have xE:=ag aY.1;clear aY;go_wp2_with fail;go_roundw
    case rel=>exact⟨k+1,ae,by go_num,(congrArg (λo=>O aa (Gc.oI o)) HE).symm,xE⟩
    case measure=>simp[intOf];omega
   .have hpe:((x.st:Int)==0)=true:=hp
    cases ho:Gc.best jD Gc.iy g.l k with
    |none=>
     have HE:=ag (show Gc.best jD Gc.iy g.l (k+1)=some k by rw[hE,hp,ho];rfl);clear hE;have ad4:Gc.oI none= -1:=rfl;rw[ad4];refine iE (λW'=>Below w w W'/\aF W' gx 296 x) gZ.o (λaY=>?_);refine aS 0 gx 0 ?_;refine jV 1 (x.st:Int) (λ_ aK=>aK.2.aj (i:=0) rfl) ?_;refine eX 2 (aq true) ?_;refine eX 3 (aq true) ?_;refine iR 4 (-1) ?_;refine eX 5 (aq true) ?_;refine eX 6 (aq true) ?_;refine oD 7 ?_;refine oD 8 ?_;refine oD 9 ?_;refine oD 10 ?_;refine oD 11 ?_;refine oD 12 ?_;refine oD 13 ?_;refine oD 14 ?_;refine oD 15 ?_;refine oD 16 ?_;refine oD 17 ?_;refine eX 18 (aq true) ?_;refine eX 19 (aq true) ?_;refine eH ?_;have xE:=ag aY.1;clear aY;go_wp2_with fail;go_roundw
     case rel=>exact⟨k+1,ae,by go_num,(congrArg (λo=>O aa (Gc.oI o)) HE).symm,xE⟩
     case measure=>simp[intOf];omega
    |some q=>
     have hq:q<k:=(Gc.gU ho).1;have XG:Gc.oI (some q)=(q:Int):=rfl;have hnn:((q:Int)== -1)=false:=by rw[ew];omega
     have YN:(0:Int)<=(q:Int):=ae;have BA:(q:Int)<(NB:Int):=ae;have HY:=ag (λ(W':World) (hW:Below w w W')=>((HH.on hW).r2 (k:=q) ae).1);rw[XG];have hE2:Gc.best jD Gc.iy g.l (k+1)=if Gc.iy x (Gc.at_ g.l q) then some k else some q:=by rw[hE,hp,ho];show(if (true&&Gc.iy x (Gc.at_ g.l q))=true then some k else some q)=_;rw[Bool.true_and]
     generalize Gc.at_ g.l q=y at*;have HE:=ag hE2;clear hE hE2;refine iE (λW'=>Below w w W'/\aF W' gx 296 x) gZ.o (λaY=>?_);refine aS 0 gx 0 ?_;refine jV 1 (x.st:Int) (λ_ aK=>aK.2.aj (i:=0) rfl) ?_;refine eX 2 (aq true) ?_;refine eX 3 (aq true) ?_;refine iR 4 (q:Int) ?_;refine eX 5 (aq false) ?_;refine eX 6 (aq false) ?_;refine aS 7 gx 2 ?_;refine jV 8 (x.aC:Int) (λ_ aK=>aK.2.aj (i:=2) rfl) ?_;refine dw 9 g.M 0 ?_;refine aS 10 g.M 0 ?_;refine aS 11 g.M 1 ?_;refine kS 12 (an (g.ML,0) NB g.cap) (λ_ aK=>(HH.on aK.1).m1) ?_;refine dI 13 (q:Int) ?_;refine aS 14 g.ML (q*4) ?_;refine aS 15 g.ML (q*4+2) ?_;refine jV 16 (y.aC:Int) (λ_ aK=>HY.o _ aK.1) ?_;refine eX 17 (aq (decide (x.aC<y.aC))) ?_;refine eX 18 (aq (decide (x.aC<y.aC))) ?_;refine eX 19 (aq (decide (x.aC<y.aC))) ?_;refine eH ?_;have xE:=ag aY.1;clear aY;have HW:=ag (show Gc.iy x y=decide (x.aC<y.aC) from rfl)
     cases hl:decide (x.aC<y.aC)
     .rw[HW.o,hl,eo au] at HE;clear HW;go_wp2_with fail;go_roundw
      case rel=>exact⟨k+1,ae,by go_num,(congrArg (λo=>O aa (Gc.oI o)) HE).symm,xE⟩
      case measure=>simp[intOf];omega
     .rw[HW.o,hl,ev rfl] at HE;clear HW;go_wp2_with fail;go_roundw
      case rel=>exact⟨k+1,ae,by go_num,(congrArg (λo=>O aa (Gc.oI o)) HE).symm,xE⟩
      case measure=>simp[intOf];omega
  .obtain rfl:k=NB:=ae;have hr:=HH.on kT.o;have HR:=ag hr;clear hr
   cases ho:Gc.best jD Gc.iy g.l k with
   |none=>
    have ad4:Gc.oI none= -1:=rfl;rw[ad4];have HO:=ag ho;clear ho;go_wp2_with fail;go_ret;unfold aci;rw[HO.o];exact⟨rfl,kT⟩
   |some a=>
    have hq:a<k:=(Gc.gU ho).1;have XG:Gc.oI (some a)=(a:Int):=rfl;have hnn:((a:Int)== -1)=false:=by rw[ew];omega
    have YN:(0:Int)<=(a:Int):=ae;have BA:(a:Int)<(k:Int):=ae;rw[XG];have HO:=ag ho;clear ho;go_upto_region 10 with fail;have hd:=HR.on (ak wr);have m1:=hd.m1;have r2:=(hd.r2 hq).1;have hx:∃x,x=Gc.at_ g.l a:=⟨_,rfl⟩
    obtain⟨x,hx⟩:=hx;rw[<-hx] at r2;obtain⟨HX,HD,HK0⟩:=cp hx hd (((Kq.of kT).mono (T:=λq=>q=g.M\/q=g.ML) (T':=λq=>q=g.M\/q=g.ML) λ_ h=>h).on (ak wr));clear hd hx;refine iE (λW'=>W'.cell? (g.M,1)=some (an (g.ML,0) k g.cap)/\W'.cell? (g.ML,a*4+2)=some (O aa x.aC)) ⟨m1,r2⟩ (λaY=>?_);generalize wr.drew=w2 at*;obtain⟨HS,HK⟩:=cn (show fF k B S ((((w2.setCell (g.ML,a*4) (O aa 1)).setCell (g.ML,a*4+1) (O aa 0)).setCell (g.ML,a*4+2) (O aa x.aC)).setCell (g.ML,a*4+3) (O aa 0)) {g with l:=g.l.set a ⟨1,0,x.aC,0⟩} from HD.setRow hq ⟨1,0,x.aC,0⟩) (show Kq (λq=>q=g.M\/q=g.ML) w ((((w2.setCell (g.ML,a*4) (O aa 1)).setCell (g.ML,a*4+1) (O aa 0)).setCell (g.ML,a*4+2) (O aa x.aC)).setCell (g.ML,a*4+3) (O aa 0)) from aaH HK0 (.inr rfl) ⟨1,0,x.aC,0⟩);have n1:=HS.m1;have n2:=(HS.r2 hq).1;rw[at_set _ _ ae] at n2;have n3:=HS.m2;have n4:=HS.ad3 2;obtain⟨x0,y0⟩:=HD.r0 hq;obtain⟨x1,y1⟩:=HD.r1 hq;obtain⟨x2,y2⟩:=HD.r2 hq;obtain⟨x3,y3⟩:=HD.r3 hq;rw[<-HX.o] at x0 x1 x2 x3;refine dw 0 g.M 0 ?_;refine aS 1 g.M 0 ?_;refine aS 2 g.M 1 ?_;refine kS 3 (an (g.ML,0) k g.cap) (λ_ aK=>aK.1) ?_;refine dI 4 (a:Int) ?_;refine dw 5 g.M 0 ?_;refine aS 6 g.M 0 ?_;refine aS 7 g.M 1 ?_;refine kS 8 (an (g.ML,0) k g.cap) (λ_ aK=>aK.1) ?_;refine dI 9 (a:Int) ?_;refine aS 10 g.ML (a*4) ?_;refine aS 11 g.ML (a*4+2) ?_;refine jV 12 (x.aC:Int) (λ_ aK=>aK.2) ?_;refine eX 13 (.agg #[O aa 1,O aa 0,O aa x.aC,O aa 0]) ?_;refine aS 14 g.ML (a*4) ?_;refine bY 15 (λK' hK=>?_);go_simp;refine hK.out _ _ ⟨n1,n2⟩ (λdh=>?_)
    refine eH ?_;clear aY dh m1 r2 x0 x1 x2 x3 y0 y1 y2 y3 n1 n2;generalize (((w2.setCell (g.ML,a*4) (O aa 1)).setCell (g.ML,a*4+1) (O aa 0)).setCell (g.ML,a*4+2) (O aa x.aC)).setCell (g.ML,a*4+3) (O aa 0)=w3 at*;obtain⟨qN,ja⟩:=cn (HS.ahn (a:Int)) (HK.setCell (p:=⟨g.M,2,none⟩) (.inl (.inl rfl)) (O aa a));go_wp2;go_ret;unfold aci;rw[HO.o];have hs:=qN.o;rw[HX.o] at hs;exact⟨rfl,hs,ja⟩
end
section
variable {NB B C BL:Nat} {S:Nat->Prop} {w:World} {ps:Nat->Nat} {bl:Nat->Pb}
theorem TS (h:eu NB B S w C BL ps bl) {k} (hk:k<NB):
  Calls prog 167 #[C,O aa k] w λe w'=>e=ar (O aa 0)/\eu NB B S w' C BL ps (upd bl k {bl k with bad:=true})/\Kq S w w':=by
 have HA:=ag (oM h hk (i:=0) ae);have c3:=h.c3;have b3:=(h.b3 hk).1;have f3:=(h.b3 hk).2;have g1:(0:Int)<=(k:Int):=ae;have g2:(k:Int)<(NB:Int):=ae;obtain⟨H1,iH⟩:=cn (h.setB (k:=k) (j:=3) hk ae (aq true) {bl k with bad:=true} rfl rfl) ((Kq.refl S w).setCell (p:=⟨BL,k*5+3,none⟩) (.inl (h.hS _ (.inr (.inl rfl)))) (aq true));clear h
 go_in
 go_wp2_with fail;refine HA.cj ?_;go_wp2;go_ret;exact⟨rfl,H1,iH⟩
end
section
variable {NB B:Nat} {S:Nat->Prop} {w:World} {g:Mg}
theorem fF.Ob {w0 w1} (h:fF NB B (Up S w0 w1) w g) (h0:B<=w0) (hM:g.M<w0) (hL:g.ML<w0) (hs:w1<=w.heap.size):fF NB B (Up S w0 w) w g:=
 ⟨h.hM,h.hL,h.hc.Ob h0 hs,h.ne,λh1=>h.sM (.inl (fA h1 hM)),λh1=>h.sL (.inl (fA h1 hL)),h.bM,h.bL,h.nb⟩
theorem fF.re {w0 wa wb} (h:fF NB B (Up S wa wb) w g) (h0:B<=w0.heap.size) (hM:g.M<w0.heap.size) (hL:g.ML<w0.heap.size) (h1:w0.heap.size<=wa.heap.size) (hs:wb<=w.heap.size):fF NB B (Up S w0 w) w g:=
 ⟨h.hM,h.hL,h.hc.re h0 h1 hs,h.ne,λh2=>h.sM (.inl (fA h2 hM)),λh2=>h.sL (.inl (fA h2 hL)),h.bM,h.bL,h.nb⟩
def EW (g:Mg) (k:Nat):={g with bl:=upd g.bl k {g.bl k with bad:=true},l:=g.l.set k ⟨4,0,(g.bl k).aC,0⟩,opn:=if g.opn=k then-1 else g.opn}
theorem Ig (h:fF NB B S w g) {k} (hk:k<NB):
  Calls prog 343 #[g.M,O aa k] w λe w'=>e=ar (O aa 0)/\fF NB B S w' (EW g k)/\Kq (Sm g S) w w':=by
 have HMk:=ag (TS h.hc hk);have m0:=h.m0;have g1:(0:Int)<=(k:Int):=ae;have g2:(k:Int)<(NB:Int):=ae;have HH:=ag h;clear h
 go_in
 go_wp2_with fail;go_call HMk as e w1 ⟨rfl,h1,fO⟩;have qP:=HH.aaD (S':=S) (ps':=g.ps) h1 fO (λq hq=> .inl hq);have di:=HH.ne;obtain⟨r,hr⟩:=aW ((g.bl k).aC);obtain⟨HR,jZ,FK⟩:=cp hr.symm ((fO.mono (T':=Sm g S) λq hq=> .inr (.inr hq)).on (ak w1)) (qP.on (ak w1));have n0:=FK.m0;have n1:=FK.m1;simp only at n0 n1;clear h1 fO qP m0 HMk hr;go_upto_region 4 with fail;refine iE (λW'=>W'.cell? (g.M,0)=some (.pointer (g.C,0))/\W'.cell? (g.M,1)=some (an (g.ML,0) NB g.cap)) ⟨n0,n1⟩ (λaY=>?_);generalize w1.drew=w4 at*;have HW2:=ag (show Calls prog 37 #[g.C,O aa k] w4 λe w'=>e=ar (O aa r)/\w4=w' by
  have t:=mJ FK.hc hk;have e:(upd g.bl k {g.bl k with bad:=true} k).aC=r:=by rw[upd_same];exact HR.o
  rw[<-e];exact t)
 refine dw 0 g.M 0 ?_;refine aS 1 g.M 0 ?_;refine aS 2 g.M 1 ?_;refine kS 3 (an (g.ML,0) NB g.cap) (λ_ aK=>aK.2) ?_;refine dI 4 (k:Int) ?_;refine dw 5 g.M 0 ?_;refine aS 6 g.M 0 ?_;refine aS 7 g.M 0 ?_;refine kS 8 g.C (λ_ aK=>aK.1) ?_;refine dI 9 (k:Int) ?_;refine bY 10 (λK' hK=>?_);go_simp;refine HW2.cj ?_;refine hK.out _ _ aY (λdh=>?_)
 refine eX 11 (.agg #[O aa 4,O aa 0,O aa r,O aa 0]) ?_;refine aS 12 g.ML (k*4) ?_;have YT:=FK.setRow hk ⟨4,0,r,0⟩;obtain⟨yF,wS⟩:=cn (show fF NB B S ((((w4.setCell (g.ML,k*4) (O aa 4)).setCell (g.ML,k*4+1) (O aa 0)).setCell (g.ML,k*4+2) (O aa r)).setCell (g.ML,k*4+3) (O aa 0)) {g with bl:=upd g.bl k {g.bl k with bad:=true},l:=g.l.set k ⟨4,0,r,0⟩} from YT) (show Kq (Sm g S) w ((((w4.setCell (g.ML,k*4) (O aa 4)).setCell (g.ML,k*4+1) (O aa 0)).setCell (g.ML,k*4+2) (O aa r)).setCell (g.ML,k*4+3) (O aa 0)) from aaH jZ (.inr (.inl rfl)) ⟨4,0,r,0⟩);obtain⟨x0,y0⟩:=FK.r0 hk;obtain⟨x1,y1⟩:=FK.r1 hk;obtain⟨x2,y2⟩:=FK.r2 hk;obtain⟨x3,y3⟩:=FK.r3 hk;have p0:=yF.m0;have p1:=yF.m1;have p2:=yF.m2;have p3:=yF.ad3 2;simp only at p0 p1 p2 p3 x0 x1 x2 x3 y0 y1 y2 y3;clear YT;refine bY 13 (λK' hK=>?_);go_simp;refine hK.out _ _ ⟨p0,p1⟩ (λfE=>?_)
 refine eH ?_;clear aY dh fE n0 n1 p0 p1 x0 x1 x2 x3 y0 y1 y2 y3;generalize ((((w4.setCell (g.ML,k*4) (O aa 4)).setCell (g.ML,k*4+1) (O aa 0)).setCell (g.ML,k*4+2) (O aa r)).setCell (g.ML,k*4+3) (O aa 0))=w5 at*;by_cases ho:g.opn=(k:Int)
 .obtain⟨U3,ql,HO⟩:=cp (yF.ahn (-1)) (wS.setCell (p:=⟨g.M,2,none⟩) (.inl (.inl rfl)) (O aa (-1))) ho;have Iq:((k:Int)==g.opn)=true:=by rw[beq_iff_eq,ho]
  clear ho;go_wp2_with fail;go_ret;refine⟨rfl,?_,ql⟩;unfold EW;rw[ev HO.o,HR.o];exact U3.o
 .have HO:=ag ho;have Iq:((k:Int)==g.opn)=false:=by rw[ew];exact Ne.symm ho
  clear ho;go_wp2_with fail;go_ret;refine⟨rfl,?_,wS⟩;unfold EW;rw[eo HO.o,HR.o];exact yF.o
theorem O7 (h:fF NB B S w g) {k} (hk:k<NB) (hg:Gc.good (Gc.at_ g.l k)=true) (hv:(Gc.at_ g.l k).live=0):
  Calls prog 314 #[g.M,O aa k] w λe w'=>e=ar (O aa 0)/\fF NB B S w' (EW g k)/\Kq (Sm g S) w w':=by
 obtain⟨HI,HGo⟩:=cn (Ih h hk hg hv) (Ig h hk);clear h hg hv
 go_in
 go_wp2_with fail;refine(HI).cj ?_;go_wp2_with fail;go_call HGo as e w1 ⟨rfl,h1,fO⟩;obtain⟨H1,iH⟩:=cn h1 fO;clear h1 fO;go_wp2;go_ret;exact⟨rfl,H1,iH⟩
end
section
variable {NB B:Nat} {S:Nat->Prop} {w:World} {g:Mg}
def erG (g:Mg) (NB:Nat) (y:Pb) k ps':={g with ps:=ps',bl:=upd (upd g.bl NB y) k (fresh ((g.bl k).aC+1)),l:=g.l.set k ⟨0,0,(g.bl k).aC+1,0⟩,opn:=if g.opn=k then-1 else g.opn}
def erF (g:Mg) (NB:Nat) (y:Pb) k pg:=EW {g with bl:=upd (upd g.bl NB y) k (brk (g.bl k) pg),l:=g.l.set k {Gc.at_ g.l k with aC:=(g.bl k).aC+1}} k
def Erd (NB B:Nat) (S:Nat->Prop) (g:Mg) (w:World) (k:Nat) (e:Ending) w':=
 (∃y,(e=ar (O aa 0)/\mG (g.bl NB) y true/\∃ps',fF NB B (Up S w w') w' (erG g NB y k ps'))\/(e=ar (O aa 11)/\mG (g.bl NB) y false/\∃pg,fF NB B (Up S w w') w' (erF g NB y k pg)))/\Kq (Sm g S) w w'
theorem TE (h:fF NB B S w g) {k} (hk:k<NB) (hg:Gc.good (Gc.at_ g.l k)=true) (hv:(Gc.at_ g.l k).live=0) (hn:¬((Gc.at_ g.l k).st=1/\0<(Gc.at_ g.l k).nx)) (hb:(g.bl k).bad=false) (hw:(g.bl k).aC<=1099511627776) (PX:(g.bl NB).aC<=1099511627776):
  Calls prog 328 #[g.M,O aa k] w (Erd NB B S g w k):=by
 obtain⟨HI,HE⟩:=cn (Ih h hk hg hv) (Be h.hc PX hk hb hw);have m0:=h.m0;have m1:=h.m1;have r0:=(h.r0 hk).1;have r3:=(h.r3 hk).1;have g1:(0:Int)<=(k:Int):=ae;have g2:(k:Int)<(NB:Int):=ae;have HH:=ag h;have hlen:=h.len;generalize hx:Gc.at_ g.l k=x at*;obtain⟨HX,HN⟩:=cn hx hn;clear h hg hv hb hw hx hn PX
 go_in
 go_wp2_with fail;refine(HI).cj ?_;go_upto_region 4 with fail
 go_cut [32] (λv wx=>v=aq false/\w=wx)
 case first=>
  cases hs:((x.st:Int)==1)
  .go_wp2_with fail;go_meet;exact⟨rfl,rfl⟩
  .have hz:x.nx=0:=by have:=HN.o;rw[beq_iff_eq] at hs;omega
   rw[hz] at r3;go_wp2_with fail;go_meet;exact⟨rfl,rfl⟩
 case rest=>
  obtain⟨rfl,hw⟩:=hcut;subst hw;clear r0 r3;go_wp2_with fail;go_call HE as e w1 ⟨y,Vb,fO⟩;have FV:∃(ec:Int) (ps':Nat->Nat) (bl':Nat->Pb),e=ar (O aa ec)/\eu NB B (Up S w w1) w1 g.C g.BL ps' bl'/\(bl' k).aC=(g.bl k).aC+1/\((ec=0/\mG (g.bl NB) y true/\bl'=upd (upd g.bl NB y) k (fresh ((g.bl k).aC+1)))\/(ec=11/\mG (g.bl NB) y false/\ps'=g.ps/\∃pg,bl'=upd (upd g.bl NB y) k (brk (g.bl k) pg))):=by
   rcases Vb with⟨rfl,hs,ps',h1⟩|⟨rfl,hs,pg,h1⟩
   .exact⟨0,ps',_,rfl,h1,by rw[upd_same];rfl,.inl ⟨rfl,hs,rfl⟩⟩
   .exact⟨11,g.ps,_,rfl,h1,by rw[upd_same];rfl,.inr ⟨rfl,hs,rfl,pg,rfl⟩⟩
  obtain⟨ec,ps',bl',rfl,h1,IU,awJ⟩:=FV;have HOr:=ag awJ;clear Vb awJ;have qP:=HH.aaD (ps':=ps') h1 fO (λq hq=>hq);obtain⟨pG,iH,Jq⟩:=cp fO.size ((fO.mono (T':=Sm g S) λq hq=> .inr (.inr hq)).on (ak w1)) (qP.on (ak w1));have n0:=Jq.m0;have n1:=Jq.m1;obtain⟨Ce,HM,HL⟩:=cp HH.base HH.ltM HH.ltL;have di:=HH.ne;clear h1 fO qP m0 m1 HE HI;simp only at n0 n1;generalize hr:(g.bl k).aC=r at*;obtain⟨HR,JM⟩:=cn hr IU;clear hr IU;go_upto_region 7 with fail;refine iE (λW'=>W'.cell? (g.M,0)=some (.pointer (g.C,0))/\W'.cell? (g.M,1)=some (an (g.ML,0) NB g.cap)) ⟨n0,n1⟩ (λaY=>?_);generalize jT:w1.drew=w2 at*;obtain⟨qN,HUp⟩:=cn (show w.heap.size<=w2.heap.size from jT▸pG) (show w1.heap.size=w2.heap.size from jT▸rfl);clear jT;have HW:=ag (show Calls prog 37 #[g.C,O aa k] w2 λe w'=>e=ar (O aa ((r+1:Nat)))/\w2=w' by have t:=mJ Jq.hc hk;have e:(bl' k).aC=r+1:=JM.o;rw[<-e];exact t);refine dw 0 g.M 0 ?_;refine aS 1 g.M 0 ?_;refine aS 2 g.M 1 ?_;refine kS 3 (an (g.ML,0) NB g.cap) (λ_ aK=>aK.2) ?_;refine dI 4 (k:Int) ?_;refine dw 5 g.M 0 ?_;refine aS 6 g.M 0 ?_;refine aS 7 g.M 0 ?_;refine kS 8 g.C (λ_ aK=>aK.1) ?_;refine dI 9 (k:Int) ?_;refine bY 10 (λK' hK=>?_);go_simp;refine HW.cj ?_;refine hK.out _ _ aY (λdh=>?_)
  refine aS 11 g.ML (k*4) ?_;refine aS 12 g.ML (k*4+2) ?_;obtain⟨x2,y2⟩:=Jq.r2 hk;have mQ:=Jq.yU hk (j:=2) ae (O aa ((r+1:Nat))) {Gc.at_ g.l k with aC:=r+1} rfl;have eU:=iH.setCell (p:=⟨g.ML,k*4+2,none⟩) (.inl (.inr (.inl rfl))) (O aa ((r+1:Nat)));have e1:((r+1:Nat):Int)=(r:Int)+1:=ae;rw[e1] at mQ eU;obtain⟨oC,ja⟩:=cn mQ eU;have p0:=mQ.m0;have p1:=mQ.m1;simp only at p0 p1;clear mQ eU e1;refine bY 13 (λK' hK=>?_);go_simp;refine hK.out _ _ ⟨p0,p1⟩ (λfE=>?_)
  refine eH ?_;clear aY dh fE n0 n1 p0 p1 x2 y2;have awK:=ag (show w1.heap.size=(w2.setCell (g.ML,k*4+2) (O aa ((r:Int)+1))).heap.size by rw[cT];exact HUp.o);generalize w2.setCell (g.ML,k*4+2) (O aa ((r:Int)+1))=w3 at*;rcases HOr.o with⟨hec,hst,gB⟩|⟨hec,hst,hps,pg,gB⟩
  case inr=>subst hec hps;obtain⟨jI,CO,HGo⟩:=cp hst gB (Ig oC hk);clear hst gB;go_wp2_with fail;go_call HGo as e w9 ⟨rfl,h9,AU⟩;obtain⟨GU,H9⟩:=cn (ja.aA AU λq hq=>(Sm.up (w:=w) (w':=w1) (λq hq=>hq) hq).imp id λh=>h.1) (h9.Ob Ce HM HL (by have:=AU.size;have:=awK.o;omega));clear h9 AU;go_wp2_with fail;go_ret;refine⟨⟨y,.inr ⟨rfl,jI,pg,?_⟩⟩,GU⟩;have h8:=H9.o;rw[CO.o] at h8;unfold erF;rw[HR.o];exact h8
  subst hec;obtain⟨jI,CO⟩:=cn hst gB;clear hst gB;go_upto_region 11 with fail;obtain⟨FK,jZ⟩:=cn (oC.on (ak w3)) (ja.on (ak w3));have n0:=FK.m0;have n1:=FK.m1;simp only at n0 n1;refine iE (λW'=>W'.cell? (g.M,0)=some (.pointer (g.C,0))/\W'.cell? (g.M,1)=some (an (g.ML,0) NB g.cap)) ⟨n0,n1⟩ (λaY=>?_);have aC6:=ag (show w1.heap.size=w3.drew.heap.size from awK.o);generalize w3.drew=w4 at*;have HW2:=ag (show Calls prog 37 #[g.C,O aa k] w4 λe w'=>e=ar (O aa ((r+1:Nat)))/\w4=w' by have t:=mJ FK.hc hk;have e:(bl' k).aC=r+1:=JM.o;rw[<-e];exact t);refine dw 0 g.M 0 ?_;refine aS 1 g.M 0 ?_;refine aS 2 g.M 1 ?_;refine kS 3 (an (g.ML,0) NB g.cap) (λ_ aK=>aK.2) ?_;refine dI 4 (k:Int) ?_;refine dw 5 g.M 0 ?_;refine aS 6 g.M 0 ?_;refine aS 7 g.M 0 ?_;refine kS 8 g.C (λ_ aK=>aK.1) ?_;refine dI 9 (k:Int) ?_;refine bY 10 (λK' hK=>?_);go_simp;refine HW2.cj ?_;refine hK.out _ _ aY (λdh=>?_)
  refine eX 11 (.agg #[O aa 0,O aa 0,O aa ((r:Int)+1),O aa 0]) ?_;refine aS 12 g.ML (k*4) ?_;have YT:=FK.setRow hk ⟨0,0,r+1,0⟩;simp only[List.set_set] at YT;obtain⟨yF,wS⟩:=cn (show fF NB B _ ((((w4.setCell (g.ML,k*4) (O aa 0)).setCell (g.ML,k*4+1) (O aa 0)).setCell (g.ML,k*4+2) (O aa ((r:Int)+1))).setCell (g.ML,k*4+3) (O aa 0)) {g with ps:=ps',bl:=bl',l:=g.l.set k ⟨0,0,r+1,0⟩} from YT) (show Kq (Sm g S) w ((((w4.setCell (g.ML,k*4) (O aa 0)).setCell (g.ML,k*4+1) (O aa 0)).setCell (g.ML,k*4+2) (O aa ((r:Int)+1))).setCell (g.ML,k*4+3) (O aa 0)) from aaH jZ (.inr (.inl rfl)) ⟨0,0,r+1,0⟩);obtain⟨x0,y0⟩:=FK.r0 hk;obtain⟨x1,y1⟩:=FK.r1 hk;obtain⟨x2,y2⟩:=FK.r2 hk;obtain⟨x3,y3⟩:=FK.r3 hk;have p0:=yF.m0;have p1:=yF.m1;have p2:=yF.m2;have p3:=yF.ad3 2;simp only at p0 p1 p2 p3 x0 x1 x2 x3 y0 y1 y2 y3;clear YT;refine bY 13 (λK' hK=>?_);go_simp;refine hK.out _ _ ⟨p0,p1⟩ (λfE=>?_)
  refine eH ?_;clear aY dh fE n0 n1 p0 p1 x0 x1 x2 x3 y0 y1 y2 y3;have awL:=ag (show w1.heap.size=((((w4.setCell (g.ML,k*4) (O aa 0)).setCell (g.ML,k*4+1) (O aa 0)).setCell (g.ML,k*4+2) (O aa ((r:Int)+1))).setCell (g.ML,k*4+3) (O aa 0)).heap.size by simp only[cT];exact aC6.o);generalize ((((w4.setCell (g.ML,k*4) (O aa 0)).setCell (g.ML,k*4+1) (O aa 0)).setCell (g.ML,k*4+2) (O aa ((r:Int)+1))).setCell (g.ML,k*4+3) (O aa 0))=w5 at*;by_cases ho:g.opn=(k:Int)
  .obtain⟨U3,ql,HO⟩:=cp (yF.ahn (-1)) (wS.setCell (p:=⟨g.M,2,none⟩) (.inl (.inl rfl)) (O aa (-1))) ho;have Iq:((k:Int)==g.opn)=true:=by rw[beq_iff_eq,ho]
   clear ho;go_wp2_with fail;go_ret;refine⟨⟨y,.inl ⟨rfl,jI,ps',?_⟩⟩,ql⟩;unfold erG;rw[ev HO.o,HR.o,<-CO.o];exact U3.Ob Ce.o HM.o HL.o (by rw[cT];exact Nat.le_of_eq awL)
  .have HO:=ag ho;have Iq:((k:Int)==g.opn)=false:=by rw[ew];exact Ne.symm ho
   clear ho;go_wp2_with fail;go_ret;refine⟨⟨y,.inl ⟨rfl,jI,ps',?_⟩⟩,wS⟩;unfold erG;rw[eo HO.o,HR.o,<-CO.o];exact yF.Ob Ce.o HM.o HL.o (Nat.le_of_eq awL)
end
namespace Gc
def forced (room:Bool) (pages:Nat) (l:List Bk):Int×Int:=
 match best stale iy l l.length with
 |some k=>(4,k)
 |none=>match best (p7 room pages) iC l l.length with
  |some k=>(4,k)
  |none=>(0,-1)
def next (l:List Bk) (pages:Nat) (room:Bool):Int×Int:=
 match best (p3 (least l)) iy l l.length with
 |some k=>(1,k)
 |none=>match best (p4 room (least l) pages) iC l l.length with
  |some k=>(2,k)
  |none=>match best (p5 (least l)) ff l l.length with
   |some k=>(3,k)
   |none=>match best (p6 room (least l)) iC l l.length with
    |some k=>(2,k)
    |none=>forced room pages l
end Gc
def acV (a:Int×Int):Value:= .agg #[O aa a.1,O aa a.2]
theorem TK FB RB PB room (pages:Nat) a n c l w (hx:fP 4 Eh w w a n l) (hn:n<=1000)
  (hf:w.cell? ⟨FB,0,none⟩=some (.func (.func 331) #[] #[.pointer (some ⟨RB,0,none⟩)])) (hr:w.cell? (RB,0)=some (aq room)) (h2:w.cell? ⟨PB,0,none⟩=some (O aa pages)):
  Calls prog 340 #[an a n c,.func (.func 330) #[] #[],.func (.func 341) #[] #[FB,PB]] w λe w'=>e=ar (acV (Gc.forced room pages l))/\Below w w w':=by
 have hl:=hx.len;have gu:=(aE w w).alloc av (.cells #[O aa 0,O aa 0] 342);have gX:=ag gu;have WA:=aF.new w 342 #[O aa 0,O aa 0];obtain⟨HK0,HX,HF⟩:=cp WA (hx.on gu) (bu hf gu);obtain⟨HR,HP,HG⟩:=cp (bu hr gu) (bu h2 gu) (show Gc.forced room pages l=(match Gc.best Gc.stale Gc.iy l n with
  |some k=>(4,(k:Int))
  |none=>match Gc.best (Gc.p7 room pages) Gc.iC l n with
   |some k=>(4,(k:Int))
   |none=>(0,-1)) by unfold Gc.forced;rw[hl])
 clear hx gu WA hf hr h2
 go_in
 go_wp2_with fail;refine(lH Gc.stale Gc.iy _ _ 330 334 #[] #[] rfl rfl a n c l _ HX hn (fV Tryz.func330 az rfl) (fV Tryz.func334 az rfl)
  (λw' x _ _=>Ei x w') (λw' x y _ _ _=>yX x y w')).mono ?_
 rintro e w1 ⟨rfl,hb⟩;obtain⟨bV,iH,yg⟩:=cp (gX.aA hb) (HK0.ah hb) (HX.on hb);obtain⟨UW,EJ,sV⟩:=cp (bu HF hb) (bu HR hb) (bu HP hb);clear hb
 cases ho:Gc.best Gc.stale Gc.iy l n with
 |some k=>
  rw[ho] at HG;have e0:Gc.oI (some k)=(k:Int):=rfl;have e1:decide ((k:Int)>=0)=true:=ez ae;have e2:(0:Int)<=(k:Int):=ae;rw[e0];have k0:=iH.aj (i:=0) rfl;have k1:=iH.aj (i:=1) rfl;have f0:=iH.frozen 0;have f1:=iH.frozen 1;have hs:=(iH.set 0 (O aa 4)).set 1 (O aa k);have q0:=hs.aj (i:=0) (v:=O aa 4) rfl;have q1:=hs.aj (i:=1) (v:=O aa k) rfl;have xE:=ag ((bV.setCell (p:=⟨w.heap.size,0,none⟩) av (O aa 4)).setCell (p:=⟨w.heap.size,1,none⟩) av (O aa k));clear hs;go_wp2_with fail;refine bodyPost_ret (v:= .agg #[O aa 4,O aa k]) (by simp[results,Tryz.results340,go_sem,q0,q1]) rfl ⟨by rw[HG.o];rfl,xE.o⟩
 |none=>
  rw[ho] at HG;have e0:Gc.oI none= -1:=rfl;rw[e0];clear ho e0;go_wp2_with fail;refine(lH (Gc.p7 room pages) Gc.iC _ _ 341 336 #[FB,PB] #[] rfl rfl a n c l _ yg hn (fV Tryz.func341 az rfl) (fV Tryz.func336 az rfl)
   (λw' x hw _=>Xy x FB RB PB room pages w' (bu UW hw) (bu EJ hw) (bu sV hw)) (λw' x y _ _ _=>sD x y w')).mono ?_
  rintro e w2 ⟨rfl,hb⟩;obtain⟨df,ja⟩:=cn (bV.aA hb) (iH.ah hb);clear hb
  cases ho:Gc.best (Gc.p7 room pages) Gc.iC l n with
  |some k=>
   rw[ho] at HG;have e0:Gc.oI (some k)=(k:Int):=rfl;have e1:decide ((k:Int)>=0)=true:=ez ae;have e2:(0:Int)<=(k:Int):=ae;rw[e0];have k0:=ja.aj (i:=0) rfl;have k1:=ja.aj (i:=1) rfl;have f0:=ja.frozen 0;have f1:=ja.frozen 1;have hs:=(ja.set 0 (O aa 4)).set 1 (O aa k);have q0:=hs.aj (i:=0) (v:=O aa 4) rfl;have q1:=hs.aj (i:=1) (v:=O aa k) rfl;have xE:=ag ((df.setCell (p:=⟨w.heap.size,0,none⟩) av (O aa 4)).setCell (p:=⟨w.heap.size,1,none⟩) av (O aa k));clear hs;go_wp2_with fail;refine bodyPost_ret (v:= .agg #[O aa 4,O aa k]) (by simp[results,Tryz.results340,go_sem,q0,q1]) rfl ⟨by rw[HG.o];rfl,xE.o⟩
  |none=>
   rw[ho] at HG;have e0:Gc.oI none= -1:=rfl;rw[e0];clear ho e0;have k0:=ja.aj (i:=0) rfl;have k1:=ja.aj (i:=1) rfl;have f0:=ja.frozen 0;have f1:=ja.frozen 1;have hs:=(ja.set 0 (O aa 0)).set 1 (O aa (-1));have q0:=hs.aj (i:=0) (v:=O aa 0) rfl;have q1:=hs.aj (i:=1) (v:=O aa (-1)) rfl;have xE:=ag ((df.setCell (p:=⟨w.heap.size,0,none⟩) av (O aa 0)).setCell (p:=⟨w.heap.size,1,none⟩) av (O aa (-1)));clear hs;go_wp2_with fail;refine bodyPost_ret (v:= .agg #[O aa 0,O aa (-1)]) (by simp[results,Tryz.results340,go_sem,q0,q1]) rfl ⟨by rw[HG.o];rfl,xE.o⟩
structure NxE (w:World) PB RB GB LB SB FB (pages:Nat) room (l:Nat):Prop where
 pb:w.cell? ⟨PB,0,none⟩=some (O aa pages)
 rb:w.cell? ⟨RB,0,none⟩=some (aq room)
 gb:aF w GB 342 #[O aa 0,O aa 0]
 lb:w.cell? ⟨LB,0,none⟩=some (O aa l)
 sb:w.cell? ⟨SB,0,none⟩=some (.func (.func 330) #[] #[])
 fb:w.cell? ⟨FB,0,none⟩=some (.func (.func 331) #[] #[RB])
theorem NxE.on {w w' PB RB GB LB SB FB pages room l} (h:NxE w PB RB GB LB SB FB pages room l) (hb:Below w w w'):NxE w' PB RB GB LB SB FB pages room l:=
 ⟨bu h.pb hb,bu h.rb hb,h.gb.ah hb,bu h.lb hb,bu h.sb hb,bu h.fb hb⟩
theorem Xz {l n pages} (hl:l.length=n) (h:∀k,k<n->Gc.Ok pages (Gc.at_ l k)):Gc.least l<=2199023255552:=by
 unfold Gc.least
 cases ho:Gc.best Gc.good Gc.iy l l.length with
 |none=>show 0<=_;omega
 |some k=>
  have hk:=(Gc.gU ho).1;have:=(h k ae).aC;show(Gc.at_ l k).aC<=_;omega
theorem XA room pages a n c l w (hx:fP 4 Eh w w a n l) (hn:n<=1000) (yc:1<=pages) (hp:pages<=32) (h:∀k,k<n->Gc.Ok pages (Gc.at_ l k)):
  Calls prog 309 #[an a n c,O aa pages,aq room] w λe w'=>e=ar (acV (Gc.next l pages room))/\Below w w w':=by
 have hl:=hx.len;obtain⟨HLe,Vs,HX,HG⟩:=cr (Xz hl h) h hx (show Gc.next l pages room=(match Gc.best (Gc.p3 (Gc.least l)) Gc.iy l n with
  |some k=>(1,(k:Int))
  |none=>match Gc.best (Gc.p4 room (Gc.least l) pages) Gc.iC l n with
   |some k=>(2,(k:Int))
   |none=>match Gc.best (Gc.p5 (Gc.least l)) Gc.ff l n with
    |some k=>(3,(k:Int))
    |none=>match Gc.best (Gc.p6 room (Gc.least l)) Gc.iC l n with
     |some k=>(2,(k:Int))
     |none=>Gc.forced room pages l) by unfold Gc.next;rw[hl])
 have Oj:=ag (show∀x∈l,x.aC<=2199023255552 from λx hm=>by
  obtain⟨i,hi,rfl⟩:=List.getElem_of_mem hm;have:=(h i ae).aC;have e:Gc.at_ l i=l[i]:=by rw[Gc.at_,db,cX hi];rfl
  rw[e] at this;omega)
 clear hx h;have p0:=(aF.new w 3 #[O aa pages]).aj (i:=0) (v:=O aa pages) rfl;have cO:=ag ((((aE w w).alloc av (.cells #[O aa pages] 3)).alloc au (.cells #[aq room] 4)).alloc (by simp;omega) (.cells #[O aa 0,O aa 0] 342));have kp3:=((aF.new w 3 #[O aa pages]).alloc (.cells #[aq room] 4)).alloc (.cells #[O aa 0,O aa 0] 342);have kr3:=(aF.new (w.alloc (.cells #[O aa pages] 3)) 4 #[aq room]).alloc (.cells #[O aa 0,O aa 0] 342);have kg3:=aF.new ((w.alloc (.cells #[O aa pages] 3)).alloc (.cells #[aq room] 4)) 342 #[O aa 0,O aa 0];rw[bR] at kr3 kg3;rw[bR] at kg3;obtain⟨KP,KR,KG⟩:=cp kp3 kr3 kg3;clear kp3 kr3 kg3;have jf:w.heap.size<=w.heap.size+1+1:=ae
 go_in
 go_wp2_with fail;clear p0;generalize hGB:w.heap.size+1+1=GB at*;generalize hRB:w.heap.size+1=RB at*;generalize hPB:w.heap.size=PB at KP⊢;generalize Zv:((w.alloc (.cells #[O aa pages] 3)).alloc (.cells #[aq room] 4)).alloc (.cells #[O aa 0,O aa 0] 342)=w3 at*;clear hRB hGB Zv;go_call(TL a n c l pages _ (HX.on cO) hn yc hp Vs) as e w4 ⟨rfl,hb⟩;obtain⟨jM,KP4,KR4,KG4⟩:=cr (cO.aA hb) (KP.ah hb) (KR.ah hb) (KG.ah hb);clear hb KP KR KG cO;go_wp2_with fail;go_call(Hz a n c l _ (HX.on jM) hn) as e w5 ⟨rfl,hb⟩;obtain⟨je,KP5,KR5,KG5⟩:=cr (jM.aA hb) (KP4.ah hb) (KR4.ah hb) (KG4.ah hb);clear hb KP4 KR4 KG4 jM;generalize Gc.least l=Bi at*;have fJ:=(((aE w5 w5).alloc av (.cells #[O aa Bi] 3)).alloc au (.cells #[.func (.func 330) #[] #[]] 323)).alloc (by simp;omega) (.cells #[.func (.func 331) #[] #[RB]] 323);have e2:=aF.new (w5.alloc (.cells #[O aa Bi] 3)) 323 #[.func (.func 330) #[] #[]];have e3:=aF.new ((w5.alloc (.cells #[O aa Bi] 3)).alloc (.cells #[.func (.func 330) #[] #[]] 323)) 323 #[.func (.func 331) #[] #[RB]];rw[bR] at e2 e3;rw[bR] at e3;have hN:NxE (((w5.alloc (.cells #[O aa Bi] 3)).alloc (.cells #[.func (.func 330) #[] #[]] 323)).alloc (.cells #[.func (.func 331) #[] #[RB]] 323)) PB RB GB w5 (w5.heap.size+1) (w5.heap.size+1+1) pages room Bi:=
  ⟨(KP5.ah fJ).aj (i:=0) rfl,(KR5.ah fJ).aj (i:=0) rfl,KG5.ah fJ,(((aF.new w5 3 #[O aa Bi]).alloc (.cells #[.func (.func 330) #[] #[]] 323)).alloc (.cells #[.func (.func 331) #[] #[RB]] 323)).aj (i:=0) rfl,(e2.alloc (.cells #[.func (.func 331) #[] #[RB]] 323)).aj (i:=0) rfl,e3.aj (i:=0) rfl⟩
 obtain⟨HN,Ce,SA⟩:=cp hN (je.aA fJ) (HX.on (je.aA fJ));have l0:=(aF.new w5 3 #[O aa Bi]).aj (i:=0) (v:=O aa Bi) rfl;clear fJ e2 e3 hN KP5 KR5 KG5 je;go_wp2_with fail;clear l0;generalize ((w5.alloc (.cells #[O aa Bi] 3)).alloc (.cells #[.func (.func 330) #[] #[]] 323)).alloc (.cells #[.func (.func 331) #[] #[RB]] 323)=w6 at*;generalize w5.heap.size+1+1=FB at*;generalize w5.heap.size+1=SB at*;generalize w5.heap.size=LB at*;clear hPB;refine(lH (Gc.p3 Bi) Gc.iy _ _ 332 334 #[SB,LB] #[] rfl rfl a n c l _ SA hn (fV Tryz.func332 az rfl) (fV Tryz.func334 az rfl)
  (λw' x hw hx=>XB x SB LB Bi HLe (Oj.o x hx) w' (HN.on hw).sb (HN.on hw).lb) (λw' x y _ _ _=>yX x y w')).mono ?_
 rintro e w7 ⟨rfl,hb⟩;replace HN:=ag (HN.on hb);replace Ce:=ag (Ce.aA hb);replace SA:=ag (SA.on hb);clear hb
 cases ho:Gc.best (Gc.p3 Bi) Gc.iy l n with
 |some k=>
  rw[ho] at HG;have e0:Gc.oI (some k)=(k:Int):=rfl;have e1:decide ((k:Int)>=0)=true:=ez ae;have e2:(0:Int)<=(k:Int):=ae;rw[e0];have k0:=HN.gb.aj (i:=0) rfl;have k1:=HN.gb.aj (i:=1) rfl;have f0:=HN.gb.frozen 0;have f1:=HN.gb.frozen 1;have hs:=(HN.gb.set 0 (O aa 1)).set 1 (O aa k);have q0:=hs.aj (i:=0) (v:=O aa 1) rfl;have q1:=hs.aj (i:=1) (v:=O aa k) rfl;have xE:=ag ((Ce.setCell (p:=⟨GB,0,none⟩) jf (O aa 1)).setCell (p:=⟨GB,1,none⟩) jf (O aa k));clear hs;go_wp2_with fail;refine bodyPost_ret (v:= .agg #[O aa 1,O aa k]) (by simp[results,Tryz.results309,go_sem,q0,q1]) rfl ⟨by rw[HG.o];rfl,xE.o⟩
 |none=>
  rw[ho] at HG;have e0:Gc.oI none= -1:=rfl;rw[e0];clear ho e0;go_wp2_with fail;refine(lH (Gc.p4 room Bi pages) Gc.iC _ _ 335 336 #[FB,LB,PB] #[] rfl rfl a n c l _ SA hn (fV Tryz.func335 az rfl) (fV Tryz.func336 az rfl)
   (λw' x hw hx=>XC x FB RB LB PB room Bi pages HLe (Oj.o x hx) w' (HN.on hw).fb (HN.on hw).rb (HN.on hw).lb (HN.on hw).pb) (λw' x y _ _ _=>sD x y w')).mono ?_
  rintro e w8 ⟨rfl,hb⟩;replace HN:=ag (HN.on hb);replace Ce:=ag (Ce.aA hb);replace SA:=ag (SA.on hb);clear hb
  cases ho:Gc.best (Gc.p4 room Bi pages) Gc.iC l n with
  |some k=>
   rw[ho] at HG;have e0:Gc.oI (some k)=(k:Int):=rfl;have e1:decide ((k:Int)>=0)=true:=ez ae;have e2:(0:Int)<=(k:Int):=ae;rw[e0];have k0:=HN.gb.aj (i:=0) rfl;have k1:=HN.gb.aj (i:=1) rfl;have f0:=HN.gb.frozen 0;have f1:=HN.gb.frozen 1;have hs:=(HN.gb.set 0 (O aa 2)).set 1 (O aa k);have q0:=hs.aj (i:=0) (v:=O aa 2) rfl;have q1:=hs.aj (i:=1) (v:=O aa k) rfl;have xE:=ag ((Ce.setCell (p:=⟨GB,0,none⟩) jf (O aa 2)).setCell (p:=⟨GB,1,none⟩) jf (O aa k));clear hs;go_wp2_with fail;refine bodyPost_ret (v:= .agg #[O aa 2,O aa k]) (by simp[results,Tryz.results309,go_sem,q0,q1]) rfl ⟨by rw[HG.o];rfl,xE.o⟩
  |none=>
   rw[ho] at HG;have e0:Gc.oI none= -1:=rfl;rw[e0];clear ho e0;go_wp2_with fail;refine(TM (Gc.p5 Bi) _ 338 #[LB] rfl a n c l _ SA hn (fV Tryz.func338 az rfl)
    (λw' x hw _=>XD x LB Bi w' (HN.on hw).lb)).mono ?_
   rintro e w9 ⟨rfl,hb⟩;replace HN:=ag (HN.on hb);replace Ce:=ag (Ce.aA hb);replace SA:=ag (SA.on hb);clear hb
   cases ho:Gc.best (Gc.p5 Bi) Gc.ff l n with
   |some k=>
    rw[ho] at HG;have e0:Gc.oI (some k)=(k:Int):=rfl;have e1:decide ((k:Int)>=0)=true:=ez ae;have e2:(0:Int)<=(k:Int):=ae;rw[e0];have k0:=HN.gb.aj (i:=0) rfl;have k1:=HN.gb.aj (i:=1) rfl;have f0:=HN.gb.frozen 0;have f1:=HN.gb.frozen 1;have hs:=(HN.gb.set 0 (O aa 3)).set 1 (O aa k);have q0:=hs.aj (i:=0) (v:=O aa 3) rfl;have q1:=hs.aj (i:=1) (v:=O aa k) rfl;have xE:=ag ((Ce.setCell (p:=⟨GB,0,none⟩) jf (O aa 3)).setCell (p:=⟨GB,1,none⟩) jf (O aa k));clear hs;go_wp2_with fail;refine bodyPost_ret (v:= .agg #[O aa 3,O aa k]) (by simp[results,Tryz.results309,go_sem,q0,q1]) rfl ⟨by rw[HG.o];rfl,xE.o⟩
   |none=>
    rw[ho] at HG;have e0:Gc.oI none= -1:=rfl;rw[e0];clear ho e0;go_wp2_with fail;refine(lH (Gc.p6 room Bi) Gc.iC _ _ 339 336 #[FB,LB] #[] rfl rfl a n c l _ SA hn (fV Tryz.func339 az rfl) (fV Tryz.func336 az rfl)
     (λw' x hw hx=>XE x FB RB LB room Bi w' (HN.on hw).fb (HN.on hw).rb (HN.on hw).lb) (λw' x y _ _ _=>sD x y w')).mono ?_
    rintro e E5 ⟨rfl,hb⟩;replace HN:=ag (HN.on hb);replace Ce:=ag (Ce.aA hb);replace SA:=ag (SA.on hb);clear hb
    cases ho:Gc.best (Gc.p6 room Bi) Gc.iC l n with
    |some k=>
     rw[ho] at HG;have e0:Gc.oI (some k)=(k:Int):=rfl;have e1:decide ((k:Int)>=0)=true:=ez ae;have e2:(0:Int)<=(k:Int):=ae;rw[e0];have k0:=HN.gb.aj (i:=0) rfl;have k1:=HN.gb.aj (i:=1) rfl;have f0:=HN.gb.frozen 0;have f1:=HN.gb.frozen 1;have hs:=(HN.gb.set 0 (O aa 2)).set 1 (O aa k);have q0:=hs.aj (i:=0) (v:=O aa 2) rfl;have q1:=hs.aj (i:=1) (v:=O aa k) rfl;have xE:=ag ((Ce.setCell (p:=⟨GB,0,none⟩) jf (O aa 2)).setCell (p:=⟨GB,1,none⟩) jf (O aa k));clear hs;go_wp2_with fail;refine bodyPost_ret (v:= .agg #[O aa 2,O aa k]) (by simp[results,Tryz.results309,go_sem,q0,q1]) rfl ⟨by rw[HG.o];rfl,xE.o⟩
    |none=>
     rw[ho] at HG;have e0:Gc.oI none= -1:=rfl;rw[e0];clear ho e0;have s0:=HN.sb;go_wp2_with fail;clear s0;go_call(TK FB RB PB room pages a n c l _ SA hn HN.fb HN.rb HN.pb) as e sZ ⟨rfl,hb⟩;replace HN:=ag (HN.on hb);replace Ce:=ag (Ce.aA hb);clear hb;generalize hfo:Gc.forced room pages l=fo at*;obtain⟨kd,bn⟩:=fo;clear hfo;rw[show acV (kd,bn)= .agg #[O aa kd,O aa bn] from rfl];have k0:=HN.gb.aj (i:=0) rfl;have k1:=HN.gb.aj (i:=1) rfl;have f0:=HN.gb.frozen 0;have f1:=HN.gb.frozen 1;have hs:=(HN.gb.set 0 (O aa kd)).set 1 (O aa bn);have q0:=hs.aj (i:=0) (v:=O aa kd) rfl;have q1:=hs.aj (i:=1) (v:=O aa bn) rfl;have xE:=ag ((Ce.setCell (p:=⟨GB,0,none⟩) jf (O aa kd)).setCell (p:=⟨GB,1,none⟩) jf (O aa bn));clear hs;go_wp2_with fail;refine bodyPost_ret (v:= .agg #[O aa kd,O aa bn]) (by simp[results,Tryz.results309,go_sem,q0,q1]) rfl ⟨by rw[HG.o];rfl,xE.o⟩
section
variable {NB B:Nat} {S:Nat->Prop} {w:World} {g:Mg}
theorem Ia (h:fF NB B S w g):
  Calls prog 307 #[g.M] w λe w'=>e=ar (O aa (Gc.count 0 g.l))/\Below w w w':=by
 have m1:=h.m1;have HC:=ag (Ic 0 _ NB g.cap g.l w h.arr h.nb);clear h
 go_in
 go_wp2_with fail;go_call HC as e w1 ⟨rfl,hb⟩;have HB:=ag hb;clear hb;go_wp2;go_ret;exact⟨rfl,HB⟩
def roomOf (g:Mg):=(Gc.count 0 g.l)*8+(if g.opn= -1 then 0 else 8-((Gc.at_ g.l g.opn.toNat).nx:Int))
theorem Ie (h:fF NB B S w g) (ho:g.opn= -1\/(0<=g.opn/\g.opn<NB)) (hx:(Gc.at_ g.l g.opn.toNat).nx<=8):
  Calls prog 304 #[g.M] w λe w'=>e=ar (O aa (roomOf g))/\Below w w w':=by
 obtain⟨HF,HH⟩:=cn (Ia h) h;have pK:=h.nb;have uF:=bB (Gc.count_le 0 g.l) (Nat.le_of_eq h.len);clear h
 go_in
 go_wp2_with fail;go_call HF as e w1 ⟨rfl,hb⟩;obtain⟨HB,Jq⟩:=cn hb (HH.on hb);clear hb;go_wp2_with fail;go_call(kK Jq) as e w2 ⟨rfl,hb⟩;obtain⟨df,oC⟩:=cn (HB.aA hb) (Jq.on hb);have m2:=oC.m2;have i1:=bq ((Gc.count 0 g.l:Int)*8) ⟨ae,ae⟩;have HRm:=ag (show roomOf g=(Gc.count 0 g.l:Int)*8+(if g.opn= -1 then 0 else 8-((Gc.at_ g.l g.opn.toNat).nx:Int)) from rfl);clear hb;generalize Gc.count 0 g.l=q at*;rcases ho with ho|⟨h1,h2⟩
 .rw[ho] at m2;rw[ev ho] at HRm;clear ho;go_wp2_with fail;go_ret;exact⟨by rw[HRm.o,Int.add_zero];rfl,df⟩
 .obtain⟨k,hk⟩:∃k:Nat,g.opn=(k:Int):=⟨g.opn.toNat,ae⟩
  rw[hk] at m2 h1 h2 hx HRm;have hkn:k<NB:=ae;have di:((k:Int) != -1)=true:=by rw[bne_iff_ne];omega
  rw[eo (show¬(k:Int)= -1 by omega),Int.toNat_natCast] at HRm;rw[Int.toNat_natCast] at hx;generalize hxx:Gc.at_ g.l k=x at*;obtain⟨HXX,Vs⟩:=cn hxx hk;have i2:=bq (8-(x.nx:Int)) ⟨ae,ae⟩;have i3:=bq ((q:Int)*8+(8-(x.nx:Int))) ⟨ae,ae⟩;clear hk hxx;go_upto_region 5 with fail;obtain⟨HD,gZ⟩:=cn (oC.on (ak w2)) (show Below w2 w2 w2.drew from ak w2);refine iE (λW'=>Below w2 w2 W') gZ.o (λaY=>?_);refine dI 0 ((q:Int)*8) ?_;refine dw 1 g.M 0 ?_;refine dw 3 g.M 0 ?_;refine aS 4 g.M 0 ?_;refine aS 5 g.M 1 ?_;refine kS 6 (an (g.ML,0) NB g.cap) (λ_ aK=>(oC.on aK).m1) ?_;refine dw 7 g.M 0 ?_;refine aS 8 g.M 0 ?_;refine aS 9 g.M 2 ?_;refine jE 10 (O aa k) rfl (λ_ aK=>by have y9:=(oC.on aK).m2;rw[Vs.o] at y9;go_simp) ?_;refine aS 11 g.ML (k*4) ?_;refine aS 12 g.ML (k*4+3) ?_;refine jE 13 (O aa x.nx) rfl (λ_ aK=>by have y9:=((oC.on aK).r3 hkn).1;rw[HXX.o] at y9;go_simp) ?_;refine bY 2 (λK' hK=>?_);go_simp;go_call(kK HD) as e w3 ⟨rfl,hb⟩;have dh:Below w2 w2 w3:=gZ.aA hb;have cO:=ag (df.aA dh);refine hK.out _ _ dh (λfE=>?_)
  refine iR 14 (8-(x.nx:Int)) ?_;refine iR 15 (((q:Int)*8+(8-(x.nx:Int)))) ?_;refine iR 16 (((q:Int)*8+(8-(x.nx:Int)))) ?_;refine eH ?_;clear aY dh fE hb;go_wp2_with fail;go_ret;exact⟨by rw[HRm.o];rfl,cO⟩
end
theorem ahi:(prog.info? 296).map (λi=>(i.zero,i.size,i.bytes))=some (some (.agg #[O aa 0,O aa 0,O aa 0,O aa 0]),4,32):=az
theorem alB (w:World):bQ 4 Eh 296 (w.alloc (.cells #[] 296)) w (an (w,0) 0 0) []:=
 ⟨ahk,rfl,.inr ⟨w.heap.size,0,#[],rfl,bp _,heap_alloc_new w _,bp _,aB,rfl,rfl⟩⟩
theorem Ph {w ops rest o ac Q} (mF:o.guard=none) s x
  (ho:o.op= .call {callee:= .builtin .append,args:=#[s,x],argTypes:=#[281,281]}) base
  v xs (hs:ac.eval s=v) (bz:bQ 4 Eh 296 w base v xs) B a m c ys (hx:ac.eval x=an a m c) (hy:fP 4 Eh w B a m ys)
  (hlen:xs.length+m<=1000000) (dE:base<=w)
  (h:∀v' w',Hid (bQ 4 Eh 296 w' base v' (xs++ys))->Hid (Below base w w')->wpList prog ops Q rest (ac.put o.dst v') w'):wpList prog ops Q (o::rest) ac w:=by
 obtain⟨i0,hi,qm,tZ,tu⟩:=info_parts ahi;exact lq mF s x 281 ho base 296 i0 _ 32 Tryz.underlying281 hi qm tZ tu rfl aB ahj v xs hs bz B a m c ys hx hy ae (by simp only[maxLen];omega) dE λv' w' h1 h2 _=>
  h v' w' (ag h1) (ag (Zn (aE base _) bz h2 dE))
theorem TN p n c l w (hx:fP 4 Eh w w (some p) n l) (hn:n<=1000):
  Calls prog 308 #[an (some p) n c] w λe w'=>(∃v,e=ar v/\bQ 4 Eh 296 w' w v l)/\Below w w w':=by
 have Fb:=λw=>Lib.run_eql_slice_nil (P:=prog) w 281 296 (some p) n c 0 0 Tryz.underlying281;simp only[Option.isNone_some] at Fb;obtain⟨ho,wO,bP⟩:=cp (alB w) (hx.alloc (.cells #[] 296)) ((aE w w).alloc av (.cells #[] 296));clear hx
 go_in
 go_wp2_with (at_builtin;refine Ph rfl _ _ rfl w _ [] rfl ho _ _ n _ l rfl wO (by simp only[cV];omega) au ?_;intro v1 w1 Rq aZ)
 go_ret;refine⟨⟨_,rfl,?_⟩,bP.trans aZ⟩;have h:=Rq.o;rw[cP] at h;exact h
section
variable {NB B:Nat} {S:Nat->Prop} {w:World} {g:Mg}
theorem Xw (h:fF NB B S w g) (he:g.even=false) (zJ:∀k,k<NB->Gc.Ok 8 (Gc.at_ g.l k)) (ho:g.opn= -1\/(0<=g.opn/\g.opn<NB)) (hx:(Gc.at_ g.l g.opn.toNat).nx<=8) (hN:0<NB):
  Calls prog 281 #[g.M] w λe w'=>e=ar (acV (Gc.next g.l 8 (decide (8<=roomOf g))))/\Below w w w':=by
 have pK:=h.nb;have hlen:=h.len;have gu:=(aE w w).alloc av (.cells #[O aa 0,O aa 0] 342);have WA:=aF.new w 342 #[O aa 0,O aa 0];have hg0:=h.on gu;have m1:=hg0.m1;obtain⟨HK0,gX,HG0,HE,Vs⟩:=ct WA gu hg0 he zJ;obtain⟨HO,HX⟩:=cn ho hx;clear h gu WA hg0 he zJ ho hx
 go_in
 go_wp2_with fail;generalize w.alloc (.cells #[O aa 0,O aa 0] 342)=w1 at*;go_call(TN _ NB g.cap g.l w1 HG0.arr pK) as e w2 ⟨⟨v,rfl,hv⟩,hb⟩;obtain⟨df,oC,ja⟩:=cp (gX.trans (hb.mono gX.size)) (HG0.on hb) (HK0.ah hb);obtain⟨a2,c2,rfl,Dw⟩:=hv.bG hlen;have HV2:=ag (hv.arr ae);clear hb hv m1;go_wp2_with fail
 go_loopw [4,15] (λ_ i wr=>∃k:Nat,k<=NB/\i=O aa k/\wr=w2) (λ_ i _=>NB-(intOf i).toNat)
 case atStart=>exact⟨0,ae,rfl,rfl⟩
 case round=>
  obtain⟨k,hk,rfl,hw⟩:=hrel;subst hw;by_cases aT:k<NB
  .have m5:=oC.m5;rw[HE.o] at m5;have fO:(k:Int)<(NB:Int):=ae;go_wp2_with fail;go_roundw
   case rel=>exact⟨k+1,ae,by go_num,trivial⟩
   case measure=>simp[intOf];omega
  .obtain rfl:k=NB:=ae;go_wp2_with fail;go_call(kK oC) as e w3 ⟨rfl,hb⟩;obtain⟨cO,FK,jZ,HV3⟩:=cr (df.aA hb) (oC.on hb) (ja.ah hb) (HV2.on hb);clear hb;go_wp2_with fail;go_call(Ie FK HO HX) as e w4 ⟨rfl,hb⟩;obtain⟨jM,HG4,kX,HV4⟩:=cr (cO.aA hb) (FK.on hb) (jZ.ah hb) (HV3.on hb);clear hb;generalize hrm:roomOf g=rm at*;have HRm:=ag hrm;clear hrm;go_wp2_with fail;go_call(kK HG4) as e w5 ⟨rfl,hb⟩;obtain⟨je,wS,HV5⟩:=cp (jM.aA hb) (kX.ah hb) (HV4.on hb);clear hb;go_wp2_with fail;go_call(XA (decide (8<=rm)) 8 a2 k c2 g.l w5 HV5 pK ae ae Vs) as e w6 ⟨rfl,hb⟩;obtain⟨ve,ql⟩:=cn (je.aA hb) (wS.ah hb);clear hb;generalize hac:Gc.next g.l 8 (decide (8<=rm))=ac at*
   obtain⟨kd,bn⟩:=ac;have HAc:=ag hac;clear hac;rw[show acV (kd,bn)= .agg #[O aa kd,O aa bn] from rfl];have k0:=ql.aj (i:=0) rfl;have k1:=ql.aj (i:=1) rfl;have f0:=ql.frozen 0;have f1:=ql.frozen 1;have hs:=(ql.set 0 (O aa kd)).set 1 (O aa bn);have q0:=hs.aj (i:=0) (v:=O aa kd) rfl;have q1:=hs.aj (i:=1) (v:=O aa bn) rfl;have xE:=ag ((ve.setCell (p:=⟨w.heap.size,0,none⟩) av (O aa kd)).setCell (p:=⟨w.heap.size,1,none⟩) av (O aa bn));clear hs;go_wp2_with fail;refine bodyPost_ret (v:= .agg #[O aa kd,O aa bn]) (by simp[results,Tryz.results281,go_sem,q0,q1]) rfl ⟨?_,xE.o⟩;rw[HRm.o,HAc.o];rfl
end
section
variable {NB B:Nat} {S:Nat->Prop} {w:World} {g:Mg}
theorem Hw (h:fF NB B S w g) {q} (hc:Gc.count 4 g.l=q) {r} (hr:g.res=r) (hb:g.bad=0) (h0:0<=r) (h1:r<=1000) (hq:q<=1000):
  Calls prog 149 #[g.M] w λe w'=>e=ar (O aa (r-q))/\Below w w w':=by
 obtain⟨HH,HR,sW,HC⟩:=cr h hr hb (λ(W:World) (hW:Below w w W)=>Ic 4 _ NB g.cap g.l W ((h.on hW).arr) h.nb);rw[hc] at HC;have i1:=bq (r-(q:Int)) ⟨ae,ae⟩;have i2:=bq (q:Int) ⟨ae,ae⟩;clear h hr hb hc
 go_in
 go_upto_region 3 with fail;have gZ:=ag (show Below w w w.drew from ak w);refine iE (λW'=>Below w w W') gZ.o (λaY=>?_);generalize w.drew=w1 at*;refine dw 0 g.M 0 ?_;refine aS 1 g.M 0 ?_;refine aS 2 g.M 3 ?_;refine jE 3 (O aa r) rfl (λ_ aK=>by have y9:=(HH.on aK).m3;rw[HR.o] at y9;go_simp) ?_;refine dw 4 g.M 0 ?_;refine aS 5 g.M 0 ?_;refine aS 6 g.M 1 ?_;refine kS 7 (an (g.ML,0) NB g.cap) (λ_ aK=>(HH.on aK).m1) ?_;refine dw 9 g.M 0 ?_;refine aS 10 g.M 0 ?_;refine aS 11 g.M 4 ?_;refine jE 12 (O aa 0) rfl (λ_ aK=>by have y9:=(HH.on aK).m4;rw[sW.o] at y9;go_simp) ?_;refine bY 8 (λK' hK=>?_);go_simp;go_call(HC.o w1 aY) as e w2 ⟨rfl,aZ⟩;have IA:=aY.aA aZ;clear aZ;refine hK.out _ _ IA (λdh=>?_)
 refine iR 13 (q:Int) ?_;refine iR 14 (r-(q:Int)) ?_;refine dI 15 (r-(q:Int)) ?_;refine eH ?_;have pG:=ag dh;clear aY dh IA;go_wp2_with fail;go_ret;exact⟨rfl,pG⟩
end
section
variable {NB B:Nat} {S:Nat->Prop} {w:World} {g:Mg} {F:Nat}
def acg g:=(if roomOf g=(Gc.count 0 g.l)*8 then 4 else 3)-(Gc.count 4 g.l:Int)
theorem TF (h:fF NB B S w g) (f0:w.cell? (F,0)=some (.pointer (g.C,0))) (f1:w.cell? (F,1)=some (.pointer (g.M,0))) (hc:Gc.count 4 g.l<=2) (hr:g.res=2) (hb:g.bad=0) (ho:g.opn= -1\/(0<=g.opn/\g.opn<NB)) (hx:(Gc.at_ g.l g.opn.toNat).nx<=8):
  Calls prog 279 #[F] w λe w'=>e=ar (aq (decide (acg g<=(Gc.count 0 g.l))))/\Below w w w':=by
 have HH:=ag h;have uF:=bB (Gc.count_le 0 g.l) (Nat.le_of_eq h.len);have pK:=h.nb;obtain⟨HL,HF0,UW,HRm,HFr⟩:=ct (Hw h (q:=Gc.count 4 g.l) rfl hr hb ae ae ae) f0 f1 (λ(W:World) (hW:Below w w W)=>Ie (h.on hW) ho hx) (λ(W:World) (hW:Below w w W)=>Ia (h.on hW));obtain⟨HGe,HWn⟩:=cn (λ(W:World) (hW:Below w w W)=>dQ (h.on hW).hc) (show acg g=(if roomOf g=(Gc.count 0 g.l:Int)*8 then 4 else 3)-(Gc.count 4 g.l:Int) from rfl);have qP:=aoe (O aa NB) (O aa 8) (O aa 64);have N8:=ag hc;clear h f0 hc hr hb ho hx;generalize acg g=wn at*;generalize roomOf g=rm at*;generalize Gc.count 0 g.l=q at*;generalize Gc.count 4 g.l=r at*;have PY:r<=2:=N8.o;have i1:=bq ((q:Int)*8) ⟨ae,ae⟩;have i2:=bq (2-(r:Int)+1) ⟨ae,ae⟩;have i3:=bq (2-(r:Int)+1+1) ⟨ae,ae⟩;clear PY
 go_in
 go_wp2_with fail;go_call HL as e w1 ⟨rfl,bP⟩;have bV:=ag bP;clear bP;go_upto_region 2 with fail;have gZ:=ag (show Below w w w1.drew from bV.aA (ak w1));refine iE (λW'=>Below w w W') gZ.o (λaY=>?_);generalize w1.drew=w2 at*;refine dw 0 F 0 ?_;refine aS 1 F 0 ?_;refine aS 2 F 1 ?_;refine kS 3 g.M (λ_ aK=>bu UW aK) ?_;refine dw 5 F 0 ?_;refine aS 6 F 0 ?_;refine aS 7 F 1 ?_;refine kS 8 g.M (λ_ aK=>bu UW aK) ?_;refine dw 10 F 0 ?_;refine aS 11 F 0 ?_;refine aS 12 F 0 ?_;refine kS 13 g.C (λ_ aK=>bu HF0 aK) ?_;refine bY 4 (λK' hK=>?_);go_simp;go_call(HRm.o w2 aY) as e w3 ⟨rfl,bJ⟩;have iZ:=aY.aA bJ;clear bJ;refine hK.out _ _ iZ (λqX=>?_)
 refine bY 9 (λK' hK=>?_);go_simp;go_call(HFr.o w3 qX) as e w4 ⟨rfl,eG⟩;have nZ:=qX.aA eG;clear eG;refine hK.out _ _ nZ (λqy=>?_)
 refine bY 14 (λK' hK=>?_);go_simp;go_call(HGe.o w4 qy) as e w5 ⟨rfl,eQ⟩;have qM:=qy.aA eQ;clear eQ;refine hK.out _ _ qM (λhS8=>?_)
 unfold uI;refine iR 15 8 ?_;refine iR 16 ((q:Int)*8) ?_;refine eX 17 (aq (rm==(q:Int)*8)) ?_;refine eH ?_;have BC:=ag hS8;have f5:=bu UW.o hS8;have awF:=ag (HFr.o w5 hS8);clear aY iZ qX nZ qy qM hS8 f1;by_cases e:rm=(q:Int)*8
 .rw[show(rm==(q:Int)*8)=true by rw[beq_iff_eq];exact e];have HE:=ag e;clear e;go_wp2_with fail;go_call awF as e w6 ⟨rfl,fJ⟩;have ve:=ag (BC.aA fJ);clear fJ;go_wp2_with fail;go_ret;exact⟨by rw[HWn.o,ev HE.o,show(4:Int)-(r:Int)=2-(r:Int)+1+1 by omega];rfl,ve⟩
 .rw[show(rm==(q:Int)*8)=false by rw[ew];exact e];have HE:=ag e;clear e;go_wp2_with fail;go_call awF as e w6 ⟨rfl,fJ⟩;have ve:=ag (BC.aA fJ);clear fJ;go_wp2_with fail;go_ret;exact⟨by rw[HWn.o,eo HE.o,show(3:Int)-(r:Int)=2-(r:Int)+1 by omega];rfl,ve⟩
end
def TG (cw:List Nat) (I:World->Prop):=∀W W' r,I W->W.grownBy W' r->(r=none\/∃c∈cw,r=some c)->I W'
def dR (cw:List Nat) (B:Nat) (I:World->Prop):=
 ∀W W' r,I W->W.grownBy W' r->(r=none\/(∃c∈cw,r=some c)\/∃g,r=some g/\B<=g/\∃o,W.heap[g]?=some o/\o.isCells=false)->I W'
def ahg {α:Type} (n0:Nat) (own:List Nat) (J Jx:List α->World->Prop) (pre:List α) (W:World) (e:Ending) W':=
 (e=ar (aq true)/\J pre W'/\Below n0 W W'/\∀q∈own,W'.heap[q]?=W.heap[q]?)\/(e=ar (aq false)/\Jx pre W')
def aoc {α} (P:Program) (gf:Nat) (lb:Array Value) (encs:α->Array Value) (xs:List α) (cw own:List Nat) n0 w:=
 ∀l J Jx W,Below w.heap.size w W->(∀pre,TG cw (J pre))->(∀pre,TG cw (Jx pre))->
  (∀pre x W1,J pre W1->(pre++[x])<+:xs->YieldAt Fence.wide 7 P l (encs x) W1 (ahg n0 own J Jx (pre++[x]) W1))->J [] W->
  CallsIn Fence.wide 8 P gf (#[.func (.yield l) #[] #[]]++lb) W λe W'=>(∃v,e=ar v)/\(J xs W'\/∃pre,pre<+:xs/\Jx pre W')
def alz {α:Type} (n0:Nat) (own:List Nat) (I:List α->World->Prop) (Ix:Code->List α->World->Prop) (pre:List α) (W:World):Exit->Act->World->Prop
 | .normal,_,W'=>KeepsOthers W W'/\Below n0 W W'/\(∀q∈own,W'.heap[q]?=W.heap[q]?)/\I pre W'
 | .ret,_,W'=>KeepsOthers W W'/\Ix .ret pre W'
 | .exit id,_,W'=>KeepsOthers W W'/\Ix (.exit id) pre W'
 | .goto t,_,W'=>KeepsOthers W W'/\Ix (.goto t) pre W'
 | .panic _,_,_=>False
 | .outgrown,_,_=>False
theorem dR.one {cw B I} (h:dR cw B I):TG cw I:=λW W' r hi hg hr=>h W W' r hi hg (by rcases hr with h|h;exact .inl h;exact .inr (.inl h))
theorem dR.alloc {cw B I} (h:dR cw B I) {W} o (hi:I W):I (W.alloc o):=
 h W _ none hi ⟨rfl,rfl,rfl,au,λk hk _=>Below.heap_alloc W o k hk⟩ (.inl rfl)
theorem dR.turn {cw B I} (h:dR cw B I) {W l o} o' (hl:B<=l) (hi:I W) (ho:W.heap[l]?=some o) (hc:o.isCells=false):I (W.putObj l o'):=
 h W _ (some l) hi (grownBy_putObj' W l o') (.inr (.inr ⟨l,rfl,hl,o,ho,hc⟩))
theorem ach {W W':World} {k r o} (h:W.heap[k]?=some o) (hg:W.grownBy W' r) (di:r≠some k):W'.heap[k]?=some o:=
 (hg.block k (oO h) (λe=>di e.symm)).trans h
theorem aaE {α P g ps assign body Q a w} {gf:Nat} {lb encs xs cw own n0 w0}
  (hg:a.eval g= .func (.func gf) #[] lb) (eg:∀args w,(callFunc gf args).run P w= .ok (.enter gf args) w) (wK:aoc P gf lb encs xs cw own n0 w0) (gu:Below w0 w0 w) (Gx:n0<=w) (hc:∀c∈own,c<w) (hcw:∀c∈cw,c∈own)
  (hps:∀x,(encs x).size=ps.size) I Ix (hI:∀pre,dR cw w (I pre)) (Xo:∀k pre,dR cw w (Ix k pre)) (h0:I [] w) (M:List α->α->Act->World->Prop) (hM:∀pre x a1,dR cw w (M pre x a1))
  (xy:∀l pre x W K,I pre W->(pre++[x])<+:xs->(∀a1 W',KeepsOthers W W'->Below n0 W W'->(∀q∈own,W'.heap[q]?=W.heap[q]?)->W<=W'.heap.size->M pre x a1 W'->K a1 W')->
   assign.wpIn (Fence.wide.inRound l) 7 P (Exit.then K (λ_ _ _=>False)) {tmps:=(ps.zip (encs x)).foldl (λt (p,v)=>t.setIfInBounds p v) a.tmps,defers:=[]} W)
  (LW:∀l pre x a1 W,M pre x a1 W->(pre++[x])<+:xs->body.wpIn (Fence.wide.inRound l) 7 P (alz n0 own I Ix (pre++[x]) W) a1 W)
  (LZ:∀D W,w.heap.size<=D->I xs W->W.heap[D]?=some (.deferred (some []))->Q .normal {a with defers:={target:= .collected D,args:=#[]}::a.defers} W)
  (Xp:∀D k pre W,w.heap.size<=D->pre<+:xs->Ix k pre W->W.heap[D]?=some (.deferred (some []))->k.wpIn Fence.wide 9 P Q {a with defers:={target:= .collected D,args:=#[]}::a.defers} W):
  (Code.rangeFunc g ps assign body).wpIn Fence.wide 9 P Q a w:=by
 refine wpIn_rangeFunc λfn hfn=>?_;obtain⟨D,hD⟩:=Iu w.heap.size;obtain⟨R,hR⟩:∃R:LoopState->Option Code->Loop,R=λst pe=>{state:=st,pending:=pe,fn,tmps:=a.tmps,params:=ps,assign,body,defers:=D}:=⟨_,rfl⟩
 have ag8:∀st pe st' pe',{R st pe with state:=st',pending:=pe'}=R st' pe':=by intros;rw[hR]
 obtain⟨V,hV⟩:=Iu ((w.alloc (.deferred (some []))).alloc (.loop (R .ready none)));have vl:V.heap[D+1]?=some (.loop (R .ready none)):=by have h:=World.alloc_heap_new (w.alloc (.deferred (some []))) (.loop (R .ready none));rw[bR,hD,hV] at h;exact h
 have vd:V.heap[D]?=some (.deferred (some [])):=by rw[<-hV,Below.heap_alloc _ _ _ (by rw[bR];omega),<-hD];exact World.alloc_heap_new w _
 have hIV:I [] V:=by rw[<-hV];exact(hI []).alloc _ ((hI []).alloc _ h0)
 have hbV:Below w0 w0 V:=by rw[<-hV];exact(gu.alloc gu.size _).alloc (by rw[bR];have:=gu.size;omega) _
 have uo:∀(A:World) (r:Loop) (jump:Option Code),A.heap[D+1]?=some (.loop r)->(A.putObj (D+1) (.loop {r with state:=if jump.isNone then .ready else .done,pending:=jump})).heap[D+1]?=some (.loop {r with state:=if jump.isNone then .ready else .done,pending:=jump}):=
  λA r jump h=>World.putObj_heap_same (oO h)
 refine⟨D+1,[{target:= .collected D,args:=#[]}],V,{target:= .fn (.func gf) lb,args:=#[.func (.yield (D+1)) #[] #[]]},V,gf,#[.func (.yield (D+1)) #[] #[]]++lb,V,?_,?_,λ_ _=>trivial,?_,Ed,?_⟩
 .have h:=run_enterLoop_outer (P:=P) (w:=w) fn a.tmps ps assign body;rw[hD] at h;rw[<-hV,hR];exact h
 .simp only[resolve,hg];simp[go_sem]
 .simp[invoke,go_sem,eg]
 .refine(wK (D+1) (λpre W=>I pre W/\W.heap[D+1]?=some (.loop (R .ready none))/\W.heap[D]?=some (.deferred (some [])))
   (λpre W=>∃k,Ix k pre W/\W.heap[D+1]?=some (.loop (R .done (some k)))/\W.heap[D]?=some (.deferred (some []))) V hbV ?_ ?_ ?_ ⟨hIV,vl,vd⟩).mono ?_
  .rintro pre A B r ⟨h1,h2,h3⟩ EX hr;have di:∀k,D<=k->r≠some k:=λk hk e=>by
    rcases hr with h|⟨c,BO,h⟩
    .rw[h] at e;cases e
    .rw[h] at e;injection e with e;have:=hc c (hcw c BO);omega
   exact⟨(hI pre).one A B r h1 EX hr,ach h2 EX (di _ ae),ach h3 EX (di _ ae)⟩
  .rintro pre A B r ⟨k,h1,h2,h3⟩ EX hr;have di:∀k,D<=k->r≠some k:=λk hk e=>by
    rcases hr with h|⟨c,BO,h⟩
    .rw[h] at e;cases e
    .rw[h] at e;injection e with e;have:=hc c (hcw c BO);omega
   exact⟨k,(Xo k pre).one A B r h1 EX hr,ach h2 EX (di _ ae),ach h3 EX (di _ ae)⟩
  .rintro pre x A ⟨hi,hl,hd⟩ iJ;refine⟨fn,_,assign,body,by have h:=run_yield (P:=P) (args:=encs x) hl (by rw[hR];exact hps x);rw[hR] at h;exact h,roundIn_of_wpIn hfn (xy _ pre x A _ hi iJ ?_)⟩;intro a1 A1 ko ab1 ac1 _ am;have al1:=ko.same _ _ hl rfl;have ad1:=ko.same _ _ hd rfl;refine⟨_,run_beginRound al1 (by rw[hR]),?_⟩;obtain⟨A2,Bg⟩:∃A2,A1.putObj (D+1) (.loop {R .ready none with state:= .busy})=A2:=⟨_,rfl⟩
   have al:A2.heap[D+1]?=some (.loop {R .ready none with state:= .busy}):=by rw[<-Bg];exact World.putObj_heap_same (oO al1)
   have ad:A2.heap[D]?=some (.deferred (some [])):=by rw[<-Bg];exact(cF ae).trans ad1
   have ac:∀q∈own,A2.heap[q]?=A.heap[q]?:=λq hq=>by rw[<-Bg];exact(cF (by have:=hc q hq;omega)).trans (ac1 q hq)
   have ab:Below n0 A A2:=by rw[<-Bg];exact ab1.trans (gW _ ae)
   have ai:M pre x a1 A2:=by rw[<-Bg];exact(hM pre x a1).turn _ ae am al1 rfl
   rw[Bg];refine wpIn_mono (LW _ pre x a1 A2 ai iJ) ?_;intro e a3 B hp
   cases e with
   |normal=>
    obtain⟨h1,h2,h3,h4⟩:=hp;have bl:=h1.same _ _ al rfl;have bd:=h1.same _ _ ad rfl;refine⟨_,_,run_endRound none bl,.inl ⟨rfl,⟨(hI _).turn _ ae h4 bl rfl,?_,(cF ae).trans bd⟩,(ab.trans h2).trans (gW _ ae),?_⟩⟩
    .rw[uo B _ none bl,hR];rfl
    .intro q hq;rw[cF (by have:=hc q hq;omega),h3 q hq,ac q hq]
   |ret=>
    obtain⟨h1,h4⟩:=hp;have bl:=h1.same _ _ al rfl;have bd:=h1.same _ _ ad rfl;refine⟨_,_,run_endRound (some .ret) bl,.inr ⟨rfl,.ret,(Xo _ _).turn _ ae h4 bl rfl,?_,(cF ae).trans bd⟩⟩;rw[uo B _ (some .ret) bl,hR];rfl
   |exit id=>
    obtain⟨h1,h4⟩:=hp;have bl:=h1.same _ _ al rfl;have bd:=h1.same _ _ ad rfl;refine⟨_,_,run_endRound (some (.exit id)) bl,.inr ⟨rfl,.exit id,(Xo _ _).turn _ ae h4 bl rfl,?_,(cF ae).trans bd⟩⟩;rw[uo B _ (some (.exit id)) bl,hR];rfl
   |goto t=>
    obtain⟨h1,h4⟩:=hp;have bl:=h1.same _ _ al rfl;have bd:=h1.same _ _ ad rfl;refine⟨_,_,run_endRound (some (.goto t)) bl,.inr ⟨rfl,.goto t,(Xo _ _).turn _ ae h4 bl rfl,?_,(cF ae).trans bd⟩⟩;rw[uo B _ (some (.goto t)) bl,hR];rfl
   |panic ch=>exact hp.elim
   |outgrown=>exact hp.elim
  .rintro e B ⟨⟨v,rfl⟩,h|⟨pre,iJ,k,h1,bl,bd⟩⟩
   .obtain⟨h1,bl,bd⟩:=h;refine⟨none,_,by have h:=run_endLoop (P:=P) bl (by rw[hR];simp);rw[hR] at h;exact h,?_⟩;exact LZ D _ ae ((hI _).turn _ ae h1 bl rfl) ((cF ae).trans bd)
   .refine⟨some k,_,by have h:=run_endLoop (P:=P) bl (by rw[hR];simp);rw[hR] at h;exact h,?_⟩;exact Xp D k pre _ ae iJ ((Xo k pre).turn _ ae h1 bl rfl) ((cF ae).trans bd)
theorem aF.aaF {g B t cs cw} (di:g∉cw):dR cw B (λW=>aF W g t cs):=λW W' r h hg hr=>by
 refine h.grown hg λe=>?_;subst e;rcases hr with h1|⟨c,hc,h1⟩|⟨g',h1,_,o,ho,uF⟩
 .cases h1
 .injection h1 with h1;subst h1;exact di hc
 .injection h1 with h1
  subst h1;unfold aF at h;rw[h] at ho;cases ho;cases uF
theorem TI {w n0 B cw} (hc:∀c∈cw,n0<=c) (hB:n0<=B) (hn:n0<=w.heap.size):dR cw B (λW=>Below n0 w W):=λW W' r h hg hr=>
 h.grown hg (bB hn h.size) (λk e=>by
  subst e;rcases hr with h1|⟨c,BO,h1⟩|⟨g,h1,h2,_⟩
  .cases h1
  .injection h1 with h1;subst h1;exact hc _ BO
  .injection h1 with h1;subst h1;omega)
theorem Xx {n B cw}:dR cw B (λW=>n<=W.heap.size):=λ_ _ _ h hg _=>bB h hg.size
theorem dR.and {cw B I J} (h:dR cw B I) (k:dR cw B J):dR cw B (λW=>I W/\J W):=λW W' r hi hg hr=>⟨h W W' r hi.1 hg hr,k W W' r hi.2 hg hr⟩
theorem dR.ex {α:Type} {cw B} {I:α->World->Prop} (h:∀x,dR cw B (I x)):dR cw B (λW=>∃x,I x W):=λW W' r ⟨x,hi⟩ hg hr=>⟨x,h x W W' r hi hg hr⟩
theorem dR.pure {cw B} p:dR cw B (λ_=>p):=λ_ _ _ h _ _=>h
section
variable {α:Type} {m:Nat} {f:α->List Value} {e:TypeId} {w:World} {base:Nat} {v:Value} {xs:List α}
theorem bQ.BX {g t cs} (h:bQ m f e w base v xs) (hb:aF w g t cs) (ht:e≠t):v.ownBlock≠some g:=by
 rcases h.2.2 with⟨rfl,_⟩|⟨g',cap,cur,rfl,_,hh,_⟩
 .intro e;cases e
 .intro he;have:g'=g:=by simpa[Value.ownBlock] using he
  subst this;unfold aF at hb;rw[hh] at hb;injection hb with hb
  injection hb with _ hb
  exact ht hb
end
end
section
open RowKit Shelf
attribute [local go_sem] Oper.semAt_some
def su l k:=(cz k).map λi=>(i,Gc.at_ l i)
theorem MH l k:su l (k+1)=su l k++[(k,Gc.at_ l k)]:=by simp[su,dz]
theorem ad2 l {k n} (h:k<n):su l k++[(k,Gc.at_ l k)]<+:su l n:=by
 rw[<-MH];have:(cz (k+1))<+:cz n:=by
  refine⟨(cz (n-(k+1))).map (k+1+·),?_⟩;rw[<-List.range_add]
  congr 1
  omega
 obtain⟨t,ht⟩:=this;exact⟨t.map λi=>(i,Gc.at_ l i),by unfold su;rw[<-cA,ht]⟩
def TJ (x:Nat×Bk):=#[O aa x.1,BZ x.2]
theorem ahh g NB C n0 w (hM:aF w g.M 283 (mgA NB g)) (hx:fP 4 Eh w n0 (g.ML,0) NB g.l) (hC:aF w C 221 #[g.M]) (Gx:n0<=w) (pK:NB<=1000):
  aoc prog 260 #[C] TJ (su g.l NB) [] [C] n0 w:=by
 intro lp J Jx W hW hJ hJx hY h0;obtain⟨HC,HM⟩:=cn (hC.ah hW) (hM.ah hW);have hsW:=bB Gx hW.size;obtain⟨HX,HY,HJ,H0⟩:=cr (hx.below (hW.mono Gx)) hY hJ h0;have c0:=HC.aj (i:=0) rfl;have m1:W.cell? (g.M,1)=some (an (g.ML,0) NB g.cap):=HM.aj rfl;have gm:=lg;clear hY hJ h0 hW hC hx hM;refine callsIn_of_wp Tryz.func260 rfl trivial ?_ rfl;simp only[Tryz.ntmps260,cU,cD,cV,Nat.reduceAdd,Nat.reduceSub,dT,ee,List.push_toArray,ef,cP,dj]
 gi_wp2
 gi_loopw [3,4,12] (λ_ _ i wr=>∃k:Nat,k<=NB/\i=O aa k/\aF wr C 221 #[.pointer (aw g.M 0)]/\fP 4 Eh wr n0 (aw g.ML 0) NB g.l/\n0<=wr.heap.size/\J (su g.l k) wr) (λ_ _ i _=>NB-(intOf i).toNat)
 case atStart=>exact⟨0,ae,rfl,HC,HX,hsW,H0⟩
 case round=>
  obtain⟨k,hk,rfl,hc,hx,iG,hj⟩:=hrel;obtain⟨UT,HC,HX⟩:=cp hj hc hx;clear hj hc hx;by_cases aT:k<NB
  .obtain⟨b,o,ha,gB,c0,c1,c2,c3⟩:=Hy HX.o (k:=k) aT;injection ha with ha
   injection ha with ha1 ha2
   subst ha1 ha2;rw[Nat.zero_add] at c0 c1 c2 c3;have WA:(0:Int)<=(k:Int):=ae;have fO:(k:Int)<(NB:Int):=ae;obtain⟨HD,iJ⟩:=cn (MH g.l k) (ad2 g.l (k:=k) (n:=NB) aT);have fM:=(aE wr wr).alloc av (.cells #[O aa ((Gc.at_ g.l k).st),O aa ((Gc.at_ g.l k).live),O aa ((Gc.at_ g.l k).aC),O aa ((Gc.at_ g.l k).nx)] 296);have hj2:=HJ.o _ _ _ none UT.o (show wr.grownBy (wr.alloc (.cells #[O aa ((Gc.at_ g.l k).st),O aa ((Gc.at_ g.l k).live),O aa ((Gc.at_ g.l k).aC),O aa ((Gc.at_ g.l k).nx)] 296)) none from⟨rfl,rfl,rfl,au,λq hq _=>fM.block q hq⟩) (.inl rfl);obtain⟨HC2,NK,qN⟩:=cp (HC.ah fM) (HX.below (fM.mono iG)) (bB iG fM.size);obtain⟨fn,tmps,assign,body,hy,hR⟩:=HY.o (su g.l k) (k,Gc.at_ g.l k) _ hj2 iJ.o;unfold TJ BZ at hy;clear fM hj2;generalize Gc.at_ g.l k=x at*
   gi_wp2
   refine hR.mono ?_;rintro e W3 (⟨rfl,hJ3,bJ,xM⟩|⟨rfl,af0⟩)
   .obtain⟨HC5,Fq,HS5,uZ⟩:=cr ((xM C au).trans HC2) (NK.below bJ) (bB qN bJ.size) hJ3;clear hJ3 bJ xM hy hR c0 c1 c2 c3
    gi_wp2
    go_roundw
    case rel=>exact⟨k+1,ae,by go_num,HC5,Fq,HS5,by rw[HD.o];exact uZ.o⟩
    case measure=>simp[intOf];omega
   .gi_wp2
    refine bodyPost_ret (results_none rfl _ _ _) rfl ?_;exact⟨⟨_,rfl⟩,.inr ⟨_,iJ.o,af0⟩⟩
  .obtain rfl:k=NB:=ae
   gi_wp2
   go_end0;exact⟨⟨_,rfl⟩,.inl UT⟩
theorem awx (M:Nat) w:
  Calls prog 226 #[M] w λe w'=>e=ar (.func (.func 260) #[] #[.pointer (aw w 0)])/\w.alloc (.cells #[.pointer (aw M 0)] 221)=w':=by
 go_in
 go_wp2;go_ret;exact⟨rfl,rfl⟩
end
section
open RowKit
def pW (x:Bool):Value:=aq x
theorem alA x:pW x=aq x:=rfl
def naV (x:Nat):Value:=O aa x
theorem aqU x:naV x=O aa x:=rfl
theorem MI {w ops o ac Q cs K E} (mF:o.guard=none) s x (ho:o.op= .call {callee:= .builtin .append,args:=#[s,x],argTypes:=#[281,281]})
  base v xs (hs:ac.eval s=v) (bz:bQ 4 Eh 296 w base v xs) y g (hx:ac.eval x=an (g,0) 1 1) (hg:g=w.heap.size) (gm:cs=(Eh y).toArray) (hlen:xs.length<=1000000) (dE:base<=w)
  (h:∀v' w',Hid (bQ 4 Eh 296 w' base v' (xs++[y]))->Hid ((w.alloc (.cells cs 296)).grownBy w' v.ownBlock)->K (ac.put o.dst v') w'):if Region.wanted o (yielded ops ac.tmps)=true then Oper.wp prog o ac (w.alloc (.cells cs 296)) K Q else E:=by
 have hw:Region.wanted o (yielded ops ac.tmps)=true:=by simp[Region.wanted,mF]
 rw[ev hw];subst hg;obtain⟨i0,hi,qm,tZ,tu⟩:=info_parts ahi;exact rf s x 281 ho base 296 i0 _ 32 Tryz.underlying281 hi qm tZ tu rfl aB ahj v xs hs (bz.alloc _) _ _ 1 1 [y] hx (fP.ajQ w 296 y gm) ae (by simp only[maxLen];omega) (by simp;omega) λv' w' h1 h2 _=>
  h v' w' (ag h1) (ag h2)
def yQ (x:Pb) (fr:Bool) (n:Nat):Bk:=if x.bad then⟨4,0,x.aC,0⟩ else if fr then⟨0,0,x.aC,0⟩ else if 0<n then⟨2,n,x.aC,0⟩ else⟨3,0,x.aC,0⟩
def bW (bl:Nat->Pb) (fr:List Bool) (lv:List Nat) k:=(cz k).map λi=>yQ (bl i) (fr.getD i false) (lv.getD i 0)
theorem aaG bl fr lv k:bW bl fr lv (k+1)=bW bl fr lv k++[yQ (bl k) (fr.getD k false) (lv.getD k 0)]:=by simp[bW,dz]
def Opened (NB B:Nat) (S:Nat->Prop) (w:World) (C BL:Nat) (ps:Nat->Nat) (bl:Nat->Pb) (fr:List Bool) (lv:List Nat) (res bad:Nat) (e:Ending) w':=
 ∃M ML cap,e=ar (ao #[.pointer (some ⟨M,0,none⟩),O aa 0])/\w<=M/\w.heap.size<=ML/\
   fF NB B S w' ⟨M,ML,C,BL,cap,ps,bl,bW bl fr lv NB,-1,res,bad,decide (4<(Gc.greatest (bW bl fr lv NB):Int)-Gc.least (bW bl fr lv NB)),λ_=>True⟩/\Below w w w'
theorem Cc x fr n:(yQ x fr n).aC=x.aC:=by
 unfold yQ
 split
 .rfl
 .split
  .rfl
  .split<;>rfl
theorem yV bl fr lv {k i} (hi:i<k):Gc.at_ (bW bl fr lv k) i=yQ (bl i) (fr.getD i false) (lv.getD i 0):=by rw[Gc.at_,db,bW,List.getElem?_map,List.getElem?_range hi];rfl
theorem QA {l o b n} (h:∀i,i<n->(Gc.at_ l i).aC<=b) (ho:∀k,o=some k->k<n):Gc.MJ l o<=b:=by
 cases o with
 |none=>exact bN _
 |some k=>exact h k (ho k rfl)
section
variable {NB B C BL:Nat} {S:Nat->Prop} {w:World} {ps:Nat->Nat} {bl:Nat->Pb}
def OpI (GB M NB C:Nat) (res bad:Nat) (bl:Nat->Pb) (fr:List Bool) (lv:List Nat) (w:World) (k:Nat) (W:World):=
 ∃v,aF W GB 60 #[O aa NB,O aa 8,O aa 64]/\aF W M 283 #[.pointer (aw C 0),v,O aa (-1),O aa res,O aa bad,aq false]/\bQ 4 Eh 296 W w v (bW bl fr lv k)/\Below w w W
theorem Ha (h:eu NB B S w C BL ps bl) (hN:0<NB) (pK:NB<=1000) (hw:∀k,k<NB->(bl k).aC<=1099511627776) af cf fr (hf:jq pW w w af NB fr) al cl lv (hl:jq naV w w al NB lv) (Ho:∀k,k<NB->lv.getD k 0<=8/\(fr.getD k false=true->lv.getD k 0=0)) (res bad:Nat):
  Calls prog 168 #[C,an af NB cf,an al NB cl,O aa res,O aa bad] w (Opened NB B S w C BL ps bl fr lv res bad):=by
 obtain⟨HU,HG,HH,HF,HL⟩:=ct (rq h) (dQ h) h hf hl;obtain⟨HV,HW⟩:=cn Ho hw;have Vg:=hf.len;have hll:=hl.len;have aT:=h.ltC;have d1:decide ((res:Int)<0)=false:=ey ae;have d2:decide ((bad:Int)<0)=false:=ey ae;clear h hf hl Ho hw
 go_in
 go_wp2_with fail;refine(HU).cj ?_;go_wp2_with fail;go_call HG as e w1 ⟨rfl,hb⟩;have hgk:=aF.new w1 60 #[O aa NB,O aa 8,O aa 64];have hbg:=(aE w1 w1).alloc av (.cells #[O aa NB,O aa 8,O aa 64] 60);have q0:=hgk.aj (i:=0) (v:=O aa NB) rfl;have nH:=hgk.alloc (.cells #[C,an none 0 0,O aa (-1),O aa res,O aa bad,aq false] 283);have EY:=aF.new (w1.alloc (.cells #[O aa NB,O aa 8,O aa 64] 60)) 283 #[C,an none 0 0,O aa (-1),O aa res,O aa bad,aq false];have aZ:=(hb.aA hbg).alloc (bB hb.size hbg.size) (.cells #[C,an none 0 0,O aa (-1),O aa res,O aa bad,aq false] 283);rw[bR] at EY;obtain⟨df,oC,JB,pG⟩:=cr aZ nH EY hb.size;clear hb hgk hbg nH EY aZ;unfold uI;go_wp2_with fail;clear q0;generalize jT:(w1.alloc (.cells #[O aa NB,O aa 8,O aa 64] 60)).alloc (.cells #[C,an none 0 0,O aa (-1),O aa res,O aa bad,aq false] 283)=w2 at*;clear jT;generalize hMe:w1.heap.size+1=M at*;generalize hGe:w1.heap.size=GB at*;have HMe:=ag hMe;clear hGe hMe
 go_loopw [14,15,16,53] (λ_ _ _ i wr=>∃k:Nat,k<=NB/\i=O aa k/\OpI GB M NB C res bad bl fr lv w k wr) (λ_ _ _ i _=>NB-(intOf i).toNat)
 case atStart=>exact⟨0,ae,rfl,an none 0 0,oC,JB,bQ.nil ahk _ _,df⟩
 case round=>
  obtain⟨k,hk,rfl,v,hg,hm,ho,hb⟩:=hrel;obtain⟨HGr,HMr,HOr,kT⟩:=cr hg hm ho hb;clear hg hm ho hb;by_cases pM:k<NB
  .obtain⟨b1,o1,fO,rfl,Wh,BO⟩:=(HL.below kT).YJ pM;obtain⟨b2,o2,eU,rfl,aCW,Dw⟩:=(HF.below kT).YJ pM;have hnv:=HV.o k pM;have e1:lv[k]=lv.getD k 0:=by rw[db,cX fO];rfl
   have e2:fr[k]=fr.getD k false:=by rw[db,cX eU];rfl
   rw[e1,aqU] at BO;rw[e2,alA] at Dw;have HSu:=ag (aaG bl fr lv k);clear e1 e2;generalize lv.getD k 0=n at*;generalize fr.getD k false=f at*;obtain⟨hn8,hfn⟩:=hnv;have gc1:=HGr.aj (i:=1) (v:=O aa 8) rfl;have k0:(0:Int)<=(k:Int):=ae;have k1:(k:Int)<(NB:Int):=ae;have d3:decide ((n:Int)<0)=false:=ey ae;have d4:decide ((8:Int)<(n:Int))=false:=ey ae;have HFn:=ag hfn;clear hfn;go_upto_region 12 with fail
   go_cut [75] (λv wx=>v=aq false/\wr=wx)
   case first=>
    cases f
    .go_wp2_with fail;go_meet;exact⟨rfl,rfl⟩
    .obtain rfl:n=0:=HFn.o rfl;go_wp2_with fail;go_meet;exact⟨rfl,rfl⟩
   case rest=>
    obtain⟨rfl,hw⟩:=hcut;subst hw;have HCr:=ag (HH.on kT);obtain⟨JM,zI,OG⟩:=cp (mJ HCr pM) (oV (HCr.on ((aE wr wr).alloc av (.cells #[O aa 3,O aa 0,O aa ((bl k).aC),O aa 0] 296))) pM) (aF.new wr 296 #[O aa 3,O aa 0,O aa ((bl k).aC),O aa 0]);have aCX:=bu Dw ((aE wr wr).alloc av (.cells #[O aa 3,O aa 0,O aa ((bl k).aC),O aa 0] 296));obtain⟨cO,YO⟩:=cn ((aE wr wr).alloc av (.cells #[O aa 3,O aa 0,O aa ((bl k).aC),O aa 0] 296)) (show yQ (bl k) f n=if (bl k).bad then⟨4,0,(bl k).aC,0⟩ else if f then⟨0,0,(bl k).aC,0⟩ else if 0<n then⟨2,n,(bl k).aC,0⟩ else⟨3,0,(bl k).aC,0⟩ from rfl);clear gc1 d3 d4 BO;generalize (bl k).aC=we at*;generalize (bl k).bad=bd at*;go_wp2_with fail;refine JM.cj ?_;go_upto_block 3 with fail;clear Dw;generalize Zv:wr.alloc (.cells #[O aa 3,O aa 0,O aa we,O aa 0] 296)=w3 at*;generalize jf:wr.heap.size=gb at*;have HW3:=ag Zv;clear Zv
    go_cut [] (λwx=>aF wx gb 296 (vF (yQ (bl k) f n))/\Below gb wr wx)
    case first=>
     have a0:=OG.aj (i:=0) (v:=O aa 3) rfl;have z0:=OG.frozen 0;cases bd
     .cases f
      .by_cases Gx:0<n
       .have dn:decide ((0:Int)<(n:Int))=true:=ez ae;have a1:=OG.aj (i:=1) (v:=O aa 0) rfl;have z1:=OG.frozen 1;have hs:=(OG.set 0 (O aa 2)).set 1 (O aa n);obtain⟨WB,Zx⟩:=cn hs ((cO.setCell (p:=⟨gb,0,none⟩) av (O aa 2)).setCell (p:=⟨gb,1,none⟩) av (O aa n));clear hs;go_wp2_with fail;refine zI.cj ?_;go_wp2_with fail;go_meet;refine⟨?_,Zx⟩;rw[YO.o,eo au,eo au,ev Gx];exact WB.o
       .obtain rfl:n=0:=ae;go_wp2_with fail;refine zI.cj ?_;go_wp2_with fail;go_meet;refine⟨?_,cO⟩;rw[YO.o,eo au,eo au,eo au];exact OG.o
      .have hs:=OG.set 0 (O aa 0);obtain⟨WB,Zx⟩:=cn hs (cO.setCell (p:=⟨gb,0,none⟩) av (O aa 0));clear hs;go_wp2_with fail;refine zI.cj ?_;go_wp2_with fail;go_meet;refine⟨?_,Zx⟩;rw[YO.o,eo au,ev trivial];exact WB.o
     .have hs:=OG.set 0 (O aa 4);obtain⟨WB,Zx⟩:=cn hs (cO.setCell (p:=⟨gb,0,none⟩) av (O aa 4));clear hs;go_wp2_with fail;refine zI.cj ?_;go_wp2_with fail;go_meet;refine⟨?_,Zx⟩;rw[YO.o,ev trivial];exact WB.o
    case rest=>
     obtain⟨oQ,eG⟩:=hcut;generalize hye:yQ (bl k) f n=y at*;have QB:=HMr.below eG (by rw[<-jf];exact HMr.lt);have hg4:=HGr.below eG (by rw[<-jf];exact HGr.lt);have FU:=HOr.below eG (by rw[jf];exact bp _);have EO:=ag (show v.ownBlock≠some gb from λe=>by have:=(HOr.aN _ e).2;omega);have aCY:=eG.size;have G9:=ag jf;have NG:=kT.size;obtain⟨Ql,yF,Gs,HY5,je⟩:=ct (QB.drew) (hg4.drew) (FU.drew) (oQ.drew) ((kT.trans (eG.mono ae)).drew);obtain⟨O9,Fj,HMw,HGM⟩:=cr (show w.heap.size<=wc.drew.heap.size from bB NG (by show wr.heap.size<=wc.heap.size;omega)) (show(bW bl fr lv k).length=k by simp[bW]) (show w.heap.size<=M by have:=HMe.o;have:=pG.o;omega) (show GB≠M from λe=>by have h1:=HGr.o;have h2:=HMr.o;rw[e] at h1;unfold aF at h1 h2;rw[h1] at h2;injection h2 with h2;injection h2 with _ h2;exact absurd h2 aB);have cc1:=Ql.aj (i:=1) rfl;clear QB hg4 FU oQ eG aCY NG YO JM zI OG cO hye aCX HW3;go_upto_region 21 with fail;refine iE (λW'=>aF W' gb 296 y) HY5.o (λaY=>?_);generalize wc.drew=w5 at*;refine dw 0 M 0 ?_;refine dw 1 M 0 ?_;refine aS 2 M 0 ?_;refine aS 3 M 1 ?_;refine jE 5 (.agg y) rfl (λ_ aK=>by have y0:=aK.aj (i:=0) rfl;have y1:=aK.aj (i:=1) rfl;have y2:=aK.aj (i:=2) rfl;have y3:=aK.aj (i:=3) rfl;go_simp) ?_;refine wpAnyH_ready (rs:=[4,6]) az au ?_;refine bX rfl (λK' hK=>?_) (bX rfl (λK' hK=>?_) cN)
     .go_simp;refine hK.out _ _ aY (λdh=>?_)
      refine bY 6 (λK' hK=>?_);go_simp;refine hK.out _ _ (dh.alloc _) (λfE=>?_)
      clear dh fE;refine bY 7 (λK' hK=>?_);refine MI (w:=w5) (cs:=y) rfl (.tmp 101) (.tmp 103) rfl w _ (bW bl fr lv k) rfl Gs.o y w5 rfl rfl rfl (by rw[Fj.o];omega) O9.o ?_;intro v7 w7 uB HG7;obtain⟨a7,c7,rfl,_⟩:=uB.bG (n:=k+1) (by rw[bE,Fj.o];rfl);obtain⟨x8,HG8,yh,nY⟩:=cr ((Ql.alloc (.cells y 296)).grown HG7 (λe=>Gs.BX Ql aB e.symm)) ((yF.alloc (.cells y 296)).grown HG7 (λe=>Gs.BX yF aB e.symm)) ((HY5.alloc (.cells y 296)).grown HG7 (λe=>EO.o e.symm)) ((je.alloc O9 (.cells y 296)).grown HG7 (by rw[bR];have:=O9.o;omega) (λq hq=>(Gs.aN q hq).1));have e1:=x8.aj (i:=1) rfl;have z1:=x8.frozen 1;refine hK.out _ _ yh.o (λnZ=>?_)
      refine aS 8 M 0 ?_;refine aS 9 M 1 ?_;have ahm:gb≠M:=by have:=HMr.lt;have:=G9.o;omega
      refine bY 10 (λK' hK=>?_);go_simp;refine hK.out _ _ (yh.far (p:=⟨M,1,none⟩) ahm _) (λqy=>?_)
      refine eH ?_;obtain⟨HMf,HGf,HOf,xE⟩:=cr (x8.set 1 (an a7 (k+1) c7)) (HG8.far (p:=⟨M,1,none⟩) (by have:=HGM.o;simpa using this) (an a7 (k+1) c7)) (uB.far (p:=⟨M,1,none⟩) (uB.BX x8 aB) (an a7 (k+1) c7)) (nY.setCell (p:=⟨M,1,none⟩) HMw (an a7 (k+1) c7));clear aY nZ qy e1 z1 ahm;go_wp2_with fail;go_roundw
      case rel=>exact⟨k+1,ae,by go_num,_,HGf,HMf,by rw[HSu.o];exact HOf.o,xE⟩
      case measure=>simp[intOf];omega
     .go_simp;refine hK.out _ _ (aY.alloc _) (λdh=>?_)
      have cc2:=bu cc1 ((aE w5 w5).alloc av (.cells y 296));refine bY 4 (λK' hK=>?_);go_simp;refine hK.out _ _ dh (λfE=>?_)
      clear dh fE;refine bY 7 (λK' hK=>?_);refine MI (w:=w5) (cs:=y) rfl (.tmp 101) (.tmp 103) rfl w _ (bW bl fr lv k) rfl Gs.o y w5 rfl rfl rfl (by rw[Fj.o];omega) O9.o ?_;intro v7 w7 uB HG7;obtain⟨a7,c7,rfl,_⟩:=uB.bG (n:=k+1) (by rw[bE,Fj.o];rfl);obtain⟨x8,HG8,yh,nY⟩:=cr ((Ql.alloc (.cells y 296)).grown HG7 (λe=>Gs.BX Ql aB e.symm)) ((yF.alloc (.cells y 296)).grown HG7 (λe=>Gs.BX yF aB e.symm)) ((HY5.alloc (.cells y 296)).grown HG7 (λe=>EO.o e.symm)) ((je.alloc O9 (.cells y 296)).grown HG7 (by rw[bR];have:=O9.o;omega) (λq hq=>(Gs.aN q hq).1));have e1:=x8.aj (i:=1) rfl;have z1:=x8.frozen 1;refine hK.out _ _ yh.o (λnZ=>?_)
      refine aS 8 M 0 ?_;refine aS 9 M 1 ?_;have ahm:gb≠M:=by have:=HMr.lt;have:=G9.o;omega
      refine bY 10 (λK' hK=>?_);go_simp;refine hK.out _ _ (yh.far (p:=⟨M,1,none⟩) ahm _) (λqy=>?_)
      refine eH ?_;obtain⟨HMf,HGf,HOf,xE⟩:=cr (x8.set 1 (an a7 (k+1) c7)) (HG8.far (p:=⟨M,1,none⟩) (by have:=HGM.o;simpa using this) (an a7 (k+1) c7)) (uB.far (p:=⟨M,1,none⟩) (uB.BX x8 aB) (an a7 (k+1) c7)) (nY.setCell (p:=⟨M,1,none⟩) HMw (an a7 (k+1) c7));clear aY nZ qy e1 z1 ahm;go_wp2_with fail;go_roundw
      case rel=>exact⟨k+1,ae,by go_num,_,HGf,HMf,by rw[HSu.o];exact HOf.o,xE⟩
      case measure=>simp[intOf];omega
  .obtain rfl:k=NB:=ae;have hlen:(bW bl fr lv k).length=k:=by simp[bW]
   obtain⟨ML,cap,rfl,pR,UZ,aKl⟩:=HOr.jh (by rw[hlen];exact hN);rw[hlen] at HMr HOr pR;have hg:fF k B S wr ⟨M,ML,C,BL,cap,ps,bl,bW bl fr lv k,-1,res,bad,false,λ_=>True⟩:=⟨HMr,HOr.mono (bN _),HH.on kT,λe=>HOr.BX HMr aB (by rw[show M=ML from e];rfl),λhs=>by have h1:M<w.heap.size:=HH.hi _ hs;have:=HMe.o;have:=pG.o;omega,λhs=>by have h1:ML<w.heap.size:=HH.hi _ hs;omega,by have:=HH.base;have:=HMe.o;have:=pG.o;show B<=M;omega,by have:=HH.base;show B<=ML;omega,pK⟩
   obtain⟨HGm,EX,hls,awy⟩:=cr hg (λ(W:World) (hW:Below wr wr W)=>MK (aw ML 0) k cap _ W ((hg.on hW).arr) pK) (λ(W:World) (hW:Below wr wr W)=>Hz (aw ML 0) k cap _ W ((hg.on hW).arr) pK) (show w.heap.size<=M by have:=HMe.o;have:=pG.o;omega);have m1:=(hg.on (ak wr)).m1;simp only at m1;have hwl:∀i,i<k->(Gc.at_ (bW bl fr lv k) i).aC<=1099511627776:=λi hi=>by rw[yV _ _ _ hi,Cc];exact HW.o i hi
   have aKn:Gc.greatest (bW bl fr lv k)<=1099511627776:=QA hwl λq hq=>by have:=(Gc.gU hq).1;omega
   have aKo:Gc.least (bW bl fr lv k)<=1099511627776:=QA hwl λq hq=>by have:=(Gc.gU hq).1;omega
   clear hwl;clear hg;generalize awz:Gc.greatest (bW bl fr lv k)=gr at*;generalize awC:Gc.least (bW bl fr lv k)=ls at*;obtain⟨HE1,HE2⟩:=cn awz awC;clear awz awC;have i1:=bq ((gr:Int)-ls) ⟨ae,ae⟩;go_upto_region 23 with fail;have HD0:=ag (show Below wr wr wr.drew from ak wr);refine iE (λW'=>W'.cell? (aw M 1)=some (an (aw ML 0) k cap)) m1 (λaY=>?_);generalize wr.drew=w5 at*;refine dw 0 M 0 ?_;refine dw 1 M 0 ?_;refine aS 2 M 0 ?_;refine aS 3 M 1 ?_;refine eX 4 (an (ML,0) k cap) ?_;refine dw 6 M 0 ?_;refine aS 7 M 0 ?_;refine aS 8 M 1 ?_;refine eX 9 (an (ML,0) k cap) ?_;refine bY 5 (λK' hK=>?_);go_simp;go_call(EX.o w5 HD0) as e w6 ⟨rfl,fJ⟩;have HD6:=ag (HD0.aA fJ);have m6:=bu aY fJ;clear fJ;refine hK.out _ _ m6 (λdh=>?_)
   refine bY 10 (λK' hK=>?_);go_simp;go_call(hls.o w6 HD6) as e w7 ⟨rfl,jr⟩;have VK:=ag (HD6.aA jr);have m7:=bu m6 jr;clear jr;refine hK.out _ _ m7 (λfE=>?_)
   refine iR 11 ((gr:Int)-ls) ?_;refine eX 12 (aq (decide (4<(gr:Int)-ls))) ?_;refine aS 13 M 0 ?_;refine aS 14 M 5 ?_;have hg7:=HGm.on VK.o;have m5:=hg7.m5;have z5:=hg7.ad3 5;simp only at m5 z5;have HF7:=ag (hg7.aC1 (decide (4<(gr:Int)-ls)));have m8:=HF7.m1;simp only at m8;have nY:=ag ((kT.aA VK).setCell (p:=⟨M,5,none⟩) awy (aq (decide (4<(gr:Int)-ls))));clear hg7;refine bY 15 (λK' hK=>?_);go_simp;refine hK.out _ _ m8 (λiZ=>?_)
   refine eH ?_;clear aY dh fE iZ m1 m6 m7 m5 z5 m8;go_wp2_with fail;go_ret2;refine⟨M,ML,cap,rfl,awy,UZ,?_,nY⟩;rw[HE1.o,HE2.o];exact HF7.o
end
end
end Go.Proofs.YtnieckfelfoopaaGreat

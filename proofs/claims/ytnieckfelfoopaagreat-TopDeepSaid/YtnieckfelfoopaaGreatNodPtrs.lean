import Derived.Test.YtnieckfelfoopaaGreatInoPoint
import Derived.Test.YtnieckfelfoopaaGreatPolAlloc
import Derived.Test.YtnieckfelfoopaaGreatKeysIt
import Derived.OwnWalkIn
import Derived.TacticsInMore
import Derived.LoopNIn
import Derived.LoopIn
import Derived.BigRegionIn
import Derived.Sort.BigQuietIn
import Derived.OrdersIn
import Derived.OrdersHeld
import Derived.Deep.RegionHeld3
import Derived.Deep.DeepCutAuto
import Derived.Deep.CutBlock
import Derived.Deep.CutRange
import Derived.WalkMore
open Go.Proofs.Tryz (prog)
namespace Go.Proofs.YtnieckfelfoopaaGreat
open Lib (hid)
set_option maxRecDepth 100000
set_option maxHeartbeats 16000000
section
namespace zJ

inductive Rl where
 |dat (n:Nat)
 |ptr (m:Nat)
deriving DecidableEq
open Rl
def kid (m j:Nat):Rl:=if m=0 then dat (6+j) else if m=1 then ptr (2+j) else dat (38+32*(m-2)+j)
def ups (n:Nat):List Nat:=if n<6 then[] else if n<38 then[0] else[1,2+(n-38)/32]
structure Io where
 d:List Nat
 s:Nat
 b:Nat
def sS (ds:List (List UInt8)) (p:Nat):List UInt8:=ds.getD (p-2) []
structure Rp (rs:List Rl) (L:Rl->Nat) (ds:List (List UInt8)) (io:Io):Prop where
 len:ds.length=rs.length
 nod:rs.Nodup
 dl:io.d.length=6
 rd:∀n,dat n∈rs->n<1062
 rp:∀m,ptr m∈rs->m<34
 sz:∀x∈ds,x.length=64
 lnk:∀r,L r≠0->∃i,rs[i]?=some r/\L r=i+2
 pt:∀i m,rs[i]?=some (ptr m)->∀j,j<32->Pt.two (ds.getD i []) j=L (kid m j)
 d:∀k,k<6->io.d.getD k 0=L (dat k)
 s:io.s=L (ptr 0)
 b:io.b=L (ptr 1)
variable {rs:List Rl} {L:Rl->Nat} {ds:List (List UInt8)} {io:Io}
structure Rep (rs:List Rl) (L:Rl->Nat) (ds:List (List UInt8)) (io:Io):Prop where
 rp:Rp rs L ds io
 all:∀r∈rs,L r≠0
 up:∀n,L (dat n)≠0->∀m∈ups n,L (ptr m)≠0
 dn:∀m,L (ptr m)≠0->∃n,L (dat n)≠0/\m∈ups n
theorem Rep.zero:Rep [] (λ_=>0) [] ⟨[0,0,0,0,0,0],0,0⟩:=by
 refine⟨⟨rfl,List.nodup_nil,rfl,λn h=>?_,λn h=>?_,λx h=>?_,λr h=>absurd rfl h,λi m h=>?_,λk hk=>?_,rfl,rfl⟩,λr h=>?_,λn h=>absurd rfl h,λn h=>absurd rfl h⟩
 ·cases h
 ·cases h
 ·cases h
 ·simp at h
 ·obtain h|h|h|h|h|h:k=0\/k=1\/k=2\/k=3\/k=4\/k=5:=ae
  all_goals (subst h;rfl)
 ·cases h
def ptP (ds:List (List UInt8)) (p k:Nat):Nat:=if p=0 then 0 else Pt.two (sS ds p) k
def CS (ds:List (List UInt8)) (io:Io) (n:Nat):Nat:=if n<6 then io.d.getD n 0 else if n<38 then ptP ds io.s (n-6) else ptP ds (ptP ds io.b ((n-38)/32)) ((n-38)%32)
theorem Rp.ptr (h:Rp rs L ds io) {m j:Nat} (hm:L (ptr m)≠0) (hj:j<32):ptP ds (L (ptr m)) j=L (kid m j):=by obtain⟨i,hi,e⟩:=h.lnk _ hm;unfold ptP sS;rw[if_neg hm,e,Nat.add_sub_cancel];exact h.pt i m hi j hj
theorem Rep.mid (h:Rep rs L ds io) {a:Nat} (ha:L (Rl.ptr (2+a))≠0):L (Rl.ptr 1)≠0:=by
 obtain⟨n,h1,h2⟩:=h.dn _ ha;refine h.up n h1 1 ?_;unfold ups at h2⊢
 split
 ·rename_i h3;rw[if_pos h3] at h2;cases h2
 ·rename_i h3;rw[if_neg h3] at h2
  split
  ·rename_i h4;rw[if_pos h4] at h2;have:=List.mem_singleton.1 h2;omega
  ·simp
theorem Rep.av9 (h:Rep rs L ds io) {a:Nat} (ha:a<32):ptP ds io.b a=L (Rl.ptr (2+a)):=by
 rw[h.rp.b];by_cases h1:L (Rl.ptr 1)=0
 ·rw[h1];by_cases h2:L (Rl.ptr (2+a))=0
  ·rw[h2];rfl
  ·exact absurd h1 (h.mid h2)
 ·rw[h.rp.ptr h1 ha];rfl
theorem Rep.at_ (h:Rep rs L ds io) {n:Nat} (hn:n<1062):CS ds io n=L (dat n):=by
 unfold CS;by_cases h6:n<6
 ·rw[if_pos h6];exact h.rp.d n h6
 rw[if_neg h6];by_cases h38:n<38
 ·rw[if_pos h38,h.rp.s];by_cases h1:L (Rl.ptr 0)=0
  ·rw[h1];by_cases h2:L (dat n)=0
   ·rw[h2];rfl
   ·exact absurd h1 (h.up n h2 0 (by unfold ups;rw[if_neg h6,if_pos h38];simp))
  ·rw[h.rp.ptr h1 ae];unfold kid;rw[if_pos rfl,show 6+(n-6)=n by omega]
 ·rw[if_neg h38,h.av9 ae];by_cases h1:L (Rl.ptr (2+(n-38)/32))=0
  ·rw[h1];by_cases h2:L (dat n)=0
   ·rw[h2];rfl
   ·exact absurd h1 (h.up n h2 _ (by unfold ups;rw[if_neg h6,if_neg h38];simp))
  ·rw[h.rp.ptr h1 ae];unfold kid;rw[if_neg ae,if_neg ae,show 38+32*(2+(n-38)/32-2)+(n-38)%32=n by omega]
end zJ
end
section
open eu zJ

noncomputable def Ps.nx (s:Ps):Nat:=open Classical in if h:∃n,s.Nx n then Classical.choose h else 0
theorem Ps.ajh {s:Ps} {n:Nat} (h:s.Nx n):s.nx=n:=by unfold Ps.nx;rw[dif_pos ⟨n,h⟩];exact(Classical.choose_spec (⟨n,h⟩:∃n,s.Nx n)).one h
theorem Ps.ap2 {s:Ps} (h:s.us.length<s.np):s.Nx s.nx:=by obtain⟨n,hn⟩:=Ps.Nx.ex h;rw[Ps.ajh hn];exact hn
namespace aN
def ptP (g:Nat->List UInt8) (p k:Nat):Nat:=if p=0 then 0 else Pt.two (g p) k
def CS (g:Nat->List UInt8) (io:Io) (n:Nat):Nat:=if n<6 then io.d.getD n 0 else if n<38 then ptP g io.s (n-6) else ptP g (ptP g io.b ((n-38)/32)) ((n-38)%32)
def Gd (s:Ps) (p:Nat):Prop:=p=0\/p∈s.us
structure Wf (s:Ps) (io:Io):Prop where
 dl:io.d.length=6
 wd:∀n,n<6->Gd s (io.d.getD n 0)
 s0:io.s=0
 b0:io.b=0
theorem Gd.there {s:Ps} {p:Nat} (h:Gd s p) (h0:p≠0):s.There p:=by
 rcases h with h|h
 ·exact absurd h h0
 ·exact .inr h
theorem Wf.at_ {s:Ps} {io:Io} (h:Wf s io) {n:Nat} (_:n<1062):Gd s (CS s.g io n):=by
 unfold CS
 split
 ·exact h.wd n ae
 ·split
  ·exact .inl (by rw[h.s0];exact if_pos rfl)
  ·exact .inl (by rw[h.b0,show ptP s.g 0 ((n-38)/32)=0 from if_pos rfl];exact if_pos rfl)
noncomputable def O9 (s:Ps) (p k tq:Nat):Ps×Nat:=
 let q:=if p=0 then s.nx else p
 let t:=if p=0 then s.add s.nx else s
 let x:=Pt.put (t.g q) k tq
 if Pt.pts x=[] then(t.del q,0) else(t.put q x,q)
noncomputable def FC (s:Ps) (io:Io) (n tq:Nat):Ps×Io:=
 if n<6 then(s,{io with d:=io.d.set n tq})
 else if n<38 then((O9 s io.s (n-6) tq).1,{io with s:=(O9 s io.s (n-6) tq).2})
 else
  let r:=O9 s (ptP s.g io.b ((n-38)/32)) ((n-38)%32) tq
  let q:=O9 r.1 io.b ((n-38)/32) r.2
  (q.1,{io with b:=q.2})
end aN
end
section
open eu zJ
namespace aN
def ptrs (g:Nat->List UInt8):Nat->Nat->Nat->List (Nat×Nat×Nat)
 |0,p,fr=>if p=0 then[] else[(fr,p,0)]
 |lv+1,p,fr=>if p=0 then[] else(fr,p,lv+1)::(Pt.pts (g p)).flatMap λx=>ptrs g lv x.2 (fr+x.1*(if lv=1 then 32 else 1))
def yl (g:Nat->List UInt8) (io:Io):List (Nat×Nat×Nat):=(List.range 6).flatMap (λk=>ptrs g 0 (io.d.getD k 0) k)++ptrs g 1 io.s 6++ptrs g 2 io.b 38
def GdL (s:Ps):Nat->Nat->Prop
 |0,p=>Gd s p
 |_+1,p=>p=0
theorem Wf.gs {s:Ps} {io:Io} (h:Wf s io):GdL s 1 io.s:=h.s0
theorem Wf.gb {s:Ps} {io:Io} (h:Wf s io):GdL s 2 io.b:=h.b0
theorem aaj {x:List UInt8} {k j v:Nat} (h:(j,v)∈Pt.Iw x k):j<k/\v=Pt.two x j/\v≠0:=by
 induction k with
 |zero=>cases h
 |succ k ih=>
  rw[Pt.Iw] at h;split at h
  ·have:=ih h;exact⟨ae,this.2⟩
  ·rename_i h0;rcases List.mem_append.1 h with h1|h1
   ·have:=ih h1;exact⟨ae,this.2⟩
   ·obtain⟨rfl,rfl⟩:=Prod.mk.inj (List.mem_singleton.1 h1);exact⟨ae,rfl,h0⟩
theorem ahc {x:List UInt8} (hx:x.length=64) {j v:Nat} (h:(j,v)∈Pt.pts x):j<32/\v=Pt.two x j/\v≠0:=by unfold Pt.pts at h;rw[hx,if_pos (show Ino.dL (64:Nat) from .inl rfl)] at h;exact aaj h
end aN
end
section
open Go.RowKit

structure Nf where
 k:Int
 l:Int
 s:Int
 io:zJ.Io
def nfL (P:Nat) (f:Nf):List Value:=[.pointer (some ⟨P,0,none⟩),.int .i64 f.k,.int .i64 f.l,.int .i64 f.s]++f.io.d.map eu.iV++[eu.iV f.io.s,eu.iV f.io.b]
structure sJ (w:World) (F P:Nat) (f:Nf):Prop where
 blk:aF w F 204 (nfL P f).toArray
 dl:f.io.d.length=6
section
variable {w w':World} {F P:Nat} {f:Nf}
theorem sJ.on (h:sJ w F P f) (hb:Below w.heap.size w w'):sJ w' F P f:=⟨aF.ah h.blk hb,h.dl⟩
theorem sJ.kq {T:Nat->Prop} (h:sJ w F P f) (hk:Kq T w w') (hF:¬T F):sJ w' F P f:=⟨aF.kq h.blk hk hF,h.dl⟩
theorem sJ.lt (h:sJ w F P f):F<w.heap.size:=aF.lt h.blk
theorem sJ.at_ (h:sJ w F P f) {i:Nat} {v:Value} (hv:(nfL P f)[i]?=some v):w.cell? ⟨F,i,none⟩=some v:=aF.aj h.blk (by rw[List.getElem?_toArray];exact hv)
theorem sJ.p (h:sJ w F P f):w.cell? ⟨F,0,none⟩=some (.pointer (some ⟨P,0,none⟩)):=h.at_ rfl
theorem sJ.d (h:sJ w F P f) {n:Nat} (hn:n<6):w.cell? ⟨F,4+n,none⟩=some (.int .i64 (f.io.d.getD n 0:Nat)):=h.at_ (by have hd:=h.dl;unfold nfL;rw[List.getElem?_append_left (by simp only[List.length_append,List.length_map,List.length_cons,List.length_nil];omega),List.getElem?_append_right (by simp only[List.length_cons,List.length_nil];omega)];simp only[List.length_cons,List.length_nil,Nat.zero_add,Nat.reduceAdd,Nat.add_sub_cancel_left,List.getElem?_map,List.getD_eq_getElem?_getD];rw[List.getElem?_eq_getElem ae];rfl)
theorem sJ.s (h:sJ w F P f):w.cell? ⟨F,10,none⟩=some (.int .i64 (f.io.s:Nat)):=h.at_ (by have hd:=h.dl;unfold nfL;rw[List.getElem?_append_right (by simp only[List.length_append,List.length_map,List.length_cons,List.length_nil];omega)];simp only[List.length_append,List.length_map,List.length_cons,List.length_nil,hd];rfl)
theorem sJ.b (h:sJ w F P f):w.cell? ⟨F,11,none⟩=some (.int .i64 (f.io.b:Nat)):=h.at_ (by have hd:=h.dl;unfold nfL;rw[List.getElem?_append_right (by simp only[List.length_append,List.length_map,List.length_cons,List.length_nil];omega)];simp only[List.length_append,List.length_map,List.length_cons,List.length_nil,hd];rfl)
end
end
section
open Go.RowKit eu aN
variable {NB B P:Nat} {Q:Nat->Prop} {w w':World} {f:Fm} {s:Ps}

def qA (NB B:Nat) (Q:Nat->Prop) (P:Nat) (f:Fm) (s:Ps) (v:Value) (w:World) (e:Ending) (w':World):Prop:=e= .returned v/\bT NB B Q w' P f s/\Kq Q w w'
end
section
open Go.RowKit

attribute [local go_sem] Oper.semAt_some

def aiZ (a:Option Addr) (C:Nat) (q:Nat):Prop:=q=C\/∃b o,a=some ⟨b,o,none⟩/\q=b
end
section
open Go.RowKit

def Calm (Q:Exit->Act->World->Prop):Exit->Act->World->Prop
 | .normal,a,w=>Q .normal a w
 |_,_,_=>False
theorem Calm.normal {Q:Exit->Act->World->Prop} {a:Act} {w:World} (h:Q .normal a w):Calm Q .normal a w:=h
theorem Calm.imp {Q:Exit->Act->World->Prop}:∀(e:Exit) (a:Act) (w:World),Calm Q e a w->Q e a w:=λe a w h=>by
 cases e<;>first|exact h|exact h.elim
theorem Calm.alL {Q:Exit->Act->World->Prop}:¬LetsOut (Calm Q):=λ⟨_,_,h⟩=>h
def Gn (ops:Array Oper):Bool:=ops.toList.all λo=>match o.op with| .defer _=>false|_=>true
theorem WI {ops:Array Oper} (h:Gn ops=true) {i:Nat} {o:Oper} (hi:ops[i]?=some o):∀c,o.op≠ .defer c:=λc hc=>by have h2:=List.all_eq_true.1 h o (List.mem_of_getElem? (i:=i) (by simpa using hi));rw[hc] at h2;cases h2
theorem Ph {n l:Nat} {P:Program} {row:String} {args:Array Value} {w:World} {R:Value->World->Prop} (h:Rows P row args w R):RowsIn (Fence.wide.inRound l) n P row args w R:=
 λc cs _=>let ⟨v,w',r,s⟩:=h c cs;⟨v,w',r,(stepsIn_wide (P:=P)).2 s⟩
theorem Pj {n l:Nat} {P:Program} {ops:Array Oper} {Q:Exit->Act->World->Prop} {i:Nat} {K:Act->World->Prop} {a:Act} {w:World} (hd:Gn ops=true) (hlo:¬LetsOut Q) (h:wpOp P ops Q i K a w):wpOpIn (Fence.wide.inRound l) n P ops Q i K a w:=by
 unfold wpOp at h;unfold wpOpIn
 split
 ·rename_i hi;simp only[hi] at h;exact h
 ·rename_i o hi;simp only[hi] at h
  split
  ·rename_i hw;simp only[hw,if_true] at h;rcases h with h|⟨_,h⟩
   ·refine⟨λ_ _=>trivial,?_⟩;rw[Oper.semAt_eq _ _ _ (WI hd hi)];unfold Oper.wp at h;generalize (execOp a.eval o).run P w=r at*
    cases r with
    |ok x w'=>
     cases x with
     |value v=>exact h
     |skip=>exact h
     |defer d=>exact h
     |enter f args=>exact⟨λh=>(by cases h),((callsIn_wide (n:=n-1)).2 h).inRound l⟩
     |row r args=>exact⟨λh=>(by cases h),Ph h⟩
     |_=>exact h.elim
    |halt x w'=>cases x<;>exact h
   ·exact absurd h hlo
  ·rename_i hw;simp only[hw] at h;exact⟨λ_ _=>trivial,h⟩
theorem KU {n l:Nat} {P:Program} {md:Region.Mode} {ops:Array Oper} {Q:Exit->Act->World->Prop} (hd:Gn ops=true) (hlo:¬LetsOut Q):∀(fuel:Nat) (aZ:Array Bool) (a:Act) (w:World),wpAny P md ops Q fuel aZ a w->wpAnyIn (Fence.wide.inRound l) n P md ops Q fuel aZ a w:=by
 intro fuel
 induction fuel with
 |zero=>intro aZ a w h;exact h
 |succ fuel ih=>
  intro aZ a w h;exact⟨h.1,λi hi=>wpOpIn_mono (λa w=>ih _ a w) (Pj hd hlo (h.2 i hi))⟩
theorem OB {n l:Nat} {P:Program} {id:Nat} {ops:Array Oper} {Q:Exit->Act->World->Prop} {a:Act} {w:World} {S:World->Prop} (hm:P.follows .mixedOrders=true) (hd:Gn ops=true) (hS:S w.drew)
  (h:S w.drew->wpAnyH P .any ops (Calm Q) S ops.size (Array.replicate ops.size false) a w.drew):(Code.region id ops true).wpIn (Fence.wide.inRound l) n P Q a w:=
 wpIn_mono (wpIn_region_any hm (KU hd Calm.alL _ _ _ _ (wpAny_of_held _ _ _ _ (h hS)))) Calm.imp
end
section
open Go.RowKit eu aN
variable {NB B P:Nat} {Q:Nat->Prop} {w w':World} {f:Fm} {s:Ps}

attribute [local go_sem] Oper.semAt_some

def ylV (x:Nat×Nat×Nat):Array Value:=#[.int .i64 (x.1:Int),.int .i64 (x.2.1:Int),.int .i64 (x.2.2:Int)]
structure AX (gy:Nat) (lb:Array Value) (total:List (Nat×Nat×Nat)) (Q:Nat->Prop) (n:Nat) (J:List (Nat×Nat×Nat)->(Nat->Prop)->World->Prop):Prop where
 jx:JX Q n J
 enters:∀args w,(callFunc gy args).run prog w= .ok (.enter gy args) w
 y:∀pre x X W,J pre X W->(pre++[x])<+:total->Calls prog gy (ylV x++lb) W λe W'=>e= .returned (.bool true)/\(∃X',J (pre++[x]) X' W'/\Grew X W X')/\Kq X W W'
def ui (NB B:Nat) (Q:Nat->Prop) (P:Nat) (f:Fm) (s:Ps) (J:List (Nat×Nat×Nat)->(Nat->Prop)->World->Prop) (pre:List (Nat×Nat×Nat)) (X:Nat->Prop) (w:World) (e:Ending) (w':World):Prop:=
 e= .returned (.bool true)/\(∃X',J pre X' w'/\Grew X w X')/\bT NB B Q w' P f s/\Kq (λq=>Q q\/X q) w w'
def WJ (NB B:Nat) (Q:Nat->Prop) (F P:Nat) (f:Fm) (s:Ps) (gy:Nat) (lb:Array Value) (total:List (Nat×Nat×Nat)) (n:Nat) (J:List (Nat×Nat×Nat)->(Nat->Prop)->World->Prop) (lv:Nat):Prop:=
 ∀(w:World) (p fr:Nat) (pre:List (Nat×Nat×Nat)) (X:Nat->Prop),bT NB B Q w P f s->w.cell? ⟨F,0,none⟩=some (.pointer (some ⟨P,0,none⟩))->F<w.heap.size->¬Q F->n<=w.heap.size->(∀q,X q->¬Q q/\q≠F)->J pre X w->(pre++ptrs s.g lv p fr)<+:total->GdL s lv p->fr+1000*lv<=100000->
  Calls prog 237 #[F,.int .i64 p,.int .i64 fr,.int .i64 lv,.func (.func gy) #[] lb] w (ui NB B Q P f s J (pre++ptrs s.g lv p fr) X w)
structure Nbx (Z F fr:Nat) (lv:Int) (yv:Value) (w:World):Prop where
 b0:aF w Z 202 #[.pointer (some ⟨F,0,none⟩)]
 b1:aF w (Z+1) 3 #[.int .i64 fr]
 b2:aF w (Z+2) 3 #[.int .i64 lv]
 b3:aF w (Z+3) 265 #[yv]
 b4:aF w (Z+4) 4 #[.bool false]
theorem Nbx.kq {Z F fr:Nat} {lv:Int} {yv:Value} {T:Nat->Prop} (h:Nbx Z F fr lv yv w) (hk:Kq T w w') (hT:∀q,Z<=q->q<Z+5->¬T q):Nbx Z F fr lv yv w':=
 ⟨h.b0.kq hk (hT _ ae ae),h.b1.kq hk (hT _ ae ae),h.b2.kq hk (hT _ ae ae),h.b3.kq hk (hT _ ae ae),h.b4.kq hk (hT _ ae ae)⟩
theorem Nbx.new (w:World) (F fr:Nat) (lv:Int) (yv:Value):Nbx w.heap.size F fr lv yv (((((w.alloc (.cells #[.pointer (some ⟨F,0,none⟩)] 202)).alloc (.cells #[.int .i64 fr] 3)).alloc (.cells #[.int .i64 lv] 3)).alloc (.cells #[yv] 265)).alloc (.cells #[.bool false] 4)):=by have a1:=aF.new (w.alloc (.cells #[.pointer (some ⟨F,0,none⟩)] 202)) 3 #[.int .i64 fr];have a2:=aF.new ((w.alloc (.cells #[.pointer (some ⟨F,0,none⟩)] 202)).alloc (.cells #[.int .i64 fr] 3)) 3 #[.int .i64 lv];have a3:=aF.new (((w.alloc (.cells #[.pointer (some ⟨F,0,none⟩)] 202)).alloc (.cells #[.int .i64 fr] 3)).alloc (.cells #[.int .i64 lv] 3)) 265 #[yv];have a4:=aF.new ((((w.alloc (.cells #[.pointer (some ⟨F,0,none⟩)] 202)).alloc (.cells #[.int .i64 fr] 3)).alloc (.cells #[.int .i64 lv] 3)).alloc (.cells #[yv] 265)) 4 #[.bool false];simp only[World.size_alloc] at a1 a2 a3 a4;exact⟨((((aF.new w _ _).alloc _).alloc _).alloc _).alloc _,((a1.alloc _).alloc _).alloc _,(a2.alloc _).alloc _,a3.alloc _,a4⟩
theorem IE (w:World) (o0 o1 o2 o3 o4:Obj):Below w.heap.size w (((((w.alloc o0).alloc o1).alloc o2).alloc o3).alloc o4):=
 ((((Below.refl _ w).alloc (Nat.le_refl _) _).alloc au _).alloc (by simp;omega) _|>.alloc (by simp;omega) _).alloc (by simp;omega) _
theorem wW {J:List (Nat×Nat×Nat)->(Nat->Prop)->World->Prop} {n m:Nat} {pre:List (Nat×Nat×Nat)} {X T:Nat->Prop} {w w1 w2 w3:World} (h:bT NB B Q w P f s) (hj:JX Q n J) (hXb:∀q,X q->q<w.heap.size) (hb:Below w.heap.size w w1) (hn:n<=w.heap.size)
  (h2:bT NB B Q w2 P f s) (hk:Kq (λq=>Q q\/X q) w1 w2) (hx:∃X',J pre X' w2/\Grew X w1 X') (hs:Kq T w2 w3) (hT:∀q,T q->w.heap.size<=q/\q<w.heap.size+m) (hm:w1.heap.size=w.heap.size+m):
  ui NB B Q P f s J pre X w (.returned (.bool true)) w3:=by
 obtain⟨X',Ff,Ez⟩:=hx;have iO:=hb.size;refine⟨rfl,⟨X',hj.kq _ _ _ _ T Ff hs λq hq=>?_,λq hq=>?_⟩,h2.kq hs λq hq ht=>?_,((Kq.of hb).trans hk).ay hs λq hq=> .inr (hT q hq).1⟩
 ·have:=hT q hq;refine⟨.inr ae,λh3=>?_⟩;rcases Ez q h3 with h4|h4
  ·have:=hXb q h4;omega
  ·omega
 ·rcases Ez q hq with h4|h4
  ·exact .inl h4
  ·exact .inr ae
 ·have:=(h.bnd q hq).2;have:=hT q ht;omega
theorem SY {F gy n:Nat} {lb:Array Value} {total:List (Nat×Nat×Nat)} {J:List (Nat×Nat×Nat)->(Nat->Prop)->World->Prop} (hy:AX gy lb total Q n J):WJ NB B Q F P f s gy lb total n J 0:=by
 intro w p fr pre X h hF hFl _ hn hX hj dQ hg sG;have HH:=ag h;have HJ:=ag hj;have HY:=ag hy;have hb:=IE w (.cells #[.pointer (some ⟨F,0,none⟩)] 202) (.cells #[.int .i64 fr] 3) (.cells #[.int .i64 0] 3) (.cells #[.func (.func gy) #[] lb] 265) (.cells #[.bool false] 4);have HB:=ag hb;have SI:=ag (show Nbx w.heap.size F fr 0 (.func (.func gy) #[] lb) _ from Nbx.new w F fr 0 (.func (.func gy) #[] lb));have VU:=ag (hy.jx.bd _ _ _ hj);have heg:=hy.enters;have HXQ:=ag hX;clear h hj hy hb hF hX hg sG;refine callsIn_wide (n:=9)|>.1 ?_;refine callsIn_of_wp_marks Tryz.func237 rfl trivial ?_ rfl;refine wpIn_wide.2 ?_;simp only[Tryz.ntmps237,List.size_toArray,List.length_cons,List.length_nil,Nat.reduceAdd,Nat.reduceSub,Array.replicate_succ,Array.replicate_zero,List.push_toArray,List.append_toArray,List.nil_append,List.cons_append];go_upto_region 1 with fail;have nZ:=ag (show((((((w.alloc (.cells #[.pointer (some ⟨F,0,none⟩)] 202)).alloc (.cells #[.int .i64 fr] 3)).alloc (.cells #[.int .i64 0] 3)).alloc (.cells #[.func (.func gy) #[] lb] 265)).alloc (.cells #[.bool false] 4)).heap.size)=w.heap.size+5 by simp);generalize (((((w.alloc (.cells #[.pointer (some ⟨F,0,none⟩)] 202)).alloc (.cells #[.int .i64 fr] 3)).alloc (.cells #[.int .i64 0] 3)).alloc (.cells #[.func (.func gy) #[] lb] 265)).alloc (.cells #[.bool false] 4))=w1 at*;have uw:=ag (HH.o.on HB.o);have J7:=ag (HY.o.jx.on HJ.o HB.o);by_cases h0:p=0
 ·have HE:=ag (show ptrs s.g 0 p fr=[] from if_pos h0);subst h0;have z4:=SI.o.b4.frozen 0;have z5:=SI.o.b4.aj (i:=0) rfl;have eQ:Kq (λq=>q=w.heap.size+4) w1 (w1.setCell ⟨w.heap.size+4,0,none⟩ (.bool true)):=Kq.one ⟨w.heap.size+4,0,none⟩ _;have lX:=ag (wW (m:=5) HH.o HY.o.jx VU.o HB.o hn uw.o (Kq.refl (λq=>Q q\/X q) w1) ⟨X,J7.o,Grew.refl _ _⟩ eQ (λq e=>ae) nZ.o);have hz:=((SI.o.b4.set 0 (.bool true)).aj (i:=0) rfl)
  have hz':(w1.setCell ⟨w.heap.size+1+1+1+1,0,none⟩ (.bool true)).cell? ⟨w.heap.size+1+1+1+1,0,none⟩=some (.bool true):=hz;clear eQ hz;go_wp2;refine⟨.bool true,by simp[results,Tryz.results237,go_sem,hz'],?_⟩;rw[HE.o,List.append_nil];exact lX.o
 ·have HE:=ag (show ptrs s.g 0 p fr=[(fr,p,0)] from if_neg h0);have awd:=ag (show(pre++[(fr,p,0)])<+:total by rw[<-HE.o];exact dQ);have g0:((p:Int)==0)=false:=by rw[beq_eq_false_iff_ne];omega
  have x1:=SI.o.b1.aj (i:=0) rfl;have x2:=SI.o.b2.aj (i:=0) rfl;have x3:=SI.o.b3.aj (i:=0) rfl;clear dQ h0;go_wp2_with fail;refine(HY.o.y pre (fr,p,0) X w1 J7.o awd.o).mono ?_;rintro e w2 ⟨rfl,Ez,fA⟩;have aW:=SI.o.kq fA (λq h1 h2 h3=>by have:=VU.o q h3;omega);have y2:=aW.b2.aj (i:=0) rfl;have z4:=aW.b4.frozen 0;have z5:=aW.b4.aj (i:=0) rfl;have eQ:Kq (λq=>q=w.heap.size+4) w2 (w2.setCell ⟨w.heap.size+4,0,none⟩ (.bool true)):=Kq.one ⟨w.heap.size+4,0,none⟩ _;have lX:=ag (wW (m:=5) HH.o HY.o.jx VU.o HB.o hn (uw.o.kq fA λq h1 h2=>(HXQ.o q h2).1 h1) (fA.mono λq h=> .inr h) Ez eQ (λq e=>ae) nZ.o);have hz:=((aW.b4.set 0 (.bool true)).aj (i:=0) rfl)
  have hz':(w2.setCell ⟨w.heap.size+1+1+1+1,0,none⟩ (.bool true)).cell? ⟨w.heap.size+1+1+1+1,0,none⟩=some (.bool true):=hz;clear eQ hz aW fA Ez x1 x2 x3;go_wp2;refine⟨.bool true,by simp[results,Tryz.results237,go_sem,hz'],?_⟩;rw[HE.o];exact lX.o
theorem S9 {F gy n lv:Nat} {lb:Array Value} {total:List (Nat×Nat×Nat)} {J:List (Nat×Nat×Nat)->(Nat->Prop)->World->Prop} (hy:AX gy lb total Q n J) (_:lv=0\/lv=1) (_:WJ NB B Q F P f s gy lb total n J lv):WJ NB B Q F P f s gy lb total n J (lv+1):=by
 intro w p fr pre X h hF hFl _ hn hX hj dQ hg sG;have HG0:=ag (show p=0 from hg);have HE:=ag (show ptrs s.g (lv+1) p fr=[] from by unfold ptrs;exact if_pos hg);obtain⟨L,hL⟩:=bu (lv+1);rw[<-hL] at HE sG dQ⊢;have HH:=ag h;have HJ:=ag hj;have HY:=ag hy;have hb:=IE w (.cells #[.pointer (some ⟨F,0,none⟩)] 202) (.cells #[.int .i64 fr] 3) (.cells #[.int .i64 L] 3) (.cells #[.func (.func gy) #[] lb] 265) (.cells #[.bool false] 4);have HB:=ag hb;have SI:=ag (show Nbx w.heap.size F fr (L:Int) (.func (.func gy) #[] lb) _ from Nbx.new w F fr (L:Int) (.func (.func gy) #[] lb));have VU:=ag (hy.jx.bd _ _ _ hj);have heg:=hy.enters;have HXQ:=ag hX;clear h hj hy hb hF hX hg sG dQ hL;refine callsIn_wide (n:=9)|>.1 ?_;refine callsIn_of_wp_marks Tryz.func237 rfl trivial ?_ rfl;refine wpIn_wide.2 ?_;simp only[Tryz.ntmps237,List.size_toArray,List.length_cons,List.length_nil,Nat.reduceAdd,Nat.reduceSub,Array.replicate_succ,Array.replicate_zero,List.push_toArray,List.append_toArray,List.nil_append,List.cons_append];go_upto_region 1 with fail;have nZ:=ag (show((((((w.alloc (.cells #[.pointer (some ⟨F,0,none⟩)] 202)).alloc (.cells #[.int .i64 fr] 3)).alloc (.cells #[.int .i64 L] 3)).alloc (.cells #[.func (.func gy) #[] lb] 265)).alloc (.cells #[.bool false] 4)).heap.size)=w.heap.size+5 by simp);generalize (((((w.alloc (.cells #[.pointer (some ⟨F,0,none⟩)] 202)).alloc (.cells #[.int .i64 fr] 3)).alloc (.cells #[.int .i64 L] 3)).alloc (.cells #[.func (.func gy) #[] lb] 265)).alloc (.cells #[.bool false] 4))=w1 at*;have uw:=ag (HH.o.on HB.o);have J7:=ag (HY.o.jx.on HJ.o HB.o);have h0:p=0:=HG0.o;subst h0;have z4:=SI.o.b4.frozen 0;have z5:=SI.o.b4.aj (i:=0) rfl;have eQ:Kq (λq=>q=w.heap.size+4) w1 (w1.setCell ⟨w.heap.size+4,0,none⟩ (.bool true)):=Kq.one ⟨w.heap.size+4,0,none⟩ _;have lX:=ag (wW (m:=5) HH.o HY.o.jx VU.o HB.o hn uw.o (Kq.refl (λq=>Q q\/X q) w1) ⟨X,J7.o,Grew.refl _ _⟩ eQ (λq e=>ae) nZ.o);have hz:=((SI.o.b4.set 0 (.bool true)).aj (i:=0) rfl)
 have hz':(w1.setCell ⟨w.heap.size+1+1+1+1,0,none⟩ (.bool true)).cell? ⟨w.heap.size+1+1+1+1,0,none⟩=some (.bool true):=hz;clear eQ hz;go_wp2;refine⟨.bool true,by simp[results,Tryz.results237,go_sem,hz'],?_⟩;rw[HE.o,List.append_nil];exact lX.o
end
end Go.Proofs.YtnieckfelfoopaaGreat

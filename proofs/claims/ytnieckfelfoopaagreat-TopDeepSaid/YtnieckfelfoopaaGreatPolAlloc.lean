import Derived.Test.YtnieckfelfoopaaGreatFtlFmt0
import Derived.Maps.Keyed
import Derived.Deep.DeepCutAuto
import Derived.Test.YtnieckfelfoopaaGreatFtlRead
open Go.Proofs.Tryz (prog)
namespace Go.Proofs.YtnieckfelfoopaaGreat
open Lib (hid)
set_option maxRecDepth 100000
set_option maxHeartbeats 16000000
section

namespace eu
def zeros:List UInt8:=List.replicate 64 0
theorem dR:zeros.length=64:=List.length_replicate ..
def ru (g:Nat->List UInt8) (n:Nat) (x:List UInt8):Nat->List UInt8:=λm=>if m=n then x else g m
theorem gW (g:Nat->List UInt8) (n:Nat) (x:List UInt8):ru g n x n=x:=if_pos rfl
theorem eY {g:Nat->List UInt8} {n m:Nat} {x:List UInt8} (h:m≠n):ru g n x m=g m:=if_neg h
end eu
open eu
structure Ps where
 tb:Nat
 np:Nat
 ino:Nat
 us:List Nat
 g:Nat->List UInt8
 dy:Nat->Prop
namespace Ps
def There (s:Ps) (n:Nat):Prop:=(1<=n/\n<=s.tb)\/n∈s.us
instance (s:Ps) (n:Nat):Decidable (s.There n):=by unfold There;infer_instance
def put (s:Ps) (n:Nat) (x:List UInt8):Ps:={s with g:=ru s.g n x,dy:=λm=>m=n\/s.dy m}
def Pm (s:Ps) (n:Nat) (x:List UInt8):Ps:={s with us:=s.us++[n],g:=ru s.g n x}
def alM (s:Ps) (n:Nat) (x:List UInt8):Ps:={s with us:=s.us++[n],g:=ru s.g n x,dy:=λm=>m=n\/s.dy m}
def add (s:Ps) (n:Nat):Ps:=s.alM n zeros
def del (s:Ps) (n:Nat):Ps:={s with us:=s.us.filter (·!=n),g:=ru s.g n [],dy:=λm=>s.dy m/\m≠n}
structure Ok (s:Ps):Prop where
 us:∀n∈s.us,s.tb<n/\n<=s.tb+s.np
 nd:s.us.Nodup
 sz:∀n,s.There n->(s.g n).length=64
 no:∀n,¬s.There n->s.g n=[]
structure Nx (s:Ps) (n:Nat):Prop where
 lo:s.tb<n
 hi:n<=s.tb+s.np
 new:n∉s.us
 least:∀m,s.tb<m->m<n->m∈s.us
variable {s:Ps} {n m:Nat}
theorem Nx.one (h:s.Nx n) (k:s.Nx m):n=m:=by
 rcases Nat.lt_trichotomy n m with h1|h1|h1
 ·exact absurd (k.least n h.lo h1) h.new
 ·exact h1
 ·exact absurd (h.least m k.lo h1) k.new
theorem x8 {α:Type} [DecidableEq α] {l l':List α} (h:l.Nodup) (hs:∀x∈l,x∈l'):l.length<=l'.length:=by
 induction l generalizing l' with
 |nil=>exact Nat.zero_le _
 |cons x t ih=>
  rw[List.nodup_cons] at h;have hx:=hs x au;have h2:=ih (l':=l'.erase x) h.2 λy hy=>(List.mem_erase_of_ne (λe=>h.1 (by rw[<-e];exact hy))).2 (hs y (by simp[hy]));rw[List.length_erase_of_mem hx] at h2;have:=List.length_pos_of_mem hx;rw[List.length_cons];omega
theorem Nx.ex (h:s.us.length<s.np):∃n,s.Nx n:=by
 suffices h2:∀k,k<=s.np->(∃n,s.Nx n)\/∀m,s.tb<m->m<=s.tb+k->m∈s.us by
  rcases h2 s.np (Nat.le_refl _) with h3|h3
  ·exact h3
  ·have h4:=x8 (l:=(List.range s.np).map λi=>s.tb+1+i) (l':=s.us) (by
    unfold List.Nodup;rw[List.pairwise_map];exact List.nodup_range.imp λh e=>h ae) (λx hx=>by
    obtain⟨i,hi,rfl⟩:=List.mem_map.1 hx;have:=List.mem_range.1 hi;exact h3 _ ae ae)
   rw[List.length_map,List.length_range] at h4;omega
 intro k
 induction k with
 |zero=>intro _;exact .inr λm h1 h2=>ae
 |succ k ih=>
  intro hk;rcases ih ae with h1|h1
  ·exact .inl h1
  ·by_cases h2:s.tb+k+1∈s.us
   ·refine .inr λm h3 h4=>?_;by_cases h5:m=s.tb+k+1
    ·rw[h5];exact h2
    ·exact h1 m h3 ae
   ·exact .inl ⟨s.tb+k+1,ae,ae,h2,λm h3 h4=>h1 m h3 ae⟩
theorem qJ {x:List UInt8}:(s.Pm n x).There m↔s.There m\/m=n:=by unfold There Pm;rw[List.mem_append,List.mem_singleton];exact or_assoc.symm
theorem adV {x y:List UInt8}:(s.Pm n x).put n y=s.alM n y:=by
 unfold Pm alM put
 congr 1
 funext m
 show ru (ru s.g n x) n y m=ru s.g n y m;by_cases e:m=n
 ·subst e;rw[gW,gW]
 ·rw[eY e,eY e,eY e]
theorem yh (h:s.tb<n):(s.del n).There m↔s.There m/\m≠n:=by
 unfold There del;simp only[List.mem_filter,bne_iff_ne,ne_eq];constructor
 ·rintro(h1|h1)
  ·exact⟨.inl h1,ae⟩
  ·exact⟨.inr h1.1,h1.2⟩
 ·rintro⟨h1|h1,h2⟩
  ·exact .inl h1
  ·exact .inr ⟨h1,h2⟩
theorem Ok.put (h:s.Ok) {x:List UInt8} (hn:s.There n) (hx:x.length=64):(s.put n x).Ok:=by
 refine⟨h.us,h.nd,λm hm=>?_,λm hm=>?_⟩
 ·show(ru s.g n x m).length=64;by_cases e:m=n
  ·subst e;rw[gW];exact hx
  ·rw[eY e];exact h.sz m hm
 ·show ru s.g n x m=[];rw[eY (λe=>hm (by rw[e];exact hn))];exact h.no m hm
theorem Ok.Pm (h:s.Ok) (hn:s.Nx n) {x:List UInt8} (hx:x.length=64):(s.Pm n x).Ok:=by
 refine⟨λm hm=>?_,?_,λm hm=>?_,λm hm=>?_⟩
 ·rcases List.mem_append.1 hm with h1|h1
  ·exact h.us m h1
  ·rw[List.mem_singleton.1 h1];exact⟨hn.lo,hn.hi⟩
 ·show(s.us++[n]).Nodup;rw[List.nodup_append];refine⟨h.nd,au,?_⟩;rintro a ha c hc rfl;rw[List.mem_singleton.1 hc] at ha;exact hn.new ha
 ·show(ru s.g n x m).length=64;by_cases e:m=n
  ·subst e;rw[gW];exact hx
  ·rw[eY e];rcases qJ.1 hm with h1|h1
   ·exact h.sz m h1
   ·exact absurd h1 e
 ·show ru s.g n x m=[];have h2:=λh1=>hm (qJ.2 h1);rw[eY (λe=>h2 (.inr e))];exact h.no m λh1=>h2 (.inl h1)
theorem Ok.add (h:s.Ok) (hn:s.Nx n):(s.add n).Ok:=by have k:=h.Pm hn dR;exact⟨k.us,k.nd,k.sz,k.no⟩
theorem Ok.del (h:s.Ok) (hn:s.tb<n):(s.del n).Ok:=by
 refine⟨λm hm=>h.us m (List.mem_filter.1 hm).1,h.nd.filter _,λm hm=>?_,λm hm=>?_⟩
 ·obtain⟨h1,h2⟩:=(yh hn).1 hm;show(ru s.g n [] m).length=64;rw[eY h2];exact h.sz m h1
 ·show ru s.g n [] m=[];by_cases e:m=n
  ·subst e;rw[gW]
  ·rw[eY e];exact h.no m λh1=>hm ((yh hn).2 ⟨h1,e⟩)
end Ps
end
section
open Go.RowKit Go.Maps Go.ChangeMaps eX

structure Dp where
 n:Nat
 v:Value
 x:List UInt8
namespace eu
def iV (n:Nat):Value:= .int .i64 n
theorem Wp (a b:Nat) (h:iV a=iV b):a=b:=by
 unfold iV at h;injection h with _ h
 omega
def yC:Enc Nat:=⟨id,iV,iV,Wp⟩
def tJ:Enc Dp:=⟨Dp.n,iV,Dp.v,Wp⟩
theorem vC:Keyed prog 3:=int_keyed Tryz.underlying3
theorem Fq {p:Nat} (h:p<4294967296):keyOf prog 3 (iV p)=some (.int .i64 p):=by
 have hw:(Lit.int .i64 p).wf=true:=by simp[Lit.wf,IntKind.min,IntKind.max,IntKind.bits,IntKind.signed];omega
 simp[keyOf,mapKey,Tryz.underlying3,iV,hw]
def CX (f:Fm) (dl:List Dp) (n:Nat):List UInt8:=match tJ.get dl n with
 |some d=>d.x
 |none=>match vw f n with
  |some y=>y.2
  |none=>zeros
theorem ac0 (w:World):(zeroValue 3).run prog w= .ok (.int .i64 0) w:=az
theorem adW (w:World):(zeroValue 23).run prog w= .ok (.slice none 0 0) w:=az
theorem alN {us:List Nat} {n:Nat}:(yC.get us n).isSome=true↔n∈us:=by
 constructor
 ·intro h
  cases hg:yC.get us n with
  |none=>rw[hg] at h;cases h
  |some x=>
   obtain⟨h1,h2⟩:=Enc.get_mem hg;obtain rfl:x=n:=h2;exact h1
 ·intro h
  cases hg:yC.get us n with
  |none=>exact absurd rfl (Enc.get_none hg n h)
  |some x=>rfl
end eu
open eu
def FI (F U D:Nat) (s:Ps):Array Value:=#[.pointer (some ⟨F,0,none⟩),.int .i64 (s.tb:Int),.int .i64 ((s.tb:Int)+1),.int .i64 (s.np:Int),.int .i64 (s.ino:Int),.int .i64 64,.map (some U),.map (some D)]
structure zM (NB B:Nat) (R:Nat->Prop) (w:World) (P U D:Nat) (dl:List Dp) (f:Fm) (s:Ps):Prop where
 hP:aF w P 155 (FI f.F U D s)
 hU:bW yC prog 3 w U s.us
 hD:bW tJ prog 3 w D dl
 hf:dB NB B R w f
 fc:Fc NB f
 ok:s.Ok
 bd:s.tb+s.np+2<(NB-3)*8/\s.tb+s.np<8192
 dt:∀d∈dl,s.There d.n
 ow:∀d∈dl,Own aH 5 w 0 d.v d.x
 g:∀n,s.There n->s.g n=CX f dl n
 ne:P≠U/\P≠D/\U≠D
 nr:¬R P/\¬R U/\¬R D
 nu:∀d∈dl,∀q,d.v.ownBlock=some q->q≠P/\q≠U/\q≠D/\¬R q
 dy:∀n,s.dy n↔(tJ.get dl n).isSome=true
def Hp (P U D:Nat) (R:Nat->Prop) (dl:List Dp) (q:Nat):Prop:=q=P\/q=U\/q=D\/R q\/∃d∈dl,d.v.ownBlock=some q
def bT (NB B:Nat) (Q:Nat->Prop) (w:World) (P:Nat) (f:Fm) (s:Ps):Prop:=∃U D dl R,zM NB B R w P U D dl f s/\(∀q,Hp P U D R dl q->Q q)/\∀q,Q q->B<=q/\q<w.heap.size
def jJ (NB B:Nat) (Q:Nat->Prop) (w w':World) (P:Nat) (f:Fm) (s:Ps):Prop:=bT NB B (Up Q w w') w' P f s/\Kq Q w w'
section
variable {NB B P U D:Nat} {R Q T:Nat->Prop} {w w' w1 w2:World} {f f1 f2:Fm} {s s1 s2:Ps} {dl:List Dp}
theorem zM.kq (h:zM NB B R w P U D dl f s) (hk:Kq T w w') (hT:∀q,Hp P U D R dl q->¬T q):zM NB B R w' P U D dl f s:=
 ⟨h.hP.kq hk (hT _ (.inl rfl)),h.hU.same (hk.block _ h.hU.lt (hT _ (.inr (.inl rfl)))),h.hD.same (hk.block _ h.hD.lt (hT _ (.inr (.inr (.inl rfl))))),h.hf.kq hk λq hq=>hT q (.inr (.inr (.inr (.inl hq)))),h.fc,h.ok,h.bd,h.dt,
  λd hd=>(h.ow d hd).kq hk λq hq=>hT q (.inr (.inr (.inr (.inr ⟨d,hd,hq⟩)))),h.g,h.ne,h.nr,h.nu,h.dy⟩
theorem bT.kq (h:bT NB B Q w P f s) (hk:Kq T w w') (hT:∀q,Q q->¬T q):bT NB B Q w' P f s:=by obtain⟨U,D,dl,R,h1,h2,h3⟩:=h;exact⟨U,D,dl,R,h1.kq hk λq hq=>hT q (h2 q hq),h2,λq hq=>⟨(h3 q hq).1,Nat.lt_of_lt_of_le (h3 q hq).2 hk.size⟩⟩
theorem bT.on (h:bT NB B Q w P f s) (hb:Below w.heap.size w w'):bT NB B Q w' P f s:=h.kq (T:=λ_=>False) (Kq.of hb) λ_ _ h=>h
theorem bT.more {Q':Nat->Prop} (h:bT NB B Q w P f s) (h1:∀q,Q q->Q' q) (h2:∀q,Q' q->B<=q/\q<w.heap.size):bT NB B Q' w P f s:=by obtain⟨U,D,dl,R,a1,a2,_⟩:=h;exact⟨U,D,dl,R,a1,λq hq=>h1 q (a2 q hq),h2⟩
theorem bT.bnd (h:bT NB B Q w P f s):∀q,Q q->B<=q/\q<w.heap.size:=by obtain⟨_,_,_,_,_,_,h3⟩:=h;exact h3
theorem bT.inP (h:bT NB B Q w P f s):Q P:=by obtain⟨_,_,_,_,_,h2,_⟩:=h;exact h2 _ (.inl rfl)
theorem bT.base (h:bT NB B Q w P f s):B<=w.heap.size:=by have:=h.bnd _ h.inP;omega
theorem bT.aV (h:bT NB B Q w P f s) {q:Nat} (hq:w.heap.size<=q):¬Q q:=λh1=>by have:=(h.bnd q h1).2;omega
theorem bT.ok (h:bT NB B Q w P f s):s.Ok:=by obtain⟨_,_,_,_,h1,_⟩:=h;exact h1.ok
theorem bT.bd (h:bT NB B Q w P f s):s.tb+s.np<8192:=by obtain⟨_,_,_,_,h1,_⟩:=h;exact h1.bd.2
theorem bT.hP (h:bT NB B Q w P f s):∃U D,aF w P 155 (FI f.F U D s):=by obtain⟨U,D,_,_,h1,_⟩:=h;exact⟨U,D,h1.hP⟩
theorem bT.c0 (h:bT NB B Q w P f s):w.cell? ⟨P,0,none⟩=some (.pointer (some ⟨f.F,0,none⟩)):=by obtain⟨U,D,h⟩:=h.hP;exact h.aj rfl
theorem bT.c1 (h:bT NB B Q w P f s):w.cell? ⟨P,1,none⟩=some (.int .i64 (s.tb:Int)):=by obtain⟨U,D,h⟩:=h.hP;exact h.aj rfl
theorem bT.c2 (h:bT NB B Q w P f s):w.cell? ⟨P,2,none⟩=some (.int .i64 ((s.tb:Int)+1)):=by obtain⟨U,D,h⟩:=h.hP;exact h.aj rfl
theorem bT.c3 (h:bT NB B Q w P f s):w.cell? ⟨P,3,none⟩=some (.int .i64 (s.np:Int)):=by obtain⟨U,D,h⟩:=h.hP;exact h.aj rfl
theorem bT.c4 (h:bT NB B Q w P f s):w.cell? ⟨P,4,none⟩=some (.int .i64 (s.ino:Int)):=by obtain⟨U,D,h⟩:=h.hP;exact h.aj rfl
theorem bT.c5 (h:bT NB B Q w P f s):w.cell? ⟨P,5,none⟩=some (.int .i64 64):=by obtain⟨U,D,h⟩:=h.hP;exact h.aj rfl
theorem aak {Q:Nat->Prop} {w:World} {q:Nat} (h:Up Q w w q):Q q:=by rcases h with h|h;exact h;omega
theorem bT.refl (h:bT NB B Q w P f s):jJ NB B Q w w P f s:=⟨h.more (λ_ hq=> .inl hq) λq hq=>h.bnd q (aak hq),Kq.refl _ _⟩
theorem jJ.ay (h:jJ NB B Q w w1 P f1 s1) (k:jJ NB B (Up Q w w1) w1 w2 P f2 s2):jJ NB B Q w w2 P f2 s2:=by
 have iO:=h.2.size;have mr:=k.2.size;refine⟨k.1.more (λq hq=>Yw iO mr hq) λq hq=>?_,h.2.ay k.2 λq hq=>?_⟩
 ·rcases hq with hq|hq
  ·exact k.1.bnd q (.inl (.inl hq))
  ·rcases Nat.lt_or_ge q w1.heap.size with h1|h1
   ·exact k.1.bnd q (.inl (.inr ⟨hq.1,h1⟩))
   ·exact k.1.bnd q (.inr ⟨h1,hq.2⟩)
 ·rcases hq with h1|h1
  ·exact .inl h1
  ·exact .inr h1.1
theorem jJ.on (h:jJ NB B Q w w1 P f s) (hb:Below w1.heap.size w1 w2) (hB:B<=w.heap.size):jJ NB B Q w w2 P f s:=by
 have hs:=hb.size;refine⟨(h.1.on hb).more (λq hq=>?_) λq hq=>?_,h.2.on hb⟩
 ·rcases hq with h1|h1
  ·exact .inl h1
  ·exact .inr ⟨h1.1,ae⟩
 ·rcases hq with h1|h1
  ·have:=h.1.bnd q (.inl h1);omega
  ·omega
theorem bT.on_ (h:bT NB B Q w P f s) (hb:Below w.heap.size w w1):jJ NB B Q w w1 P f s:=h.refl.on hb h.base
theorem bT.acU (h1:bT NB B Q w' P f2 s2) (h2:Kq Q w w') (hB:B<=w.heap.size):jJ NB B Q w w' P f2 s2:=by
 refine⟨h1.more (λq hq=> .inl hq) λq hq=>?_,h2⟩;rcases hq with h3|h3
 ·exact h1.bnd q h3
 ·omega
theorem jJ.behind (hb:Kq Q w w1) (h:jJ NB B Q w1 w2 P f s) (hB:B<=w.heap.size):jJ NB B Q w w2 P f s:=by
 have hs:=hb.size;refine⟨h.1.more (λq hq=>?_) λq hq=>?_,hb.trans h.2⟩
 ·rcases hq with h1|h1
  ·exact .inl h1
  ·exact .inr ⟨ae,h1.2⟩
 ·rcases hq with h1|h1
  ·exact h.1.bnd q (.inl h1)
  ·omega
theorem jJ.from_ (hb:Below w.heap.size w w1) (h:jJ NB B Q w1 w2 P f s) (hB:B<=w.heap.size):jJ NB B Q w w2 P f s:=jJ.behind (Kq.of hb) h hB
theorem bT.fin {U:Nat->Prop} (h:bT NB B Q w P f s) (h2:bT NB B U w' P f2 s2) (hU:∀q,U q->Q q\/w.heap.size<=q) (hk:Kq T w w') (hT:∀q,T q->Q q\/w.heap.size<=q):jJ NB B Q w w' P f2 s2:=by
 have hs:=hk.size;have hB:=h.base;refine⟨h2.more (λq hq=>?_) λq hq=>?_,⟨hk.os,hk.tape,hk.output,hk.size,λk h1 h3=>hk.block k h1 λh4=>?_⟩⟩
 ·rcases hU q hq with h1|h1
  ·exact .inl h1
  ·exact .inr ⟨h1,(h2.bnd q hq).2⟩
 ·rcases hq with h1|h1
  ·have:=h.bnd q h1;omega
  ·omega
 ·rcases hT k h4 with h5|h5
  ·exact h3 h5
  ·omega
theorem jJ.far (_:jJ NB B Q w w1 P f s) {q:Nat} (hq:¬Q q) (hl:q<w.heap.size):¬Up Q w w1 q:=λh1=>hq (ji h1 hl)
theorem jJ.size (h:jJ NB B Q w w1 P f s):w.heap.size<=w1.heap.size:=h.2.size
end
section
variable {NB B P U D:Nat} {R Q T:Nat->Prop} {w w' w1 w2:World} {f f1 f2:Fm} {s s1 s2:Ps} {dl:List Dp}
theorem zM.used (h:zM NB B R w P U D dl f s) {n:Nat} (hn:n<4294967296):∃v,(Instr.lookup 152 (.map (some U)) (.int .i64 n) true).run prog w= .ok (.tuple #[.int .i64 v,.bool (decide (n∈s.us))]) w:=by
 have h1:=h.hU.look (p:=n) eu.vC Tryz.underlying152 (ac0 w) (eu.Fq hn) true;have h2:(yC.get s.us n).isSome=decide (n∈s.us):=by
  have:=alN (us:=s.us) (n:=n)
  cases hb:(yC.get s.us n).isSome with
  |true=>rw[hb] at this;exact(decide_eq_true (this.1 rfl)).symm
  |false=>rw[hb] at this;exact(decide_eq_false (λh=>by cases this.2 h)).symm
 rw[h2] at h1
 cases hg:yC.get s.us n with
 |none=>rw[hg] at h1;exact⟨0,h1⟩
 |some x=>rw[hg] at h1;exact⟨x,h1⟩
theorem zM.aqk (h:zM NB B R w P U D dl f s) {n:Nat} (hn:n<4294967296):
  (Instr.lookup 153 (.map (some D)) (.int .i64 n) true).run prog w= .ok (.tuple #[(tJ.get dl n).elim (.slice none 0 0) Dp.v,.bool (tJ.get dl n).isSome]) w:=
 h.hD.look (p:=n) eu.vC Tryz.underlying153 (adW w) (eu.Fq hn) true
theorem ahG (f:Fm) (dl:List Dp) (d:Dp) (m:Nat):CX f (tJ.put dl d) m=if m=d.n then d.x else CX f dl m:=by
 unfold CX;rw[Enc.get_put];by_cases e:m=d.n
 ·rw[if_pos e,if_pos (show m=tJ.kf d from e)]
 ·rw[if_neg e,if_neg (show¬m=tJ.kf d from e)]
theorem ahH (f:Fm) (dl:List Dp) {n m:Nat} (h:m≠n):CX f (tJ.del dl n) m=CX f dl m:=by unfold CX;rw[Enc.YA,if_neg h]
theorem zM.put (h:zM NB B R w P U D dl f s) {n:Nat} (hn:s.There n) (h9:n<4294967296) {v:Value} {x:List UInt8} (ho:Own aH 5 w 0 v x) (hx:x.length=64) (hq:∀q,v.ownBlock=some q->q≠P/\q≠U/\q≠D/\¬R q):
  ∃o,(Instr.mapUpdate 153 (.map (some D)) (.int .i64 n) v).run prog w= .ok () (setBlock w D o)/\zM NB B R (setBlock w D o) P U D (tJ.put dl ⟨n,v,x⟩) f (s.put n x)/\w.grownBy (setBlock w D o) (some D):=by
 obtain⟨n1,n2,n3⟩:=h.ne;obtain⟨o,h1,h3,h4⟩:=h.hD.put eu.vC Tryz.underlying153 ⟨n,v,x⟩ (eu.Fq h9);have dh:∀u:Value,(∀q,u.ownBlock=some q->q≠D)->u.ownBlock=none\/u.ownBlock≠some D:=λu hu=>by
  cases hb:u.ownBlock with
  |none=>exact .inl rfl
  |some q=>exact .inr (λe=>hu q hb (Option.some.inj e))
 refine⟨o,h1,⟨h.hP.grown h4 (by intro e;injection e with e;exact n2 e),h.hU.same (h4.block _ h.hU.lt (by intro e;injection e with e;exact n3 e)),h3,h.hf.kq (Kq.grown h4) λq hq e=>h.nr.2.2 (Option.some.inj e▸hq),h.fc,h.ok.put hn hx,h.bd,λd hd=>?_,λd hd=>?_,λm hm=>?_,h.ne,h.nr,λd hd=>?_,λm=>?_⟩,h4⟩
 ·rcases Enc.Gl hd with rfl|hd
  ·exact hn
  ·exact h.dt d hd
 ·rcases Enc.Gl hd with rfl|hd
  ·exact ho.grown h4 (dh _ λq e=>(hq q e).2.2.1)
  ·exact(h.ow d hd).grown h4 (dh _ λq e=>(h.nu d hd q e).2.2.1)
 ·show ru s.g n x m=_;rw[ahG];by_cases e:m=n
  ·subst e;rw[gW,if_pos rfl]
  ·rw[eY e,if_neg e];exact h.g m hm
 ·rcases Enc.Gl hd with rfl|hd
  ·exact hq
  ·exact h.nu d hd
 ·rw[Enc.get_put];show(m=n\/s.dy m)↔_;by_cases e:m=n
  ·rw[if_pos (show m=tJ.kf ⟨n,v,x⟩ from e)];exact⟨λ_=>rfl,λ_=> .inl e⟩
  ·rw[if_neg (show¬m=tJ.kf ⟨n,v,x⟩ from e),<-h.dy m];exact⟨λh1=>h1.resolve_left e,.inr⟩
end
end
section
open Go.RowKit Go.Maps Go.ChangeMaps eu
variable {NB B P n:Nat} {Q:Nat->Prop} {w w':World} {f:Fm} {s:Ps}

theorem bT.drew (h:bT NB B Q w P f s):bT NB B Q w.drew P f s:=h.on (ak w)
theorem dO (h:bT NB B Q w P f s):Calls prog 86 #[P] w λe w'=>e= .returned (.int .i64 64)/\w=w':=by
 have c5:=h.c5;clear h
 go_in
 go_wp2;go_ret;exact⟨rfl,rfl⟩
theorem wX (h:bT NB B Q w P f s) (h2:s.tb<n) (hn:n<=s.tb+s.np):Calls prog 169 #[P,.int .i64 n] w λe w'=>e= .returned (.bool true)/\Below w.heap.size w w':=by
 have HP:=ag h.drew;have o7:=h.bd;have g1:(s.tb:Int)+1<=(n:Int):=ae;have g2:=IntWalk.i64_in ((n:Int)-((s.tb:Int)+1)) ⟨ae,ae⟩;have g3:(n:Int)-((s.tb:Int)+1)<(s.np:Int):=ae;have HB:=ag (ak w);clear h o7
 go_in
 go_wp2_with fail;refine iT (λW'=>bT NB B Q W' P f s) HP.o (λbJ=>?_);refine eF 0 (n:Int) ?_;refine dP 1 P 0 ?_;refine aS 2 P 0 ?_;refine aS 3 P 1 ?_;refine aS 4 P 2 ?_;refine jH 5 ((s.tb:Int)+1) (λ_ aI=>aI.c2) ?_;refine fE 6 (.bool true) ?_;refine fB 7 (.bool true) ?_;refine eF 8 (n:Int) ?_;refine dP 9 P 0 ?_;refine aS 10 P 0 ?_;refine aS 11 P 1 ?_;refine aS 12 P 2 ?_;refine jH 13 ((s.tb:Int)+1) (λ_ aI=>aI.c2) ?_;refine ik 14 (((n:Int)-((s.tb:Int)+1))) ?_;refine dP 15 P 0 ?_;refine aS 16 P 0 ?_;refine aS 17 P 1 ?_;refine aS 18 P 3 ?_;refine jH 19 (s.np:Int) (λ_ aI=>aI.c3) ?_;refine fE 20 (.bool true) ?_;refine fE 21 (.bool true) ?_;refine fB 22 (.bool true) ?_;refine gB ?_;clear bJ;go_wp2;go_ret;exact⟨rfl,HB.o⟩
theorem Pn (h:bT NB B Q w P f s) (h1:1<=n) (hn:n<=s.tb):Calls prog 143 #[P,.int .i64 n] w λe w'=>e= .returned (.bool true)/\w=w':=by
 have c1:=h.c1;have g1:(1:Int)<=(n:Int):=ae;have g2:(n:Int)<=(s.tb:Int):=ae;clear h h1 hn
 go_in
 go_wp2;go_ret;exact⟨rfl,rfl⟩
theorem EH (h:bT NB B Q w P f s) (hn:s.tb<n) (h9:n<4294967296):Calls prog 143 #[P,.int .i64 n] w λe w'=>e= .returned (.bool (decide (n∈s.us)))/\w=w':=by
 have c1:=h.c1;obtain⟨U,D,dl,R,hc,_⟩:=id h;have c6:w.cell? ⟨P,6,none⟩=some (.map (some U)):=hc.hP.aj rfl;obtain⟨v,hl⟩:=hc.used h9;obtain⟨bb,yE⟩:=bu (decide (n∈s.us));rw[<-yE] at hl⊢;have g1:(1:Int)<=(n:Int):=ae;have g2:¬(n:Int)<=(s.tb:Int):=ae;clear h hn hc yE
 go_in
 go_wp2;go_ret;exact⟨rfl,rfl⟩
theorem uS (h:bT NB B Q w P f s) (hn:s.There n) (h9:n<4294967296):Calls prog 143 #[P,.int .i64 n] w λe w'=>e= .returned (.bool true)/\w=w':=by
 rcases hn with⟨h1,h2⟩|h1
 ·exact Pn h h1 h2
 ·have:=EH h (h.ok.us n h1).1 h9;rw[decide_eq_true h1] at this;exact this
theorem Bi (h:bT NB B Q w P f s) (hn:s.There n):1<=n/\n<8192/\n<=s.tb+s.np:=by
 have hb:=h.bd;rcases hn with⟨h1,h2⟩|h1
 ·omega
 ·have:=h.ok.us n h1;omega
theorem qK (h:bT NB B Q w P f s) (hn:s.There n):Calls prog 183 #[P,.int .i64 n] w λe w'=>e= .returned (.int .i64 0)/\w=w':=by
 have hT:=ag (uS h hn (by have:=Bi h hn;omega));clear h
 go_in
 go_wp2_with fail;refine hT.o.mono ?_;rintro e w_ ⟨rfl,rfl⟩;go_wp2;go_ret;exact⟨rfl,rfl⟩
theorem bT.ahI (h:bT NB B Q w P f s):∃U,w.cell? ⟨P,6,none⟩=some (.map (some U))/\∀ty,(Builtin.len_ #[152] ty #[.map (some U)]).run prog w= .ok (.int .i64 (s.us.length:Int)) w:=by obtain⟨U,D,dl,R,hc,_⟩:=h;obtain⟨es,clock,h1,h2⟩:=hc.hU.size;refine⟨U,hc.hP.aj rfl,λty=>?_⟩;rw[<-h2];simp[Builtin.len_,run_underlying Tryz.underlying152,MapKept.run_getObj_map h1,goInt]
theorem KJ (h:bT NB B Q w P f s):Calls prog 41 #[P] w λe w'=>e= .returned (.int .i64 ((s.np:Int)-(s.us.length:Int)))/\Below w.heap.size w w':=by
 obtain⟨U,c6,hl⟩:=h.drew.ahI;have o7:=h.bd;have hul:s.us.length<=s.np:=by
  have h1:=Ps.x8 (l:=s.us) (l':=(List.range s.np).map λi=>s.tb+1+i) h.ok.nd λx hx=>by have:=h.ok.us x hx;exact List.mem_map.2 ⟨x-s.tb-1,List.mem_range.2 ae,ae⟩
  rw[List.length_map,List.length_range] at h1;exact h1
 have HS:=ag (show w.drew.cell? ⟨P,3,none⟩=some (.int .i64 (s.np:Int))/\w.drew.cell? ⟨P,6,none⟩=some (.map (some U))/\∀ty,(Builtin.len_ #[152] ty #[.map (some U)]).run prog w.drew= .ok (.int .i64 (s.us.length:Int)) w.drew from⟨h.drew.c3,c6,hl⟩);have g1:=IntWalk.i64_in ((s.np:Int)-(s.us.length:Int)) ⟨ae,ae⟩;have HB:=ag (ak w);clear h o7 c6 hl hul
 go_in
 go_wp2_with fail;refine iT (λW'=>W'.cell? ⟨P,3,none⟩=some (.int .i64 (s.np:Int))/\W'.cell? ⟨P,6,none⟩=some (.map (some U))/\∀ty,(Builtin.len_ #[152] ty #[.map (some U)]).run prog W'= .ok (.int .i64 (s.us.length:Int)) W') HS.o (λbJ=>?_);refine dP 0 P 0 ?_;refine aS 1 P 0 ?_;refine aS 2 P 1 ?_;refine aS 3 P 3 ?_;refine jH 4 (s.np:Int) (λ_ aI=>aI.1) ?_;refine dP 5 P 0 ?_;refine aS 6 P 0 ?_;refine aS 7 P 6 ?_;refine tC 8 (.map (some U)) (λ_ aI=>aI.2.1) ?_;refine jH 9 (s.us.length:Int) (λ_ aI=>aI.2.2) ?_;refine ik 10 (((s.np:Int)-(s.us.length:Int))) ?_;refine eF 11 (((s.np:Int)-(s.us.length:Int))) ?_;refine gB ?_;clear bJ;go_wp2;go_ret;exact⟨rfl,HB.o⟩
end
section
open Go.RowKit eX Go.ChangeMaps

section
variable {NB B n:Nat} {R:Nat->Prop} {w:World} {f:Fm}
theorem vF (h:dB NB B R w f) (hc:Fc NB f) (p:Nat) (Dh:1<=p) (iU:p+2<(NB-3)*8) (oq:p<8192) (hx:lW f p=none):
  Calls prog 176 #[f.F,.int .u32 p] w λe w'=>e= .returned (.tuple #[.slice none 0 0,.int .i64 60])/\Below w.heap.size w w':=by
 have oC:=hc.fi.nb;have hlg:=qL h hc.fi p ae;rw[if_neg ae] at hlg;have HLg:=ag hlg;have HH:=ag h;have QA:=ag (λ(W:World) (hW:dB NB B R W f)=>MX hW p ae);rw[hx] at QA;have jq:=iE;clear h hc hlg hx
 go_in
 go_wp2_with fail;refine HLg.o.mono ?_;rintro e w1 ⟨rfl,bK⟩;have H1:=ag (HH.o.on bK);have dw:=ag bK;clear bK;go_wp2_with fail;refine(QA.o w1 H1.o).mono ?_;rintro e w2 ⟨rfl,aW⟩;rw[show plO none= .agg #[.int .i64 0,.int .i64 0] from rfl,show(none:Option En).isSome=false from rfl];have dA:=ag ((dw.o.ay aW).alloc (dw.o.ay aW).size (.cells #[.int .i64 0,.int .i64 0] 247));clear aW;go_wp2_with fail;go_ret2;exact⟨rfl,dA.o⟩
end
end
section
open Go.RowKit eX

section
variable {NB B n:Nat} {R:Nat->Prop} {w:World} {f:Fm}
def awf (NB B:Nat) (R:Nat->Prop) (f:Fm) (d:List UInt8) (w:World) (e:Ending) (w':World):Prop:=
 (∃v,e= .returned (.tuple #[v,.int .i64 0])/\Own aH 5 w' w.heap.size v d)/\dB NB B R w' f/\Kq R w w'
theorem zh (h:dB NB B R w f) (hc:Fc NB f) (p:Nat) (Dh:1<=p) (iU:p+2<(NB-3)*8) (oq:p<8192) (x:En) (hx:lW f p=some x):
  Calls prog 176 #[f.F,.int .u32 p] w (awf NB B R f x.d w):=by
 have oC:=hc.fi.nb;have hlg:=qL h hc.fi p ae;rw[if_neg ae] at hlg;have HLg:=ag hlg;have HH:=ag h;have QA:=ag (λ(W:World) (hW:dB NB B R W f)=>MX hW p ae);rw[hx] at QA;have hm:=IG hx;have hgp:=hc.fi.pg x hm;have zX:=hc.fi.ok x hm;have hxb:=hc.fi.lt hm;have aqm:YC ((f.g.bl x.b).sS x.i)=Tg.page x.t x.d:=by rw[hgp.pg];rfl
 have xZ:=λ(W:World) (hW:dB NB B R W f)=>Td hW hxb hgp.i8;unfold Rdd at xZ;rw[aqm] at xZ;have yN:=ag xZ;have HTr:=ag (Tg.DR zX.rt (pay:=x.d) (by rw[zX.len];decide));have oJ:=ag zX.awg;have VT:=ag zX.len;have jq:=iE;have hct:=II;clear h hc hlg hx hm hgp zX hxb aqm xZ oC Dh iU oq;obtain⟨xb,hxb⟩:=bu x.b;obtain⟨xi,hxi⟩:=bu x.i;have oh:plO (some x)= .agg #[.int .i64 xb,.int .i64 xi]:=by rw[hxb,hxi];rfl
 rw[<-hxb,<-hxi] at yN;clear hxb hxi;have JQ:=ag oh;clear oh
 go_in
 go_wp2_with fail;refine HLg.o.mono ?_;rintro e w1 ⟨rfl,bK⟩;have H1:=ag (HH.o.on bK);have dw:=ag bK;clear bK;go_wp2_with fail;refine(QA.o w1 H1.o).mono ?_;rintro e w2 ⟨rfl,aW⟩;rw[JQ.o,show(some x).isSome=true from rfl];have bQ:=(dw.o.ay aW).alloc (Nat.le_trans dw.o.size aW.size) (.cells #[.int .i64 xb,.int .i64 xi] 247);have H2:=ag (HH.o.on bQ);have dA:=ag bQ;have HZ:=ag (aF.new w2 247 #[.int .i64 xb,.int .i64 xi]);have Af:=ag (show¬R w2.heap.size from(H1.o.on aW).aV (Nat.le_refl _));clear aW bQ;go_upto_region 7 with fail;generalize w2.alloc (.cells #[.int .i64 xb,.int .i64 xi] 247)=w3 at*;generalize w2.heap.size=Z at*;have gJ:=ag (show w3.drew.cell? ⟨f.F,0,none⟩=some (.pointer (some ⟨f.g.C,0,none⟩))/\aF w3.drew Z 247 #[.int .i64 xb,.int .i64 xi] from⟨(H2.o.on (ak w3)).c0,HZ.o.ah (ak w3)⟩);have H3:=ag (H2.o.on (ak w3));have dE:=ag (dA.o.ay (ak w3));refine iT (λW'=>W'.cell? ⟨f.F,0,none⟩=some (.pointer (some ⟨f.g.C,0,none⟩))/\aF W' Z 247 #[.int .i64 xb,.int .i64 xi]) gJ.o (λbJ=>?_);generalize w3.drew=W at*;clear gJ;refine dP 0 f.F 0 ?_;refine aS 1 f.F 0 ?_;refine aS 2 f.F 0 ?_;refine jy 3 (.pointer (some ⟨f.g.C,0,none⟩)) rfl (λ_ aI=>by obtain⟨y8,_⟩:=aI;go_simp) ?_;refine aS 4 Z 0 ?_;refine jH 5 (xb:Int) (λ_ aI=>aI.2.aj (i:=0) rfl) ?_;refine aS 6 Z 1 ?_;refine jH 7 (xi:Int) (λ_ aI=>aI.2.aj (i:=1) rfl) ?_;refine dm 8 (λK' hK=>?_);go_simp;refine(yN.o W H3.o).mono ?_;rintro e w4 ⟨⟨a4,c4,rfl,hc4,yB⟩,MZ,oU⟩;have rY:w4.cell? ⟨f.F,0,none⟩=some (.pointer (some ⟨f.g.C,0,none⟩))/\aF w4 Z 247 #[.int .i64 xb,.int .i64 xi]:=⟨MZ.c0,bJ.2.kq oU Af.o⟩
 have H4:=ag MZ;have mY:=ag ((Kq.of (T:=R) dE.o).trans oU);have awh:=ag mY.o.size;have vJ:=ag yB;have Va:=ag hc4;clear MZ oU yB hc4;refine hK.out _ _ rY (λwK=>?_)
 try simp only[aO]
 refine fE 9 (.tuple #[.slice a4 96 c4,.int .i64 0]) ?_;refine fE 10 (.slice a4 96 c4) ?_;refine ik 11 0 ?_;refine fB 12 (.slice a4 96 c4) ?_;refine eF 13 0 ?_;refine gB ?_;clear bJ rY wK;go_wp2_with fail;refine(aal a4 64 c4 _ w4 (vJ.o.arr (by rw[oJ.o];omega)) Va.o (.inl rfl) HTr.o.2.2).mono ?_;rintro e w5 ⟨a5,n5,c5,rfl,_,_,iP,_,YD⟩;rw[HTr.o.1,HTr.o.2.2];rw[HTr.o.2.1] at YD;have Dt:=ag (YD.mono awh.o);have pV:=ag iP;clear YD iP;have fQ:=(Below.refl w5.heap.size w5).alloc (Nat.le_refl _) (.cells #[.int .i64 x.t.k,.int .u32 (x.t.p:Int),.int .u64 (x.t.s:Int),.int .u64 (x.t.e:Int)] 67);have HX6:=ag (Dt.o.on fQ);have vP:=ag (pV.o.ay fQ);clear fQ;unfold tagV;go_wp2_with fail;go_ret2;exact⟨⟨_,rfl,HX6.o⟩,H4.o.on vP.o,mY.o.on vP.o⟩
end
end
section
open Go.RowKit Go.Maps Go.ChangeMaps eu eX
variable {NB B P n:Nat} {Q:Nat->Prop} {w w':World} {f:Fm} {s:Ps}

theorem adU (u:World):(Instr.makeSlice 23 (.int .i64 64) (.int .i64 64)).run prog u= .ok (.slice (some ⟨u.heap.size,0,none⟩) 64 64) (u.alloc (.cells (Array.replicate 64 (.int .u8 0)) 5)):=Hl 64 ae u
def alP (NB B:Nat) (Q:Nat->Prop) (P:Nat) (f:Fm) (s:Ps) (x:List UInt8) (w:World) (e:Ending) (w':World):Prop:=
 (∃v,e= .returned (.tuple #[v,.int .i64 0])/\Own aH 5 w' w.heap.size v x)/\bT NB B Q w' P f s/\Kq Q w w'
theorem zM.pl {R:Nat->Prop} {U D:Nat} {dl:List Dp} (h:zM NB B R w P U D dl f s) (h2:∀q,Hp P U D R dl q->Q q) (h3:∀q,Q q->B<=q/\q<w.heap.size):bT NB B Q w P f s:=⟨U,D,dl,R,h,h2,h3⟩
theorem lZ (h:bT NB B Q w P f s) (hn:s.There n):Calls prog 130 #[P,.int .i64 n] w (alP NB B Q P f s (s.g n) w):=by
 have aU:=Bi h hn;have HA:=ag (qK h hn);have HH:=ag h;obtain⟨U,D,dl,R,hc,ED,RZ⟩:=id h;have hx:=hc.ok.sz n hn;have c7:w.cell? ⟨P,7,none⟩=some (.map (some D)):=hc.hP.aj rfl;have c5:=h.c5;have c0:=h.c0;have hl:=hc.aqk (n:=n) ae;have hg:=hc.g n hn;unfold CX at hg;have o7:=hc.bd
 cases hd:tJ.get dl n with
 |some d=>
  obtain⟨hm,hk⟩:=Enc.get_mem hd;rw[hd] at hl hg;simp only at hg;have ho:=hc.ow d hm;rw[hg] at hx⊢;obtain⟨a,c,hv,hlc⟩:=ho.bZ hx;replace hl:(Instr.lookup 153 (.map (some D)) (.int .i64 n) true).run prog w= .ok (.tuple #[d.v,.bool true]) w:=hl;obtain⟨dv,hdv⟩:=bu d.v;rw[<-hdv] at hv hl ho;subst hv;have HC:=ag (ig a 64 c d.x w (ho.arr ae));clear h hc ED RZ hx hg o7 hd hm hk hdv ho hlc
  go_in
  go_wp2_with fail;refine HA.o.mono ?_;rintro e w_ ⟨rfl,rfl⟩;go_wp2_with fail;refine HC.o.mono ?_;rintro e w1 ⟨⟨v,rfl,ho⟩,hb⟩;have HO:=ag ho;have HB:=ag hb;clear ho hb;go_wp2;go_ret2;exact⟨⟨_,rfl,HO.o⟩,HH.o.on HB.o,Kq.of HB.o⟩
 |none=>
  rw[hd] at hl hg;simp only at hg;replace hl:(Instr.lookup 153 (.map (some D)) (.int .i64 n) true).run prog w= .ok (.tuple #[.slice none 0 0,.bool false]) w:=hl;have gw:=show IntKind.u32.wrap (n:Int)=(n:Int) from IntWalk.u32_in (n:Int) ⟨ae,ae⟩;have uY:=adU
  cases hv:vw f n with
  |some y=>
   rw[hv] at hg;simp only at hg;obtain⟨e0,he,hed,_⟩:=Ba hv;have yN:=ag (zh hc.hf hc.fc n ae ae ae e0 he);rw[hg,<-hed];have HC:=ag hc;have Ru:=ag ED;have U5:=ag RZ;clear h hc ED RZ hx hg o7 hd hv
   go_in
   go_wp2_with fail;refine HA.o.mono ?_;rintro e w_ ⟨rfl,rfl⟩;go_wp2_with fail;refine yN.o.mono ?_;rintro e w1 ⟨⟨v,rfl,ho⟩,hm,hk⟩;have HO:=ag ho;have hK:Kq R w w1:=hk;have HK:=ag (hK.mono λq hq=>Ru.o q (.inr (.inr (.inr (.inl hq)))));have JQ:=ag (show bT NB B Q w1 P f s from by have hc:=HC.o;refine zM.pl (U:=U) (D:=D) (dl:=dl) (R:=R) ⟨hc.hP.kq hK hc.nr.1,hc.hU.same (hK.block _ hc.hU.lt hc.nr.2.1),hc.hD.same (hK.block _ hc.hD.lt hc.nr.2.2),hm,hc.fc,hc.ok,hc.bd,hc.dt,λd hd=>(hc.ow d hd).kq hK λq hq=>(hc.nu d hd q hq).2.2.2,hc.g,hc.ne,hc.nr,hc.nu,hc.dy⟩ Ru.o λq hq=>⟨(U5.o q hq).1,Nat.lt_of_lt_of_le (U5.o q hq).2 hK.size⟩);clear ho hm hk hK;go_wp2;go_ret2;exact⟨⟨_,rfl,HO.o⟩,JQ.o,HK.o⟩
  |none=>
   rw[hv] at hg;simp only at hg;have aqn:lW f n=none:=by
    unfold vw at hv
    cases hz:lW f n with
    |none=>rfl
    |some e=>rw[hz] at hv;cases hv
   have yN:=ag (vF hc.hf hc.fc n ae ae ae aqn);rw[hg];clear hc ED RZ hx hg o7 hd hv aqn h
   go_in
   go_wp2_with fail;refine HA.o.mono ?_;rintro e w_ ⟨rfl,rfl⟩;go_wp2_with fail;refine yN.o.mono ?_;rintro e w1 ⟨rfl,hb⟩;have c5':=(HH.o.on hb).c5;have HB:=ag (hb.alloc hb.size (.cells (Array.replicate 64 (.int .u8 0)) 5));have HO:=ag ((nH w1 w1.heap.size 64 (Nat.le_refl _) ae).mono hb.size);clear hb;go_wp2;go_ret2;exact⟨⟨_,rfl,HO.o⟩,HH.o.on HB.o,Kq.of HB.o⟩
end
section
open Go.RowKit Go.Maps Go.ChangeMaps eu eX
variable {NB B P U D n:Nat} {R Q:Nat->Prop} {w w' w1 w2:World} {f:Fm} {s:Ps} {dl:List Dp}

theorem alQ {u:Value} {D:Nat} (hu:∀q,u.ownBlock=some q->q≠D):u.ownBlock=none\/u.ownBlock≠some D:=by
 cases hb:u.ownBlock with
 |none=>exact .inl rfl
 |some q=>exact .inr (λe=>hu q hb (Option.some.inj e))
theorem zM.on (h:zM NB B R w P U D dl f s) (hb:Below w.heap.size w w'):zM NB B R w' P U D dl f s:=h.kq (T:=λ_=>False) (Kq.of hb) λ_ _ h=>h
theorem zM.hi (h:zM NB B R w P U D dl f s):P<w.heap.size/\U<w.heap.size/\D<w.heap.size:=⟨h.hP.lt,h.hU.lt,h.hD.lt⟩
theorem ahK (h:zM NB B R w P U D dl f s) (n:Nat):(CX f dl n).length=64:=by
 unfold CX
 cases hd:tJ.get dl n with
 |some d=>
  obtain⟨hm,hk⟩:=Enc.get_mem hd;have h1:=h.g d.n (h.dt d hm);unfold CX at h1;have hk:d.n=n:=hk;rw[hk,hd] at h1;simp only at h1⊢;rw[<-h1];exact h.ok.sz n (hk▸h.dt d hm)
 |none=>
  simp only
  cases hv:vw f n with
  |some y=>
   obtain⟨e,he,h1,_⟩:=Ba hv;simp only;rw[<-h1];exact(h.fc.fi.ok e (IG he)).len
  |none=>exact dR
theorem zM.aqo (h:zM NB B R w P U D dl f s) (h2:∀q,Hp P U D R dl q->Q q) (h3:∀q,Q q->B<=q/\q<w.heap.size) (hb:Below w.heap.size w w1) (hn:s.There n) (h9:n<4294967296) {v:Value} {x:List UInt8} (ho:Own aH 5 w1 w.heap.size v x) (hx:x.length=64):
  ∃o,(Instr.mapUpdate 153 (.map (some D)) (.int .i64 n) v).run prog w1= .ok () (setBlock w1 D o)/\jJ NB B Q w (setBlock w1 D o) P f (s.put n x):=by
 have hh:=h.hi;have hB:B<=w.heap.size:=by have:=h3 P (h2 P (.inl rfl));omega
 have hRl:∀q,R q->q<w.heap.size:=λq hq=>(h3 q (h2 q (.inr (.inr (.inr (.inl hq)))))).2;obtain⟨o,r1,r2,r3⟩:=(h.on hb).put hn h9 (ho.mono (Nat.zero_le _)) hx λq hq=>by have:=(ho.aP q hq).1;refine⟨ae,ae,ae,λhr=>?_⟩;have:=hRl q hr;omega
 have iO:=hb.size;have mr:=r3.size;refine⟨o,r1,⟨U,D,_,R,r2,λq hq=>?_,λq hq=>?_⟩,(Kq.of hb).trans ((Kq.grown r3).mono λk hk=>Option.some.inj hk▸h2 D (.inr (.inr (.inl rfl))))⟩
 ·rcases hq with e|e|e|e|⟨d,hd,e⟩
  ·exact .inl (h2 q (.inl e))
  ·exact .inl (h2 q (.inr (.inl e)))
  ·exact .inl (h2 q (.inr (.inr (.inl e))))
  ·exact .inl (h2 q (.inr (.inr (.inr (.inl e)))))
  ·rcases Enc.Gl hd with rfl|hd
   ·have:=ho.aP q e;exact .inr ⟨this.1,ae⟩
   ·exact .inl (h2 q (.inr (.inr (.inr (.inr ⟨d,hd,e⟩)))))
 ·rcases hq with e|e
  ·have:=h3 q e;omega
  ·omega
theorem uK (h:bT NB B Q w P f s) (hn:s.There n) (a:Option Addr) (c:Nat) (x:List UInt8) (hx:Bytes w w.heap.size a 64 x):
  Calls prog 138 #[P,.int .i64 n,.slice a 64 c] w λe w'=>e= .returned (.int .i64 0)/\jJ NB B Q w w' P f (s.put n x):=by
 have aU:=Bi h hn;have hA:=ag (qK h hn);have Oi:=hx.len;obtain⟨U,D,dl,R,hc,ED,RZ⟩:=id h;have c5:=h.c5;have HC0:=ag (hc.on (ak w));have Ru:=ag ED;have U5:=ag RZ;have HN:=ag hn;have HLT:=ag aU;have hC:=ag (ig a 64 c x w.drew (hx.on (ak w)));have HXL:=ag Oi;have c7:w.drew.cell? ⟨P,7,none⟩=some (.map (some D)):=HC0.o.hP.aj rfl;have HC7:=ag c7;clear h hx hn hc ED RZ aU Oi c7
 go_in
 go_wp2_with fail;refine hA.o.mono ?_;rintro e w_ ⟨rfl,rfl⟩;go_wp2_with fail;refine iT (λW'=>W'.cell? ⟨P,7,none⟩=some (.map (some D))) HC7.o (λbJ=>?_);refine dP 0 P 0 ?_;refine aS 1 P 0 ?_;refine aS 2 P 7 ?_;refine fE 3 (.map (some D)) ?_;refine eF 4 (n:Int) ?_;refine fB 5 (.slice a 64 c) ?_;refine dm 6 (λK' hK=>?_);go_simp;refine hC.o.mono ?_;rintro e w1 ⟨⟨v,rfl,ho⟩,hb⟩;have Dh:=HC0.o.on hb;obtain⟨o,bP,iU⟩:=HC0.o.aqo (Q:=Q) Ru.o U5.o hb HN.o (by have:=HLT.o;omega) ho HXL.o;have pF:=ag (jJ.from_ (ak w) iU (by have:=U5.o P (Ru.o P (.inl rfl));omega));have kD:=pF.o.1.hP;have rY:(setBlock w1 D o).cell? ⟨P,7,none⟩=some (.map (some D)):=by
  have h1:aF (setBlock w1 D o) P 155 (FI f.F U D s):=by have dh:=HC0.o.ne.2.1;have h2:=iM Dh.hD o;exact Dh.hP.grown h2 (by intro e;injection e with e;exact dh e)
  exact h1.aj rfl
 refine hK.out _ _ (Dh.hP.aj rfl) (λdH=>?_)
 try simp only[aO]
 clear Dh iU ho hb kD;refine dm 7 (λK' hK=>?_);go_simp;refine hK.out _ _ rY (λgm=>?_)
 try simp only[aO]
 refine gB ?_;clear bJ dH gm bP c5 rY;go_wp2;go_ret;exact⟨rfl,pF.o⟩
theorem zM.mark (h:zM NB B R w P U D dl f s) (hn:s.Nx n):∃o,(Instr.mapUpdate 152 (.map (some U)) (.int .i64 n) (.int .i64 n)).run prog w= .ok () (setBlock w U o)/\
  zM NB B R (setBlock w U o) P U D dl f (s.Pm n (CX f dl n))/\w.grownBy (setBlock w U o) (some U):=by
 have o7:=h.bd;have hlo:=hn.lo;have hhi:=hn.hi;obtain⟨n1,n2,n3⟩:=h.ne;obtain⟨o,h1,h3,h4⟩:=h.hU.put eu.vC Tryz.underlying152 n (eu.Fq (show n<4294967296 by omega));rw[Enc.Yz (E:=yC) (l:=s.us) (e:=n) (λy hy e=>hn.new ((show y=n from e)▸hy))] at h3;refine⟨o,h1,⟨h.hP.grown h4 (by intro e;injection e with e;exact n1 e),h3,h.hD.same (h4.block _ h.hD.lt (by intro e;injection e with e;exact n3 e.symm)),h.hf.kq (Kq.grown h4) λq hq e=>h.nr.2.1 (Option.some.inj e▸hq),h.fc,h.ok.Pm hn (ahK h n),h.bd,λd hd=>Ps.qJ.2 (.inl (h.dt d hd)),λd hd=>(h.ow d hd).grown h4 (alQ λq e=>(h.nu d hd q e).2.1),λm hm=>?_,h.ne,h.nr,h.nu,h.dy⟩,h4⟩;show ru s.g n (CX f dl n) m=_;by_cases e:m=n
 ·subst e;rw[gW]
 ·rw[eY e];rcases Ps.qJ.1 hm with h5|h5
  ·exact h.g m h5
  ·exact absurd h5 e
theorem zM.del (h:zM NB B R w P U D dl f s) (hn:s.tb<n) (h9:n<4294967296) (ty1 ty2:TypeId):
  ∃o1 o2,(Builtin.delete_ #[152,3] ty1 #[.map (some U),.int .i64 n]).run prog w= .ok (.tuple #[]) (setBlock w U o1)/\(setBlock w U o1).cell? ⟨P,7,none⟩=some (.map (some D))/\
   (Builtin.delete_ #[153,3] ty2 #[.map (some D),.int .i64 n]).run prog (setBlock w U o1)= .ok (.tuple #[]) (setBlock (setBlock w U o1) D o2)/\
   zM NB B R (setBlock (setBlock w U o1) D o2) P U D (tJ.del dl n) f (s.del n)/\Kq (λq=>q=U\/q=D) w (setBlock (setBlock w U o1) D o2):=by
 obtain⟨n1,n2,n3⟩:=h.ne;obtain⟨o1,r1,r2,r3⟩:=h.hU.del (p:=n) eu.vC Tryz.underlying152 (eu.Fq h9) ty1;have hD1:=h.hD.same (w':=setBlock w U o1) (r3.block _ h.hD.lt (by intro e;injection e with e;exact n3 e.symm));have hP1:=h.hP.grown r3 (by intro e;injection e with e;exact n1 e);obtain⟨o2,t1,t2,t3⟩:=hD1.del (p:=n) eu.vC Tryz.underlying153 (eu.Fq h9) ty2;have hk:Kq (λq=>q=U\/q=D) w (setBlock (setBlock w U o1) D o2):=((Kq.grown r3).mono λk hk=> .inl (Option.some.inj hk).symm).trans ((Kq.grown t3).mono λk hk=> .inr (Option.some.inj hk).symm);refine⟨o1,o2,r1,hP1.aj rfl,t1,⟨h.hP.kq hk (by rintro(e|e);exact n1 e;exact n2 e),?_,t2,h.hf.kq hk ?_,h.fc,h.ok.del hn,h.bd,λd hd=>?_,λd hd=>?_,λm hm=>?_,h.ne,h.nr,λd hd=>h.nu d (Enc.Gm.1 hd).1,λm=>?_⟩,hk⟩
 ·have hU2:=r2.same (w':=setBlock (setBlock w U o1) D o2) (t3.block _ r2.lt (by intro e;injection e with e;exact n3 e));exact hU2
 ·rintro q hq (e|e)
  ·exact h.nr.2.1 (e▸hq)
  ·exact h.nr.2.2 (e▸hq)
 ·obtain⟨h1,h2⟩:=Enc.Gm.1 hd;exact(Ps.yh hn).2 ⟨h.dt d h1,h2⟩
 ·obtain⟨h1,h2⟩:=Enc.Gm.1 hd;exact(h.ow d h1).kq hk λq hq=>by
   have:=h.nu d h1 q hq;rintro(e|e)
   ·exact this.2.1 e
   ·exact this.2.2.1 e
 ·obtain⟨h1,h2⟩:=(Ps.yh hn).1 hm;show ru s.g n [] m=_;rw[eY h2,ahH f dl h2];exact h.g m h1
 ·rw[Enc.YA];show(s.dy m/\m≠n)↔_;by_cases e:m=n
  ·rw[if_pos e];exact⟨λh1=>absurd e h1.2,λh1=>by cases h1⟩
  ·rw[if_neg e,<-h.dy m];exact⟨λh1=>h1.1,λh1=>⟨h1,e⟩⟩
end
section
open Go.RowKit Go.Maps Go.ChangeMaps eu eX
variable {NB B P U D n:Nat} {R Q:Nat->Prop} {w w' w1 w2:World} {f:Fm} {s:Ps} {dl:List Dp}

theorem Ip (h:bT NB B Q w P f s) (hn:s.Nx n):
  Calls prog 136 #[P] w λe w'=>e= .returned (.tuple #[.int .i64 n,.int .i64 0])/\jJ NB B Q w w' P f (s.add n):=by
 have HP:=ag h;have c2:=h.c2;have uY:=adU;have o7:=h.bd;have HBD:=ag o7;have hlo:=hn.lo;have hhi:=hn.hi;have HN:=ag hn;have iC:=ag h.base;clear h hn
 go_in
 go_wp2_with fail
 go_loopw [4] (λi wr=>∃k:Nat,s.tb<k/\k<=n/\i= .int .i64 k/\bT NB B Q wr P f s/\Below w.heap.size w wr) (λi _=>n+1-(intOf i).toNat)
 case atStart=>exact⟨s.tb+1,ae,ae,by go_num,HP.o,Below.refl _ _⟩
 case round=>
  obtain⟨k,h2,hk,rfl,hp,hb⟩:=hrel;have HG:=ag (wX hp h2 ae);have HB:=ag hb;have CQ:=ag hp;have iv:=IntWalk.i64_in ((k:Int)+1) ⟨ae,ae⟩;clear hp hb c2;by_cases aU:k<n
  ·have HK:=ag (HN.o.least k h2 aU);go_wp2_with fail;refine HG.o.mono ?_;rintro e w1 ⟨rfl,bK⟩;have uw:=ag (CQ.o.on bK);have dw:=ag (HB.o.ay bK);clear bK;go_wp2_with fail;refine(uS uw.o (.inr HK.o) (by have:=HBD.o;omega)).mono ?_;rintro e w_ ⟨rfl,rfl⟩;go_wp2_with fail;go_roundw
   case rel=>exact⟨k+1,ae,ae,by go_num,uw.o,dw.o⟩
   case measure=>simp[intOf];omega
  ·obtain rfl:k=n:=ae;go_wp2_with fail;refine HG.o.mono ?_;rintro e w1 ⟨rfl,bK⟩;have Dh:=CQ.o.on bK;have hT:=EH Dh h2 ae;rw[decide_eq_false HN.o.new] at hT;have HT:=ag hT;obtain⟨U,D,dl,R,hc,ED,RZ⟩:=id Dh;have c6:w1.cell? ⟨P,6,none⟩=some (.map (some U)):=hc.hP.aj rfl;obtain⟨o,bP,hm,hg⟩:=hc.mark HN.o;have HM:=ag hm;have mF:=ag ((Kq.of (T:=Q) (HB.o.ay bK)).trans ((Kq.grown hg).mono λq hq=>Option.some.inj hq▸ED U (.inr (.inl rfl))));have HS:=ag hg.size;have Ru:=ag ED;have U5:=ag RZ;clear Dh hT hc hm hg bK HG ED RZ iv aU;go_wp2_with fail;refine HT.o.mono ?_;rintro e w_ ⟨rfl,rfl⟩;go_upto_region 8 with fail;generalize setBlock w1 U o=W8 at*;have hd8:=HM.o.on (ak W8);have fQ:Below W8.drew.heap.size W8.drew (W8.drew.alloc (.cells (Array.replicate 64 (.int .u8 0)) 5)):=(Below.refl _ _).alloc (Nat.le_refl _) _;have hq3:∀q,Q q->B<=q/\q<W8.drew.heap.size:=λq hq=>⟨(U5.o q hq).1,Nat.lt_of_lt_of_le (U5.o q hq).2 HS.o⟩
   obtain⟨o2,aqr,iU⟩:=hd8.aqo (Q:=Q) Ru.o hq3 fQ (n:=k) (Ps.qJ.2 (.inr rfl)) ae (v:= .slice (some ⟨W8.drew.heap.size,0,none⟩) 64 64) (nH W8.drew W8.drew.heap.size 64 (Nat.le_refl _) ae) dR;rw[Ps.adV] at iU;have pF:=ag (jJ.behind (mF.o.on (ak W8)) iU iC.o);have HB8:=ag (show W8.drew.cell? ⟨P,7,none⟩=some (.map (some D))/\W8.drew.cell? ⟨P,5,none⟩=some (.int .i64 64) from⟨hd8.hP.aj rfl,hd8.hP.aj rfl⟩);have hd9:=hd8.on fQ;have HB9:=ag (show(W8.drew.alloc (.cells (Array.replicate 64 (.int .u8 0)) 5)).cell? ⟨P,7,none⟩=some (.map (some D))/\(W8.drew.alloc (.cells (Array.replicate 64 (.int .u8 0)) 5)).cell? ⟨P,5,none⟩=some (.int .i64 64) from⟨hd9.hP.aj rfl,hd9.hP.aj rfl⟩);have ahL:=ag (show(setBlock (W8.drew.alloc (.cells (Array.replicate 64 (.int .u8 0)) 5)) D o2).cell? ⟨P,7,none⟩=some (.map (some D))/\(setBlock (W8.drew.alloc (.cells (Array.replicate 64 (.int .u8 0)) 5)) D o2).cell? ⟨P,5,none⟩=some (.int .i64 64) from by have dh:=hd9.ne.2.1;have h2:=hd9.hP.grown (iM hd9.hD o2) (by intro e;injection e with e;exact dh e);exact⟨h2.aj rfl,h2.aj rfl⟩);clear iU fQ bP hd8 hd9 c6 hq3;refine iT (λW'=>W'.cell? ⟨P,7,none⟩=some (.map (some D))/\W'.cell? ⟨P,5,none⟩=some (.int .i64 64)) HB8.o (λbJ=>?_);generalize W8.drew=W9 at*;refine dP 0 P 0 ?_;refine aS 1 P 0 ?_;refine aS 2 P 7 ?_;refine tC 3 (.map (some D)) (λ_ aI=>aI.1) ?_;refine eF 4 (k:Int) ?_;refine dP 5 P 0 ?_;refine aS 6 P 0 ?_;refine aS 7 P 5 ?_;refine jH 8 64 (λ_ aI=>aI.2) ?_;refine dm 9 (λK' hK=>?_);go_simp;refine hK.out _ _ HB9.o (λdH=>?_)
   try simp only[aO]
   refine dm 10 (λK' hK=>?_);go_simp;refine hK.out _ _ ahL.o (λgm=>?_)
   try simp only[aO]
   refine gB ?_;clear bJ dH gm aqr uY;go_wp2;go_ret2;exact⟨rfl,pF.o⟩
theorem KW (h:bT NB B Q w P f s) (hn:n∈s.us):
  Calls prog 161 #[P,.int .i64 n] w λe w'=>e= .returned (.int .i64 0)/\jJ NB B Q w w' P f (s.del n):=by
 have hr:=h.ok.us n hn;have o7:=h.bd;have hA:=ag (qK h (.inr hn));have hG:=ag (wX h hr.1 hr.2);have HP:=ag h;have iC:=ag h.base;clear h
 go_in
 go_wp2_with fail;refine hA.o.mono ?_;rintro e w_ ⟨rfl,rfl⟩;go_wp2_with fail;refine hG.o.mono ?_;rintro e w1 ⟨rfl,bK⟩;obtain⟨U,D,dl,R,hc,ED,RZ⟩:=HP.o.on bK;have c6:w1.cell? ⟨P,6,none⟩=some (.map (some U)):=hc.hP.aj rfl;obtain⟨o1,o2,r1,r2,r3,r4,r5⟩:=hc.del hr.1 (show n<4294967296 by omega) 0 0;have r1:∀ty,(Builtin.delete_ #[152,3] ty #[.map (some U),.int .i64 n]).run prog w1= .ok (.tuple #[]) (setBlock w1 U o1):=λ_=>r1;have r3:∀ty,(Builtin.delete_ #[153,3] ty #[.map (some D),.int .i64 n]).run prog (setBlock w1 U o1)= .ok (.tuple #[]) (setBlock (setBlock w1 U o1) D o2):=λ_=>r3;have iO:=bK.size;have HF:=ag (show jJ NB B Q w (setBlock (setBlock w1 U o1) D o2) P f (s.del n) from by
  have fA:=r5.mono (T':=Q) λq hq=>by
   rcases hq with rfl|rfl
   ·exact ED _ (.inr (.inl rfl))
   ·exact ED _ (.inr (.inr (.inl rfl)))
  have ja:=r5.size;have oh:bT NB B Q (setBlock (setBlock w1 U o1) D o2) P f (s.del n):=⟨U,D,_,R,r4,λq hq=>ED q (by
   rcases hq with e|e|e|e|⟨d,hd,e⟩
   ·exact .inl e
   ·exact .inr (.inl e)
   ·exact .inr (.inr (.inl e))
   ·exact .inr (.inr (.inr (.inl e)))
   ·exact .inr (.inr (.inr (.inr ⟨d,(Enc.Gm.1 hd).1,e⟩)))),λq hq=>⟨(RZ q hq).1,by have:=(RZ q hq).2;omega⟩⟩
  exact jJ.from_ bK (bT.acU oh fA (by have:=iC.o;omega)) iC.o)
 clear hc ED RZ bK r4 r5 iO;go_wp2;go_ret;exact⟨rfl,HF.o⟩
end
end Go.Proofs.YtnieckfelfoopaaGreat

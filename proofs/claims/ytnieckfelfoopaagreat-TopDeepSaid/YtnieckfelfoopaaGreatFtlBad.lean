import Derived.Test.YtnieckfelfoopaaGreatFtlMem
open Go.Proofs.Tryz (prog)
namespace Go.Proofs.YtnieckfelfoopaaGreat
open Lib (hid)
set_option maxRecDepth 100000
set_option maxHeartbeats 16000000
section
open Go.RowKit

namespace eX
end eX
end
section
open Go.RowKit

namespace eX
end eX
end
section
open Go.RowKit

namespace o8
theorem Inv.perm {NB:Nat} {g:Mg} {h1 h2:List Nat} {n:Nat} (h:Inv NB g h1 n) (hp:h1.Perm h2):Inv NB g h2 n:=
 ⟨h.len,λk hk=>by rw[<-hp.count_eq];exact h.bk k hk,h.gap,h.opn,h.even,λx hx=>h.hm x (hp.mem_iff.2 hx),by rw[<-hp.length_eq];exact h.hl⟩
theorem Inv.le {NB:Nat} {g:Mg} {held:List Nat} {n m:Nat} (h:Inv NB g held n) (hn:n<=m):Inv NB g held m:=
 ⟨h.len,λk hk=>let b:=h.bk k hk;⟨b.st,b.lv,b.nx,b.l8,b.op,b.fr,b.fu,b.sl,b.we,by have:=b.wn;omega,b.bad,b.brk⟩,h.gap,h.opn,h.even,h.hm,by have:=h.hl;omega⟩
theorem Inv.drop1 {NB:Nat} {g:Mg} {k n:Nat} {l:List Nat} (h:Inv NB g (k::l) n):Inv NB {g with l:=g.l.set k (fP (Gc.at_ g.l k))} l (n+1):=by have h0:0<(k::l).length:=Nat.succ_pos _;refine(h.drop h0).perm (List.perm_iff_count.2 λq=>?_);have:=sU (q:=q) h0;rw[List.count_cons] at this;simp only[List.getElem_cons_zero,beq_iff_eq] at this;omega
end o8
namespace Gc
theorem count_set (s:Nat) {l:List Bk} {k:Nat} (y:Bk) (hk:k<l.length):count s (l.set k y)+(if (at_ l k).st=s then 1 else 0)=count s l+(if y.st=s then 1 else 0):=by
 unfold count
 induction l generalizing k with
 |nil=>simp at hk
 |cons x t ih=>
  cases k with
  |zero=>
   rw[List.set_cons_zero,List.filter_cons,List.filter_cons];have e:at_ (x::t) 0=x:=rfl;rw[e];by_cases h1:x.st=s<;>by_cases h2:y.st=s<;>simp[h1,h2]
  |succ k=>
   have:=ih (k:=k) (by simpa using hk);rw[List.set_cons_succ,List.filter_cons,List.filter_cons];have e:at_ (x::t) (k+1)=at_ t k:=rfl;rw[e];by_cases h1:x.st=s
   ·simp only[h1,decide_true,if_true,List.length_cons];omega
   ·simp only[h1,decide_false,Bool.false_eq_true,if_false];exact this
theorem tZ (s:Nat) (l:List Bk):count s l=o8.Kz (λi=>if (at_ l i).st=s then 1 else 0) l.length:=by
 have h:∀k,k<=l.length->count s (l.take k)=o8.Kz (λi=>if (at_ l i).st=s then 1 else 0) k:=by
  intro k
  induction k with
  |zero=>intro _;rfl
  |succ k ih=>
   intro hk;rw[IK s l ae,ih ae];rfl
 have:=h l.length (Nat.le_refl _);rw[List.take_length] at this;exact this
end Gc
namespace eX
structure Gp (g:Mg) (e:En):Prop where
 pg:(g.bl e.b).sS e.i=some (Tg.page e.t e.d)
 nx:e.i<(g.bl e.b).nx
 i8:e.i<8
structure Oe (e:En):Prop where
 rt:Tg.Right e.t
 len:e.d.length=64
theorem Oe.key {e:En} (h:Oe e):e.t.p<4294967296:=by have:=h.rt.2.1;omega
theorem Oe.awg {e:En} (h:Oe e):(Tg.page e.t e.d).length=96:=by rw[Tg.um,h.len]
structure Fi (NB n:Nat) (x:List Nat) (g:Mg) (E:List En):Prop where
 nb:5<=NB/\NB<=1000
 w:o8.Inv NB g (E.map (·.b)++x) n
 pg:∀e∈E,Gp g e
 ok:∀e∈E,Oe e
 res:g.res=2
 bad:g.bad=0
 al:∀k i L,k<NB->i<8->(g.bl k).sS i=some L->g.gh L
 er:∀k,k<NB->∀i,i<8->((g.bl k).sS i=none↔(g.bl k).nx<=i)
section
variable {NB n k:Nat} {x y:List Nat} {g g':Mg} {E E':List En} {e e0:En}
theorem Fi.perm (h:Fi NB n x g E) (hp:E.Perm E'):Fi NB n x g E':=
 ⟨h.nb,h.w.perm ((hp.map _).append_right x),λe he=>h.pg e (hp.mem_iff.2 he),λe he=>h.ok e (hp.mem_iff.2 he),h.res,h.bad,h.al,h.er⟩
theorem Fi.le {m:Nat} (h:Fi NB n x g E) (hn:n<=m):Fi NB m x g E:=⟨h.nb,h.w.le hn,h.pg,h.ok,h.res,h.bad,h.al,h.er⟩
theorem Fi.lt (h:Fi NB n x g E) (he:e∈E):e.b<NB:=h.w.hm _ (List.mem_append_left _ (List.mem_map.2 ⟨e,he,rfl⟩))
theorem Fi.ltx (h:Fi NB n x g E) (hk:k∈x):k<NB:=h.w.hm _ (List.mem_append_right _ hk)
theorem Fi.add (h:Fi NB n (e.b::x) g E) (hg:Gp g e) (ho:Oe e) (hp:E'.Perm (e::E)):Fi NB n x g E':=by
 refine⟨h.nb,h.w.perm ?_,λa ha=>?_,λa ha=>?_,h.res,h.bad,h.al,h.er⟩
 ·refine List.Perm.trans ?_ ((hp.map (·.b)).symm.append_right x);rw[List.map_cons];exact List.perm_middle
 ·rcases List.mem_cons.1 (hp.mem_iff.1 ha) with rfl|h1
  ·exact hg
  ·exact h.pg a h1
 ·rcases List.mem_cons.1 (hp.mem_iff.1 ha) with rfl|h1
  ·exact ho
  ·exact h.ok a h1
theorem Fi.del (h:Fi NB n x g E) (hp:(e0::E').Perm E):Fi NB n (e0.b::x) g E':=by refine⟨h.nb,h.w.perm ?_,λa ha=>h.pg a (hp.mem_iff.1 (List.mem_cons_of_mem _ ha)),λa ha=>h.ok a (hp.mem_iff.1 (List.mem_cons_of_mem _ ha)),h.res,h.bad,h.al,h.er⟩;refine((hp.map (·.b)).symm.append_right x).trans ?_;rw[List.map_cons];exact List.perm_middle.symm
theorem Fi.drop (h:Fi NB n (k::x) g E):Fi NB (n+1) x {g with l:=g.l.set k (fP (Gc.at_ g.l k))} E:=
 ⟨h.nb,(h.w.perm List.perm_middle).drop1,λe he=>⟨(h.pg e he).pg,(h.pg e he).nx,(h.pg e he).i8⟩,h.ok,h.res,h.bad,h.al,h.er⟩
theorem Fi.prog {i:Nat} {bs:List UInt8} (h:Fi NB n x g E) (hw:o8.Inv NB g' (E.map (·.b)++x++[k]) (n+1)) (hb:g'.bl=upd g.bl k (zO (g.bl k) i bs)) (hi:i=(g.bl k).nx) (h1:g'.res=g.res) (h2:g'.bad=g.bad) (h3:g'.gh=g.gh) (hP:g.gh bs):Fi NB (n+1) (k::x) g' E:=by
 refine⟨h.nb,hw.perm ?_,λe he=>?_,h.ok,h1.trans h.res,h2.trans h.bad,λj q L hj hq=>?_,λj hj q hq=>?_⟩
 ·rw[List.append_assoc];exact List.Perm.append_left _ (List.perm_append_comm)
 ·obtain⟨a1,a2,a3⟩:=h.pg e he;by_cases hk:e.b=k
  ·refine⟨?_,?_,a3⟩
   ·rw[hb,hk,upd_same];show upd (g.bl k).sS i _ e.i=_;rw[bH _ _ (by rw[hk] at a2;omega),<-hk];exact a1
   ·rw[hb,hk,upd_same];show e.i<i+1;rw[hk] at a2;omega
  ·exact⟨by rw[hb,bH _ _ hk];exact a1,by rw[hb,bH _ _ hk];exact a2,a3⟩
 ·rw[hb,h3];by_cases hk:j=k
  ·rw[hk,upd_same];show upd (g.bl k).sS i (some bs) q=some L->_;by_cases hqi:q=i
   ·rw[hqi,upd_same];intro e;obtain rfl:=Option.some.inj e;exact hP
   ·rw[bH _ _ hqi,<-hk];exact h.al j q L hj hq
  ·rw[bH _ _ hk];exact h.al j q L hj hq
 ·rw[hb];by_cases hk:j=k
  ·rw[hk,upd_same];show upd (g.bl k).sS i (some bs) q=none↔i+1<=q;by_cases hqi:q=i
   ·rw[hqi,upd_same];constructor
    ·intro e;cases e
    ·intro e;omega
   ·rw[bH _ _ hqi,<-hk,h.er j hj q hq,hk,<-hi];omega
  ·rw[bH _ _ hk];exact h.er j hj q hq
theorem Fi.ghost {P:List UInt8->Prop} (h:Fi NB n x g E) (hP:∀L,g.gh L->P L):Fi NB n x {g with gh:=P} E:=
 ⟨h.nb,⟨h.w.len,h.w.bk,h.w.gap,h.w.opn,h.w.even,h.w.hm,h.w.hl⟩,λe he=>⟨(h.pg e he).pg,(h.pg e he).nx,(h.pg e he).i8⟩,h.ok,h.res,h.bad,λk i L hk hi hl=>hP L (h.al k i L hk hi hl),h.er⟩
end
end eX
end
section
open Go.RowKit

namespace eX
structure Pgd (NB:Nat) (g g':Mg) (k i:Nat) (bs:List UInt8):Prop where
 hk:k<NB
 hi:i=(g.bl k).nx
 i8:i<8
 bl:g'.bl=upd g.bl k (zO (g.bl k) i bs)
 M:g'.M=g.M
 ML:g'.ML=g.ML
 C:g'.C=g.C
 res:g'.res=g.res
 bad:g'.bad=g.bad
 gh:g'.gh=g.gh
 row:∀q,q≠k->Gc.at_ g'.l q=Gc.at_ g.l q
 aQ:(Gc.at_ g'.l k).aQ=(Gc.at_ g.l k).aQ
 live:(Gc.at_ g'.l k).live=(Gc.at_ g.l k).live+1
 st:(Gc.at_ g'.l k).st=if i+1=8 then 2 else 1
 nx:(Gc.at_ g'.l k).nx=i+1
 opn:g'.opn=if i+1=8 then-1 else(k:Int)
 was:(g.opn= -1/\(Gc.at_ g.l k).st=0/\i=0/\Gc.count 0 g'.l+1=Gc.count 0 g.l)\/(g.opn=(k:Int)/\(Gc.at_ g.l k).st=1/\(Gc.at_ g.l k).nx=i/\Gc.count 0 g'.l=Gc.count 0 g.l)
end eX
section
open eX
variable {NB B n:Nat} {R:Nat->Prop} {w:World} {f:Fm} {x:List Nat} {E:List En}
theorem Bq (h:dB NB B R w f) {k:Nat} (hi:Fi NB n (k::x) f.g E):
  Calls prog 202 #[f.g.M,.int .i64 k] w λe w'=>e= .returned (.int .i64 0)/\dB NB B R w' {f with g:={f.g with l:=f.g.l.set k (fP (Gc.at_ f.g.l k))}}/\Kq R w w'/\Kq (λq=>q=f.g.ML) w w':=by
 obtain⟨S,a1,a2,a3⟩:=h;have hk:=hi.ltx (k:=k) au;have hb:=hi.w.bk k hk;have hc:0<(E.map (·.b)++k::x).count k:=List.count_pos_iff.2 au;refine(Tu a1.hg hk (Gc.lJ.2 (by have:=hb.st;omega)) (by rw[hb.lv];exact hc) (by have:=hb.l8;omega)).mono ?_;rintro e w' ⟨rfl,hm,hq⟩;obtain⟨h1,h2⟩:=YK a1 a2 a3 hm (hq.mono λq e=> .inr (.inl e)) rfl rfl rfl rfl rfl;exact⟨rfl,h1,h2,hq⟩
theorem dB.aqG (h:dB NB B R w f):f.NO≠f.g.ML/\f.GO≠f.g.ML/\f.SE≠f.g.ML:=by obtain⟨S,a1,_⟩:=h;exact⟨λe=>a1.ns _ (.inr (.inr (.inl rfl))) (.inr (.inl e)),λe=>a1.ns _ (.inr (.inr (.inr (.inl rfl)))) (.inr (.inl e)),λe=>a1.ns _ (.inr (.inl rfl)) (.inr (.inl e))⟩
def awp (NB B:Nat) (R:Nat->Prop) (n:Nat) (x:List Nat) (E:List En) (f:Fm) (bs:List UInt8) (w:World) (e:Ending) (w':World):Prop:=
 ∃(k i:Nat) (g':Mg),e= .returned (.tuple #[.int .i64 k,.int .i64 i,.int .i64 0])/\uI NB B R w w' {f with g:=g'}/\Pgd NB f.g g' k i bs/\Fi NB (n+1) (k::x) g' E
theorem Tq (h:dB NB B R w f) (hi:Fi NB n x f.g E) (hr:f.g.opn≠-1\/0<Gc.count 0 f.g.l) (a:Option Addr) (c:Nat) (bs:List UInt8) (RX:f.g.gh bs) (YJ:Own aH 5 w 0 (.slice a 96 c) bs) (EE:∀q,Value.ownBlock (.slice a 96 c)=some q->¬R q):
  Calls prog 282 #[f.g.M,.slice a 96 c] w (awp NB B R n x E f bs w):=by
 obtain⟨S,a1,a2,a3⟩:=h;have hlen:=hi.w.len;rcases hi.w.opn with ho|⟨j,j1,j2,j3⟩
 ·cases hb:Gc.best iF Gc.oN f.g.l NB with
  |none=>
   have h0:=hi.w.full ho hb;unfold roomOf at h0;rw[if_pos ho] at h0;omega
  |some j=>
   obtain⟨hj,hf⟩:=Gc.gZ hb;have hs:(Gc.at_ f.g.l j).st=0:=by unfold iF at hf;rw[beq_iff_eq] at hf;omega
   have DT:=hi.w.bk j hj;have hnx:=(DT.fr hs).2;refine(IL a1.hg hb ho hnx DT.bad DT.brk a c bs YJ λq hq hs=>EE q hq (a2 q (.inr hs))).mono ?_;rintro e w' ⟨rfl,hm,hq⟩;have Ti:Gc.at_ (Vb f.g j).l j=⟨1,0,(Gc.at_ f.g.l j).aQ,0⟩:=at_set _ _ ae;have e2:(Nj (Vb f.g j) j 0 bs).l=f.g.l.set j ⟨1,1,(Gc.at_ f.g.l j).aQ,1⟩:=by unfold Nj;simp only[Ti];show(f.g.l.set j _).set j _=_;rw[List.set_set];rfl
   have ha2:Gc.at_ (Nj (Vb f.g j) j 0 bs).l j=⟨1,1,(Gc.at_ f.g.l j).aQ,1⟩:=by rw[e2];exact at_set _ _ ae
   refine⟨j,0,_,rfl,ad3 a1 a2 a3 hm hq (λ_ h=>h) rfl rfl rfl rfl rfl,⟨hj,hnx.symm,ae,rfl,rfl,rfl,rfl,rfl,rfl,rfl,λq hq=>by rw[e2];exact fV _ _ hq,by rw[ha2],by rw[ha2,(DT.fr hs).1],by rw[ha2];rfl,by rw[ha2],rfl,.inl ⟨ho,hs,rfl,?_⟩⟩,hi.prog (hi.w.open_ ho hb) rfl hnx.symm rfl rfl rfl RX⟩;have:=Gc.count_set 0 (l:=f.g.l) (k:=j) ⟨1,1,(Gc.at_ f.g.l j).aQ,1⟩ ae;rw[hs,if_pos rfl,if_neg (show¬(1:Nat)=0 by decide)] at this;rw[e2];omega
 ·have DT:=hi.w.bk j j1;obtain⟨o1,o2,o3,o4,o5⟩:=DT.op j3;refine(KZ a1.hg j1 j2 o3 rfl (by have:=DT.l8;omega) o4 DT.bad DT.brk a c bs YJ λq hq hs=>EE q hq (a2 q (.inr (.inr (.inr hs))))).mono ?_;rintro e w' ⟨rfl,hm,hq⟩;have e2:(Nj f.g j (Gc.at_ f.g.l j).nx bs).l=f.g.l.set j ⟨if (Gc.at_ f.g.l j).nx+1=8 then 2 else(Gc.at_ f.g.l j).st,(Gc.at_ f.g.l j).live+1,(Gc.at_ f.g.l j).aQ,(Gc.at_ f.g.l j).nx+1⟩:=rfl;have ha2:Gc.at_ (Nj f.g j (Gc.at_ f.g.l j).nx bs).l j=⟨if (Gc.at_ f.g.l j).nx+1=8 then 2 else(Gc.at_ f.g.l j).st,(Gc.at_ f.g.l j).live+1,(Gc.at_ f.g.l j).aQ,(Gc.at_ f.g.l j).nx+1⟩:=by rw[e2];exact at_set _ _ ae
  refine⟨j,_,_,rfl,ad3 a1 a2 a3 hm hq (λ_ h=>h) rfl rfl rfl rfl rfl,⟨j1,o4.symm,o3,rfl,rfl,rfl,rfl,rfl,rfl,rfl,λq hq=>by rw[e2];exact fV _ _ hq,by rw[ha2],by rw[ha2],by rw[ha2];show(if _ then 2 else _)=_;rw[j3],by rw[ha2],by show(if _ then(-1:Int) else _)=_;rw[j2],.inr ⟨j2,j3,rfl,?_⟩⟩,hi.prog (hi.w.prog j1 j2 j3) rfl o4.symm rfl rfl rfl RX⟩;have:=Gc.count_set 0 (l:=f.g.l) (k:=j) ⟨if (Gc.at_ f.g.l j).nx+1=8 then 2 else(Gc.at_ f.g.l j).st,(Gc.at_ f.g.l j).live+1,(Gc.at_ f.g.l j).aQ,(Gc.at_ f.g.l j).nx+1⟩ ae;rw[j3,if_neg (show¬(1:Nat)=0 by decide),if_neg (show¬(if (Gc.at_ f.g.l j).nx+1=8 then 2 else 1)=0 by split<;>omega)] at this;rw[e2,j3];omega
def Rdd (NB B:Nat) (R:Nat->Prop) (f:Fm) (k i:Nat) (w:World) (e:Ending) (w':World):Prop:=
 (∃a c,e= .returned (.tuple #[.slice a 96 c,.int .i64 0])/\96<=c/\Own aH 5 w' w.heap.size (.slice a 96 c) (YC ((f.g.bl k).sS i)))/\dB NB B R w' f/\Kq R w w'
theorem Td (h:dB NB B R w f) {k i:Nat} (hk:k<NB) (hi:i<8):
  Calls prog 223 #[f.g.C,.int .i64 k,.int .i64 i] w (Rdd NB B R f k i w):=by
 obtain⟨S,a1,a2,a3⟩:=h;refine(uU a1.hg.hc hk hi).mono ?_;rintro e w' ⟨h1,h2,h3⟩;have hS:S f.g.C:=a1.hg.hc.hS _ (.inl rfl);have hq:Kq S w w':=h3.mono λq e=>e▸hS;exact⟨h1,YK a1 a2 a3 (a1.hg.alZ h2 hq λ_ h=> .inl h) (hq.mono λq h=> .inr (.inr h)) rfl rfl rfl rfl rfl⟩
theorem qC (h:dB NB B R w f):
  Calls prog 35 #[f.g.C] w λe w'=>e= .returned (uf NB)/\Below w.heap.size w w':=by
 obtain⟨S,a1,_⟩:=h;exact dU a1.hg.hc
theorem Mc (h:dB NB B R w f):
  Calls prog 89 #[f.g.C] w λe w'=>e= .returned (.bool true)/\w=w':=by
 obtain⟨S,a1,_⟩:=h;exact qF a1.hg.hc
theorem eX.Fi.ad4 (hi:Fi NB n x f.g E):Gc.count 4 f.g.l=0:=by
 unfold Gc.count;rw[List.length_eq_zero_iff,List.filter_eq_nil_iff];intro y hy;obtain⟨i,hl,rfl⟩:=List.getElem_of_mem hy;have h1:=(hi.w.bk i (by rw[<-hi.w.len];exact hl)).st;have e:Gc.at_ f.g.l i=f.g.l[i]:=by rw[Gc.at_,List.getD_eq_getElem?_getD,List.getElem?_eq_getElem hl];rfl
 rw[e] at h1;simp only[decide_eq_true_eq];omega
theorem Tm (h:dB NB B R w f) (hi:Fi NB n x f.g E):
  Calls prog 149 #[f.g.M] w λe w'=>e= .returned (.int .i64 2)/\Below w.heap.size w w':=by
 obtain⟨S,a1,_⟩:=h;exact EL a1.hg hi.ad4 hi.res hi.bad ae ae
def eX.enough (g:Mg):Bool:=decide (3<=Gc.count 0 g.l)&&(decide (g.opn≠-1)||decide (4<=Gc.count 0 g.l))
theorem KX (h:dB NB B R w f) (hi:Fi NB n x f.g E):
  Calls prog 279 #[f.F] w λe w'=>e= .returned (.bool (eX.enough f.g))/\Below w.heap.size w w':=by
 have f0:=h.c0;have f1:=h.c1;obtain⟨S,a1,_⟩:=h;have hn:=hi.nb;obtain⟨o1,o2⟩:=hi.w.awq ae;refine(Pz a1.hg f0 f1 hi.ad4 hi.res hi.bad o1 o2).mono ?_;rintro e w' ⟨rfl,hb⟩;refine⟨?_,hb⟩;have hx:(if roomOf f.g=(Gc.count 0 f.g.l:Int)*8 then(4:Int) else 3)=if f.g.opn= -1 then 4 else 3:=by
  unfold roomOf;rcases hi.w.opn with ho|⟨j,j1,j2,j3⟩
  ·rw[if_pos ho,if_pos ae,if_pos ho]
  ·have h5:=((hi.w.bk j j1).op j3).2.2.1;rw[if_neg (show¬f.g.opn= -1 by omega),j2,Int.toNat_natCast,if_neg ae,if_neg ae]
 congr 2
 unfold YL eX.enough;rw[hx,Bool.eq_iff_iff];simp only[decide_eq_true_eq,Bool.and_eq_true,Bool.or_eq_true]
 split<;>omega
end
end
section
open Go.RowKit

section
variable {NB B C BL:Nat} {S:Nat->Prop} {w:World} {ps:Nat->Nat} {bl:Nat->Pb}
theorem oH (h:eG NB B S w C BL ps bl) (oC:NB<=1000) (hb:∀k,k<NB->(bl k).bad=false):
  Calls prog 165 #[C] w λe w'=>e= .returned (.int .i64 0)/\Below w.heap.size w w':=by
 have HH:=ag h;have Ak:=ag hb;have HG:=ag (dU h);have hf:=ajv (.int .i64 NB) (.int .i64 8) (.int .i64 64);clear h hb
 go_in
 go_wp2_with fail;refine HG.o.mono ?_;rintro e w1 ⟨rfl,bK⟩;have dw:=ag bK;clear bK;unfold uf;go_wp2_with fail
 go_loopw [3,4,8] (λn _ i wr=>∃k:Nat,k<=NB/\i= .int .i64 k/\n= .int .i64 0/\Below w.heap.size w wr) (λ_ _ i _=>NB-(intOf i).toNat)
 case atStart=>exact⟨0,ae,rfl,rfl,dw.o⟩
 case round=>
  obtain⟨k,hk,rfl,rfl,hb⟩:=hrel;have vH:=ag hb;clear hb;by_cases aU:k<NB
  ·have iy:(k:Int)<(NB:Int):=ae;have RQ:=ag (rQ (HH.o.on vH.o) aU);rw[Ak.o k aU] at RQ;go_wp2_with fail;refine RQ.o.mono ?_;rintro e w_ ⟨rfl,rfl⟩;go_wp2_with fail;go_roundw
   case rel=>exact⟨k+1,ae,by go_num,rfl,vH.o⟩
   case measure=>simp[intOf];omega
  ·obtain rfl:k=NB:=ae;go_wp2_with fail;go_ret;exact⟨rfl,vH.o⟩
end
end
end Go.Proofs.YtnieckfelfoopaaGreat

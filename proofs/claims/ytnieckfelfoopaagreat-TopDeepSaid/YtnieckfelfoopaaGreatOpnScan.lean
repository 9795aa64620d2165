import Derived.Test.YtnieckfelfoopaaGreatFtlFmt0
import Derived.Test.YtnieckfelfoopaaGreatFtlRead
import Derived.Test.YtnieckfelfoopaaGreatFtlNeed
open Go.Proofs.Tryz (prog)
namespace Go.Proofs.YtnieckfelfoopaaGreat
open Lib (hid)
set_option maxRecDepth 100000
set_option maxHeartbeats 16000000
section
open Go.RowKit eX

namespace Opn
def pgE (k i:Nat):Option (List UInt8)->List En
 |none=>[]
 |some L=>[⟨Tg.ed L,Tg.jm L,k,i⟩]
def Cj (bl:Nat->Pb) (k i:Nat):List En:=(List.range i).flatMap λq=>pgE k q ((bl k).sS q)
def allL (bl:Nat->Pb) (k:Nat):List En:=(List.range k).flatMap λj=>Cj bl j 8
theorem NG (bl:Nat->Pb) (k i:Nat):Cj bl k (i+1)=Cj bl k i++pgE k i ((bl k).sS i):=by unfold Cj;rw[List.range_succ,List.flatMap_append,List.flatMap_cons,List.flatMap_nil,List.append_nil]
theorem NH (bl:Nat->Pb) (k:Nat):allL bl (k+1)=allL bl k++Cj bl k 8:=by unfold allL;rw[List.range_succ,List.flatMap_append,List.flatMap_cons,List.flatMap_nil,List.append_nil]
theorem aiE (k i:Nat) (o:Option (List UInt8)):(pgE k i o).length<=1:=by
 cases o
 ·exact Nat.zero_le 1
 ·exact Nat.le_refl 1
theorem UQ (bl:Nat->Pb) (k i:Nat):(Cj bl k i).length<=i:=by
 induction i with
 |zero=>exact Nat.le_refl 0
 |succ i ih=>rw[NG,List.length_append];have:=aiE k i ((bl k).sS i);omega
theorem UF (bl:Nat->Pb) (k:Nat):(allL bl k).length<=8*k:=by
 induction k with
 |zero=>exact Nat.le_refl 0
 |succ k ih=>rw[NH,List.length_append];have:=UQ bl k 8;omega
def Is (bl:Nat->Pb) (e:En):Prop:=∃L,(bl e.b).sS e.i=some L/\e.t=Tg.ed L/\e.d=Tg.jm L
theorem pO {bl:Nat->Pb} {K:Nat} {e:En}:e∈allL bl K↔e.b<K/\e.i<8/\Is bl e:=by
 unfold allL Cj;simp only[List.mem_flatMap,List.mem_range];constructor
 ·rintro⟨j,hj,q,hq,h⟩
  cases hz:(bl j).sS q with
  |none=>rw[hz] at h;cases h
  |some L=>
   rw[hz] at h;obtain rfl:e=⟨Tg.ed L,Tg.jm L,j,q⟩:=by simpa[pgE] using h
   exact⟨hj,hq,L,hz,rfl,rfl⟩
 ·rintro⟨h1,h2,L,h3,h4,h5⟩;refine⟨e.b,h1,e.i,h2,?_⟩;rw[h3];obtain⟨t,d,b,i⟩:=e;simp only at h4 h5;rw[h4,h5];simp[pgE]
theorem anb {bl:Nat->Pb} {x y:En} (hx:Is bl x) (hy:Is bl y) (hb:x.b=y.b) (hi:x.i=y.i):x=y:=by obtain⟨L,h1,h2,h3⟩:=hx;obtain⟨M,k1,k2,k3⟩:=hy;rw[hb,hi,k1] at h1;obtain rfl:=Option.some.inj h1;obtain⟨t,d,b,i⟩:=x;obtain⟨t',d',b',i'⟩:=y;simp only at*;rw[h2,h3,k2,k3,hb,hi]
structure Gd (NB:Nat) (bl:Nat->Pb):Prop where
 ok:∀k i L,k<NB->i<8->(bl k).sS i=some L->Tg.fK L=0/\L.length=96/\((Tg.ed L).k=2↔(Tg.ed L).p=0)/\(Tg.ed L).s<=2305843009213693952/\(Tg.ed L).e<=2305843009213693952/\(Tg.ed L).p<4294967296/\(Tg.jm L).length=64
 bad:∀k,k<NB->(bl k).bad=false
 aQ:∀k,k<NB->(bl k).aQ<=1099511627776
def XM (bl:Nat->Pb) (k i:Nat):Bool:=(List.range i).all λq=>((bl k).sS q).isNone
theorem afj (bl:Nat->Pb) (k i:Nat):XM bl k (i+1)=(XM bl k i&&((bl k).sS i).isNone):=by unfold XM;rw[List.range_succ,List.all_append];simp
theorem qi {α β:Type} (g:β->α->β) (b:β) (l:List α) {j:Nat} (hj:j<l.length):(l.take (j+1)).foldl g b=g ((l.take j).foldl g b) l[j]:=by rw[List.take_succ_eq_append_getElem hj,List.foldl_append];rfl
def qW (m:Nat) (e:En):Nat:=if e.t.k=2 then max m e.t.e else m
def pq (l:List En):Nat:=l.foldl qW 0
def cnt (last:Nat) (e:En):Bool:=decide (e.t.e<=last)&&(decide (0<e.t.p)||decide (e.t.e=last))
def nY (last:Nat) (f:Nat->Nat) (e:En):Nat->Nat:=if cnt last e then λp=>if p=e.t.p then max (f p) e.t.s else f p else f
def EU (last:Nat) (l:List En):Nat->Nat:=l.foldl (nY last) λ_=>0
def FT (last:Nat) (m:Nat->Nat) (e:En):Bool:=cnt last e&&decide (e.t.s=m e.t.p)
def xy (last:Nat) (l:List En):List En:=l.filter (FT last (EU last l))
def Cf (f:Nat->Nat) (e:En):Nat->Nat:=λb=>if b=e.b then f b+1 else f b
def uo (l:List En):Nat->Nat:=l.foldl Cf λ_=>0
def pick (many:Nat->Nat) (out:List En) (e:En):Bool:=match aG out e.t.p with
 |none=>true
 |some x=>decide (many x.b<many e.b)
def Ci (many:Nat->Nat) (out:List En) (e:En):List En:=if pick many out e then fO out e else out
def UG (many:Nat->Nat) (l:List En):List En:=l.foldl (Ci many) []
def bf (l:List En):List En:=UG (uo (xy (pq l) l)) (xy (pq l) l)
theorem UN {α:Type} (p:α->Bool) (l:List α) {j:Nat} (hj:j<l.length):(l.take (j+1)).filter p=(l.take j).filter p++if p l[j] then[l[j]] else[]:=by rw[List.take_succ_eq_append_getElem hj,List.filter_append,List.filter_cons,List.filter_nil]
theorem XN (l:List En):∀m,m<=l.foldl qW m/\(∀e∈l,e.t.k=2->e.t.e<=l.foldl qW m)/\(l.foldl qW m=m\/∃e∈l,l.foldl qW m=e.t.e):=by
 induction l with
 |nil=>exact λm=>⟨Nat.le_refl m,λe h=>(by cases h),.inl rfl⟩
 |cons a t ih=>
  intro m;rw[List.foldl_cons];obtain⟨h1,h2,h3⟩:=ih (qW m a);have h4:m<=qW m a/\(a.t.k=2->a.t.e<=qW m a)/\(qW m a=m\/qW m a=a.t.e):=by
   unfold qW
   split
   ·refine⟨Nat.le_max_left _ _,λ_=>Nat.le_max_right _ _,?_⟩;rcases Nat.le_total m a.t.e with e|e
    ·exact .inr (Nat.max_eq_right e)
    ·exact .inl (Nat.max_eq_left e)
   ·rename_i hk;exact⟨Nat.le_refl _,λe=>absurd e hk,.inl rfl⟩
  refine⟨Nat.le_trans h4.1 h1,λe he hk=>?_,?_⟩
  ·rcases List.mem_cons.1 he with rfl|he
   ·exact Nat.le_trans (h4.2.1 hk) h1
   ·exact h2 e he hk
  ·rcases h3 with h3|⟨e,he,h3⟩
   ·rcases h4.2.2 with h5|h5
    ·exact .inl (h3.trans h5)
    ·exact .inr ⟨a,au,h3.trans h5⟩
   ·exact .inr ⟨e,List.mem_cons_of_mem _ he,h3⟩
theorem Jt (last:Nat) (l:List En) (p:Nat):∀f:Nat->Nat,f p<=l.foldl (nY last) f p/\(∀e∈l,cnt last e=true->e.t.p=p->e.t.s<=l.foldl (nY last) f p)/\(l.foldl (nY last) f p=f p\/∃e∈l,cnt last e=true/\e.t.p=p/\l.foldl (nY last) f p=e.t.s):=by
 induction l with
 |nil=>exact λf=>⟨Nat.le_refl _,λe h=>(by cases h),.inl rfl⟩
 |cons a t ih=>
  intro f;rw[List.foldl_cons];obtain⟨h1,h2,h3⟩:=ih (nY last f a);have h4:f p<=nY last f a p/\(cnt last a=true->a.t.p=p->a.t.s<=nY last f a p)/\(nY last f a p=f p\/(cnt last a=true/\a.t.p=p/\nY last f a p=a.t.s)):=by
   unfold nY
   split
   ·rename_i hc;simp only;by_cases hp:p=a.t.p
    ·rw[if_pos hp];refine⟨Nat.le_max_left _ _,λ_ _=>Nat.le_max_right _ _,?_⟩;rcases Nat.le_total (f p) a.t.s with e|e
     ·exact .inr ⟨hc,hp.symm,Nat.max_eq_right e⟩
     ·exact .inl (Nat.max_eq_left e)
    ·rw[if_neg hp];exact⟨Nat.le_refl _,λ_ e=>absurd e.symm hp,.inl rfl⟩
   ·rename_i hc;exact⟨Nat.le_refl _,λe=>absurd e hc,.inl rfl⟩
  refine⟨Nat.le_trans h4.1 h1,λe he hc hp=>?_,?_⟩
  ·rcases List.mem_cons.1 he with rfl|he
   ·exact Nat.le_trans (h4.2.1 hc hp) h1
   ·exact h2 e he hc hp
  ·rcases h3 with h3|⟨e,he,h3⟩
   ·rcases h4.2.2 with h5|⟨h5,h6,h7⟩
    ·exact .inl (h3.trans h5)
    ·exact .inr ⟨a,au,h5,h6,h3.trans h7⟩
   ·exact .inr ⟨e,List.mem_cons_of_mem _ he,h3⟩
theorem afk {last:Nat} {l:List En} {e:En} (he:e∈l) (hc:cnt last e=true):∃x∈xy last l,x.t.p=e.t.p:=by
 obtain⟨_,h2,h3⟩:=Jt last l e.t.p λ_=>0;rcases h3 with h3|⟨x,hx,h4,h5,h6⟩
 ·refine⟨e,List.mem_filter.2 ⟨he,?_⟩,rfl⟩;have:=h2 e he hc rfl;unfold FT;rw[hc,Bool.true_and,decide_eq_true_eq];show e.t.s=l.foldl (nY last) (λ_=>0) e.t.p;omega
 ·refine⟨x,List.mem_filter.2 ⟨hx,?_⟩,h5⟩;unfold FT;rw[h4,Bool.true_and,decide_eq_true_eq,h5];exact h6.symm
theorem XL {last:Nat} {l:List En} {x:En} (hx:x∈xy last l):x∈l/\cnt last x=true/\∀e∈l,cnt last e=true->e.t.p=x.t.p->e.t.s<=x.t.s:=by obtain⟨h1,h2⟩:=List.mem_filter.1 hx;unfold FT at h2;rw[Bool.and_eq_true,decide_eq_true_eq] at h2;obtain⟨_,h3,_⟩:=Jt last l x.t.p λ_=>0;refine⟨h1,h2.1,λe he hc hp=>?_⟩;rw[h2.2];exact h3 e he hc hp
theorem UO (many:Nat->Nat) (l:List En):∀out,Uq out->Uq (l.foldl (Ci many) out)/\(∀x∈l.foldl (Ci many) out,x∈out\/x∈l)/\(∀e,e∈out\/e∈l->(aG (l.foldl (Ci many) out) e.t.p).isSome=true):=by
 induction l with
 |nil=>exact λout hu=>⟨hu,λx hx=> .inl hx,λe he=>by
   rcases he with he|he
   ·exact dZ.2 (List.mem_map.2 ⟨e,he,rfl⟩)
   ·cases he⟩
 |cons a t ih=>
  intro out hu;rw[List.foldl_cons];have h4:Uq (Ci many out a)/\(∀x∈Ci many out a,x∈out\/x=a)/\∀e,e∈out\/e=a->(aG (Ci many out a) e.t.p).isSome=true:=by
   unfold Ci
   split
   ·refine⟨ahM hu,λx hx=>(ad7 hx).symm,λe he=>?_⟩;rw[mQ hu]
    split
    ·rfl
    ·rcases he with he|he
     ·exact dZ.2 (List.mem_map.2 ⟨e,he,rfl⟩)
     ·rename_i dh;exact absurd (by rw[he]) dh
   ·rename_i hp;refine⟨hu,λx hx=> .inl hx,λe he=>?_⟩;rcases he with he|he
    ·exact dZ.2 (List.mem_map.2 ⟨e,he,rfl⟩)
    ·rw[he];unfold pick at hp
     cases hz:aG out a.t.p with
     |none=>rw[hz] at hp;exact absurd rfl hp
     |some x=>rfl
  obtain⟨h1,h2,h3⟩:=ih _ h4.1;refine⟨h1,λx hx=>?_,λe he=>?_⟩
  ·rcases h2 x hx with h5|h5
   ·rcases h4.2.1 x h5 with h6|h6
    ·exact .inl h6
    ·exact .inr (h6▸List.mem_cons_self)
   ·exact .inr (List.mem_cons_of_mem _ h5)
  ·rcases he with he|he
   ·have h5:=h4.2.2 e (.inl he);obtain⟨y,hy,hp⟩:=List.mem_map.1 (dZ.1 h5);have:=h3 y (.inl hy);rw[<-hp];exact this
   ·rcases List.mem_cons.1 he with rfl|he
    ·have h5:=h4.2.2 e (.inr rfl);obtain⟨y,hy,hp⟩:=List.mem_map.1 (dZ.1 h5);have:=h3 y (.inl hy);rw[<-hp];exact this
    ·exact h3 e (.inr he)
structure aa3 (l:List En) (V:Nat->Option (Tg×List UInt8)) (last sq:Nat):Prop where
 all:∀e∈l,e.t.e<=last/\e.t.s<=sq/\∃x,V e.t.p=some x/\e.t.s<=x.1.s/\(e.t.s=x.1.s->e.t=x.1/\e.d=x.2)
 has:∀p x,V p=some x->x.1.p=p/\∃e∈l,e.t=x.1/\e.d=x.2
 kind:∀e∈l,e.t.k=2↔e.t.p=0
 UI:∃x,V 0=some x/\x.1.e=last/\x.1.s=sq
section
variable {l:List En} {V:Nat->Option (Tg×List UInt8)} {last sq:Nat}
theorem aa3.ajX (h:aa3 l V last sq):pq l=last:=by
 obtain⟨x,h1,h2,_⟩:=h.UI;obtain⟨h3,e,he,h4,_⟩:=h.has 0 x h1;obtain⟨k1,k2,k3⟩:=XN l 0;have k4:=k2 e he ((h.kind e he).2 (by rw[h4];exact h3));rw[h4,h2] at k4;refine Nat.le_antisymm ?_ k4;rcases k3 with k3|⟨y,hy,k3⟩
 ·unfold pq;omega
 ·have:=(h.all y hy).1;unfold pq;omega
theorem aa3.BU (h:aa3 l V last sq):Uq (bf l)/\(∀e∈bf l,e∈l)/\∀p,(aG (bf l) p).map sk=V p:=by
 have hl:=h.ajX;obtain⟨h1,h2,h3⟩:=UO (uo (xy (pq l) l)) (xy (pq l) l) [] List.nodup_nil;have hin:∀e∈bf l,e∈xy last l:=λe he=>by
  rcases h2 e he with h4|h4
  ·cases h4
  ·rw[hl] at h4;exact h4
 have aiA:∀p x,V p=some x->∃e∈l,e.t=x.1/\e.d=x.2/\cnt last e=true:=λp x hp=>by
  obtain⟨k1,e,he,k2,k3⟩:=h.has p x hp;refine⟨e,he,k2,k3,?_⟩;have k4:=(h.all e he).1;unfold cnt;rw[decide_eq_true k4,Bool.true_and,Bool.or_eq_true,decide_eq_true_eq,decide_eq_true_eq];by_cases h0:p=0
  ·subst h0;obtain⟨y,k5,k6,_⟩:=h.UI;rw[hp] at k5;obtain rfl:=Option.some.inj k5;exact .inr (by rw[k2];exact k6)
  ·exact .inl (by rw[k2,k1];omega)
 have abT:∀e∈xy last l,V e.t.p=some (sk e):=λe he=>by obtain⟨k1,k2,k3⟩:=XL he;obtain⟨_,_,x,k4,k5,k6⟩:=h.all e k1;obtain⟨y,hy,k7,k8,k9⟩:=aiA _ x k4;obtain⟨k10,_⟩:=h.has _ x k4;have:=k3 y hy k9 (by rw[k7];exact k10);rw[k7] at this;obtain⟨k11,k12⟩:=k6 ae;rw[k4,show sk e=x by unfold sk;rw[k11,k12]]
 refine⟨h1,λe he=>(XL (hin e he)).1,λp=>?_⟩
 cases hz:aG (bf l) p with
 |some e=>
  obtain⟨k1,k2⟩:=iq hz;have:=abT e (hin e k1);rw[k2] at this;exact this.symm
 |none=>
  cases hv:V p with
  |none=>rfl
  |some x=>
   obtain⟨e,he,k1,k2,k3⟩:=aiA p x hv;obtain⟨y,hy,k4⟩:=afk he k3;have k5:=h3 y (.inr (by rw[hl];exact hy));rw[k4,k1,(h.has p x hv).1] at k5;exact absurd k5 (by rw[show aG (List.foldl (Ci (uo (xy (pq l) l))) [] (xy (pq l) l)) p=none from hz];decide)
end
end Opn
end
section
open Go.RowKit eX

def Vh (e:En):List Value:=[.int .i64 e.t.k,.int .u32 (e.t.p:Int),.int .u64 (e.t.s:Int),.int .u64 (e.t.e:Int),.int .i64 (e.b:Int),.int .i64 (e.i:Int)]
theorem afh (e:En):(Vh e).length=6:=rfl
theorem ang:∀e:En,∀u∈Vh e,u.oneCell'=true:=λe u hu=>by simp only[Vh,List.mem_cons,List.not_mem_nil,or_false] at hu;rcases hu with rfl|rfl|rfl|rfl|rfl|rfl<;>rfl
theorem BX:prog.cellsOf 249=6:=az
theorem anh:(prog.info? 249).map (λi=>(i.zero,i.size,i.bytes))=some (some (.agg #[.int .i64 0,.int .u32 0,.int .u64 0,.int .u64 0,.int .i64 0,.int .i64 0]),6,48):=az
theorem Ce {w:World} {ops:Array Oper} {rest:List Oper} {o:Oper} {ac:Act} {Q:Exit->Act->World->Prop} {cs:Array Value} (mD:o.guard=none) (s x:Operand) (ho:o.op= .call {callee:= .builtin .append,args:=#[s,x],argTypes:=#[240,240]}) (base:Nat)
  (v:Value) (xs:List En) (hs:ac.eval s=v) (bG:dK 6 Vh 249 w base v xs) (y:En) (g:Nat) (hx:ac.eval x= .slice (some ⟨g,0,none⟩) 1 1) (hg:g=w.heap.size) (jq:cs=(Vh y).toArray)
  (dW:xs.length<=1000000) (cZ:base<=w.heap.size)
  (h:∀v' w',Hid (dK 6 Vh 249 w' base v' (xs++[y]))->Hid (Kq (λq=>v.ownBlock=some q) w w')->wpList prog ops Q rest (ac.put o.dst v') w'):wpList prog ops Q (o::rest) ac (w.alloc (.cells cs 249)):=by
 subst hg;obtain⟨i0,hi,qp,rG,yU⟩:=info_parts anh;have aW:base<=(w.alloc (.cells cs 249)).heap.size:=by simp;omega
 exact zQ mD s x 240 ho base 249 i0 _ 48 Tryz.underlying240 hi qp rG yU rfl aB ang v xs hs (bG.alloc _) _ _ 1 1 [y] hx (jv.aqN w 249 y jq) ae (by simp only[maxLen];omega) aW λv' w' h1 h2 _=>
  h v' w' (ag h1) (ag ((Kq.of ((Below.refl _ w).alloc (Nat.le_refl _) _)).trans (Kq.grown h2)))
theorem NC {w:World} {B n:Nat} {a:Option Addr} {xs:List En} (h:jv 6 Vh w B a n xs) {j:Nat} (hj:j<n):
  ∃x,xs[j]?=some x/\∃b o,a=some ⟨b,o,none⟩/\b<B/\w.cell? ⟨b,o+j*6,none⟩=some (.int .i64 x.t.k)/\w.cell? ⟨b,o+j*6+1,none⟩=some (.int .u32 (x.t.p:Int))/\w.cell? ⟨b,o+j*6+2,none⟩=some (.int .u64 (x.t.s:Int))/\w.cell? ⟨b,o+j*6+3,none⟩=some (.int .u64 (x.t.e:Int))/\w.cell? ⟨b,o+j*6+4,none⟩=some (.int .i64 (x.b:Int))/\w.cell? ⟨b,o+j*6+5,none⟩=some (.int .i64 (x.i:Int)):=by
 obtain⟨b,o,UU,ha,hb,hc⟩:=h.QQ hj;exact⟨xs[j],List.getElem?_eq_getElem UU,b,o,ha,hb,hc 0 _ rfl,hc 1 _ rfl,hc 2 _ rfl,hc 3 _ rfl,hc 4 _ rfl,hc 5 _ rfl⟩
end
section
open Go.RowKit Go.Maps Go.ChangeMaps

def mG (P:Program) (k:TypeId) (kv vv:Nat->Value) (w:World) (b:Nat) (f:Nat->Nat):Prop:=
 ∃l,MapAt P k w b l/\(∀p v,(kv p,v)∈l->v=vv (f p))/\∀p,(∀x∈l,x.1≠kv p)->f p=0
section
variable {P:Program} {k t e:TypeId} {kv vv:Nat->Value} {w w':World} {b p:Nat} {f:Nat->Nat} {kl:Lit}
theorem mG.lt (h:mG P k kv vv w b f):b<w.heap.size:=by obtain⟨l,h1,_⟩:=h;exact h1.lt
theorem mG.on (h:mG P k kv vv w b f) (hb:Below w.heap.size w w'):mG P k kv vv w' b f:=by obtain⟨l,h1,h2⟩:=h;exact⟨l,h1.on hb,h2⟩
theorem mG.same (h:mG P k kv vv w b f) (hb:w'.heap[b]?=w.heap[b]?):mG P k kv vv w' b f:=by obtain⟨l,h1,h2⟩:=h;exact⟨l,h1.same hb,h2⟩
theorem mG.kq {T:Nat->Prop} (h:mG P k kv vv w b f) (hk:Kq T w w') (hb:¬T b):mG P k kv vv w' b f:=h.same (hk.block b h.lt hb)
theorem mG.ne {α:Type} {m:Nat} {g:α->List Value} {ty:TypeId} {base:Nat} {v:Value} {xs:List α} (h:mG P k kv vv w b f) (ho:dK m g ty w base v xs):v.ownBlock≠some b:=by
 obtain⟨l,⟨es,clock,h1,_⟩,_⟩:=h;rcases ho.2.2 with⟨rfl,_⟩|⟨q,cap,cur,rfl,_,hg,_⟩
 ·intro e;cases e
 ·intro e;obtain rfl:q=b:=Option.some.inj e;rw[hg] at h1;cases h1
theorem mG.made (w:World):mG P k kv vv (w.alloc (.map #[] 0)) w.heap.size λ_=>0:=⟨[],MapAt.made w,λ_ _ h=>(by cases h),λ_ _=>rfl⟩
theorem mG.look (h:mG P k kv vv w b f) (K:Keyed P k) (ht:P.underlying t=some (.map k e)) (hz:(zeroValue e).run P w= .ok (vv 0) w) (iD:keyOf P k (kv p)=some kl):
  (Instr.lookup t (.map (some b)) (kv p) false).run P w= .ok (vv (f p)) w:=by
 obtain⟨l,h1,h2,h3⟩:=h;obtain⟨v,fl,bP,hv⟩:=h1.look K ht hz iD false;have e:v=vv (f p):=by
  rcases hv with⟨_,hv⟩|⟨_,rfl,hv⟩
  ·exact h2 p v hv
  ·rw[h3 p hv]
 rw[<-e];exact bP
theorem mG.put (h:mG P k kv vv w b f) (K:Keyed P k) (ht:P.underlying t=some (.map k e)) (agk:∀q,kv q=kv p->q=p) (iD:keyOf P k (kv p)=some kl) (v:Nat):
  ∃o,(Instr.mapUpdate t (.map (some b)) (kv p) (vv v)).run P w= .ok () (setBlock w b o)/\mG P k kv vv (setBlock w b o) b (λq=>if q=p then v else f q)/\w.grownBy (setBlock w b o) (some b):=by
 obtain⟨l,h1,h2,h3⟩:=h;obtain⟨l',o,bP,hp,hm,hg⟩:=h1.put K ht iD (vv v);refine⟨o,bP,⟨l',hm,λq u hq=>?_,λq hq=>?_⟩,hg⟩
 ·rw[hp.mem h1.nodup] at hq;rcases hq with⟨e1,e2⟩|⟨e1,e2⟩
  ·show u=vv (if q=p then v else f q);rw[if_pos (agk q e1)];exact e2
  ·show u=vv (if q=p then v else f q);rw[if_neg (λe3:q=p=>e1 (by rw[e3]))];exact h2 q u e2
 ·by_cases e1:q=p
  ·subst e1;have:(kv q,vv v)∈l':=(hp.mem h1.nodup _ _).2 (.inl ⟨rfl,rfl⟩);exact absurd rfl (hq _ this)
  ·show(if q=p then v else f q)=0;rw[if_neg e1];refine h3 q λx hx FU=>?_;have:(kv q,x.2)∈l':=(hp.mem h1.nodup _ _).2 (.inr ⟨λe2=>e1 (agk q e2),by rw[<-FU];exact hx⟩);exact hq _ this rfl
end
def snV (s:Nat):Value:= .int .u64 s
def Lt (w:World) (b:Nat) (f:Nat->Nat):Prop:=mG prog 64 kyV snV w b f
theorem ani (w:World):(zeroValue 65).run prog w= .ok (snV 0) w:=az
theorem Lt.look {w:World} {b:Nat} {f:Nat->Nat} (h:Lt w b f) {p:Nat} (hp:p<4294967296):(Instr.lookup 298 (.map (some b)) (.int .u32 p) false).run prog w= .ok (.int .u64 (f p:Int)) w:=
 mG.look (kv:=kyV) (vv:=snV) (p:=p) h Tv Tryz.underlying298 (ani w) (ad5 hp)
theorem Lt.put {w:World} {b:Nat} {f:Nat->Nat} (h:Lt w b f) {p:Nat} (hp:p<4294967296) (v:Nat):∃o,(Instr.mapUpdate 298 (.map (some b)) (.int .u32 p) (.int .u64 v)).run prog w= .ok () (setBlock w b o)/\Lt (setBlock w b o) b (λq=>if q=p then v else f q)/\w.grownBy (setBlock w b o) (some b):=
 mG.put h Tv Tryz.underlying298 (λ_ e=>yw e) (ad5 hp) v
def blV (s:Nat):Value:= .int .i64 s
theorem aj2:Keyed prog 3:=int_keyed Tryz.underlying3
theorem aiF {p q:Nat} (h:blV p=blV q):p=q:=by
 unfold blV at h;injection h with _ h
 omega
theorem asw {p:Nat} (h:p<4294967296):keyOf prog 3 (blV p)=some (.int .i64 p):=by
 have hw:(Lit.int .i64 p).wf=true:=by simp[Lit.wf,IntKind.min,IntKind.max,IntKind.bits,IntKind.signed];omega
 simp[keyOf,mapKey,Tryz.underlying3,blV,hw]
def FW (w:World) (b:Nat) (f:Nat->Nat):Prop:=mG prog 3 blV blV w b f
theorem anj (w:World):(zeroValue 3).run prog w= .ok (blV 0) w:=az
theorem FW.look {w:World} {b:Nat} {f:Nat->Nat} (h:FW w b f) {p:Nat} (hp:p<4294967296):(Instr.lookup 152 (.map (some b)) (.int .i64 p) false).run prog w= .ok (.int .i64 (f p:Int)) w:=
 mG.look (kv:=blV) (vv:=blV) (p:=p) h aj2 Tryz.underlying152 (anj w) (asw hp)
theorem FW.put {w:World} {b:Nat} {f:Nat->Nat} (h:FW w b f) {p:Nat} (hp:p<4294967296) (v:Nat):∃o,(Instr.mapUpdate 152 (.map (some b)) (.int .i64 p) (.int .i64 v)).run prog w= .ok () (setBlock w b o)/\FW (setBlock w b o) b (λq=>if q=p then v else f q)/\w.grownBy (setBlock w b o) (some b):=
 mG.put h aj2 Tryz.underlying152 (λ_ e=>aiF e) (asw hp) v
end
section
open Go.RowKit eX Opn

namespace Opn
def og (bl:Nat->Pb) (k:Nat):List Bool:=(List.range 32).map λj=>decide (j<k)&&XM bl j 8
theorem Gu (bl:Nat->Pb) (k:Nat):(og bl k).length=32:=by simp[og]
theorem afl (bl:Nat->Pb):og bl 0=List.replicate 32 false:=by
 apply List.ext_getElem
 ·simp[og]
 ·intro i h1 h2;rw[List.getElem_replicate];simp only[og,List.getElem_map,List.getElem_range];rw[decide_eq_false (Nat.not_lt_zero i),Bool.false_and]
theorem aiG (bl:Nat->Pb) (k:Nat):(og bl k).set k (XM bl k 8)=og bl (k+1):=by
 apply List.ext_getElem
 ·simp[og]
 ·intro i h1 h2;rw[List.getElem_set];simp only[og,List.getElem_map,List.getElem_range];by_cases e:k=i
  ·subst e;rw[if_pos rfl,decide_eq_true (Nat.lt_succ_self k),Bool.true_and]
  ·rw[if_neg e];by_cases e2:i<k
   ·rw[decide_eq_true e2,decide_eq_true (Nat.lt_succ_of_lt e2)]
   ·rw[decide_eq_false e2,decide_eq_false ae]
theorem afm (bl:Nat->Pb) (k:Nat):XM bl k 0=true:=rfl
end Opn
structure Qj (B:Nat) (S:Nat->Prop) (w:World) (C BL:Nat) (ps:Nat->Nat) (bl:Nat->Pb) (G gb:Nat) (fl:List Bool) (v:Value) (xs:List En) (wr:World):Prop where
 hc:eG 32 B S wr C BL ps bl
 hG:aF wr G 60 #[.int .i64 32,.int .i64 8,.int .i64 64]
 ho:Own pI 4 wr w.heap.size (.slice (some ⟨gb,0,none⟩) 32 32) fl
 hv:dK 6 Vh 249 wr w.heap.size v xs
 hk:Kq S w wr
 lG:w.heap.size<=G
 lC:C<w.heap.size
 lS:∀q,S q->q<w.heap.size
section
variable {B C BL G gb:Nat} {S:Nat->Prop} {w wr w':World} {ps:Nat->Nat} {bl:Nat->Pb} {fl:List Bool} {v:Value} {xs:List En}
theorem Qj.on (h:Qj B S w C BL ps bl G gb fl v xs wr) (hb:Below wr.heap.size wr w'):Qj B S w C BL ps bl G gb fl v xs w':=
 ⟨h.hc.on hb,h.hG.ah hb,h.ho.on hb,h.hv.on hb,h.hk.on hb,h.lG,h.lC,h.lS⟩
theorem Qj.read (h:Qj B S w C BL ps bl G gb fl v xs wr) (hc:eG 32 B S w' C BL ps bl) (hk:Kq (λq=>q=C) wr w'):Qj B S w C BL ps bl G gb fl v xs w':=by have hl:=h.lC;refine⟨hc,h.hG.kq hk (λe=>by have:=h.lG;omega),h.ho.kq hk (λq hq e=>by have:=(h.ho.aP q hq).1;omega),⟨h.hv.1,h.hv.2.1,?_⟩,h.hk.ay hk (λq e=> .inl (e▸h.hc.hS _ (.inl rfl))),h.lG,h.lC,h.lS⟩;exact(h.hv.kq hk (λq hq e=>by have:=(h.hv.aP q hq).1;omega)).2.2
theorem Qj.flag (h:Qj B S w C BL ps bl G gb fl v xs wr) (k:Nat) (b:Bool):Qj B S w C BL ps bl G gb (fl.set k b) v xs (wr.setCell ⟨gb,k,none⟩ (.bool b)):=by
 have hg:=h.ho.aP gb rfl;have dh:gb≠G:=λe=>by
  have h1:=h.hG;unfold aF at h1;rcases h.ho.2 with⟨e1,_⟩|⟨q,cap,cur,e1,_,h2,_⟩
  ·cases e1
  ·injection e1 with e1
   injection e1 with e1
   injection e1 with e1
   subst e1;rw[e,h1] at h2;injection h2 with h2
   injection h2 with _ h2
   exact absurd h2 aB
 refine⟨h.hc.kq (Kq.one ⟨gb,k,none⟩ (.bool b)) (λq hq e=>?_),h.hG.far (by simpa using Ne.symm dh) _,h.ho.set k b,h.hv.far (λe=>?_) _,h.hk.setCell (.inr hg.1) _,h.lG,h.lC,h.lS⟩
 ·have:=h.lS q hq;have e:q=gb:=e;omega
 ·rcases h.hv.2.2 with⟨e1,_⟩|⟨q,cap,cur,e1,_,h2,_⟩
  ·rw[e1] at e;cases e
  ·rw[e1] at e;obtain rfl:q=gb:=Option.some.inj e;rcases h.ho.2 with⟨e3,_⟩|⟨q3,ayy,ayz,e3,_,h4,_⟩
   ·cases e3
   ·injection e3 with e3
    injection e3 with e3
    injection e3 with e3
    subst e3;rw[h4] at h2;injection h2 with h2
    injection h2 with _ h2
    exact absurd h2 aB
theorem Qj.app {y:En} (h:Qj B S w C BL ps bl G gb fl v xs wr) {v':Value} (ho:dK 6 Vh 249 w' w.heap.size v' (xs++[y])) (hk:Kq (λq=>v.ownBlock=some q) wr w'):Qj B S w C BL ps bl G gb fl v' (xs++[y]) w':=by
 have asx:=λq hq=>(h.hv.aP q hq).1;refine⟨h.hc.kq hk (λq hq e=>by have:=h.lS q hq;have:=asx q e;omega),h.hG.kq hk (λe=>?_),h.ho.kq hk (λq hq e=>?_),ho,h.hk.ay hk (λq e=> .inr (asx q e)),h.lG,h.lC,h.lS⟩
 ·rcases h.hv.2.2 with⟨e1,_⟩|⟨q,cap,cur,e1,_,h2,_⟩
  ·rw[e1] at e;cases e
  ·rw[e1] at e;obtain rfl:q=G:=Option.some.inj e;have h1:=h.hG;unfold aF at h1;rw[h1] at h2;injection h2 with h2
   injection h2 with _ h2
   exact absurd h2 aB
 ·obtain rfl:=fD _ _ _ _ hq;rcases h.hv.2.2 with⟨e1,_⟩|⟨q2,cap,cur,e1,_,h2,_⟩
  ·rw[e1] at e;cases e
  ·rw[e1] at e;obtain rfl:q2=q:=Option.some.inj e;rcases h.ho.2 with⟨e3,_⟩|⟨q3,ayy,ayz,e3,_,h4,_⟩
   ·cases e3
   ·injection e3 with e3
    injection e3 with e3
    injection e3 with e3
    subst e3;rw[h4] at h2;injection h2 with h2
    injection h2 with _ h2
    exact absurd h2 aB
theorem Qj.aj3 (h:Qj B S w C BL ps bl G gb fl v xs wr) {k:Nat} (hk:k<fl.length):∃b,wr.cell? ⟨gb,k,none⟩=some (.bool b)/\wr.frozen? ⟨gb,k,none⟩=false:=by obtain⟨c1,c2⟩:=h.ho.iH hk;exact⟨_,c1,c2⟩
def ayA (B:Nat) (S:Nat->Prop) (C BL:Nat) (ps:Nat->Nat) (bl:Nat->Pb) (w:World) (e:Ending) (w':World):Prop:=
 ∃v gb G,e= .returned (.tuple #[v,.slice (some ⟨gb,0,none⟩) 32 32,.bool true])/\Qj B S w C BL ps bl G gb (og bl 32) v (allL bl 32) w'
theorem XO:Tg.fK (YC none)=20:=(Gt (m:=64) (by unfold YC;rw[List.length_replicate]) aB aB).2.2
theorem XK (h:eG 32 B S w C BL ps bl) (hg:Gd 32 bl):
  Calls prog 170 #[C] w (ayA B S C BL ps bl w):=by
 have HH:=ag h;have ZQ:=ag hg;have HGe:=ag (dU h);have jq:=qG;have hct:=II;clear h hg
 go_in
 go_wp2;go_step3;go_wp2_with fail;refine HGe.o.mono ?_;rintro e w1 ⟨rfl,bK⟩;unfold uf;have FB:=ag (aF.new w1 60 #[.int .i64 32,.int .i64 8,.int .i64 64]);have dw:=ag (bK.alloc bK.size (.cells #[.int .i64 32,.int .i64 8,.int .i64 64] 60));have HG1:=ag bK.size;clear bK;go_upto_region 3 with fail;generalize w1.alloc (.cells #[.int .i64 32,.int .i64 8,.int .i64 64] 60)=w2 at*;generalize w1.heap.size=G at*;have uY:=Gg w2;have g0:=FB.o.aj (i:=0) (v:= .int .i64 32) rfl;go_upto_region 4 with fail;generalize hwa:w2.alloc _=w3;have gJ:=ag (show Qj B S w C BL ps bl G w2.heap.size (og bl 0) (.slice none 0 0) (allL bl 0) w3 from by rw[<-hwa,afl];have iI:=(Below.refl w2.heap.size w2).alloc (Nat.le_refl _) (.cells ((List.replicate 32 false).map pI).toArray 4);exact⟨HH.o.on (dw.o.ay iI),FB.o.ah iI,Own.made (f:=pI) (e:=4) (w:=w2) (base:=w.heap.size) (xs:=List.replicate 32 false) dw.o.size (by simp[maxLen]),dK.nil afh _ _,Kq.of (dw.o.ay iI),HG1.o,HH.o.hi C (HH.o.hS C (.inl rfl)),HH.o.hi⟩);generalize w2.heap.size=gb at*;clear g0 uY hwa dw FB;have g0:=gJ.o.hG.aj (i:=0) (v:= .int .i64 32) rfl;go_wp2_with fail;go_step3;go_wp2_with fail
 go_loopw [6,8,9,10,11,12,13,14,15,23] (λv6 v8 _ _ _ _ _ _ _ i wr=>∃k:Nat,k<=32/\i= .int .i64 k/\v8= .bool true/\Qj B S w C BL ps bl G gb (og bl k) v6 (allL bl k) wr) (λ_ _ _ _ _ _ _ _ _ i _=>32-(intOf i).toNat)
 case atStart=>exact⟨0,ae,rfl,rfl,gJ.o⟩
 case round=>
  obtain⟨k,hk,rfl,rfl,hs⟩:=hrel;clear gJ g0;by_cases aU:k<32
  ·have hk0:(0:Int)<=(k:Int):=ae;have iy:(k:Int)<32:=ae;have fQ:=rQ hs.hc aU;rw[ZQ.o.bad k aU] at fQ;have RQ:=ag fQ;obtain⟨b0,f0,z0⟩:=hs.aj3 (k:=k) (by rw[Gu];exact aU);have nZ:=ag (hs.flag k true);clear hs fQ;go_wp2_with fail;go_step3;go_wp2_with fail;refine RQ.o.mono ?_;rintro e w_ ⟨rfl,rfl⟩;go_upto_region 10 with fail;generalize wr.setCell ⟨gb,k,none⟩ (.bool true)=w5 at*;clear f0 z0;have g1:=nZ.o.hG.aj (i:=1) (v:= .int .i64 8) rfl;have HSa:=ag (show Qj B S w C BL ps bl G gb ((og bl k).set k (XM bl k 0)) u6 (allL bl k++Cj bl k 0) w5 by rw[afm,show Cj bl k 0=[] from rfl,List.append_nil];exact nZ.o);clear nZ;go_step3;go_wp2_with fail
   go_loopw [6,8,10,11,12,13,14,15,34] (λv6 v8 _ _ _ _ _ _ i wx=>∃q:Nat,q<=8/\i= .int .i64 q/\v8= .bool true/\Qj B S w C BL ps bl G gb ((og bl k).set k (XM bl k q)) v6 (allL bl k++Cj bl k q) wx) (λ_ _ _ _ _ _ _ _ i _=>8-(intOf i).toNat)
   case atStart=>exact⟨0,ae,rfl,rfl,HSa.o⟩
   case round=>
    obtain⟨q,hq,rfl,rfl,hs⟩:=hrel;clear HSa g1;by_cases qw:q<8
    ·have HS:=ag hs;have yN:=ag (uU hs.hc aU qw);have afn:=ag (show allL bl k++Cj bl k (q+1)=(allL bl k++Cj bl k q)++pgE k q ((bl k).sS q) by rw[NG,List.append_assoc]);have ZM:=ag (afj bl k q);have HLl:=ag (show(allL bl k++Cj bl k q).length<=1000000 by rw[List.length_append];have:=UF bl k;have:=UQ bl k q;omega);have hq0:(0:Int)<=(q:Int):=ae;have ED:(q:Int)<8:=ae;clear hs;generalize allL bl k++Cj bl k q=xs at*;go_wp2_with fail;refine yN.o.mono ?_;rintro e w6 ⟨⟨a6,c6,rfl,ZJ,QN⟩,hm6,lI⟩;have HS6:=ag (HS.o.read hm6 lI);have Eg:=ag QN;have HC6:=ag ZJ;clear hm6 lI QN ZJ;go_wp2_with fail
     cases ho:(bl k).sS q with
     |none=>
      rw[ho] at afn ZM Eg;refine(ER a6 96 c6 _ w6 (Eg.o.arr (by rw[show(YC none).length=96 from List.length_replicate ..];decide)) HC6.o).mono ?_;rintro e w7 ⟨a7,n7,c7,rfl,_,_,kC⟩;rw[XO];obtain⟨⟨tk,tp,ts,te⟩,htt⟩:∃t,t=Tg.ed (YC none):=⟨_,rfl⟩
      rw[<-htt];have Yo:=ag ((HS6.o.on kC).on ((Below.refl w7.heap.size w7).alloc (Nat.le_refl _) (.cells #[.int .i64 tk,.int .u32 tp,.int .u64 ts,.int .u64 te] 67)));clear kC htt;unfold tagV;go_wp2_with fail;go_roundw
      case rel=>exact⟨q+1,ae,by go_num,rfl,by rw[ZM.o,afn.o];simp only[Option.isNone_none,Bool.and_true,pgE,List.append_nil];exact Yo.o⟩
      case measure=>simp[intOf];omega
     |some L=>
      rw[ho] at afn ZM Eg;obtain⟨hE,hL,hkp,pU,hel,oh,_⟩:=ZQ.o.ok k q L aU qw ho;refine(ER a6 96 c6 _ w6 (Eg.o.arr (by rw[show(YC (some L)).length=96 from hL];decide)) HC6.o).mono ?_;rintro e w7 ⟨a7,n7,c7,rfl,_,_,kC⟩;have Vs:=ag kC;rw[show Tg.fK (YC (some L))=0 from hE,show Tg.ed (YC (some L))=Tg.ed L from rfl];obtain⟨y,hy⟩:∃y:En,y=⟨Tg.ed L,Tg.jm L,k,q⟩:=⟨_,rfl⟩
      rw[show pgE k q (some L)=[y] by rw[hy];rfl] at afn;have hyt:Tg.ed L=y.t:=by rw[hy]
      rw[hyt] at hkp pU hel oh⊢;have hyb:(y.b:Int)=(k:Int):=by rw[hy]
      have hyi:(y.i:Int)=(q:Int):=by rw[hy]
      have HCs:=ag (show#[Value.int .i64 y.t.k,.int .u32 (y.t.p:Int),.int .u64 (y.t.s:Int),.int .u64 (y.t.e:Int),.int .i64 k,.int .i64 q]=(Vh y).toArray by rw[<-hyb,<-hyi];rfl);have HKp:=ag hkp;clear hy hyt hyb hyi hE hL hkp ho;obtain⟨⟨tk,tp,ts,te⟩,td,tb,ti⟩:=y;simp only at pU hel oh HCs HKp⊢;have kQ:=(Below.refl w7.heap.size w7).alloc (Nat.le_refl _) (.cells #[.int .i64 tk,.int .u32 tp,.int .u64 ts,.int .u64 te] 67);have Yo:=ag ((HS6.o.on kC).on kQ);have HZ:=ag (aF.new w7 67 #[.int .i64 tk,.int .u32 tp,.int .u64 ts,.int .u64 te]);clear kC kQ;obtain⟨b8,f8,z8⟩:=Yo.o.aj3 (k:=k) (by rw[List.length_set,Gu];exact aU);unfold tagV;go_upto_region 15 with fail;generalize w7.alloc (.cells #[.int .i64 tk,.int .u32 tp,.int .u64 ts,.int .u64 te] 67)=w8 at*;obtain⟨Z,hZ⟩:=bu w7.heap.size;rw[<-hZ] at HZ⊢;have WO:=ag hZ;clear hZ;have hs9:=Yo.o.flag k false;rw[List.set_set] at hs9;have Qq:=ag hs9;have HFq:=ag (show XM bl k (q+1)=false by rw[ZM.o];simp);have Af:=ag (show Z≠gb from λe=>by have h1:=(Yo.o.ho.aP gb rfl).2;have h2:=WO.o;have h3:=(HS6.o.ho.aP gb rfl).2;have h4:=Vs.o.size;omega);have HZ9:=ag (HZ.o.far (p:=⟨gb,k,none⟩) (by simpa using Af.o) (.bool false));clear hs9;go_upto_region 17 with fail;generalize w8.setCell ⟨gb,k,none⟩ (.bool false)=w9 at*;clear f8 z8;obtain⟨c0,c1,c2,c3⟩:=HZ9.o.c4;have hsi:(ts:Int)<=2305843009213693952:=ae;have hei:(te:Int)<=2305843009213693952:=ae;obtain⟨kb,fA,iU⟩:∃kb,(tk==2)=kb/\((tp:Int)==0)=kb:=by
       by_cases h0:tp=0
       ·exact⟨true,by rw[beq_iff_eq];exact HKp.o.2 h0,by rw[h0];rfl⟩
       ·exact⟨false,by rw[beq_eq_false_iff_ne];exact λe=>h0 (HKp.o.1 e),by rw[beq_eq_false_iff_ne];omega⟩
      have ayC:=ag Qq.o.hk.size;clear oh
      go_wp2_with (at_builtin;refine Ce rfl _ _ rfl w.heap.size _ xs rfl Qq.o.hv ⟨⟨tk,tp,ts,te⟩,td,tb,ti⟩ _ rfl rfl HCs.o HLl.o ayC.o ?_;intro v7 wA vK zH)
      have HSA:=ag (Qq.o.app vK.o zH.o);go_roundw
      case rel=>exact⟨q+1,ae,by go_num,rfl,by rw[HFq.o,afn.o];exact HSA.o⟩
      case measure=>simp[intOf];omega
    ·obtain rfl:q=8:=ae;have HS:=ag hs;clear hs;go_wp2_with fail;rw[Exit.noGoto_normal];go_wp2_with fail;go_roundw
     case rel=>exact⟨k+1,ae,by go_num,rfl,by rw[<-aiG,NH];exact HS.o⟩
     case measure=>simp[intOf];omega
  ·obtain rfl:k=32:=ae;have HS:=ag hs;clear hs;go_wp2_with fail;rw[Exit.noGoto_ret];go_ret3;exact⟨_,_,_,rfl,HS.o⟩
end
end
end Go.Proofs.YtnieckfelfoopaaGreat

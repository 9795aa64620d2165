import Derived.Shelf.SlIterI.Sorted
import Derived.Ground.GgzProg
import Derived.Shelf.SlGeneric
import Derived.Test.YtnieckfelfoopaaGreatTopSmall
import Derived.Test.YtnieckfelfoopaaGreatRoomInts
open And renaming intro->cJ
open Array renaming replicate->cB,replicate_succ->dT,replicate_zero->ee
open Bool renaming and_eq_true->du
open Go.AllReadyH renaming cons->bX,nil->cN
open Go.IntWalk renaming i64_in->bq
open Go.RowKit.Below renaming refl->aE
open Go.World renaming size_alloc->bR
open List renaming replicate->bt,mem_map->bw,length_append->bE,length_map->bO,mem_cons->bS,mem_append->cv,range->cz,append_nil->cC,length_cons->cD,mem_singleton->cG,length_take->cI,nil_append->cP,append_assoc->cQ,nodup_cons->cR,getElem_mem->cS,size_toArray->cU,length_nil->cV,map_map->cW,getElem?_eq_getElem->cX,not_mem_nil->cY,cons_append->dj,map_congr_left->dp,length_replicate->dx,range_succ->dz,append_toArray->ef,take_succ_eq_append_getElem->ei
open Nat renaming le_refl->bp,le_trans->bB,zero_le->bN,lt_of_lt_of_le->cM
open Go.Value renaming int->O,slice->an,tuple->ao,bool->aq
open Go.IntKind renaming i64->aa
open Go.Ending renaming returned->ar
open Go.RowKit renaming Hid->aL
open Go.Proofs.Tryz (prog)
set_option maxRecDepth 100000
set_option maxHeartbeats 16000000
namespace Go.Proofs.YtnieckfelfoopaaGreat
open Lib (hid)
section
open RowKit dY
namespace Opn
def pgE (k i:Nat):Option (List UInt8)->List En
 |none=>[]
 |some L=>[⟨Tg.fC L,Tg.jS L,k,i⟩]
def Eu (bl:Nat->Pb) k i:=(cz i).flatMap λq=>pgE k q ((bl k).qB q)
def allL bl k:=(cz k).flatMap λj=>Eu bl j 8
theorem QG bl k i:Eu bl k (i+1)=Eu bl k i++pgE k i ((bl k).qB i):=by unfold Eu;rw[dz,List.flatMap_append,List.flatMap_cons,List.flatMap_nil,cC]
theorem QH bl k:allL bl (k+1)=allL bl k++Eu bl k 8:=by unfold allL;rw[dz,List.flatMap_append,List.flatMap_cons,List.flatMap_nil,cC]
theorem alZ k i o:(pgE k i o).length<=1:=by
 cases o
 .exact bN 1
 .exact bp 1
theorem XY bl k i:(Eu bl k i).length<=i:=by
 induction i with
 |zero=>exact bp 0
 |succ i ih=>rw[QG,bE];have:=alZ k i ((bl k).qB i);omega
theorem XZ bl k:(allL bl k).length<=8*k:=by induction k<;>grind[Opn.allL,Opn.QH,Opn.XY]
def Is (bl:Nat->Pb) (e:En):=∃L,(bl e.b).qB e.i=some L/\e.t=Tg.fC L/\e.d=Tg.jS L
theorem qI {bl K e}:e∈allL bl K↔e.b<K/\e.i<8/\Is bl e:=by
 unfold allL Eu;simp only[List.mem_flatMap,List.mem_range];constructor
 .rintro⟨j,hj,q,hq,h⟩
  cases hz:(bl j).qB q with
  |none=>rw[hz] at h;cases h
  |some L=>
   rw[hz] at h;obtain rfl:e=⟨Tg.fC L,Tg.jS L,j,q⟩:=by simpa[pgE] using h
   exact⟨hj,hq,L,hz,rfl,rfl⟩
 .rintro⟨h1,h2,L,h3,h4,h5⟩;refine⟨e.b,h1,e.i,h2,?_⟩;rw[h3];obtain⟨t,d,b,i⟩:=e;simp only at h4 h5;rw[h4,h5];simp[pgE]
theorem art {bl x y} (hx:Is bl x) (hy:Is bl y) (hb:x.b=y.b) (hi:x.i=y.i):x=y:=by obtain⟨L,h1,h2,h3⟩:=hx;obtain⟨M,k1,k2,k3⟩:=hy;rw[hb,hi,k1] at h1;obtain rfl:=Option.some.inj h1;obtain⟨t,d,b,i⟩:=x;obtain⟨t',d',b',i'⟩:=y;grind
structure Gd NB (bl:Nat->Pb):Prop where
 ok:∀k i L,k<NB->i<8->(bl k).qB i=some L->Tg.fZ L=0/\L.length=96/\((Tg.fC L).k=2↔(Tg.fC L).p=0)/\(Tg.fC L).s<=2305843009213693952/\(Tg.fC L).e<=2305843009213693952/\(Tg.fC L).p<4294967296/\(Tg.jS L).length=64
 bad:∀k,k<NB->(bl k).bad=false
 aC:∀k,k<NB->(bl k).aC<=1099511627776
def frB (bl:Nat->Pb) k i:=(cz i).all λq=>((bl k).qB q).isNone
theorem ahC bl k i:frB bl k (i+1)=(frB bl k i&&((bl k).qB i).isNone):=by unfold frB;rw[dz,List.all_append];simp
theorem qU {α β:Type} g (b:β) (l:List α) {j} hj:(l.take (j+1)).foldl g b=g ((l.take j).foldl g b) l[j]:=by rw[ei hj,List.foldl_append];rfl
def sN (m:Nat) (e:En):=if e.t.k=2 then max m e.t.e else m
def qw (l:List En):=l.foldl sN 0
def cnt (last:Nat) (e:En):=decide (e.t.e<=last)&&(decide (0<e.t.p)||decide (e.t.e=last))
def pq last f e:=if cnt last e then λp=>if p=e.t.p then max (f p) e.t.s else f p else f
def Ii (last:Nat) (l:List En):=l.foldl (pq last) λ_=>0
def Jj (last:Nat) (m:Nat->Nat) e:=cnt last e&&decide (e.t.s=m e.t.p)
def zy (last:Nat) (l:List En):=l.filter (Jj last (Ii last l))
def Ew (f:Nat->Nat) (e:En):=λb=>if b=e.b then f b+1 else f b
def wE (l:List En):=l.foldl Ew λ_=>0
def pick (many:Nat->Nat) (out:List En) (e:En):Bool:=match aI out e.t.p with
 |none=>true
 |some x=>decide (many x.b<many e.b)
def Ey many out e:=if pick many out e then dA out e else out
def X0 (many:Nat->Nat) (l:List En):=l.foldl (Ey many) []
def bf l:=X0 (wE (zy (qw l) l)) (zy (qw l) l)
theorem X4 {α:Type} p (l:List α) {j} hj:(l.take (j+1)).filter p=(l.take j).filter p++if p l[j] then[l[j]] else[]:=by rw[ei hj,List.filter_append,List.filter_cons,List.filter_nil]
theorem aaT (l:List En):∀m,m<=l.foldl sN m/\(∀e∈l,e.t.k=2->e.t.e<=l.foldl sN m)/\(l.foldl sN m=m\/∃e∈l,l.foldl sN m=e.t.e):=by
 induction l with
 |nil=>grind
 |cons a t ih=>
  intro m;rw[List.foldl_cons];obtain⟨h1,h2,h3⟩:=ih (sN m a);have h4:m<=sN m a/\(a.t.k=2->a.t.e<=sN m a)/\(sN m a=m\/sN m a=a.t.e):=by
   unfold sN
   grind
  grind
theorem Nh last (l:List En) p:∀f,f p<=l.foldl (pq last) f p/\(∀e∈l,cnt last e=true->e.t.p=p->e.t.s<=l.foldl (pq last) f p)/\(l.foldl (pq last) f p=f p\/∃e∈l,cnt last e=true/\e.t.p=p/\l.foldl (pq last) f p=e.t.s):=by
 induction l with
 |nil=>exact λf=>⟨bp _,λe h=>(by cases h),.inl rfl⟩
 |cons a t ih=>
  intro f;rw[List.foldl_cons];obtain⟨h1,h2,h3⟩:=ih (pq last f a);have h4:f p<=pq last f a p/\(cnt last a=true->a.t.p=p->a.t.s<=pq last f a p)/\(pq last f a p=f p\/(cnt last a=true/\a.t.p=p/\pq last f a p=a.t.s)):=by
   unfold pq
   split
   .grind
   grind
  grind
theorem ahD {last l e} (he:e∈l) (hc:cnt last e=true):∃x∈zy last l,x.t.p=e.t.p:=by
 obtain⟨_,h2,h3⟩:=Nh last l e.t.p λ_=>0;rcases h3 with h3|⟨x,hx,h4,h5,h6⟩
 .refine⟨e,List.mem_filter.2 ⟨he,?_⟩,rfl⟩;have:=h2 e he hc rfl;unfold Jj;rw[hc,Bool.true_and,decide_eq_true_eq];show e.t.s=l.foldl (pq last) (λ_=>0) e.t.p;omega
 .refine⟨x,List.mem_filter.2 ⟨hx,?_⟩,h5⟩;unfold Jj;rw[h4,Bool.true_and,decide_eq_true_eq,h5];exact h6.symm
theorem aaU {last l x} (hx:x∈zy last l):x∈l/\cnt last x=true/\∀e∈l,cnt last e=true->e.t.p=x.t.p->e.t.s<=x.t.s:=by obtain⟨h1,h2⟩:=List.mem_filter.1 hx;unfold Jj at h2;rw[du,decide_eq_true_eq] at h2;obtain⟨_,h3,_⟩:=Nh last l x.t.p λ_=>0;refine⟨h1,h2.1,λe he hc hp=>?_⟩;rw[h2.2];exact h3 e he hc hp
theorem X5 many (l:List En):∀out,Uq out->Uq (l.foldl (Ey many) out)/\(∀x∈l.foldl (Ey many) out,x∈out\/x∈l)/\(∀e,e∈out\/e∈l->(aI (l.foldl (Ey many) out) e.t.p).isSome=true):=by
 induction l with
 |nil=>exact λout hu=>⟨hu,λx hx=> .inl hx,λe he=>by
   rcases he with he|he
   .exact dK.2 (bw.2 ⟨e,he,rfl⟩)
   .cases he⟩
 |cons a t ih=>
  intro out hu;rw[List.foldl_cons];have h4:Uq (Ey many out a)/\(∀x∈Ey many out a,x∈out\/x=a)/\∀e,e∈out\/e=a->(aI (Ey many out a) e.t.p).isSome=true:=by
   unfold Ey
   split
   .refine⟨ak4 hu,λx hx=>(ahd hx).symm,λe he=>?_⟩;rw[lT hu]
    split
    .rfl
    .rcases he with he|he
     .exact dK.2 (bw.2 ⟨e,he,rfl⟩)
     grind
   .rename_i hp;refine⟨hu,λx hx=> .inl hx,λe he=>?_⟩;rcases he with he|he
    .exact dK.2 (bw.2 ⟨e,he,rfl⟩)
    .rw[he];unfold pick at hp
     grind
  obtain⟨h1,h2,h3⟩:=ih _ h4.1;refine⟨h1,λx hx=>?_,λe he=>?_⟩
  .grind
  .rcases he with he|he
   .have h5:=h4.2.2 e (.inl he);obtain⟨y,hy,hp⟩:=bw.1 (dK.1 h5);grind
   .rcases bS.1 he with rfl|he
    .have h5:=h4.2.2 e (.inr rfl);obtain⟨y,hy,hp⟩:=bw.1 (dK.1 h5);grind
    .exact h3 e (.inr he)
structure aej (l:List En) (V:Nat->Option (Tg×List UInt8)) last sq:Prop where
 all:∀e∈l,e.t.e<=last/\e.t.s<=sq/\∃x,V e.t.p=some x/\e.t.s<=x.1.s/\(e.t.s=x.1.s->e.t=x.1/\e.d=x.2)
 has:∀p x,V p=some x->x.1.p=p/\∃e∈l,e.t=x.1/\e.d=x.2
 kind:∀e∈l,e.t.k=2↔e.t.p=0
 X6:∃x,V 0=some x/\x.1.e=last/\x.1.s=sq
section
variable {l:List En} {V:Nat->Option (Tg×List UInt8)} {last sq:Nat}
theorem aej.aop (h:aej l V last sq):qw l=last:=by
 obtain⟨x,h1,h2,_⟩:=h.X6;obtain⟨h3,e,he,h4,_⟩:=h.has 0 x h1;obtain⟨k1,k2,k3⟩:=aaT l 0;have k4:=k2 e he ((h.kind e he).2 (by rw[h4];exact h3));rw[h4,h2] at k4;refine Nat.le_antisymm ?_ k4;rcases k3 with k3|⟨y,hy,k3⟩
 .unfold qw;omega
 .have:=(h.all y hy).1;unfold qw;omega
theorem aej.Aa (h:aej l V last sq):Uq (bf l)/\(∀e∈bf l,e∈l)/\∀p,(aI (bf l) p).map sk=V p:=by
 have hl:=h.aop;obtain⟨h1,h2,h3⟩:=X5 (wE (zy (qw l) l)) (zy (qw l) l) [] List.nodup_nil;have yf:∀e∈bf l,e∈zy last l:=λe he=>by
  rcases h2 e he with h4|h4
  .cases h4
  .rw[hl] at h4;exact h4
 have al0:∀p x,V p=some x->∃e∈l,e.t=x.1/\e.d=x.2/\cnt last e=true:=λp x hp=>by
  obtain⟨k1,e,he,k2,k3⟩:=h.has p x hp;refine⟨e,he,k2,k3,?_⟩;have k4:=(h.all e he).1;unfold cnt;rw[ez k4,Bool.true_and,Bool.or_eq_true,decide_eq_true_eq,decide_eq_true_eq];by_cases h0:p=0
  .subst h0;obtain⟨y,k5,k6,_⟩:=h.X6;grind
  grind
 have acB:∀e∈zy last l,V e.t.p=some (sk e):=λe he=>by obtain⟨k1,k2,k3⟩:=aaU he;obtain⟨_,_,x,k4,k5,k6⟩:=h.all e k1;obtain⟨y,hy,k7,k8,k9⟩:=al0 _ x k4;obtain⟨k10,_⟩:=h.has _ x k4;have:=k3 y hy k9 (by rw[k7];exact k10);rw[k7] at this;obtain⟨k11,k12⟩:=k6 ae;rw[k4,show sk e=x by unfold sk;rw[k11,k12]]
 refine⟨h1,λe he=>(aaU (yf e he)).1,λp=>?_⟩
 cases hz:aI (bf l) p with
 |some e=>
  obtain⟨k1,k2⟩:=dW hz;grind
 |none=>
  cases hv:V p with
  |none=>rfl
  |some x=>
   obtain⟨e,he,k1,k2,k3⟩:=al0 p x hv;obtain⟨y,hy,k4⟩:=ahD he k3;have k5:=h3 y (.inr (by rw[hl];exact hy));rw[k4,k1,(h.has p x hv).1] at k5;exact absurd k5 (by rw[show aI (List.foldl (Ey (wE (zy (qw l) l))) [] (zy (qw l) l)) p=none from hz];decide)
end
end Opn
def YZ (e:En):List Value:=[O aa e.t.k,O .u32 e.t.p,O .u64 e.t.s,O .u64 e.t.e,O aa e.b,O aa e.i]
theorem ahE e:(YZ e).length=6:=rfl
theorem aru:∀e,∀u∈YZ e,u.oneCell'=true:=λe u hu=>by simp only[YZ,bS,cY,or_false] at hu;rcases hu with rfl|rfl|rfl|rfl|rfl|rfl<;>rfl
theorem Ez:prog.cellsOf 249=6:=az
theorem arv:(prog.info? 249).map (λi=>(i.zero,i.size,i.bytes))=some (some (.agg #[O aa 0,O .u32 0,O .u64 0,O .u64 0,O aa 0,O aa 0]),6,48):=az
theorem EC {w ops rest o ac Q cs} (mF:o.guard=none) s x (ho:o.op= .call {callee:= .builtin .append,args:=#[s,x],argTypes:=#[240,240]}) base
  v xs (hs:ac.eval s=v) (bz:bQ 6 YZ 249 w base v xs) y g (hx:ac.eval x=an (g,0) 1 1) (hg:g=w.heap.size) (gm:cs=(YZ y).toArray)
  (fB:xs.length<=1000000) (dE:base<=w)
  (h:∀v' w',Hid (bQ 6 YZ 249 w' base v' (xs++[y]))->Hid (Kq (λq=>v.ownBlock=some q) w w')->wpList prog ops Q rest (ac.put o.dst v') w'):wpList prog ops Q (o::rest) ac (w.alloc (.cells cs 249)):=by
 subst hg;obtain⟨i0,hi,qm,tZ,tu⟩:=info_parts arv;have aZ:base<=(w.alloc (.cells cs 249)).heap.size:=by simp;omega
 exact lq mF s x 240 ho base 249 i0 _ 48 Tryz.underlying240 hi qm tZ tu rfl aB aru v xs hs (bz.alloc _) _ _ 1 1 [y] hx (fP.ajQ w 249 y gm) ae (by simp only[maxLen];omega) aZ λv' w' h1 h2 _=>
  h v' w' (ag h1) (ag ((Kq.of ((aE _ w).alloc av _)).trans (Kq.grown h2)))
theorem QI {w B n a xs} (h:fP 6 YZ w B a n xs) {j} (hj:j<n):
  ∃x,xs[j]?=some x/\∃b o,a=some ⟨b,o,none⟩/\b<B/\w.cell? (aw b (o+j*6))=some (O aa x.t.k)/\w.cell? (aw b (o+j*6+1))=some (O .u32 x.t.p)/\w.cell? (aw b (o+j*6+2))=some (O .u64 x.t.s)/\w.cell? (aw b (o+j*6+3))=some (O .u64 x.t.e)/\w.cell? (aw b (o+j*6+4))=some (O aa x.b)/\w.cell? (aw b (o+j*6+5))=some (O aa x.i):=by
 obtain⟨b,o,hj2,ha,hb,hc⟩:=h.YJ hj;exact⟨xs[j],cX hj2,b,o,ha,hb,hc 0 _ rfl,hc 1 _ rfl,hc 2 _ rfl,hc 3 _ rfl,hc 4 _ rfl,hc 5 _ rfl⟩
end
section
open RowKit Maps ChangeMaps
def nO (P:Program) (k:TypeId) (kv vv:Nat->Value) (w:World) (b:Nat) (f:Nat->Nat):=
 ∃l,MapAt P k w b l/\(∀p v,(kv p,v)∈l->v=vv (f p))/\∀p,(∀x∈l,x.1≠kv p)->f p=0
section
variable {P:Program} {k t e:TypeId} {kv vv:Nat->Value} {w w':World} {b p:Nat} {f:Nat->Nat} {kl:Lit}
theorem nO.lt (h:nO P k kv vv w b f):b<w:=by obtain⟨l,h1,_⟩:=h;exact h1.lt
theorem nO.on (h:nO P k kv vv w b f) (hb:Below w w w'):nO P k kv vv w' b f:=by obtain⟨l,h1,h2⟩:=h;exact⟨l,h1.on hb,h2⟩
theorem nO.same (h:nO P k kv vv w b f) (hb:w'.heap[b]?=w.heap[b]?):nO P k kv vv w' b f:=by obtain⟨l,h1,h2⟩:=h;exact⟨l,h1.same hb,h2⟩
theorem nO.kq {T} (h:nO P k kv vv w b f) (hk:Kq T w w') (hb:¬T b):nO P k kv vv w' b f:=h.same (hk.block b h.lt hb)
theorem nO.ne {α m g ty base v} {xs:List α} (h:nO P k kv vv w b f) (ho:bQ m g ty w base v xs):v.ownBlock≠some b:=by
 obtain⟨l,⟨es,clock,h1,_⟩,_⟩:=h;rcases ho.2.2 with⟨rfl,_⟩|⟨q,cap,cur,rfl,_,hg,_⟩
 .intro e;cases e
 .intro e;obtain rfl:q=b:=Option.some.inj e;rw[hg] at h1;cases h1
theorem nO.made (w:World):nO P k kv vv (w.alloc (.map #[] 0)) w λ_=>0:=⟨[],MapAt.made w,λ_ _ h=>(by cases h),λ_ _=>rfl⟩
theorem nO.look (h:nO P k kv vv w b f) (K:Keyed P k) (ht:P.underlying t=some (.map k e)) (hz:(zeroValue e).run P w= .ok (vv 0) w) (jc:keyOf P k (kv p)=some kl):
  (Instr.lookup t (.map (some b)) (kv p) false).run P w= .ok (vv (f p)) w:=by
 obtain⟨l,h1,h2,h3⟩:=h;obtain⟨v,fl,bF,hv⟩:=h1.look K ht hz jc false;grind
theorem nO.put (h:nO P k kv vv w b f) (K:Keyed P k) (ht:P.underlying t=some (.map k e)) (ajM:∀q,kv q=kv p->q=p) (jc:keyOf P k (kv p)=some kl) v:
  ∃o,(Instr.mapUpdate t (.map (some b)) (kv p) (vv v)).run P w= .ok () (setBlock w b o)/\nO P k kv vv (setBlock w b o) b (λq=>if q=p then v else f q)/\w.grownBy (setBlock w b o) (some b):=by
 obtain⟨l,h1,h2,h3⟩:=h;obtain⟨l',o,bF,hp,hm,hg⟩:=h1.put K ht jc (vv v);refine⟨o,bF,⟨l',hm,λq u hq=>?_,λq hq=>?_⟩,hg⟩
 .grind[MapAt,rD]
 .by_cases e1:q=p
  .subst e1;have:(kv q,vv v)∈l':=(hp.mem h1.nodup _ _).2 (.inl ⟨rfl,rfl⟩);grind
  .show(if q=p then v else f q)=0;rw[eo e1];refine h3 q λx hx Bh=>?_;grind[rD]
end
def snV (s:Nat):Value:=O .u64 s
def Pz w b f:=nO prog 64 kyV snV w b f
theorem arw w:(zeroValue 65).run prog w= .ok (snV 0) w:=az
theorem Pz.look {w b f} (h:Pz w b f) {p:Nat} (hp:p<4294967296):(Instr.lookup 298 (.map (some b)) (O .u32 p) false).run prog w= .ok (O .u64 (f p)) w:=
 nO.look (kv:=kyV) (vv:=snV) (p:=p) h Xu Tryz.underlying298 (arw w) (ahb hp)
theorem Pz.put {w b f} (h:Pz w b f) {p:Nat} (hp:p<4294967296) (v:Nat):∃o,(Instr.mapUpdate 298 (.map (some b)) (O .u32 p) (O .u64 v)).run prog w= .ok () (setBlock w b o)/\Pz (setBlock w b o) b (λq=>if q=p then v else f q)/\w.grownBy (setBlock w b o) (some b):=
 nO.put h Xu Tryz.underlying298 (λ_ e=>zX e) (ahb hp) v
def blV (s:Nat):Value:=O aa s
theorem aoq:Keyed prog 3:=int_keyed Tryz.underlying3
theorem al2 {p q} (h:blV p=blV q):p=q:=by
 unfold blV at h;injection h with _ h
 omega
theorem aw8 {p} (h:p<4294967296):keyOf prog 3 (blV p)=some (.int .i64 p):=by
 have hw:(Lit.int .i64 p).wf=true:=by simp[Lit.wf,IntKind.min,IntKind.max,IntKind.bits,IntKind.signed];omega
 simp[keyOf,mapKey,Tryz.underlying3,blV,hw]
def Jk w b f:=nO prog 3 blV blV w b f
theorem arx w:(zeroValue 3).run prog w= .ok (blV 0) w:=az
theorem Jk.look {w b f} (h:Jk w b f) {p:Nat} (hp:p<4294967296):(Instr.lookup 152 (.map (some b)) (O aa p) false).run prog w= .ok (O aa (f p)) w:=
 nO.look (kv:=blV) (vv:=blV) (p:=p) h aoq Tryz.underlying152 (arx w) (aw8 hp)
theorem Jk.put {w b f} (h:Jk w b f) {p:Nat} (hp:p<4294967296) (v:Nat):∃o,(Instr.mapUpdate 152 (.map (some b)) (O aa p) (O aa v)).run prog w= .ok () (setBlock w b o)/\Jk (setBlock w b o) b (λq=>if q=p then v else f q)/\w.grownBy (setBlock w b o) (some b):=
 nO.put h aoq Tryz.underlying152 (λ_ e=>al2 e) (aw8 hp) v
end
section
open RowKit dY
theorem Nj:prog.cellsOf 67=4:=az
section
variable {NB B n:Nat} {R:Nat->Prop} {w:World} {f:Fm}
namespace dY
theorem Na {p x} (h:jw f p=some x):x∈f.se++f.no:=by
 unfold jw at h
 cases hn:aI f.no p with
 |some e=>
  rw[hn] at h;obtain rfl:e=x:=Option.some.inj h;exact List.mem_append_right _ (dW hn).1
 |none=>
  rw[hn] at h;simp only at h;split at h
  .cases h
  .exact List.mem_append_left _ (dW h).1
end dY
end
section
variable {NB B n:Nat} {R:Nat->Prop} {w:World} {f:Fm}
def aDz (NB B:Nat) (R:Nat->Prop) (f:Fm) (d:List UInt8) (w:World) (e:Ending) w':=
 (∃v,e=ar (ao #[v,O aa 0])/\Own aJ 5 w' w v d)/\cu NB B R w' f/\Kq R w w'
theorem Bf (h:cu NB B R w f) (hc:Fc NB f) p (yc:1<=p) (jU:p+2<(NB-3)*8) (wL:p<8192) x (hx:jw f p=some x):
  Calls prog 176 #[f.F,O .u32 p] w (aDz NB B R f x.d w):=by
 have pK:=hc.fi.nb;have YU:=mZ h hc.fi p ae;rw[eo ae] at YU;obtain⟨HLg,HH,UM⟩:=cp YU h (λ(W:World) (hW:cu NB B R W f)=>Qs hW p ae);rw[hx] at UM;have hm:=Na hx;have hgp:=hc.fi.pg x hm;have zJ:=hc.fi.ok x hm;have hxb:=hc.fi.lt hm;have aw9:Vt ((f.g.bl x.b).qB x.i)=Tg.page x.t x.d:=by rw[hgp.pg];rfl
 have xO:=λW (hW:cu NB B R W f)=>yS hW hxb hgp.i8;unfold Rdd at xO;rw[aw9] at xO;obtain⟨sU,YP,kz,UI⟩:=cr xO (Tg.F9 zJ.rt (pay:=x.d) (by rw[zJ.len];decide)) zJ.aCL zJ.len;have gm:=fU;have Xv:=Nj;clear h hc YU hx hm hgp zJ hxb aw9 xO pK yc jU wL;obtain⟨xb,hxb⟩:=aW x.b;obtain⟨xi,hxi⟩:=aW x.i;have uh:plO (some x)= .agg #[O aa xb,O aa xi]:=by rw[hxb,hxi];rfl
 rw[<-hxb,<-hxi] at sU;clear hxb hxi;have JF:=ag uh;clear uh
 go_in
 go_wp2_with fail;go_call HLg as e w1 ⟨rfl,bP⟩;obtain⟨H1,bV⟩:=cn (HH.on bP) bP;clear bP;go_wp2_with fail;go_call(UM.o w1 H1) as e w2 ⟨rfl,aZ⟩;rw[JF.o,show(some x).isSome=true from rfl];have bJ:=(bV.aA aZ).alloc (bB bV.size aZ.size) (.cells #[O aa xb,O aa xi] 247);obtain⟨H2,df,HZ,CS⟩:=cr (HH.on bJ) bJ (aF.new w2 247 #[O aa xb,O aa xi]) (show¬R w2 from(H1.on aZ).aV av);clear aZ bJ;go_upto_region 7 with fail;generalize w2.alloc (.cells #[O aa xb,O aa xi] 247)=w3 at*;generalize w2.heap.size=Z at*;obtain⟨gZ,H3,cO⟩:=cp (show w3.drew.cell? (f.F,0)=some (.pointer (f.g.C,0))/\aF w3.drew Z 247 #[O aa xb,O aa xi] from⟨(H2.on (ak w3)).c0,HZ.ah (ak w3)⟩) (H2.on (ak w3)) (df.aA (ak w3));refine iE (λW'=>W'.cell? (aw f.F 0)=some (.pointer (aw f.g.C 0))/\aF W' Z 247 #[O aa xb,O aa xi]) gZ.o (λaY=>?_);generalize w3.drew=W at*;clear gZ;refine dw 0 f.F 0 ?_;refine aS 1 f.F 0 ?_;refine aS 2 f.F 0 ?_;refine jE 3 f.g.C rfl (λ_ aK=>by obtain⟨y8,_⟩:=aK;go_simp) ?_;refine aS 4 Z 0 ?_;refine jV 5 (xb:Int) (λ_ aK=>aK.2.aj (i:=0) rfl) ?_;refine aS 6 Z 1 ?_;refine jV 7 (xi:Int) (λ_ aK=>aK.2.aj (i:=1) rfl) ?_;refine bY 8 (λK' hK=>?_);go_simp;go_call(sU.o W H3) as e w4 ⟨⟨a4,c4,rfl,U4,FU⟩,QB,oQ⟩;have qX:w4.cell? (f.F,0)=some (.pointer (f.g.C,0))/\aF w4 Z 247 #[O aa xb,O aa xi]:=⟨QB.c0,aY.2.kq oQ CS⟩
 obtain⟨H4,kX⟩:=cn QB ((Kq.of (T:=R) cO).trans oQ);obtain⟨aDA,x9,N8⟩:=cp kX.size FU U4;clear QB oQ FU U4;refine hK.out _ _ qX (λnZ=>?_)
 refine eX 9 (ao #[an a4 96 c4,O aa 0]) ?_;refine eX 10 (an a4 96 c4) ?_;refine iR 11 0 ?_;refine dG 12 (an a4 96 c4) ?_;refine dI 13 0 ?_;refine eH ?_;clear aY qX nZ;go_wp2_with fail;go_call(aek a4 64 c4 _ w4 (x9.arr (by rw[kz.o];omega)) N8 (.inl rfl) YP.o.2.2) as e w5 ⟨a5,n5,c5,rfl,_,_,eQ,_,hx5⟩;rw[YP.o.1,YP.o.2.2];rw[YP.o.2.1] at hx5;obtain⟨Fq,je⟩:=cn (hx5.mono aDA) eQ;clear hx5 eQ;have fM:=(aE w5 w5).alloc av (.cells #[O aa x.t.k,O .u32 x.t.p,O .u64 x.t.s,O .u64 x.t.e] 67);obtain⟨Y9,ve⟩:=cn (Fq.on fM) (je.aA fM);clear fM;unfold tagV;go_wp2_with fail;go_ret2;exact⟨⟨_,rfl,Y9⟩,H4.on ve,kX.on ve⟩
end
end
section
open RowKit dY Opn
namespace Opn
def pz bl k:=(cz 16).map λj=>decide (j<k)&&frB bl j 8
theorem JR bl k:(pz bl k).length=16:=by simp[pz]
theorem ahG bl:pz bl 0=bt 16 false:=by
 apply List.ext_getElem
 .simp[pz]
 grind[Opn.pz]
theorem al3 bl k:(pz bl k).set k (frB bl k 8)=pz bl (k+1):=by
 apply List.ext_getElem
 .simp[pz]
 grind[Opn.pz]
theorem ahH bl k:frB bl k 0=true:=rfl
end Opn
structure Uh B S (w:World) C BL ps bl G gb fl v xs wr:Prop where
 hc:eu 16 B S wr C BL ps bl
 hG:aF wr G 60 #[O aa 16,O aa 8,O aa 64]
 ho:Own pW 4 wr w (an (some ⟨gb,0,none⟩) 16 16) fl
 hv:bQ 6 YZ 249 wr w v xs
 hk:Kq S w wr
 lG:w<=G
 lC:C<w
 lS:∀q,S q->q<w
section
variable {B C BL G gb:Nat} {S:Nat->Prop} {w wr w':World} {ps:Nat->Nat} {bl:Nat->Pb} {fl:List Bool} {v:Value} {xs:List En}
theorem Uh.on (h:Uh B S w C BL ps bl G gb fl v xs wr) (hb:Below wr wr w'):Uh B S w C BL ps bl G gb fl v xs w':=
 ⟨h.hc.on hb,h.hG.ah hb,h.ho.on hb,h.hv.on hb,h.hk.on hb,h.lG,h.lC,h.lS⟩
theorem Uh.read (h:Uh B S w C BL ps bl G gb fl v xs wr) (hc:eu 16 B S w' C BL ps bl) (hk:Kq (λq=>q=C) wr w'):Uh B S w C BL ps bl G gb fl v xs w':=by have hl:=h.lC;refine⟨hc,h.hG.kq hk (λe=>by have:=h.lG;omega),h.ho.kq hk (λq hq e=>by have:=(h.ho.aN q hq).1;omega),⟨h.hv.1,h.hv.2.1,?_⟩,h.hk.aA hk (λq e=> .inl (e▸h.hc.hS _ (.inl rfl))),h.lG,h.lC,h.lS⟩;exact(h.hv.kq hk (λq hq e=>by have:=(h.hv.aN q hq).1;omega)).2.2
theorem Uh.flag (h:Uh B S w C BL ps bl G gb fl v xs wr) k b:Uh B S w C BL ps bl G gb (fl.set k b) v xs (wr.setCell (gb,k) (aq b)):=by
 have hg:=h.ho.aN gb rfl;have di:gb≠G:=λe=>by
  have h1:=h.hG;unfold aF at h1;rcases h.ho.2 with⟨e1,_⟩|⟨q,cap,cur,e1,_,h2,_⟩
  .cases e1
  grind
 refine⟨h.hc.kq (Kq.one (gb,k) (aq b)) (λq hq e=>?_),h.hG.far (by simpa using Ne.symm di) _,h.ho.set k b,h.hv.far (λe=>?_) _,h.hk.setCell (.inr hg.1) _,h.lG,h.lC,h.lS⟩
 .have:=h.lS q hq;have e:q=gb:=e;omega
 .rcases h.hv.2.2 with⟨e1,_⟩|⟨q,cap,cur,e1,_,h2,_⟩
  .rw[e1] at e;cases e
  .rw[e1] at e;obtain rfl:q=gb:=Option.some.inj e;rcases h.ho.2 with⟨e3,_⟩|⟨q3,aDB,aDC,e3,_,h4,_⟩
   .cases e3
   grind
theorem Uh.app {y} (h:Uh B S w C BL ps bl G gb fl v xs wr) {v'} (ho:bQ 6 YZ 249 w' w v' (xs++[y])) (hk:Kq (λq=>v.ownBlock=some q) wr w'):Uh B S w C BL ps bl G gb fl v' (xs++[y]) w':=by
 have axa:=λq hq=>(h.hv.aN q hq).1;refine⟨h.hc.kq hk (λq hq e=>by have:=h.lS q hq;have:=axa q e;omega),h.hG.kq hk (λe=>?_),h.ho.kq hk (λq hq e=>?_),ho,h.hk.aA hk (λq e=> .inr (axa q e)),h.lG,h.lC,h.lS⟩
 .rcases h.hv.2.2 with⟨e1,_⟩|⟨q,cap,cur,e1,_,h2,_⟩
  .rw[e1] at e;cases e
  .rw[e1] at e;obtain rfl:q=G:=Option.some.inj e;have h1:=h.hG;grind[aF]
 .obtain rfl:=dP _ _ _ _ hq;rcases h.hv.2.2 with⟨e1,_⟩|⟨q2,cap,cur,e1,_,h2,_⟩
  .rw[e1] at e;cases e
  .rw[e1] at e;obtain rfl:q2=q:=Option.some.inj e;rcases h.ho.2 with⟨e3,_⟩|⟨q3,aDB,aDC,e3,_,h4,_⟩
   .cases e3
   grind
theorem Uh.aor (h:Uh B S w C BL ps bl G gb fl v xs wr) {k} (hk:k<fl.length):∃b,wr.cell? (aw gb k)=some (aq b)/\wr.frozen? (aw gb k)=false:=by obtain⟨c1,c2⟩:=h.ho.dU hk;exact⟨_,c1,c2⟩
def aDD (B:Nat) (S:Nat->Prop) (C BL:Nat) (ps:Nat->Nat) (bl:Nat->Pb) (w:World) (e:Ending) w':=
 ∃v gb G,e=ar (ao #[v,an (some ⟨gb,0,none⟩) 16 16,aq true])/\Uh B S w C BL ps bl G gb (pz bl 16) v (allL bl 16) w'
theorem aaV:Tg.fZ (Vt none)=20:=(ED (m:=64) (by unfold Vt;rw[dx]) aB aB).2.2
theorem aaW (h:eu 16 B S w C BL ps bl) (hg:Gd 16 bl):
  Calls prog 170 #[C] w (aDD B S C BL ps bl w):=by
 obtain⟨HH,HGd,HGe⟩:=cp h hg (dQ h);have gm:=ry;have Xv:=Nj;clear h hg
 go_in
 go_wp2;go_step3;go_wp2_with fail;go_call HGe as e w1 ⟨rfl,bP⟩;unfold uI;obtain⟨G9,bV,Jq⟩:=cp (aF.new w1 60 #[O aa 16,O aa 8,O aa 64]) (bP.alloc bP.size (.cells #[O aa 16,O aa 8,O aa 64] 60)) bP.size;clear bP;go_upto_region 3 with fail;generalize w1.alloc (.cells #[O aa 16,O aa 8,O aa 64] 60)=w2 at*;generalize w1.heap.size=G at*;have wI:=JJ w2;have g0:=G9.aj (i:=0) (v:=O aa 16) rfl;go_upto_region 4 with fail;generalize hwa:w2.alloc _=w3;have gZ:=ag (show Uh B S w C BL ps bl G w2 (pz bl 0) (an none 0 0) (allL bl 0) w3 from by rw[<-hwa,ahG];have fJ:=(aE w2 w2).alloc av (.cells ((bt 16 false).map pW).toArray 4);exact⟨HH.on (bV.aA fJ),G9.ah fJ,Own.made (f:=pW) (e:=4) (w:=w2) (base:=w.heap.size) (xs:=bt 16 false) bV.size (by simp[maxLen]),bQ.nil ahE _ _,Kq.of (bV.aA fJ),Jq,HH.hi C (HH.hS C (.inl rfl)),HH.hi⟩);generalize w2.heap.size=gb at*;clear g0 wI hwa bV G9;have g0:=gZ.hG.aj (i:=0) (v:=O aa 16) rfl;go_wp2_with fail;go_step3;go_wp2_with fail
 go_loopw [6,8,9,10,11,12,13,14,15,23] (λv6 v8 _ _ _ _ _ _ _ i wr=>∃k:Nat,k<=16/\i=O aa k/\v8=aq true/\Uh B S w C BL ps bl G gb (pz bl k) v6 (allL bl k) wr) (λ_ _ _ _ _ _ _ _ _ i _=>16-(intOf i).toNat)
 case atStart=>exact⟨0,ae,rfl,rfl,gZ⟩
 case round=>
  obtain⟨k,hk,rfl,rfl,hs⟩:=hrel;clear gZ g0;by_cases aT:k<16
  .have WA:(0:Int)<=(k:Int):=ae;have fO:(k:Int)<16:=ae;have fM:=oV hs.hc aT;rw[HGd.bad k aT] at fM;have zI:=ag fM;obtain⟨b0,f0,z0⟩:=hs.aor (k:=k) (by rw[JR];exact aT);have pG:=ag (hs.flag k true);clear hs fM;go_wp2_with fail;go_step3;go_wp2_with fail;refine zI.cj ?_;go_upto_region 10 with fail;generalize wr.setCell (gb,k) (aq true)=w5 at*;clear f0 z0;have g1:=pG.hG.aj (i:=1) (v:=O aa 8) rfl;have HSa:=ag (show Uh B S w C BL ps bl G gb ((pz bl k).set k (frB bl k 0)) u6 (allL bl k++Eu bl k 0) w5 by rw[ahH,show Eu bl k 0=[] from rfl,cC];exact pG.o);clear pG;go_step3;go_wp2_with fail
   go_loopw [6,8,10,11,12,13,14,15,34] (λv6 v8 _ _ _ _ _ _ i wx=>∃q:Nat,q<=8/\i=O aa q/\v8=aq true/\Uh B S w C BL ps bl G gb ((pz bl k).set k (frB bl k q)) v6 (allL bl k++Eu bl k q) wx) (λ_ _ _ _ _ _ _ _ i _=>8-(intOf i).toNat)
   case atStart=>exact⟨0,ae,rfl,rfl,HSa⟩
   case round=>
    obtain⟨q,hq,rfl,rfl,hs⟩:=hrel;clear HSa g1;by_cases pM:q<8
    .obtain⟨HS,sU,ahI,HFr,UJ⟩:=ct hs (wV hs.hc aT pM) (show allL bl k++Eu bl k (q+1)=(allL bl k++Eu bl k q)++pgE k q ((bl k).qB q) by rw[QG,cQ]) (ahC bl k q) (show(allL bl k++Eu bl k q).length<=1000000 by rw[bE];have:=XZ bl k;have:=XY bl k q;omega);have YN:(0:Int)<=(q:Int):=ae;have BA:(q:Int)<8:=ae;clear hs;generalize allL bl k++Eu bl k q=xs at*;go_wp2_with fail;go_call sU as e w6 ⟨⟨a6,c6,rfl,hc6,ho6⟩,hm6,tH⟩;obtain⟨Wx,BQ,HC6⟩:=cp (HS.read hm6 tH) ho6 hc6;clear hm6 tH ho6 hc6;go_wp2_with fail
     cases ho:(bl k).qB q with
     |none=>
      rw[ho] at ahI HFr BQ;go_call(Ij a6 96 c6 _ w6 (BQ.arr (by rw[show(Vt none).length=96 from dx ..];decide)) HC6) as e w7 ⟨a7,n7,c7,rfl,_,_,jr⟩;rw[aaV];obtain⟨⟨tk,tp,ts,te⟩,htt⟩:∃t,t=Tg.fC (Vt none):=⟨_,rfl⟩
      rw[<-htt];have BC:=ag ((Wx.on jr).on ((aE w7 w7).alloc av (.cells #[O aa tk,O .u32 tp,O .u64 ts,O .u64 te] 67)));clear jr htt;unfold tagV;go_wp2_with fail;go_roundw
      case rel=>exact⟨q+1,ae,by go_num,rfl,by rw[HFr.o,ahI.o];simp only[Option.isNone_none,Bool.and_true,pgE,cC];exact BC.o⟩
      case measure=>simp[intOf];omega
     |some L=>
      rw[ho] at ahI HFr BQ;obtain⟨hE,hL,hkp,wZ,hel,uh,_⟩:=HGd.ok k q L aT pM ho;go_call(Ij a6 96 c6 _ w6 (BQ.arr (by rw[show(Vt (some L)).length=96 from hL];decide)) HC6) as e w7 ⟨a7,n7,c7,rfl,_,_,jr⟩;have aDE:=ag jr;rw[show Tg.fZ (Vt (some L))=0 from hE,show Tg.fC (Vt (some L))=Tg.fC L from rfl];obtain⟨y,hy⟩:∃y:En,y=⟨Tg.fC L,Tg.jS L,k,q⟩:=⟨_,rfl⟩
      rw[show pgE k q (some L)=[y] by rw[hy];rfl] at ahI;have hyt:Tg.fC L=y.t:=by rw[hy]
      rw[hyt] at hkp wZ hel uh⊢;have hyb:(y.b:Int)=(k:Int):=by rw[hy]
      have hyi:(y.i:Int)=(q:Int):=by rw[hy]
      obtain⟨HCs,HKp⟩:=cn (show#[O aa y.t.k,O .u32 y.t.p,O .u64 y.t.s,O .u64 y.t.e,O aa k,O aa q]=(YZ y).toArray by rw[<-hyb,<-hyi];rfl) hkp;clear hy hyt hyb hyi hE hL hkp ho;obtain⟨⟨tk,tp,ts,te⟩,td,tb,ti⟩:=y;simp only at wZ hel uh HCs HKp⊢;have ny:=(aE w7 w7).alloc av (.cells #[O aa tk,O .u32 tp,O .u64 ts,O .u64 te] 67);obtain⟨BC,HZ⟩:=cn ((Wx.on jr).on ny) (aF.new w7 67 #[O aa tk,O .u32 tp,O .u64 ts,O .u64 te]);clear jr ny;obtain⟨b8,f8,z8⟩:=BC.aor (k:=k) (by rw[List.length_set,JR];exact aT);unfold tagV;go_upto_region 15 with fail;generalize w7.alloc (.cells #[O aa tk,O .u32 tp,O .u64 ts,O .u64 te] 67)=w8 at*;obtain⟨Z,hZ⟩:=aW w7.heap.size;rw[<-hZ] at HZ⊢;have HZe:=ag hZ;clear hZ;have hs9:=BC.flag k false;rw[List.set_set] at hs9;obtain⟨UO,HFq,CS⟩:=cp hs9 (show frB bl k (q+1)=false by rw[HFr.o];simp) (show Z≠gb from λe=>by have h1:=(BC.ho.aN gb rfl).2;have h2:=HZe.o;have h3:=(Wx.ho.aN gb rfl).2;have h4:=aDE.size;omega);have HZ9:=ag (HZ.far (p:=⟨gb,k,none⟩) (by simpa using CS.o) (aq false));clear hs9;go_upto_region 17 with fail;generalize w8.setCell (gb,k) (aq false)=w9 at*;clear f8 z8;obtain⟨c0,c1,c2,c3⟩:=HZ9.c4;have hsi:(ts:Int)<=2305843009213693952:=ae;have hei:(te:Int)<=2305843009213693952:=ae;obtain⟨kb,eU,jU⟩:∃kb,(tk==2)=kb/\((tp:Int)==0)=kb:=by
       by_cases h0:tp=0
       .exact⟨true,by rw[beq_iff_eq];exact HKp.o.2 h0,by rw[h0];rfl⟩
       .exact⟨false,by rw[ew];exact λe=>h0 (HKp.o.1 e),by rw[ew];omega⟩
      have aDF:=ag UO.hk.size;clear uh
      go_wp2_with (at_builtin;refine EC rfl _ _ rfl w _ xs rfl UO.hv ⟨⟨tk,tp,ts,te⟩,td,tb,ti⟩ _ rfl rfl HCs UJ aDF ?_;intro v7 wA uB yh)
      have HSA:=ag (UO.app uB yh);go_roundw
      case rel=>exact⟨q+1,ae,by go_num,rfl,by rw[HFq.o,ahI.o];exact HSA.o⟩
      case measure=>simp[intOf];omega
    .obtain rfl:q=8:=ae;have HS:=ag hs;clear hs;go_wp2_with fail;rw[Exit.noGoto_normal];go_wp2_with fail;go_roundw
     case rel=>exact⟨k+1,ae,by go_num,rfl,by rw[<-al3,QH];exact HS.o⟩
     case measure=>simp[intOf];omega
  .obtain rfl:k=16:=ae;have HS:=ag hs;clear hs;go_wp2_with fail;rw[Exit.noGoto_ret];go_ret3;exact⟨_,_,_,rfl,HS⟩
end
end
section
open RowKit
def U5 (bl:Nat->Pb) (k l m:Nat) b:=(b=false/\l=0/\m=0)\/(b=true/\(∃i,i<k/\(bl i).bad=false/\l=(bl i).aC)/\∃i,i<k/\(bl i).bad=false/\m=(bl i).aC)
theorem U5.skip {bl k l m b} (h:U5 bl k l m b):U5 bl (k+1) l m b:=by
 rcases h with h|⟨h,⟨i,i1,i2⟩,⟨j,j1,j2⟩⟩
 .exact .inl h
 .exact .inr ⟨h,⟨i,ae,i2⟩,⟨j,ae,j2⟩⟩
theorem U5.new {bl k we} (hb:(bl k).bad=false) (hw:we=(bl k).aC):U5 bl (k+1) we we true:= .inr ⟨rfl,⟨k,ae,hb,hw⟩,⟨k,ae,hb,hw⟩⟩
theorem U5.lo {bl k l m we} (h:U5 bl k l m true) (hb:(bl k).bad=false) (hw:we=(bl k).aC):U5 bl (k+1) we m true:=by
 rcases h.skip with⟨h,_⟩|⟨h,_,h2⟩
 .cases h
 .exact .inr ⟨rfl,⟨k,ae,hb,hw⟩,h2⟩
theorem U5.hi {bl k l m we} (h:U5 bl k l m true) (hb:(bl k).bad=false) (hw:we=(bl k).aC):U5 bl (k+1) l we true:=by
 rcases h.skip with⟨h,_⟩|⟨h,h2,_⟩
 .cases h
 .exact .inr ⟨rfl,h2,⟨k,ae,hb,hw⟩⟩
theorem U5.bnd {bl k l m NB v b} (h:U5 bl k l m b) (hk:k<=NB) (hw:∀k,k<NB->(bl k).aC<=v):l<=v/\m<=v:=by
 rcases h with⟨_,rfl,rfl⟩|⟨_,⟨i,i1,_,rfl⟩,⟨j,j1,_,rfl⟩⟩
 .grind
 grind
theorem U5.small {bl k l m NB b} (h:U5 bl k l m b) (hk:k<=NB) (hg:∀i j,i<NB->j<NB->(bl i).bad=false->(bl j).bad=false->(bl i).aC<=(bl j).aC+4):m-(l:Int)<=4:=by
 rcases h with⟨_,rfl,rfl⟩|⟨_,⟨i,i1,i2,rfl⟩,⟨j,j1,j2,rfl⟩⟩
 .omega
 .have:=hg j i ae ae j2 i2;omega
section
variable {NB B C BL:Nat} {S:Nat->Prop} {w:World} {ps:Nat->Nat} {bl:Nat->Pb}
theorem aeh (h:eu NB B S w C BL ps bl) (pK:NB<=1000) (hw:∀k,k<NB->(bl k).aC<=1099511627776) (hg:∀i j,i<NB->j<NB->(bl i).bad=false->(bl j).bad=false->(bl i).aC<=(bl j).aC+4):
  Calls prog 16 #[C] w λe w'=>(∃d,d<=4/\e=ar (O aa d))/\Below w w w':=by
 obtain⟨HH,HG,HW⟩:=cp h hg hw;clear h hg hw
 go_in
 go_wp2
 go_loopw [3,4,5,6] (λl m f i wr=>∃(k a c:Nat) (b:Bool),k<=NB/\i=O aa k/\l=O aa a/\m=O aa c/\f=aq b/\Hid (U5 bl k a c b)/\Hid (Below w w wr)) (λ_ _ _ i _=>NB-(intOf i).toNat)
 case atStart=>exact⟨0,0,0,false,ae,rfl,rfl,rfl,rfl,ag (.inl ⟨rfl,rfl,rfl⟩),ag (aE _ _)⟩
 case round=>
  obtain⟨k,lo,hi,b,hk,rfl,rfl,rfl,rfl,HD,kT⟩:=hrel;have HC0:=ag (dQ (HH.on kT));have hf:=ahf (O aa NB) (O aa 8) (O aa 64);go_wp2_with fail;go_call HC0 as e w1 ⟨rfl,bP⟩;have bV:=ag (kT.aA bP);have HC1:=ag (HH.on bV);clear bP;unfold uI;by_cases aT:k<NB
  .have fO:(k:Int)<(NB:Int):=ae;obtain⟨zI,JM⟩:=cn (oV HC1 aT) (mJ HC1 aT);obtain⟨we,IU⟩:=aW ((bl k).aC);have HWw:=ag IU;rw[<-IU] at JM;clear IU
   cases hbad:(bl k).bad with
   |true=>
    rw[hbad] at zI;clear hbad;go_wp2_with fail;refine zI.cj ?_;go_wp2_with fail;go_roundw
    case rel=>exact⟨k+1,lo,hi,b,ae,by go_num,rfl,rfl,rfl,ag HD.skip,bV⟩
    case measure=>simp[intOf];omega
   |false=>
    rw[hbad] at zI;have sW:=ag hbad;clear hbad;go_wp2_with fail;refine zI.cj ?_
    cases b with
    |false=>
     go_wp2_with fail;refine JM.cj ?_;go_wp2_with fail;refine JM.cj ?_;go_wp2_with fail;go_roundw
     case rel=>exact⟨k+1,we,we,true,ae,by go_num,rfl,rfl,rfl,ag (U5.new sW HWw),bV⟩
     case measure=>simp[intOf];omega
    |true=>
     by_cases ha:we<lo
     .by_cases hc:hi<we
      .go_wp2_with fail;refine JM.cj ?_;go_wp2_with fail;refine JM.cj ?_;go_wp2_with fail;refine JM.cj ?_;go_wp2_with fail;refine JM.cj ?_;go_wp2_with fail;go_roundw
       case rel=>exact⟨k+1,we,we,true,ae,by go_num,rfl,rfl,rfl,ag (U5.new sW HWw),bV⟩
       case measure=>simp[intOf];omega
      .go_wp2_with fail;refine JM.cj ?_;go_wp2_with fail;refine JM.cj ?_;go_wp2_with fail;refine JM.cj ?_;go_wp2_with fail;go_roundw
       case rel=>exact⟨k+1,we,hi,true,ae,by go_num,rfl,rfl,rfl,ag (HD.lo sW HWw),bV⟩
       case measure=>simp[intOf];omega
     .by_cases hc:hi<we
      .go_wp2_with fail;refine JM.cj ?_;go_wp2_with fail;refine JM.cj ?_;go_wp2_with fail;refine JM.cj ?_;go_wp2_with fail;go_roundw
       case rel=>exact⟨k+1,lo,we,true,ae,by go_num,rfl,rfl,rfl,ag (HD.hi sW HWw),bV⟩
       case measure=>simp[intOf];omega
      .go_wp2_with fail;refine JM.cj ?_;go_wp2_with fail;refine JM.cj ?_;go_wp2_with fail;go_roundw
       case rel=>exact⟨k+1,lo,hi,true,ae,by go_num,rfl,rfl,rfl,ag HD.skip,bV⟩
       case measure=>simp[intOf];omega
  .obtain rfl:k=NB:=ae;have hbn:=HD.bnd av HW.o;have i1:=bq ((hi:Int)-(lo:Int)) ⟨ae,ae⟩;clear hbn;go_wp2;go_ret;exact⟨⟨_,HD.small av HG,rfl⟩,bV⟩
end
end
section
open RowKit dY
def vw f q:=(jw f q).map sk
namespace dY
variable {NB B p:Nat} {R:Nat->Prop} {w:World} {f f':Fm} {pay tx:List UInt8}
theorem G6 f q:vw f q=match (aI f.no q).map sk with
  |some x=>some x
  |none=>if (aI f.go q).isSome then none else(aI f.se q).map sk:=by
 unfold vw jw
 grind
theorem DK {q x} (h:vw f q=some x):∃e,jw f q=some e/\e.d=x.2/\e.t=x.1:=by
 unfold vw at h
 cases hz:jw f q with
 |none=>rw[hz] at h;cases h
 |some e=>rw[hz] at h;obtain rfl:sk e=x:=Option.some.inj h;exact⟨e,rfl,rfl,rfl⟩
theorem Wrd.vw (h:Wrd NB f f' p pay) q:vw f' q=if q=p then some (⟨1,p,f.seq,f.ep⟩,pay) else vw f q:=by
 rw[G6,G6,h.no,h.go,D5 h.se];grind
theorem Wrd.len_ (h:Wrd NB f f' p pay):(f'.se++f'.no).length=(f.se++f.no).length+if (aI f.no p).isSome then 0 else 1:=by have h1:=congrArg List.length h.se;simp only[bO] at h1;rw[bE,bE,h1,h.len];omega
theorem Wrd.agu (h:Wrd NB f f' p pay) (h0:(aI f.se 0).isSome=true):(aI f'.se 0).isSome=true:=by rw[jL h.se];exact h0
theorem _root_.Go.Proofs.YtnieckfelfoopaaGreat.Sld.vw (h:Sld NB f f' tx) q:vw f' q=if q=0 then some (vW f,ig tx) else vw f q:=by
 have e1:(aI f'.no q).map sk=none:=by rw[h.no];rfl
 have e2:(aI f'.go q).isSome=false:=by rw[h.go];rfl
 rw[G6,G6,e1,e2,h.se];rfl
theorem _root_.Go.Proofs.YtnieckfelfoopaaGreat.Sld.agu (h:Sld NB f f' tx):(aI f'.se 0).isSome=true:=by
 have:=h.se 0;rw[ev rfl] at this
 cases hz:aI f'.se 0 with
 |none=>grind
 |some e=>rfl
theorem Wn {l m} (hu:Uq l) (h:∀q,(aI l q).isSome=true->q<m):l.length<=m:=by have:=vV (l:=l.map λe:En=>e.t.p) (l':=cz m) hu λp hp=>List.mem_range.2 (h p (dK.2 hp));grind
theorem Zj (h:cu NB B R w f) (hc:Fc NB f) (hs:f.seq<=1000000):
    Calls prog 16 #[f.g.C] w λe w'=>(∃d,d<=4/\e=ar (O aa d))/\Below w w w':=by
  obtain⟨S,a1,_⟩:=h;have hn:=hc.fi.nb;have hb:=λk hk=>hc.fi.w.bk k hk;refine(aeh a1.hg.hc ae (λk hk=>by have:=(hb k hk).we;have:=(hb k hk).wn;omega) λi j hi hj h1 h2=>?_).mono ?_
  · have n4:∀k,k<NB->(f.g.bl k).bad=false->(Gc.at_ f.g.l k).st≠4:=λk hk h3 h4=>by have:=((hb k hk).bd h4).2;grind
    have h5:=hc.fi.w.gap i j hi hj (n4 i hi h1) (n4 j hj h2);have:=(hb i hi).we;have:=(hb j hj).we;omega
  grind
end dY
end
section
open RowKit dY ChangeMaps
section
variable {NB B:Nat} {R:Nat->Prop} {w:World} {f:Fm}
theorem Tc (h:cu NB B R w f) (hc:Fc NB f) p (yc:1<=p) (jU:p+2<(NB-3)*8) (wL:p<8192) (hn:aI f.no p=none) e0 (h0:aI f.se p=some e0):
  Calls prog 144 #[f.F,O .u32 p] w λe w'=>e=ar (O aa 0)/\cu NB B R w' {f with go:=dA f.go e0}/\Kq R w w':=by
 have pK:=hc.fi.nb;have YU:=mZ h hc.fi p ae;rw[eo ae] at YU;obtain⟨HLg,HH,HN,HS⟩:=cr YU h hn h0;have gm:=fU;have HEp:=ag (dW h0).2;clear h hc YU hn h0
 go_in
 go_wp2_with fail;go_call HLg as e w1 ⟨rfl,bP⟩;have H1:=ag (HH.on bP);have Qm:=H1.hN.yL (p:=p) ae HN.o (x:=0) (y:=0) rfl rfl;have c6:=H1.c6;have aZ:=bP.alloc bP.size (.cells #[O aa 0,O aa 0] 247);obtain⟨H2,df⟩:=cn (HH.on aZ) aZ;clear bP aZ;have Qm:(Instr.lookup 222 (.map (some f.NO)) (O .u32 p) true).run prog w1= .ok (ao #[.agg #[O aa 0,O aa 0],aq false]) w1:=Qm;go_upto_region 5 with fail;generalize w1.alloc (.cells #[O aa 0,O aa 0] 247)=w2 at*;clear Qm c6;have CV:=H2.hS.yL (p:=p) ae HS.o (x:=e0.b) (y:=e0.i) rfl rfl;have c5:=H2.c5;have bJ:=df.alloc df.size (.cells #[O aa e0.b,O aa e0.i] 247);obtain⟨H3,cO,HZ⟩:=cp (HH.on bJ) bJ (aF.new w2 247 #[O aa e0.b,O aa e0.i]);have CV:(Instr.lookup 222 (.map (some f.SE)) (O .u32 p) true).run prog w2= .ok (ao #[.agg #[O aa e0.b,O aa e0.i],aq true]) w2:=CV;clear bJ;go_upto_region 10 with fail;generalize w2.alloc (.cells #[O aa e0.b,O aa e0.i] 247)=w3 at*;generalize w2.heap.size=Z at*;clear CV c5;obtain⟨H4,jM⟩:=cn (H3.on (ak w3)) (cO.aA (ak w3));have ET:w3.drew.cell? (f.F,7)=some (.map (some f.GO))/\aF w3.drew Z 247 #[O aa e0.b,O aa e0.i]:=⟨H4.c7,HZ.drew⟩
 refine iE (λW'=>W'.cell? (aw f.F 7)=some (.map (some f.GO))/\aF W' Z 247 #[O aa e0.b,O aa e0.i]) ET (λaY=>?_);generalize w3.drew=w4 at*;clear ET;refine dw 0 f.F 0 ?_;refine aS 1 f.F 0 ?_;refine aS 2 f.F 7 ?_;refine jE 3 (.map (some f.GO)) rfl (λ_ aK=>by obtain⟨y1,y2⟩:=aK;go_simp) ?_;refine dG 4 (O .u32 p) ?_;refine jE 5 (.agg #[O aa e0.b,O aa e0.i]) rfl (λ_ aK=>by have y1:=aK.2.aj (i:=0) rfl;have y2:=aK.2.aj (i:=1) rfl;go_simp) ?_;obtain⟨o,bF,hm,hk⟩:=H4.awe e0 (by rw[HEp.o];omega);rw[HEp.o,uP] at bF;refine bY 6 (λK' hK=>?_);go_simp;obtain⟨HM,HK⟩:=cn hm hk;have hG:f.GO≠f.F/\f.GO≠Z:=by obtain⟨S,a1,_⟩:=H4.o;have nd:=a1.nd;simp only[cR,bS,cY,or_false,not_or] at nd;refine⟨λe=>nd.1.2.2.1 e.symm,λe=>?_⟩;obtain⟨es,cl,h1,_⟩:=a1.hG;have h2:=aY.2;unfold aF at h2;rw[<-e,h1] at h2;cases h2
 have hq:=iI H4.hG o;have dh:(setBlock w4 f.GO o).cell? (f.F,7)=some (.map (some f.GO))/\aF (setBlock w4 f.GO o) Z 247 #[O aa e0.b,O aa e0.i]:=⟨HM.c7,aY.2.grown hq (λe=>hG.2 (Option.some.inj e).symm)⟩
 clear hm hk bF hG hq;refine hK.out _ _ dh (λfE=>?_)
 refine eH ?_;clear aY dh fE;go_wp2_with fail;go_ret;exact⟨rfl,HM,(Kq.of jM).trans HK⟩
end
namespace dY
structure RX NB (f f':Fm) (K:Nat->Prop):Prop where
 eq:f'={f with go:=f'.go}
 fc:Fc NB f'
 go:∀q,(aI f'.go q).isSome=true↔K q
section
variable {NB p:Nat} {f f':Fm} {K K':Nat->Prop} {e0:En}
theorem RX.start (h:Fc NB f) (hg:f.go=[]):RX NB f f λ_=>False:=⟨rfl,h,λq=>by rw[hg];exact⟨λh=>(by cases h),λh=>h.elim⟩⟩
theorem RX.VN (h:RX NB f f' K) (hK:∀q,K q↔K' q):RX NB f f' K':=⟨h.eq,h.fc,λq=>(h.go q).trans (hK q)⟩
theorem RX.step (h:RX NB f f' K) (hu:Uq f'.go) (hp:1<=e0.t.p) (h0:aI f.se e0.t.p=some e0) (hK:∀q,K' q↔q=e0.t.p\/K q):RX NB f {f' with go:=dA f'.go e0} K':=by
 have hg:∀q,aI (dA f'.go e0) q=if q=e0.t.p then some e0 else aI f'.go q:=λq=>lT hu q
 have vC:f'.se=f.se:=by rw[h.eq]
 refine⟨by rw[h.eq],⟨h.fc.fi,h.fc.fr,h.fc.cap,h.fc.ov,h.fc.sq,λx hx=>?_,h.fc.n0,?_,h.fc.zi⟩,λq=>?_⟩
 .rcases D6 hx with rfl|h1
  .grind
  .exact h.fc.gk x h1
 .show aI (dA f'.go e0) 0=none;rw[hg,eo ae];exact h.fc.g0
 .show(aI (dA f'.go e0) q).isSome=true↔_;rw[hg,hK];by_cases e:q=e0.t.p
  .grind
  .rw[eo e,h.go];grind
theorem RX.cur (h:RX NB f f' K) (hn:f.no=[]) (hg:f.go=[]) q (hq:¬K q):jw f' q=jw f q:=by
 have hg':(aI f'.go q).isSome=false:=by
  cases hz:(aI f'.go q).isSome with
  |false=>rfl
  |true=>exact absurd ((h.go q).1 hz) hq
 have hno:f'.no=f.no:=by rw[h.eq]
 have vC:f'.se=f.se:=by rw[h.eq]
 unfold jw;grind
theorem RX.gone (h:RX NB f f' K) (hn:f.no=[]) q (hq:K q):jw f' q=none:=by
 have hno:f'.no=f.no:=by rw[h.eq]
 unfold jw;rw[hno,hn,(h.go q).2 hq];rfl
theorem RX.none (h:RX NB f f' K) (hg:f.go=[]) (hK:∀q,¬K q):f'=f:=by
 have:f'.go=[]:=by
  cases hz:f'.go with
  |nil=>rfl
  |cons a t=>
   have h1:=(h.go a.t.p).1 (by rw[hz];exact dK.2 au);exact absurd h1 (hK _)
 rw[h.eq,this,<-hg]
end
end dY
end
section
namespace fG
def zeros:List UInt8:=bt 64 0
theorem wC:zeros.length=64:=dx ..
def nN (g:Nat->List UInt8) (n:Nat) x:=λm=>if m=n then x else g m
theorem fD g n x:nN g n x n=x:=ev rfl
theorem dS {g n m x} (h:m≠n):nN g n x m=g m:=eo h
end fG
open fG
structure Ps where
 tb:Nat
 np:Nat
 ino:Nat
 us:List Nat
 g:Nat->List UInt8
 dy:Nat->Prop
namespace Ps
def There (s:Ps) n:=(1<=n/\n<=s.tb)\/n∈s.us
instance (s:Ps) (n:Nat):Decidable (s.There n):=by unfold There;infer_instance
def put (s:Ps) (n:Nat) x:={s with g:=nN s.g n x,dy:=λm=>m=n\/s.dy m}
def Ud (s:Ps) (n:Nat) x:={s with us:=s.us++[n],g:=nN s.g n x}
def arq (s:Ps) (n:Nat) x:={s with us:=s.us++[n],g:=nN s.g n x,dy:=λm=>m=n\/s.dy m}
def add (s:Ps) n:=s.arq n zeros
def del (s:Ps) n:={s with us:=s.us.filter (·!=n),g:=nN s.g n [],dy:=λm=>s.dy m/\m≠n}
structure Ok (s:Ps):Prop where
 us:∀n∈s.us,s.tb<n/\n<=s.tb+s.np
 nd:s.us.Nodup
 sz:∀n,s.There n->(s.g n).length=64
 no:∀n,¬s.There n->s.g n=[]
structure Nx (s:Ps) n:Prop where
 lo:s.tb<n
 hi:n<=s.tb+s.np
 new:n∉s.us
 least:∀m,s.tb<m->m<n->m∈s.us
variable {s:Ps} {n m:Nat}
theorem Nx.one (h:s.Nx n) (k:s.Nx m):n=m:=by
 rcases Nat.lt_trichotomy n m with h1|h1|h1
 .exact absurd (k.least n h.lo h1) h.new
 .exact h1
 .exact absurd (h.least m k.lo h1) k.new
theorem mW {α:Type} [DecidableEq α] {l l':List α} (h:l.Nodup) (hs:∀x∈l,x∈l'):l.length<=l'.length:=by
 induction l generalizing l' with
 |nil=>exact bN _
 |cons x t ih=>
  rw[cR] at h;have hx:=hs x au;have h2:=ih (l':=l'.erase x) h.2 λy hy=>(List.mem_erase_of_ne (λe=>h.1 (by rw[<-e];exact hy))).2 (hs y (by simp[hy]));grind
theorem Nx.ex (h:s.us.length<s.np):∃n,s.Nx n:=by
 suffices h2:∀k,k<=s.np->(∃n,s.Nx n)\/∀m,s.tb<m->m<=s.tb+k->m∈s.us by
  rcases h2 s.np av with h3|h3
  .exact h3
  .have h4:=mW (l:=(cz s.np).map λi=>s.tb+1+i) (l':=s.us) (by
    unfold List.Nodup;rw[List.pairwise_map];exact List.nodup_range.imp λh e=>h ae) (λx hx=>by
    grind)
   grind
 intro k
 induction k with
 |zero=>grind
 |succ k ih=>
  intro hk;rcases ih ae with h1|h1
  .exact .inl h1
  .by_cases h2:s.tb+k+1∈s.us
   .grind
   .exact .inl ⟨s.tb+k+1,ae,ae,h2,λm h3 h4=>h1 m h3 ae⟩
theorem sK {x}:(s.Ud n x).There m↔s.There m\/m=n:=by unfold There Ud;rw[cv,cG];exact or_assoc.symm
theorem ahA {x y}:(s.Ud n x).put n y=s.arq n y:=by
 unfold Ud arq put
 congr 1
 funext m
 show nN (nN s.g n x) n y m=nN s.g n y m;by_cases e:m=n
 .subst e;rw[fD,fD]
 .rw[dS e,dS e,dS e]
theorem zZ (h:s.tb<n):(s.del n).There m↔s.There m/\m≠n:=by
 unfold There del;grind
theorem Ok.put (h:s.Ok) {x} (hn:s.There n) (hx:x.length=64):(s.put n x).Ok:=by
 refine⟨h.us,h.nd,λm hm=>?_,λm hm=>?_⟩
 .show(nN s.g n x m).length=64;by_cases e:m=n
  .subst e;rw[fD];exact hx
  .rw[dS e];exact h.sz m hm
 .show nN s.g n x m=[];rw[dS (λe=>hm (by rw[e];exact hn))];exact h.no m hm
theorem Ok.Ud (h:s.Ok) (hn:s.Nx n) {x} (hx:x.length=64):(s.Ud n x).Ok:=by
 refine⟨λm hm=>?_,?_,λm hm=>?_,λm hm=>?_⟩
 .rcases cv.1 hm with h1|h1
  .exact h.us m h1
  .rw[cG.1 h1];exact⟨hn.lo,hn.hi⟩
 .show(s.us++[n]).Nodup;rw[List.nodup_append];refine⟨h.nd,au,?_⟩;rintro a ha c hc rfl;rw[cG.1 hc] at ha;exact hn.new ha
 .show(nN s.g n x m).length=64;by_cases e:m=n
  .subst e;rw[fD];exact hx
  .rw[dS e];rcases sK.1 hm with h1|h1
   .exact h.sz m h1
   .exact absurd h1 e
 .show nN s.g n x m=[];have h2:=λh1=>hm (sK.2 h1);rw[dS (λe=>h2 (.inr e))];exact h.no m λh1=>h2 (.inl h1)
theorem Ok.add (h:s.Ok) (hn:s.Nx n):(s.add n).Ok:=by have k:=h.Ud hn wC;exact⟨k.us,k.nd,k.sz,k.no⟩
theorem Ok.del (h:s.Ok) (hn:s.tb<n):(s.del n).Ok:=by
 refine⟨λm hm=>h.us m (List.mem_filter.1 hm).1,h.nd.filter _,λm hm=>?_,λm hm=>?_⟩
 .obtain⟨h1,h2⟩:=(zZ hn).1 hm;show(nN s.g n [] m).length=64;rw[dS h2];exact h.sz m h1
 .show nN s.g n [] m=[];by_cases e:m=n
  .subst e;rw[fD]
  .rw[dS e];exact h.no m λh1=>hm ((zZ hn).2 ⟨h1,e⟩)
end Ps
end
section
open RowKit Maps ChangeMaps dY
structure Dp where
 n:Nat
 v:Value
 x:List UInt8
namespace fG
def iV (n:Nat):Value:=O aa n
theorem ZM a b (h:iV a=iV b):a=b:=by
 unfold iV at h;injection h with _ h
 omega
def Ae:Enc Nat:=⟨id,iV,iV,ZM⟩
def uC:Enc Dp:=⟨Dp.n,iV,Dp.v,ZM⟩
theorem xQ:Keyed prog 3:=int_keyed Tryz.underlying3
theorem IZ {p} (h:p<4294967296):keyOf prog 3 (iV p)=some (.int .i64 p):=by
 have hw:(Lit.int .i64 p).wf=true:=by simp[Lit.wf,IntKind.min,IntKind.max,IntKind.bits,IntKind.signed];omega
 simp[keyOf,mapKey,Tryz.underlying3,iV,hw]
def EL (f:Fm) (dl:List Dp) (n:Nat):List UInt8:=match uC.get dl n with
 |some d=>d.x
 |none=>match vw f n with
  |some y=>y.2
  |none=>zeros
theorem aga w:(zeroValue 3).run prog w= .ok (O aa 0) w:=az
theorem agx w:(zeroValue 23).run prog w= .ok (an none 0 0) w:=az
theorem ars {us n}:(Ae.get us n).isSome=true↔n∈us:=by
 constructor
 .intro h
  cases hg:Ae.get us n with
  |none=>rw[hg] at h;cases h
  |some x=>
   obtain⟨h1,h2⟩:=Enc.get_mem hg;obtain rfl:x=n:=h2;exact h1
 .intro h
  cases hg:Ae.get us n with
  |none=>exact absurd rfl (Enc.get_none hg n h)
  |some x=>rfl
end fG
open fG
def Jc (F U D:Nat) (s:Ps):Array Value:=#[F,O aa s.tb,O aa (s.tb+1),O aa s.np,O aa s.ino,O aa 64,.map (some U),.map (some D)]
structure yu NB B R w P U D dl (f:Fm) s:Prop where
 hP:aF w P 155 (Jc f.F U D s)
 hU:cZ Ae prog 3 w U s.us
 hD:cZ uC prog 3 w D dl
 hf:cu NB B R w f
 fc:Fc NB f
 ok:s.Ok
 bd:s.tb+s.np+2<(NB-3)*8/\s.tb+s.np<8192
 dt:∀d∈dl,s.There d.n
 ow:∀d∈dl,Own aJ 5 w 0 d.v d.x
 g:∀n,s.There n->s.g n=EL f dl n
 ne:P≠U/\P≠D/\U≠D
 nr:¬R P/\¬R U/\¬R D
 nu:∀d∈dl,∀q,d.v.ownBlock=some q->q≠P/\q≠U/\q≠D/\¬R q
 dy:∀n,s.dy n↔(uC.get dl n).isSome=true
def Hp (P U D:Nat) (R:Nat->Prop) (dl:List Dp) q:=q=P\/q=U\/q=D\/R q\/∃d∈dl,d.v.ownBlock=some q
def bZ (NB B:Nat) (Q:Nat->Prop) (w:World) (P:Nat) f s:=∃U D dl R,yu NB B R w P U D dl f s/\(∀q,Hp P U D R dl q->Q q)/\∀q,Q q->B<=q/\q<w
def kF NB B Q w w' P f s:=bZ NB B (Up Q w w') w' P f s/\Kq Q w w'
section
variable {NB B P U D:Nat} {R Q T:Nat->Prop} {w w' w1 w2:World} {f f1 f2:Fm} {s s1 s2:Ps} {dl:List Dp}
theorem yu.kq (h:yu NB B R w P U D dl f s) (hk:Kq T w w') (hT:∀q,Hp P U D R dl q->¬T q):yu NB B R w' P U D dl f s:=
 ⟨h.hP.kq hk (hT _ (.inl rfl)),h.hU.same (hk.block _ h.hU.lt (hT _ (.inr (.inl rfl)))),h.hD.same (hk.block _ h.hD.lt (hT _ (.inr (.inr (.inl rfl))))),h.hf.kq hk λq hq=>hT q (.inr (.inr (.inr (.inl hq)))),h.fc,h.ok,h.bd,h.dt,
  λd hd=>(h.ow d hd).kq hk λq hq=>hT q (.inr (.inr (.inr (.inr ⟨d,hd,hq⟩)))),h.g,h.ne,h.nr,h.nu,h.dy⟩
theorem bZ.kq (h:bZ NB B Q w P f s) (hk:Kq T w w') (hT:∀q,Q q->¬T q):bZ NB B Q w' P f s:=by obtain⟨U,D,dl,R,h1,h2,h3⟩:=h;exact⟨U,D,dl,R,h1.kq hk λq hq=>hT q (h2 q hq),h2,λq hq=>⟨(h3 q hq).1,cM (h3 q hq).2 hk.size⟩⟩
theorem bZ.on (h:bZ NB B Q w P f s) (hb:Below w w w'):bZ NB B Q w' P f s:=h.kq (T:=λ_=>False) (Kq.of hb) λ_ _ h=>h
theorem bZ.more {Q'} (h:bZ NB B Q w P f s) (h1:∀q,Q q->Q' q) (h2:∀q,Q' q->B<=q/\q<w):bZ NB B Q' w P f s:=by obtain⟨U,D,dl,R,a1,a2,_⟩:=h;exact⟨U,D,dl,R,a1,λq hq=>h1 q (a2 q hq),h2⟩
theorem bZ.bnd (h:bZ NB B Q w P f s):∀q,Q q->B<=q/\q<w:=by obtain⟨_,_,_,_,_,_,h3⟩:=h;exact h3
theorem bZ.inP (h:bZ NB B Q w P f s):Q P:=by obtain⟨_,_,_,_,_,h2,_⟩:=h;exact h2 _ (.inl rfl)
theorem bZ.base (h:bZ NB B Q w P f s):B<=w:=by have:=h.bnd _ h.inP;omega
theorem bZ.aV (h:bZ NB B Q w P f s) {q} (hq:w.heap.size<=q):¬Q q:=λh1=>by have:=(h.bnd q h1).2;omega
theorem bZ.ok (h:bZ NB B Q w P f s):s.Ok:=by obtain⟨_,_,_,_,h1,_⟩:=h;exact h1.ok
theorem bZ.bd (h:bZ NB B Q w P f s):s.tb+s.np<8192:=by obtain⟨_,_,_,_,h1,_⟩:=h;exact h1.bd.2
theorem bZ.hP (h:bZ NB B Q w P f s):∃U D,aF w P 155 (Jc f.F U D s):=by obtain⟨U,D,_,_,h1,_⟩:=h;exact⟨U,D,h1.hP⟩
theorem bZ.c0 (h:bZ NB B Q w P f s):w.cell? (P,0)=some (.pointer (f.F,0)):=by obtain⟨U,D,h⟩:=h.hP;exact h.aj rfl
theorem bZ.c1 (h:bZ NB B Q w P f s):w.cell? (P,1)=some (O aa s.tb):=by obtain⟨U,D,h⟩:=h.hP;exact h.aj rfl
theorem bZ.c2 (h:bZ NB B Q w P f s):w.cell? (P,2)=some (O aa (s.tb+1)):=by obtain⟨U,D,h⟩:=h.hP;exact h.aj rfl
theorem bZ.c3 (h:bZ NB B Q w P f s):w.cell? (P,3)=some (O aa s.np):=by obtain⟨U,D,h⟩:=h.hP;exact h.aj rfl
theorem bZ.c4 (h:bZ NB B Q w P f s):w.cell? (P,4)=some (O aa s.ino):=by obtain⟨U,D,h⟩:=h.hP;exact h.aj rfl
theorem bZ.c5 (h:bZ NB B Q w P f s):w.cell? (P,5)=some (O aa 64):=by obtain⟨U,D,h⟩:=h.hP;exact h.aj rfl
theorem aei {Q w q} (h:Up Q w w q):Q q:=by rcases h with h|h;exact h;omega
theorem bZ.refl (h:bZ NB B Q w P f s):kF NB B Q w w P f s:=⟨h.more (λ_ hq=> .inl hq) λq hq=>h.bnd q (aei hq),Kq.refl _ _⟩
theorem kF.aA (h:kF NB B Q w w1 P f1 s1) (k:kF NB B (Up Q w w1) w1 w2 P f2 s2):kF NB B Q w w2 P f2 s2:=by grind[kF,Up,bZ,Kq.size,acf,Kq.aA]
theorem kF.on (h:kF NB B Q w w1 P f s) (hb:Below w1 w1 w2) (hB:B<=w):kF NB B Q w w2 P f s:=by
 have hs:=hb.size;refine⟨(h.1.on hb).more (λq hq=>?_) λq hq=>?_,h.2.on hb⟩
 .grind[Up]
 .rcases hq with h1|h1
  .have:=h.1.bnd q (.inl h1);omega
  .omega
theorem bZ.on_ (h:bZ NB B Q w P f s) (hb:Below w w w1):kF NB B Q w w1 P f s:=h.refl.on hb h.base
theorem bZ.agc (h1:bZ NB B Q w' P f2 s2) (h2:Kq Q w w') (hB:B<=w):kF NB B Q w w' P f2 s2:=by
 refine⟨h1.more (λq hq=> .inl hq) λq hq=>?_,h2⟩;grind[bZ,Up]
theorem kF.behind (hb:Kq Q w w1) (h:kF NB B Q w1 w2 P f s) (hB:B<=w):kF NB B Q w w2 P f s:=by
 have hs:=hb.size;grind[kF,bZ,Up,Kq.trans]
theorem kF.from_ (hb:Below w w w1) (h:kF NB B Q w1 w2 P f s) (hB:B<=w):kF NB B Q w w2 P f s:=kF.behind (Kq.of hb) h hB
theorem bZ.fin {U} (h:bZ NB B Q w P f s) (h2:bZ NB B U w' P f2 s2) (hU:∀q,U q->Q q\/w<=q) (hk:Kq T w w') (hT:∀q,T q->Q q\/w<=q):kF NB B Q w w' P f2 s2:=by
 have hs:=hk.size;have hB:=h.base;refine⟨h2.more (λq hq=>?_) λq hq=>?_,⟨hk.os,hk.tape,hk.output,hk.size,λk h1 h3=>hk.block k h1 λh4=>?_⟩⟩
 .grind[bZ,Up]
 .grind[bZ,Up]
 grind
theorem kF.far (_:kF NB B Q w w1 P f s) {q} (hq:¬Q q) (hl:q<w):¬Up Q w w1 q:=λh1=>hq (fA h1 hl)
theorem kF.size (h:kF NB B Q w w1 P f s):w<=w1.heap.size:=h.2.size
end
section
variable {NB B P U D:Nat} {R Q T:Nat->Prop} {w w' w1 w2:World} {f f1 f2:Fm} {s s1 s2:Ps} {dl:List Dp}
theorem yu.used (h:yu NB B R w P U D dl f s) {n:Nat} (hn:n<4294967296):∃v,(Instr.lookup 152 (.map (some U)) (O aa n) true).run prog w= .ok (ao #[O aa v,aq (decide (n∈s.us))]) w:=by
 have h1:=h.hU.look (p:=n) fG.xQ Tryz.underlying152 (aga w) (fG.IZ hn) true;have h2:(Ae.get s.us n).isSome=decide (n∈s.us):=by
  have:=ars (us:=s.us) (n:=n)
  grind
 rw[h2] at h1
 cases hg:Ae.get s.us n with
 |none=>rw[hg] at h1;exact⟨0,h1⟩
 |some x=>rw[hg] at h1;exact⟨x,h1⟩
theorem yu.aw0 (h:yu NB B R w P U D dl f s) {n:Nat} (hn:n<4294967296):
  (Instr.lookup 153 (.map (some D)) (O aa n) true).run prog w= .ok (ao #[(uC.get dl n).elim (an none 0 0) Dp.v,aq (uC.get dl n).isSome]) w:=
 h.hD.look (p:=n) fG.xQ Tryz.underlying153 (agx w) (fG.IZ hn) true
theorem alX f dl d m:EL f (uC.put dl d) m=if m=d.n then d.x else EL f dl m:=by
 unfold EL;rw[Enc.get_put];by_cases e:m=d.n
 .rw[ev e,ev (show m=uC.kf d from e)]
 .rw[eo e,eo (show¬m=uC.kf d from e)]
theorem alW f dl {n m} (h:m≠n):EL f (uC.del dl n) m=EL f dl m:=by unfold EL;rw[Enc.abE,eo h]
theorem yu.put (h:yu NB B R w P U D dl f s) {n} (hn:s.There n) (h9:n<4294967296) {v x} (ho:Own aJ 5 w 0 v x) (hx:x.length=64) (hq:∀q,v.ownBlock=some q->q≠P/\q≠U/\q≠D/\¬R q):
  ∃o,(Instr.mapUpdate 153 (.map (some D)) (O aa n) v).run prog w= .ok () (setBlock w D o)/\yu NB B R (setBlock w D o) P U D (uC.put dl ⟨n,v,x⟩) f (s.put n x)/\w.grownBy (setBlock w D o) (some D):=by
 obtain⟨n1,n2,n3⟩:=h.ne;obtain⟨o,h1,h3,h4⟩:=h.hD.put fG.xQ Tryz.underlying153 ⟨n,v,x⟩ (fG.IZ h9);have di:∀u:Value,(∀q,u.ownBlock=some q->q≠D)->u.ownBlock=none\/u.ownBlock≠some D:=λu hu=>by
  grind
 refine⟨o,h1,⟨h.hP.grown h4 (by grind),h.hU.same (h4.block _ h.hU.lt (by grind)),h3,h.hf.kq (Kq.grown h4) λq hq e=>h.nr.2.2 (Option.some.inj e▸hq),h.fc,h.ok.put hn hx,h.bd,λd hd=>?_,λd hd=>?_,λm hm=>?_,h.ne,h.nr,λd hd=>?_,λm=>?_⟩,h4⟩
 .rcases Enc.Jv hd with rfl|hd
  .exact hn
  .exact h.dt d hd
 .rcases Enc.Jv hd with rfl|hd
  .exact ho.grown h4 (di _ λq e=>(hq q e).2.2.1)
  .exact(h.ow d hd).grown h4 (di _ λq e=>(h.nu d hd q e).2.2.1)
 .show nN s.g n x m=_;rw[alX];by_cases e:m=n
  .subst e;rw[fD,ev rfl]
  .rw[dS e,eo e];exact h.g m hm
 .rcases Enc.Jv hd with rfl|hd
  .exact hq
  .exact h.nu d hd
 .rw[Enc.get_put];show(m=n\/s.dy m)↔_;by_cases e:m=n
  .rw[ev (show m=uC.kf ⟨n,v,x⟩ from e)];grind
  .rw[eo (show¬m=uC.kf ⟨n,v,x⟩ from e),<-h.dy m];grind
end
end
section
open RowKit Maps ChangeMaps fG
variable {NB B P n:Nat} {Q:Nat->Prop} {w w':World} {f:Fm} {s:Ps}
theorem bZ.drew (h:bZ NB B Q w P f s):bZ NB B Q w.drew P f s:=h.on (ak w)
theorem dV (h:bZ NB B Q w P f s):Calls prog 86 #[P] w λe w'=>e=ar (O aa 64)/\w=w':=by
 have c5:=h.c5;clear h
 go_in
 go_wp2;go_ret;exact⟨rfl,rfl⟩
theorem zk (h:bZ NB B Q w P f s) (h2:s.tb<n) (hn:n<=s.tb+s.np):Calls prog 169 #[P,O aa n] w λe w'=>e=ar (aq true)/\Below w w w':=by
 have HP:=ag h.drew;have nJ:=h.bd;have g1:(s.tb:Int)+1<=(n:Int):=ae;have g2:=bq ((n:Int)-((s.tb:Int)+1)) ⟨ae,ae⟩;have g3:(n:Int)-((s.tb:Int)+1)<(s.np:Int):=ae;have HB:=ag (ak w);clear h nJ
 go_in
 go_wp2_with fail;refine iE (λW'=>bZ NB B Q W' P f s) HP.o (λaY=>?_);refine dI 0 (n:Int) ?_;refine dw 1 P 0 ?_;refine aS 2 P 0 ?_;refine aS 3 P 1 ?_;refine aS 4 P 2 ?_;refine jV 5 ((s.tb:Int)+1) (λ_ aK=>aK.c2) ?_;refine eX 6 (aq true) ?_;refine dG 7 (aq true) ?_;refine dI 8 (n:Int) ?_;refine dw 9 P 0 ?_;refine aS 10 P 0 ?_;refine aS 11 P 1 ?_;refine aS 12 P 2 ?_;refine jV 13 ((s.tb:Int)+1) (λ_ aK=>aK.c2) ?_;refine iR 14 (((n:Int)-((s.tb:Int)+1))) ?_;refine dw 15 P 0 ?_;refine aS 16 P 0 ?_;refine aS 17 P 1 ?_;refine aS 18 P 3 ?_;refine jV 19 (s.np:Int) (λ_ aK=>aK.c3) ?_;refine eX 20 (aq true) ?_;refine eX 21 (aq true) ?_;refine dG 22 (aq true) ?_;refine eH ?_;clear aY;go_wp2;go_ret;exact⟨rfl,HB⟩
theorem Ug (h:bZ NB B Q w P f s) (h1:1<=n) (hn:n<=s.tb):Calls prog 143 #[P,O aa n] w λe w'=>e=ar (aq true)/\w=w':=by
 have c1:=h.c1;have g1:(1:Int)<=(n:Int):=ae;have g2:(n:Int)<=(s.tb:Int):=ae;clear h h1 hn
 go_in
 go_wp2;go_ret;exact⟨rfl,rfl⟩
theorem yO (h:bZ NB B Q w P f s) (hn:s.tb<n) (h9:n<4294967296):Calls prog 143 #[P,O aa n] w λe w'=>e=ar (aq (decide (n∈s.us)))/\w=w':=by
 have c1:=h.c1;obtain⟨U,D,dl,R,hc,_⟩:=id h;have c6:w.cell? (P,6)=some (.map (some U)):=hc.hP.aj rfl;obtain⟨v,hl⟩:=hc.used h9;obtain⟨bb,nI⟩:=aW (decide (n∈s.us));rw[<-nI] at hl⊢;have g1:(1:Int)<=(n:Int):=ae;have g2:¬(n:Int)<=(s.tb:Int):=ae;clear h hn hc nI
 go_in
 go_wp2;go_ret;exact⟨rfl,rfl⟩
theorem xq (h:bZ NB B Q w P f s) (hn:s.There n) (h9:n<4294967296):Calls prog 143 #[P,O aa n] w λe w'=>e=ar (aq true)/\w=w':=by
 rcases hn with⟨h1,h2⟩|h1
 .exact Ug h h1 h2
 .have:=yO h (h.ok.us n h1).1 h9;grind
theorem DV (h:bZ NB B Q w P f s) (hn:s.There n):1<=n/\n<8192/\n<=s.tb+s.np:=by
 have hb:=h.bd;rcases hn with⟨h1,h2⟩|h1
 .omega
 .have:=h.ok.us n h1;omega
theorem sJ (h:bZ NB B Q w P f s) (hn:s.There n):Calls prog 183 #[P,O aa n] w λe w'=>e=ar (O aa 0)/\w=w':=by
 have hT:=ag (xq h hn (by have:=DV h hn;omega));clear h
 go_in
 go_wp2_with fail;refine hT.cj ?_;go_wp2;go_ret;exact⟨rfl,rfl⟩
theorem bZ.alY (h:bZ NB B Q w P f s):∃U,w.cell? (aw P 6)=some (.map (some U))/\∀ty,(Builtin.len_ #[152] ty #[.map (some U)]).run prog w= .ok (O aa s.us.length) w:=by obtain⟨U,D,dl,R,hc,_⟩:=h;obtain⟨es,clock,h1,h2⟩:=hc.hU.size;refine⟨U,hc.hP.aj rfl,λty=>?_⟩;rw[<-h2];simp[Builtin.len_,run_underlying Tryz.underlying152,MapKept.run_getObj_map h1,goInt]
theorem Au (h:bZ NB B Q w P f s):Calls prog 41 #[P] w λe w'=>e=ar (O aa (s.np-s.us.length))/\Below w w w':=by
 obtain⟨U,c6,hl⟩:=h.drew.alY;have nJ:=h.bd;have hul:s.us.length<=s.np:=by
  have h1:=Ps.mW (l:=s.us) (l':=(cz s.np).map λi=>s.tb+1+i) h.ok.nd λx hx=>by have:=h.ok.us x hx;exact bw.2 ⟨x-s.tb-1,List.mem_range.2 ae,ae⟩
  rw[bO,List.length_range] at h1;exact h1
 have HS:=ag (show w.drew.cell? (P,3)=some (O aa s.np)/\w.drew.cell? (P,6)=some (.map (some U))/\∀ty,(Builtin.len_ #[152] ty #[.map (some U)]).run prog w.drew= .ok (O aa s.us.length) w.drew from⟨h.drew.c3,c6,hl⟩);have g1:=bq ((s.np:Int)-(s.us.length:Int)) ⟨ae,ae⟩;have HB:=ag (ak w);clear h nJ c6 hl hul
 go_in
 go_wp2_with fail;refine iE (λW'=>W'.cell? (aw P 3)=some (O aa s.np)/\W'.cell? (aw P 6)=some (.map (some U))/\∀ty,(Builtin.len_ #[152] ty #[.map (some U)]).run prog W'= .ok (O aa s.us.length) W') HS.o (λaY=>?_);refine dw 0 P 0 ?_;refine aS 1 P 0 ?_;refine aS 2 P 1 ?_;refine aS 3 P 3 ?_;refine jV 4 (s.np:Int) (λ_ aK=>aK.1) ?_;refine dw 5 P 0 ?_;refine aS 6 P 0 ?_;refine aS 7 P 6 ?_;refine kS 8 (.map (some U)) (λ_ aK=>aK.2.1) ?_;refine jV 9 (s.us.length:Int) (λ_ aK=>aK.2.2) ?_;refine iR 10 (((s.np:Int)-(s.us.length:Int))) ?_;refine dI 11 (((s.np:Int)-(s.us.length:Int))) ?_;refine eH ?_;clear aY;go_wp2;go_ret;exact⟨rfl,HB⟩
end
section
open RowKit dY ChangeMaps
section
variable {NB B n:Nat} {R:Nat->Prop} {w:World} {f:Fm}
theorem xR (h:cu NB B R w f) (hc:Fc NB f) p (yc:1<=p) (jU:p+2<(NB-3)*8) (wL:p<8192) (hx:jw f p=none):
  Calls prog 176 #[f.F,O .u32 p] w λe w'=>e=ar (ao #[an none 0 0,O aa 60])/\Below w w w':=by
 have pK:=hc.fi.nb;have YU:=mZ h hc.fi p ae;rw[eo ae] at YU;obtain⟨HLg,HH,UM⟩:=cp YU h (λ(W:World) (hW:cu NB B R W f)=>Qs hW p ae);rw[hx] at UM;have gm:=fU;clear h hc YU hx
 go_in
 go_wp2_with fail;go_call HLg as e w1 ⟨rfl,bP⟩;obtain⟨H1,bV⟩:=cn (HH.on bP) bP;clear bP;go_wp2_with fail;go_call(UM.o w1 H1) as e w2 ⟨rfl,aZ⟩;rw[show plO none= .agg #[O aa 0,O aa 0] from rfl,show(none:Option En).isSome=false from rfl];have df:=ag ((bV.aA aZ).alloc (bV.aA aZ).size (.cells #[O aa 0,O aa 0] 247));clear aZ;go_wp2_with fail;go_ret2;exact⟨rfl,df⟩
end
end
section
open RowKit Maps ChangeMaps fG dY
variable {NB B P n:Nat} {Q:Nat->Prop} {w w':World} {f:Fm} {s:Ps}
theorem ahz u:(Instr.makeSlice 23 (O aa 64) (O aa 64)).run prog u= .ok (an (u,0) 64 64) (u.alloc (.cells (cB 64 (O .u8 0)) 5)):=GG 64 ae u
def ard (NB B:Nat) (Q:Nat->Prop) (P:Nat) (f:Fm) (s:Ps) (x:List UInt8) (w:World) (e:Ending) w':=
 (∃v,e=ar (ao #[v,O aa 0])/\Own aJ 5 w' w v x)/\bZ NB B Q w' P f s/\Kq Q w w'
theorem yu.pl {R U D dl} (h:yu NB B R w P U D dl f s) (h2:∀q,Hp P U D R dl q->Q q) (h3:∀q,Q q->B<=q/\q<w):bZ NB B Q w P f s:=⟨U,D,dl,R,h,h2,h3⟩
theorem mV (h:bZ NB B Q w P f s) (hn:s.There n):Calls prog 130 #[P,O aa n] w (ard NB B Q P f s (s.g n) w):=by
 have aT:=DV h hn;obtain⟨HA,HH⟩:=cn (sJ h hn) h;obtain⟨U,D,dl,R,hc,BA,JG⟩:=id h;have hx:=hc.ok.sz n hn;have c7:w.cell? (P,7)=some (.map (some D)):=hc.hP.aj rfl;have c5:=h.c5;have c0:=h.c0;have hl:=hc.aw0 (n:=n) ae;have hg:=hc.g n hn;unfold EL at hg;have nJ:=hc.bd
 cases hd:uC.get dl n with
 |some d=>
  obtain⟨hm,hk⟩:=Enc.get_mem hd;rw[hd] at hl hg;simp only at hg;have ho:=hc.ow d hm;rw[hg] at hx⊢;obtain⟨a,c,hv,hlc⟩:=ho.bG hx;replace hl:(Instr.lookup 153 (.map (some D)) (O aa n) true).run prog w= .ok (ao #[d.v,aq true]) w:=hl;obtain⟨dv,hdv⟩:=aW d.v;rw[<-hdv] at hv hl ho;subst hv;have HC:=ag (iY a 64 c d.x w (ho.arr ae));clear h hc BA JG hx hg nJ hd hm hk hdv ho hlc
  go_in
  go_wp2_with fail;refine HA.cj ?_;go_wp2_with fail;go_call HC as e w1 ⟨⟨v,rfl,ho⟩,hb⟩;obtain⟨HO,HB⟩:=cn ho hb;clear ho hb;go_wp2;go_ret2;exact⟨⟨_,rfl,HO⟩,HH.on HB,Kq.of HB⟩
 |none=>
  rw[hd] at hl hg;simp only at hg;replace hl:(Instr.lookup 153 (.map (some D)) (O aa n) true).run prog w= .ok (ao #[an none 0 0,aq false]) w:=hl;have gw:=show IntKind.u32.wrap (n:Int)=(n:Int) from IntWalk.u32_in (n:Int) ⟨ae,ae⟩;have wI:=ahz
  cases hv:vw f n with
  |some y=>
   rw[hv] at hg;simp only at hg;obtain⟨e0,he,hed,_⟩:=DK hv;have sU:=ag (Bf hc.hf hc.fc n ae ae ae e0 he);rw[hg,<-hed];obtain⟨HC,ES,IP⟩:=cp hc BA JG;clear h hc BA JG hx hg nJ hd hv
   go_in
   go_wp2_with fail;refine HA.cj ?_;go_wp2_with fail;go_call sU as e w1 ⟨⟨v,rfl,ho⟩,hm,hk⟩;have HO:=ag ho;have hK:Kq R w w1:=hk;obtain⟨HK,JF⟩:=cn (hK.mono λq hq=>ES.o q (.inr (.inr (.inr (.inl hq))))) (show bZ NB B Q w1 P f s from by have hc:=HC.o;refine yu.pl (U:=U) (D:=D) (dl:=dl) (R:=R) ⟨hc.hP.kq hK hc.nr.1,hc.hU.same (hK.block _ hc.hU.lt hc.nr.2.1),hc.hD.same (hK.block _ hc.hD.lt hc.nr.2.2),hm,hc.fc,hc.ok,hc.bd,hc.dt,λd hd=>(hc.ow d hd).kq hK λq hq=>(hc.nu d hd q hq).2.2.2,hc.g,hc.ne,hc.nr,hc.nu,hc.dy⟩ ES λq hq=>⟨(IP.o q hq).1,cM (IP.o q hq).2 hK.size⟩);clear ho hm hk hK;go_wp2;go_ret2;exact⟨⟨_,rfl,HO⟩,JF,HK⟩
  |none=>
   rw[hv] at hg;simp only at hg;have aw1:jw f n=none:=by
    unfold vw at hv
    cases hz:jw f n with
    |none=>rfl
    |some e=>rw[hz] at hv;cases hv
   have sU:=ag (xR hc.hf hc.fc n ae ae ae aw1);rw[hg];clear hc BA JG hx hg nJ hd hv aw1 h
   go_in
   go_wp2_with fail;refine HA.cj ?_;go_wp2_with fail;go_call sU as e w1 ⟨rfl,hb⟩;have c5':=(HH.on hb).c5;obtain⟨HB,HO⟩:=cn (hb.alloc hb.size (.cells (cB 64 (O .u8 0)) 5)) ((kU w1 w1 64 av ae).mono hb.size);clear hb;go_wp2;go_ret2;exact⟨⟨_,rfl,HO⟩,HH.on HB,Kq.of HB⟩
end
section
open RowKit Maps ChangeMaps fG dY
variable {NB B P U D n:Nat} {R Q:Nat->Prop} {w w' w1 w2:World} {f:Fm} {s:Ps} {dl:List Dp}
theorem arf {u:Value} {D} (hu:∀q,u.ownBlock=some q->q≠D):u.ownBlock=none\/u.ownBlock≠some D:=by grind
theorem yu.on (h:yu NB B R w P U D dl f s) (hb:Below w w w'):yu NB B R w' P U D dl f s:=h.kq (T:=λ_=>False) (Kq.of hb) λ_ _ h=>h
theorem yu.hi (h:yu NB B R w P U D dl f s):P<w/\U<w/\D<w:=⟨h.hP.lt,h.hU.lt,h.hD.lt⟩
theorem alV (h:yu NB B R w P U D dl f s) n:(EL f dl n).length=64:=by
 unfold EL
 cases hd:uC.get dl n with
 |some d=>
  obtain⟨hm,hk⟩:=Enc.get_mem hd;have h1:=h.g d.n (h.dt d hm);unfold EL at h1;have hk:d.n=n:=hk;rw[hk,hd] at h1;simp only at h1⊢;rw[<-h1];exact h.ok.sz n (hk▸h.dt d hm)
 |none=>
  simp only
  cases hv:vw f n with
  |some y=>
   obtain⟨e,he,h1,_⟩:=DK hv;simp only;rw[<-h1];exact(h.fc.fi.ok e (Na he)).len
  |none=>exact wC
theorem yu.aw2 (h:yu NB B R w P U D dl f s) (h2:∀q,Hp P U D R dl q->Q q) (h3:∀q,Q q->B<=q/\q<w) (hb:Below w w w1) (hn:s.There n) (h9:n<4294967296) {v x} (ho:Own aJ 5 w1 w v x) (hx:x.length=64):
  ∃o,(Instr.mapUpdate 153 (.map (some D)) (O aa n) v).run prog w1= .ok () (setBlock w1 D o)/\kF NB B Q w (setBlock w1 D o) P f (s.put n x):=by
 have hh:=h.hi;have hB:B<=w.heap.size:=by have:=h3 P (h2 P (.inl rfl));omega
 have hRl:∀q,R q->q<w.heap.size:=λq hq=>(h3 q (h2 q (.inr (.inr (.inr (.inl hq)))))).2;obtain⟨o,r1,r2,r3⟩:=(h.on hb).put hn h9 (ho.mono (bN _)) hx λq hq=>by have:=(ho.aN q hq).1;grind
 have jA:=hb.size;have mQ:=r3.size;refine⟨o,r1,⟨U,D,_,R,r2,λq hq=>?_,λq hq=>?_⟩,(Kq.of hb).trans ((Kq.grown r3).mono λk hk=>Option.some.inj hk▸h2 D (.inr (.inr (.inl rfl))))⟩
 .rcases hq with e|e|e|e|⟨d,hd,e⟩
  .exact .inl (h2 q (.inl e))
  .exact .inl (h2 q (.inr (.inl e)))
  .exact .inl (h2 q (.inr (.inr (.inl e))))
  .exact .inl (h2 q (.inr (.inr (.inr (.inl e)))))
  .rcases Enc.Jv hd with rfl|hd
   .have:=ho.aN q e;exact .inr ⟨this.1,ae⟩
   .exact .inl (h2 q (.inr (.inr (.inr (.inr ⟨d,hd,e⟩)))))
 .rcases hq with e|e
  .have:=h3 q e;omega
  .omega
theorem wY (h:bZ NB B Q w P f s) (hn:s.There n) a c x (hx:Bytes w w a 64 x):
  Calls prog 138 #[P,O aa n,an a 64 c] w λe w'=>e=ar (O aa 0)/\kF NB B Q w w' P f (s.put n x):=by
 have aT:=DV h hn;have hA:=ag (sJ h hn);have NI:=hx.len;obtain⟨U,D,dl,R,hc,BA,JG⟩:=id h;have c5:=h.c5;obtain⟨HC0,ES,IP,HN,HLT⟩:=ct (hc.on (ak w)) BA JG hn aT;obtain⟨hC,HXL⟩:=cn (iY a 64 c x w.drew (hx.on (ak w))) NI;have c7:w.drew.cell? (P,7)=some (.map (some D)):=HC0.hP.aj rfl;have HC7:=ag c7;clear h hx hn hc BA JG aT NI c7
 go_in
 go_wp2_with fail;refine hA.cj ?_;go_wp2_with fail;refine iE (λW'=>W'.cell? (P,7)=some (.map (some D))) HC7.o (λaY=>?_);refine dw 0 P 0 ?_;refine aS 1 P 0 ?_;refine aS 2 P 7 ?_;refine eX 3 (.map (some D)) ?_;refine dI 4 (n:Int) ?_;refine dG 5 (an a 64 c) ?_;refine bY 6 (λK' hK=>?_);go_simp;go_call hC as e w1 ⟨⟨v,rfl,ho⟩,hb⟩;have yc:=HC0.on hb;obtain⟨o,bF,jU⟩:=HC0.aw2 (Q:=Q) ES.o IP.o hb HN.o (by have:=HLT.o;omega) ho HXL.o;have ui:=ag (kF.from_ (ak w) jU (by have:=IP.o P (ES.o P (.inl rfl));omega));have iZ:=ui.o.1.hP;have qX:(setBlock w1 D o).cell? (P,7)=some (.map (some D)):=by
  have h1:aF (setBlock w1 D o) P 155 (Jc f.F U D s):=by have di:=HC0.ne.2.1;have h2:=iI yc.hD o;exact yc.hP.grown h2 (by intro e;injection e with e;exact di e)
  exact h1.aj rfl
 refine hK.out _ _ (yc.hP.aj rfl) (λdh=>?_)
 clear yc jU ho hb iZ;refine bY 7 (λK' hK=>?_);go_simp;refine hK.out _ _ qX (λfE=>?_)
 refine eH ?_;clear aY dh fE bF c5 qX;go_wp2;go_ret;exact⟨rfl,ui⟩
theorem yu.mark (h:yu NB B R w P U D dl f s) (hn:s.Nx n):∃o,(Instr.mapUpdate 152 (.map (some U)) (O aa n) (O aa n)).run prog w= .ok () (setBlock w U o)/\
  yu NB B R (setBlock w U o) P U D dl f (s.Ud n (EL f dl n))/\w.grownBy (setBlock w U o) (some U):=by
 have nJ:=h.bd;have hlo:=hn.lo;have hhi:=hn.hi;obtain⟨n1,n2,n3⟩:=h.ne;obtain⟨o,h1,h3,h4⟩:=h.hU.put fG.xQ Tryz.underlying152 n (fG.IZ (show n<4294967296 by omega));rw[Enc.abD (E:=Ae) (l:=s.us) (e:=n) (λy hy e=>hn.new ((show y=n from e)▸hy))] at h3;refine⟨o,h1,⟨h.hP.grown h4 (by grind),h3,h.hD.same (h4.block _ h.hD.lt (by grind)),h.hf.kq (Kq.grown h4) λq hq e=>h.nr.2.1 (Option.some.inj e▸hq),h.fc,h.ok.Ud hn (alV h n),h.bd,λd hd=>Ps.sK.2 (.inl (h.dt d hd)),λd hd=>(h.ow d hd).grown h4 (arf λq e=>(h.nu d hd q e).2.1),λm hm=>?_,h.ne,h.nr,h.nu,h.dy⟩,h4⟩;show nN s.g n (EL f dl n) m=_;by_cases e:m=n
 .subst e;rw[fD]
 .rw[dS e];rcases Ps.sK.1 hm with h5|h5
  .exact h.g m h5
  .exact absurd h5 e
theorem yu.del (h:yu NB B R w P U D dl f s) (hn:s.tb<n) (h9:n<4294967296) ty1 ty2:
  ∃o1 o2,(Builtin.delete_ #[152,3] ty1 #[.map (some U),O aa n]).run prog w= .ok (ao #[]) (setBlock w U o1)/\(setBlock w U o1).cell? (P,7)=some (.map (some D))/\
   (Builtin.delete_ #[153,3] ty2 #[.map (some D),O aa n]).run prog (setBlock w U o1)= .ok (ao #[]) (setBlock (setBlock w U o1) D o2)/\
   yu NB B R (setBlock (setBlock w U o1) D o2) P U D (uC.del dl n) f (s.del n)/\Kq (λq=>q=U\/q=D) w (setBlock (setBlock w U o1) D o2):=by
 obtain⟨n1,n2,n3⟩:=h.ne;obtain⟨o1,r1,r2,r3⟩:=h.hU.del (p:=n) fG.xQ Tryz.underlying152 (fG.IZ h9) ty1;have hD1:=h.hD.same (w':=setBlock w U o1) (r3.block _ h.hD.lt (by grind));have hP1:=h.hP.grown r3 (by grind);obtain⟨o2,t1,t2,t3⟩:=hD1.del (p:=n) fG.xQ Tryz.underlying153 (fG.IZ h9) ty2;have hk:Kq (λq=>q=U\/q=D) w (setBlock (setBlock w U o1) D o2):=((Kq.grown r3).mono λk hk=> .inl (Option.some.inj hk).symm).trans ((Kq.grown t3).mono λk hk=> .inr (Option.some.inj hk).symm);refine⟨o1,o2,r1,hP1.aj rfl,t1,⟨h.hP.kq hk (by grind),?_,t2,h.hf.kq hk ?_,h.fc,h.ok.del hn,h.bd,λd hd=>?_,λd hd=>?_,λm hm=>?_,h.ne,h.nr,λd hd=>h.nu d (Enc.Jw.1 hd).1,λm=>?_⟩,hk⟩
 .have hU2:=r2.same (w':=setBlock (setBlock w U o1) D o2) (t3.block _ r2.lt (by grind));exact hU2
 .rintro q hq (e|e)
  .exact h.nr.2.1 (e▸hq)
  .exact h.nr.2.2 (e▸hq)
 .obtain⟨h1,h2⟩:=Enc.Jw.1 hd;exact(Ps.zZ hn).2 ⟨h.dt d h1,h2⟩
 .obtain⟨h1,h2⟩:=Enc.Jw.1 hd;exact(h.ow d h1).kq hk λq hq=>by
   have:=h.nu d h1 q hq;grind
 .obtain⟨h1,h2⟩:=(Ps.zZ hn).1 hm;show nN s.g n [] m=_;rw[dS h2,alW f dl h2];exact h.g m h1
 .rw[Enc.abE];show(s.dy m/\m≠n)↔_;by_cases e:m=n
  .grind
  .rw[eo e,<-h.dy m];grind
end
section
open RowKit Maps ChangeMaps fG dY
variable {NB B P U D n:Nat} {R Q:Nat->Prop} {w w' w1 w2:World} {f:Fm} {s:Ps} {dl:List Dp}
theorem Nb (h:bZ NB B Q w P f s) (hn:s.Nx n):
  Calls prog 136 #[P] w λe w'=>e=ar (ao #[O aa n,O aa 0])/\kF NB B Q w w' P f (s.add n):=by
 have HP:=ag h;have c2:=h.c2;have wI:=ahz;have nJ:=h.bd;have HBD:=ag nJ;have hlo:=hn.lo;have hhi:=hn.hi;obtain⟨HN,gX⟩:=cn hn h.base;clear h hn
 go_in
 go_wp2_with fail
 go_loopw [4] (λi wr=>∃k:Nat,s.tb<k/\k<=n/\i=O aa k/\bZ NB B Q wr P f s/\Below w w wr) (λi _=>n+1-(intOf i).toNat)
 case atStart=>exact⟨s.tb+1,ae,ae,by go_num,HP,aE _ _⟩
 case round=>
  obtain⟨k,h2,hk,rfl,hp,hb⟩:=hrel;obtain⟨HG,HB,EU⟩:=cp (zk hp h2 ae) hb hp;have iv:=bq ((k:Int)+1) ⟨ae,ae⟩;clear hp hb c2;by_cases aT:k<n
  .have HK:=ag (HN.least k h2 aT);go_wp2_with fail;go_call HG as e w1 ⟨rfl,bP⟩;obtain⟨sV,bV⟩:=cn (EU.on bP) (HB.aA bP);clear bP;go_wp2_with fail;refine(xq sV (.inr HK) (by have:=HBD.o;omega)).cj ?_;go_wp2_with fail;go_roundw
   case rel=>exact⟨k+1,ae,ae,by go_num,sV,bV⟩
   case measure=>simp[intOf];omega
  .obtain rfl:k=n:=ae;go_wp2_with fail;go_call HG as e w1 ⟨rfl,bP⟩;have yc:=EU.on bP;have hT:=yO yc h2 ae;rw[ey HN.new] at hT;have HT:=ag hT;obtain⟨U,D,dl,R,hc,BA,JG⟩:=id yc;have c6:w1.cell? (P,6)=some (.map (some U)):=hc.hP.aj rfl;obtain⟨o,bF,hm,hg⟩:=hc.mark HN.o;obtain⟨HM,iH,HS,ES,IP⟩:=ct hm ((Kq.of (T:=Q) (HB.aA bP)).trans ((Kq.grown hg).mono λq hq=>Option.some.inj hq▸BA U (.inr (.inl rfl)))) hg.size BA JG;clear yc hT hc hm hg bP HG BA JG iv aT;go_wp2_with fail;refine HT.cj ?_;go_upto_region 8 with fail;generalize setBlock w1 U o=W8 at*;have hd8:=HM.on (ak W8);have fM:Below W8.drew W8.drew (W8.drew.alloc (.cells (cB 64 (O .u8 0)) 5)):=(aE _ _).alloc av _;have hq3:∀q,Q q->B<=q/\q<W8.drew.heap.size:=λq hq=>⟨(IP.o q hq).1,cM (IP.o q hq).2 HS⟩
   obtain⟨o2,aw4,jU⟩:=hd8.aw2 (Q:=Q) ES.o hq3 fM (n:=k) (Ps.sK.2 (.inr rfl)) ae (v:=an (W8.drew.heap.size,0) 64 64) (kU W8.drew W8.drew 64 av ae) wC;rw[Ps.ahA] at jU;obtain⟨ui,UG⟩:=cn (kF.behind (iH.on (ak W8)) jU gX) (show W8.drew.cell? (P,7)=some (.map (some D))/\W8.drew.cell? (P,5)=some (O aa 64) from⟨hd8.hP.aj rfl,hd8.hP.aj rfl⟩);have hd9:=hd8.on fM;obtain⟨HB9,aeg⟩:=cn (show(W8.drew.alloc (.cells (cB 64 (O .u8 0)) 5)).cell? (P,7)=some (.map (some D))/\(W8.drew.alloc (.cells (cB 64 (O .u8 0)) 5)).cell? (P,5)=some (O aa 64) from⟨hd9.hP.aj rfl,hd9.hP.aj rfl⟩) (show(setBlock (W8.drew.alloc (.cells (cB 64 (O .u8 0)) 5)) D o2).cell? (P,7)=some (.map (some D))/\(setBlock (W8.drew.alloc (.cells (cB 64 (O .u8 0)) 5)) D o2).cell? (P,5)=some (O aa 64) from by have di:=hd9.ne.2.1;have h2:=hd9.hP.grown (iI hd9.hD o2) (by intro e;injection e with e;exact di e);exact⟨h2.aj rfl,h2.aj rfl⟩);clear jU fM bF hd8 hd9 c6 hq3;refine iE (λW'=>W'.cell? (P,7)=some (.map (some D))/\W'.cell? (P,5)=some (O aa 64)) UG.o (λaY=>?_);generalize W8.drew=W9 at*;refine dw 0 P 0 ?_;refine aS 1 P 0 ?_;refine aS 2 P 7 ?_;refine kS 3 (.map (some D)) (λ_ aK=>aK.1) ?_;refine dI 4 (k:Int) ?_;refine dw 5 P 0 ?_;refine aS 6 P 0 ?_;refine aS 7 P 5 ?_;refine jV 8 64 (λ_ aK=>aK.2) ?_;refine bY 9 (λK' hK=>?_);go_simp;refine hK.out _ _ HB9.o (λdh=>?_)
   refine bY 10 (λK' hK=>?_);go_simp;refine hK.out _ _ aeg.o (λfE=>?_)
   refine eH ?_;clear aY dh fE aw4 wI;go_wp2;go_ret2;exact⟨rfl,ui⟩
theorem Ot (h:bZ NB B Q w P f s) (hn:n∈s.us):
  Calls prog 161 #[P,O aa n] w λe w'=>e=ar (O aa 0)/\kF NB B Q w w' P f (s.del n):=by
 have hr:=h.ok.us n hn;have nJ:=h.bd;obtain⟨hA,hG,HP,gX⟩:=cr (sJ h (.inr hn)) (zk h hr.1 hr.2) h h.base;clear h
 go_in
 go_wp2_with fail;refine hA.cj ?_;go_wp2_with fail;go_call hG as e w1 ⟨rfl,bP⟩;obtain⟨U,D,dl,R,hc,BA,JG⟩:=HP.on bP;have c6:w1.cell? (P,6)=some (.map (some U)):=hc.hP.aj rfl;obtain⟨o1,o2,r1,r2,r3,r4,r5⟩:=hc.del hr.1 (show n<4294967296 by omega) 0 0;have r1:∀ty,(Builtin.delete_ #[152,3] ty #[.map (some U),O aa n]).run prog w1= .ok (ao #[]) (setBlock w1 U o1):=λ_=>r1;have r3:∀ty,(Builtin.delete_ #[153,3] ty #[.map (some D),O aa n]).run prog (setBlock w1 U o1)= .ok (ao #[]) (setBlock (setBlock w1 U o1) D o2):=λ_=>r3;have jA:=bP.size;have HF:=ag (show kF NB B Q w (setBlock (setBlock w1 U o1) D o2) P f (s.del n) from by
  have eU:=r5.mono (T':=Q) λq hq=>by
   rcases hq with rfl|rfl
   .exact BA _ (.inr (.inl rfl))
   .exact BA _ (.inr (.inr (.inl rfl)))
  have iG:=r5.size;have uh:bZ NB B Q (setBlock (setBlock w1 U o1) D o2) P f (s.del n):=⟨U,D,_,R,r4,λq hq=>BA q (by
   rcases hq with e|e|e|e|⟨d,hd,e⟩
   .exact .inl e
   .exact .inr (.inl e)
   .exact .inr (.inr (.inl e))
   .exact .inr (.inr (.inr (.inl e)))
   .exact .inr (.inr (.inr (.inr ⟨d,(Enc.Jw.1 hd).1,e⟩)))),λq hq=>⟨(JG q hq).1,by have:=(JG q hq).2;omega⟩⟩
  exact kF.from_ bP (bZ.agc uh eU (by have:=gX.o;omega)) gX.o)
 clear hc BA JG bP r4 r5 jA;go_wp2;go_ret;exact⟨rfl,HF⟩
end
section
open RowKit Maps ChangeMaps dY fG
theorem lM {NB B R w f} (h:cu NB B R w f) (hx:f.tx.length=56):
  Calls prog 118 #[f.F] w λe w'=>(∃a c,e=ar (an a 56 c)/\Own aJ 5 w' w (an a 56 c) f.tx)/\Below w w w':=by
 have c4:=h.c4;obtain⟨a,c,hv,hb⟩:∃a c,f.tv=an a 56 c/\Bytes w w a 56 f.tx:=by
  obtain⟨_,hc,_⟩:=id h;rcases hc.hT with⟨b,ho⟩|⟨⟨a,n,c,hv,hb⟩,_⟩
  .obtain⟨a,c,hv,_⟩:=ho.bG hx;rw[hv] at ho;exact⟨a,c,hv,by have:=ho.arr ae;exact this⟩
  .have:=hb.len;obtain rfl:n=56:=ae;exact⟨a,c,hv,hb⟩
 rw[hv] at c4;obtain⟨hC,HX⟩:=cn (iY a 56 c f.tx w hb) hx;clear h hb hx hv
 go_in
 go_wp2_with fail;go_call hC as e w1 ⟨⟨v,rfl,ho⟩,hb⟩;obtain⟨a',c',hv',_⟩:=ho.bG HX.o;have HB:=ag hb;subst hv';have HO:=ag ho;clear ho hb;go_wp2;go_ret;exact⟨⟨_,_,rfl,HO⟩,HB⟩
def Ps.gY (f:Fm) (tb np ino:Nat):Ps:=⟨tb,np,ino,[],λn=>if 1<=n/\n<=tb then EL f [] n else[],λ_=>False⟩
def Et (w:World) (F:Nat) (s:Ps) (wx:World) (Z:Nat):=∃U D,aF wx Z 155 (Jc F U D s)/\cZ Ae prog 3 wx U []/\cZ uC prog 3 wx D []/\w<=Z/\w<=U/\w<=D/\Z≠U/\Z≠D/\U≠D/\Below w w wx
theorem aw5 {NB f} (hc:Fc NB f) n:(EL f [] n).length=64:=by
 unfold EL;show(match vw f n with|some y=>y.2|none=>zeros).length=64
 cases hv:vw f n with
 |some y=>
  obtain⟨e,he,h1,_⟩:=DK hv;simp only;rw[<-h1];exact(hc.fi.ok e (Na he)).len
 |none=>exact wC
theorem Et.pl {NB B R w wx f tb np ino Z} (h:Et w f.F (Ps.gY f tb np ino) wx Z) (hf:cu NB B R w f) (hc:Fc NB f) (hb:tb+np+2<(NB-3)*8/\tb+np<8192):kF NB B R w wx Z f (Ps.gY f tb np ino):=by
 obtain⟨U,D,h1,h2,h3,z1,z2,z3,z4,z5,z6,z7⟩:=h;have hs:=z7.size;have hB:=hf.base;have hZ:=h1.lt;have hU:=h2.lt;have hD:=h3.lt;refine⟨⟨U,D,[],R,⟨h1,h2,h3,hf.on z7,hc,⟨(λn hn=>by cases hn),List.nodup_nil,λn hn=>?_,λn hn=>?_⟩,hb,(λd hd=>by cases hd),(λd hd=>by cases hd),λn hn=>?_,⟨z4,z5,z6⟩,⟨hf.aV z1,hf.aV z2,hf.aV z3⟩,(λd hd=>by cases hd),λn=>⟨λh=>h.elim,λh=>by cases h⟩⟩,λq hq=>?_,λq hq=>?_⟩,Kq.of z7⟩
 .have hn:1<=n/\n<=tb:=by
   rcases hn with h|h
   .exact h
   .cases h
  show(if 1<=n/\n<=tb then EL f [] n else[]).length=64;rw[ev hn];exact aw5 hc n
 .exact eo λh=>hn (.inl h)
 .have hn:1<=n/\n<=tb:=by
   rcases hn with h|h
   .exact h
   .cases h
  exact ev hn
 .rcases hq with e|e|e|e|⟨d,hd,_⟩
  .exact .inr ⟨ae,ae⟩
  .exact .inr ⟨ae,ae⟩
  .exact .inr ⟨ae,ae⟩
  .exact .inl e
  .cases hd
 .rcases hq with e|e
  .have:=hf.bnd q e;omega
  .omega
theorem Bc {NB B tb np ino:Nat} {R w f} (h:cu NB B R w f) (hc:Fc NB f) (hx:f.tx.length=56) (h1:1<=tb) (hn:1<=np) (hb:tb+np+2<(NB-3)*8/\tb+np<8192):
  Calls prog 114 #[f.F,.agg #[O aa tb,O aa (tb+1),O aa np,O aa ino],an none 0 0] w λe w'=>∃Z,e=ar (ao #[.pointer (some ⟨Z,0,none⟩),O aa 0])/\kF NB B R w w' Z f (Ps.gY f tb np ino)/\w<=Z:=by
 have pK:=hc.fi.nb;have fM:=(aE w w).alloc av (.cells #[O aa tb,O aa ((tb:Int)+1),O aa np,O aa ino] 93);obtain⟨H0,HF,HC,HI,HX⟩:=ct h ((h.on fM).on (ak _)) hc hc.fi hx;obtain⟨sW,HL,HB⟩:=cp hb (aF.new w 93 #[O aa tb,O aa ((tb:Int)+1),O aa np,O aa ino]) fM;obtain⟨CC,hCC⟩:∃CC,CC=((NB:Int)-3)*8-2:=⟨_,rfl⟩
 have g1:¬(tb:Int)<1:=ae;have g2:¬(np:Int)<1:=ae;have g3:=bq ((tb:Int)+1) ⟨ae,ae⟩;have g4:¬(8192:Int)<(tb:Int):=ae;have g5:=bq (CC-((tb:Int)+1)) ⟨ae,ae⟩;have g6:¬CC-((tb:Int)+1)<(np:Int):=ae;have HCC:=ag hCC;have g64:IntKind.i64.wrap 64=64:=bq 64 ⟨ae,ae⟩;clear h hc hx fM hb hCC pK h1 hn
 go_in
 go_upto_region 3 with fail;generalize w.alloc (.cells #[O aa tb,O aa ((tb:Int)+1),O aa np,O aa ino] 93)=W1 at*;refine iE (λW'=>aF W' w 93 #[O aa tb,O aa ((tb:Int)+1),O aa np,O aa ino]) (aF.drew HL) (λaY=>?_);refine aS 0 w 0 ?_;refine jV 1 (tb:Int) (λ_ aK=>aK.aj (i:=0) rfl) ?_;refine eX 2 (aq false) ?_;refine dG 3 (aq false) ?_;refine aS 4 w 2 ?_;refine jV 5 (np:Int) (λ_ aK=>aK.aj (i:=2) rfl) ?_;refine eX 6 (aq false) ?_;refine eX 7 (aq false) ?_;refine dG 8 (aq false) ?_;refine aS 9 w 1 ?_;refine jV 10 ((tb:Int)+1) (λ_ aK=>aK.aj (i:=1) rfl) ?_;refine aS 11 w 0 ?_;refine jV 12 (tb:Int) (λ_ aK=>aK.aj (i:=0) rfl) ?_;refine iR 13 ((tb:Int)+1) ?_;refine eX 14 (aq false) ?_;refine eX 15 (aq false) ?_;refine dG 16 (aq false) ?_;refine aS 17 w 0 ?_;refine jV 18 (tb:Int) (λ_ aK=>aK.aj (i:=0) rfl) ?_;refine eX 19 (aq false) ?_;refine eX 20 (aq false) ?_;refine dG 21 (aq false) ?_;refine aS 22 w 2 ?_;refine jV 23 (np:Int) (λ_ aK=>aK.aj (i:=2) rfl) ?_;refine dw 24 f.F 0 ?_;refine aS 26 w 1 ?_;refine jV 27 ((tb:Int)+1) (λ_ aK=>aK.aj (i:=1) rfl) ?_;refine bY 25 (λK' hK=>?_);go_simp;go_call(jG HF HI) as e w2 ⟨rfl,aZ⟩;rw[<-HCC.o];obtain⟨df,wM,xW⟩:=cp ((HB.aA (ak W1)).aA aZ) (HF.on aZ) (aF.ah (aF.drew HL) aZ);refine hK.out _ _ xW.o (λdh=>?_)
 clear aZ;refine iR 28 (CC-((tb:Int)+1)) ?_;refine eX 29 (aq false) ?_;refine eX 30 (aq false) ?_;refine eH ?_;clear aY dh;go_upto_region 5 with fail
 go_cut [8] (λv8 wx=>∃Z,v8= .pointer (some ⟨Z,0,none⟩)/\Hid (Et w f.F (Ps.gY f tb np ino) wx Z))
 case first=>
  obtain⟨cO,HF3,wR⟩:=cp (df.aA (ak w2)) (wM.on (ak w2)) (xW.drew);refine iE (λW'=>aF W' w 93 #[O aa tb,O aa ((tb:Int)+1),O aa np,O aa ino]) wR.o (λaY=>?_);generalize w2.drew=W0 at*;refine dw 0 f.F 0 ?_;refine jE 1 (.agg #[O aa tb,O aa ((tb:Int)+1),O aa np,O aa ino]) rfl (λ_ aK=>by have y0:=aK.aj (i:=0) rfl;have y1:=aK.aj (i:=1) rfl;have y2:=aK.aj (i:=2) rfl;have y3:=aK.aj (i:=3) rfl;go_simp) ?_;refine dw 2 f.F 0 ?_;refine wpAnyH_ready (rs:=[3,6,7]) az au ?_;refine bX rfl (λK' hK=>?_) (bX rfl (λK' hK=>?_) (bX rfl (λK' hK=>?_) (cN)))
  .go_simp;go_call(lM HF3 HX) as e V1 ⟨⟨ax,cx,rfl,_⟩,hb⟩;obtain⟨Ji,Nc⟩:=cn (cO.aA hb) (wR.ah hb);clear hb;refine hK.out _ _ Nc.o (λdh=>?_)
   refine iR 4 56 ?_;refine iR 5 64 ?_;refine wpAnyH_ready (rs:=[6,7]) az au ?_;refine bX rfl (λK' hK=>?_) (bX rfl (λK' hK=>?_) (cN))
   .go_simp;have hb:=(aE V1 V1).alloc av (.map #[] 0);have hm:cZ Ae prog 3 (V1.alloc (.map #[] 0)) (V1.heap.size) []:=by have h:=cZ.made (E:=Ae) (P:=prog) (k:=3) V1;rw[show V1.heap.size=V1.heap.size by simp] at h;exact h
    obtain⟨Cj,zl,Ue,arh⟩:=cr (Ji.aA hb) (Nc.ah hb) hm (show w.heap.size<=V1.heap.size from by have h:=Ji.size;rw[show V1.heap.size=V1.heap.size by simp] at h;exact h);clear hm;clear hb;refine hK.out _ _ zl.o (λfE=>?_)
    refine wpAnyH_ready (rs:=[7]) az au ?_;refine bX rfl (λK' hK=>?_) (cN)
    .go_simp;have hb:=(aE (V1.alloc (.map #[] 0)).heap.size (V1.alloc (.map #[] 0))).alloc av (.map #[] 0);have hm:cZ uC prog 3 ((V1.alloc (.map #[] 0)).alloc (.map #[] 0)) (V1.heap.size+1) []:=by have h:=cZ.made (E:=uC) (P:=prog) (k:=3) (V1.alloc (.map #[] 0));rw[show(V1.alloc (.map #[] 0)).heap.size=V1.heap.size+1 by simp] at h;exact h
     obtain⟨zn,zo,zq⟩:=cp (Cj.aA hb) (zl.ah hb) (Ue.on hb);obtain⟨zu,ari,aaR⟩:=cp hm (show w.heap.size<=V1.heap.size+1 from by have h:=Cj.size;rw[show(V1.alloc (.map #[] 0)).heap.size=V1.heap.size+1 by simp] at h;exact h) (show V1.heap.size≠V1.heap.size+1 from by have h:=Ue.lt;rw[show(V1.alloc (.map #[] 0)).heap.size=V1.heap.size+1 by simp] at h;omega);clear hm;clear hb;refine hK.out _ _ zo.o (λiZ=>?_)
     refine eX 8 (.agg #[f.F,O aa tb,O aa ((tb:Int)+1),O aa np,O aa ino,O aa 64,.map (some (V1.heap.size)),.map (some (V1.heap.size+1))]) ?_;refine bY 9 (λK' hK=>?_);go_simp;have iM:=(aE ((V1.alloc (.map #[] 0)).alloc (.map #[] 0)).heap.size ((V1.alloc (.map #[] 0)).alloc (.map #[] 0))).alloc av (.cells (Jc f.F (V1.heap.size) (V1.heap.size+1) (Ps.gY f tb np ino)) 155);have I5:=zo.ah iM;have oJ:Et w f.F (Ps.gY f tb np ino) (((V1.alloc (.map #[] 0)).alloc (.map #[] 0)).alloc (.cells (Jc f.F (V1.heap.size) (V1.heap.size+1) (Ps.gY f tb np ino)) 155)) (V1.heap.size+2):=by have l1:=zq.lt;have l2:=zu.lt;have l3:=zn.size;have l4:=arh.o;have l5:=ari.o;have l6:=aaR.o;have wu:=aF.new ((V1.alloc (.map #[] 0)).alloc (.map #[] 0)) 155 (Jc f.F (V1.heap.size) (V1.heap.size+1) (Ps.gY f tb np ino));have NQ:((V1.alloc (.map #[] 0)).alloc (.map #[] 0)).heap.size=V1.heap.size+2:=au;rw[NQ] at wu l3;rw[NQ] at l1 l2;exact⟨_,_,wu,zq.on iM,zu.on iM,ae,ae,ae,ae,ae,ae,zn.aA iM⟩
     refine hK.out _ _ I5 (λIA=>?_)
     refine dw 10 (V1.heap.size+2) 0 ?_;refine eH ?_;have zx:=ag oJ;clear oJ I5 iM;go_wp2_with fail;go_meet
     case rel=>exact⟨_,rfl,zx⟩
   .go_simp;have hb:=(aE V1 V1).alloc av (.map #[] 0);have hm:cZ uC prog 3 (V1.alloc (.map #[] 0)) (V1.heap.size) []:=by have h:=cZ.made (E:=uC) (P:=prog) (k:=3) V1;rw[show V1.heap.size=V1.heap.size by simp] at h;exact h
    obtain⟨Cj,zl,Uf,arj⟩:=cr (Ji.aA hb) (Nc.ah hb) hm (show w.heap.size<=V1.heap.size from by have h:=Ji.size;rw[show V1.heap.size=V1.heap.size by simp] at h;exact h);clear hm;clear hb;refine hK.out _ _ zl.o (λfE=>?_)
    refine wpAnyH_ready (rs:=[6]) az au ?_;refine bX rfl (λK' hK=>?_) (cN)
    .go_simp;have hb:=(aE (V1.alloc (.map #[] 0)).heap.size (V1.alloc (.map #[] 0))).alloc av (.map #[] 0);have hm:cZ Ae prog 3 ((V1.alloc (.map #[] 0)).alloc (.map #[] 0)) (V1.heap.size+1) []:=by have h:=cZ.made (E:=Ae) (P:=prog) (k:=3) (V1.alloc (.map #[] 0));rw[show(V1.alloc (.map #[] 0)).heap.size=V1.heap.size+1 by simp] at h;exact h
     obtain⟨zn,zo,zu⟩:=cp (Cj.aA hb) (zl.ah hb) (Uf.on hb);obtain⟨zq,ark,aaR⟩:=cp hm (show w.heap.size<=V1.heap.size+1 from by have h:=Cj.size;rw[show(V1.alloc (.map #[] 0)).heap.size=V1.heap.size+1 by simp] at h;exact h) (show V1.heap.size+1≠V1.heap.size from by have h:=Uf.lt;rw[show(V1.alloc (.map #[] 0)).heap.size=V1.heap.size+1 by simp] at h;omega);clear hm;clear hb;refine hK.out _ _ zo.o (λiZ=>?_)
     refine eX 8 (.agg #[f.F,O aa tb,O aa ((tb:Int)+1),O aa np,O aa ino,O aa 64,.map (some (V1.heap.size+1)),.map (some (V1.heap.size))]) ?_;refine bY 9 (λK' hK=>?_);go_simp;have iM:=(aE ((V1.alloc (.map #[] 0)).alloc (.map #[] 0)).heap.size ((V1.alloc (.map #[] 0)).alloc (.map #[] 0))).alloc av (.cells (Jc f.F (V1.heap.size+1) (V1.heap.size) (Ps.gY f tb np ino)) 155);have I5:=zo.ah iM;have oJ:Et w f.F (Ps.gY f tb np ino) (((V1.alloc (.map #[] 0)).alloc (.map #[] 0)).alloc (.cells (Jc f.F (V1.heap.size+1) (V1.heap.size) (Ps.gY f tb np ino)) 155)) (V1.heap.size+2):=by have l1:=zq.lt;have l2:=zu.lt;have l3:=zn.size;have l4:=ark.o;have l5:=arj.o;have l6:=aaR.o;have wu:=aF.new ((V1.alloc (.map #[] 0)).alloc (.map #[] 0)) 155 (Jc f.F (V1.heap.size+1) (V1.heap.size) (Ps.gY f tb np ino));have NQ:((V1.alloc (.map #[] 0)).alloc (.map #[] 0)).heap.size=V1.heap.size+2:=au;rw[NQ] at wu l3;rw[NQ] at l1 l2;exact⟨_,_,wu,zq.on iM,zu.on iM,ae,ae,ae,ae,ae,ae,zn.aA iM⟩
     refine hK.out _ _ I5 (λIA=>?_)
     refine dw 10 (V1.heap.size+2) 0 ?_;refine eH ?_;have zx:=ag oJ;clear oJ I5 iM;go_wp2_with fail;go_meet
     case rel=>exact⟨_,rfl,zx⟩
  .go_simp;have hb:=(aE W0 W0).alloc av (.map #[] 0);have hm:cZ Ae prog 3 (W0.alloc (.map #[] 0)) (W0.heap.size) []:=by have h:=cZ.made (E:=Ae) (P:=prog) (k:=3) W0;rw[show W0.heap.size=W0.heap.size by simp] at h;exact h
   obtain⟨Ji,ahB,Nc,arl,aw6⟩:=ct (cO.aA hb) (HF3.on hb) (wR.ah hb) hm (show w.heap.size<=W0.heap.size from by have h:=cO.size;rw[show W0.heap.size=W0.heap.size by simp] at h;exact h);clear hm;clear hb;refine hK.out _ _ Nc.o (λdh=>?_)
   refine wpAnyH_ready (rs:=[3,7]) az au ?_;refine bX rfl (λK' hK=>?_) (bX rfl (λK' hK=>?_) (cN))
   .go_simp;go_call(lM ahB HX) as e V2 ⟨⟨ax,cx,rfl,_⟩,hb⟩;obtain⟨Cj,zl,Ue⟩:=cp (Ji.aA hb) (Nc.ah hb) (arl.on hb);clear hb;refine hK.out _ _ zl.o (λfE=>?_)
    refine iR 4 56 ?_;refine iR 5 64 ?_;refine wpAnyH_ready (rs:=[7]) az au ?_;refine bX rfl (λK' hK=>?_) (cN)
    .go_simp;have hb:=(aE V2 V2).alloc av (.map #[] 0);have hm:cZ uC prog 3 (V2.alloc (.map #[] 0)) (V2.heap.size) []:=by have h:=cZ.made (E:=uC) (P:=prog) (k:=3) V2;rw[show V2.heap.size=V2.heap.size by simp] at h;exact h
     obtain⟨zn,zo,zq⟩:=cp (Cj.aA hb) (zl.ah hb) (Ue.on hb);obtain⟨zu,ari,aaR⟩:=cp hm (show w.heap.size<=V2.heap.size from by have h:=Cj.size;rw[show V2.heap.size=V2.heap.size by simp] at h;exact h) (show W0.heap.size≠V2.heap.size from by have h:=Ue.lt;rw[show V2.heap.size=V2.heap.size by simp] at h;omega);clear hm;clear hb;refine hK.out _ _ zo.o (λiZ=>?_)
     refine eX 8 (.agg #[f.F,O aa tb,O aa ((tb:Int)+1),O aa np,O aa ino,O aa 64,.map (some (W0.heap.size)),.map (some (V2.heap.size))]) ?_;refine bY 9 (λK' hK=>?_);go_simp;have iM:=(aE (V2.alloc (.map #[] 0)).heap.size (V2.alloc (.map #[] 0))).alloc av (.cells (Jc f.F (W0.heap.size) (V2.heap.size) (Ps.gY f tb np ino)) 155);have I5:=zo.ah iM;have oJ:Et w f.F (Ps.gY f tb np ino) ((V2.alloc (.map #[] 0)).alloc (.cells (Jc f.F (W0.heap.size) (V2.heap.size) (Ps.gY f tb np ino)) 155)) (V2.heap.size+1):=by have l1:=zq.lt;have l2:=zu.lt;have l3:=zn.size;have l4:=aw6.o;have l5:=ari.o;have l6:=aaR.o;have wu:=aF.new (V2.alloc (.map #[] 0)) 155 (Jc f.F (W0.heap.size) (V2.heap.size) (Ps.gY f tb np ino));have NQ:(V2.alloc (.map #[] 0)).heap.size=V2.heap.size+1:=au;rw[NQ] at wu l3;rw[NQ] at l1 l2;exact⟨_,_,wu,zq.on iM,zu.on iM,ae,ae,ae,ae,ae,ae,zn.aA iM⟩
     refine hK.out _ _ I5 (λIA=>?_)
     refine dw 10 (V2.heap.size+1) 0 ?_;refine eH ?_;have zx:=ag oJ;clear oJ I5 iM;go_wp2_with fail;go_meet
     case rel=>exact⟨_,rfl,zx⟩
   .go_simp;have hb:=(aE (W0.alloc (.map #[] 0)).heap.size (W0.alloc (.map #[] 0))).alloc av (.map #[] 0);have hm:cZ uC prog 3 ((W0.alloc (.map #[] 0)).alloc (.map #[] 0)) (W0.heap.size+1) []:=by have h:=cZ.made (E:=uC) (P:=prog) (k:=3) (W0.alloc (.map #[] 0));rw[show(W0.alloc (.map #[] 0)).heap.size=W0.heap.size+1 by simp] at h;exact h
    obtain⟨Cj,arn,zl,Ue,Uf⟩:=ct (Ji.aA hb) (ahB.on hb) (Nc.ah hb) (arl.on hb) hm;obtain⟨arj,aro⟩:=cn (show w.heap.size<=W0.heap.size+1 from by have h:=Ji.size;rw[show(W0.alloc (.map #[] 0)).heap.size=W0.heap.size+1 by simp] at h;exact h) (show W0.heap.size≠W0.heap.size+1 from by have h:=arl.lt;rw[show(W0.alloc (.map #[] 0)).heap.size=W0.heap.size+1 by simp] at h;omega);clear hm;clear hb;refine hK.out _ _ zl.o (λfE=>?_)
    refine wpAnyH_ready (rs:=[3]) az au ?_;refine bX rfl (λK' hK=>?_) (cN)
    .go_simp;go_call(lM arn HX) as e V3 ⟨⟨ax,cx,rfl,_⟩,hb⟩;obtain⟨zn,zo,zq,zu⟩:=cr (Cj.aA hb) (zl.ah hb) (Ue.on hb) (Uf.on hb);clear hb;refine hK.out _ _ zo.o (λiZ=>?_)
     refine iR 4 56 ?_;refine iR 5 64 ?_;refine eX 8 (.agg #[f.F,O aa tb,O aa ((tb:Int)+1),O aa np,O aa ino,O aa 64,.map (some (W0.heap.size)),.map (some (W0.heap.size+1))]) ?_;refine bY 9 (λK' hK=>?_);go_simp;have iM:=(aE V3 V3).alloc av (.cells (Jc f.F (W0.heap.size) (W0.heap.size+1) (Ps.gY f tb np ino)) 155);have I5:=zo.ah iM;have oJ:Et w f.F (Ps.gY f tb np ino) (V3.alloc (.cells (Jc f.F (W0.heap.size) (W0.heap.size+1) (Ps.gY f tb np ino)) 155)) (V3.heap.size):=by have l1:=zq.lt;have l2:=zu.lt;have l3:=zn.size;have l4:=aw6.o;have l5:=arj.o;have l6:=aro.o;have wu:=aF.new V3 155 (Jc f.F (W0.heap.size) (W0.heap.size+1) (Ps.gY f tb np ino));have NQ:V3.heap.size=V3.heap.size:=au;rw[NQ] at wu l3;rw[NQ] at l1 l2;exact⟨_,_,wu,zq.on iM,zu.on iM,ae,ae,ae,ae,ae,ae,zn.aA iM⟩
     refine hK.out _ _ I5 (λIA=>?_)
     refine dw 10 V3 0 ?_;refine eH ?_;have zx:=ag oJ;clear oJ I5 iM;go_wp2_with fail;go_meet
     case rel=>exact⟨_,rfl,zx⟩
  .go_simp;have hb:=(aE W0 W0).alloc av (.map #[] 0);have hm:cZ uC prog 3 (W0.alloc (.map #[] 0)) (W0.heap.size) []:=by have h:=cZ.made (E:=uC) (P:=prog) (k:=3) W0;rw[show W0.heap.size=W0.heap.size by simp] at h;exact h
   obtain⟨Ji,ahB,Nc,arp,aw7⟩:=ct (cO.aA hb) (HF3.on hb) (wR.ah hb) hm (show w.heap.size<=W0.heap.size from by have h:=cO.size;rw[show W0.heap.size=W0.heap.size by simp] at h;exact h);clear hm;clear hb;refine hK.out _ _ Nc.o (λdh=>?_)
   refine wpAnyH_ready (rs:=[3,6]) az au ?_;refine bX rfl (λK' hK=>?_) (bX rfl (λK' hK=>?_) (cN))
   .go_simp;go_call(lM ahB HX) as e V2 ⟨⟨ax,cx,rfl,_⟩,hb⟩;obtain⟨Cj,zl,Uf⟩:=cp (Ji.aA hb) (Nc.ah hb) (arp.on hb);clear hb;refine hK.out _ _ zl.o (λfE=>?_)
    refine iR 4 56 ?_;refine iR 5 64 ?_;refine wpAnyH_ready (rs:=[6]) az au ?_;refine bX rfl (λK' hK=>?_) (cN)
    .go_simp;have hb:=(aE V2 V2).alloc av (.map #[] 0);have hm:cZ Ae prog 3 (V2.alloc (.map #[] 0)) (V2.heap.size) []:=by have h:=cZ.made (E:=Ae) (P:=prog) (k:=3) V2;rw[show V2.heap.size=V2.heap.size by simp] at h;exact h
     obtain⟨zn,zo,zu⟩:=cp (Cj.aA hb) (zl.ah hb) (Uf.on hb);obtain⟨zq,ark,aaR⟩:=cp hm (show w.heap.size<=V2.heap.size from by have h:=Cj.size;rw[show V2.heap.size=V2.heap.size by simp] at h;exact h) (show V2.heap.size≠W0.heap.size from by have h:=Uf.lt;rw[show V2.heap.size=V2.heap.size by simp] at h;omega);clear hm;clear hb;refine hK.out _ _ zo.o (λiZ=>?_)
     refine eX 8 (.agg #[f.F,O aa tb,O aa ((tb:Int)+1),O aa np,O aa ino,O aa 64,.map (some (V2.heap.size)),.map (some (W0.heap.size))]) ?_;refine bY 9 (λK' hK=>?_);go_simp;have iM:=(aE (V2.alloc (.map #[] 0)).heap.size (V2.alloc (.map #[] 0))).alloc av (.cells (Jc f.F (V2.heap.size) (W0.heap.size) (Ps.gY f tb np ino)) 155);have I5:=zo.ah iM;have oJ:Et w f.F (Ps.gY f tb np ino) ((V2.alloc (.map #[] 0)).alloc (.cells (Jc f.F (V2.heap.size) (W0.heap.size) (Ps.gY f tb np ino)) 155)) (V2.heap.size+1):=by have l1:=zq.lt;have l2:=zu.lt;have l3:=zn.size;have l4:=ark.o;have l5:=aw7.o;have l6:=aaR.o;have wu:=aF.new (V2.alloc (.map #[] 0)) 155 (Jc f.F (V2.heap.size) (W0.heap.size) (Ps.gY f tb np ino));have NQ:(V2.alloc (.map #[] 0)).heap.size=V2.heap.size+1:=au;rw[NQ] at wu l3;rw[NQ] at l1 l2;exact⟨_,_,wu,zq.on iM,zu.on iM,ae,ae,ae,ae,ae,ae,zn.aA iM⟩
     refine hK.out _ _ I5 (λIA=>?_)
     refine dw 10 (V2.heap.size+1) 0 ?_;refine eH ?_;have zx:=ag oJ;clear oJ I5 iM;go_wp2_with fail;go_meet
     case rel=>exact⟨_,rfl,zx⟩
   .go_simp;have hb:=(aE (W0.alloc (.map #[] 0)).heap.size (W0.alloc (.map #[] 0))).alloc av (.map #[] 0);have hm:cZ Ae prog 3 ((W0.alloc (.map #[] 0)).alloc (.map #[] 0)) (W0.heap.size+1) []:=by have h:=cZ.made (E:=Ae) (P:=prog) (k:=3) (W0.alloc (.map #[] 0));rw[show(W0.alloc (.map #[] 0)).heap.size=W0.heap.size+1 by simp] at h;exact h
    obtain⟨Cj,arn,zl,Uf,Ue⟩:=ct (Ji.aA hb) (ahB.on hb) (Nc.ah hb) (arp.on hb) hm;obtain⟨arh,aro⟩:=cn (show w.heap.size<=W0.heap.size+1 from by have h:=Ji.size;rw[show(W0.alloc (.map #[] 0)).heap.size=W0.heap.size+1 by simp] at h;exact h) (show W0.heap.size+1≠W0.heap.size from by have h:=arp.lt;rw[show(W0.alloc (.map #[] 0)).heap.size=W0.heap.size+1 by simp] at h;omega);clear hm;clear hb;refine hK.out _ _ zl.o (λfE=>?_)
    refine wpAnyH_ready (rs:=[3]) az au ?_;refine bX rfl (λK' hK=>?_) (cN)
    .go_simp;go_call(lM arn HX) as e V3 ⟨⟨ax,cx,rfl,_⟩,hb⟩;obtain⟨zn,zo,zq,zu⟩:=cr (Cj.aA hb) (zl.ah hb) (Ue.on hb) (Uf.on hb);clear hb;refine hK.out _ _ zo.o (λiZ=>?_)
     refine iR 4 56 ?_;refine iR 5 64 ?_;refine eX 8 (.agg #[f.F,O aa tb,O aa ((tb:Int)+1),O aa np,O aa ino,O aa 64,.map (some (W0.heap.size+1)),.map (some (W0.heap.size))]) ?_;refine bY 9 (λK' hK=>?_);go_simp;have iM:=(aE V3 V3).alloc av (.cells (Jc f.F (W0.heap.size+1) (W0.heap.size) (Ps.gY f tb np ino)) 155);have I5:=zo.ah iM;have oJ:Et w f.F (Ps.gY f tb np ino) (V3.alloc (.cells (Jc f.F (W0.heap.size+1) (W0.heap.size) (Ps.gY f tb np ino)) 155)) (V3.heap.size):=by have l1:=zq.lt;have l2:=zu.lt;have l3:=zn.size;have l4:=arh.o;have l5:=aw7.o;have l6:=aro.o;have wu:=aF.new V3 155 (Jc f.F (W0.heap.size+1) (W0.heap.size) (Ps.gY f tb np ino));have NQ:V3.heap.size=V3.heap.size:=au;rw[NQ] at wu l3;rw[NQ] at l1 l2;exact⟨_,_,wu,zq.on iM,zu.on iM,ae,ae,ae,ae,ae,ae,zn.aA iM⟩
     refine hK.out _ _ I5 (λIA=>?_)
     refine dw 10 V3 0 ?_;refine eH ?_;have zx:=ag oJ;clear oJ I5 iM;go_wp2_with fail;go_meet
     case rel=>exact⟨_,rfl,zx⟩
 case rest=>
  obtain⟨Z,rfl,oJ⟩:=hcut;obtain⟨HR,HZ⟩:=cn (oJ.pl H0 HC sW) (show w.heap.size<=Z from by obtain⟨U,D,_,_,_,z1,_⟩:=oJ.o;exact z1);clear oJ;go_wp2_with fail
  go_loopw [58] (λi wr=>i=O aa 0/\wr=wc) (λ_ _=>0)
  case atStart=>exact⟨rfl,rfl⟩
  case round=>obtain⟨rfl,rfl⟩:=hrel;go_wp2;go_ret2;exact⟨Z,rfl,HR,HZ⟩
end
end Go.Proofs.YtnieckfelfoopaaGreat
namespace Go.Proofs.YtnieckfelfoopaaGreat
open RowKit Maps ChangeMaps dY
structure Mcp ld ls l:Prop where
 get:∀p,aI l p=match aI ls p with|some e=>some e|none=>aI ld p
theorem Mcp.start ld:Mcp ld [] ld:=⟨λ_=>rfl⟩
theorem WE {d e} (h:aI d e.t.p=none) p:aI (d++[e]) p=if p=e.t.p then some e else aI d p:=by
 unfold aI at h⊢;grind
theorem Mcp.step {ld d l e} (h:Mcp ld d l) (hu:Uq l) (hd:aI d e.t.p=none):Mcp ld (d++[e]) (dA l e):=⟨λp=>by
 rw[dY.lT hu,WE hd,h.get];grind⟩
theorem Mcp.all {ld d ls l} (h:Mcp ld d l) (hp:d.Perm ls) (hu:Uq ls):Mcp ld ls l:=⟨λp=>by rw[<-dY.zS hp (dY.xk hp.symm hu)];exact h.get p⟩
theorem yK {w D S ld ls} (hd:dH w D ld) (hs:dH w S ls) (di:D≠S):
  Calls prog 198 #[.map (some D),.map (some S)] w λe w'=>e=ar (ao #[])/\(∃l,dH w' D l/\Mcp ld ls l)/\Kq (λq=>q=D) w w':=by
 have HD:=ag hd;have HS:=ag hs;have EO:=ag di;have UI:=ag hd.lt;clear hd hs di
 go_in
 go_wp2_with (at_range;refine jl _ rfl _ rfl S ls rfl HS.o ?_;intro w3 CY cO EN)
 go_frame;have HD3:=ag (HD.o.on cO.o);have jZ:=ag (Kq.of (T:=λq=>q=D) cO.o);have HRz:=ag (show D<w.heap.size from UI.o);have HW:=ag (bp w);obtain⟨r,hr⟩:=aW w.heap.size;rw[<-hr] at CY⊢;have VQ:=ag hr;clear hr HD EN HW
 go_loopw [4,5,8] (λ_ _ _ wr=>Hid (∃d l,jH wr S r ls d/\dH wr D l/\Mcp ld d l)/\Hid (Kq (λq=>q=D) w wr)) (λ_ _ _ wr=>wr.rangeLeft S r)
 case atStart=>exact⟨ag ⟨[],ld,CY.o,HD3.o,Mcp.start ld⟩,jZ⟩
 case round=>
  obtain⟨hX,hK⟩:=hrel;have HK:=ag hK.out;clear CY HD3 jZ hK cO;obtain⟨d,l,h1,h2,h3⟩:=hX.o;have H1:=ag h1;have H2:=ag h2;have H3:=ag h3;have Lr:=ag (show D≠r by rw[VQ.o];have:=HRz.o;omega);clear hX h1 h2 h3
  go_wp2_with (at_next;refine jK _ rfl _ rfl S r ls d rfl H1.o ?_ ?_)
  ·intro hp;have HP:=ag (H3.o.all hp.o H1.o.SQ.uq);go_wp2;go_end0;exact⟨rfl,⟨l,H2.o,HP.o⟩,HK.o⟩
  ·intro e w6 he IL U0 hs6 OM hen;rw[uP] at hen⊢;have vP:=ag (show dH w6 D l from H2.o.same (U0.o.block D H2.o.lt λe=>Lr.o (Option.some.inj e)));have ql:=ag (HK.o.aA (Kq.grown U0.o) λq hq=> .inr (by have:=VQ.o;have:=Option.some.inj hq;omega));have mf:=bA w6 (.cells #[O aa e.b,O aa e.i] 247);have x8:=ag (vP.o.on mf);have CU:=ag (IL.o.on mf);have yh:=ag (ql.o.on mf);have HL7:=ag (show(w6.alloc (.cells #[O aa e.b,O aa e.i] 247)).rangeLeft S r<wr.rangeLeft S r from by rw[IL.o.1.ug mf];exact OM.o);have jc:=H1.o.SQ.key he.o.1;have HGn:=ag (rP λx hx ex=>he.o.2 (by rw[<-uM H1.o.SQ.uq (H1.o.2 x hx) he.o.1 ex];exact hx));obtain⟨o,aBG,hm8,hg8⟩:=x8.o.put e jc;rw[uP] at aBG;have WG:=ag hm8;obtain⟨hR8,ZN⟩:=CU.o.put x8.o EO.o Lr.o o;have HR8:=ag hR8;have JI:=ag ZN;have Qb:=ag (yh.o.trans ((Kq.grown hg8).mono λq hq=>(Option.some.inj hq).symm));have HC8:=ag (H3.o.step H2.o.uq HGn.o);clear mf hm8 hg8 hR8 ZN jc;go_wp2_with fail;go_roundw
   case rel=>exact⟨ag ⟨d++[e],_,HR8.o,WG.o,HC8.o⟩,Qb⟩
   case measure=>rw[JI.o];exact HL7.o
end Go.Proofs.YtnieckfelfoopaaGreat
namespace Go.Proofs.YtnieckfelfoopaaGreat
open RowKit Maps ChangeMaps dY
attribute [local go_sem] Oper.semAt_some
section
variable {NB B:Nat} {R:Nat->Prop} {w:World} {f:Fm}
theorem akT (F:Nat) w:Calls prog 142 #[F] w λe w'=>e=ar (.func (.func 197) #[] #[w])/\w.alloc (.cells #[F] 151)=w':=by
 go_in
 go_wp2;go_ret;exact⟨rfl,rfl⟩
section
variable {F:Fence} {n:Nat} {ops:Array Oper} {rest:List Oper} {o:Oper} {a:Act} {Q:Exit->Act->World->Prop} {b r:Nat} {l d:List En}
theorem FQ (hg:o.guard=none) m (wJ:o.op=Op.range 222 m) (hm:a.eval m= .map (some b)) (h:dH w b l)
  (hK:∀w',Hid (jH w' b w l [])->Hid (Below w w w')->wpListIn F n prog ops Q rest (a.put o.dst w) w'):
  wpListIn F n prog ops Q (o::rest) a w:=by grind[dH,jH,DL,jQ,Go.Proofs.Tryz.underlying222,Go.Proofs.ag]
theorem I8 (hg:o.guard=none) it (wJ:o.op=Op.next it false) (wK:a.eval it= r) (h:jH w b r l d)
  (KD:Hid (d.Perm l)->wpListIn F n prog ops Q rest (a.put o.dst (ao #[aq false])) w)
  (KE:∀e w',Hid (e∈l/\e∉d)->Hid (jH w' b r l (d++[e]))->Hid (w.grownBy w' (some r))->Hid (w'.rangeLeft b r<w.rangeLeft b r)->(Instr.entry r).run prog w'= .ok (ao #[O .u32 e.t.p,WH e.b e.i]) w'->wpListIn F n prog ops Q rest (a.put o.dst (ao #[aq true,O .u32 e.t.p,WH e.b e.i])) w'):
  wpListIn F n prog ops Q (o::rest) a w:=by
 refine kH hg it wJ 64 b r _ _ wK h.1 (λh1=>KD (ag (h.all h1))) λp w' h1 h2 h3 h4 _ h6 h7=>?_;obtain⟨e,he,rfl⟩:=bw.1 h1;refine KE e w' (ag ⟨he,λh7=>h2 (bw.2 ⟨e,h7,rfl⟩)⟩) (ag ⟨?_,λx hx=>?_⟩) (ag h4) (ag h6) h7
 ·unfold DL at h3⊢;grind
 ·rcases cv.1 hx with h8|h8
  ·exact h.2 x h8
  grind
end
def anI (f:Fm) (ss:List Nat):=ss.length<=12/\∀q,q∈ss↔q≠0/\(jw f q).isSome=true
theorem aBH {d l se e} (h:∀p,aI l p=if (aI d p).isSome then none else aI se p) (hd:aI d e.t.p=none):∀p,aI (kQ l e.t.p) p=if (aI (d++[e]) p).isSome then none else aI se p:=λp=>by
 rw[qQ,WE hd,h];grind
theorem akU {l1 l2} (h1:∀p,aI l1 p=if (aI f.go p).isSome then none else aI f.se p) (h2:Mcp l1 f.no l2) p:aI (kQ l2 0) p=if p=0 then none else jw f p:=by rw[qQ,h2.get,h1];rfl
theorem SS {l} (hu:Uq l) (h:∀p,aI l p=if p=0 then none else jw f p) (hf:∃K:List Nat,K.length<=12/\∀q,q≠0->(jw f q).isSome=true->q∈K) {ss} (hs:ss.Perm (l.map λe=>e.t.p)):ss.length<=12/\anI f ss:=by
 have hm:∀q,q∈ss↔q≠0/\(jw f q).isSome=true:=λq=>by
  rw[hs.mem_iff,<-dK,h];grind
 obtain⟨K,hK,hf⟩:=hf;have:=vV (l:=ss) (l':=K) (hs.nodup_iff.2 hu) λx hx=>by grind
 exact⟨ae,ae,hm⟩
theorem ZO {Bm} (h:cu NB B R w f) (hB:aF w Bm 151 #[f.F]) (DN:∃K:List Nat,K.length<=12/\∀q,q≠0->(jw f q).isSome=true->q∈K):
  FT prog 197 #[Bm] lY (anI f) 20 (λq=>q=Bm\/R q) w:=by
 intro lp J X W hJ hW hX _ hY h0;have hf:=h.kq hW λq hq h=>h (.inr hq);have HBm:=ag (hB.kq hW λh=>h (.inl rfl));have HF:=ag hf;have HJ:=ag hJ;have HXb:=ag (λq (h:X q)=>hJ.bd _ _ _ h0 q h);have HY:=ag hY;have H0:=ag h0;have ap1:=ag DN;clear h hB DN hW hX hJ hY h0 hf;refine callsIn_of_wp Tryz.func197 rfl trivial ?_ rfl;simp only[Tryz.ntmps197,cU,cD,cV,Nat.reduceAdd,Nat.reduceSub,dT,ee,List.push_toArray,ef,cP,dj];have bP:=bA W (.map #[] 0);have YI:=ag (dH.made W);have bV:=ag bP;have c0:=HBm.o.aj (i:=0) rfl;have UX:=@run_makeMap prog;have c1:=(HBm.o.ah bP).aj (i:=0) rfl;have c2:=(HF.o.on bP).c5;clear bP
 gi_wp2_with fail
 refine⟨trivial,?_⟩;clear c0 c1 c2;have HW2:=ag (show f.SE≠W.heap.size/\f.NO≠W.heap.size/\f.GO≠W.heap.size from by have:=HF.o.hS.lt;have:=HF.o.hN.lt;have:=HF.o.hG.lt;omega);refine(callsIn_wide (n:=7)|>.2 (yK YI.o (HF.o.on bV.o).hS (Ne.symm HW2.o.1))).mono ?_;rintro e W2 ⟨rfl,⟨l1,NT,BO⟩,fO⟩;have aZ:Below W W W2:=bV.o.trans (fO.below (λq e=>Nat.le_of_eq e.symm) bV.o.size);have JB:=ag NT;have HC2:=ag BO;have df:=ag aZ;have c1:=(HBm.o.ah aZ).aj (i:=0) rfl;have c2:=(HF.o.on aZ).c7;have HGo:=ag (HF.o.on aZ).hG;clear NT BO fO aZ YI UX
 gi_wp2_with (gi_at_range;refine FQ rfl _ rfl rfl HGo.o ?_;intro W3 CY cO)
 try go_frame
 have avc:=ag (df.o.aA cO.o);have Qk:=ag (JB.o.on cO.o);have wR:=ag (show∀p,aI l1 p=if (aI ([]:List En) p).isSome then none else aI f.se p from λp=>by
  rw[HC2.o.get,show aI ([]:List En) p=none from rfl]
  cases aI f.se p<;>rfl)
 have VQ:=ag (show W.heap.size<W2.heap.size from JB.o.lt);obtain⟨r,hr⟩:=aW W2.heap.size;rw[<-hr] at CY VQ⊢;have HRw:=ag (show W.heap.size<=r from by have:=VQ.o;omega);clear hr cO c1 c2 HGo JB HC2 df bV
 gi_loopw [4,21,22,23,24,25,26] (λ_ _ _ _ _ _ _ wr=>Hid (∃d l,jH wr f.GO r f.go d/\dH wr W l/\(∀p,aI l p=if (aI d p).isSome then none else aI f.se p))/\Hid (Below W W wr)) (λ_ _ _ _ _ _ _ wr=>wr.rangeLeft f.GO r)
 case atStart=>exact⟨ag ⟨[],l1,CY.o,Qk.o,wR.o⟩,avc⟩
 case round=>
  obtain⟨hX,hb⟩:=hrel;have HB:=ag hb.o;clear CY Qk wR hb avc;obtain⟨d,l,h1,h2,h3⟩:=hX.o;have H1:=ag h1;have H2:=ag h2;have H3:=ag h3;clear hX h1 h2 h3
  gi_wp2_with (gi_at_next;refine I8 rfl _ rfl rfl H1.o ?_ ?_)
  ·intro hp;have HG:=ag (show∀p,aI l p=if (aI f.go p).isSome then none else aI f.se p from λp=>by rw[H3.o,zS hp.o (xk hp.o.symm H1.o.SQ.uq)]);have c1:=(HBm.o.ah HB.o).aj (i:=0) rfl;have c2:=(HF.o.on HB.o).c6;have HMw:=ag H2.o;clear H1 H2 H3 hp
   gi_wp2_with fail
   refine⟨trivial,?_⟩;refine(callsIn_wide (n:=7)|>.2 (yK HMw.o (HF.o.on HB.o).hN (Ne.symm HW2.o.2.1))).mono ?_;rintro e W4 ⟨rfl,⟨l2,EY,Dw⟩,eU⟩;have jM:=ag (HB.o.trans (eU.below (λq e=>Nat.le_of_eq e.symm) HB.o.size));have oC:=ag (akU HG.o Dw);obtain⟨o,ZP,hm5,hg5⟩:=EY.del (p:=0) ae 0;rw[show((0:Nat):Int)=0 from rfl] at ZP;have Ql:=ag hm5;have je:=ag (jM.o.grown hg5 jM.o.size λk e=>by have:=Option.some.inj e;omega);clear c1 c2 EY Dw eU hm5 hg5 HMw HG
   gi_wp2_with fail
   refine⟨trivial,?_⟩;clear ZP;generalize setBlock W4 W o=W5 at*;refine(callsIn_wide (n:=7)|>.2 (WI (some W) W5)).mono ?_;rintro e w_ ⟨rfl,rfl⟩;have OG:=ag (aF.new W5 222 #[.map (some W)]);have mf:=bA W5 (.cells #[.map (some W)] 222);have vP:=ag (Ql.o.on mf);have ve:=ag (je.o.aA mf);have KZ:=ag (show W5.heap.size<(W5.alloc (.cells #[.map (some W)] 222)).heap.size by simp);clear mf;obtain⟨Kb,Om⟩:=aW W5.heap.size;rw[<-Om] at OG KZ⊢;clear Om;generalize W5.alloc (.cells #[.map (some W)] 222)=W6 at*;have wK:=WJ (enc:=lY) (dec:=agt) OG.o vP.o ZQ (λp hp=>by obtain⟨x,_,rfl⟩:=bw.1 hp;exact⟨x.t.p,rfl⟩);have HSo:=ag (OO (enters_of Tryz.func243 az rfl) (S:=λss=>ss.Perm ((DL (kQ l2 0)).map λp=>agt p.1)) (N:=(DL (kQ l2 0)).length) (by
    have:=(SS vP.o.uq oC.o ap1.o (List.Perm.refl _)).1;rw[bO] at this;unfold DL;rw[bO];omega) (λss hs=>by
    refine(SS vP.o.uq oC.o ap1.o (ss:=ss) ?_).1;have e1:(DL (kQ l2 0)).map (λp=>agt p.1)=(kQ l2 0).map λe=>e.t.p:=by unfold DL;rw[cW];exact dp λx _=>ZQ x.t.p
    rw[<-e1];exact hs) wK (λq hq=>by
    rcases hq with rfl|rfl
    ·exact OG.o.lt
    ·exact vP.o.lt))
   clear wK
   gi_wp2_with fail
   refine⟨trivial,?_⟩;refine(callsIn_wide (n:=7)|>.2 HSo.o).mono ?_;rintro e W7 ⟨⟨v,s0,ss,rfl,hS,hSp,ho⟩,jr⟩;have hss:=SS vP.o.uq oC.o ap1.o (ss:=ss) (by
    have e1:(DL (kQ l2 0)).map (λp=>agt p.1)=(kQ l2 0).map λe=>e.t.p:=by unfold DL;rw[cW];exact dp λx _=>ZQ x.t.p
    rw[<-e1];exact hSp.trans hS)
   have WB:=ag hss;obtain⟨a,c,rfl,hc⟩:=ho.bG rfl;have nY:=ag (ve.o.aA jr);have HO:=ag (ho.mono (base':=W.heap.size) ve.o.size);have HJ7:=ag (HJ.o.on H0.o (ve.o.aA jr));clear hS ho jr HSo hss hc hSp
   gi_wp2_with fail
   gi_loopw [6,38] (λ_ v wr=>∃(k:Nat) (X1:Nat->Prop),v=O aa k/\k<=ss.length/\Hid (J (ss.take k) X1 wr/\Grew X W X1/\Kq X W wr/\W.heap.size<=wr.heap.size/\Own lY 64 wr W (an a ss.length c) ss/\∀q,(Value.slice a ss.length c).ownBlock=some q->¬X1 q)) (λ_ v _=>ss.length-(intOf v).toNat)
   case atStart=>exact⟨0,X,rfl,bN _,ag ⟨HJ7.o,Grew.refl _ _,Kq.of nY.o,nY.o.size,HO.o,λq hq hx=>by have:=(HO.o.aN q hq).1;have:=HXb.o q hx;omega⟩⟩
   case round=>
    obtain⟨k,X1,rfl,hk,HX⟩:=hrel;clear HJ7 HO;obtain⟨x1,x2,x3,x4,x5,x6⟩:=HX.o;have H1:=ag x1;have H2:=ag x2;have H3:=ag x3;have H4:=ag x4;have H5:=ag x5;have H6:=ag x6;clear HX x1 x2 x3 x4 x5 x6;have jA:=WB.o.1;by_cases aT:k<ss.length
    ·obtain⟨g,o1,fO,rfl,Wh,BO⟩:=(H5.o.arr ae).YJ aT;have HTk:=ag (ei fO);generalize ss[k]=x at*;have g1:(k:Int)<(ss.length:Int):=ae;have g0:(0:Int)<=(k:Int):=ae;have g2:=bq ((k:Int)+1) ⟨ae,ae⟩;unfold lY at BO;have G9:=ag Wh;obtain⟨fn,tmps,assign,body,hy,hR⟩:=HY.o (ss.take k) x X1 wr H1.o (by rw[cI];omega);unfold lY at hy;have hkl:=aT;clear jA aT Wh
     gi_wp2
     refine hR.mono ?_;rintro e W8 ⟨rfl,⟨X8,hJ8,hg8⟩,hk8⟩;have hs8:=hk8.size;have HX8:=ag (show J (ss.take (k+1)) X8 W8/\Grew X W X8/\Kq X W W8/\W.heap.size<=W8.heap.size/\Own lY 64 W8 W (an (g,o1) ss.length c) ss/\∀q,(Value.slice (g,o1) ss.length c).ownBlock=some q->¬X8 q from
      ⟨by rw[HTk.o];exact hJ8,H2.o.trans hg8 H4.o,H3.o.aA hk8 (λq hq=>H2.o q hq),bB H4.o hs8,H5.o.kq hk8 (λq hq=>H6.o q hq),λq hq=>hg8.not (H6.o q hq) (H5.o.aN q hq).2⟩)
     clear hJ8 hg8 hk8 hs8 BO
     gi_wp2
     go_roundw
     case rel=>exact⟨k+1,X8,by go_num,ae,HX8⟩
     case measure=>simp[intOf];omega
    ·obtain rfl:k=ss.length:=ae;have HJe:=ag (show J ss X1 wr from by have:=H1.o;rwa [List.take_length] at this);clear jA aT
     gi_wp2
     go_end0;exact⟨⟨_,rfl⟩,⟨ss,X1,WB.o.2,HJe.o,H2.o⟩,H3.o⟩
  ·intro e w6 he IL U0 OM hen;have vP:=ag (show dH w6 W l from H2.o.same (U0.o.block _ H2.o.lt λe=>by have:=VQ.o;have:=Option.some.inj e;omega));have ve:=ag (HB.o.grown U0.o HB.o.size λk e=>by have:=HRw.o;have:=Option.some.inj e;omega);have jc:=H1.o.SQ.key he.o.1;have HGn:=ag (rP λx hx ex=>he.o.2 (by rw[<-uM H1.o.SQ.uq (H1.o.2 x hx) he.o.1 ex];exact hx));obtain⟨o,ZP,hm8,hg8⟩:=vP.o.del jc 0;rw[uP] at hen⊢;have WG:=ag hm8;have UG:=ag (ve.o.grown hg8 ve.o.size λk e=>by have:=Option.some.inj e;omega);obtain⟨hR8,ZN⟩:=jH.put IL.o vP.o (Ne.symm HW2.o.2.2) (by have:=VQ.o;omega) o;have HR8:=ag hR8;have JI:=ag ZN;have H38:=ag (aBH H3.o HGn.o);clear hm8 hg8 hR8 ZN jc
   gi_wp2_with fail
   go_roundw
   case rel=>exact⟨ag ⟨d++[e],_,HR8.o,WG.o,H38.o⟩,UG⟩
   case measure=>rw[JI.o];exact OM.o
end
end Go.Proofs.YtnieckfelfoopaaGreat
namespace Go.Proofs
open Shelf
def Tryz.sortedA_ren:Go.Shelf.Ren:=⟨fun|6=>145|8=>203|9=>204|11=>245|13=>247|12=>246|23=>275|24=>276|14=>266|15=>267|16=>268|17=>269|18=>270|19=>271|20=>272|21=>273|22=>274|25=>296|26=>297|27=>298|28=>299|29=>300|30=>301|31=>325|n=>n,fun|26=>3|28=>217|24=>116|0=>0|3=>3|37=>196|48=>64|50=>65|4=>4|40=>331|39=>330|45=>239|5=>5|9=>9|51=>354|55=>358|57=>376|58=>158|33=>82|n=>n,fun|n=>n⟩
theorem Tryz.sortedA:Go.Proofs.SlLaysZI.n6 prog Tryz.sortedA_ren:={
 mixed:=az
 f6:=⟨Tryz.f145.name,aB,Tryz.func145.trans (congrArg some az)⟩
 f8:=⟨Tryz.f203.name,aB,Tryz.func203.trans (congrArg some az)⟩
 f11:=⟨Tryz.f245.name,aB,Tryz.func245.trans (congrArg some az)⟩
 t0:=Tryz.underlying0
 a0:=Tryz.isAgg0
 z0:=Tryz.sizeOf0
 v0:=Tryz.zeroValue0
 t24:=Tryz.underlying116
 a24:=Tryz.isAgg116
 z24:=Tryz.sizeOf116
 v24:=Tryz.zeroValue116
 t26:=Tryz.underlying3
 a26:=Tryz.isAgg3
 z26:=Tryz.sizeOf3
 v26:=Tryz.zeroValue3
 t28:=Tryz.underlying217
 a28:=Tryz.isAgg217
 z28:=Tryz.sizeOf217
 v28:=Tryz.zeroValue217
 i26:=by kernel_rfl}
namespace YtnieckfelfoopaaGreat
open RowKit Maps Go.Sort
theorem ap2 m:AnyZI.SortsIn prog Tryz.sortedA_ren Fence.wide m:=
 ⟨λblk off cap ss W hH adx iG=>callsIn_wide.2 (Tryz.slices_Sort_int blk off cap ss W hH adx iG),
  λp cap W=>callsIn_wide.2 (Tryz.slices_Sort_int_none p cap W)⟩
def WL (ss:List Int):=ss.mergeSort λx y=>decide (x<=y)
theorem Ls ss:(WL ss).Perm ss:=List.mergeSort_perm ss _
theorem Ba {S} {N g:Nat} {lb w} (eg:∀args w,(callFunc g args).run prog w= .ok (.enter g args) w) (hN:N<=1000000) (aBI:SeqGives Fence.wide 8 prog g lb encZ S N w):
  Calls prog 145 #[.func (.func g) #[] lb] w λe w'=>∃v ss,e=ar v/\S ss/\Own encZ 3 w' w v (WL ss)/\Below w w w'/\(ss=[]->v=an none 0 0):=by
 have h:=AnyZI.sorted_in Tryz.sortedA Fence.wide 11 trivial trivial trivial trivial rfl ae (ap2 _) (enters_of Tryz.func204 az rfl) g lb trivial eg S N (by unfold maxLen;omega) ae w aBI;change CallsIn _ _ prog 145 _ _ _ at h;refine(callsIn_wide.1 h).mono ?_;rintro e w' ⟨v,ss,rfl,hS,afO,Fb,hb⟩;refine⟨v,ss,rfl,hS,?_,hb,Fb.2⟩;unfold Own;rw[(Ls ss).length_eq];exact afO
end YtnieckfelfoopaaGreat
end Go.Proofs
namespace Go.Proofs.YtnieckfelfoopaaGreat
open RowKit Maps ChangeMaps fG dY
variable {NB B P n:Nat} {Q:Nat->Prop} {w w':World} {f:Fm} {s:Ps}
theorem bZ.ft (h:bZ NB B Q w P f s):∃R,cu NB B R w f/\Fc NB f/\∀q,R q->Q q:=by obtain⟨U,D,dl,R,h1,h2,_⟩:=h;exact⟨R,h1.hf,h1.fc,λq hq=>h2 q (.inr (.inr (.inr (.inl hq))))⟩
theorem tY (h:bZ NB B Q w P f s):Calls prog 43 #[P] w λe w'=>e=ar (aq false)/\Below w w w':=by
 obtain⟨R,hf,hc,_⟩:=h.ft;have HR:=ag (pY hf hc.fi hc.ov);have c0:=h.c0;clear h hf hc
 go_in
 go_wp2_with fail;go_call HR.o as e w1 ⟨rfl,hb⟩;have HB:=ag hb;clear hb c0;go_wp2;go_ret;exact⟨rfl,HB.o⟩
end Go.Proofs.YtnieckfelfoopaaGreat
namespace Go.Proofs.YtnieckfelfoopaaGreat
open RowKit Maps ChangeMaps fG dY
structure ZR NB (f:Fm) (L:List Nat) (g:Nat->List UInt8) k f':Prop where
 fc:Fc NB f'
 F:f'.F=f.F
 C:f'.g.C=f.g.C
 gh:f'.g.gh=f.g.gh
 se:f'.se.map sk=f.se.map sk
 rc:∀e∈f'.no,f.seq<=e.t.s
 zt:∀z,Zi NB z f.g (f.se++f.no) f.seq->Zi NB z f'.g (f'.se++f'.no) f'.seq
 seq:f'.seq=f.seq+k
 ep:f'.ep=f.ep
 tx:f'.tx=f.tx
 s0:(aI f'.se 0).isSome=true
 len:(f'.se++f'.no).length=(f.se++f.no).length+k
 no:∀q,(aI f'.no q).isSome=true->q∈L.take k
 vw:∀q,if q∈L.take k then∃sq,f.seq<=sq/\sq<f.seq+k/\vw f' q=some (⟨1,q,sq,f.ep⟩,g q) else vw f' q=vw f q
section
variable {NB k:Nat} {f f1 f':Fm} {L:List Nat} {g:Nat->List UInt8} {tx:List UInt8}
theorem ZR.start (h:Fc NB f) (hn:f.no=[]) (h0:(aI f.se 0).isSome=true):ZR NB f L g 0 f:=
 ⟨h,rfl,rfl,rfl,rfl,(λe he=>by rw[hn] at he;cases he),λ_ h=>h,rfl,rfl,rfl,h0,rfl,λq hq=>(by rw[hn] at hq;cases hq),λq=>by grind⟩
theorem ZR.step (h:ZR NB f L g k f1) (hu:L.Nodup) hk (hu':Uq f'.no) (hw:Wrd NB f1 f' L[k] (g L[k])):ZR NB f L g (k+1) f':=by
 have hun:=hu';have ht:=ei hk;have hni:L[k]∉L.take k:=λhm=>by obtain⟨i,hi,e⟩:=List.mem_iff_getElem.1 hm;rw[cI] at hi;rw[List.getElem_take] at e;exact List.pairwise_iff_getElem.1 hu i k ae hk ae e
 have hno:(aI f1.no L[k]).isSome=false:=by
  cases hz:(aI f1.no L[k]).isSome with
  |false=>rfl
  |true=>exact absurd (h.no _ hz) hni
 refine⟨hw.fc,hw.F.trans h.F,hw.C.trans h.C,hw.gh.trans h.gh,hw.se.trans h.se,λe he=>?_,λz hz=>hw.zt z (h.zt z hz),?_,hw.ep.trans h.ep,hw.tx.trans h.tx,hw.agu h.s0,?_,λq hq=>?_,λq=>?_⟩
 ·have h1:=hw.no e.t.p;rw[zT hun he] at h1;split at h1
  ·injection h1 with h1
   have h2:e.t=_:=congrArg Prod.fst h1;rw[h2];show f.seq<=f1.seq;rw[h.seq];omega
  ·cases hz:aI f1.no e.t.p with
   |none=>rw[hz] at h1;cases h1
   |some y=>
    rw[hz] at h1;injection h1 with h1
    have h2:e.t=y.t:=congrArg Prod.fst h1;rw[h2];exact h.rc y (dW hz).1
 ·rw[hw.seq,h.seq];omega
 ·rw[hw.len_,h.len,hno];simp;omega
 ·rw[ht,cv,cG];have h1:=hw.no q;by_cases e:q=L[k]
  ·exact .inr e
  ·rw[eo e] at h1;refine .inl (h.no q ?_)
   cases hz:aI f'.no q with
   |none=>rw[hz] at hq;cases hq
   |some x=>
    rw[hz] at h1
    cases hy:aI f1.no q with
    |none=>rw[hy] at h1;cases h1
    |some y=>rfl
 ·have h1:=hw.vw q;have h2:=h.vw q;rw[ht];by_cases e:q=L[k]
  ·rw[ev (List.mem_append_right _ (by grind))];rw[ev e] at h1;exact⟨f1.seq,by rw[h.seq];omega,by rw[h.seq];omega,by rw[h1,h.ep,<-e]⟩
  grind
structure CmD NB (f:Fm) (L:List Nat) (g:Nat->List UInt8) tl f':Prop where
 fc:Fc NB f'
 F:f'.F=f.F
 C:f'.g.C=f.g.C
 gh:f'.g.gh=f.g.gh
 zt:∀z,Zi NB z f.g (f.se++f.no) f.seq->Zi NB z f'.g (f'.se++f'.no) f'.seq
 seq:f'.seq=f.seq+L.length+1
 ep:f'.ep=f.ep+1
 tx:f'.tx=tl
 no:f'.no=[]
 go:f'.go=[]
 s0:(aI f'.se 0).isSome=true
 vw0:vw f' 0=some (⟨2,0,f.seq+L.length,f.ep⟩,ig tl)
 vw:∀q,q≠0->if q∈L then∃sq,f.seq<=sq/\sq<f.seq+L.length/\vw f' q=some (⟨1,q,sq,f.ep⟩,g q) else vw f' q=vw f q
theorem filter_one {α:Type} {p} {l:List α} {x} (hx:x∈l) (hp:p x=false):(l.filter p).length+1<=l.length:=by induction l<;>grind
theorem ZR.old (h:ZR NB f L g k f') (hs:∃x∈f.se,x.t.s+1=f.seq) (hk:k<=6) (hl:f.se.length<=10):((f'.se++f'.no).filter λe=>decide (e.t.s+8<=f'.seq)).length<=9:=by
 obtain⟨x,hx,hs⟩:=hs;have h1:sk x∈f'.se.map sk:=by rw[h.se];grind
 obtain⟨y,hy,h2⟩:=bw.1 h1;have h3:y.t=x.t:=congrArg Prod.fst h2;have hq:=h.seq;have h4:=filter_one (p:=λe:En=>decide (e.t.s+8<=f'.seq)) hy (by grind);have h5:(f'.no.filter λe:En=>decide (e.t.s+8<=f'.seq))=[]:=List.filter_eq_nil_iff.2 λe he=>by have:=h.rc e he;grind
 have h6:=congrArg List.length h.se;grind
theorem ZR.gcs (h:ZR NB f L g k f') (hs:∃x∈f.se,x.t.s+1=f.seq) (hk:k<=6) (hl:f.se.length<=10) (hN:16<=NB) (hq:f.seq<=170):Gcs NB f'.g:=
 h.fc.zi.gcs h.fc.fi h.fc.fr hN (by rw[h.seq];omega) (h.old hs hk hl)
theorem ZR.ave (h:ZR NB f L g L.length f1) (hs:Sld NB f1 f' tx):CmD NB f L g tx f':=by
 refine⟨hs.fc,hs.F.trans h.F,hs.C.trans h.C,hs.gh.trans h.gh,λz hz=>hs.zt z (h.zt z hz),?_,?_,hs.tx,hs.no,hs.go,hs.agu,?_,λq hq=>?_⟩
 ·rw[hs.sq,h.seq]
 ·rw[hs.ep,h.ep]
 ·rw[hs.vw,ev rfl];unfold vW;rw[h.seq,h.ep]
 ·have h1:=h.vw q;have h2:=hs.vw q;grind
theorem CmD.perm {L'} (h:CmD NB f L g tx f') (hp:L.Perm L'):CmD NB f L' g tx f':=by
 have hl:=hp.length_eq;refine⟨h.fc,h.F,h.C,h.gh,h.zt,by rw[<-hl];exact h.seq,h.ep,h.tx,h.no,h.go,h.s0,by rw[<-hl];exact h.vw0,λq hq=>?_⟩;have h1:=h.vw q hq;grind
end
theorem SV {dl:List Dp} {ss} (h:ss.Perm (dl.map λd=>d.n)):∃Ln:List Nat,WL ss=Ln.map (λn:Nat=>(n:Int))/\Ln.Perm (dl.map Dp.n):=by
 have hp:=(Ls ss).trans h;refine⟨(WL ss).map Int.toNat,?_,?_⟩
 ·rw[cW]
  conv=>lhs;rw[<-List.map_id (WL ss)]
  refine dp λx hx=>?_;grind
 ·have h2:=hp.map Int.toNat
  rw[cW] at h2;have:dl.map (Int.toNat∘λd=>(d.n:Int))=dl.map Dp.n:=dp λd _=>au;rw[this] at h2;exact h2
end Go.Proofs.YtnieckfelfoopaaGreat
namespace Go.Proofs.YtnieckfelfoopaaGreat
open RowKit dY ChangeMaps
section
variable {NB B n:Nat} {R:Nat->Prop} {w:World} {f:Fm}
def Wrt (NB B:Nat) (R:Nat->Prop) (f:Fm) (p:Nat) (pay:List UInt8) (w:World) (e:Ending) w':=e=ar (O aa 0)/\∃f',oq NB B R w w' f'/\Wrd NB f f' p pay
theorem SX (hgc:Gcs NB f.g) (h:cu NB B R w f) (hc:Fc NB f) p (NP:(aI f.no p).isSome=false) (yc:1<=p) (jU:p+2<(NB-3)*8) (wL:p<8192) (hfull:(aI f.no p).isSome=true\/(f.se++f.no).length+3<=8*(NB-3)) (ER:f.seq<=1000000) a c pay (NL:f.g.gh (Tg.page ⟨1,p,f.seq,f.ep⟩ pay)) (hx:Bytes w w a 64 pay) (AL:∀b o,a=some ⟨b,o,none⟩->¬R b):
  Calls prog 147 #[f.F,O .u32 p,an a 64 c] w (Wrt NB B R f p pay w):=by
 have gX:=h.base;have pK:=hc.fi.nb;have YU:=mZ h hc.fi p ae;rw[eo ae] at YU;have HLg:=ag YU;have HH:=ag h;have HC:=ag hc;have HX:=ag hx;have Kt:=ag AL;have HFu:=ag hfull;have SY:=ag ER;have sV:=ag yc;have pU:=ag wL;have HAb:=ag (show∀b o,a=some ⟨b,o,none⟩->b<w.heap.size from λb o e=>by obtain⟨b',o',e',aT,_⟩:=hx.2.2 ae;rw[e] at e';injection e' with e';injection e' with e';omega);have aBJ:=ag (show(f.se++f.no).length<=1000000 by have:=hc.cap;omega);have gm:=fU;have HGh:=ag NL;have HGc:=ag hgc;have HAg:=ag NP;clear hgc NP NL h hc YU hx AL hfull ER yc jU wL
 go_in
 go_wp2_with fail;go_call HLg.o as e w1 ⟨rfl,bP⟩;have H1:=ag (HH.o.on bP);have bV:=ag bP;obtain⟨b1,i1,e1⟩:=rQ (aI f.no p);have Qm:=H1.o.hN.yL (by have:=pU.o;omega) rfl e1 HAg.o;have c6:=H1.o.c6;have aZ:=bP.alloc bP.size (.cells #[O aa b1,O aa i1] 247);have H2:=ag (HH.o.on aZ);have df:=ag aZ;clear bP e1 aZ;go_upto_region 5 with fail;generalize w1.alloc (.cells #[O aa b1,O aa i1] 247)=w2 at*;clear Qm c6;go_wp2_with fail;go_call(Hf H2.o) as e w3 ⟨rfl,bJ⟩;have cO:=ag (df.o.aA bJ);have H3:=ag (H2.o.on bJ);clear bJ;go_wp2_with fail;go_call(pY H3.o HC.o.fi HC.o.ov) as e w4 ⟨rfl,eG⟩;have jM:=ag (cO.o.aA eG);have H4:=ag (H3.o.on eG);clear eG;go_upto_region 9 with fail
 go_cut [38] (λv wx=>v=aq false/\Hid (Below w w wx))
 case first=>
  ·have hfl:=HFu.o;rw[HAg.o] at hfl;have hfl:(f.se++f.no).length+3<=8*(NB-3):=by simpa using hfl
   obtain⟨U,hU⟩:=aW ((f.se++f.no).length);have HUs:=ag (G7 H4.o aBJ.o);rw[<-hU] at HUs hfl;have aT:¬((NB:Int)-3)*8-2<=(U:Int):=ae;clear hU hfl;go_wp2_with fail;go_call HUs.o as e w5 ⟨rfl,eQ⟩;have je:=ag (jM.o.aA eQ);have H5:=ag (H4.o.on eQ);clear eQ;go_wp2_with fail;go_call(jG H5.o HC.o.fi) as e w6 ⟨rfl,fJ⟩;have ve:=ag (je.o.aA fJ);clear fJ;have HLt:=ag aT;clear aT;go_wp2_with fail;go_meet
   case rel=>exact⟨by have:=HLt.o;exact congrArg Value.bool (ey ae),ve.o⟩
 case rest=>
  obtain⟨rfl,eQ⟩:=hcut;have H5:=ag (HH.o.on eQ.o);have Fq:=ag (HX.o.on eQ.o);have je:=ag eQ.o;have aBL:=ag ((Pr.start HH.o).on eQ.o);clear eQ;have HPt:=ag (Lt HGc.o H5.o HC.o.fi (by have:=SY.o;omega) 1 p (.inl rfl) pU.o ⟨by have:=HC.o.sq;omega,by have:=SY.o;omega⟩ ⟨by have:=HC.o.sq;omega,by have:=HC.o.sq;have:=SY.o;omega⟩ a c pay HGh.o Fq.o Kt.o);go_wp2_with fail;go_call HPt.o as e w6 ⟨k,i,f1,g',rfl,h6,iP,rU,jg,vk,hzt⟩;have OQ:=ag (aBL.o.step h6);obtain⟨R2,hR2⟩:=aW (Up R wc w6);rw[<-hR2] at OQ;have Ve:=ag iP;have IG:=ag rU;have P8:=ag jg;have HFr:=ag vk;have HZt:=ag (λz hz=>Zi.put (z:=z) (e0:=⟨⟨1,p,f.seq,f.ep⟩,pay,k,i⟩) rU (hzt z _ hz) rfl rfl);have jr:=bA w6 (.cells #[O aa k,O aa i] 247);have S9:=ag (OQ.o.on jr);have ajF:=ag (aF.new w6 247 #[O aa k,O aa i]);have anO:=ag (OQ.o.ft.aV (bp w6));have c6:=S9.o.ft.c6;rw[show((({f1 with g:=g',seq:=f.seq+1}:Fm).F,6):Addr)=(f.F,6) from congrArg (λq=>((q,6):Addr)) iP.F] at c6;have ap6:(aI f1.no p).isSome=false:=by rw[jL iP.no];exact HAg.o
  obtain⟨b2,i2,e2⟩:=rQ (aI f1.no p);have hl7:=S9.o.ft.hN.yL (by have:=pU.o;omega) rfl e2 ap6;have ZT:=S9.o.ft.hN.uq;have HU1:=ag ZT;have HOe:=ag (show Oe ⟨⟨1,p,f.seq,f.ep⟩,pay,k,i⟩ from⟨⟨.inl rfl,pU.o,by show 1<=f.seq;have:=HC.o.sq;omega,by show f.seq<_;have:=SY.o;omega,by show 1<=f.ep;have:=HC.o.sq;omega,by show f.ep<_;have:=HC.o.sq;have:=SY.o;omega⟩,HX.o.len⟩);simp only at c6 hl7;have ny:=(aE _ _).alloc (bp (w6.alloc (.cells #[O aa k,O aa i] 247)).heap.size) (.cells #[O aa b2,O aa i2] 247);have DR:=ag (S9.o.on ny);have Vd:=ag (ajF.o.ah ny);have VI:=ag (aF.new (w6.alloc (.cells #[O aa k,O aa i] 247)) 247 #[O aa b2,O aa i2]);have Jq:=ag ap6;have HE2:=ag e2;clear h6 iP rU jg vk hzt jr ny hR2 ap6 e2 ZT;go_upto_region 15 with fail;obtain⟨T10,ap8⟩:=aW w6.heap.size;have HTe:=ag ap8;obtain⟨W8,Wu⟩:∃W8,W8=(w6.alloc (.cells #[O aa k,O aa i] 247)).alloc (.cells #[O aa b2,O aa i2] 247):=⟨_,rfl⟩
  have VI:Hid (aF W8 (w6.heap.size+1) 247 #[O aa b2,O aa i2]):=by rw[Wu];have:=VI;rw[bR] at this;exact this
  rw[<-Wu] at DR Vd⊢;rw[<-ap8] at Vd anO VI⊢;clear ap8 Wu c6 hl7
  ·-- no older one
   have hno:aI f1.no p=none:=by have:=Jq.o;cases hg:aI f1.no p with|none=>rfl|some e=>rw[hg] at this;cases this
   obtain⟨f3,FP⟩:∃f3,f3=({f1 with g:=g',seq:=f.seq+1}:Fm):=⟨_,rfl⟩
   have HF3:=ag (show f3.F=f.F by rw[FP];exact Ve.o.F);have DT:=ag (show f3.tx=f1.tx/\f3.se=f1.se/\(dA f3.no ⟨⟨1,p,f.seq,f.ep⟩,pay,k,i⟩=dA f1.no ⟨⟨1,p,f.seq,f.ep⟩,pay,k,i⟩)/\kQ f3.go p=kQ f1.go p/\f3.ep=f1.ep/\f3.ov=f1.ov by rw[FP];exact⟨rfl,rfl,rfl,rfl,rfl,rfl⟩);have aBN:=ag (show f3.seq=f.seq+1 by rw[FP]);have aBO:=ag (show f3.g.C=f.g.C by rw[FP];exact IG.o.C.trans Ve.o.C);have avg:=ag (show f3.g.gh=f.g.gh by rw[FP];exact IG.o.gh.trans Ve.o.gh);have avh:=ag (show 3<=qn f3.g by rw[FP];exact HFr.o);have akX:=ag (show∀z,Zi NB z f.g (f.se++f.no) f.seq->Zi NB z f3.g (f1.se++dA f1.no ⟨⟨1,p,f.seq,f.ep⟩,pay,k,i⟩) (f.seq+1) by rw[FP];exact HZt.o);have avi:=ag (show Fi NB (100000*f.seq+1000) [] f3.g (f1.se++dA f1.no ⟨⟨1,p,f.seq,f.ep⟩,pay,k,i⟩) by rw[FP];refine P8.o.add IG.o.gp HOe.o ?_;rw[o7 λx hx=>kJ hno x hx,<-cQ];exact(List.perm_append_comm (l₁:=f1.se++f1.no)));have kN:Hid (Pr NB B R w R2 W8 f3):=by rw[FP];exact DR
   have agv:=Vd;have HTn:=anO;clear hno FP DR Vd;generalize W8=oH at*;have hF3:f3.F=f.F:=HF3.o;have WM:=kN.o.ft.on (ak oH);have hpn:=WM.ap9 ⟨⟨1,p,f.seq,f.ep⟩,pay,k,i⟩ (by show p<_;have:=pU.o;omega);obtain⟨OT,bF,Lu,LC⟩:=hpn;have bF:(Instr.mapUpdate 222 (.map (some f3.NO)) (O .u32 p) (.agg #[O aa k,O aa i])).run prog oH.drew= .ok () (setBlock oH.drew f3.NO OT):=bF;have qo:=ag ((kN.o.on (ak oH)).same Lu LC);have DU:oH.drew.cell? (f.F,6)=some (.map (some f3.NO))/\oH.drew.cell? (T10,0)=some (O aa k)/\oH.drew.cell? (T10,1)=some (O aa i):=by refine⟨by rw[<-hF3];exact WM.c6,agv.o.drew.aj (i:=0) rfl,agv.o.drew.aj (i:=1) rfl⟩
   have LD:(setBlock oH.drew f3.NO OT).cell? (f.F,6)=some (.map (some f3.NO))/\(setBlock oH.drew f3.NO OT).cell? (T10,0)=some (O aa k)/\(setBlock oH.drew f3.NO OT).cell? (T10,1)=some (O aa i):=by have hT:=agv.o.drew.kq LC HTn.o;exact⟨by rw[<-hF3];exact Lu.c6,hT.aj (i:=0) rfl,hT.aj (i:=1) rfl⟩
   have IB:=ag DU;have ZU:=ag LD;clear WM Lu LC DU LD;go_upto_region 17 with fail;refine iE (λW'=>W'.cell? (f.F,6)=some (.map (some f3.NO))/\W'.cell? (T10,0)=some (O aa k)/\W'.cell? (T10,1)=some (O aa i)) IB.o (λaY=>?_);refine dw 0 f.F 0 ?_;refine dw 1 f.F 0 ?_;refine aS 2 f.F 6 ?_;refine jE 3 (.map (some f3.NO)) rfl (λ_ aK=>by obtain⟨y7,y8,y9⟩:=aK;go_simp) ?_;refine dG 4 (O .u32 p) ?_;refine jE 5 (.agg #[O aa k,O aa i]) rfl (λ_ aK=>by obtain⟨y7,y8,y9⟩:=aK;go_simp) ?_;refine bY 6 (λK' hK=>?_);go_simp;refine hK.out _ _ ZU.o (λZG=>?_);refine eH ?_;clear bF aY ZG;obtain⟨W11,WN⟩:=aW (setBlock oH.drew f3.NO OT);rw[<-WN] at qo⊢;clear WN;have ZP:=qo.o.ft.aqa (p:=p) (by have:=pU.o;omega);have c7:=qo.o.ft.c7;rw[show((({f3 with no:=dA f3.no ⟨⟨1,p,f.seq,f.ep⟩,pay,k,i⟩}:Fm).F,7):Addr)=(f.F,7) from congrArg (λq=>((q,7):Addr)) hF3] at c7;have c7:W11.cell? (f.F,7)=some (.map (some f3.GO)):=c7;have avl:=λty=>ZP ty;obtain⟨o12,rV,LG,vI⟩:=ZP 0;have LH:=ag (qo.o.same LG vI);have rV:∀ty,(Builtin.delete_ #[222,64] ty #[.map (some f3.GO),O .u32 p]).run prog W11= .ok (ao #[]) (setBlock W11 f3.GO o12):=λty=>rV;clear ZP avl LG vI hF3;go_wp2_with fail;go_ret;exact⟨rfl,_,LH.o.fin gX,wrd HC.o Ve.o HU1.o sV.o avi.o ae avh.o akX.o (by have:=HFu.o;exact this) aBO.o avg.o (HF3.o.trans Ve.o.F.symm) DT.o.1 DT.o.2.1 DT.o.2.2.1 DT.o.2.2.2.1 aBN.o DT.o.2.2.2.2.1 DT.o.2.2.2.2.2⟩
end
end Go.Proofs.YtnieckfelfoopaaGreat
namespace Go.Proofs.YtnieckfelfoopaaGreat
open RowKit Maps ChangeMaps fG dY
def Ps.clean (s:Ps):={s with dy:=λ_=>False}
section
variable {NB B P U D:Nat} {R R2 Q:Nat->Prop} {w W:World} {f f':Fm} {s:Ps} {dl:List Dp} {L:List Nat} {tx:List UInt8}
theorem yu.bf (h:yu NB B R w P U D dl f s) (h2:∀q,Hp P U D R dl q->Q q) (h3:∀q,Q q->B<=q/\q<w) (hp:Pr NB B R w R2 W f') {f1} (hF1:f1.F=f.F) (hv1:∀n,s.There n->vw f1 n=vw f n) (hc:CmD NB f1 L s.g tx f') (hL:L.Perm (dl.map Dp.n)):
  kF NB B Q w ((W.alloc (.map #[] 0)).setCell (P,7) (.map (some W))) P f' s.clean:=by
 have hs:=hp.kq.size;have hPl:=h.hP.lt;have hUl:=h.hU.lt;have mf:=bA W (.map #[] 0);have hst:Kq (λq=>q=P) (W.alloc (.map #[] 0)) ((W.alloc (.map #[] 0)).setCell (P,7) (.map (some W))):=Kq.one (P,7) _;have hnP:¬R2 P:=λhr=>by
  rcases hp.up P hr with h1|h1
  ·exact h.nr.1 h1
  ·omega
 have hnU:¬R2 U:=λhr=>by
  rcases hp.up U hr with h1|h1
  ·exact h.nr.2.1 h1
  ·omega
 have hnD:¬R2 W.heap.size:=λhr=>by
  rcases hp.up _ hr with h1|h1
  ·have:=(h3 _ (h2 _ (.inr (.inr (.inr (.inl h1)))))).2;omega
  ·omega
 have hR2:∀q,R2 q->q<W.heap.size:=λq hq=>(hp.ft.bnd q hq).2;have hkw:Kq Q w ((W.alloc (.map #[] 0)).setCell (P,7) (.map (some W))):=
  ((hp.kq.mono λq hq=>h2 q (.inr (.inr (.inr (.inl hq))))).on mf).aA hst λq e=> .inl (e▸h2 P (.inl rfl))
 refine⟨⟨U,W.heap.size,[],R2,⟨?_,?_,?_,?_,hc.fc,⟨h.ok.us,h.ok.nd,h.ok.sz,h.ok.no⟩,h.bd,(λd hd=>by cases hd),(λd hd=>by cases hd),λn hn=>?_,⟨h.ne.1,ae,ae⟩,⟨hnP,hnU,hnD⟩,(λd hd=>by cases hd),λn=>⟨λh=>h.elim,λh=>by cases h⟩⟩,λq hq=>?_,λq hq=>?_⟩,hkw⟩
 ·have h1:=(((h.hP.kq hp.kq h.nr.1).ah mf).set 7 (.map (some W)))
  rw[hc.F,hF1];exact h1
 ·exact h.hU.same ((hst.block U (by simp;omega) (λe=>h.ne.1 e.symm)).trans ((mf.block U ae).trans (hp.kq.block U hUl h.nr.2.1)))
 ·exact cZ.same (cZ.made W) (hst.block W au ae)
 ·exact(hp.ft.on mf).kq hst λq hq e=>hnP (e▸hq)
 ·show s.g n=EL f' [] n;have Gx:n≠0:=by
   rcases hn with h1|h1
   ·omega
   ·have:=(h.ok.us n h1).1;omega
  have hv:=hc.vw n Gx;have hg:=h.g n hn;have he:EL f' [] n=match vw f' n with|some y=>y.2|none=>zeros:=rfl
  rw[he];by_cases hm:n∈L
  ·grind
  ·rw[eo hm] at hv;rw[hv,hv1 n hn,hg];unfold EL;rw[Enc.Ju λd hd e=>hm (hL.mem_iff.2 (bw.2 ⟨d,hd,e⟩))]<;>rfl
 ·rcases hq with e|e|e|e|⟨d,hd,_⟩
  ·exact .inl (h2 q (.inl e))
  ·exact .inl (h2 q (.inr (.inl e)))
  ·rw[e];exact .inr ⟨hs,au⟩
  ·rcases hp.up q e with h1|h1
   ·exact .inl (h2 q (.inr (.inr (.inr (.inl h1)))))
   ·exact .inr ⟨h1.1,by have:=h1.2;simp;omega⟩
  ·cases hd
 ·have h0:=h3 P (h2 P (.inl rfl));rcases hq with e|e
  ·have:=h3 q e;have:=hkw.size;omega
  ·exact⟨ae,e.2⟩
theorem yu.drop {f1} (h:yu NB B R w P U D dl f s) (hp:Pr NB B R w R W f1) (hF:f1.F=f.F) (hc:Fc NB f1) (hv:∀n,s.There n->vw f1 n=vw f n):yu NB B R W P U D dl f1 s:=by
 refine⟨?_,h.hU.same (hp.kq.block _ h.hU.lt h.nr.2.1),h.hD.same (hp.kq.block _ h.hD.lt h.nr.2.2),hp.ft,hc,h.ok,h.bd,h.dt,λd hd=>(h.ow d hd).kq hp.kq λq hq=>(h.nu d hd q hq).2.2.2,λn hn=>?_,h.ne,h.nr,h.nu,h.dy⟩
 ·rw[hF];exact h.hP.kq hp.kq h.nr.1
 ·rw[h.g n hn];unfold EL;rw[hv n hn]
structure CmW NB B R w f Ln g (v:Value) k W:Prop where
 ex:∃fk R2,Pr NB B R w R2 W fk/\ZR NB f Ln g k fk/\∀q,v.ownBlock=some q->¬R2 q
 o:Own encZ 3 W w v (Ln.map λn:Nat=>n)
theorem agw (hD:cZ uC prog 3 w D dl) {d} (hd:d∈dl) (h9:d.n<4294967296):(Instr.lookup 153 (.map (some D)) (O aa d.n) false).run prog w= .ok d.v w:=by have h1:=hD.look (p:=d.n) fG.xQ Tryz.underlying153 (agx w) (fG.IZ h9) false;have h2:uC.get dl d.n=some d:=Enc.Fg hD.uq hd;rw[h2] at h1;exact h1
theorem xP {a c} (h:bZ NB B Q w P f s) (hLn:L.Nodup) (hd:∀n,s.dy n↔n∈L) (hno:f.no=[]) (hgo:f.go=[]) (wZ:∃x,aI f.se 0=some x/\x.t.s+1=f.seq) (hN:16<=NB) (OM:L.length<=6) (Ja:f.se.length<=10) (ER:f.seq<=170) (hky:∀q,(aI f.se q).isSome=true->q+2<(NB-3)*8/\q<8192)
  (hg:∀q sq,q∈L->f.seq<=sq->sq<f.seq+L.length->f.g.gh (Tg.page ⟨1,q,sq,f.ep⟩ (s.g q))) (hgs:f.g.gh (Tg.page ⟨2,0,f.seq+L.length,f.ep⟩ (ig tx))) (hx:Bytes w w a 56 tx) (hxQ:∀b o,a=some ⟨b,o,none⟩->¬Q b):
  Calls prog 84 #[P,an a 56 c] w λe w'=>e=ar (O aa 0)/\∃f1 f',kF NB B Q w w' P f' s.clean/\RX NB f f1 (λq=>q≠0/\(jw f q).isSome=true/\¬s.There q)/\CmD NB f1 L s.g tx f':=by
 obtain⟨U,D,dl,R,h1,h2,h3⟩:=id h;have yM:L.Perm (dl.map Dp.n):=(List.perm_ext_iff_of_nodup hLn h1.hD.uq).2 λn=>by
  rw[<-hd,h1.dy];constructor
  ·intro hs
   cases hz:uC.get dl n with
   |none=>rw[hz] at hs;cases hs
   |some d=>obtain⟨hm,hk⟩:=Enc.get_mem hz;exact bw.2 ⟨d,hm,hk⟩
  ·intro hm;obtain⟨d,EY,rfl⟩:=bw.1 hm;have this:uC.get dl d.n=some d:=Enc.Fg h1.hD.uq EY;show(uC.get dl d.n).isSome=true;rw[this];rfl
 have HPm:=ag yM;have HH:=ag h;have HC:=ag h1;have H2:=ag h2;have H3:=ag h3;have HNo:=ag hno;have HGo:=ag hgo;have UQ:=ag wZ;have avn:=ag hN;have NH:=ag OM;have OU:=ag Ja;have SY:=ag ER;have HKy:=ag hky;have DN:∃K:List Nat,K.length<=12/\∀q,q≠0->(jw f q).isSome=true->q∈K:=⟨f.se.map λe=>e.t.p,by rw[bO];omega,λq _ hq=>by unfold jw at hq;rw[hno,hgo] at hq;exact dK.1 hq⟩
 have HG:=ag hg;have HGs:=ag hgs;have HX:=ag hx;have HXR:=ag (show∀b o,a=some ⟨b,o,none⟩->¬R b/\b<w.heap.size from λb o e=>⟨λh=>hxQ b o e (h2 b (.inr (.inr (.inr (.inl h))))),by obtain⟨b',o',e',aT,_⟩:=hx.2.2 ae;rw[e] at e';injection e' with e';injection e' with e';omega⟩);have c5:=h.c5;have c0:=h.c0;have HBp:=ag (aF.new w 151 #[.pointer (some ⟨f.F,0,none⟩)]);have mf:=bA w (.cells #[.pointer (some ⟨f.F,0,none⟩)] 151);have HCo:=ag (yN (enters_of Tryz.func197 az rfl) ae (ZO (h1.hf.on mf) HBp.o DN) (λq hq=>by
  rcases hq with rfl|hq
  ·exact HBp.o.lt
  ·have:=(h1.hf.bnd q hq).2;have:=mf.size;omega))
 have bV:=ag mf;clear h h1 h2 h3 yM hLn hd hno hgo wZ hN OM Ja ER hky DN hg hgs hx hxQ mf
 go_in
 go_wp2_with fail;refine(akT f.F w).mono ?_;rintro e w_ ⟨rfl,rfl⟩;go_wp2_with fail;go_call HCo.o as e W2 ⟨⟨v,ss,rfl,hS,ho⟩,aZ⟩;obtain⟨a2,c2,rfl,_⟩:=ho.bG rfl;have HS:=ag hS;have df:=ag (bV.o.aA aZ);have tJ:=ag ho;clear hS aZ ho c0 c5 HCo bV HBp;go_wp2_with fail
 go_loopw [6,7,29] (λ_ _ v29 wr=>∃k:Nat,v29=O aa k/\k<=ss.length/\Hid (∃f1,Pr NB B R w R wr f1/\RX NB f f1 λq=>q∈ss.take k/\¬s.There q)/\Hid (Own lY 64 wr w (an a2 ss.length c2) ss)) (λ_ _ v29 _=>ss.length-(intOf v29).toNat)
 case atStart=>exact⟨0,rfl,bN _,ag ⟨f,(Pr.start HC.o.hf).on df.o,(RX.start HC.o.fc HGo.o).VN λq=>⟨λh=>h.elim,λh=>by cases h.1⟩⟩,ag (tJ.o.mono au)⟩
 case round=>
  obtain⟨k,rfl,hk,HD,HO⟩:=hrel;clear df tJ;have Qm:=HS.o.1;obtain⟨f1,OV,hdp⟩:=HD.o;have ZV:=ag OV;have HDp:=ag hdp;have ZW:=ag (show f1.F=f.F by rw[hdp.eq]);have ZX:=ag (show f1.se=f.se by rw[hdp.eq]);have aqb:=ag (show f1.no=[] by rw[hdp.eq];exact HNo.o);have avp:=ag (show∀n,s.There n->vw f1 n=vw f n from λn hn=>by unfold vw;rw[hdp.cur HNo.o HGo.o n λh=>h.2 hn]);have JF:=ag (HC.o.drop OV ZW.o hdp.fc avp.o);have hbQ:∀q,Q q->B<=q/\q<wr.heap.size:=λq hq=>⟨(H3.o q hq).1,cM (H3.o q hq).2 OV.kq.size⟩
  have aqc:=ag (show bZ NB B Q wr P f1 s from⟨U,D,dl,R,JF.o,H2.o,hbQ⟩);have c5:=aqc.o.c0;rw[ZW.o] at c5;clear OV hdp HD hbQ;by_cases aT:k<ss.length
  ·obtain⟨g,o1,fO,rfl,Wh,BO⟩:=(HO.o.arr ae).YJ aT;have hm:=(HS.o.2 ss[k]).1 (cS fO);obtain⟨q,hq⟩:=aW (ss[k]);have htk:ss.take (k+1)=ss.take k++[q]:=by rw[hq];exact ei fO
   rw[<-hq] at BO hm;obtain⟨YN,hqc⟩:=hm;have hqs:∃e0,aI f.se q=some e0:=by
    unfold jw at hqc;rw[HNo.o,HGo.o] at hqc;have hqc:(aI f.se q).isSome=true:=hqc
    cases hz:aI f.se q with
    |none=>rw[hz] at hqc;cases hqc
    |some e=>exact⟨e,rfl⟩
   obtain⟨e0,Ff⟩:=hqs;have hqb:=HKy.o q (by rw[Ff];rfl);unfold lY at BO;have g1:(k:Int)<(ss.length:Int):=ae;have g0:(0:Int)<=(k:Int):=ae;have g2:=bq ((k:Int)+1) ⟨ae,ae⟩;have g3:=bq (q:Int) ⟨ae,ae⟩;have HTk:=ag htk;have HE0:=ag Ff;have HQb:=ag hqb;have HQ0:=ag YN;clear hq YN hqc Ff hqb htk Wh;by_cases Az:s.There q
   ·have EP:=ag (xq aqc.o Az (by have:=HQb.o;omega));have HDn:=ag (HDp.o.VN (K':=λx=>x∈ss.take (k+1)/\¬s.There x) λx=>by
     rw[HTk.o,cv,cG];constructor
     ·rintro⟨h1,h2⟩;exact⟨.inl h1,h2⟩
     ·rintro⟨h1|rfl,h2⟩
      ·exact⟨h1,h2⟩
      ·exact absurd Az h2)
    clear Az;go_wp2_with fail;refine EP.o.mono ?_;rintro e w_ ⟨rfl,rfl⟩;go_wp2;go_roundw
    case rel=>exact⟨k+1,by go_num,ae,ag ⟨f1,ZV.o,HDn.o⟩,HO⟩
    case measure=>simp[intOf];omega
   ·have hus:¬q∈s.us:=λh=>Az (.inr h);have htb:s.tb<q:=by
     rcases Nat.lt_or_ge s.tb q with h|h
     ·exact h
     ·exact absurd (.inl ⟨by have:=HQ0.o;omega,h⟩) Az
    have EP:=ag (show Calls prog 143 #[P,O aa q] wr λe w'=>e=ar (aq false)/\wr=w' from by have h:=yO aqc.o htb (by have:=HQb.o;omega);rw[ey hus] at h;exact h);have Lr:=ag (Tc ZV.o.ft HDp.o.fc q (by have:=HQ0.o;omega) HQb.o.1 HQb.o.2 (by rw[aqb.o];rfl) e0 (by rw[ZX.o];exact HE0.o));rw[ZW.o] at Lr;have UU:=(dW HE0.o).2;have HDn:=ag (HDp.o.step (K':=λx=>x∈ss.take (k+1)/\¬s.There x) (e0:=e0) ZV.o.ft.hG.uq (by rw[UU];have:=HQ0.o;omega) (by rw[UU];exact HE0.o) λx=>by
     rw[HTk.o,cv,cG,UU];constructor
     ·rintro⟨h1|rfl,h2⟩
      ·exact .inr ⟨h1,h2⟩
      ·exact .inl rfl
     ·rintro(rfl|⟨h1,h2⟩)
      ·exact⟨.inr rfl,Az⟩
      ·exact⟨.inl h1,h2⟩)
    clear Az hus htb UU;go_wp2_with fail;refine EP.o.mono ?_;rintro e w_ ⟨rfl,rfl⟩;go_wp2_with fail;go_call Lr.o as e W3 ⟨rfl,GK,mr⟩;have Ag:=ag (ZV.o.same GK mr);rw[<-ZW.o] at Ag;have tN:=ag (HO.o.kq mr λx hx h=>by have:=(HO.o.aN x hx).1;have:=(HC.o.hf.bnd x h).2;omega);clear GK mr c5;go_wp2;go_roundw
    case rel=>exact⟨k+1,by go_num,ae,ag ⟨_,Ag.o,HDn.o⟩,tN⟩
    case measure=>simp[intOf];omega
  ·obtain rfl:k=ss.length:=ae;clear aT hk HO c5;have avr:=ag (HDp.o.VN (K':=λq=>q≠0/\(jw f q).isSome=true/\¬s.There q) λq=>by rw[List.take_length,HS.o.2 q];exact⟨λh=>⟨h.1.1,h.1.2,h.2⟩,λh=>⟨⟨h.1,h.2.1⟩,h.2.2⟩⟩);have Jq:=ag (show f1.g=f.g/\f1.seq=f.seq/\f1.ep=f.ep by rw[HDp.o.eq];exact⟨rfl,rfl,rfl⟩);have c7:=JF.o.hP.aj (i:=7) (v:= .map (some D)) rfl;have hDr:=JF.o.hD;have Lr:=ag hDr;have gX:=ag ZV.o.kq.size;have mf:=bA wr (.cells #[.map (some D)] 153);have iH:=ag (aF.new wr 153 #[.map (some D)]);have cO:=ag mf;have HSo:=ag (Ba (enters_of Tryz.func205 az rfl) (by rw[bO];have:=HPm.o.length_eq;rw[bO] at this;have:=NH.o;omega) (WO (enc:=encZ) (dec:=λv=>match v with| .int _ a=>a|_=>0) iH.o (MapAt.on hDr mf) (λ_=>rfl) (λp hp=>by obtain⟨x,_,rfl⟩:=bw.1 hp;exact⟨(x.n:Int),rfl⟩)));clear hDr mf;go_wp2_with fail;refine(WQ (some D) wr).mono ?_;rintro e w_ ⟨rfl,rfl⟩;go_wp2_with fail;go_call HSo.o as e W5 ⟨v5,s5,rfl,YT,Y8,eQ,_⟩;obtain⟨Ln,hLe,hLp⟩:=SV (dl:=dl) (ss:=s5) (by rw[cW] at YT;exact YT);rw[hLe] at Y8;obtain⟨m,hm⟩:=aW Ln.length;obtain⟨a5,c5',rfl,_⟩:=Y8.bG (n:=m) (by rw[bO,hm]);have HM:=ag hm;have HLp:=ag hLp;have je:=ag (cO.o.aA eQ);have SA:=ag (show CmW NB B R w f1 Ln s.g (an a5 m c5') 0 W5 from⟨⟨f1,R,ZV.o.on je.o,ZR.start avr.o.fc aqb.o (by rw[ZX.o];obtain⟨x,hx,_⟩:=UQ.o;rw[hx];rfl),λq hq=>ZV.o.ft.aV (by have:=(Y8.aN q hq).1;have:=cO.o.size;omega)⟩,Y8.mono (bB gX.o cO.o.size)⟩);clear YT Y8 eQ hLe hLp hm c7 HSo iH cO Lr Qm;go_wp2_with fail
   go_loopw [9,10,54] (λ_ _ v54 wq=>∃k:Nat,v54=O aa k/\k<=m/\Hid (CmW NB B R w f1 Ln s.g (an a5 m c5') k wq)) (λ_ _ v54 _=>m-(intOf v54).toNat)
   case atStart=>exact⟨0,rfl,bN _,SA⟩
   case round=>
    obtain⟨k,rfl,hk,HW⟩:=hrel;clear SA je;obtain⟨⟨fk,R2,OV,hcm,hnr⟩,ho⟩:=id HW.o;have EU:=ag OV;have FD:=ag hcm;have HNr:=ag hnr;have HO:=ag ho;have Gz:m<=1000000:=by have h1:=HLp.o.length_eq;have h2:=HPm.o.length_eq;have h3:=NH.o;have h4:=HM.o;omega
    have HML:=ag Gz;have hPn:aF wr P 155 (Jc f.F U D s):=HC.o.hP.kq OV.kq HC.o.nr.1;have HPq:=ag hPn;have HDq:=ag (show cZ uC prog 3 wr D dl from HC.o.hD.same (OV.kq.block D HC.o.hD.lt HC.o.nr.2.2));clear OV hcm hnr ho hPn HW;by_cases aT:k<m
    ·have hkL:k<Ln.length:=by rw[<-HM.o];exact aT
     obtain⟨d,hd,hdn⟩:=bw.1 (HLp.o.mem_iff.1 (cS hkL));have HDm:=ag hd;have HDn:=ag (show∃h:k<Ln.length,d.n=Ln[k] from⟨hkL,hdn⟩);have Az:=HC.o.dt d hd;have nJ:=DV HH.o Az;have aBW:=ag Az;have sW:=ag nJ;have how:=HC.o.ow d hd;have hdx:d.x=s.g d.n:=by rw[HC.o.g d.n Az];unfold EL;have this:uC.get dl d.n=some d:=Enc.Fg HC.o.hD.uq hd;rw[this]
     have hlen:d.x.length=64:=by rw[hdx];exact HH.o.ok.sz d.n Az
     obtain⟨a7,c7,hv7,_⟩:=how.bG hlen;have HV7:=ag hv7;have HDx:=ag hdx;have hnu:=HC.o.nu d hd;have nY:=ag (show∀b o,a7=some ⟨b,o,none⟩->¬R b/\b<w.heap.size from λb o e=>by
      have e1:d.v.ownBlock=some b:=by rw[hv7,e];rfl
      exact⟨(hnu b e1).2.2.2,(how.aN b e1).2⟩)
     have uB:=ag (show Own aJ 5 wr 0 (an a7 64 c7) (s.g d.n) from by rw[<-hv7,<-hdx];exact how.kq EU.o.kq λq e=>(hnu q e).2.2.2);have Aw:=ag (show∀b o,a7=some ⟨b,o,none⟩->¬R2 b from λb o e h=>by
      rcases EU.o.up b h with h1|h1
      ·exact(nY.o b o e).1 h1
      ·have:=(nY.o b o e).2;omega)
     obtain⟨g5,o5,KJ,rfl,aBX,Y7⟩:=(HO.o.arr (by rw[bO,<-HM.o];omega)).YJ (k:=k) aT;rw[List.getElem_map,<-hdn] at Y7;have g1:(k:Int)<(m:Int):=ae;have g0:(0:Int)<=(k:Int):=ae;have g2:=bq ((k:Int)+1) ⟨ae,ae⟩;have g3:=IntWalk.u32_in (d.n:Int) ⟨ae,ae⟩;have HKm:=ag aT;clear hd hdn Az nJ how hdx hlen hnu aBX KJ hkL aT hv7;have Oj:=ag (show∀W,Below wr wr W->Calls prog 147 #[f.F,O .u32 d.n,an a7 64 c7] W λe w'=>e=ar (O aa 0)/\∃f2,oq NB B R2 W w' f2/\ZR NB f1 Ln s.g (k+1) f2 from λW hW=>by
      have hpW:=EU.o.on hW;have hl:=HPm.o.length_eq;have CV:=HLp.o.length_eq;rw[bO] at hl CV;have hfu:=FD.o.len;rw[aqb.o,cC,ZX.o] at hfu;have OM:=NH.o;have Ja:=OU.o;have hN:=avn.o;obtain⟨qP,nH,hg3⟩:=Jq.o;obtain⟨hkl,hdn⟩:=HDn.o;have hkm:=HKm.o;have aJB:=HC.o.bd;have hbn:=sW.o;have hu:Ln.Nodup:=HLp.o.nodup_iff.2 HC.o.hD.uq;have h:=SX (FD.o.gcs (by rw[ZX.o,nH];obtain⟨x,hx,h2⟩:=UQ.o;exact⟨x,(dW hx).1,h2⟩) ae (by rw[ZX.o];exact Ja) hN (by rw[nH];exact SY.o)) hpW.ft FD.o.fc d.n (by
       cases hz:(aI fk.no d.n).isSome with
       |false=>rfl
       |true=>
        have:=FD.o.no _ hz;rw[hdn] at this;obtain⟨i,hi,e⟩:=List.mem_iff_getElem.1 this;rw[cI] at hi;rw[List.getElem_take] at e;exact(List.pairwise_iff_getElem.1 hu i k ae hkl ae e).elim) ae ae ae (.inr ae) (by rw[FD.o.seq,nH];have:=SY.o;omega) a7 c7 (s.g d.n) (by
       rw[FD.o.gh,FD.o.ep,FD.o.seq,qP,nH,hg3];exact HG.o d.n _ (HPm.o.mem_iff.2 (bw.2 ⟨d,HDm.o,rfl⟩)) ae ae) ((uB.o.on hW).arr (by rw[HH.o.ok.sz d.n aBW.o];decide)) Aw.o
      rw[FD.o.F,ZW.o] at h;refine h.mono ?_;rintro e w' ⟨rfl,f2,hr,hw⟩;refine⟨rfl,f2,hr,FD.o.step hu hkl hr.1.hN.uq ?_⟩;have e1:Ln[k]=d.n:=hdn.symm;rw[e1];exact hw)
     go_upto_region 16 with fail;have gZ:=ag (show Below wr wr wr.drew from ak wr);have iO:=ag (λW (h1:aF W P 155 (Jc f.F U D s)) (h2:cZ uC prog 3 W D dl)=>cJ h1 h2);refine iE (λW'=>aF W' P 155 (Jc f.F U D s)/\cZ uC prog 3 W' D dl) (iO.o _ (HPq.o.ah gZ.o) (HDq.o.on gZ.o)) (λaY=>?_);generalize wr.drew=Wd at*;refine dw 0 P 0 ?_;refine aS 1 P 0 ?_;refine aS 2 P 0 ?_;refine kS 3 (.pointer (some ⟨f.F,0,none⟩)) (λ_ aK=>aK.1.aj (i:=0) (v:= .pointer (some ⟨f.F,0,none⟩)) rfl) ?_;refine dI 4 (d.n:Int) ?_;refine eX 5 (O .u32 d.n) ?_;refine dw 6 P 0 ?_;refine aS 7 P 0 ?_;refine aS 8 P 7 ?_;refine kS 9 (.map (some D)) (λ_ aK=>aK.1.aj (i:=7) (v:= .map (some D)) rfl) ?_;refine dI 10 (d.n:Int) ?_;refine jE 11 (an a7 64 c7) rfl (λ_ aK=>by(have y9:=agw aK.2 HDm.o (by have:=sW.o;omega);rw[HV7.o] at y9);go_simp) ?_;refine bY 12 (λK' hK=>?_);go_simp;go_call(Oj.o Wd gZ.o) as e W8 ⟨rfl,f8,hr8,YV⟩;have hnP:¬R2 P:=λh=>by
      rcases EU.o.up P h with h1|h1
      ·exact HC.o.nr.1 h1
      ·have:=HC.o.hP.lt;omega
     have hnD:¬R2 D:=λh=>by
      rcases EU.o.up D h with h1|h1
      ·exact HC.o.nr.2.2 h1
      ·have:=HC.o.hD.lt;omega
     have HP8:=ag ((HPq.o.ah gZ.o).kq hr8.2 hnP);have HD8:=ag (show cZ uC prog 3 W8 D dl from(HDq.o.on gZ.o).same (hr8.2.block D (HDq.o.on gZ.o).lt hnD));have hs8:=gZ.o.size;have HW8:=ag (show CmW NB B R w f1 Ln s.g (an (some ⟨g5,o5,none⟩) m c5') (k+1) W8 from⟨⟨f8,Up R2 Wd W8,(EU.o.on gZ.o).step hr8,YV,λq hq h=>by have:=(HO.o.aN q hq).2;exact HNr.o q hq (fA h ae)⟩,(HO.o.on gZ.o).kq hr8.2 λq hq=>HNr.o q hq⟩);have HKp:=ag (show k+1<=m from HKm.o);clear hr8 YV hnP hnD hs8 EU FD HNr HO HPq HDq uB Aw Oj HKm;refine hK.out _ _ (iO.o _ HP8.o HD8.o) (λhS8=>?_)
     refine dI 13 0 ?_;refine eH ?_;clear aY hS8 gZ HP8 HD8 iO;go_wp2;go_roundw
     case rel=>exact⟨k+1,by go_num,HKp.o,HW8⟩
     case measure=>have:=HKp.o;simp[intOf];omega
    ·obtain rfl:k=m:=ae;have HCk:=ag (show ZR NB f1 Ln s.g Ln.length fk from by rw[<-HM.o];exact FD.o);have hXw:=(HX.o.kq av EU.o.kq λb o e=>(HXR.o b o e).1).mono EU.o.kq.size;have Rz:=ag (show Calls prog 148 #[f.F,an a 56 c] wr λe w'=>e=ar (O aa 0)/\∃f2,oq NB B R2 wr w' f2/\CmD NB f1 Ln s.g tx f2 from by
      have hl:=HPm.o.length_eq;have CV:=HLp.o.length_eq;rw[bO] at hl CV;have hm:=HM.o;have OM:=NH.o;have Ja:=OU.o;have hN:=avn.o;obtain⟨qP,nH,hg3⟩:=Jq.o;have h:=He (FD.o.gcs (by rw[ZX.o,nH];obtain⟨x,hx,h2⟩:=UQ.o;exact⟨x,(dW hx).1,h2⟩) ae (by rw[ZX.o];exact Ja) hN (by rw[nH];exact SY.o)) EU.o.ft FD.o.fc (by rw[FD.o.seq,nH];have:=SY.o;omega) a c tx (by
       unfold vW;rw[FD.o.gh,FD.o.ep,FD.o.seq,qP,nH,hg3,hm,CV,<-hl];exact HGs.o) hXw (λb o e h=>by
       rcases EU.o.up b h with h1|h1
       ·exact(HXR.o b o e).1 h1
       ·have:=(HXR.o b o e).2;omega) (.inl FD.o.s0)
      rw[FD.o.F,ZW.o] at h;refine h.mono ?_;rintro e w' ⟨rfl,f2,hr,hsd⟩;exact⟨rfl,f2,hr,HCk.o.ave hsd⟩)
     have c0:=HPq.o.aj (i:=0) (v:= .pointer (some ⟨f.F,0,none⟩)) rfl;clear hXw aT;go_wp2_with fail;go_call Rz.o as e W9 ⟨rfl,f9,hr9,WR⟩;have HP9:=ag (EU.o.step hr9);have HC9:=ag WR;have hq:=(HC.o.hP.kq HP9.o.kq HC.o.nr.1).alloc (.map #[] 0);have hfz:=hq.frozen 7;have c7:=hq.aj (i:=7) (v:= .map (some D)) rfl;have UX:=@run_makeMap prog;have aqg:=ag (yu.bf HC.o H2.o H3.o HP9.o ZW.o avp.o HC9.o HLp.o);have HCp:=ag (HC9.o.perm (HLp.o.trans HPm.o.symm));clear hr9 WR c0 hq;go_wp2;go_ret;exact⟨rfl,f1,f9,aqg.o,avr.o,HCp.o⟩
end
end Go.Proofs.YtnieckfelfoopaaGreat

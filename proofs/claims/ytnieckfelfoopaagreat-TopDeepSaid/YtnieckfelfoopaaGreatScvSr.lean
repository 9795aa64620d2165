import Derived.Test.YtnieckfelfoopaaGreatDeeM
import Derived.Test.YtnieckfelfoopaaGreatPolCm
import Derived.Test.YtnieckfelfoopaaGreatOpnFc
import Derived.Test.YtnieckfelfoopaaGreatPolOpen
import Derived.Deep.RegionWith
open Go.Proofs.Tryz (prog)
namespace Go.Proofs.YtnieckfelfoopaaGreat
open Lib (hid)
set_option maxRecDepth 100000
set_option maxHeartbeats 16000000
section
open Go.RowKit eu
variable {NB B P T:Nat} {Q:Nat->Prop} {w w':World} {f:Fm} {s:Ps} {n:Nat}

theorem zg (w:World) (P:Nat):Calls prog 115 #[P] w λe w'=>e= .returned (.tuple #[.pointer (some ⟨w.heap.size,0,none⟩),.int .i64 0])/\oV w' w.heap.size P/\Below w.heap.size w w':=by
 have HN:=ag (show oV (w.alloc (.cells #[.pointer (some ⟨P,0,none⟩)] 150)) w.heap.size P from aF.new w _ _);have HB:=ag ((Below.refl w.heap.size w).alloc (Nat.le_refl _) (.cells #[.pointer (some ⟨P,0,none⟩)] 150))
 go_in
 go_wp2;go_ret2;exact⟨rfl,HN.o,HB.o⟩
theorem KD {m:Nat} (h:bT NB B Q w P f s) (hT:oV w T P) (qX:¬Q T) (h1:1<=m) (h2:m<=s.ino) (h3:s.ino<=100000) (h4:(m-1)/2<s.tb)
  (hF:∀j,1<=j->j<m->wB s j=0/\(ind s j).k≠0) (hM:wB s m=0/\(ind s m).k=0):
  Calls prog 151 #[T] w λe w'=>e= .returned (.int .i64 m)/\bT NB B Q w' P f s/\Kq Q w w':=by
 have HP:=ag h;have HT:=ag hT;have Fh:=ag qX;have HI:=ag (show∀(W:World) (j:Nat),bT NB B Q W P f s->oV W T P->1<=j->j<=m->Calls prog 79 #[T,.int .i64 j] W λe w'=>e= .returned (.tuple #[rq (ind s j),.int .i64 0])/\bT NB B Q w' P f s/\Kq Q W w' from λW j hW hT ZL UU=>by
  have h:=jC hW hT ZL ae h3 (n:=j) ae;have he:wB s j=0:=by
   by_cases e:j=m
   ·rw[e];exact hM.1
   ·exact(hF j ZL ae).1
  rw[he] at h;exact h)
 have HF:=ag hF;have HM:=ag hM;have HB:=ag (show m<=s.ino/\s.ino<=100000 from⟨h2,h3⟩);have qf:=ajb (.int .i64 (s.tb:Int)) (.int .i64 ((s.tb:Int)+1)) (.int .i64 (s.np:Int)) (.int .i64 (s.ino:Int));clear h hT qX hF hM h2 h3 h4
 go_in
 go_wp2_with fail
 go_loopw [3,4,5] (λv3 _ _ wr=>∃j:Nat,v3= .int .i64 j/\1<=j/\j<=m/\Hid (bT NB B Q wr P f s)/\Hid (Kq Q w wr)) (λv3 _ _ _=>m-(intOf v3).toNat)
 case atStart=>exact⟨1,rfl,Nat.le_refl _,h1,HP,ag (Kq.refl _ _)⟩
 case round=>
  obtain⟨j,rfl,ZL,UU,CQ,HKr⟩:=hrel;have yE:=HB.o;have g1:(j:Int)<=(s.ino:Int):=ae;have HTr:=ag (HT.o.kq HKr.o Fh.o);have c0:=HTr.o.c0;have q9:=IntWalk.i64_in ((j:Int)+1) ⟨ae,ae⟩;clear yE;go_wp2_with fail;refine(oG CQ.o).mono ?_;rintro e W1 ⟨rfl,bK⟩;have uw:=ag (CQ.o.on bK);have mF:=ag (HKr.o.on bK);have Ox:=ag (HTr.o.on bK);clear bK c0;go_wp2_with fail;refine(HI.o W1 j uw.o Ox.o ZL UU).mono ?_;rintro e W2 ⟨rfl,iU,fA⟩;obtain⟨r,hr⟩:=bu (ind s j);rw[<-hr];have RP:=ag hr;have HN:=ag (aF.new W2 107 #[.int .i64 0,.int .i64 0,.int .i64 0,.int .i64 0,.int .i64 0,.int .i64 0,.int .i64 0,.int .i64 0,.int .i64 0,.int .i64 0,.int .i64 0]);obtain⟨W3,JI⟩:=bu ((W2.alloc (.cells #[.int .i64 0,.int .i64 0,.int .i64 0,.int .i64 0,.int .i64 0,.int .i64 0,.int .i64 0,.int .i64 0,.int .i64 0,.int .i64 0,.int .i64 0] 107)).setRow W2.heap.size #[.int .i64 r.k,.int .i64 r.l,.int .i64 r.s,.int .i64 r.d0,.int .i64 r.d1,.int .i64 r.d2,.int .i64 r.d3,.int .i64 r.d4,.int .i64 r.d5,.int .i64 r.a,.int .i64 r.b]);have bQ:Below W2.heap.size W2 W3:=by rw[JI];exact((Below.refl _ W2).alloc (Nat.le_refl _) _).cO (Nat.le_refl _) _
  have hi3:aF W3 W2.heap.size 107 #[.int .i64 r.k,.int .i64 r.l,.int .i64 r.s,.int .i64 r.d0,.int .i64 r.d1,.int .i64 r.d2,.int .i64 r.d3,.int .i64 r.d4,.int .i64 r.d5,.int .i64 r.a,.int .i64 r.b]:=by rw[JI];exact HN.o.row _
  have y0:=hi3.aj (i:=0) (v:= .int .i64 r.k) rfl;have HW3:=ag JI;have mP:=ag (iU.on bQ);have jU:=ag ((mF.o.trans fA).on bQ);clear hr iU fA bQ hi3 JI;by_cases hjm:j<m
  ·have g2:(r.k==0)=false:=by rw[beq_eq_false_iff_ne,RP.o];exact(HF.o j ZL hjm).2
   go_wp2_with (refine aC rfl rfl _ _ _ rfl W2.heap.size #[.int .i64 r.k,.int .i64 r.l,.int .i64 r.s,.int .i64 r.d0,.int .i64 r.d1,.int .i64 r.d2,.int .i64 r.d3,.int .i64 r.d4,.int .i64 r.d5,.int .i64 r.a,.int .i64 r.b] rfl rfl 107 #[.int .i64 0,.int .i64 0,.int .i64 0,.int .i64 0,.int .i64 0,.int .i64 0,.int .i64 0,.int .i64 0,.int .i64 0,.int .i64 0,.int .i64 0] HN.o rfl dD (wP r) ?_;rw[<-HW3.o])
   go_roundw
   case rel=>exact⟨j+1,by go_num,ae,ae,mP,jU⟩
   case measure=>simp[intOf];omega
  ·obtain rfl:j=m:=ae;have g2:(r.k==0)=true:=by rw[beq_iff_eq,RP.o];exact HM.o.2
   go_wp2_with (refine aC rfl rfl _ _ _ rfl W2.heap.size #[.int .i64 r.k,.int .i64 r.l,.int .i64 r.s,.int .i64 r.d0,.int .i64 r.d1,.int .i64 r.d2,.int .i64 r.d3,.int .i64 r.d4,.int .i64 r.d5,.int .i64 r.a,.int .i64 r.b] rfl rfl 107 #[.int .i64 0,.int .i64 0,.int .i64 0,.int .i64 0,.int .i64 0,.int .i64 0,.int .i64 0,.int .i64 0,.int .i64 0,.int .i64 0,.int .i64 0] HN.o rfl dD (wP r) ?_;rw[<-HW3.o])
   go_ret;exact⟨rfl,mP.o,jU.o⟩
theorem MF {kd:Int} (hk:kd=1\/kd=2):aN.Right ⟨kd,0,0,0,0,0,0,0,0,0,0⟩:=by rw[aN.uJ (by show kd≠0;omega)];unfold aN.Used aN.OL aN.Pg;simp only;omega
theorem J6 {m:Nat} {kd:Int} (hkd:kd=1\/kd=2) (h:bT NB B Q w P f s) (hT:oV w T P) (qX:¬Q T) (h1:1<=m) (h2:m<=s.ino) (h3:s.ino<=100000) (h4:(m-1)/2<s.tb)
  (hF:∀j,1<=j->j<m->wB s j=0/\(ind s j).k≠0) (hM:wB s m=0/\(ind s m).k=0):
  Calls prog 94 #[T,.int .i64 kd] w λe w'=>e= .returned (.tuple #[.int .i64 m,.int .i64 0])/\jJ NB B Q w w' P f (dX s m ⟨kd,0,0,0,0,0,0,0,0,0,0⟩):=by
 have ZM:=ag (KD h hT qX h1 h2 h3 h4 hF hM);have oP:=ag (show∀W:World,bT NB B Q W P f s->oV W T P->Calls prog 81 #[T,.int .i64 m,rq ⟨kd,0,0,0,0,0,0,0,0,0,0⟩] W λe w'=>e= .returned (.int .i64 0)/\jJ NB B Q W w' P f (dX s m ⟨kd,0,0,0,0,0,0,0,0,0,0⟩) from λW hW hT=>lK hW hT qX h1 h2 h3 h4 _ (MF hkd));have QT:=ag h.base;have Fh:=ag qX;have HT:=ag hT;have g1:((m:Int)==0)=false:=by rw[beq_eq_false_iff_ne];omega
 have hg:kd=1\/kd=2:=hkd;clear h hT qX hF hM h1 h2 h3 h4 hkd
 go_in
 rcases hg with rfl|rfl
 all_goals
  go_wp2_with fail;refine ZM.o.mono ?_;rintro e W2 ⟨rfl,hp,hk⟩;have HP:=ag hp;have HK:=ag hk;have JK:=ag (HT.o.kq hk Fh.o);clear hp hk;go_wp2_with fail;refine(oP.o W2 HP.o JK.o).mono ?_;rintro e W3 ⟨rfl,oq⟩;have mP:=ag (jJ.behind HK.o oq QT.o);clear oq;go_wp2;go_ret2;exact⟨rfl,mP.o⟩
end
section
open eu zJ

namespace jZ
def zN:aN:=⟨0,0,0,0,0,0,0,0,0,0,0⟩
def Tb (s:Ps) (I:Nat->aN):Prop:=∀n,1<=n->n<=20->ind s n=I n/\wB s n=0
def JC (I:Nat->aN) (n:Nat) (i:aN):Nat->aN:=λm=>if m=n then i else I m
def JV (X:Nat->List UInt8) (n:Nat) (x:List UInt8):Nat->List UInt8:=λm=>if m=n then x else X m
structure Pg (k:Nat) (X:Nat->List UInt8) (s:Ps):Prop where
 tb:s.tb=10
 np:s.np=156
 ino:s.ino=20
 ok:s.Ok
 us:∀p,p∈s.us↔11<=p/\p<11+k
 pg:∀j,j<k->(X j).length<=64/\s.g (11+j)=pad (X j)
 no:∀j,k<=j->X j=[]
variable {s:Ps} {k n j:Nat} {X:Nat->List UInt8} {I:Nat->aN} {sl:List UInt8} {i:aN}
theorem Pg.len (h:Pg k X s):s.us.length=k:=by
 have h1:=Ps.x8 (l:=s.us) (l':=(List.range k).map (11+·)) h.ok.nd λx hx=>by have:=(h.us x).1 hx;exact List.mem_map.2 ⟨x-11,List.mem_range.2 ae,ae⟩
 have h2:=Ps.x8 (l:=(List.range k).map (11+·)) (l':=s.us) (by
  unfold List.Nodup;rw[List.pairwise_map];exact List.nodup_range.imp λh e=>h ae) λx hx=>by
  obtain⟨i,hi,rfl⟩:=List.mem_map.1 hx;have:=List.mem_range.1 hi;exact(h.us _).2 ae
 rw[List.length_map,List.length_range] at h1 h2;omega
theorem Pg.nx (h:Pg k X s) (hk:k<=100):s.Nx (11+k):=
 ⟨by rw[h.tb];omega,by rw[h.tb,h.np];omega,λhm=>by have:=(h.us _).1 hm;omega,λm h1 h2=>(h.us m).2 (by rw[h.tb] at h1;omega)⟩
theorem Pg.tab (h:Pg k X s) (hn:n<20):(s.g (1+n/2)).length=64:=h.ok.sz _ (.inl ⟨ae,by rw[h.tb];omega⟩)
theorem Pg.put (h:Pg k X s) {p:Nat} {x:List UInt8} (h1:1<=p) (h2:p<=10) (hx:x.length=64):Pg k X (s.put p x):=
 ⟨h.tb,h.np,h.ino,h.ok.put (.inl ⟨h1,by rw[h.tb];omega⟩) hx,h.us,λj hj=>⟨(h.pg j hj).1,by show ru s.g p x (11+j)=_;rw[eY ae];exact(h.pg j hj).2⟩,h.no⟩
theorem Pg.dX (h:Pg k X s) (h1:1<=n) (h2:n<=20) (i:aN):Pg k X (dX s n i):=by have hl:=h.tab (n:=n-1) ae;exact h.put ae ae (by rw[aN.yc ae,hl])
theorem MG (s:Ps) (n:Nat) (i:aN) {m:Nat} (e:(m-1)/2=(n-1)/2):(dX s n i).g (1+(m-1)/2)=aN.putAt (s.g (1+(n-1)/2)) ((n-1)%2) i:=by rw[e];exact gW _ _ _
theorem agS (s:Ps) (n:Nat) (i:aN) {m:Nat} (e:(m-1)/2≠(n-1)/2):(dX s n i).g (1+(m-1)/2)=s.g (1+(m-1)/2):=eY ae
theorem Tb.dX (t:Tb s I) (h:Pg k X s) (h1:1<=n) (h2:n<=20) (hr:aN.Right i):Tb (dX s n i) (JC I n i):=λm m1 m2=>by
 have hl:=h.tab (n:=n-1) ae;have hin:=adb hl (k:=(n-1)%2) ae;obtain⟨a1,a2⟩:=t m m1 m2;unfold JC;by_cases e:m=n
 ·subst e;rw[if_pos rfl];unfold ind wB;rw[MG s m i rfl];have h9:=aN.ade (xs:=s.g (1+(m-1)/2)) (k:=(((m-1)%2:Nat):Int)) (i:=i) hin hr;rw[Int.toNat_natCast] at h9;exact h9
 ·rw[if_neg e,<-a1,<-a2];unfold ind wB;by_cases e2:(m-1)/2=(n-1)/2
  ·rw[MG s n i e2,e2];have h9:=aN.ZN (xs:=s.g (1+(n-1)/2)) (k:=(((n-1)%2:Nat):Int)) (t:=(((m-1)%2:Nat):Int)) (i:=i) hin ae;rw[Int.toNat_natCast] at h9;exact h9
  ·rw[agS s n i e2];exact⟨rfl,rfl⟩
theorem Tb.far (t:Tb s I) {s':Ps} (hg:∀p,p<=10->s'.g p=s.g p):Tb s' I:=λm m1 m2=>by have:=t m m1 m2;unfold ind wB at this⊢;rw[hg _ ae];exact this
theorem Pg.old (h:Pg k X s) (hj:j<k) {x:List UInt8} (hx:x.length<=64):Pg k (JV X j x) (s.put (11+j) (pad x)):=by
 refine⟨h.tb,h.np,h.ino,h.ok.put (.inr ((h.us _).2 ae)) (Yq hx),h.us,λi hi=>?_,λi hi=>?_⟩
 ·unfold JV;by_cases e:i=j
  ·subst e;rw[if_pos rfl];exact⟨hx,gW _ _ _⟩
  ·rw[if_neg e];exact⟨(h.pg i hi).1,(eY ae).trans (h.pg i hi).2⟩
 ·unfold JV;rw[if_neg ae];exact h.no i hi
theorem Pg.new (h:Pg k X s) (hk:k<=100) {x:List UInt8} (hx:x.length<=64):Pg (k+1) (JV X k x) ((s.add (11+k)).put (11+k) (pad x)):=by
 have zX:=h.ok.add (h.nx hk);have hm:∀p,p∈(s.add (11+k)).us↔11<=p/\p<11+(k+1):=λp=>by show p∈s.us++[11+k]↔_;rw[List.mem_append,List.mem_singleton,h.us];omega
 refine⟨h.tb,h.np,h.ino,zX.put (.inr ((hm _).2 ae)) (Yq hx),hm,λi hi=>?_,λi hi=>?_⟩
 ·unfold JV;by_cases e:i=k
  ·subst e;rw[if_pos rfl];exact⟨hx,gW _ _ _⟩
  ·rw[if_neg e];refine⟨(h.pg i ae).1,(eY ae).trans ?_⟩;exact(eY (show 11+i≠11+k by omega)).trans (h.pg i ae).2
 ·unfold JV;rw[if_neg ae];exact h.no i ae
theorem vV (h:Pg k X s) (t:Tb s I) {l p:Nat} (h1:1<=n) (h2:n<=20) (hi:I n=aX (dN l (X (n-1)).length p)) (hp:p=if n<=k then 10+n else 0):jh s n (dN l (X (n-1)).length p) (X (n-1)):=by
 obtain⟨a1,a2⟩:=t n h1 h2;have hlen:(X (n-1)).length<=64:=by
  rcases Nat.lt_or_ge (n-1) k with e|e
  ·exact(h.pg _ e).1
  ·rw[h.no _ e];exact Nat.zero_le _
 have wQ:X (n-1)≠[]->p≠0/\s.g p=pad (X (n-1)):=λhx=>by
  have hk:n-1<k:=by
   rcases Nat.lt_or_ge (n-1) k with e|e
   ·exact e
   ·exact absurd (h.no _ e) hx
  rw[hp,if_pos ae];refine⟨ae,?_⟩;have:=(h.pg _ hk).2;rw[show 11+(n-1)=10+n by omega] at this;exact this
 refine⟨h1,by rw[h.ino];omega,by rw[h.ino];omega,by rw[h.tb];omega,a1.trans hi,a2,rfl,rfl,ae,wf1 ?_,λoff ho=>rd1 hlen wQ ho⟩;rw[hp]
 split
 ·exact .inr ((h.us _).2 ae)
 ·exact .inl rfl
def rX (k:Nat) (X:Nat->List UInt8) (n:Nat):aN:=if n<=k+1 then aX (dN 1 (X (n-1)).length (if n<=k then 10+n else 0)) else zN
structure Dp (k:Nat) (X:Nat->List UInt8) (s:Ps):Prop where
 pg:Pg k X s
 tb:Tb s (rX k X)
theorem Dp.vV (h:Dp k X s) (hk:k<=17) (h1:1<=n) (h2:n<=k+1):jh s n (dN 1 (X (n-1)).length (if n<=k then 10+n else 0)) (X (n-1)):=
 jZ.vV h.pg h.tb h1 ae (by unfold rX;rw[if_pos h2]) rfl
def eqB (a b:aN):Bool:=a.k==b.k&&a.l==b.l&&a.s==b.s&&a.d0==b.d0&&a.d1==b.d1&&a.d2==b.d2&&a.d3==b.d3&&a.d4==b.d4&&a.d5==b.d5&&a.a==b.a&&a.b==b.b
theorem Ii {a b:aN} (h:eqB a b=true):a=b:=by obtain⟨a1,a2,a3,a4,a5,a6,a7,a8,a9,a10,a11⟩:=a;obtain⟨b1,b2,b3,b4,b5,b6,b7,b8,b9,b10,b11⟩:=b;unfold eqB at h;simp only[Bool.and_eq_true,beq_iff_eq] at h;obtain⟨⟨⟨⟨⟨⟨⟨⟨⟨⟨rfl,rfl⟩,rfl⟩,rfl⟩,rfl⟩,rfl⟩,rfl⟩,rfl⟩,rfl⟩,rfl⟩,rfl⟩:=h;rfl
theorem aca (hp:Pg 0 (λ_=>[]) s) (h1:s.g 1=aN.putAt eu.zeros 0 (aX (dN 1 0 0))) (h2:∀p,2<=p->p<=10->s.g p=eu.zeros):Dp 0 (λ_=>[]) s:=by
 have hzb:∀k:Nat,k<2->eqB (aN.qE eu.zeros (k:Int)) zN=true/\aN.aG eu.zeros (k:Int)=0:=lH;have hz:∀k:Nat,k<2->aN.qE eu.zeros (k:Int)=zN/\aN.aG eu.zeros (k:Int)=0:=λk hk=>⟨Ii (hzb k hk).1,(hzb k hk).2⟩
 have h3b:(eqB (aN.qE (aN.putAt eu.zeros 0 (aX (dN 1 0 0))) ((0:Nat):Int)) (aX (dN 1 0 0))=true/\aN.aG (aN.putAt eu.zeros 0 (aX (dN 1 0 0))) ((0:Nat):Int)=0)/\eqB (aN.qE (aN.putAt eu.zeros 0 (aX (dN 1 0 0))) ((1:Nat):Int)) zN=true/\aN.aG (aN.putAt eu.zeros 0 (aX (dN 1 0 0))) ((1:Nat):Int)=0:=lH;have h3:(aN.qE (aN.putAt eu.zeros 0 (aX (dN 1 0 0))) ((0:Nat):Int)=aX (dN 1 0 0)/\aN.aG (aN.putAt eu.zeros 0 (aX (dN 1 0 0))) ((0:Nat):Int)=0)/\aN.qE (aN.putAt eu.zeros 0 (aX (dN 1 0 0))) ((1:Nat):Int)=zN/\aN.aG (aN.putAt eu.zeros 0 (aX (dN 1 0 0))) ((1:Nat):Int)=0:=⟨⟨Ii h3b.1.1,h3b.1.2⟩,Ii h3b.2.1,h3b.2.2⟩
 refine⟨hp,λn n1 n2=>?_⟩;unfold ind wB rX;by_cases e:(n-1)/2=0
 ·rw[e,h1];obtain rfl|rfl:n=1\/n=2:=ae
  ·exact h3.1
  ·exact h3.2
 ·rw[h2 _ ae ae,if_neg ae];exact hz _ ae
def mkS (k:Nat) (sl:List UInt8) (s:Ps):Ps:=
 dX (dX (((dX s (k+2) ⟨2,0,0,0,0,0,0,0,0,0,0⟩).add (11+k)).put (11+k) (pad sl)) (k+1) (aX (dN 1 16 (11+k)))) (k+2) (aX (dN 1 0 0))
theorem Dp.mk_ (h:Dp k X s) (hk:k<=15) (hs:sl.length=16):
  Pg k X (dX s (k+2) ⟨2,0,0,0,0,0,0,0,0,0,0⟩)/\Tb (dX s (k+2) ⟨2,0,0,0,0,0,0,0,0,0,0⟩) (JC (rX k X) (k+2) ⟨2,0,0,0,0,0,0,0,0,0,0⟩)/\Dp (k+1) (JV X k sl) (mkS k sl s):=by
 have hX:∀j,k<=j->X j=[]:=h.pg.no;obtain⟨s1,iO⟩:=bu (dX s (k+2) ⟨2,0,0,0,0,0,0,0,0,0,0⟩);have p1:Pg k X s1:=by rw[iO];exact h.pg.dX ae ae _
 have t1:Tb s1 (JC (rX k X) (k+2) ⟨2,0,0,0,0,0,0,0,0,0,0⟩):=by rw[iO];exact h.tb.dX h.pg ae ae (MF (.inr rfl))
 have p2:=p1.new (x:=sl) ae ae;have t2:Tb ((s1.add (11+k)).put (11+k) (pad sl)) (JC (rX k X) (k+2) ⟨2,0,0,0,0,0,0,0,0,0,0⟩):=t1.far λp hp=>by show ru (ru s1.g (11+k) eu.zeros) (11+k) (pad sl) p=_;rw[eY ae,eY ae]
 have p3:=p2.dX (n:=k+1) ae ae (aX (dN 1 16 (11+k)));have t3:=t2.dX p2 (n:=k+1) ae ae (vZ (l:=1) (z:=16) (p:=11+k) ae ae ae);have p4:=p3.dX (n:=k+2) ae ae (aX (dN 1 0 0));have t4:=t3.dX p3 (n:=k+2) ae ae (vZ (l:=1) (z:=0) (p:=0) ae ae ae);refine⟨by rw[<-iO];exact p1,by rw[<-iO];exact t1,⟨by unfold mkS;rw[<-iO];exact p4,λn n1 n2=>?_⟩⟩;have h4:=t4 n n1 n2;unfold mkS;rw[<-iO];refine⟨h4.1.trans ?_,h4.2⟩;unfold JC rX JV;by_cases e1:n=k+2
 ·subst e1;rw[if_pos rfl,if_pos ae,if_neg ae,hX _ ae,if_neg ae];rfl
 ·rw[if_neg e1];by_cases e2:n=k+1
  ·subst e2;rw[if_pos rfl,if_pos ae,if_pos ae,if_pos ae,hs,show 10+(k+1)=11+k by omega]
  ·rw[if_neg e2,if_neg e1];by_cases e3:n<=k
   ·rw[if_pos (show n<=k+1 by omega),if_pos e3,if_pos (show n<=k+1+1 by omega),if_neg (show¬n-1=k by omega),if_pos (show n<=k+1 by omega)]
   ·rw[if_neg ae,if_neg ae]
end jZ
end
section
open Go.RowKit eX Go.ChangeMaps Go.Maps

structure FmI (B:Nat) (S:Nat->Prop) (w:World) (C BL G gb k:Nat) (S':Nat->Prop) (ps':Nat->Nat) (wr:World):Prop where
 hc:eG 32 B S' wr C BL ps' (once k)
 hG:aF wr G 60 #[.int .i64 32,.int .i64 8,.int .i64 64]
 ho:Own pI 4 wr w.heap.size (.slice (some ⟨gb,0,none⟩) 32 32) (wR k)
 hk:Kq S w wr
 up:∀q,S' q->Up S w wr q
 nG:¬S' G
 nb:¬S' gb
 lG:w.heap.size<=G
 lb:w.heap.size<=gb
 ne:gb≠G
section
variable {B C BL G gb k:Nat} {S S':Nat->Prop} {w wr w':World} {ps ps' ps2:Nat->Nat}
theorem FmI.on (h:FmI B S w C BL G gb k S' ps' wr) (hb:Below wr.heap.size wr w'):FmI B S w C BL G gb k S' ps' w':=
 ⟨h.hc.on hb,h.hG.ah hb,h.ho.on hb,h.hk.on hb,λq hq=>by rcases h.up q hq with e|e;exact .inl e;exact .inr ⟨e.1,by have:=hb.size;omega⟩,h.nG,h.nb,h.lG,h.lb,h.ne⟩
theorem FmI.erase (h:FmI B S w C BL G gb k S' ps' wr) (hc:eG 32 B (Up S' wr w') w' C BL ps2 (upd (once k) k (fresh 1))) (hq:Kq S' wr w') (hk:k<32):
  w'.cell? ⟨gb,k,none⟩=some (.bool ((wR k)[k]'(by rw[A7 ae];exact hk)))/\w'.frozen? ⟨gb,k,none⟩=false/\FmI B S w C BL G gb (k+1) (Up S' wr w') ps2 (w'.setCell ⟨gb,k,none⟩ (.bool true)):=by
 have hs:=hq.size;have lG:=h.hG.lt;have lb:=(h.ho.aP gb rfl).2;have ho:=h.ho.kq hq λq e=>by obtain rfl:=fD _ _ _ _ e;exact h.nb
 have hG:=h.hG.kq hq h.nG;obtain⟨c1,c2⟩:=ho.iH (k:=k) (by rw[A7 ae];exact hk);have J4:=ho.set k true;rw[adf hk] at J4;rw[adg] at hc;have nG:¬Up S' wr w' G:=λe=>h.nG (ji e lG);have nb:¬Up S' wr w' gb:=λe=>h.nb (ji e lb);refine⟨c1,c2,hc.kq (Kq.one ⟨gb,k,none⟩ (.bool true)) (λq hq e=>nb (by obtain rfl:q=gb:=e;exact hq)),hG.far (by simpa using Ne.symm h.ne) _,J4,?_,λq hq=>?_,nG,nb,h.lG,h.lb,h.ne⟩
 ·refine(h.hk.ay hq λq hq=>?_).setCell (.inr h.lb) _;rcases h.up q hq with e|e
  ·exact .inl e
  ·exact .inr e.1
 ·rw[show Up S w (w'.setCell ⟨gb,k,none⟩ (.bool true)) q=Up S w w' q by unfold Up;rw[World.size_setCell]];rcases hq with e|e
  ·rcases h.up q e with e|e
   ·exact .inl e
   ·exact .inr ⟨e.1,ae⟩
  ·exact .inr ⟨by have:=h.hk.size;omega,e.2⟩
def V9 (C s:Nat):Array Value:=#[.pointer (some ⟨C,0,none⟩),.pointer none,.int .i64 2,.int .i64 0,.slice none 0 0,.map (some s),.map (some (s+1)),.map (some (s+1+1)),.int .u64 1,.int .u64 1,.slice (some ⟨s+1+1+1,0,none⟩) 32 32,.bool false]
def Wh (w:World) (C:Nat):World:=((((w.alloc (.map #[] 0)).alloc (.map #[] 0)).alloc (.map #[] 0)).alloc (.cells ((List.replicate 32 false).map pI).toArray 4)).alloc (.cells (V9 C w.heap.size) 225)
theorem adh (w:World) (C:Nat):(Wh w C).heap.size=w.heap.size+1+1+1+1+1:=by unfold Wh;simp
theorem MH (w:World) (C:Nat):Below w.heap.size w (Wh w C):=by unfold Wh;exact(((((Below.refl _ _).alloc (Nat.le_refl _) _).alloc au _).alloc (by simp;omega) _).alloc (by simp;omega) _).alloc (by simp;omega) _
theorem akY {w8 ug:World} {P:List UInt8->Prop} {M ML cap s:Nat} (hSB:∀q,S q->B<=q/\q<w.heap.size) (hB0:B<=w.heap.size) (hs:s=w8.heap.size) (hi:FmI B S w C BL G gb 32 S' ps' w8) (hb:Below (Wh w8 C).heap.size (Wh w8 C) ug) (hM:(Wh w8 C).heap.size<=M) (Qs:(Wh w8 C).heap.size<=ML) (hg:gu 32 B S' ug (ZO M ML C BL cap ps' P)):
  ug.cell? ⟨s+1+1+1+1,1,none⟩=some (.pointer none)/\ug.frozen? ⟨s+1+1+1+1,1,none⟩=false/\uI 32 B S w (ug.setCell ⟨s+1+1+1+1,1,none⟩ (.pointer (some ⟨M,0,none⟩))) (fm0 (s+1+1+1+1) s (s+1) (s+1+1) (s+1+1+1) (ZO M ML C BL cap ps' P)):=by
 have ja:=adh w8 C;rw[<-hs] at ja;have hF9:aF (Wh w8 C) (s+1+1+1+1) 225 (V9 C s):=by have h1:=aF.new ((((w8.alloc (.map #[] 0)).alloc (.map #[] 0)).alloc (.map #[] 0)).alloc (.cells ((List.replicate 32 false).map pI).toArray 4)) 225 (V9 C w8.heap.size);simp only[World.size_alloc] at h1;rw[hs];exact h1
 have hF:=hF9.ah hb;have hold:∀q,q<s+1+1+1+1->(ug.setCell ⟨s+1+1+1+1,1,none⟩ (.pointer (some ⟨M,0,none⟩))).heap[q]?=(Wh w8 C).heap[q]?:=λq hq=>(heap_setCell_other _ _ _ _ (by show q≠s+1+1+1+1;omega)).trans (hb.block q ae);have ED:Kq (λq=>q=s+1+1+1+1) ug (ug.setCell ⟨s+1+1+1+1,1,none⟩ (.pointer (some ⟨M,0,none⟩))):=Kq.one ⟨_,_,none⟩ _;have hS':∀q,S' q->B<=q/\q<s:=λq hq=>⟨hi.hc.lo q hq,by rw[hs];exact hi.hc.hi q hq⟩
 have hw:=hi.hk.size;have hBs:B<=w8.heap.size:=hi.hc.base;have azw:=hb.size;have Wi:Kq S w (ug.setCell ⟨s+1+1+1+1,1,none⟩ (.pointer (some ⟨M,0,none⟩))):=((hi.hk.on (MH w8 C)).on hb).setCell (p:=⟨s+1+1+1+1,1,none⟩) (.inr (by show w.heap.size<=s+1+1+1+1;omega)) _;have aCZ:M<ug.heap.size:=hg.hi M (.inl rfl);have azx:ML<ug.heap.size:=hg.hi ML (.inr (.inl rfl));have hBw:∀q,Up S w (ug.setCell ⟨s+1+1+1+1,1,none⟩ (.pointer (some ⟨M,0,none⟩))) q->B<=q/\q<(ug.setCell ⟨s+1+1+1+1,1,none⟩ (.pointer (some ⟨M,0,none⟩))).heap.size:=λq hq=>by
  rw[World.size_setCell] at*;rcases hq with e|e
  ·have:=hSB q e;omega
  ·rw[World.size_setCell] at e;omega
 refine⟨hF.aj rfl,hF.frozen 1,agU (S:=S') ?_ ?_ ?_ ?_ ?_ rfl rfl ?_ ?_ ?_ ?_ hBw,Wi⟩
 ·exact hF.set 1 _
 ·refine dC.same (w:=Wh w8 C) ?_ (hold s ae);have h1:=((((dC.made w8).alloc (.map #[] 0)).alloc (.map #[] 0)).alloc (.cells ((List.replicate 32 false).map pI).toArray 4)).alloc (.cells (V9 C w8.heap.size) 225);rw[hs];exact h1
 ·refine dC.same (w:=Wh w8 C) ?_ (hold (s+1) ae);have h1:=(((dC.made (w8.alloc (.map #[] 0))).alloc (.map #[] 0)).alloc (.cells ((List.replicate 32 false).map pI).toArray 4)).alloc (.cells (V9 C w8.heap.size) 225);simp only[World.size_alloc] at h1;rw[hs];exact h1
 ·refine dC.same (w:=Wh w8 C) ?_ (hold (s+1+1) ae);have h1:=((dC.made ((w8.alloc (.map #[] 0)).alloc (.map #[] 0))).alloc (.cells ((List.replicate 32 false).map pI).toArray 4)).alloc (.cells (V9 C w8.heap.size) 225);simp only[World.size_alloc] at h1;rw[hs];exact h1
 ·have h1:=Own.made (f:=pI) (e:=4) (w:=((w8.alloc (.map #[] 0)).alloc (.map #[] 0)).alloc (.map #[] 0)) (base:=0) (xs:=List.replicate 32 false) (Nat.zero_le _) (by simp[maxLen]);have h2:=h1.alloc (.cells (V9 C w8.heap.size) 225);simp only[World.size_alloc,List.length_replicate] at h2;have h3:Own pI 4 (Wh w8 C) 0 (.slice (some ⟨s+1+1+1,0,none⟩) 32 32) (List.replicate 32 false):=by rw[hs];exact h2
  exact(h3.on hb).kq ED λq e=>by obtain rfl:=fD _ _ _ _ e;omega
 ·refine hg.kq ED λq hq e=>?_;rcases hq with e1|e1|e1
  ·have:q=M:=e1;omega
  ·have:q=ML:=e1;omega
  ·have:=hS' q e1;omega
 ·simp[fm0];omega
 ·intro q hq;simp only[fm0,List.mem_cons,List.not_mem_nil,or_false] at hq;refine⟨λh1=>?_,ae,.inr ⟨ae,by rw[World.size_setCell];omega⟩⟩;rcases h1 with e1|e1|e1
  ·have:q=M:=e1;omega
  ·have:q=ML:=e1;omega
  ·have:=hS' q e1;omega
 ·intro q hq;rcases hq with e1|e1|e1
  ·have:q=M:=e1;exact .inr ⟨ae,by rw[World.size_setCell];omega⟩
  ·have:q=ML:=e1;exact .inr ⟨ae,by rw[World.size_setCell];omega⟩
  ·rcases hi.up q e1 with e2|e2
   ·exact .inl e2
   ·exact .inr ⟨e2.1,by rw[World.size_setCell];omega⟩
def MI (tx:List UInt8) (L:List UInt8):Prop:=L=Tg.page ⟨2,0,1,1⟩ (fZ tx)
def avz (B:Nat) (S:Nat->Prop) (C:Nat) (tx:List UInt8) (w:World) (e:Ending) (w':World):Prop:=
 ∃f,e= .returned (.tuple #[.pointer (some ⟨f.F,0,none⟩),.int .i64 0])/\uI 32 B S w w' f/\f.g.C=C/\Fmd f tx/\f.g.gh=MI tx
theorem KE (h:eG 32 B S w C BL ps (λ_=>fresh 0)) (a:Option Addr) (c:Nat) (tx:List UInt8) (hx:Bytes w w.heap.size a 56 tx) (EE:∀b o,a=some ⟨b,o,none⟩->¬S b):
  Calls prog 111 #[C,.int .i64 2,.slice a 56 c] w (avz B S C tx w):=by
 rw[<-ZP] at h;have HU:=ag (qF h);have HH:=ag h;have HG:=ag (λ(W:World) (hW:Below w.heap.size w W)=>dU (h.on hW));have HX:=ag hx;have Wj:=ag EE;have HAb:=ag (show∀b o,a=some ⟨b,o,none⟩->b<w.heap.size from λb o e=>by obtain⟨b',o',e',aU,_⟩:=hx.2.2 ae;rw[e] at e';injection e' with e';injection e' with e';omega);have RF:=MB (.int .i64 32) (.int .i64 8) (.int .i64 64);have jq:=qG;have RQ:=ag (λ(W:World) (hW:Below w.heap.size w W)=>oH (h.on hW) aB (λk _=>RS 0 k));have HDa:=ag (λ(W:World)=>show Calls prog 164 #[.agg #[.int .i64 32,.int .i64 8,.int .i64 64],.int .i64 2,.int .i64 0] W λe w'=>e= .returned (.int .i64 29)/\Below W.heap.size W w' from jk (w:=W) (NB:=32) aB);clear h hx EE
 go_in
 go_wp2_with fail;refine(HU.o).mono ?_;rintro e w_ ⟨rfl,rfl⟩;go_wp2_with fail;refine(HG.o w (Below.refl _ _)).mono ?_;rintro e w1 ⟨rfl,bK⟩;have dw:=ag bK;clear bK;unfold uf;go_wp2_with fail;refine(HG.o w1 dw.o).mono ?_;rintro e w2 ⟨rfl,aW⟩;have bQ:=(dw.o.ay aW).alloc (dw.o.ay aW).size (.cells #[.int .i64 32,.int .i64 8,.int .i64 64] 60);have dA:=ag bQ;have FB:=ag (aF.new w2 60 #[.int .i64 32,.int .i64 8,.int .i64 64]);have vO:=ag (dw.o.ay aW).size;clear aW bQ;unfold uf;go_upto_region 8 with fail;have Qu:=ag (λq (e:S q)=>HH.o.hi q e);generalize w2.alloc (.cells #[.int .i64 32,.int .i64 8,.int .i64 64] 60)=w3 at*;generalize w2.heap.size=G at*;have HBw:=ag (dA.o.ay (ak w3));have ZQ:=ag (show aF w3.drew G 60 #[.int .i64 32,.int .i64 8,.int .i64 64] from FB.o.ah (ak w3));refine iT (λW'=>aF W' G 60 #[.int .i64 32,.int .i64 8,.int .i64 64]) ZQ.o (λbJ=>?_);generalize w3.drew=W at*;refine jy 0 (.agg #[.int .i64 32,.int .i64 8,.int .i64 64]) rfl (λ_ aI=>by have y0:=aI.aj (i:=0) rfl;have y1:=aI.aj (i:=1) rfl;have y2:=aI.aj (i:=2) rfl;go_simp) ?_;refine eF 1 2 ?_;refine dP 2 C 0 ?_;refine dm 3 (λK' hK=>?_);go_simp;refine(RQ.o W HBw.o).mono ?_;rintro e w4 ⟨rfl,di⟩;have rY:=bJ.ah di;have kL:=ag (HBw.o.ay di);clear di;refine hK.out _ _ rY (λwK=>?_)
 try simp only[aO]
 refine dm 4 (λK' hK=>?_);go_simp;refine(HDa.o w4).mono ?_;rintro e w5 ⟨rfl,iP⟩;have rE:=wK.ah iP;have pV:=ag (kL.o.ay iP);clear iP;refine hK.out _ _ rE (λF9=>?_)
 try simp only[aO]
 refine fE 5 (.bool false) ?_;refine gB ?_;have Kv:=ag rE;have g0:=rE.aj (i:=0) (v:= .int .i64 32) rfl;clear bJ rY wK rE F9 ZQ FB HBw dA kL dw;have uY:=Gg;go_upto_region 11 with fail;generalize hwa:w5.alloc _=w6;have HF0:=ag (show FmI B S w C BL G w5.heap.size 0 S ps w6 from by rw[<-hwa];have iI:=(Below.refl w5.heap.size w5).alloc (Nat.le_refl _) (.cells ((List.replicate 32 false).map pI).toArray 4);have hs5:=pV.o.size;have hg:=Kv.o.lt;have pR:=vO.o;exact⟨HH.o.on (pV.o.ay iI),Kv.o.ah iI,Own.made (f:=pI) (e:=4) (w:=w5) (base:=w.heap.size) (xs:=List.replicate 32 false) hs5 (by simp[maxLen]),Kq.of (pV.o.ay iI),λq hq=> .inl hq,λe=>by have:=Qu.o _ e;omega,λe=>by have:=Qu.o _ e;omega,pR,hs5,ae⟩);generalize w5.heap.size=gb at*;clear hwa g0 uY Kv pV RQ;go_wp2_with fail
 go_loopw [10,11,51] (λ_ _ i wr=>∃(k:Nat) (S':Nat->Prop) (ps':Nat->Nat),k<=32/\i= .int .i64 k/\FmI B S w C BL G gb k S' ps' wr) (λ_ _ i _=>32-(intOf i).toNat)
 case atStart=>exact⟨0,S,ps,ae,rfl,HF0.o⟩
 case round=>
  obtain⟨k,S',ps',hk,rfl,hi⟩:=hrel;clear HF0;by_cases aU:k<32
  ·have hk0:(0:Int)<=(k:Int):=ae;have iy:(k:Int)<32:=ae;have fQ:=rQ hi.hc aU;have ZR:=KF hi.hc aU (Gh k).1 (by rw[(Gh k).2];decide);rw[(Gh k).1] at fQ;rw[(Gh k).2] at ZR;have adi:=ag fQ;have HEr:=ag ZR;have HI:=ag hi;clear fQ ZR hi;go_wp2_with fail;refine adi.o.mono ?_;rintro e w_ ⟨rfl,rfl⟩;go_wp2_with fail;refine HEr.o.mono ?_;rintro e w7 ⟨rfl,⟨ps2,hc⟩,hq⟩;obtain⟨c1,c2,h2⟩:=HI.o.erase hc hq aU;have H2:=ag h2;clear hc hq h2;generalize (wR k)[k]'(by rw[A7 ae];exact aU)=bk at*;go_wp2_with fail;go_roundw
   case rel=>exact⟨k+1,_,_,ae,by go_num,H2.o⟩
   case measure=>simp[intOf];omega
  ·obtain rfl:k=32:=ae;have HI:=ag hi;have adi:=ag (oH hi.hc aB (λk _=>RS 32 k));clear hi;go_wp2_with fail;refine adi.o.mono ?_;rintro e w7 ⟨rfl,kC⟩;have V7:=ag (HI.o.on kC);clear kC;have g0:=V7.o.hG.aj (i:=0) (v:= .int .i64 32) rfl;have g1:=V7.o.hG.aj (i:=1) (v:= .int .i64 8) rfl;have g2:=V7.o.hG.aj (i:=2) (v:= .int .i64 64) rfl;go_wp2_with fail;refine(HDa.o w7).mono ?_;rintro e w8 ⟨rfl,kQ⟩;have OJ:=ag (V7.o.on kQ);clear kQ g0 g1 g2;have g0:(((w8.alloc (.map #[] 0)).alloc (.map #[] 0)).alloc (.map #[] 0)).cell? ⟨G,0,none⟩=some (.int .i64 32):=(((OJ.o.hG.alloc _).alloc _).alloc _).aj rfl;have uY:=Gg;have Qp:=@run_makeMap prog;go_upto_region 27 with fail;generalize hw9:World.alloc _ _=w9;have apH:w9=Wh w8 C:=hw9.symm;obtain⟨s,hs⟩:=bu w8.heap.size;rw[<-hs];have HW9:=ag apH;have HSs:=ag hs;clear hw9 apH hs g0 uY Qp;have gI:Below w8.heap.size w8 w9:=by rw[HW9.o];exact MH w8 C
   have HB9:=ag gI;have g0:=(OJ.o.hG.ah gI).aj (i:=0) (v:= .int .i64 32) rfl;clear gI;have hmi:=adk w9;have HLv:=ag (show Own ZT 3 (w9.alloc (.cells ((List.replicate 32 0).map ZT).toArray 3)) w9.heap.size (.slice (some ⟨w9.heap.size,0,none⟩) 32 32) (List.replicate 32 0) from Own.made (f:=ZT) (e:=3) (w:=w9) (base:=w9.heap.size) (xs:=List.replicate 32 0) (Nat.le_refl _) (by simp[maxLen]));have ZU:=ag ((Below.refl w9.heap.size w9).alloc (Nat.le_refl _) (.cells ((List.replicate 32 0).map ZT).toArray 3));generalize hcz:(Obj.cells ((List.replicate 32 0).map ZT).toArray 3)=oz at*;clear hcz;go_wp2_with fail;have RU:=ag ((OJ.o.on HB9.o).on ZU.o);refine(EF RU.o.hc aB aB (λk _=>Nat.le_trans (ZV 32 k) aB) _ 32 (wR 32) (RU.o.ho.arr (by rw[A7 (Nat.le_refl _)];decide)) _ 32 _ (HLv.o.arr au) (λk hk=>by
    have e:(List.replicate 32 0).getD k 0=0:=by rw[List.getD_eq_getElem?_getD,List.getElem?_replicate];split<;>rfl
    rw[e];exact⟨ae,λ_=>rfl⟩) 2 0).mono ?_
   rintro e ug ⟨M,ML,cap,rfl,hM,Qs,hm,hb⟩;rw[show(⟨M,ML,C,BL,cap,ps',once 32,bU (once 32) (wR 32) (List.replicate 32 0) 32,-1,((2:Nat):Int),((0:Nat):Int),decide (4<(Gc.greatest (bU (once 32) (wR 32) (List.replicate 32 0) 32):Int)-Gc.least (bU (once 32) (wR 32) (List.replicate 32 0) 32)),λ_=>True⟩:Mg)=ZO M ML C BL cap ps' (λ_=>True) from ak2] at hm;have hm:gu 32 B S' ug (ZO M ML C BL cap ps' (MI tx)):=hm.ghost (MI tx);have ja:=ZU.o.size;obtain⟨c1,z1,h12⟩:=akY (λq hq=>⟨HH.o.lo q hq,HH.o.hi q hq⟩) HH.o.base HSs.o OJ.o (ug:=ug) (M:=M) (ML:=ML) (cap:=cap) (by rw[<-HW9.o];exact ZU.o.ay hb) (by rw[<-HW9.o];omega) (by rw[<-HW9.o];omega) hm;have H12:=ag h12;clear hb hm hM Qs ja h12 hmi g0 HLv RU ZU;have HFc:=ag (ak3 (s+1+1+1+1) s (s+1) (s+1+1) (s+1+1+1) M ML C BL cap ps' (MI tx));generalize hf0:fm0 (s+1+1+1+1) s (s+1) (s+1+1) (s+1+1+1) (ZO M ML C BL cap ps' (MI tx))=f0 at*;have HF0:=ag hf0.symm;have hfF:f0.F=s+1+1+1+1:=by rw[<-hf0];rfl
   clear hf0;have avC:=ag ((HX.o.kq (Nat.le_refl _) H12.o.2 Wj.o).mono H12.o.2.size);have Dx:=EG (by rw[HF0.o];exact(show eX.enough (ZO M ML C BL cap ps' (MI tx))=true from rfl)) H12.o.1 HFc.o (by rw[HF0.o];exact(show 1<=1000000 by decide)) a c tx (by rw[HF0.o];exact rfl) avC.o (λb o e h1=>Wj.o b o e (ji h1 (HAb.o b o e))) (.inr (by rw[HF0.o];exact(show(0:Nat)+3<=8*(32-3) by decide)));rw[hfF] at Dx;have HSe:=ag Dx;clear Dx;go_wp2_with fail;refine HSe.o.mono ?_;rintro e w13 ⟨rfl,f',sG,hsd⟩;rw[HF0.o] at hsd;obtain⟨q1,q2,q3,q4⟩:=fmd hsd;have HQ4:=ag q4;have H13:=ag (H12.o.ay sG);have HQ:=ag q1;have HQ3:=ag q3;have U5:=ag q2;clear q1 q2 q3 q4 sG hsd;go_wp2_with fail;go_ret2;exact⟨f',by rw[U5.o];rfl,H13.o,HQ3.o,HQ.o,HQ4.o⟩
end
end
section
open Go.RowKit

namespace Ed
def sel (tb np ino:Nat):Nat->Nat
 |0=>tb
 |1=>np
 |_=>ino
def txt (tb np ino:Nat):Nat->List UInt8
 |0=>[67,85,78,69,1]++List.replicate 51 0
 |k+1=>((txt tb np ino k).set (6+2*k) (UInt8.ofNat (sel tb np ino k))).set (7+2*k) (UInt8.ofNat (sel tb np ino k/256))
def MJ:List UInt8:=[67,85,78,69]++List.replicate 52 0
def AU (tb np ino:Nat):List UInt8:=txt tb np ino 3
theorem AV (tb np ino k:Nat):(txt tb np ino k).length=56:=by
 induction k with
 |zero=>rfl
 |succ k ih=>rw[txt,List.length_set,List.length_set,ih]
end Ed
open Ed
def RV (xs:List UInt8):Array Value:=(xs.map aH).toArray
theorem OM (xs:List UInt8) (i:Nat) (x:UInt8):(RV xs).setIfInBounds i (aH x)=RV (xs.set i x):=by unfold RV;rw[List.setIfInBounds_toArray,List.map_set]
theorem aF.ownB {w:World} {g base n:Nat} {xs:List UInt8} (h:aF w g 5 (RV xs)) (hb:base<=g) (hn:xs.length=n) (h9:n<=1000000):Own aH 5 w base (.slice (some ⟨g,0,none⟩) n n) xs:=by subst hn;refine⟨by rw[List.length_map,Nat.mul_one],.inr ⟨g,xs.length,RV xs,rfl,hb,h,Nat.le_refl _,by simp only[maxLen];omega,by unfold RV;rw[List.size_toArray,List.length_map,Nat.mul_one],?_⟩⟩;unfold RV;rw[Nat.mul_one];exact List.take_of_length_le (by rw[List.length_map];exact Nat.le_refl _)
theorem apK (u:World):(Instr.makeSlice 23 (.int .i64 56) (.int .i64 56)).run prog u= .ok (.slice (some ⟨u.heap.size,0,none⟩) 56 56) (u.alloc (.cells (Array.replicate 56 (.int .u8 0)) 5)):=Hl 56 ae u
theorem adl (g:Nat) (w:World) (h:aF w g 5 (Array.replicate 56 (.int .u8 0))) (ty:TypeId):
  (Builtin.copy_ #[23,9] ty #[.slice (some ⟨g,0,none⟩) 56 56,.string {data:=#[67,85,78,69]}]).run prog w= .ok (.int .i64 4) (w.setRow g (RV MJ)):=by
 have bP:=Lib.run_copy_row_string (P:=prog) w 23 9 ty 5 g 0 56 56 {data:=#[67,85,78,69]} _ 5 Tryz.underlying23 OO h aB aB;rw[bP];rfl
theorem zF {tb np ino:Nat} (h1:tb<65536) (h2:np<65536) (h3:ino<65536) (w:World):
  Calls prog 85 #[.agg #[.int .i64 tb,.int .i64 ((tb:Int)+1),.int .i64 np,.int .i64 ino],.int .i64 56] w λe w'=>(∃a c,e= .returned (.slice a 56 c)/\Own aH 5 w' w.heap.size (.slice a 56 c) (AU tb np ino))/\Below w.heap.size w w':=by
 have apL:∀k,sel tb np ino k<65536:=λk=>by unfold sel;split<;>omega
 have avD:=ag apL;have uY:=apK;have HL:=ag (aF.new w 93 #[.int .i64 tb,.int .i64 ((tb:Int)+1),.int .i64 np,.int .i64 ino]);have bK:=(Below.refl w.heap.size w).alloc (Nat.le_refl _) (.cells #[.int .i64 tb,.int .i64 ((tb:Int)+1),.int .i64 np,.int .i64 ino] 93);have dw:=ag bK;clear bK apL h1 h2 h3
 go_in
 go_upto_region 4 with fail;have HG1:=ag (aF.new (w.alloc (.cells #[.int .i64 tb,.int .i64 ((tb:Int)+1),.int .i64 np,.int .i64 ino] 93)) 5 (Array.replicate 56 (.int .u8 0)));have aW:=(Below.refl _ (w.alloc (.cells #[.int .i64 tb,.int .i64 ((tb:Int)+1),.int .i64 np,.int .i64 ino] 93))).alloc (Nat.le_refl _) (.cells (Array.replicate 56 (.int .u8 0)) 5);have Dy:=ag (HL.o.ah aW);have dA:=ag (dw.o.ay aW);rw[World.size_alloc] at HG1;obtain⟨G,hG⟩:=bu (w.heap.size+1);obtain⟨Lb,hLb⟩:=bu w.heap.size;have FB:=ag (show w.heap.size<=G/\G≠Lb from ae);rw[<-hG] at HG1⊢;rw[<-hLb] at Dy⊢;clear aW hG hLb uY HL dw;generalize (w.alloc (.cells #[.int .i64 tb,.int .i64 ((tb:Int)+1),.int .i64 np,.int .i64 ino] 93)).alloc (.cells (Array.replicate 56 (.int .u8 0)) 5)=W1 at*;have hcp:=adl G W1 HG1.o;have vO:=ag (HG1.o.row (RV MJ));have yD:=ag (Dy.o.aky (Ne.symm FB.o.2) (RV MJ));have dE:=ag (dA.o.cO FB.o.1 (RV MJ));have c4:=vO.o.aj (i:=4) (v:= .int .u8 0) rfl;have f4:=vO.o.frozen 4;have HG4:=ag (show aF ((W1.setRow G (RV MJ)).setCell ⟨G,4,none⟩ (.int .u8 1)) G 5 (RV (txt tb np ino 0)) from by have h:=vO.o.set 4 (aH 1);rw[OM] at h;exact h);have hl4:=yD.o.far (p:=⟨G,4,none⟩) (Ne.symm FB.o.2) (.int .u8 1);have V6:=ag hl4;have kL:=ag (dE.o.setCell (p:=⟨G,4,none⟩) FB.o.1 (.int .u8 1));have l0:=hl4.aj (i:=0) (v:= .int .i64 tb) rfl;have l2:=hl4.aj (i:=2) (v:= .int .i64 np) rfl;have l3:=hl4.aj (i:=3) (v:= .int .i64 ino) rfl;clear hl4 HG1 vO Dy yD dA dE;go_upto_region 6 with fail;generalize (W1.setRow G (RV MJ)).setCell ⟨G,4,none⟩ (.int .u8 1)=W4 at*;clear hcp c4 f4;clear W1;go_wp2_with fail
 go_loopw [6,7,23] (λ_ _ v23 wr=>∃k:Nat,v23= .int .i64 k/\k<=3/\Hid (aF wr G 5 (RV (txt tb np ino k)))/\Hid (Below w.heap.size w wr)) (λ_ _ v23 _=>3-(intOf v23).toNat)
 case atStart=>exact⟨0,rfl,ae,HG4,kL⟩
 case round=>
  obtain⟨k,rfl,hk,HG,HB⟩:=hrel;clear HG4 kL V6 l0 l2 l3;by_cases aU:k<3
  ·obtain⟨x,hx⟩:=bu (sel tb np ino k);have ZK:x<65536:=by rw[hx];exact avD.o k
   have ac9:∀u:World,(Instr.index 220 (.agg #[.int .i64 tb,.int .i64 np,.int .i64 ino]) (.int .i64 k)).run prog u= .ok (.int .i64 x) u:=λu=>by rw[hx];rcases(show k=0\/k=1\/k=2 by omega) with rfl|rfl|rfl<;>kernel_rfl
   have e1:txt tb np ino (k+1)=((txt tb np ino k).set (6+2*k) (UInt8.ofNat x)).set (7+2*k) (UInt8.ofNat (x/256)):=by rw[hx];rfl
   have HE:=ag e1;have hlen:=AV tb np ino k;generalize txt tb np ino k=t0 at*;have HI1:=ag (show Value.int .u8 ((x:Int)%256)=aH (UInt8.ofNat x) from by rw[Hq,UInt8.toNat_ofNat'];rfl);have Y9:=ag (show Value.int .u8 ((x:Int)/256%256)=aH (UInt8.ofNat (x/256)) from by rw[Hq,UInt8.toNat_ofNat'];rfl);have hgt:∀(t:List UInt8) i,t.length=56->i<56->∃b:UInt8,(RV t)[i]?=some (.int .u8 (b.toNat:Int)):=λt i ht hi=>⟨t[i]'ae,by unfold RV;rw[List.getElem?_toArray,List.getElem?_map,List.getElem?_eq_getElem ae];rfl⟩
   have HX:=ag hx;have j1:=IntWalk.i64_in (2*(k:Int)) ⟨ae,ae⟩;have j2:=IntWalk.i64_in (6+2*(k:Int)) ⟨ae,ae⟩;have j3:=IntWalk.i64_in (7+2*(k:Int)) ⟨ae,ae⟩;have j4:=IntWalk.i64_in ((k:Int)+1) ⟨ae,ae⟩;have p1:(0:Int)<=6+2*(k:Int):=ae;have p2:(6:Int)+2*(k:Int)<56:=ae;have p3:(0:Int)<=7+2*(k:Int):=ae;have p4:(7:Int)+2*(k:Int)<56:=ae;have p5:(0:Int)<=(k:Int):=ae;have p6:(k:Int)<3:=ae;have p7:(6+2*(k:Int)).toNat=6+2*k:=ae;have p8:(7+2*(k:Int)).toNat=7+2*k:=ae;obtain⟨b1,e4⟩:=hgt t0 (6+2*k) hlen ae;obtain⟨b2,e5⟩:=hgt t0 (7+2*k) hlen ae;have c2:=HG.o.aj (i:=6+2*k) e4;have f2:=HG.o.frozen (6+2*k);have c3:=HG.o.aj (i:=7+2*k) e5;have f3:=HG.o.frozen (7+2*k);have HK:=ag hk;have Ia:=ag aU;clear hx e1 hlen ZK hk aU e4 e5 hgt;go_wp2;go_roundw
   case rel=>refine⟨k+1,by go_num,by have:=Ia.o;omega,hid ?_,ag ((HB.o.setCell (p:=⟨G,6+2*k,none⟩) FB.o.1 _).setCell (p:=⟨G,7+2*k,none⟩) FB.o.1 _)⟩;rw[HE.o,HI1.o,Y9.o,<-OM,<-OM];exact(HG.o.set _ _).set _ _
   case measure=>have:=Ia.o;simp[intOf];omega
  ·obtain rfl:k=3:=ae;go_wp2;go_ret;exact⟨⟨_,_,rfl,HG.o.ownB FB.o.1 (AV _ _ _ _) ae⟩,HB.o⟩
end
section
open Go.RowKit eX eu Ed Opn

namespace Ed
def OG:List UInt8:=AU 10 156 20
def MC:List UInt8:=aN.putAt eu.zeros 0 (aX (jZ.dN 1 0 0))
def fmP (L:List UInt8):Prop:=L=Tg.page ⟨2,0,1,1⟩ (fZ (List.replicate 56 0))\/L=Tg.page ⟨1,1,2,2⟩ MC\/L=Tg.page ⟨2,0,3,2⟩ (fZ OG)
theorem OQ:MC.length=64:=lH
theorem AZ:OG.length=56:=AV _ _ _ _
structure Fd (f:Fm):Prop where
 sd:Sd f 2 OG
 ct:28<=Gc.count 0 f.g.l
 sq:f.seq=4
 v1:vw f 1=some (⟨1,1,2,2⟩,MC)
 vn:∀q,2<=q->vw f q=none
variable {f f':Fm}
theorem Wl (h:Fmd f (List.replicate 56 0)) (q:Nat) (hq:q≠0):vw f q=none:=by rw[Eu,h.no,h.go,h.se,if_neg hq];rfl
theorem agY (h:Fmd f (List.replicate 56 0)) (q:Nat) (hq:q≠0) (hs:(lW f q).isSome=true):q=1:=by
 have h1:=Wl h q hq;unfold vw at h1
 cases hz:lW f q with
 |none=>rw[hz] at hs;cases hs
 |some x=>rw[hz] at h1;cases h1
theorem ak4 (h:Fmd f (List.replicate 56 0)):(aG f.se 0).isSome=true:=by
 have h1:=h.se 0;rw[if_pos rfl] at h1
 cases hz:aG f.se 0 with
 |none=>rw[hz] at h1;cases h1
 |some x=>rfl
theorem agZ (h:Fmd f (List.replicate 56 0)) (hu:Uq f.se):f.se.length<=1:=RD hu λq hq=>by
 have h1:=h.se q;by_cases e:q=0
 ·omega
 ·rw[if_neg e] at h1
  cases hz:aG f.se q with
  |none=>rw[hz] at hq;cases hq
  |some x=>rw[hz] at h1;cases h1
theorem apN (h:Fmd f (List.replicate 56 0)) (hg:f.g.gh=fmP) {g:Nat->List UInt8} (Ae:g 1=MC) (hc:CmD 32 f [1] g OG f') (hu:Uq f'.se):Fd f':=by
 have hv1:vw f' 1=some (⟨1,1,2,2⟩,MC):=by
  have h1:=hc.vw 1 ae;rw[if_pos (List.mem_singleton.2 rfl)] at h1;obtain⟨sq,a,b,e⟩:=h1;rw[e,h.ep,Ae];rw[h.sq] at a b;obtain rfl:sq=2:=by simp at b;omega
  rfl
 have hvn:∀q,2<=q->vw f' q=none:=λq hq=>by have h1:=hc.vw q ae;rw[if_neg (by rw[List.mem_singleton];omega)] at h1;rw[h1];exact Wl h q ae
 have hv0:vw f' 0=some (⟨2,0,3,2⟩,fZ OG):=by rw[hc.vw0,h.sq,h.ep];rfl
 have Me:f'.seq=4:=by rw[hc.seq,h.sq];rfl
 have hhl:(fZ OG).length=64:=by unfold fZ;rw[List.length_append,AZ];rfl
 refine⟨⟨hc.fc,hc.no,hc.go,λL hL=>?_,by rw[hc.ep,h.ep],⟨_,hv0,rfl,by rw[Me]⟩,λq hq=>?_,hu⟩,?_,Me,hv1,hvn⟩
 ·rw[hc.gh,hg] at hL;rw[Me];rcases hL with rfl|rfl|rfl
  ·exact⟨⟨2,0,1,1⟩,_,rfl,aB,by simp[fZ],aB,aB,aB,_,hv0,aB,λe=>by cases e⟩
  ·exact⟨⟨1,1,2,2⟩,_,rfl,aB,OQ,aB,aB,aB,_,hv1,aB,λ_=>⟨rfl,rfl⟩⟩
  ·exact⟨⟨2,0,3,2⟩,_,rfl,aB,hhl,aB,aB,aB,_,hv0,aB,λ_=>⟨rfl,rfl⟩⟩
 ·rcases(show q=0\/q=1\/2<=q by omega) with rfl|rfl|h2
  ·decide
  ·decide
  ·rw[hvn q h2] at hq;cases hq
 ·have h1:=hc.ct;have h2:=h.ct;simp at h1;omega
end Ed
end
section
open Go.RowKit

theorem Ic (w:World):
  Calls prog 112 #[.int .i64 64,.int .i64 230] w λe w'=>e= .returned (.tuple #[.agg #[.int .i64 10,.int .i64 11,.int .i64 156,.int .i64 20],.int .i64 0])/\Below w.heap.size w w':=by
 have HPC:=ag (lY 64);have hp:Ino.dV 64=2:=aB;rw[hp] at HPC;clear hp
 go_in
 go_wp2_with fail;refine(HPC.o _).mono ?_;rintro e w_ ⟨rfl,rfl⟩;go_wp2
 go_region_with (go_at_call 154;refine(HPC.o _).mono ?_;rintro e w_ ⟨rfl,rfl⟩)
 all_goals
  go_wp2;refine bodyPost_ret (v:= .tuple #[.agg #[.int .i64 10,.int .i64 11,.int .i64 156,.int .i64 20],.int .i64 0]) (by simp[results,Tryz.results112,go_sem];try decide) rfl ⟨rfl,?_⟩
  repeat (first|(with_reducible exact Below.refl _ _)|((with_reducible refine Below.drew ?_))|((with_reducible refine Below.setCell ?_ au _))|((with_reducible refine Below.alloc ?_ au _)))
end
section
open Go.RowKit eX eu Ed Opn

theorem apO (u:World):(Instr.makeSlice 23 (.int .i64 56) (.int .i64 56)).run prog u= .ok (.slice (some ⟨u.heap.size,0,none⟩) 56 56) (u.alloc (.cells (Array.replicate 56 (.int .u8 0)) 5)):=Hl 56 ae u
section
variable {B C BL:Nat} {S:Nat->Prop} {ps:Nat->Nat} {w:World}
def ai2 (B:Nat) (S:Nat->Prop) (C:Nat) (w w':World):Prop:=∃Q f,dB 32 B Q w' f/\Ed.Fd f/\f.g.C=C/\(∀q,Q q->S q\/w.heap.size<=q)/\Kq S w w'
theorem Fj (h:eG 32 B S w C BL ps (λ_=>fresh 0)):
  Calls prog 59 #[C,.int .i64 2] w λe w'=>(∃T,e= .returned (.tuple #[.pointer (some ⟨T,0,none⟩),.int .i64 0]))/\ai2 B S C w w':=by
 have HG:=ag (dU h);have HH:=ag h;have RF:=MB (.int .i64 32) (.int .i64 8) (.int .i64 64);have uY:=apO;have Yd:max (0:Int) 56=56:=aB;clear h
 go_in
 go_wp2_with fail;refine HG.o.mono ?_;rintro e w1 ⟨rfl,bK⟩;have dw:=ag bK;unfold uf;have pG:=(Below.refl w1.heap.size w1).alloc (Nat.le_refl _) (.cells (Array.replicate 56 (.int .u8 0)) 5);have dA:=ag (bK.ay pG);have Wn:=ag ((HH.o.on bK).on pG);have JH:=ag ((nH w1 w1.heap.size 56 (Nat.le_refl _) ae).arr au);have HSn:=ag (show∀b o,(some ⟨w1.heap.size,0,none⟩:Option Addr)=some ⟨b,o,none⟩->¬S b from λb o e hs=>by
  have:=HH.o.hi b hs;injection e with e
  injection e with e
  have:=bK.size;omega)
 clear bK pG HG;go_wp2_with fail;generalize w1.alloc (.cells (Array.replicate 56 (.int .u8 0)) 5)=w2 at*;refine(KE Wn.o _ 56 (List.replicate 56 0) JH.o HSn.o).mono ?_;rintro e w3 ⟨f,rfl,sG,hfC,hfd,RX⟩;have hf3:dB 32 B (Up S w2 w3) w3 (gsF f fmP):=sG.1.ghost fmP;have Ac:=ag (hfd.ghost (P:=fmP) λL hL=>by rw[RX] at hL;exact .inl hL);have HF3:=ag hf3;have zD:=ag (show(gsF f fmP).g.C=C from hfC);have HFF:=ag (show(gsF f fmP).F=f.F from rfl);have HGh:=ag (show(gsF f fmP).g.gh=fmP from rfl);have jU:=ag ((Kq.of (T:=S) dA.o).trans sG.2);have HU3:=ag (show∀q,Up S w2 w3 q->S q\/w.heap.size<=q from λq hq=>by
  rcases hq with h1|h1
  ·exact .inl h1
  ·exact .inr (by have:=dA.o.size;omega))
 generalize Up S w2 w3=Q3 at*;rw[<-HFF.o];generalize gsF f fmP=f3 at*;clear sG hfC hfd RX hf3 HFF JH HSn Wn uY;go_wp2_with fail;refine(show Calls prog 113 #[f3.F] w3 λe w'=>e= .returned (.int .i64 230)/\Below w3.heap.size w3 w' from jc HF3.o Ac.o.fc.fi).mono ?_;rintro e w4 ⟨rfl,di⟩;have HF4:=ag (HF3.o.on di);have mY:=ag (jU.o.on di);clear di;go_wp2_with fail;refine(Ic w4).mono ?_;rintro e w5 ⟨rfl,iP⟩;have Hw:=ag (HF4.o.on iP);have zx:=ag (mY.o.on iP);have Y3:=ag (aF.new w5 93 #[.int .i64 0,.int .i64 0,.int .i64 0,.int .i64 0]);clear iP HF3 HF4 jU mY;obtain⟨w6,xJ⟩:=bu ((w5.alloc (.cells #[.int .i64 0,.int .i64 0,.int .i64 0,.int .i64 0] 93)).setRow w5.heap.size #[.int .i64 10,.int .i64 11,.int .i64 156,.int .i64 20]);have iI:Below w5.heap.size w5 w6:=by rw[xJ];exact((Below.refl _ w5).alloc (Nat.le_refl _) _).cO (Nat.le_refl _) _
 have ZE:=ag (show aF w6 w5.heap.size 93 #[.int .i64 10,.int .i64 11,.int .i64 156,.int .i64 20] from by rw[xJ];exact Y3.o.row _);have HW6:=ag xJ;have Yn:=ag (Hw.o.on iI);have uu:=ag (zx.o.on iI);have DC:=ag (Hw.o.aV (Nat.le_refl _));clear xJ iI;obtain⟨l0,l1,l2,l3⟩:=ZE.o.c4
 go_wp2_with (refine aC rfl rfl _ _ _ rfl w5.heap.size #[.int .i64 10,.int .i64 11,.int .i64 156,.int .i64 20] rfl rfl 93 #[.int .i64 0,.int .i64 0,.int .i64 0,.int .i64 0] Y3.o rfl OH (OI _ _ _ _) ?_;rw[<-HW6.o])
 have HOp:=ag (show Calls prog 114 #[f3.F,.agg #[.int .i64 10,.int .i64 11,.int .i64 156,.int .i64 20],.slice none 0 0] w6 λe w'=>∃Z,e= .returned (.tuple #[.pointer (some ⟨Z,0,none⟩),.int .i64 0])/\jJ 32 B Q3 w6 w' Z f3 (Ps.iY f3 10 156 20)/\w6.heap.size<=Z from
  zf (tb:=10) (np:=156) (ino:=20) Yn.o Ac.o.fc (by rw[Ac.o.tv,List.length_replicate]) ae ae ae)
 refine HOp.o.mono ?_;rintro e w7 ⟨Z,rfl,oh,_⟩;have HP7:=ag oh.1;have Yr:=ag (ZE.o.kq oh.2 DC.o);have zH:=ag (uu.o.ay oh.2 HU3.o);have HU7:=ag (show∀q,Up Q3 w6 w7 q->S q\/w.heap.size<=q from λq hq=>by
  rcases hq with h1|h1
  ·exact HU3.o q h1
  ·exact .inr (by have:=uu.o.size;omega))
 have HLm:=ag (show¬Up Q3 w6 w7 w5.heap.size from λh=>DC.o (ji h ZE.o.lt));generalize Up Q3 w6 w7=Q7 at*;clear oh HOp DC ZE Yn uu Y3 HW6 l0 l1 l2 l3 HU3 Hw zx;go_wp2_with fail;refine(zg w7 Z).mono ?_;rintro e w8 ⟨rfl,ht8,kQ⟩;obtain⟨T,hT⟩:=bu w7.heap.size;have Fh:=ag (show¬Q7 T from HP7.o.aV ae);rw[<-hT] at ht8⊢;have RY:=ag ht8;have HP8:=ag (HP7.o.on kQ);have U8:=ag (Yr.o.ah kQ);have U6:=ag (zH.o.on kQ);have HTs:=ag (show w.heap.size<=T from by rw[hT];exact zH.o.size);clear ht8 kQ hT HP7 Yr zH;obtain⟨s0,Fp⟩:=bu (Ps.iY f3 10 156 20);have gJ:=ag Fp;have Qm:=ag (show s0.ino=20/\s0.tb=10/\(∀n,¬s0.dy n)/\s0.g 1=eu.zeros from by rw[Fp];refine⟨rfl,rfl,λn h=>h,?_⟩;show CX f3 [] 1=eu.zeros;unfold CX;show(match vw f3 1 with|some y=>y.2|none=>eu.zeros)=_;rw[Wl Ac.o 1 ae]);rw[<-Fp] at HP8;clear Fp;have HSe:=ag (show∀W,bT 32 B Q7 W Z f3 s0->oV W T Z->Calls prog 81 #[T,.int .i64 1,.agg #[.int .i64 2,.int .i64 1,.int .i64 0,.int .i64 0,.int .i64 0,.int .i64 0,.int .i64 0,.int .i64 0,.int .i64 0,.int .i64 0,.int .i64 0]] W λe w'=>e= .returned (.int .i64 0)/\jJ 32 B Q7 W w' Z f3 (dX s0 1 (aX (jZ.dN 1 0 0))) from λW hW hT=>
  lK hW hT Fh.o (n:=1) ae (by rw[Qm.o.1];omega) (by rw[Qm.o.1];omega) (by rw[Qm.o.2.1];omega) (aX (jZ.dN 1 0 0)) aB)
 go_wp2_with fail;refine(HSe.o w8 HP8.o RY.o).mono ?_;rintro e w9 ⟨rfl,Za⟩;have HP9:=ag Za.1;have Fz:=ag (U8.o.kq Za.2 HLm.o);have U7:=ag (U6.o.ay Za.2 HU7.o);have HU9:=ag (show∀q,Up Q7 w8 w9 q->S q\/w.heap.size<=q from λq hq=>by
  rcases hq with h1|h1
  ·exact HU7.o q h1
  ·exact .inr (by have:=U6.o.size;omega))
 generalize Up Q7 w8 w9=Q9 at*;obtain⟨s1,iO⟩:=bu (dX s0 1 (aX (jZ.dN 1 0 0)));have HI1:=ag (show s1.tb=10/\(∀n,s1.dy n↔n∈[1])/\s1.g 1=MC from by
  rw[iO];refine⟨Qm.o.2.1,λn=>?_,?_⟩
  ·show n=1\/s0.dy n↔_;rw[List.mem_singleton];exact⟨λh=>h.elim id λh=>(Qm.o.2.2.1 n h).elim,.inl⟩
  ·show ru s0.g 1 (aN.putAt (s0.g 1) 0 (aX (jZ.dN 1 0 0))) 1=MC;rw[gW,Qm.o.2.2.2];rfl)
 rw[<-iO] at HP9;obtain⟨l0,l1,l2,l3⟩:=Fz.o.c4;clear Za iO HP8 U8 U6 RY HSe Qm gJ HU7 HLm Fh;go_wp2_with fail;refine(show Calls prog 85 #[.agg #[.int .i64 10,.int .i64 11,.int .i64 156,.int .i64 20],.int .i64 56] w9 _ from zF (tb:=10) (np:=156) (ino:=20) ae ae ae w9).mono ?_;rintro e Ig ⟨⟨a10,c10,rfl,ak7⟩,A8⟩;have ag1:=ag (HP9.o.on A8);have ag2:=ag (U7.o.on A8);have ag3:=ag (show Bytes Ig Ig.heap.size a10 56 OG from ak7.arr (by rw[show(AU 10 156 20).length=56 from AZ];decide));have avI:=ag (show∀b o,a10=some ⟨b,o,none⟩->¬Q9 b from λb o e=>HP9.o.aV (ak7.aP b (by rw[e];rfl)).1);clear ak7 A8 l0 l1 l2 l3 Fz;have Dw:=ag (vk (L:=[1]) (tx:=OG) (c:=c10) ag1.o au HI1.o.2.1 Ac.o.no (ak4 Ac.o) (by have:=Ac.o.ct;simp;omega) (by rw[Ac.o.sq];decide) (by
  obtain⟨R,hf,_⟩:=ag1.o.ft;have:=agZ Ac.o hf.hS.uq;simp;omega) (agY Ac.o) (by rw[HI1.o.1];omega) (λq sq hq h1 h2=>by
   rw[List.mem_singleton] at hq;subst hq;rw[Ac.o.sq] at h1 h2;obtain rfl:sq=2:=by simp at h2;omega
   rw[HGh.o,Ac.o.ep,HI1.o.2.2];exact .inr (.inl rfl)) (by rw[HGh.o,Ac.o.ep,Ac.o.sq];exact .inr (.inr rfl)) ag3.o avI.o)
 go_wp2_with fail;refine Dw.o.mono ?_;rintro e ug ⟨rfl,f11,ak8,ak9⟩;have ado:=ag ak8.1;have ala:=ag (ag2.o.ay ak8.2 HU9.o);have avJ:=ag (show∀q,Up Q9 Ig ug q->S q\/w.heap.size<=q from λq hq=>by
  rcases hq with h1|h1
  ·exact HU9.o q h1
  ·exact .inr (by have:=ag2.o.size;omega))
 have apP:=ag ak9;clear ak8 ak9 Dw;go_wp2;go_ret2;obtain⟨R,hf,_,hR⟩:=ado.o.ft;exact⟨⟨_,rfl⟩,R,f11,hf,apN Ac.o HGh.o HI1.o.2.2 apP.o hf.hS.uq,apP.o.C.trans zD.o,λq hq=>avJ.o q (hR q hq),ala.o⟩
end
end
section
open Go.RowKit Go.Maps Go.ChangeMaps eX eu Ed Opn

namespace Ed
def U3:Enc (Nat×Value):=⟨Prod.fst,iV,Prod.snd,Wp⟩
def rP:Value:=rq (aX (jZ.dN 1 0 0))
def x9 (F U K I:Nat) (r1:Int):Array Value:=#[.pointer (some ⟨F,0,none⟩),.int .i64 10,.int .i64 11,.int .i64 156,.int .i64 20,.int .i64 64,.map (some U),.map (some K),.map (some I),.slice none 0 0,.int .i64 0,.int .i64 r1,.int .i64 0,.int .i64 0]
theorem agQ:(jZ.eqB (aN.qE MC ((0:Nat):Int)) (aX (jZ.dN 1 0 0))=true/\aN.aG MC ((0:Nat):Int)=0)/\jZ.eqB (aN.qE MC ((1:Nat):Int)) jZ.zN=true/\aN.aG MC ((1:Nat):Int)=0:=lH
structure Fo (f:Fm):Prop where
 fc:Fc 32 f
 v1:∃e,lW f 1=some e/\e.d=MC
 vn:∀q,2<=q->lW f q=none
theorem Fo.of {f:Fm} (hc:Fc 32 f) (h1:vw f 1=some (⟨1,1,2,2⟩,MC)) (hn:∀q,2<=q->vw f q=none):Fo f:=by
 refine⟨hc,?_,λq hq=>?_⟩
 ·obtain⟨e,he,hd,_⟩:=Ba h1;exact⟨e,he,hd⟩
 ·have:=hn q hq;unfold vw at this
  cases hz:lW f q with
  |none=>rfl
  |some e=>rw[hz] at this;cases this
variable {B:Nat} {R:Nat->Prop} {w:World} {f:Fm}
theorem Ey (h:dB 32 B R w f) (ho:Fo f):Calls prog 176 #[f.F,.int .u32 1] w λe w'=>(∃a c,e= .returned (.tuple #[.slice a 64 c,.int .i64 0])/\64<=c/\Bytes w' w'.heap.size a 64 MC)/\dB 32 B R w' f/\Kq R w w':=by obtain⟨e,he,hd⟩:=ho.v1;refine(zh h ho.fc 1 ae ae ae e he).mono ?_;rintro e w' ⟨⟨v,rfl,hv⟩,hf,hk⟩;rw[hd] at hv;obtain⟨a,c,rfl,hc⟩:=hv.bZ OQ;exact⟨⟨a,c,rfl,hc,hv.arr (by rw[OQ];decide)⟩,hf,hk⟩
theorem RN (h:dB 32 B R w f) (ho:Fo f) {q:Nat} (hq:2<=q) (RZ:q<=10):Calls prog 176 #[f.F,.int .u32 q] w λe w'=>e= .returned (.tuple #[.slice none 0 0,.int .i64 60])/\dB 32 B R w' f/\Kq R w w':=by refine(vF h ho.fc q ae ae ae (ho.vn q hq)).mono ?_;rintro e w' ⟨rfl,hb⟩;exact⟨rfl,h.on hb,Kq.of hb⟩
end Ed
end
end Go.Proofs.YtnieckfelfoopaaGreat

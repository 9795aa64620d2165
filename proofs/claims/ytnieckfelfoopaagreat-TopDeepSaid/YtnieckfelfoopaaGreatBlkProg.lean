import Derived.Test.YtnieckfelfoopaaGreatGcBest
import Derived.Deep.CutBlock
import Derived.Laws.EntriesVeiled
open Go.Proofs.Tryz (prog)
namespace Go.Proofs.YtnieckfelfoopaaGreat
open Lib (hid)
set_option maxRecDepth 100000
set_option maxHeartbeats 16000000
section
open Go.RowKit

theorem yx {f : FuncId} {fn : Func} {c : Code} (hf : prog.funcs[f]? = some fn) (aq3 : (fn.name == "runtime.NumGoroutine") = false) (hb : fn.body = some c) (args : Array Value) (w : World) :
  (callFunc f args).run prog w= .ok (.enter f args) w:=by
 have h1 : fn.name ≠ "runtime.NumGoroutine" := by simpa using aq3
 simp[callFunc,hf,h1,hb]
theorem TL (a:Option Addr) (n c:Nat) (l:List Bk) (w:World) (hx:jv 4 PN w w.heap.size a n l) (hn:n<=1000):
  Calls prog 222 #[.slice a n c] w λe w'=>e= .returned (.int .i64 (Gc.least l:Int))/\Below w.heap.size w w':=by
 have HC:=ag (Jf Gc.good Gc.oN _ _ 255 257 #[] #[] rfl rfl a n c l w hx hn (yx Tryz.func255 az rfl) (yx Tryz.func257 az rfl)
  (λw' x _ _=>EP x w') (λw' x y _ _ _=>Lh x y w'))
 have hl:=hx.len;have HX:=ag hx;have HL:=ag (show Gc.least l=Gc.Jc l (Gc.best Gc.good Gc.oN l n) by rw[<-hl];rfl);clear hx
 go_in
 go_wp2_with fail;refine HC.o.mono ?_;rintro e w1 ⟨rfl,hb⟩;have HB:=ag hb;clear hb
 cases ho:Gc.best Gc.good Gc.oN l n with
 |none=>
  rw[ho] at HL;have e0:Gc.oI none= -1:=rfl;rw[e0];go_wp2;go_ret;exact⟨by rw[HL.o];rfl,HB.o⟩
 |some k=>
  rw[ho] at HL;have hk:=(Gc.gZ ho).1;have e0:Gc.oI (some k)=(k:Int):=rfl;have e1:decide ((k:Int)<0)=false:=decide_eq_false ae;have e2:(0:Int)<=(k:Int):=ae;have e3:(k:Int)<(n:Int):=ae;obtain⟨b,o,rfl,_,_,_,c2,_⟩:=Nl (HX.o.below HB.o) (k:=k) hk;rw[e0];clear ho e0;go_wp2;go_ret;exact⟨by rw[HL.o];rfl,HB.o⟩
theorem Jd (a:Option Addr) (n c:Nat) (l:List Bk) (w:World) (hx:jv 4 PN w w.heap.size a n l) (hn:n<=1000):
  Calls prog 221 #[.slice a n c] w λe w'=>e= .returned (.int .i64 (Gc.greatest l:Int))/\Below w.heap.size w w':=by
 have HC:=ag (Jf Gc.good Gc.more _ _ 255 256 #[] #[] rfl rfl a n c l w hx hn (yx Tryz.func255 az rfl) (yx Tryz.func256 az rfl)
  (λw' x _ _=>EP x w') (λw' x y _ _ _=>PS x y w'))
 have hl:=hx.len;have HX:=ag hx;have HL:=ag (show Gc.greatest l=Gc.Jc l (Gc.best Gc.good Gc.more l n) by rw[<-hl];rfl);clear hx
 go_in
 go_wp2_with fail;refine HC.o.mono ?_;rintro e w1 ⟨rfl,hb⟩;have HB:=ag hb;clear hb
 cases ho:Gc.best Gc.good Gc.more l n with
 |none=>
  rw[ho] at HL;have e0:Gc.oI none= -1:=rfl;rw[e0];go_wp2;go_ret;exact⟨by rw[HL.o];rfl,HB.o⟩
 |some k=>
  rw[ho] at HL;have hk:=(Gc.gZ ho).1;have e0:Gc.oI (some k)=(k:Int):=rfl;have e1:decide ((k:Int)<0)=false:=decide_eq_false ae;have e2:(0:Int)<=(k:Int):=ae;have e3:(k:Int)<(n:Int):=ae;obtain⟨b,o,rfl,_,_,_,c2,_⟩:=Nl (HX.o.below HB.o) (k:=k) hk;rw[e0];clear ho e0;go_wp2;go_ret;exact⟨by rw[HL.o];rfl,HB.o⟩
namespace Gc
def count (s:Nat) (l:List Bk):Nat:=(l.filter λx=>decide (x.st=s)).length
theorem count_le (s:Nat) (l:List Bk):count s l<=l.length:=List.length_filter_le _ _
theorem IK (s:Nat) (l:List Bk) {k:Nat} (hk:k<l.length):count s (l.take (k+1))=count s (l.take k)+if (at_ l k).st=s then 1 else 0:=by
 unfold count;rw[List.take_add_one,List.getElem?_eq_getElem hk,List.filter_append,List.length_append,at_,List.getD_eq_getElem?_getD,List.getElem?_eq_getElem hk];show _+(List.filter _ [l[k]]).length=_+if l[k].st=s then 1 else 0
 by_cases h:l[k].st=s
 ·rw[if_pos h,List.filter_cons_of_pos (by simpa using h)];rfl
 ·rw[if_neg h,List.filter_cons_of_neg (by simpa using h)];rfl
end Gc
theorem EO (s:Nat) (a:Option Addr) (n c:Nat) (l:List Bk) (w:World) (hx:jv 4 PN w w.heap.size a n l) (hn:n<=1000):
  Calls prog 210 #[.slice a n c,.int .i64 s] w λe w'=>e= .returned (.int .i64 (Gc.count s l:Int))/\Below w.heap.size w w':=by
 have HX:=ag hx;have hl:=hx.len;have jq:=Gs;clear hx
 go_in
 go_wp2
 go_loopw [5,7,10] (λm _ i wr=>∃k:Nat,k<=n/\i= .int .i64 k/\m= .int .i64 (Gc.count s (l.take k):Int)/\Below w.heap.size w wr) (λ_ _ i _=>n-(intOf i).toNat)
 case atStart=>exact⟨0,ae,rfl,rfl,Below.refl _ _⟩
 case round=>
  obtain⟨k,hk,rfl,rfl,hb⟩:=hrel;have vH:=ag hb;clear hb;by_cases aU:k<n
  ·obtain⟨b,o,rfl,kF,c0,c1,c2,c3⟩:=Nl (HX.o.below vH.o) (k:=k) aU;have hk0:(0:Int)<=(k:Int):=ae;have iy:(k:Int)<(n:Int):=ae;have HC:=ag (Gc.IK s l (k:=k) ae);have zy:=Nat.le_trans (Gc.count_le s (l.take k)) (by rw[List.length_take];exact Nat.min_le_left _ _);generalize Gc.at_ l k=x at*;generalize Gc.count s (l.take k)=q at*;by_cases he:x.st=s
   ·have he2:((x.st:Int)==(s:Int))=true:=by rw[beq_iff_eq,he]
    have HE:=ag he;clear he;go_wp2_with fail;go_roundw
    case rel=>exact⟨k+1,ae,by go_num,by rw[HC.o,if_pos HE.o];go_num,vH.o.alloc vH.o.size _⟩
    case measure=>simp[intOf];omega
   ·have he2:((x.st:Int)==(s:Int))=false:=by rw[beq_eq_false_iff_ne];omega
    have HE:=ag he;clear he;go_wp2_with fail;go_roundw
    case rel=>exact⟨k+1,ae,by go_num,by rw[HC.o,if_neg HE.o];rfl,vH.o.alloc vH.o.size _⟩
    case measure=>simp[intOf];omega
  ·obtain rfl:k=n:=ae;go_wp2_with fail;go_ret;exact⟨by rw[List.take_of_length_le ae];rfl,vH.o⟩
end
section
open Go.RowKit

namespace Gc
end Gc
namespace Gc
end Gc
end
section
open Go.RowKit

section
variable {NB B:Nat} {S:Nat->Prop} {w:World} {g:Mg}
def ajC (w:World) (ML k:Nat) (y:Bk):World:=(((w.setCell ⟨ML,k*4,none⟩ (.int .i64 (y.st:Int))).setCell ⟨ML,k*4+1,none⟩ (.int .i64 (y.live:Int))).setCell ⟨ML,k*4+2,none⟩ (.int .i64 (y.aQ:Int))).setCell ⟨ML,k*4+3,none⟩ (.int .i64 (y.nx:Int))
theorem gu.setRow (h:gu NB B S w g) {k:Nat} (hk:k<NB) (y:Bk):gu NB B S (ajC w g.ML k y) {g with l:=g.l.set k y}:=by have hl:=h.len;have h0:=h.Je hk (j:=0) ae (.int .i64 (y.st:Int)) {Gc.at_ g.l k with st:=y.st} rfl;have h1:=h0.Je hk (j:=1) ae (.int .i64 (y.live:Int)) {Gc.at_ g.l k with st:=y.st,live:=y.live} (by rw[at_set _ _ ae];rfl);simp only[List.set_set] at h1;have h2:=h1.Je hk (j:=2) ae (.int .i64 (y.aQ:Int)) {y with nx:=(Gc.at_ g.l k).nx} (by rw[at_set _ _ ae];rfl);simp only[List.set_set] at h2;have h3:=h2.Je hk (j:=3) ae (.int .i64 (y.nx:Int)) y (by rw[at_set _ _ ae];rfl);simp only[List.set_set] at h3;exact h3
theorem ams {T:Nat->Prop} {a b:World} (h:Kq T a b) {ML k:Nat} (hT:T ML) (y:Bk):Kq T a (ajC b ML k y):=
 (((h.setCell (p:=⟨ML,k*4,none⟩) (.inl hT) _).setCell (p:=⟨ML,k*4+1,none⟩) (.inl hT) _).setCell (p:=⟨ML,k*4+2,none⟩) (.inl hT) _).setCell (p:=⟨ML,k*4+3,none⟩) (.inl hT) _
theorem PT (h:gu NB B S w g) {k:Nat} (hk:k<NB) (hv:0<(Gc.at_ g.l k).live) (ho:g.opn=(k:Int)):
  Calls prog 313 #[g.M,.int .i64 k] w λe w'=>e= .returned (.tuple #[])/\gu NB B S w' {g with l:=g.l.set k {Gc.at_ g.l k with st:=2},opn:= -1}/\Kq (λq=>q=g.M\/q=g.ML) w w':=by
 have hlen:=h.len;have m1:=h.m1;have r0:=(h.r0 hk).1;have f0:=(h.r0 hk).2;have h1:=h.Je hk (j:=0) ae (.int .i64 2) {Gc.at_ g.l k with st:=2} rfl;have k1:Kq (λq=>q=g.M\/q=g.ML) w (w.setCell ⟨g.ML,k*4+0,none⟩ (.int .i64 2)):=(Kq.refl _ w).setCell (p:=⟨g.ML,k*4+0,none⟩) (.inl (.inr rfl)) _;have n1:=h1.m1;have n2:=h1.m2;have f2:=h1.amo 2;have s1:=(h1.r1 hk).1;rw[at_set _ _ ae] at s1;have h2:=h1.aq4 (-1);have k2:=k1.setCell (p:=⟨g.M,2,none⟩) (.inl (.inl rfl)) (.int .i64 (-1));simp only[Nat.add_zero] at h1 h2 k2 n1 n2 f2 s1;rw[ho] at n2;have hz:(((Gc.at_ g.l k).live:Int)==0)=false:=by rw[beq_eq_false_iff_ne];omega
 generalize hx:Gc.at_ g.l k=x at*;have g1:(0:Int)<=(k:Int):=ae;have g2:(k:Int)<(NB:Int):=ae;have H2:=ag h2;have rD:=ag k2;clear h h1 h2 k1 k2 hx ho
 go_in
 go_upto_region 1 with fail;generalize w.setCell ⟨g.ML,k*4,none⟩ (.int .i64 2)=w1 at*;clear m1 r0 f0;go_wp2;go_end0;exact⟨rfl,H2.o,rD.o⟩
def iF (x:Bk):Bool:=(x.st:Int)==0
def YQ (NB B:Nat) (S:Nat->Prop) (g:Mg) (w:World) (o:Option Nat) (e:Ending) (w':World):Prop:=match o with
 |none=>e= .returned (.bool false)/\Below w.heap.size w w'
 |some a=>e= .returned (.bool true)/\gu NB B S w' {g with l:=g.l.set a ⟨1,0,(Gc.at_ g.l a).aQ,0⟩,opn:=(a:Int)}/\Kq (λq=>q=g.M\/q=g.ML) w w'
theorem PR (h:gu NB B S w g):
  Calls prog 312 #[g.M] w (YQ NB B S g w (Gc.best iF Gc.oN g.l NB)):=by
 have HH:=ag h;have hlen:=h.len;have oC:=h.nb;have jq:=Gs;have m1:=h.m1;clear h
 go_in
 go_wp2
 go_loopw [3,4,5,11] (λv _ _ i wr=>∃k:Nat,k<=NB/\i= .int .i64 k/\v= .int .i64 (Gc.oI (Gc.best iF Gc.oN g.l k))/\Below w.heap.size w wr) (λ_ _ _ i _=>NB-(intOf i).toNat)
 case atStart=>exact⟨0,ae,rfl,rfl,Below.refl _ _⟩
 case round=>
  obtain⟨k,hk,rfl,rfl,hb⟩:=hrel;have vH:=ag hb;clear hb m1;by_cases aU:k<NB
  ·have hr:=HH.o.on vH.o;have c0:=(hr.r0 aU).1;have c1:=(hr.r1 aU).1;have c2:=(hr.r2 aU).1;have c3:=(hr.r3 aU).1;have hk0:(0:Int)<=(k:Int):=ae;have iy:(k:Int)<(NB:Int):=ae;clear hr;have hE:Gc.best iF Gc.oN g.l (k+1)=match Gc.best iF Gc.oN g.l k with
    |none=>if iF (Gc.at_ g.l k) then some k else none
    |some a=>if iF (Gc.at_ g.l k)&&Gc.oN (Gc.at_ g.l k) (Gc.at_ g.l a) then some k else some a:=rfl
   generalize Gc.at_ g.l k=x at*;go_upto_region 5 with fail;have SI:=ag (aF.new wr 296 #[.int .i64 (x.st:Int),.int .i64 (x.live:Int),.int .i64 (x.aQ:Int),.int .i64 (x.nx:Int)]);have dw:=ag (vH.o.alloc vH.o.size (.cells #[.int .i64 (x.st:Int),.int .i64 (x.live:Int),.int .i64 (x.aQ:Int),.int .i64 (x.nx:Int)] 296));generalize wr.heap.size=gx at*;generalize wr.alloc _=w1 at*;have gJ:=ag (show Below w.heap.size w w1.drew/\aF w1.drew gx 296 #[.int .i64 (x.st:Int),.int .i64 (x.live:Int),.int .i64 (x.aQ:Int),.int .i64 (x.nx:Int)] from⟨dw.o.drew,SI.o⟩);clear c0 c1 c2 c3
   cases hp:iF x
   ·have HE:=ag (show Gc.best iF Gc.oN g.l (k+1)=Gc.best iF Gc.oN g.l k by rw[hE,hp];cases Gc.best iF Gc.oN g.l k<;>rfl);have NK:((x.st:Int)==0)=false:=hp;clear hE hp;refine iT (λW'=>Below w.heap.size w W'/\aF W' gx 296 #[.int .i64 (x.st:Int),.int .i64 (x.live:Int),.int .i64 (x.aQ:Int),.int .i64 (x.nx:Int)]) gJ.o (λbJ=>?_);refine aS 0 gx 0 ?_;refine jH 1 (x.st:Int) (λ_ aI=>aI.2.aj (i:=0) rfl) ?_;refine fE 2 (.bool false) ?_;refine fE 3 (.bool false) ?_;refine rM 4 ?_;refine rM 5 ?_;refine rM 6 ?_;refine rM 7 ?_;refine rM 8 ?_;refine rM 9 ?_;refine rM 10 ?_;refine rM 11 ?_;refine rM 12 ?_;refine rM 13 ?_;refine rM 14 ?_;refine rM 15 ?_;refine rM 16 ?_;refine rM 17 ?_;refine rM 18 ?_;refine fE 19 (.bool false) ?_;refine gB ?_;have PQ:=ag bJ.1;clear bJ;go_wp2_with fail;go_roundw
    case rel=>exact⟨k+1,ae,by go_num,(congrArg (λo=>Value.int .i64 (Gc.oI o)) HE.o).symm,PQ.o⟩
    case measure=>simp[intOf];omega
   ·have NK:((x.st:Int)==0)=true:=hp
    cases ho:Gc.best iF Gc.oN g.l k with
    |none=>
     have HE:=ag (show Gc.best iF Gc.oN g.l (k+1)=some k by rw[hE,hp,ho];rfl);clear hE;have aaE:Gc.oI none= -1:=rfl;rw[aaE];refine iT (λW'=>Below w.heap.size w W'/\aF W' gx 296 #[.int .i64 (x.st:Int),.int .i64 (x.live:Int),.int .i64 (x.aQ:Int),.int .i64 (x.nx:Int)]) gJ.o (λbJ=>?_);refine aS 0 gx 0 ?_;refine jH 1 (x.st:Int) (λ_ aI=>aI.2.aj (i:=0) rfl) ?_;refine fE 2 (.bool true) ?_;refine fE 3 (.bool true) ?_;refine ik 4 (-1) ?_;refine fE 5 (.bool true) ?_;refine fE 6 (.bool true) ?_;refine rM 7 ?_;refine rM 8 ?_;refine rM 9 ?_;refine rM 10 ?_;refine rM 11 ?_;refine rM 12 ?_;refine rM 13 ?_;refine rM 14 ?_;refine rM 15 ?_;refine rM 16 ?_;refine rM 17 ?_;refine fE 18 (.bool true) ?_;refine fE 19 (.bool true) ?_;refine gB ?_;have PQ:=ag bJ.1;clear bJ;go_wp2_with fail;go_roundw
     case rel=>exact⟨k+1,ae,by go_num,(congrArg (λo=>Value.int .i64 (Gc.oI o)) HE.o).symm,PQ.o⟩
     case measure=>simp[intOf];omega
    |some q=>
     have hq:q<k:=(Gc.gZ ho).1;have TQ:Gc.oI (some q)=(q:Int):=rfl;have hnn:((q:Int)== -1)=false:=by rw[beq_eq_false_iff_ne];omega
     have hq0:(0:Int)<=(q:Int):=ae;have ED:(q:Int)<(NB:Int):=ae;have HY:=ag (λ(W':World) (hW:Below w.heap.size w W')=>((HH.o.on hW).r2 (k:=q) ae).1);rw[TQ];have hE2:Gc.best iF Gc.oN g.l (k+1)=if Gc.oN x (Gc.at_ g.l q) then some k else some q:=by rw[hE,hp,ho];show(if (true&&Gc.oN x (Gc.at_ g.l q))=true then some k else some q)=_;rw[Bool.true_and]
     generalize Gc.at_ g.l q=y at*;have HE:=ag hE2;clear hE hE2;refine iT (λW'=>Below w.heap.size w W'/\aF W' gx 296 #[.int .i64 (x.st:Int),.int .i64 (x.live:Int),.int .i64 (x.aQ:Int),.int .i64 (x.nx:Int)]) gJ.o (λbJ=>?_);refine aS 0 gx 0 ?_;refine jH 1 (x.st:Int) (λ_ aI=>aI.2.aj (i:=0) rfl) ?_;refine fE 2 (.bool true) ?_;refine fE 3 (.bool true) ?_;refine ik 4 (q:Int) ?_;refine fE 5 (.bool false) ?_;refine fE 6 (.bool false) ?_;refine aS 7 gx 2 ?_;refine jH 8 (x.aQ:Int) (λ_ aI=>aI.2.aj (i:=2) rfl) ?_;refine dP 9 g.M 0 ?_;refine aS 10 g.M 0 ?_;refine aS 11 g.M 1 ?_;refine tC 12 (.slice (some ⟨g.ML,0,none⟩) NB g.cap) (λ_ aI=>(HH.o.on aI.1).m1) ?_;refine eF 13 (q:Int) ?_;refine aS 14 g.ML (q*4) ?_;refine aS 15 g.ML (q*4+2) ?_;refine jH 16 (y.aQ:Int) (λ_ aI=>HY.o _ aI.1) ?_;refine fE 17 (.bool (decide (x.aQ<y.aQ))) ?_;refine fE 18 (.bool (decide (x.aQ<y.aQ))) ?_;refine fE 19 (.bool (decide (x.aQ<y.aQ))) ?_;refine gB ?_;have PQ:=ag bJ.1;clear bJ;have HW:=ag (show Gc.oN x y=decide (x.aQ<y.aQ) from rfl)
     cases hl:decide (x.aQ<y.aQ)
     ·rw[HW.o,hl,if_neg au] at HE;clear HW;go_wp2_with fail;go_roundw
      case rel=>exact⟨k+1,ae,by go_num,(congrArg (λo=>Value.int .i64 (Gc.oI o)) HE.o).symm,PQ.o⟩
      case measure=>simp[intOf];omega
     ·rw[HW.o,hl,if_pos rfl] at HE;clear HW;go_wp2_with fail;go_roundw
      case rel=>exact⟨k+1,ae,by go_num,(congrArg (λo=>Value.int .i64 (Gc.oI o)) HE.o).symm,PQ.o⟩
      case measure=>simp[intOf];omega
  ·obtain rfl:k=NB:=ae;have hr:=HH.o.on vH.o;have HR:=ag hr;clear hr
   cases ho:Gc.best iF Gc.oN g.l k with
   |none=>
    have aaE:Gc.oI none= -1:=rfl;rw[aaE];have HO:=ag ho;clear ho;go_wp2_with fail;go_ret;unfold YQ;rw[HO.o];exact⟨rfl,vH.o⟩
   |some a=>
    have hq:a<k:=(Gc.gZ ho).1;have TQ:Gc.oI (some a)=(a:Int):=rfl;have hnn:((a:Int)== -1)=false:=by rw[beq_eq_false_iff_ne];omega
    have hq0:(0:Int)<=(a:Int):=ae;have ED:(a:Int)<(k:Int):=ae;rw[TQ];have HO:=ag ho;clear ho;go_upto_region 10 with fail;have hd:=HR.o.on (ak wr);have m1:=hd.m1;have r2:=(hd.r2 hq).1;have hx:∃x,x=Gc.at_ g.l a:=⟨_,rfl⟩
    obtain⟨x,hx⟩:=hx;rw[<-hx] at r2;have HX:=ag hx;have HD:=ag hd;have HK0:=ag (((Kq.of vH.o).mono (T:=λq=>q=g.M\/q=g.ML) (T':=λq=>q=g.M\/q=g.ML) λ_ h=>h).on (ak wr));clear hd hx;refine iT (λW'=>W'.cell? ⟨g.M,1,none⟩=some (.slice (some ⟨g.ML,0,none⟩) k g.cap)/\W'.cell? ⟨g.ML,a*4+2,none⟩=some (.int .i64 (x.aQ:Int))) ⟨m1,r2⟩ (λbJ=>?_);generalize wr.drew=w2 at*;have HS:=ag (show gu k B S ((((w2.setCell ⟨g.ML,a*4,none⟩ (.int .i64 1)).setCell ⟨g.ML,a*4+1,none⟩ (.int .i64 0)).setCell ⟨g.ML,a*4+2,none⟩ (.int .i64 (x.aQ:Int))).setCell ⟨g.ML,a*4+3,none⟩ (.int .i64 0)) {g with l:=g.l.set a ⟨1,0,x.aQ,0⟩} from HD.o.setRow hq ⟨1,0,x.aQ,0⟩);have HK:=ag (show Kq (λq=>q=g.M\/q=g.ML) w ((((w2.setCell ⟨g.ML,a*4,none⟩ (.int .i64 1)).setCell ⟨g.ML,a*4+1,none⟩ (.int .i64 0)).setCell ⟨g.ML,a*4+2,none⟩ (.int .i64 (x.aQ:Int))).setCell ⟨g.ML,a*4+3,none⟩ (.int .i64 0)) from ams HK0.o (.inr rfl) ⟨1,0,x.aQ,0⟩);have n1:=HS.o.m1;have n2:=(HS.o.r2 hq).1;rw[at_set _ _ ae] at n2;have n3:=HS.o.m2;have n4:=HS.o.amo 2;obtain⟨x0,y0⟩:=HD.o.r0 hq;obtain⟨x1,y1⟩:=HD.o.r1 hq;obtain⟨x2,y2⟩:=HD.o.r2 hq;obtain⟨x3,y3⟩:=HD.o.r3 hq;rw[<-HX.o] at x0 x1 x2 x3;refine dP 0 g.M 0 ?_;refine aS 1 g.M 0 ?_;refine aS 2 g.M 1 ?_;refine tC 3 (.slice (some ⟨g.ML,0,none⟩) k g.cap) (λ_ aI=>aI.1) ?_;refine eF 4 (a:Int) ?_;refine dP 5 g.M 0 ?_;refine aS 6 g.M 0 ?_;refine aS 7 g.M 1 ?_;refine tC 8 (.slice (some ⟨g.ML,0,none⟩) k g.cap) (λ_ aI=>aI.1) ?_;refine eF 9 (a:Int) ?_;refine aS 10 g.ML (a*4) ?_;refine aS 11 g.ML (a*4+2) ?_;refine jH 12 (x.aQ:Int) (λ_ aI=>aI.2) ?_;refine fE 13 (.agg #[.int .i64 1,.int .i64 0,.int .i64 (x.aQ:Int),.int .i64 0]) ?_;refine aS 14 g.ML (a*4) ?_;refine dm 15 (λK' hK=>?_);go_simp;refine hK.out _ _ ⟨n1,n2⟩ (λdH=>?_)
    try simp only[aO]
    refine gB ?_;clear bJ dH m1 r2 x0 x1 x2 x3 y0 y1 y2 y3 n1 n2;generalize (((w2.setCell ⟨g.ML,a*4,none⟩ (.int .i64 1)).setCell ⟨g.ML,a*4+1,none⟩ (.int .i64 0)).setCell ⟨g.ML,a*4+2,none⟩ (.int .i64 (x.aQ:Int))).setCell ⟨g.ML,a*4+3,none⟩ (.int .i64 0)=w3 at*;have wJ:=ag (HS.o.aq4 (a:Int));have rD:=ag (HK.o.setCell (p:=⟨g.M,2,none⟩) (.inl (.inl rfl)) (.int .i64 a));go_wp2;go_ret;unfold YQ;rw[HO.o];have hs:=wJ.o;rw[HX.o] at hs;exact⟨rfl,hs,rD.o⟩
end
end
section
open Go.RowKit

section
variable {NB B:Nat} {S:Nat->Prop} {w:World} {g:Mg}
theorem gu.re {w0 wa wb:World} (h:gu NB B (Up S wa wb) w g) (h0:B<=w0.heap.size) (hM:g.M<w0.heap.size) (hL:g.ML<w0.heap.size) (h1:w0.heap.size<=wa.heap.size) (hs:wb.heap.size<=w.heap.size):gu NB B (Up S w0 w) w g:=
 ⟨h.hM,h.hL,h.hc.re h0 h1 hs,h.ne,λh2=>h.sM (.inl (ji h2 hM)),λh2=>h.sL (.inl (ji h2 hL)),h.bM,h.bL,h.nb⟩
end
end
section
open Go.RowKit

section
variable {NB B:Nat} {S:Nat->Prop} {w:World} {g:Mg}
def Nj (g:Mg) (k i:Nat) (bs:List UInt8):Mg:={g with bl:=upd g.bl k (zO (g.bl k) i bs),l:=g.l.set k ⟨if i+1=8 then 2 else(Gc.at_ g.l k).st,(Gc.at_ g.l k).live+1,(Gc.at_ g.l k).aQ,i+1⟩,opn:=if i+1=8 then-1 else g.opn}
def Put (NB B:Nat) (S:Nat->Prop) (g:Mg) (w:World) (k i:Nat) (bs:List UInt8) (e:Ending) (w':World):Prop:=
 e= .returned (.tuple #[.int .i64 k,.int .i64 i,.int .i64 0])/\gu NB B (Up S w w') w' (Nj g k i bs)/\Kq (Sm g S) w w'
theorem KZ (h:gu NB B S w g) {k i:Nat} (hk:k<NB) (ho:g.opn=(k:Int)) (hi:i<8) (hx:(Gc.at_ g.l k).nx=i) (Ez:(Gc.at_ g.l k).live<=1000) (hn:(g.bl k).nx=i) (bK:(g.bl k).bad=false) (aW:(g.bl k).broken=false)
  (a:Option Addr) (c:Nat) (bs:List UInt8) (YJ:Own aH 5 w 0 (.slice a 96 c) bs) (EE:∀q,Value.ownBlock (.slice a 96 c)=some q->¬S q):
  Calls prog 282 #[g.M,.slice a 96 c] w (Put NB B S g w k i bs):=by
 have HR:=ag (BD h);have HG:=ag (dU h.hc);have HH:=ag h;have HX:=ag YJ;have Wj:=ag EE;have HN:=ag hn;have dw:=ag bK;have dA:=ag aW;have HXn:=ag hx;have HXl:=ag Ez;have HO:=ag ho;have m0:=h.m0;have g1:(0:Int)<=(k:Int):=ae;have g2:(k:Int)<(NB:Int):=ae;clear h YJ EE hn bK aW hx Ez ho
 go_in
 go_wp2;go_step3;go_wp2_with fail;refine(HR.o).mono ?_;rintro e w_ ⟨rfl,rfl⟩;go_wp2_with fail;refine HG.o.mono ?_;rintro e w1 ⟨rfl,hb⟩;have hf:=MB (.int .i64 NB) (.int .i64 8) (.int .i64 64);have uZ:=ag (HH.o.on hb);have mF:=ag hb;have n2:=uZ.o.m2;rw[HO.o] at n2;have hno:((k:Int) != -1)=true:=by rw[bne_iff_ne];omega
 have r3:=(uZ.o.r3 hk).1;rw[HXn.o] at r3;have n0:=uZ.o.m0;have n1:=uZ.o.m1;clear hb m0;unfold uf;go_wp2_with fail;go_step3;go_wp2_with fail
 go_loopw [8,9,10,11] (λv8 v9 v10 _ wr=>v8= .int .i64 0/\v9= .int .i64 0/\v10= .int .i64 40/\wr=w1) (λ_ _ _ _ _=>0)
 case atStart=>exact⟨rfl,rfl,rfl,rfl⟩
 case round=>
  obtain⟨rfl,rfl,rfl,hw⟩:=hrel;subst hw;have F8:=ag (HX.o.on mF.o);go_wp2_with fail;refine(vI uZ.o.hc hk hi HN.o dw.o dA.o a c bs F8.o Wj.o).mono ?_;rintro e w2 ⟨rfl,h2,fA⟩;have vO:=ag (uZ.o.alZ (ps':=g.ps) h2 fA (λq hq=>hq));have rD:=ag ((Kq.of mF.o).trans (fA.mono (T':=Sm g S) λq hq=> .inr (.inr hq)));clear h2 fA n2 r3 n0 n1 hno;have r1:=vO.o.r1 hk;have r3:=vO.o.r3 hk;simp only at r1 r3;rw[HXn.o] at r3;obtain⟨r1,f1⟩:=r1;obtain⟨r3,f3⟩:=r3;have Oi:=HXl.o;generalize hx:Gc.at_ g.l k=x at*;have i1:=IntWalk.i64_in ((i:Int)+1) ⟨ae,ae⟩;have i2:=IntWalk.i64_in ((x.live:Int)+1) ⟨ae,ae⟩;go_upto_region 19 with fail;have HXe:=ag hx;have CB:=vO.o.len;simp only at CB;have q3:=vO.o.Je hk (j:=3) ae (.int .i64 ((i+1:Nat):Int)) {x with nx:=i+1} (by simp only[hx];rfl);have q4:=q3.Je hk (j:=1) ae (.int .i64 ((x.live+1:Nat):Int)) ⟨x.st,x.live+1,x.aQ,i+1⟩ (by rw[at_set _ _ (show k<g.l.length by omega)];rfl);simp only[List.set_set] at q4;have e1:((i+1:Nat):Int)=(i:Int)+1:=ae;have e2:((x.live+1:Nat):Int)=(x.live:Int)+1:=ae;rw[e1,e2] at q4;have HG4:=ag q4;have mY:=ag ((rD.o.setCell (p:=⟨g.ML,k*4+3,none⟩) (.inl (.inr (.inl rfl))) (.int .i64 ((i:Int)+1))).setCell (p:=⟨g.ML,k*4+1,none⟩) (.inl (.inr (.inl rfl))) (.int .i64 ((x.live:Int)+1)));clear q3 q4 e1 e2 r1 f1 r3 f3 hx;have Qu:=ag (show w2.heap.size=((w2.setCell ⟨g.ML,k*4+3,none⟩ (.int .i64 ((i:Int)+1))).setCell ⟨g.ML,k*4+1,none⟩ (.int .i64 ((x.live:Int)+1))).heap.size by simp only[World.size_setCell]);generalize ((w2.setCell ⟨g.ML,k*4+3,none⟩ (.int .i64 ((i:Int)+1))).setCell ⟨g.ML,k*4+1,none⟩ (.int .i64 ((x.live:Int)+1)))=w4 at*;have Kv:=ag (HG4.o.on (ak w4));have zx:=ag (mY.o.on (ak w4));have n3:=(Kv.o.r3 hk).1;rw[at_set _ _ (show k<g.l.length by omega)] at n3;have n3:w4.drew.cell? ⟨g.ML,k*4+3,none⟩=some (.int .i64 ((i:Int)+1)):=n3;refine iT (λW'=>W'.cell? ⟨g.ML,k*4+3,none⟩=some (.int .i64 ((i:Int)+1))) n3 (λbJ=>?_);have Le:=ag (show w2.heap.size=w4.drew.heap.size from Qu.o);generalize w4.drew=w5 at*;refine dP 0 g.ML (k*4) ?_;refine aS 1 g.ML (k*4) ?_;refine aS 2 g.ML (k*4+3) ?_;refine ik 3 ((i:Int)+1) ?_;refine dP 4 g.M 0 ?_;refine dm 5 (λK' hK=>?_);go_simp;refine(pM Kv.o).mono ?_;rintro e w6 ⟨rfl,hb⟩;have HG6:=ag (Kv.o.on hb);have uu:=ag (zx.o.on hb);have ah8:=ag (Nat.le_trans (Nat.le_of_eq Le.o) hb.size);have n6:=kH n3 hb;clear hb;refine hK.out _ _ n6 (λdH=>?_)
  try simp only[aO]
  refine fE 6 (.bool ((i:Int)+1==8)) ?_;refine gB ?_;clear bJ dH n3 n6
  cases he:((i:Int)+1==8)
  ·have dh:¬(i+1=8):=by rw[beq_eq_false_iff_ne] at he;omega
   have CP:=ag dh;clear dh;go_wp2_with fail;refine bodyPost_ret (v:= .tuple #[.int .i64 k,.int .i64 i,.int .i64 0]) (by simp[results,Tryz.results282,go_sem]) rfl ⟨rfl,?_,uu.o⟩;have hp:=HG6.o.re HH.o.base HH.o.ltM HH.o.ltL mF.o.size ah8.o;unfold Nj;rw[if_neg CP.o,if_neg CP.o,HXe.o];exact hp
  ·have dh:i+1=8:=by rw[beq_iff_eq] at he;omega
   have CP:=ag dh;clear dh;go_wp2_with fail;refine(PT HG6.o hk (by rw[at_set _ _ (show k<g.l.length by omega)];show 0<x.live+1;omega) HO.o).mono ?_;rintro e w7 ⟨rfl,h7,hk7⟩;have HG7:=ag h7;have zH:=ag (uu.o.trans (hk7.mono (T':=Sm g S) λq hq=>by rcases hq with h|h;exact .inl h;exact .inr (.inl h)));have axf:=ag (Nat.le_trans ah8.o hk7.size);clear h7 hk7;go_wp2_with fail;refine bodyPost_ret (v:= .tuple #[.int .i64 k,.int .i64 i,.int .i64 0]) (by simp[results,Tryz.results282,go_sem]) rfl ⟨rfl,?_,zH.o⟩;have hp:=HG7.o.re HH.o.base HH.o.ltM HH.o.ltL mF.o.size axf.o;rw[at_set _ _ (show k<g.l.length by omega)] at hp;simp only[List.set_set] at hp;unfold Nj;rw[if_pos CP.o,if_pos CP.o,HXe.o];exact hp
end
end
end Go.Proofs.YtnieckfelfoopaaGreat

import Derived.Lib.SlicesCompact
import Derived.Test.YtnieckfelfoopaaGreatInoPoint
import Derived.Test.YtnieckfelfoopaaGreatRoomInts
import Derived.Deep.QuietTactic
import Derived.BigQuiet
import Derived.Deep.DeepCutAuto
import Derived.Deep.CutBlock
import Derived.Test.YtnieckfelfoopaaGreatMapKey
import Derived.DeepKeys4
open Go.Proofs.Tryz (prog)
namespace Go.Proofs.YtnieckfelfoopaaGreat
open Lib (hid)
set_option maxRecDepth 100000
set_option maxHeartbeats 16000000
section
namespace Room

def Inc (l:List Int):Prop:=l.Pairwise (·<·)
theorem WA {l m:List Int} (hl:Inc l) (hm:Inc m) (h:∀x,x∈l↔x∈m):l=m:=by
 induction l generalizing m with
 |nil=>
  cases m with
  |nil=>rfl
  |cons y m=>exact absurd ((h y).2 au) au
 |cons x l ih=>
  cases m with
  |nil=>exact absurd ((h x).1 au) au
  |cons y m=>
   unfold Inc at hl hm;rw[List.pairwise_cons] at hl hm;have hxy:x=y:=by
    have h1:=(h x).1 au;have h2:=(h y).2 au;rcases List.mem_cons.1 h1 with h1|h1
    ·exact h1
    ·rcases List.mem_cons.1 h2 with h2|h2
     ·exact h2.symm
     ·have a:=hl.1 y h2;have b:=hm.1 x h1;omega
   subst hxy
   congr 1
   refine ih hl.2 hm.2 λz=>?_;constructor
   ·intro hz;have h1:=(h z).1 (by simp[hz]);rcases List.mem_cons.1 h1 with rfl|h1
    ·have:=hl.1 z hz;omega
    ·exact h1
   ·intro hz;have h1:=(h z).2 (by simp[hz]);rcases List.mem_cons.1 h1 with rfl|h1
    ·have:=hm.1 z hz;omega
    ·exact h1
theorem SK {d:Array Int} (hs:∀i j,i<j->j<d.size->d[i]! <=d[j]!) (m:Nat) (hm:m<=d.size):
  Inc (Lib.compactUpTo d m)/\(∀x,x∈Lib.compactUpTo d m↔∃j,j<m/\d[j]! =x):=by
 induction m with
 |zero=>exact⟨List.Pairwise.nil,λx=>by simp[Lib.compactUpTo]⟩
 |succ m ih=>
  obtain⟨h1,h2⟩:=ih ae;rw[Lib.compactUpTo_succ];by_cases hk:Lib.keeps d m=true
  ·rw[if_pos hk];have aU:∀x∈Lib.compactUpTo d m,x<d[m]! :=λx hx=>by
    obtain⟨j,hj,rfl⟩:=(h2 x).1 hx;have dh:d[m]!≠d[m-1]! :=by
     unfold Lib.keeps at hk;have:=of_decide_eq_true hk;rcases this with h|h
     ·omega
     ·exact h
    have a:=hs (m-1) m ae ae;by_cases e:j=m-1
    ·subst e;omega
    ·have b:=hs j (m-1) ae ae;omega
   refine⟨?_,λx=>?_⟩
   ·unfold Inc;rw[List.pairwise_append];exact⟨h1,au,λa ha b hb=>by rw[List.mem_singleton.1 hb];exact aU a ha⟩
   ·rw[List.mem_append,h2,List.mem_singleton];constructor
    ·rintro(⟨j,hj,e⟩|rfl)
     ·exact⟨j,ae,e⟩
     ·exact⟨m,ae,rfl⟩
    ·rintro⟨j,hj,e⟩;by_cases ej:j=m
     ·subst ej;exact .inr e.symm
     ·exact .inl ⟨j,ae,e⟩
  ·rw[if_neg hk,List.append_nil];refine⟨h1,λx=>?_⟩;rw[h2];constructor
   ·rintro⟨j,hj,e⟩;exact⟨j,ae,e⟩
   ·rintro⟨j,hj,e⟩;by_cases ej:j=m
    ·subst ej;have hd:j≠0/\d[j]! =d[j-1]! :=by unfold Lib.keeps at hk;simp only[decide_eq_true_eq] at hk;exact⟨λh=>hk (.inl h),Classical.byContradiction λh=>hk (.inr h)⟩
     exact⟨j-1,ae,by rw[<-hd.2];exact e⟩
    ·exact⟨j,ae,e⟩
def row (l:List Int):List Int:=Lib.compact (l.mergeSort λx y=>decide (x<=y))
theorem Iq (l:List Int):Inc (row l)/\∀x,x∈row l↔x∈l:=by
 have hp:=List.pairwise_mergeSort (le:=λx y:Int=>decide (x<=y)) (λa b c h1 h2=>by simp only[decide_eq_true_eq] at*;omega) (λa b=>by simp only[Bool.or_eq_true,decide_eq_true_eq];omega) l;have hm:∀x,x∈l.mergeSort (λx y=>decide (x<=y))↔x∈l:=λx=>List.mem_mergeSort ..;unfold row;generalize (l.mergeSort λx y=>decide (x<=y))=s at*;have h:=SK (d:=s.toArray) (λi j hij hj=>by
  have hj':j<s.length:=by simpa using hj
  have:=List.pairwise_iff_getElem.1 hp i j ae hj' hij;rw[getElem!_pos _ i (by simp;omega),getElem!_pos _ j hj]
  simpa using this) s.length au
 refine⟨h.1,λx=>?_⟩;rw[<-hm x];refine(h.2 x).trans ?_;constructor
 ·rintro⟨j,hj,rfl⟩;rw[getElem!_pos _ j (by simpa using hj)];simp
 ·intro hx;obtain⟨j,hj,e⟩:=List.getElem_of_mem hx;exact⟨j,hj,by rw[getElem!_pos _ j (by simpa using hj)];simpa using e⟩
theorem Wu {l m:List Int} (hm:Inc m) (h:∀x,x∈m↔x∈l):row l=m:=
 WA (Iq l).1 hm λx=>((Iq l).2 x).trans (h x).symm
theorem ahi (l:List Int):(row l).length<=l.length:=by unfold row Lib.compact Lib.compactUpTo;rw[List.length_map];refine Nat.le_trans (List.length_filter_le ..) ?_;rw[List.length_range,List.length_mergeSort];exact Nat.le_refl _
end Room
end
section
namespace Room

def keys (s n:Int):List (Int×Int):=if Ino.lD s n=1 then[(1,0)] else if Ino.lD s n=2 then[(2,-1),(2,Ino.oL s n)] else[]
def nd:List (Int×Int)->Nat
 |[]=>0
 |x::t=>if x∈t then nd t else nd t+1
theorem ahj (L:List (Int×Int)) (x:Int×Int):nd (L++[x])=if x∈L then nd L else nd L+1:=by
 induction L with
 |nil=>simp[nd]
 |cons y t ih=>
  show(if y∈t++[x] then nd (t++[x]) else nd (t++[x])+1)=_;rw[ih];simp only[List.mem_append,List.mem_cons,nd];by_cases h1:y∈t<;>by_cases h2:x∈t<;>by_cases h3:y=x<;>simp_all [eq_comm]
def kl (s:Int) (l:List Int):List (Int×Int):=l.flatMap (keys s)
theorem ag9 (s:Int) (l:List Int) (n:Int):kl s (l++[n])=kl s l++keys s n:=by simp[kl]
def Sz (s:Int) (l:List Int):Nat:=l.length+nd (kl s l)
def adI (s:Int) (l:List Int):Bool:=l.all λn=>decide (Ino.nJ s n=0)
theorem MP {s:Int} {l:List Int}:adI s l=true↔∀n∈l,Ino.nJ s n=0:=by simp[adI]
instance (l:List Int):Decidable (Inc l):=inferInstanceAs (Decidable (List.Pairwise _ l))
def file (s:Int) (l:List Int):Int×Int:=if¬Ino.dL s\/¬Inc l then(0,1) else if adI s l=true then((Sz s l:Nat),0) else(0,52)
theorem alc {s n m:Int} (h:Ino.nJ s n=0) (h':Ino.nJ s m=0) (hle:n<=m):Ino.lD s n<=Ino.lD s m/\(Ino.lD s n=2->Ino.lD s m=2->Ino.oL s n<=Ino.oL s m)/\0<=Ino.lD s n/\Ino.lD s n<=2/\0<=Ino.oL s n:=by
 have hk:=Ino.half (Ino.O3 h).1;have c1:=Ino.qc h;have c2:=Ino.qc h';have hb:=(Ino.DD h).1;refine⟨ae,λh1 h2=>?_,ae,ae,hb⟩;rcases c1 with c1|c1|c1
 ·omega
 ·omega
 rcases c2 with c2|c2|c2
 ·omega
 ·omega
 obtain⟨_,b1,_,_⟩:=c1;obtain⟨_,b2,_,_⟩:=c2;rw[b1,b2];exact Int.ediv_le_ediv ae ae
theorem adJ (s n:Int):(keys s n).length<=2:=by
 unfold keys;split;·simp
 split<;>simp
end Room
end
section
open Go.RowKit

namespace Room
def span (a:Int) (k:Nat):List Int:=(List.range k).map λ(i:Nat)=>a+(i:Int)
theorem SA (a:Int) (k:Nat):(span a k).length=k:=by simp[span]
theorem Z7 (a:Int) (k:Nat):span a (k+1)=span a k++[a+(k:Int)]:=by simp[span,List.range_succ]
def more (f t:Int):Nat:=if 0<=f/\t<=131072 then(t-f).toNat else 0
def all (l:List Int) (f t:Int):List Int:=l++span f (more f t)
end Room
def alf (l:List Int) (w:World) (e:Ending) (w':World):Prop:=∃v,e= .returned v/\Own jL 3 w' w.heap.size v l/\Below w.heap.size w w'
end
section
open Go.RowKit

theorem SN {n0:Nat} (w:World) (k:Nat):Below n0 w (w.drewN k):=⟨rfl,rfl,rfl,Nat.le_refl _,λ_ _=>rfl⟩
end
section
namespace Room

def zi (s:Int) (xs:List Int) (f t:Int):Int×Int:=
 if (file s xs).2≠0 then(0,(file s xs).2) else if (file s (row (all xs f t))).2≠0 then(0,(file s (row (all xs f t))).2) else((file s (row (all xs f t))).1-(file s xs).1,0)
theorem alo (L:List (Int×Int)):nd L<=L.length:=by
 induction L with
 |nil=>exact Nat.le_refl _
 |cons x t ih=>unfold nd;split<;>simp<;>omega
theorem ap5 (s:Int) (l:List Int):(kl s l).length<=2*l.length:=by
 induction l with
 |nil=>simp[kl]
 |cons x t ih=>
  have h3:=adJ s x;have h4:kl s (x::t)=keys s x++kl s t:=by simp[kl]
  rw[h4,List.length_append,List.length_cons];omega
theorem adB (s:Int) (l:List Int):0<=(file s l).1/\(file s l).1<=3*(l.length:Int):=by
 unfold file;have h1:=alo (kl s l);have h2:=ap5 s l
 split
 ·simp only;omega
 ·split
  ·unfold Sz;simp only;omega
  ·simp only;omega
theorem adK {f:Int} {k:Nat} {x:Int} (h:x∈span f k):f<=x/\x<f+k:=by unfold span at h;obtain⟨i,hi,rfl⟩:=List.mem_map.1 h;have:=List.mem_range.1 hi;omega
theorem alg {xs:List Int} {f t:Int} (hb:∀x∈xs,-9223372036854775808<=x/\x<=9223372036854775807):∀x∈row (all xs f t),-9223372036854775808<=x/\x<=9223372036854775807:=λx hx=>by
 have h:=((Iq _).2 x).1 hx;unfold all at h;rcases List.mem_append.1 h with h|h
 ·exact hb x h
 ·unfold more at h;split at h
  ·have:=adK h;omega
  ·simp[span] at h
theorem ahb {xs:List Int} {f t:Int}:(row (all xs f t)).length<=xs.length+more f t:=by
 have h:=ahi (all xs f t);have h2:(all xs f t).length=xs.length+more f t:=by unfold all span;simp
 omega
end Room
end
section
open Go.RowKit

theorem lY (s:Int) (w:World):
  Calls prog 154 #[.int .i64 s] w λe w'=>e= .returned (.int .i64 (Ino.dV s))/\w=w':=by
 by_cases h:Ino.dL s
 ·have hd:decide (Ino.dL s)=true:=decide_eq_true h;rcases h with rfl|rfl|rfl|rfl
  all_goals
   go_in
   go_wp2_with fail;refine(dF _ _).mono ?_;rintro e w_ ⟨rfl,rfl⟩;rw[hd];go_wp2;go_ret;exact⟨rfl,rfl⟩
 ·have hd:decide (Ino.dL s)=false:=decide_eq_false h;have hv:Ino.dV s=0:=by unfold Ino.dV;rw[if_neg h]
  rw[hv];clear hv h
  go_in
  go_wp2_with fail;refine(dF _ _).mono ?_;rintro e w_ ⟨rfl,rfl⟩;rw[hd];go_wp2;go_ret;exact⟨rfl,rfl⟩
theorem ady {s:Int} (h:¬Ino.dL s):Ino.dV s=0:=by unfold Ino.dV;rw[if_neg h]
end
section
open Go.RowKit

theorem Room.ahk {l:List Int} (h:∀i (hi:i+1<l.length),l[i]<l[i+1]):Room.Inc l:=by
 unfold Room.Inc;rw[List.pairwise_iff_getElem];intro i j hi hj hij
 induction j with
 |zero=>omega
 |succ j ih=>
  have a:=h j hj;by_cases e:i=j
  ·subst e;exact a
  ·have:=ih ae ae;omega
theorem Room.Sl {s:Int} {l:List Int} (h:¬Ino.dL s\/¬Room.Inc l):Room.file s l=(0,1):=if_pos h
theorem Room.adz {s:Int} {l:List Int} (h:Ino.dL s) (hi:Room.Inc l) {x:Int} (hx:x∈l) (he:Ino.nJ s x≠0):Room.file s l=(0,52):=by unfold Room.file;rw[if_neg (by rintro(h1|h1);exact h1 h;exact h1 hi),if_neg (λh2=>he (Room.MP.1 h2 x hx))]
theorem Room.aha {s:Int} {l:List Int} (h:Ino.dL s) (hi:Room.Inc l) (ho:∀x∈l,Ino.nJ s x=0):Room.file s l=(((Room.Sz s l:Nat):Int),0):=by unfold Room.file;rw[if_neg (by rintro(h1|h1);exact h1 h;exact h1 hi),if_pos (Room.MP.2 ho)]
def aji (r:Int×Int) (w:World) (e:Ending) (w':World):Prop:=e= .returned (.tuple #[.int .i64 r.1,.int .i64 r.2])/\Below w.heap.size w w'
end
section
open Go.RowKit

theorem Su (a:Option Addr) (n c:Nat) (xs:List Int) (w:World) (hx:jg jL w w.heap.size a n xs) (hn:n<=4000):
  Calls prog 234 #[.slice a n c] w (λe w'=>e= .returned (.bool (decide (Room.Inc xs)))/\Below w.heap.size w w'):=by
 have hl:=hx.len;have HX:=ag hx;have HL:=ag hl;clear hx hl;obtain⟨r,hr⟩:=bu (decide (Room.Inc xs));rw[<-hr];have HR:=ag hr;clear hr
 go_in
 go_wp2;go_step3;go_wp2;go_step3;go_wp2
 go_loopw [3,4] (λg i wr=>∃k:Nat,1<=k/\k<=n+1/\g= .bool true/\i= .int .i64 k/\(∀j (hj:j+1<xs.length),j+1<k->xs[j]<xs[j+1])/\∃d,wr=w.drewN d) (λ_ i _=>n+1-(intOf i).toNat)
 case atStart=>exact⟨1,ae,ae,rfl,rfl,ae,0,rfl⟩
 case round=>
  obtain⟨k,iy,fA,rfl,rfl,ap6,d,rfl⟩:=hrel;have alp:=ag ap6;have Yx:=ag (λe=>(show(w.drewN d).drewN e=w.drewN (d+e) from World.drewN_drewN _ _ _));clear ap6;by_cases aU:k<n
  ·obtain⟨b,o,ZL,rfl,yE,vT⟩:=HX.o.atI (k:=k) aU;obtain⟨b',o',Qn,hab,_,hc0⟩:=HX.o.atI (k:=k-1) ae;simp only[Option.some.injEq,Addr.mk.injEq,and_true] at hab;obtain⟨rfl,rfl⟩:=hab;obtain⟨j,rfl⟩:∃j,k=j+1:=⟨k-1,ae⟩
   simp only[Nat.add_sub_cancel] at Qn hc0;have aDp:(w.drewN d).cell? ⟨b,o+(j+1),none⟩=some (.int .i64 xs[j+1]):=vT;have aDq:(w.drewN d).cell? ⟨b,o+j,none⟩=some (.int .i64 xs[j]):=hc0;have HY:=ag (λh:xs[j]<xs[j+1]=>(show∀i (hi:i+1<xs.length),i+1<j+1+1->xs[i]<xs[i+1] from λi hi h2=>by
    by_cases e:i=j
    ·subst e;exact h
    ·exact alp.o i hi ae))
   have HNo:=ag (λh:xs[j+1]<=xs[j]=>(show¬Room.Inc xs from λZ5=>by have:=List.pairwise_iff_getElem.1 Z5 j (j+1) Qn ZL ae;omega));generalize xs[j+1]=y at*;generalize xs[j]=x at*;have q1:IntKind.i64.wrap ((j:Int)+1-1)=(j:Int):=by rw[show(j:Int)+1-1=j by omega];exact IntWalk.i64_in _ ⟨ae,ae⟩
   have q2:(0:Int)<=(j:Int):=ae;have q3:(j:Int)<(n:Int):=ae;have q4:(0:Int)<=(j:Int)+1:=ae;have q5:(j:Int)+1<(n:Int):=ae;have q6:((j:Int)+1).toNat=j+1:=ae;clear vT hc0;by_cases hyx:y<=x
   ·have g1:decide (y<=x)=true:=decide_eq_true hyx;have HF:=ag (HR.o.trans (decide_eq_false (HNo.o hyx)));clear hyx;generalize w.drewN d=wz at*;go_wp2_with fail
    go_quiet (fail)
    go_wp2;rw[Exit.noGoto_ret];go_ret;exact⟨by rw[HF.o];rfl,by rw[Yx.o];exact SN _ _⟩
   ·have g1:decide (y<=x)=false:=decide_eq_false hyx;have HY2:=ag (HY.o ae);clear hyx;generalize w.drewN d=wz at*;go_wp2_with fail
    go_quiet (fail)
    go_wp2;go_roundw
    case rel=>exact⟨j+1+1,ae,ae,rfl,by go_num,HY2.o,d+nq,Yx.o nq⟩
    case measure=>simp[intOf];omega
  ·have Z5:=ag (Room.ahk (l:=xs) λi hi=>alp.o i hi (by have:=HL.o;omega));have g9:decide ((k:Int)<(n:Int))=false:=decide_eq_false ae;have HBw:=ag (show Below w.heap.size w (w.drewN d) from SN w d);have HF:=ag (HR.o.trans (decide_eq_true Z5.o));clear alp Yx;generalize w.drewN d=wz at*;go_wp2;rw[Exit.noGoto_ret];go_ret;exact⟨by rw[HF.o];rfl,HBw.o⟩
end
section
open Go.RowKit Go.Maps Go.ChangeMaps

theorem laidOutP:laidOutB prog=true:=az
theorem alq:(267:TypeId)<prog.types.size:=of_decide_eq_true az
theorem ahl:(match prog.underlying 267 with|some (.array _ _)|some (.struct _)=>true|_=>false)=true:=by rw[Tryz.underlying267]
theorem O4:Keyed prog 267:=Keyed.of_law (deep_law_laid laidOutP (m:=2) ae alq az ahl)
theorem SQ:prog.cellsOf 267=3:=az
def kV (x:Int×Int):Value:= .agg #[.int .i64 x.1,.int .i64 x.2,.int .i64 0]
theorem WB (x:Int) (h: -9223372036854775808<=x/\x<=9223372036854775807):(Lit.int .i64 x).wf=true:=by simp[Lit.wf,IntKind.min,IntKind.max,IntKind.bits,IntKind.signed];omega
def wU (x:Int):Prop:= -9223372036854775808<=x/\x<=9223372036854775807
theorem avV (x:Int×Int) (h1:wU x.1) (h2:wU x.2):∃l,keyOf prog 267 (kV x)=some l:=by
 have hkt:prog.keyType 267=true:=az;have Ah:prog.cellsOf 3=1:=az;obtain⟨m,hm⟩:∃m,prog.types.size=m+1:=⟨_,rfl⟩
 have w1:=WB x.1 h1;have w2:=WB x.2 h2;have w3:=WB 0 ae;unfold keyOf kV;simp only[Tryz.underlying267];rw[if_pos (by simp[hkt,Value.formed,Tryz.underlying267,SQ]),hm];unfold Program.keyLits;simp only[Tryz.underlying267,Value.cells];simp[Ah,SQ,Program.keyLits,Tryz.underlying3,w1,w2,w3]
theorem adL {x y:Int×Int} (h:kV x=kV y):x=y:=by unfold kV at h;simp only[Value.agg.injEq,Array.mk.injEq,List.cons.injEq,Value.int.injEq,true_and,and_true] at h;obtain⟨a,b⟩:=x;obtain⟨d,e⟩:=y;simp only at h;rw[h.1,h.2]
section
variable {P:Program} {k:TypeId} {w:World} {b:Nat} {l:List (Value×Value)} {key:Value} {t e:TypeId} {kl:Lit}
theorem MapAt.mid (h:MapAt P k w b l) (K:Keyed P k) (ht:P.underlying t=some (.map k e)) {z:Value} (hz:(zeroValue e).run P w= .ok z w) (iD:keyOf P k key=some kl) {v st:Value} {w1:World}
  (bP:(Instr.mapEntry t (.map (some b)) key).run P w= .ok (.tuple #[v,st]) w1):∃l1,MapAt P k w1 b l1/\(key,v)∈l1:=by
 obtain⟨es,clock,hb,rfl,jR,oC,UT,kZ⟩:=h;have hk:∀x∈es.toList,∃l,keyOf P k x.key=some l:=λx hx=>kZ (x.key,x.val) (List.mem_map.2 ⟨x,hx,rfl⟩);rcases K.find w iD es.toList hk with⟨h1,h2⟩|⟨j,e0,h1,h2,h3⟩
 ·have hP:qI (es.toList.map λe=>(e.key,e.val)) key z ((es.toList.map λe=>(e.key,e.val))++[(key,z)]):= .inr ⟨λp hp=>by obtain⟨x,hx,rfl⟩:=List.mem_map.1 hp;exact h2 x hx,rfl⟩;have hr:(Instr.mapEntry t (.map (some b)) key).run P w= .ok (.tuple #[z,goInt clock]) (setBlock w b (.map (es.push ⟨key,z,clock⟩) (clock+1))):=by simp[Instr.mapEntry,run_underlying ht,MapKept.run_getObj_map hb,K.check w false iD,h1,hz,MapKept.run_setObj_map _ hb,Result.andThen,setBlock]
  rw[hr] at bP;injection bP with e1 e2
  simp only[Value.tuple.injEq,Array.mk.injEq,List.cons.injEq,and_true] at e1;obtain⟨rfl,_⟩:=e1;subst e2;refine⟨_,⟨_,_,heap_setBlock_same hb _,rfl,?_,?_,?_,?_⟩,au⟩
  ·intro x hx;simp only[Array.toList_push,List.mem_append,List.mem_singleton] at hx;rcases hx with hx|rfl
   ·have:=jR x hx;omega
   ·show clock<clock+1;omega
  ·rw[Array.toList_push,List.map_append,List.nodup_append];refine⟨oC,au,?_⟩;rintro a ha c hc rfl;obtain⟨x,hx,rfl⟩:=List.mem_map.1 ha;simp at hc;have:=jR x hx;omega
  ·have:=hP.keys UT
   simpa using this
  ·intro p hp;simp only[Array.toList_push,List.map_append,List.map_cons,List.map_nil,List.mem_append,List.mem_singleton] at hp;rcases hp with hp|rfl
   ·exact kZ p hp
   ·exact⟨kl,iD⟩
 ·have hj:es[j]?=some e0:=by simpa using h2
  have gQ:es.modify j (λe=>{e with key:=key})=es:=by
   apply Array.ext';rw[Array.toList_modify,modify_eq_set _ _ _ _ h2];have:({e0 with key:=key}:MapEntry)=e0:=by rw[<-h3]
   rw[this];exact WideElems.set_self _ _ _ h2
  have hr:(Instr.mapEntry t (.map (some b)) key).run P w= .ok (.tuple #[e0.val,goInt e0.born]) (setBlock w b (.map es clock)):=by simp[Instr.mapEntry,run_underlying ht,MapKept.run_getObj_map hb,K.check w false iD,h1,hj,h3,K.stays w iD,gQ,MapKept.run_setObj_map _ hb,Result.andThen,setBlock]
  rw[hr] at bP;injection bP with e1 e2
  simp only[Value.tuple.injEq,Array.mk.injEq,List.cons.injEq,and_true] at e1;obtain⟨rfl,_⟩:=e1;subst e2;exact⟨_,⟨_,_,heap_setBlock_same hb _,rfl,jR,oC,UT,kZ⟩,List.mem_map.2 ⟨e0,List.mem_of_getElem? h2,by rw[h3]⟩⟩
end
def Ptr (L:List (Int×Int)) (bd:Int) (w:World) (M:Nat):Prop:=
 ∃l,MapAt prog 267 w M l/\(∀p∈l,∃x v,p=(kV x,.int .i64 v)/\x∈L/\0<=v/\v<=bd)/\(∀x∈L,∃v,(kV x,v)∈l)/\l.length=Room.nd L
theorem Ptr.made (w:World):Ptr [] 0 (w.alloc (.map #[] 0)) w.heap.size:=⟨[],MapAt.made w,au,au,rfl⟩
theorem Ptr.on {L:List (Int×Int)} {bd:Int} {w w':World} {M:Nat} (h:Ptr L bd w M) (hb:Below w.heap.size w w'):Ptr L bd w' M:=by obtain⟨l,h1,h2⟩:=h;exact⟨l,h1.on hb,h2⟩
theorem Ptr.lt {L:List (Int×Int)} {bd:Int} {w:World} {M:Nat} (h:Ptr L bd w M):M<w.heap.size:=by obtain⟨_,h1,_⟩:=h;exact h1.lt
theorem Ptr.size {L:List (Int×Int)} {bd:Int} {w:World} {M:Nat} (h:Ptr L bd w M):∃es clock,w.heap[M]?=some (.map es clock)/\es.size=Room.nd L:=by obtain⟨l,h1,_,_,h2⟩:=h;rw[<-h2];exact h1.size
theorem Ptr.step {L:List (Int×Int)} {bd:Int} {w:World} {M:Nat} (h:Ptr L bd w M) (x:Int×Int) (k1:wU x.1) (k2:wU x.2) (o7:0<=bd):
  ∃v st o,0<=v/\v<=bd/\(Instr.lookup 308 (.map (some M)) (kV x) false).run prog w= .ok (.int .i64 v) w/\
   (Instr.mapEntry 308 (.map (some M)) (kV x)).run prog w= .ok (.tuple #[.int .i64 v,st]) (setBlock w M o)/\
   (Instr.lookup 308 (.map (some M)) (kV x) false).run prog (setBlock w M o)= .ok (.int .i64 v) (setBlock w M o)/\
   w.grownBy (setBlock w M o) (some M)/\∃o',(Instr.entryStore 308 (.map (some M)) st (.int .i64 (v+1))).run prog (setBlock w M o)= .ok () (setBlock (setBlock w M o) M o')/\
    Ptr (L++[x]) (bd+1) (setBlock (setBlock w M o) M o') M/\(setBlock w M o).grownBy (setBlock (setBlock w M o) M o') (some M):=by
 obtain⟨l,h1,h2,h3,h4⟩:=h;obtain⟨kl,hkl⟩:=avV x k1 k2;obtain⟨v,st,o,bP,hv,hM,_,hg,ap8⟩:=h1.entry O4 Tryz.underlying308 (z:= .int .i64 0) az hkl;obtain⟨l1,Ye,hin⟩:=h1.mid O4 Tryz.underlying308 (z:= .int .i64 0) az hkl bP;obtain⟨v2,f2,CB,F6⟩:=Ye.look O4 Tryz.underlying308 (z:= .int .i64 0) az hkl false;obtain⟨v3,f3,hl3,yR⟩:=h1.look O4 Tryz.underlying308 (z:= .int .i64 0) az hkl false;have e2:v2=v:=by
  rcases F6 with⟨_,hc⟩|⟨_,_,hc⟩
  ·exact Ye.one hc hin
  ·exact absurd rfl (hc _ hin)
 have e3:v3=v:=by
  rcases yR with⟨_,hc⟩|⟨_,rfl,hc⟩<;>rcases hv with hv|⟨rfl,hv⟩
  ·exact h1.one hc hv
  ·exact absurd rfl (hv _ hc)
  ·exact absurd rfl (hc _ hv)
  ·rfl
 obtain⟨u,rfl,u0,u1⟩:∃u:Int,v= .int .i64 u/\0<=u/\u<=bd:=by
  rcases hv with hv|⟨rfl,_⟩
  ·obtain⟨y,u,he,_,hu0,hu1⟩:=h2 _ hv;injection he with _ he
   exact⟨u,he,hu0,hu1⟩
  ·exact⟨0,rfl,Int.le_refl _,o7⟩
 rw[e2] at CB;rw[e3] at hl3;obtain⟨l',o',eQ,hP,hM',hg'⟩:=ap8 (setBlock w M o) (.int .i64 (u+1)) hM;have Am:=hP.mem h1.nodup;have ap9:x∈L↔∃v,(kV x,v)∈l:=⟨λhx=>h3 x hx,λ⟨v,hv⟩=>by
  obtain⟨y,u,he,hy,_⟩:=h2 _ hv;injection he with he _
  rw[adL he];exact hy⟩
 refine⟨u,st,o,u0,u1,by simpa using hl3,bP,by simpa using CB,hg,o',eQ,⟨l',hM',λp hp=>?_,λy hy=>?_,?_⟩,hg'⟩
 ·obtain⟨pk,pv⟩:=p;rcases(Am _ _).1 hp with⟨rfl,rfl⟩|⟨_,hp⟩
  ·exact⟨x,u+1,rfl,au,ae,ae⟩
  ·obtain⟨y,u,he,hy,a1,a2⟩:=h2 _ hp;exact⟨y,u,he,by simp[hy],a1,ae⟩
 ·by_cases e:y=x
  ·subst e;exact⟨_,(Am _ _).2 (.inl ⟨rfl,rfl⟩)⟩
  ·have hy':y∈L:=by simpa[e] using hy
   obtain⟨v,hv⟩:=h3 y hy';exact⟨v,(Am _ _).2 (.inr ⟨λe2=>e (adL e2),hv⟩)⟩
 ·rw[Room.ahj];rcases hP.len with⟨hh,he⟩|⟨hh,he⟩
  ·rw[if_pos (ap9.2 hh),he,h4]
  ·rw[if_neg (λhx=>by obtain⟨v,hv⟩:=ap9.1 hx;exact hh _ hv rfl),he,h4]
end
end Go.Proofs.YtnieckfelfoopaaGreat

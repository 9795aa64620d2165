import Derived.Lib.SlicesCompact
import Derived.DeepKeys4
import Derived.ChangeKeysEq
import Derived.Test.YtnieckfelfoopaaGreatRoomInts
open Go.IntWalk renaming i64_in->bq
open Go.RowKit.Below renaming refl->aE
open List renaming mem_map->bw,length_append->bE,mem_append->cv,range->cz,map_append->cA,append_nil->cC,map_cons->cE,mem_singleton->cG,length_take->cI,take_of_length_le->cL,nil_append->cP,append_assoc->cQ,cons_append->dj,length_drop->dk,drop_drop->dr,range_succ->dz
open Nat renaming le_refl->bp,mul_one->da
open UInt8 renaming ofNat->bx,toNat_ofNat'->eh
open Go.Value renaming int->O,slice->an,tuple->ao,bool->aq
open Go.IntKind renaming i64->aa
open Go.Ending renaming returned->ar
open Go.RowKit renaming Hid->aL
open Go.Proofs.Tryz (prog)
set_option maxRecDepth 100000
set_option maxHeartbeats 16000000
namespace Go.Proofs.YtnieckfelfoopaaGreat
open Lib (hid)
section
namespace Ino
def dO (n:Int):=n=64\/n=128\/n=256\/n=512
instance (n:Int):Decidable (dO n):=by unfold dO;exact inferInstance
def pages (s:Int):=6+s/2+s/2*(s/2)
def most s:=if dO s then(if pages s*s>2147483647 then 2147483647 else pages s*s) else 0
def eF s:=if dO s then s/24 else 0
def pF (s n:Int):Int:=if dO s then(if n<0\/pages s<=n then 52 else 0) else 1
def lZ (s n:Int):Int:=if pF s n≠0 then 0 else if n<6 then 0 else if n<6+s/2 then 1 else 2
def qh s n:=if pF s n≠0 then 0 else if n<6 then n else if n<6+s/2 then n-6 else(n-6-s/2)/(s/2)
def xK s n:=if pF s n≠0 then 0 else if n<6 then 0 else if n<6+s/2 then 0 else(n-6-s/2)%(s/2)
theorem air:pages 64=1062:=rfl
theorem UD {s n} (h:pF s n=0):dO s/\0<=n/\n<pages s:=by grind[Ino.pF]
theorem JV {s n} (hs:dO s) (h0:0<=n) (h1:n<pages s):pF s n=0:=by unfold pF;rw[ev hs,eo ae]
theorem qW {s n} (h:pF s n=0):
  (lZ s n=0/\qh s n=n/\xK s n=0/\n<6)\/(lZ s n=1/\qh s n=n-6/\xK s n=0/\6<=n/\n<6+s/2)\/
  (lZ s n=2/\qh s n=(n-6-s/2)/(s/2)/\xK s n=(n-6-s/2)%(s/2)/\6+s/2<=n):=by
 obtain⟨hs,h0,h1⟩:=UD h;grind[Ino.lZ,Ino.qh,Ino.xK]
theorem half {s} (h:dO s):32<=s/2/\s/2<=256/\0<=s/2*(s/2)/\s/2*(s/2)<=65536/\pages s=6+s/2+s/2*(s/2):=by rcases h with rfl|rfl|rfl|rfl<;>decide
theorem Gj {s n} (h:pF s n=0):0<=qh s n/\qh s n<=70000/\0<=xK s n/\xK s n<=70000:=by grind[Ino.pF,Ino.dO,Ino.pages,Ino.qh,Ino.xK]
end Ino
end
section
open RowKit
theorem aiu {n} (h:¬Ino.dO n):(n==64)=false/\(n==128)=false/\(n==256)=false/\(n==512)=false:=by unfold Ino.dO at h;refine⟨?_,?_,?_,?_⟩<;>rw[ew]<;>omega
theorem dL n w:
  Calls prog 186 #[O aa n] w λe w'=>e=ar (aq (decide (Ino.dO n)))/\w=w':=by
 by_cases h:Ino.dO n
 .rw[ez h];rcases h with rfl|rfl|rfl|rfl
  all_goals
   go_in
   go_wp2;go_ret;exact⟨rfl,rfl⟩
 .rw[ey h];obtain⟨h1,h2,h3,h4⟩:=aiu h
  go_in
  go_wp2;go_ret;exact⟨rfl,rfl⟩
theorem jy s (h:Ino.dO s) w:
  Calls prog 187 #[O aa s] w λe w'=>e=ar (O aa (Ino.pages s))/\w=w':=by
 rcases h with rfl|rfl|rfl|rfl
 all_goals
  go_in
  go_wp2;go_ret;exact⟨rfl,rfl⟩
def xJ (s n:Int):Value:=ao #[.agg #[O aa (Ino.lZ s n),O aa (Ino.qh s n),O aa (Ino.xK s n)],O aa (Ino.pF s n)]
theorem aiv s n (h:¬Ino.dO s):xJ s n=ao #[.agg #[O aa 0,O aa 0,O aa 0],O aa 1]:=by grind[Ino.pF,xJ,Ino.lZ,Ino.qh,Ino.xK]
theorem Yx s n (h:Ino.dO s) (hn:n<0\/Ino.pages s<=n):xJ s n=ao #[.agg #[O aa 0,O aa 0,O aa 0],O aa 52]:=by grind[Ino.pF,xJ,Ino.lZ,Ino.qh,Ino.xK]
theorem ar9 s n (h:Ino.dO s) (h0:0<=n) (hp:n<Ino.pages s) (h6:n<6):xJ s n=ao #[.agg #[O aa 0,O aa n,O aa 0],O aa 0]:=by have he:=Ino.JV h h0 hp;simp[xJ,Ino.lZ,Ino.qh,Ino.xK,he,h6]
theorem asa s n (h:Ino.dO s) (h0:0<=n) (hp:n<Ino.pages s) (h6:¬n<6) (hk:n<6+s/2):xJ s n=ao #[.agg #[O aa 1,O aa (n-6),O aa 0],O aa 0]:=by have he:=Ino.JV h h0 hp;simp[xJ,Ino.lZ,Ino.qh,Ino.xK,he,h6,hk]
theorem asb s n (h:Ino.dO s) (h0:0<=n) (hp:n<Ino.pages s) (h6:¬n<6) (hk:¬n<6+s/2):xJ s n=ao #[.agg #[O aa 2,O aa ((n-6-s/2)/(s/2)),O aa ((n-6-s/2)%(s/2))],O aa 0]:=by have he:=Ino.JV h h0 hp;simp[xJ,Ino.lZ,Ino.qh,Ino.xK,he,h6,hk]
theorem Ns s n w (h1: -9223372036854775808<=n) (h2:n<=9223372036854775807):
  Calls prog 192 #[O aa s,O aa n] w λe w'=>e=ar (xJ s n)/\Below w w w':=by
 by_cases h:Ino.dO s
 case neg=>
  have hd:decide (Ino.dO s)=false:=ey h;rw[aiv s n h];clear h
  go_in
  go_wp2_with fail;refine(dL s _).cj ?_;rw[hd];go_wp2;refine bodyPost_ret (v:=ao #[.agg #[O aa 0,O aa 0,O aa 0],O aa 1]) (by simp[results,Tryz.results192,go_sem]) rfl ⟨rfl,?_⟩;exact(aE _ _).alloc av _
 have hd:decide (Ino.dO s)=true:=ez h;by_cases hn:n<0
 .rw[Yx s n h (.inl hn)];clear h
  go_in
  go_wp2_with fail;refine(dL s _).cj ?_;rw[hd];go_wp2;refine bodyPost_ret (v:=ao #[.agg #[O aa 0,O aa 0,O aa 0],O aa 52]) (by simp[results,Tryz.results192,go_sem]) rfl ⟨rfl,?_⟩;exact(aE _ _).alloc av _
 have jA:64<=s/\s<=512:=by unfold Ino.dO at h;omega
 obtain⟨jA,mQ⟩:=jA;have hP:Ino.pages s<=65798:=by rcases h with rfl|rfl|rfl|rfl<;>decide
 have H:=ag h;by_cases hp:Ino.pages s<=n
 .rw[Yx s n h (.inr hp)];clear h
  go_in
  go_wp2_with fail;refine(dL s _).cj ?_;rw[hd];go_wp2_with fail;refine(jy s H _).cj ?_;go_wp2;refine bodyPost_ret (v:=ao #[.agg #[O aa 0,O aa 0,O aa 0],O aa 52]) (by simp[results,Tryz.results192,go_sem]) rfl ⟨rfl,?_⟩;exact(aE _ _).alloc av _
 have Oi:n<Ino.pages s:=ae;by_cases h6:n<6
 .rw[ar9 s n h ae Oi h6];clear h
  go_in
  go_wp2_with fail;refine(dL s _).cj ?_;rw[hd];go_wp2_with fail;refine(jy s H _).cj ?_;go_wp2;refine bodyPost_ret (v:=ao #[.agg #[O aa 0,O aa n,O aa 0],O aa 0]) (by simp[results,Tryz.results192,go_sem]) rfl ⟨rfl,?_⟩;exact(aE _ _).alloc av _
 have h60:6<=n:=ae;by_cases hk:n<6+s/2
 .rw[asa s n h ae Oi h6 hk];clear h;have eU:n-6<s/2:=ae
  go_in
  go_wp2_with fail;refine(dL s _).cj ?_;rw[hd];go_wp2_with fail;refine(jy s H _).cj ?_;go_wp2;refine bodyPost_ret (v:=ao #[.agg #[O aa 1,O aa (n-6),O aa 0],O aa 0]) (by simp[results,Tryz.results192,go_sem]) rfl ⟨rfl,?_⟩;exact(aE _ _).alloc av _
 .rw[asb s n h ae Oi h6 hk];clear h;have WA:6+s/2<=n:=ae;have eU:s/2<=n-6:=ae;have mr:1<=s/2:=ae;have oQ:0<=n-6-s/2:=ae
  go_in
  go_wp2_with fail;refine(dL s _).cj ?_;rw[hd];go_wp2_with fail;refine(jy s H _).cj ?_;go_wp2;obtain⟨m,hm⟩:=aW (n-6-s/2);obtain⟨k,hkk⟩:=aW (s/2);have d1:=Int.ediv_nonneg (a:=m) (b:=k) ae ae;have d2:m/k<=m:=Int.ediv_le_self _ ae;have d3:=Int.emod_nonneg m (show k≠0 by omega);have d4:=Int.emod_lt_of_pos m (show 0<k by omega);have d5:k*(m/k)+m%k=m:=Int.mul_ediv_add_emod m k;have q2:m.tdiv k=m/k:=Int.tdiv_eq_ediv_of_nonneg ae;have q3:=bq (m/k) ⟨ae,ae⟩;have q0:(k==0)=false:=by rw[ew];omega
  have q6:k≠0:=ae;have q1:=bq (n-6-k) ⟨ae,ae⟩;have q4:m.tmod k=m%k:=Int.tmod_eq_emod_of_nonneg ae;have q7:n-6-k=m:=ae;rw[q7] at q1;rw[<-hkk];obtain⟨HM,HKK⟩:=cn hm hkk;clear hm hkk d5
  go_still_tail 11,az
  clear q2 q3 q4 q7 q0 q6 q1;change wpList _ _ _ _ _ ((w.alloc (.cells #[O aa 0,O aa 0,O aa 0] 267)).drew);go_wp2;refine bodyPost_ret (v:=ao #[.agg #[O aa 2,O aa (m/k),O aa (m%k)],O aa 0]) (by simp[results,Tryz.results192,go_sem]) rfl ⟨by rw[HM.o,HKK.o],?_⟩;exact((aE _ _).alloc av _).drew
end
section
namespace Room
def Inc (l:List Int):=l.Pairwise (·<·)
theorem aa7 {l m} (hl:Inc l) (hm:Inc m) (h:∀x,x∈l↔x∈m):l=m:=by
 induction l generalizing m with
 |nil=>
  cases m with
  |nil=>rfl
  |cons y m=>exact absurd ((h y).2 au) au
 |cons x l ih=>
  cases m with
  |nil=>grind[Room.Inc]
  |cons y m=>
   unfold Inc at hl hm;rw[List.pairwise_cons] at hl hm;have hxy:x=y:=by
    have h1:=(h x).1 au;have h2:=(h y).2 au;grind
   subst hxy
   congr 1
   refine ih hl.2 hm.2 λz=>?_;grind
theorem Yy {d} (hs:∀i j,i<j->j<d.size->d[i]! <=d[j]!) m (hm:m<=d.size):
  Inc (Lib.compactUpTo d m)/\(∀x,x∈Lib.compactUpTo d m↔∃j,j<m/\d[j]! =x):=by
 induction m with
 |zero=>exact⟨List.Pairwise.nil,λx=>by simp[Lib.compactUpTo]⟩
 |succ m ih=>
  obtain⟨h1,h2⟩:=ih ae;rw[Lib.compactUpTo_succ];by_cases hk:Lib.keeps d m=true
  .rw[ev hk];have aT:∀x∈Lib.compactUpTo d m,x<d[m]! :=λx hx=>by
    obtain⟨j,hj,rfl⟩:=(h2 x).1 hx;have di:d[m]!≠d[m-1]! :=by
     unfold Lib.keeps at hk;grind
    have a:=hs (m-1) m ae ae;by_cases e:j=m-1
    .subst e;omega
    .have b:=hs j (m-1) ae ae;omega
   refine⟨?_,λx=>?_⟩
   .unfold Inc;rw[List.pairwise_append];exact⟨h1,au,λa ha b hb=>by grind⟩
   grind
  .rw[eo hk,cC];refine⟨h1,λx=>?_⟩;rw[h2];constructor
   .grind
   .rintro⟨j,hj,e⟩;by_cases ej:j=m
    .subst ej;have hd:j≠0/\d[j]! =d[j-1]! :=by unfold Lib.keeps at hk;grind
     grind
    .exact⟨j,ae,e⟩
def row (l:List Int):=Lib.compact (l.mergeSort λx y=>decide (x<=y))
theorem Nz l:Inc (row l)/\∀x,x∈row l↔x∈l:=by
 have hp:=List.pairwise_mergeSort (le:=λx y:Int=>decide (x<=y)) (λa b c h1 h2=>by grind) (λa b=>by grind) l;have hm:∀x,x∈l.mergeSort (λx y=>decide (x<=y))↔x∈l:=λx=>List.mem_mergeSort ..;unfold row;generalize (l.mergeSort λx y=>decide (x<=y))=s at*;have h:=Yy (d:=s.toArray) (λi j hij hj=>by
  grind[List.pairwise_iff_getElem]) s.length au
 refine⟨h.1,λx=>?_⟩;rw[<-hm x];refine(h.2 x).trans ?_;constructor
 .grind
 .intro hx;obtain⟨j,hj,e⟩:=List.getElem_of_mem hx;exact⟨j,hj,by grind⟩
theorem Nq {l m} (hm:Inc m) (h:∀x,x∈m↔x∈l):row l=m:=
 aa7 (Nz l).1 hm λx=>((Nz l).2 x).trans (h x).symm
theorem amH l:(row l).length<=l.length:=by unfold row Lib.compact Lib.compactUpTo;grind[List.length_mergeSort]
end Room
namespace Room
def keys (s n:Int):List (Int×Int):=if Ino.lZ s n=1 then[(1,0)] else if Ino.lZ s n=2 then[(2,-1),(2,Ino.qh s n)] else[]
def nd:List (Int×Int)->Nat
 |[]=>0
 |x::t=>if x∈t then nd t else nd t+1
theorem amI L x:nd (L++[x])=if x∈L then nd L else nd L+1:=by induction L<;>grind[Room.nd]
def kl (s:Int) (l:List Int):=l.flatMap (keys s)
theorem amm s l n:kl s (l++[n])=kl s l++keys s n:=by simp[kl]
def Yq s l:=l.length+nd (kl s l)
def aiw (s:Int) (l:List Int):=l.all λn=>decide (Ino.pF s n=0)
theorem QV {s l}:aiw s l=true↔∀n∈l,Ino.pF s n=0:=by simp[aiw]
instance (l:List Int):Decidable (Inc l):=inferInstanceAs (Decidable (List.Pairwise _ l))
def file (s:Int) (l:List Int):Int×Int:=if¬Ino.dO s\/¬Inc l then(0,1) else if aiw s l=true then((Yq s l),0) else(0,52)
theorem arZ {s n m} (h:Ino.pF s n=0) (h':Ino.pF s m=0) (hle:n<=m):Ino.lZ s n<=Ino.lZ s m/\(Ino.lZ s n=2->Ino.lZ s m=2->Ino.qh s n<=Ino.qh s m)/\0<=Ino.lZ s n/\Ino.lZ s n<=2/\0<=Ino.qh s n:=by
 have hk:=Ino.half (Ino.UD h).1;have c1:=Ino.qW h;have c2:=Ino.qW h';have hb:=(Ino.Gj h).1;refine⟨ae,λh1 h2=>?_,ae,ae,hb⟩;grind[Ino.pF,Ino.dO]
theorem aix s n:(keys s n).length<=2:=by
 unfold keys;split;·simp
 split<;>simp
end Room
end
section
open RowKit
namespace Room
def span (a:Int) (k:Nat):=(cz k).map λ(i:Nat)=>a+i
theorem Yr a k:(span a k).length=k:=by simp[span]
theorem aeF a k:span a (k+1)=span a k++[a+k]:=by simp[span,dz]
def more (f t:Int):=if 0<=f/\t<=131072 then(t-f).toNat else 0
def all l f t:=l++span f (more f t)
end Room
def ar0 (l:List Int) (w:World) (e:Ending) w':=∃v,e=ar v/\Own kC 3 w' w v l/\Below w w w'
theorem Yz {n0} w k:Below n0 w (w.drewN k):=⟨rfl,rfl,rfl,bp _,λ_ _=>rfl⟩
end
section
namespace Room
def vS s xs f t:=
 if (file s xs).2≠0 then(0,(file s xs).2) else if (file s (row (all xs f t))).2≠0 then(0,(file s (row (all xs f t))).2) else((file s (row (all xs f t))).1-(file s xs).1,0)
theorem asc L:nd L<=L.length:=by induction L<;>grind[Room.nd]
theorem ax5 s l:(kl s l).length<=2*l.length:=by induction l<;>grind[Room.kl,Room.keys]
theorem aio s l:0<=(file s l).1/\(file s l).1<=3*l.length:=by grind[Room.file,Room.Yq,Room.asc,Room.ax5]
theorem aiy {f k x} (h:x∈span f k):f<=x/\x<f+k:=by grind[Room.span]
theorem ar1 {xs f t} (hb:∀x∈xs,-9223372036854775808<=x/\x<=9223372036854775807):∀x∈row (all xs f t),-9223372036854775808<=x/\x<=9223372036854775807:=by grind[Room.all,Room.span,Room.more,Room.Nz]
theorem amo {xs f t}:(row (all xs f t)).length<=xs.length+more f t:=by grind[Room.all,Room.span,Room.amH]
end Room
end
section
open RowKit
theorem mY s w:
  Calls prog 154 #[O aa s] w λe w'=>e=ar (O aa (Ino.eF s))/\w=w':=by
 by_cases h:Ino.dO s
 .have hd:decide (Ino.dO s)=true:=ez h;rcases h with rfl|rfl|rfl|rfl
  all_goals
   go_in
   go_wp2_with fail;refine(dL _ _).cj ?_;rw[hd];go_wp2;go_ret;exact⟨rfl,rfl⟩
 .have hd:decide (Ino.dO s)=false:=ey h;have hv:Ino.eF s=0:=by unfold Ino.eF;rw[eo h]
  rw[hv];clear hv h
  go_in
  go_wp2_with fail;refine(dL _ _).cj ?_;rw[hd];go_wp2;go_ret;exact⟨rfl,rfl⟩
theorem ail {s} (h:¬Ino.dO s):Ino.eF s=0:=by unfold Ino.eF;rw[eo h]
theorem Room.amJ {l} (h:∀i (hi:i+1<l.length),l[i]<l[i+1]):Room.Inc l:=by
 unfold Room.Inc;rw[List.pairwise_iff_getElem];intro i j hi hj hij
 induction j with
 |zero=>omega
 |succ j ih=>
  grind
theorem Room.Yn {s l} (h:¬Ino.dO s\/¬Room.Inc l):Room.file s l=(0,1):=ev h
theorem Room.aim {s l} (h:Ino.dO s) (hi:Room.Inc l) {x} (hx:x∈l) (he:Ino.pF s x≠0):Room.file s l=(0,52):=by grind[Room.file,Room.aiw]
theorem Room.amn {s l} (h:Ino.dO s) (hi:Room.Inc l) (ho:∀x∈l,Ino.pF s x=0):Room.file s l=(((Room.Yq s l):Int),0):=by unfold Room.file;rw[eo (by grind),ev (Room.QV.2 ho)]
def aoG (r:Int×Int) (w:World) (e:Ending) w':=e=ar (ao #[O aa r.1,O aa r.2])/\Below w w w'
theorem Yo a n c xs w (hx:jq kC w w a n xs) (hn:n<=4000):
  Calls prog 234 #[an a n c] w (λe w'=>e=ar (aq (decide (Room.Inc xs)))/\Below w w w'):=by
 have hl:=hx.len;obtain⟨HX,HL⟩:=cn hx hl;clear hx hl;obtain⟨r,hr⟩:=aW (decide (Room.Inc xs));rw[<-hr];have HR:=ag hr;clear hr
 go_in
 go_wp2;go_step3;go_wp2;go_step3;go_wp2
 go_loopw [3,4] (λg i wr=>∃k:Nat,1<=k/\k<=n+1/\g=aq true/\i=O aa k/\(∀j (hj:j+1<xs.length),j+1<k->xs[j]<xs[j+1])/\∃d,wr=w.drewN d) (λ_ i _=>n+1-(intOf i).toNat)
 case atStart=>exact⟨1,ae,ae,rfl,rfl,ae,0,rfl⟩
 case round=>
  obtain⟨k,fO,eU,rfl,rfl,ax6,d,rfl⟩:=hrel;obtain⟨ase,Lr⟩:=cn ax6 (λe=>(show(w.drewN d).drewN e=w.drewN (d+e) from World.drewN_drewN _ _ _));clear ax6;by_cases aT:k<n
  .obtain⟨b,o,hj1,rfl,nI,BO⟩:=HX.atI (k:=k) aT;obtain⟨b',o',hj0,hab,_,YX⟩:=HX.atI (k:=k-1) ae;simp only[Option.some.injEq,Addr.mk.injEq,and_true] at hab;obtain⟨rfl,rfl⟩:=hab;obtain⟨j,rfl⟩:∃j,k=j+1:=⟨k-1,ae⟩
   simp only[Nat.add_sub_cancel] at hj0 YX;have aLZ:(w.drewN d).cell? (b,o+(j+1))=some (O aa xs[j+1]):=BO;have al7:(w.drewN d).cell? (b,o+j)=some (O aa xs[j]):=YX;have HY:=ag (λh:xs[j]<xs[j+1]=>(show∀i (hi:i+1<xs.length),i+1<j+1+1->xs[i]<xs[i+1] from λi hi h2=>by
    by_cases e:i=j
    .subst e;exact h
    .exact ase.o i hi ae))
   have HNo:=ag (λh:xs[j+1]<=xs[j]=>(show¬Room.Inc xs from λaeE=>by have:=List.pairwise_iff_getElem.1 aeE j (j+1) hj0 hj1 ae;omega));generalize xs[j+1]=y at*;generalize xs[j]=x at*;have q1:IntKind.i64.wrap ((j:Int)+1-1)=(j:Int):=by rw[show(j:Int)+1-1=j by omega];exact bq _ ⟨ae,ae⟩
   have q2:(0:Int)<=(j:Int):=ae;have q3:(j:Int)<(n:Int):=ae;have q4:(0:Int)<=(j:Int)+1:=ae;have q5:(j:Int)+1<(n:Int):=ae;have q6:((j:Int)+1).toNat=j+1:=ae;clear BO YX;by_cases hyx:y<=x
   .have g1:decide (y<=x)=true:=ez hyx;have HF:=ag (HR.trans (ey (HNo.o hyx)));clear hyx;generalize w.drewN d=wz at*;go_wp2_with fail
    go_quiet (fail)
    go_wp2;rw[Exit.noGoto_ret];go_ret;exact⟨by rw[HF.o];rfl,by rw[Lr.o];exact Yz _ _⟩
   .have g1:decide (y<=x)=false:=ey hyx;have HY2:=ag (HY.o ae);clear hyx;generalize w.drewN d=wz at*;go_wp2_with fail
    go_quiet (fail)
    go_wp2;go_roundw
    case rel=>exact⟨j+1+1,ae,ae,rfl,by go_num,HY2,d+nq,Lr nq⟩
    case measure=>simp[intOf];omega
  .have aeE:=ag (Room.amJ (l:=xs) λi hi=>ase.o i hi (by have:=HL.o;omega));have g9:decide ((k:Int)<(n:Int))=false:=ey ae;obtain⟨HBw,HF⟩:=cn (show Below w w (w.drewN d) from Yz w d) (HR.trans (ez aeE));clear ase Lr;generalize w.drewN d=wz at*;go_wp2;rw[Exit.noGoto_ret];go_ret;exact⟨by rw[HF.o];rfl,HBw⟩
end
section
open RowKit Maps ChangeMaps
theorem laidOutP:laidOutB prog=true:=az
theorem asf:(267:TypeId)<prog.types.size:=of_decide_eq_true az
theorem amK:(match prog.underlying 267 with|some (.array _ _)|some (.struct _)=>true|_=>false)=true:=by rw[Tryz.underlying267]
theorem UE:Keyed prog 267:=Keyed.of_law (deep_law_laid laidOutP (m:=2) ae asf az amK)
theorem YA:prog.cellsOf 267=3:=az
def kV (x:Int×Int):Value:= .agg #[O aa x.1,O aa x.2,O aa 0]
theorem aa8 x (h: -9223372036854775808<=x/\x<=9223372036854775807):(Lit.int .i64 x).wf=true:=by simp[Lit.wf,IntKind.min,IntKind.max,IntKind.bits,IntKind.signed];omega
def zG x:= -9223372036854775808<=x/\x<=9223372036854775807
theorem aEv x (h1:zG x.1) (h2:zG x.2):∃l,keyOf prog 267 (kV x)=some l:=by
 have hkt:prog.keyType 267=true:=az;have ac6:prog.cellsOf 3=1:=az;obtain⟨m,hm⟩:∃m,prog.types.size=m+1:=⟨_,rfl⟩
 have w1:=aa8 x.1 h1;have w2:=aa8 x.2 h2;have w3:=aa8 0 ae;unfold keyOf kV;simp only[Tryz.underlying267];rw[ev (by simp[hkt,Value.formed,Tryz.underlying267,YA]),hm];unfold Program.keyLits;simp only[Tryz.underlying267,Value.cells];simp[ac6,YA,Program.keyLits,Tryz.underlying3,w1,w2,w3]
theorem aiz {x y} (h:kV x=kV y):x=y:=by grind[kV]
section
variable {P:Program} {k:TypeId} {w:World} {b:Nat} {l:List (Value×Value)} {key:Value} {t e:TypeId} {kl:Lit}
theorem MapAt.mid (h:MapAt P k w b l) (K:Keyed P k) (ht:P.underlying t=some (.map k e)) {z} (hz:(zeroValue e).run P w= .ok z w) (jc:keyOf P k key=some kl) {v st w1}
  (bF:(Instr.mapEntry t (.map (some b)) key).run P w= .ok (ao #[v,st]) w1):∃l1,MapAt P k w1 b l1/\(key,v)∈l1:=by
 obtain⟨es,clock,hb,rfl,kM,pK,Zr,lJ⟩:=h;have hk:∀x∈es.toList,∃l,keyOf P k x.key=some l:=λx hx=>lJ (x.key,x.val) (bw.2 ⟨x,hx,rfl⟩);rcases K.find w jc es.toList hk with⟨h1,h2⟩|⟨j,e0,h1,h2,h3⟩
 .have hP:rD (es.toList.map λe=>(e.key,e.val)) key z ((es.toList.map λe=>(e.key,e.val))++[(key,z)]):= .inr ⟨λp hp=>by obtain⟨x,hx,rfl⟩:=bw.1 hp;exact h2 x hx,rfl⟩;have hr:(Instr.mapEntry t (.map (some b)) key).run P w= .ok (ao #[z,goInt clock]) (setBlock w b (.map (es.push ⟨key,z,clock⟩) (clock+1))):=by simp[Instr.mapEntry,run_underlying ht,MapKept.run_getObj_map hb,K.check w false jc,h1,hz,MapKept.run_setObj_map _ hb,Result.andThen,setBlock]
  rw[hr] at bF;injection bF with e1 e2
  simp only[Value.tuple.injEq,Array.mk.injEq,List.cons.injEq,and_true] at e1;obtain⟨rfl,_⟩:=e1;subst e2;refine⟨_,⟨_,_,heap_setBlock_same hb _,rfl,?_,?_,?_,?_⟩,au⟩
  .intro x hx;simp only[Array.toList_push,cv,cG] at hx;rcases hx with hx|rfl
   .have:=kM x hx;omega
   .show clock<clock+1;omega
  .rw[Array.toList_push,cA,List.nodup_append];refine⟨pK,au,?_⟩;rintro a ha c hc rfl;obtain⟨x,hx,rfl⟩:=bw.1 ha;simp at hc;have:=kM x hx;omega
  .have:=hP.keys Zr
   simpa using this
  .intro p hp;simp only[Array.toList_push,cA,cE,List.map_nil,cv,cG] at hp;rcases hp with hp|rfl
   .exact lJ p hp
   .exact⟨kl,jc⟩
 .have hj:es[j]?=some e0:=by simpa using h2
  have iP:es.modify j (λe=>{e with key:=key})=es:=by
   apply Array.ext';rw[Array.toList_modify,modify_eq_set _ _ _ _ h2];have:({e0 with key:=key}:MapEntry)=e0:=by rw[<-h3]
   rw[this];exact WideElems.set_self _ _ _ h2
  have hr:(Instr.mapEntry t (.map (some b)) key).run P w= .ok (ao #[e0.val,goInt e0.born]) (setBlock w b (.map es clock)):=by simp[Instr.mapEntry,run_underlying ht,MapKept.run_getObj_map hb,K.check w false jc,h1,hj,h3,K.stays w jc,iP,MapKept.run_setObj_map _ hb,Result.andThen,setBlock]
  rw[hr] at bF;injection bF with e1 e2
  simp only[Value.tuple.injEq,Array.mk.injEq,List.cons.injEq,and_true] at e1;obtain⟨rfl,_⟩:=e1;subst e2;exact⟨_,⟨_,_,heap_setBlock_same hb _,rfl,kM,pK,Zr,lJ⟩,bw.2 ⟨e0,List.mem_of_getElem? h2,by rw[h3]⟩⟩
end
def Ptr L bd w M:=
 ∃l,MapAt prog 267 w M l/\(∀p∈l,∃x v,p=(kV x,O aa v)/\x∈L/\0<=v/\v<=bd)/\(∀x∈L,∃v,(kV x,v)∈l)/\l.length=Room.nd L
theorem Ptr.made (w:World):Ptr [] 0 (w.alloc (.map #[] 0)) w:=⟨[],MapAt.made w,au,au,rfl⟩
theorem Ptr.on {L bd w w' M} (h:Ptr L bd w M) (hb:Below w w w'):Ptr L bd w' M:=by obtain⟨l,h1,h2⟩:=h;exact⟨l,h1.on hb,h2⟩
theorem Ptr.lt {L bd w M} (h:Ptr L bd w M):M<w:=by obtain⟨_,h1,_⟩:=h;exact h1.lt
theorem Ptr.size {L bd w M} (h:Ptr L bd w M):∃es clock,w.heap[M]?=some (.map es clock)/\es.size=Room.nd L:=by obtain⟨l,h1,_,_,h2⟩:=h;rw[<-h2];exact h1.size
theorem Ptr.step {L bd w M} (h:Ptr L bd w M) x (k1:zG x.1) (k2:zG x.2) (nJ:0<=bd):
  ∃v st o,0<=v/\v<=bd/\(Instr.lookup 308 (.map (some M)) (kV x) false).run prog w= .ok (O aa v) w/\
   (Instr.mapEntry 308 (.map (some M)) (kV x)).run prog w= .ok (ao #[O aa v,st]) (setBlock w M o)/\
   (Instr.lookup 308 (.map (some M)) (kV x) false).run prog (setBlock w M o)= .ok (O aa v) (setBlock w M o)/\
   w.grownBy (setBlock w M o) (some M)/\∃o',(Instr.entryStore 308 (.map (some M)) st (O aa (v+1))).run prog (setBlock w M o)= .ok () (setBlock (setBlock w M o) M o')/\
    Ptr (L++[x]) (bd+1) (setBlock (setBlock w M o) M o') M/\(setBlock w M o).grownBy (setBlock (setBlock w M o) M o') (some M):=by
 obtain⟨l,h1,h2,h3,h4⟩:=h;obtain⟨kl,hkl⟩:=aEv x k1 k2;obtain⟨v,st,o,bF,hv,hM,_,hg,ag3⟩:=h1.entry UE Tryz.underlying308 (z:=O aa 0) az hkl;obtain⟨l1,NT,yf⟩:=h1.mid UE Tryz.underlying308 (z:=O aa 0) az hkl bF;obtain⟨v2,f2,CV,Dw⟩:=NT.look UE Tryz.underlying308 (z:=O aa 0) az hkl false;obtain⟨v3,f3,hl3,xM⟩:=h1.look UE Tryz.underlying308 (z:=O aa 0) az hkl false;have e2:v2=v:=by
  rcases Dw with⟨_,hc⟩|⟨_,_,hc⟩
  .exact NT.one hc yf
  .exact absurd rfl (hc _ yf)
 have e3:v3=v:=by
  rcases xM with⟨_,hc⟩|⟨_,rfl,hc⟩<;>rcases hv with hv|⟨rfl,hv⟩
  .exact h1.one hc hv
  .exact absurd rfl (hv _ hc)
  .exact absurd rfl (hc _ hv)
  .rfl
 obtain⟨u,rfl,u0,u1⟩:∃u:Int,v=O aa u/\0<=u/\u<=bd:=by
  rcases hv with hv|⟨rfl,_⟩
  .obtain⟨y,u,he,_,hu0,ZT⟩:=h2 _ hv;injection he with _ he
   exact⟨u,he,hu0,ZT⟩
  .exact⟨0,rfl,Int.le_refl _,nJ⟩
 rw[e2] at CV;rw[e3] at hl3;obtain⟨l',o',hst,hP,hM',hg'⟩:=ag3 (setBlock w M o) (O aa (u+1)) hM;have Eb:=hP.mem h1.nodup;have ax8:x∈L↔∃v,(kV x,v)∈l:=⟨λhx=>h3 x hx,λ⟨v,hv⟩=>by
  obtain⟨y,u,he,hy,_⟩:=h2 _ hv;injection he with he _
  rw[aiz he];exact hy⟩
 refine⟨u,st,o,u0,u1,by simpa using hl3,bF,by simpa using CV,hg,o',hst,⟨l',hM',λp hp=>?_,λy hy=>?_,?_⟩,hg'⟩
 .obtain⟨pk,pv⟩:=p;rcases(Eb _ _).1 hp with⟨rfl,rfl⟩|⟨_,hp⟩
  .exact⟨x,u+1,rfl,au,ae,ae⟩
  .obtain⟨y,u,he,hy,a1,a2⟩:=h2 _ hp;exact⟨y,u,he,by simp[hy],a1,ae⟩
 .by_cases e:y=x
  .subst e;exact⟨_,(Eb _ _).2 (.inl ⟨rfl,rfl⟩)⟩
  .have hy':y∈L:=by simpa[e] using hy
   obtain⟨v,hv⟩:=h3 y hy';exact⟨v,(Eb _ _).2 (.inr ⟨λe2=>e (aiz e2),hv⟩)⟩
 .rw[Room.amI];rcases hP.len with⟨hh,he⟩|⟨hh,he⟩
  .rw[ev (ax8.2 hh),he,h4]
  .rw[eo (λhx=>by obtain⟨v,hv⟩:=ax8.1 hx;exact hh _ hv rfl),he,h4]
end
section
structure aO where
 k:Int
 l:Int
 s:Int
 d0:Int
 d1:Int
 d2:Int
 d3:Int
 d4:Int
 d5:Int
 a:Int
 b:Int
instance:Coe aO (Array Value):=⟨λx=>#[O aa x.k,O aa x.l,O aa x.s,O aa x.d0,O aa x.d1,O aa x.d2,O aa x.d3,O aa x.d4,O aa x.d5,O aa x.a,O aa x.b]⟩
namespace aO
def Pg (p:Int):=0<=p/\p<8192
instance (p:Int):Decidable (Pg p):=by unfold Pg;exact inferInstance
def zero:aO:=⟨0,0,0,0,0,0,0,0,0,0,0⟩
def Free (i:aO):=i.k=0/\i.l=0/\i.s=0/\i.d0=0/\i.d1=0/\i.d2=0/\i.d3=0/\i.d4=0/\i.d5=0/\i.a=0/\i.b=0
instance (i:aO):Decidable (Free i):=by unfold Free;exact inferInstance
def PI (i:aO):=Pg i.d0/\Pg i.d1/\Pg i.d2/\Pg i.d3/\Pg i.d4/\Pg i.d5
instance (i:aO):Decidable (PI i):=by unfold PI;exact inferInstance
def Used i:=(i.k=1\/i.k=2)/\0<=i.l/\i.l<=1000/\0<=i.s/\i.s<=2147483647/\PI i/\Pg i.a/\Pg i.b
instance (i:aO):Decidable (Used i):=by unfold Used;exact inferInstance
def Right i:=if i.k=0 then Free i else Used i
instance (i:aO):Decidable (Right i):=by unfold Right;exact inferInstance
def uT i:=decide (Right i)
theorem jC {i} (h:Right i):uT i=true:=ez h
theorem dB {i} (h:¬Right i):uT i=false:=ey h
theorem Nw {i} (h:i.k=0):Right i↔Free i:=by unfold Right;rw[ev h]
theorem sQ {i} (h:i.k≠0):Right i↔Used i:=by unfold Right;rw[eo h]
def bytes (i:aO):=
 [bx i.k.toNat,0]++aQ i.l.toNat 2++aQ i.s.toNat 4++aQ i.d0.toNat 2++aQ i.d1.toNat 2++aQ i.d2.toNat 2++aQ i.d3.toNat 2++aQ i.d4.toNat 2++aQ i.d5.toNat 2++aQ i.a.toNat 2++aQ i.b.toNat 2
def raw (xs:List UInt8):aO:=
 ⟨dX (xs.take 1),dX ((xs.drop 2).take 2),dX ((xs.drop 4).take 4),dX ((xs.drop 8).take 2),dX ((xs.drop 10).take 2),dX ((xs.drop 12).take 2),dX ((xs.drop 14).take 2),dX ((xs.drop 16).take 2),dX ((xs.drop 18).take 2),dX ((xs.drop 20).take 2),dX ((xs.drop 22).take 2)⟩
theorem EH {i} (h:Right i):(0<=i.k/\i.k<=2)/\(0<=i.l/\i.l<=1000)/\(0<=i.s/\i.s<=2147483647)/\PI i/\Pg i.a/\Pg i.b:=by
 by_cases hk:i.k=0
 .obtain⟨e0,e1,e2,e3,e4,e5,e6,e7,e8,e9,e10⟩:=(Nw hk).1 h;simp only[PI,Pg,e0,e1,e2,e3,e4,e5,e6,e7,e8,e9,e10];decide
 .obtain⟨e0,e1,e2,e3,e4,e5,e6,e7⟩:=(sQ hk).1 h;exact⟨ae,⟨e1,e2⟩,⟨e3,e4⟩,e5,e6,e7⟩
theorem lW i:(bytes i).length=24:=by simp[bytes,aU]
def xU xs:=if xs.length=24/\dX ((xs.drop 1).take 1)=0/\Right (raw xs) then raw xs else zero
def fZ (xs:List UInt8):Int:=if xs.length=24 then(if dX ((xs.drop 1).take 1)=0/\Right (raw xs) then 0 else 51) else 1
theorem read_short {xs} (h:xs.length≠24):xU xs=zero/\fZ xs=1:=by
 constructor
 .unfold xU;rw[eo (λk=>h k.1)]
 .unfold fZ;rw[eo h]
theorem o8 {xs} (h:xs.length=24) (h2:¬(dX ((xs.drop 1).take 1)=0/\Right (raw xs))):xU xs=zero/\fZ xs=51:=by
 constructor
 .unfold xU;rw[eo (λk=>h2 k.2)]
 .unfold fZ;rw[ev h,eo h2]
theorem QT {xs} (h:xs.length=24) (h1:dX ((xs.drop 1).take 1)=0) (h2:Right (raw xs)):xU xs=raw xs/\fZ xs=0:=by
 constructor
 .unfold xU;rw[ev ⟨h,h1,h2⟩]
 .unfold fZ;rw[ev h,ev ⟨h1,h2⟩]
end aO
namespace aO
theorem dD X n R:(aQ X n++R).drop n=R:=by rw[List.drop_append_of_le_length (by rw[aU];omega),List.drop_of_length_le (by rw[aU];omega),cP]
theorem takeB X n R (h:X<256^n):dX ((aQ X n++R).take n)=X:=by rw[List.take_append_of_le_length (by rw[aU];omega),cL (by rw[aU];omega),Hr h]
theorem aeK K Z l s d0 d1 d2 d3 d4 d5 a b (hl:l<256^2) (hs:s<256^4) (hd0:d0<256^2) (hd1:d1<256^2) (hd2:d2<256^2) (hd3:d3<256^2) (hd4:d4<256^2) (hd5:d5<256^2) (ha:a<256^2) (hb:b<256^2):
  raw (K::Z::(aQ l 2++(aQ s 4++(aQ d0 2++(aQ d1 2++(aQ d2 2++(aQ d3 2++(aQ d4 2++(aQ d5 2++(aQ a 2++(aQ b 2++[])))))))))))=⟨K.toNat,l,s,d0,d1,d2,d3,d4,d5,a,b⟩/\dX (((K::Z::(aQ l 2++(aQ s 4++(aQ d0 2++(aQ d1 2++(aQ d2 2++(aQ d3 2++(aQ d4 2++(aQ d5 2++(aQ a 2++(aQ b 2++[]))))))))))).drop 1).take 1)=Z.toNat:=by
 have z0:dX ((K::Z::(aQ l 2++(aQ s 4++(aQ d0 2++(aQ d1 2++(aQ d2 2++(aQ d3 2++(aQ d4 2++(aQ d5 2++(aQ a 2++(aQ b 2++[]))))))))))).take 1)=K.toNat:=by rw[List.take_succ_cons,List.take_zero];simp only[dX];omega
 have z1:dX (((K::Z::(aQ l 2++(aQ s 4++(aQ d0 2++(aQ d1 2++(aQ d2 2++(aQ d3 2++(aQ d4 2++(aQ d5 2++(aQ a 2++(aQ b 2++[]))))))))))).drop 1).take 1)=Z.toNat:=by rw[List.drop_succ_cons,List.drop_zero,List.take_succ_cons,List.take_zero];simp only[dX];omega
 have e2:(K::Z::(aQ l 2++(aQ s 4++(aQ d0 2++(aQ d1 2++(aQ d2 2++(aQ d3 2++(aQ d4 2++(aQ d5 2++(aQ a 2++(aQ b 2++[]))))))))))).drop 2=(aQ l 2++(aQ s 4++(aQ d0 2++(aQ d1 2++(aQ d2 2++(aQ d3 2++(aQ d4 2++(aQ d5 2++(aQ a 2++(aQ b 2++[])))))))))):=rfl;refine⟨?_,z1⟩;generalize hx:K::Z::(aQ l 2++(aQ s 4++(aQ d0 2++(aQ d1 2++(aQ d2 2++(aQ d3 2++(aQ d4 2++(aQ d5 2++(aQ a 2++(aQ b 2++[]))))))))))=xs at*;clear hx z1;have e4:xs.drop 4=(aQ s 4++(aQ d0 2++(aQ d1 2++(aQ d2 2++(aQ d3 2++(aQ d4 2++(aQ d5 2++(aQ a 2++(aQ b 2++[]))))))))):=by rw[show 4=2+2 from rfl,<-dr,e2];exact dD _ _ _
 have e8:xs.drop 8=(aQ d0 2++(aQ d1 2++(aQ d2 2++(aQ d3 2++(aQ d4 2++(aQ d5 2++(aQ a 2++(aQ b 2++[])))))))):=by rw[show 8=4+4 from rfl,<-dr,e4];exact dD _ _ _
 have e10:xs.drop 10=(aQ d1 2++(aQ d2 2++(aQ d3 2++(aQ d4 2++(aQ d5 2++(aQ a 2++(aQ b 2++[]))))))):=by rw[show 10=8+2 from rfl,<-dr,e8];exact dD _ _ _
 have e12:xs.drop 12=(aQ d2 2++(aQ d3 2++(aQ d4 2++(aQ d5 2++(aQ a 2++(aQ b 2++[])))))):=by rw[show 12=10+2 from rfl,<-dr,e10];exact dD _ _ _
 have e14:xs.drop 14=(aQ d3 2++(aQ d4 2++(aQ d5 2++(aQ a 2++(aQ b 2++[]))))):=by rw[show 14=12+2 from rfl,<-dr,e12];exact dD _ _ _
 have e16:xs.drop 16=(aQ d4 2++(aQ d5 2++(aQ a 2++(aQ b 2++[])))):=by rw[show 16=14+2 from rfl,<-dr,e14];exact dD _ _ _
 have e18:xs.drop 18=(aQ d5 2++(aQ a 2++(aQ b 2++[]))):=by rw[show 18=16+2 from rfl,<-dr,e16];exact dD _ _ _
 have e20:xs.drop 20=(aQ a 2++(aQ b 2++[])):=by rw[show 20=18+2 from rfl,<-dr,e18];exact dD _ _ _
 have e22:xs.drop 22=(aQ b 2++[]):=by rw[show 22=20+2 from rfl,<-dr,e20];exact dD _ _ _
 unfold raw;rw[z0,e2,e4,e8,e10,e12,e14,e16,e18,e20,e22];rw[takeB l 2 _ hl,takeB s 4 _ hs,takeB d0 2 _ hd0,takeB d1 2 _ hd1,takeB d2 2 _ hd2,takeB d3 2 _ hd3,takeB d4 2 _ hd4,takeB d5 2 _ hd5,takeB a 2 _ ha,takeB b 2 _ hb]
theorem aeL {i} (h:Right i):raw (bytes i)=i/\dX (((bytes i).drop 1).take 1)=0:=by
 obtain⟨⟨k1,k2⟩,⟨l1,l2⟩,⟨s1,s2⟩,hd,ha,hb⟩:=EH h;obtain⟨k,l,s,d0,d1,d2,d3,d4,d5,a,b⟩:=i;simp only[PI,Pg] at hd ha hb;simp only at k1 k2 l1 l2 s1 s2;obtain⟨⟨x0,y0⟩,⟨x1,y1⟩,⟨x2,y2⟩,⟨x3,y3⟩,⟨x4,y4⟩,⟨x5,y5⟩⟩:=hd;have e2:(256:Nat)^2=65536:=aB;have e4:(256:Nat)^4=4294967296:=aB;have hc:=aeK (bx k.toNat) 0 l.toNat s.toNat d0.toNat d1.toNat d2.toNat d3.toNat d4.toNat d5.toNat a.toNat b.toNat (by rw[e2];omega) (by rw[e4];omega) (by rw[e2];omega) (by rw[e2];omega) (by rw[e2];omega) (by rw[e2];omega) (by rw[e2];omega) (by rw[e2];omega) (by rw[e2];omega) (by rw[e2];omega)
 have eb:bytes ⟨k,l,s,d0,d1,d2,d3,d4,d5,a,b⟩=bx k.toNat::0::(aQ l.toNat 2++(aQ s.toNat 4++(aQ d0.toNat 2++(aQ d1.toNat 2++(aQ d2.toNat 2++(aQ d3.toNat 2++(aQ d4.toNat 2++(aQ d5.toNat 2++(aQ a.toNat 2++(aQ b.toNat 2++[])))))))))):=by simp only[bytes,cQ,dj,cP,cC]
 rw[eb];refine⟨hc.1.trans ?_,hc.2⟩;have hk:(bx k.toNat).toNat=k.toNat:=by rw[eh];omega
 rw[hk];simp only[aO.mk.injEq];omega
theorem aa6 {i} (h:Right i):xU (bytes i)=i/\fZ (bytes i)=0:=by obtain⟨r1,r2⟩:=aeL h;obtain⟨g1,g2⟩:=QT (lW i) r2 (by rw[r1];exact h);exact⟨g1.trans r1,g2⟩
def In (n:Nat) k:=0<=k/\k<Ino.eF n
instance (n:Nat) (k:Int):Decidable (In n k):=by unfold In;exact inferInstance
def cut (xs:List UInt8) j:=(xs.drop (j*24)).take 24
def qA xs k:=if In xs.length k then xU (cut xs k.toNat) else zero
def aI xs k:=if In xs.length k then fZ (cut xs k.toNat) else 1
def putAt (xs:List UInt8) (j:Nat) i:=xs.take (j*24)++bytes i++xs.drop (j*24+24)
def aeC xs k i:=if In xs.length k/\Right i then putAt xs k.toNat i else[]
def dA (xs:List UInt8) (k:Int) (i:aO):Int:=if In xs.length k then(if Right i then 0 else 51) else 1
theorem wF {n k} (h:In n k):k.toNat=k/\k.toNat*24+24<=n/\n<=512/\Ino.dO n:=by
 obtain⟨h1,h2⟩:=h;unfold Ino.eF at h2;by_cases hs:Ino.dO n
 .rw[ev hs] at h2;refine⟨ae,ae,?_,hs⟩;unfold Ino.dO at hs;omega
 .rw[eo hs] at h2;omega
theorem Ac {xs j i} (h:j*24+24<=xs.length):(putAt xs j i).length=xs.length:=by simp only[putAt,bE,cI,dk,lW];omega
theorem amF {xs j i} (h:j*24+24<=xs.length):cut (putAt xs j i) j=bytes i:=by
 unfold cut putAt;rw[cQ,List.drop_append,List.drop_of_length_le (by rw[cI];omega),cP,cI,show j*24-min (j*24) xs.length=0 by omega,List.drop_zero,
  List.take_append_of_le_length (by rw[lW];omega),cL (by rw[lW];omega)]
theorem amG {xs j t i} (h:j*24+24<=xs.length) (ht:t<j*24\/j*24+24<=t):(putAt xs j i)[t]?=xs[t]?:=by
 unfold putAt;rcases ht with ht|ht
 .rw[cQ,List.getElem?_append_left (by rw[cI];omega),List.getElem?_take,ev ht]
 .rw[List.getElem?_append_right (by simp only[bE,cI,lW];omega),List.getElem?_drop];simp only[bE,cI,lW]
  congr 1;omega
theorem aeM {xs j t i} (h:j*24+24<=xs.length) (di:t≠j):cut (putAt xs j i) t=cut xs t:=by
 apply List.ext_getElem?;intro m;unfold cut;rw[List.getElem?_take,List.getElem?_take,List.getElem?_drop,List.getElem?_drop];by_cases hm:m<24
 .rw[ev hm,ev hm,amG h ae]
 .rw[eo hm,eo hm]
theorem ah7 {xs k i} (h:In xs.length k) (hr:Right i):qA (putAt xs k.toNat i) k=i/\aI (putAt xs k.toNat i) k=0:=by obtain⟨b1,b2,_,_⟩:=wF h;unfold qA aI;rw[Ac b2,ev h,ev h,amF b2];exact aa6 hr
theorem aez {xs k t i} (h:In xs.length k) (di:t≠k):qA (putAt xs k.toNat i) t=qA xs t/\aI (putAt xs k.toNat i) t=aI xs t:=by
 obtain⟨b1,b2,_,_⟩:=wF h;unfold qA aI;rw[Ac b2];by_cases ht:In xs.length t
 .obtain⟨c1,_,_,_⟩:=wF ht;rw[aeM b2 ae];exact⟨rfl,rfl⟩
 .rw[eo ht,eo ht,eo ht,eo ht];exact⟨rfl,rfl⟩
end aO
end
section
open RowKit
theorem BB s w:
  Calls prog 132 #[O aa s] w λe w'=>e=ar (O aa (Ino.most s))/\w=w':=by
 by_cases h:Ino.dO s
 .have hd:decide (Ino.dO s)=true:=ez h;have HS:=ag h;rcases h with rfl|rfl|rfl|rfl
  ·
   go_in
   go_wp2_with fail;refine(dL _ _).cj ?_;rw[hd];go_wp2_with fail;refine(jy _ HS _).cj ?_;rw[show Ino.pages 64=1062 from rfl];go_wp2;go_ret;exact⟨rfl,rfl⟩
  ·
   go_in
   go_wp2_with fail;refine(dL _ _).cj ?_;rw[hd];go_wp2_with fail;refine(jy _ HS _).cj ?_;rw[show Ino.pages 128=4166 from rfl];go_wp2;go_ret;exact⟨rfl,rfl⟩
  ·
   go_in
   go_wp2_with fail;refine(dL _ _).cj ?_;rw[hd];go_wp2_with fail;refine(jy _ HS _).cj ?_;rw[show Ino.pages 256=16518 from rfl];go_wp2;go_ret;exact⟨rfl,rfl⟩
  ·
   go_in
   go_wp2_with fail;refine(dL _ _).cj ?_;rw[hd];go_wp2_with fail;refine(jy _ HS _).cj ?_;rw[show Ino.pages 512=65798 from rfl];go_wp2;go_ret;exact⟨rfl,rfl⟩
 .have hd:decide (Ino.dO s)=false:=ey h;have hv:Ino.most s=0:=by unfold Ino.most;rw[eo h]
  rw[hv];clear hv h
  go_in
  go_wp2_with fail;refine(dL _ _).cj ?_;rw[hd];go_wp2;go_ret;exact⟨rfl,rfl⟩
theorem oN s w:
  Calls prog 154 #[O aa s] w λe w'=>e=ar (O aa (Ino.eF s))/\w=w':=by
 by_cases h:Ino.dO s
 .have hd:decide (Ino.dO s)=true:=ez h;rcases h with rfl|rfl|rfl|rfl
  all_goals
   go_in
   go_wp2_with fail;refine(dL _ _).cj ?_;rw[hd];go_wp2;go_ret;exact⟨rfl,rfl⟩
 .have hd:decide (Ino.dO s)=false:=ey h;have hv:Ino.eF s=0:=by unfold Ino.eF;rw[eo h]
  rw[hv];clear hv h
  go_in
  go_wp2_with fail;refine(dL _ _).cj ?_;rw[hd];go_wp2;go_ret;exact⟨rfl,rfl⟩
theorem Ny p w:
  Calls prog 262 #[O aa p] w λe w'=>e=ar (aq (decide (0<=p/\p<8192)))/\w=w':=by
 by_cases h0:0<=p
 .by_cases h1:p<8192
  .rw[ez ⟨h0,h1⟩]
   go_in
   go_wp2;go_ret;exact⟨rfl,rfl⟩
  .rw[ey (λh=>h1 h.2)]
   go_in
   go_wp2;go_ret;exact⟨rfl,rfl⟩
 .rw[ey (λh=>h0 h.1)]
  go_in
  go_wp2;go_ret;exact⟨rfl,rfl⟩
theorem ni p (h:aO.Pg p) w:Calls prog 262 #[O aa p] w λe w'=>e=ar (aq true)/\w=w':=by refine(Ny p w).mono ?_;rw[ez (show 0<=p/\p<8192 from h)];exact λ_ _ h=>h
theorem uz p (h:¬aO.Pg p) w:Calls prog 262 #[O aa p] w λe w'=>e=ar (aq false)/\w=w':=by refine(Ny p w).mono ?_;rw[ey (show¬(0<=p/\p<8192) from h)];exact λ_ _ h=>h
end
section
open RowKit Go
abbrev tV (i:aO):Value:= .agg i
abbrev PO (i:aO):Obj:= .cells i 107
def QU (i j:aO):=i.k==j.k&&(i.l==j.l&&(i.s==j.s&&((i.d0==j.d0&&(i.d1==j.d1&&(i.d2==j.d2&&(i.d3==j.d3&&(i.d4==j.d4&&i.d5==j.d5)))))&&(i.a==j.a&&i.b==j.b))))
theorem aeN i j:QU i j=true↔i=j:=by obtain⟨k,l,s,d0,d1,d2,d3,d4,d5,a,b⟩:=i;obtain⟨k',l',s',d0',d1',d2',d3',d4',d5',a',b'⟩:=j;simp[QU];intro _ _ _;constructor<;>(intro h;simp[h])
theorem lX d i is xs ys a b w (hx:xs[i]?=some (O aa a)) (hy:ys[i]?=some (O aa b)):
  (Op.eqItems (d+1) 3 1 xs ys (i::is)).run prog w=if (a==b)=true then(Op.eqItems (d+1) 3 1 xs ys is).run prog w else .ok false w:=by
 have hp:prog.plainKey 3=true:=az;have p1:=run_part_plain (P:=prog) w hp (xs:=xs) (off:=i*1) (by rw[da];exact hx);have p2:=run_part_plain (P:=prog) w hp (xs:=ys) (off:=i*1) (by rw[da];exact hy);have p3:=run_equalIn_int (P:=prog) w d 3 .i64 .i64 a b Tryz.underlying3;simp only[Op.eqItems,Sem.run_bind,p1,p2,p3,Result.andThen_ok]
 cases hab:(a==b)<;>simp
theorem ax3 d a0 a1 a2 a3 a4 a5 b0 b1 b2 b3 b4 b5 w:
  (Op.equalIn (d+2) 105 (.agg #[O aa a0,O aa a1,O aa a2,O aa a3,O aa a4,O aa a5]) (.agg #[O aa b0,O aa b1,O aa b2,O aa b3,O aa b4,O aa b5])).run prog w
   = .ok (a0==b0&&(a1==b1&&(a2==b2&&(a3==b3&&(a4==b4&&a5==b5))))) w:=by
 have u3:=Tryz.underlying3;obtain⟨i,hi⟩:=info_of_underlying u3;have hc:prog.cellsOf 3=1:=az;rw[run_equalIn_array w (d+1) _ _ Tryz.underlying105 hi,hc];rw[show cz 6=[0,1,2,3,4,5] from rfl];rw[lX _ _ _ _ _ a0 b0 w rfl rfl,lX _ _ _ _ _ a1 b1 w rfl rfl,lX _ _ _ _ _ a2 b2 w rfl rfl,lX _ _ _ _ _ a3 b3 w rfl rfl,lX _ _ _ _ _ a4 b4 w rfl rfl,lX _ _ _ _ _ a5 b5 w rfl rfl];rw[show(Op.eqItems (d+1) 3 1 _ _ []).run prog w= .ok true w from rfl]
 cases(a0==b0)<;>cases(a1==b1)<;>cases(a2==b2)<;>cases(a3==b3)<;>cases(a4==b4)<;>cases(a5==b5)<;>rfl
theorem ax4 i j w:(Op.equalIn 10000 107 (tV i) (tV j)).run prog w= .ok (QU i j) w:=by
 have u3:=Tryz.underlying3;have a3:=Tryz.isAgg3;have z3:=Tryz.sizeOf3;have hS:prog.underlying 107=some (.struct (prog.fieldsOf 107)):=az;have hp:prog.stoodInHeld 107=false:=az;have h6:=λa0 a1 a2 a3 a4 a5 b0 b1 b2 b3 b4 b5=>ax3 9997 a0 a1 a2 a3 a4 a5 b0 b1 b2 b3 b4 b5;rw[show(10000:Nat)=9999+1 from rfl,run_equalIn_agg w 9999 107 _ _ hS hp];simp only[Program.fieldsOf,Tryz.underlying107];go_simp;have hd:(i.d0=j.d0->i.d1=j.d1->i.d2=j.d2->i.d3=j.d3->i.d4=j.d4->¬i.d5=j.d5)↔¬((i.d0==j.d0&&(i.d1==j.d1&&(i.d2==j.d2&&(i.d3==j.d3&&(i.d4==j.d4&&i.d5==j.d5)))))=true):=by simp
 simp only[hd,QU];by_cases h1:i.k=j.k
 .by_cases h2:i.l=j.l
  .by_cases h3:i.s=j.s
   .by_cases h4:(i.d0==j.d0&&(i.d1==j.d1&&(i.d2==j.d2&&(i.d3==j.d3&&(i.d4==j.d4&&i.d5==j.d5)))))=true
    .by_cases h5:i.a=j.a
     .by_cases h6:i.b=j.b
      .simp only[h1,h2,h3,h4,h5,h6];simp
      .simp only[h1,h2,h3,h4,h5];simp[h6]
     .simp only[h1,h2,h3,h4];simp[h5]
    .rw[Bool.not_eq_true] at h4;simp only[h1,h2,h3,h4];simp
   .simp only[h1,h2];simp[h3]
  .simp only[h1];simp[h2]
 .simp[h1]
@[go_sem high] theorem aEt k l s d0 d1 d2 d3 d4 d5 a b k' l' s' d0' d1' d2' d3' d4' d5' a' b' w : (Op.equalIn 10000 107 (.agg #[O aa k,O aa l,O aa s,O aa d0,O aa d1,O aa d2,O aa d3,O aa d4,O aa d5,O aa a,O aa b]) (.agg #[O aa k',O aa l',O aa s',O aa d0',O aa d1',O aa d2',O aa d3',O aa d4',O aa d5',O aa a',O aa b'])).run prog w = .ok (QU ⟨k, l, s, d0, d1, d2, d3, d4, d5, a, b⟩ ⟨k', l', s', d0', d1', d2', d3', d4', d5', a', b'⟩) w := ax4 ⟨k, l, s, d0, d1, d2, d3, d4, d5, a, b⟩ ⟨k', l', s', d0', d1', d2', d3', d4', d5', a', b'⟩ w
@[go_sem] theorem amx a0 a1 a2 a3 a4 a5 w : (Instr.index 105 (.agg #[O aa a0,O aa a1,O aa a2,O aa a3,O aa a4,O aa a5]) (O aa 0)).run prog w = .ok (O aa a0) w := az
@[go_sem] theorem amy a0 a1 a2 a3 a4 a5 w : (Instr.index 105 (.agg #[O aa a0,O aa a1,O aa a2,O aa a3,O aa a4,O aa a5]) (O aa 1)).run prog w = .ok (O aa a1) w := az
@[go_sem] theorem amz a0 a1 a2 a3 a4 a5 w : (Instr.index 105 (.agg #[O aa a0,O aa a1,O aa a2,O aa a3,O aa a4,O aa a5]) (O aa 2)).run prog w = .ok (O aa a2) w := az
@[go_sem] theorem amA a0 a1 a2 a3 a4 a5 w : (Instr.index 105 (.agg #[O aa a0,O aa a1,O aa a2,O aa a3,O aa a4,O aa a5]) (O aa 3)).run prog w = .ok (O aa a3) w := az
@[go_sem] theorem amB a0 a1 a2 a3 a4 a5 w : (Instr.index 105 (.agg #[O aa a0,O aa a1,O aa a2,O aa a3,O aa a4,O aa a5]) (O aa 4)).run prog w = .ok (O aa a4) w := az
@[go_sem] theorem amC a0 a1 a2 a3 a4 a5 w : (Instr.index 105 (.agg #[O aa a0,O aa a1,O aa a2,O aa a3,O aa a4,O aa a5]) (O aa 5)).run prog w = .ok (O aa a5) w := az
end
section
open RowKit
theorem qJ i w:
  Calls prog 233 #[tV i] w λe w'=>e=ar (aq (aO.uT i))/\Below w w w':=by
 have gB:=ag ((aE w w).alloc av (PO i));obtain⟨k,l,s,d0,d1,d2,d3,d4,d5,a,b⟩:=i;by_cases hk:k=0
 .subst hk;have hv:aO.uT ⟨0,l,s,d0,d1,d2,d3,d4,d5,a,b⟩=QU ⟨0,l,s,d0,d1,d2,d3,d4,d5,a,b⟩ ⟨0,0,0,0,0,0,0,0,0,0,0⟩:=by rw[Bool.eq_iff_iff,aeN,aO.uT,decide_eq_true_iff,aO.Nw rfl];simp[aO.Free]
  rw[hv];clear hv
  go_in
  go_wp2;go_ret;exact⟨rfl,gB⟩
 .have hu:=aO.sQ (i:=⟨k,l,s,d0,d1,d2,d3,d4,d5,a,b⟩) hk;have HU:=ag hu;clear hu;have hkb:(k==0)=false:=by rw[ew];exact hk
  have HK:=ag hk;clear hk
  go_in
  go_wp2;have BK:=ag (aF.new w 107 #[O aa k,O aa l,O aa s,O aa d0,O aa d1,O aa d2,O aa d3,O aa d4,O aa d5,O aa a,O aa b]);generalize w.alloc (PO ⟨k,l,s,d0,d1,d2,d3,d4,d5,a,b⟩)=w1 at*
  go_loop [2,4,13] (λr _x i=>∃m:Nat,m<=6/\r=aq false/\i=O aa m/\(0<m->aO.Pg d0)/\(1<m->aO.Pg d1)/\(2<m->aO.Pg d2)/\(3<m->aO.Pg d3)/\(4<m->aO.Pg d4)/\(5<m->aO.Pg d5)) (λ_ _ i=>6-(intOf i).toNat)
  case atStart=>exact⟨0,ae,rfl,rfl,ae,ae,ae,ae,ae,ae⟩
  case round=>
   obtain⟨m,hm,rfl,rfl,g0,g1,g2,g3,g4,g5⟩:=hrel;have hc:m=0\/m=1\/m=2\/m=3\/m=4\/m=5\/m=6:=ae;rcases hc with rfl|rfl|rfl|rfl|rfl|rfl|rfl
   .by_cases hp:aO.Pg d0
    .go_wp2_with (go_at_call 262;refine(ni d0 hp _).mono ?_;rintro e w' ⟨rfl,rfl⟩)
     go_round
     case rel=>exact⟨1,ae,rfl,rfl,λ_=>hp,ae,ae,ae,ae,ae⟩
     case measure=>simp[intOf]
    .go_wp2_with (go_at_call 262;refine(uz d0 hp _).mono ?_;rintro e w' ⟨rfl,rfl⟩)
     go_ret;exact⟨by rw[aO.dB (λh=>hp (by have:=HU.o.1 h;exact this.2.2.2.2.2.1.1))];rfl,gB⟩
   .by_cases hp:aO.Pg d1
    .go_wp2_with (go_at_call 262;refine(ni d1 hp _).mono ?_;rintro e w' ⟨rfl,rfl⟩)
     go_round
     case rel=>exact⟨2,ae,rfl,rfl,λ_=>g0 ae,λ_=>hp,ae,ae,ae,ae⟩
     case measure=>simp[intOf]
    .go_wp2_with (go_at_call 262;refine(uz d1 hp _).mono ?_;rintro e w' ⟨rfl,rfl⟩)
     go_ret;exact⟨by rw[aO.dB (λh=>hp (by have:=HU.o.1 h;exact this.2.2.2.2.2.1.2.1))];rfl,gB⟩
   .by_cases hp:aO.Pg d2
    .go_wp2_with (go_at_call 262;refine(ni d2 hp _).mono ?_;rintro e w' ⟨rfl,rfl⟩)
     go_round
     case rel=>exact⟨3,ae,rfl,rfl,λ_=>g0 ae,λ_=>g1 ae,λ_=>hp,ae,ae,ae⟩
     case measure=>simp[intOf]
    .go_wp2_with (go_at_call 262;refine(uz d2 hp _).mono ?_;rintro e w' ⟨rfl,rfl⟩)
     go_ret;exact⟨by rw[aO.dB (λh=>hp (by have:=HU.o.1 h;exact this.2.2.2.2.2.1.2.2.1))];rfl,gB⟩
   .by_cases hp:aO.Pg d3
    .go_wp2_with (go_at_call 262;refine(ni d3 hp _).mono ?_;rintro e w' ⟨rfl,rfl⟩)
     go_round
     case rel=>exact⟨4,ae,rfl,rfl,λ_=>g0 ae,λ_=>g1 ae,λ_=>g2 ae,λ_=>hp,ae,ae⟩
     case measure=>simp[intOf]
    .go_wp2_with (go_at_call 262;refine(uz d3 hp _).mono ?_;rintro e w' ⟨rfl,rfl⟩)
     go_ret;exact⟨by rw[aO.dB (λh=>hp (by have:=HU.o.1 h;exact this.2.2.2.2.2.1.2.2.2.1))];rfl,gB⟩
   .by_cases hp:aO.Pg d4
    .go_wp2_with (go_at_call 262;refine(ni d4 hp _).mono ?_;rintro e w' ⟨rfl,rfl⟩)
     go_round
     case rel=>exact⟨5,ae,rfl,rfl,λ_=>g0 ae,λ_=>g1 ae,λ_=>g2 ae,λ_=>g3 ae,λ_=>hp,ae⟩
     case measure=>simp[intOf]
    .go_wp2_with (go_at_call 262;refine(uz d4 hp _).mono ?_;rintro e w' ⟨rfl,rfl⟩)
     go_ret;exact⟨by rw[aO.dB (λh=>hp (by have:=HU.o.1 h;exact this.2.2.2.2.2.1.2.2.2.2.1))];rfl,gB⟩
   .by_cases hp:aO.Pg d5
    .go_wp2_with (go_at_call 262;refine(ni d5 hp _).mono ?_;rintro e w' ⟨rfl,rfl⟩)
     go_round
     case rel=>exact⟨6,ae,rfl,rfl,λ_=>g0 ae,λ_=>g1 ae,λ_=>g2 ae,λ_=>g3 ae,λ_=>g4 ae,λ_=>hp⟩
     case measure=>simp[intOf]
    .go_wp2_with (go_at_call 262;refine(uz d5 hp _).mono ?_;rintro e w' ⟨rfl,rfl⟩)
     go_ret;exact⟨by rw[aO.dB (λh=>hp (by have:=HU.o.1 h;exact this.2.2.2.2.2.1.2.2.2.2.2))];rfl,gB⟩
   .obtain⟨g0,g1,g2,g3,g4,g5⟩:aO.Pg d0/\aO.Pg d1/\aO.Pg d2/\aO.Pg d3/\aO.Pg d4/\aO.Pg d5:=⟨g0 ae,g1 ae,g2 ae,g3 ae,g4 ae,g5 ae⟩
    obtain⟨c0,c1,c2⟩:=BK.c3;have c3:=BK.aj (i:=9) rfl;have c4:=BK.aj (i:=10) rfl;by_cases eU:k=1\/k=2
    case neg=>
     have h1:(k==1)=false:=by rw[ew];omega
     have h2:(k==2)=false:=by rw[ew];omega
     have eU:=ag eU;go_wp2;go_ret;exact⟨by rw[aO.dB (λh=>eU.o (HU.o.1 h).1)];rfl,gB⟩
    by_cases Qm:0<=l
    case neg=>
     have hn:=ag (aO.dB (λh=>Qm (HU.o.1 h).2.1));rcases eU with rfl|rfl
     all_goals
      go_wp2;go_ret;exact⟨by rw[hn.o];rfl,gB⟩
    by_cases CV:l<=1000
    case neg=>
     have hn:=ag (aO.dB (λh=>CV (HU.o.1 h).2.2.1));rcases eU with rfl|rfl
     all_goals
      go_wp2;go_ret;exact⟨by rw[hn.o];rfl,gB⟩
    by_cases jA:0<=s
    case neg=>
     have hn:=ag (aO.dB (λh=>jA (HU.o.1 h).2.2.2.1));rcases eU with rfl|rfl
     all_goals
      go_wp2;go_ret;exact⟨by rw[hn.o];rfl,gB⟩
    by_cases mQ:s<=2147483647
    case neg=>
     have hn:=ag (aO.dB (λh=>mQ (HU.o.1 h).2.2.2.2.1));rcases eU with rfl|rfl
     all_goals
      go_wp2;go_ret;exact⟨by rw[hn.o];rfl,gB⟩
    by_cases ha:aO.Pg a
    case neg=>
     have hn:=ag (aO.dB (λh=>ha (HU.o.1 h).2.2.2.2.2.2.1));rcases eU with rfl|rfl
     all_goals
      go_wp2_with (go_at_call 262;refine(uz a ha _).mono ?_;rintro e w' ⟨rfl,rfl⟩)
      go_ret;exact⟨by rw[hn.o];rfl,gB⟩
    by_cases hb:aO.Pg b
    case neg=>
     have hn:=ag (aO.dB (λh=>hb (HU.o.1 h).2.2.2.2.2.2.2));rcases eU with rfl|rfl
     all_goals
      go_wp2_with (go_at_call 262;first|(refine(ni a ha _).mono ?_;rintro e w' ⟨rfl,rfl⟩)|(refine(uz b hb _).mono ?_;rintro e w' ⟨rfl,rfl⟩))
      go_ret;exact⟨by rw[hn.o];rfl,gB⟩
    have hy:=ag (aO.jC (HU.o.2 ⟨eU,Qm,CV,jA,mQ,⟨g0,g1,g2,g3,g4,g5⟩,ha,hb⟩));rcases eU with rfl|rfl
    all_goals
     go_wp2_with (go_at_call 262;first|(refine(ni a ha _).mono ?_;rintro e w' ⟨rfl,rfl⟩)|(refine(ni b hb _).mono ?_;rintro e w' ⟨rfl,rfl⟩))
     go_ret;exact⟨by rw[hy.o];rfl,gB⟩
end
section
namespace Pt
def Has (n:Nat) (k:Int):=Ino.dO n/\0<=k/\k<n/2
instance (n:Nat) (k:Int):Decidable (Has n k):=by unfold Has;exact inferInstance
def two (xs:List UInt8) j:=dX ((xs.drop (2*j)).take 2)
def put (xs:List UInt8) j tt:=xs.take (2*j)++aQ tt 2++xs.drop (2*j+2)
end Pt
namespace Pt
def Nu xs
 |0=>[]
 |k+1=>if two xs k=0 then Nu xs k else Nu xs k++[(k,two xs k)]
def pts xs:=if Ino.dO xs.length then Nu xs (xs.length/2) else[]
end Pt
end
section
open RowKit
theorem aa9 a n c w (h:n≠24):
  Calls prog 185 #[an a n c] w λe w'=>e=ar (ao #[tV aO.zero,O aa 1])/\Below w w w':=by
 have h1:((n:Int) !=24)=true:=by rw[bne_iff_ne];omega
 go_in
 go_wp2;refine bodyPost_ret (v:=ao #[tV aO.zero,O aa 1]) (by simp[results,Tryz.results185,go_sem,tV,aO.zero]) rfl ⟨rfl,?_⟩;exact(aE _ _).alloc av _
theorem zC (i:aO):(i:Array Value).all (·.oneCell')=true:=by simp[Value.oneCell']
theorem dC:(prog.info? 107).map (·.size)=some 11:=az
def aiA (K L S:Nat) (D:Nat->Nat) (m:Nat):Array Value:=
 #[O aa K,O aa L,O aa S,O aa (if 0 < m then (D 0) else 0),O aa (if 1 < m then (D 1) else 0),O aa (if 2 < m then (D 2) else 0),O aa (if 3 < m then (D 3) else 0),O aa (if 4 < m then (D 4) else 0),O aa (if 5 < m then (D 5) else 0),O aa 0,O aa 0]
theorem aba a c xs w (hx:Bytes w w a 24 xs) (hc:24<=c):
  Calls prog 185 #[an a 24 c] w λe w'=>e=ar (ao #[tV (aO.xU xs),O aa (aO.fZ xs)])/\Below w w w':=by
 have hmf:∀(fn:Fn) (first cap:Array Value) (w:World),(Instr.makeFunc fn first cap).run prog w= .ok (.func fn first cap) w:=λ_ _ _ _=>rfl
 go_in
 obtain⟨w2,jT⟩:=aW ((w.alloc (.cells bc 107)).alloc (.cells #[an a 24 c] 23));have aZ:Below w w w2:=by rw[jT];exact((aE _ _).alloc av _).alloc au _
 have tu:w2.heap.size=w.heap.size+2:=by rw[jT];simp
 have bg2:aF w2 w 107 bc:=by rw[jT];exact(aF.new w _ _).alloc _
 have br2:aF w2 (w.heap.size+1) 23 #[an a 24 c]:=by have h:=aF.new (w.alloc (.cells bc 107)) 23 #[an a 24 c];rw[show(w.alloc (.cells bc 107)).heap.size=w.heap.size+1 by simp] at h;rw[jT];exact h
 have wP:Bytes w2 w a 24 (xs.drop 0):=hx.below aZ;have hlen:=ag hx.len;go_wp2_with fail;rw[<-jT];clear jT hmf;go_call(iU (w.heap.size+1) w a 24 c xs 1 23 0 1 w2 br2 wP hc ae rfl rfl ae) as e w3 ⟨rfl,ht⟩;obtain⟨⟨a3,c3,br3,Y3,xM⟩,ahK,hz3,ahL⟩:=ht;have bg3:=ahK ae bg2;have bJ:=aZ.trans (ahL ae);clear ahK ahL br2 wP aZ bg2;generalize hK:dX ((xs.drop 0).take 1)=K;have HK:=ag hK;clear hK;obtain⟨w4,hw4⟩:=aW (w3.alloc (.cells #[O aa K,O aa 0,O aa 0,O aa 0,O aa 0,O aa 0,O aa 0,O aa 0,O aa 0,O aa 0,O aa 0] 107));have Ya:Below w3 w3 w4:=by rw[hw4];exact(aE _ _).alloc av _
 have bg4:=bg3.ah Ya;have br4:=br3.ah Ya;have hx4:=Y3.below (Ya.mono ae);have eG:=bJ.trans (Ya.mono ae);have hz4:w4.heap.size=w.heap.size+3:=by rw[hw4];simp;omega
 have bi4:aF w4 w3 107 #[O aa K,O aa 0,O aa 0,O aa 0,O aa 0,O aa 0,O aa 0,O aa 0,O aa 0,O aa 0,O aa 0]:=by rw[hw4];exact aF.new _ _ _
 clear bg3 br3 Y3 bJ Ya;rw[show w3.heap.size=w.heap.size+2 by omega] at bi4;go_wp2_with fail;rw[<-hw4];clear hw4;go_call(iU (w.heap.size+1) w a3 23 c3 xs 1 22 1 2 w4 br4 hx4 xM ae rfl rfl ae) as e w5 ⟨rfl,ht⟩;obtain⟨⟨a5,c5,br5,hx5,Y7⟩,ael,hz5,ahM⟩:=ht;have bg5:=ael ae bg4;have bi5:=ael ae bi4;have eQ:=eG.trans (ahM ae);clear ael ahM br4 hx4 eG bg4 bi4;generalize aeu:dX ((xs.drop 1).take 1)=gap;have aya:=ag aeu;clear aeu;go_wp2_with fail;go_call(iU (w.heap.size+1) w a5 22 c5 xs 2 20 2 4 w5 br5 hx5 Y7 ae rfl rfl ae) as e w6 ⟨rfl,ht⟩;obtain⟨⟨a6,c6,br6,hx6,hc6⟩,aem,hz6,ahN⟩:=ht;have bg6:=aem ae bg5;have bi6:=aem ae bi5;have fJ:=eQ.trans (ahN ae);clear aem ahN br5 hx5 eQ bg5 bi5;generalize hL:dX ((xs.drop 2).take 2)=L;have HL:=ag hL;clear hL;go_wp2_with fail;go_call(iU (w.heap.size+1) w a6 20 c6 xs 4 16 4 8 w6 br6 hx6 hc6 ae rfl rfl ae) as e w7 ⟨rfl,ht⟩;obtain⟨⟨a7,c7,br7,hx7,hc7⟩,asg,hz7,Yb⟩:=ht;have bg7:=asg ae bg6;have bi7:=asg ae bi6;have jr:=fJ.trans (Yb ae);clear asg Yb br6 hx6 fJ bg6 bi6;generalize hS:dX ((xs.drop 4).take 4)=S;have HS:=ag hS;clear hS;have i1:=bi7.aj (i:=1) rfl;have i2:=bi7.aj (i:=2) rfl;have f1:=bi7.frozen 1;have f2:=bi7.frozen 2;go_wp2;clear i1 i2 f1 f2;obtain⟨D,hD⟩:∃D:Nat->Nat,∀j,D j=dX ((xs.drop (8+2*j)).take 2):=⟨_,λ_=>rfl⟩
 have HD:=ag hD;clear hD;have hI:=ag (show(∃a' c',aF ((w7.setCell ⟨w.heap.size+2,1,none⟩ (O aa L)).setCell ⟨w.heap.size+2,2,none⟩ (O aa S)) (w.heap.size+1) 23 #[an a' (16:Nat) c']/\Bytes ((w7.setCell ⟨w.heap.size+2,1,none⟩ (O aa L)).setCell ⟨w.heap.size+2,2,none⟩ (O aa S)) w a' 16 (xs.drop 8)/\16<=c') from
  ⟨a7,c7,(br7.far au _).far au _,hx7.below (((aE _ _).setCell au _).setCell au _),hc7⟩)
 obtain⟨bi8,bg8,ny⟩:=cp ((bi7.set 1 (O aa L)).set 2 (O aa S)) ((bg7.far (p:=⟨w.heap.size+2,1,none⟩) au (O aa L)).far (p:=⟨w.heap.size+2,2,none⟩) au (O aa S)) ((jr.setCell (p:=⟨w.heap.size+2,1,none⟩) au (O aa L)).setCell (p:=⟨w.heap.size+2,2,none⟩) au (O aa S));clear br7 hx7 bi7 bg7 jr
 go_loopw [8,26] (λ_x i wr=>∃m:Nat,m<=6/\i=O aa m/\aF wr (w.heap.size+2) 107 (aiA K L S D m)/\aF wr w 107 bc/\
   (∃a' c',aF wr (w.heap.size+1) 23 #[an a' (16-2*m:Nat) c']/\Bytes wr w a' (16-2*m) (xs.drop (8+2*m))/\16-2*m<=c')/\Below w w wr/\wr.heap.size=w.heap.size+3) (λ_ i _=>6-(intOf i).toNat)
 case atStart=>exact⟨0,ae,rfl,bi8,bg8,hI,ny,by simp;omega⟩
 case round=>
  obtain⟨m,hm,rfl,bi,bg,⟨a',c',br,CP,UR⟩,hb,hz⟩:=hrel;have hc:=hm;have hm':m=0\/m=1\/m=2\/m=3\/m=4\/m=5\/m=6:=ae;rcases hm' with rfl|rfl|rfl|rfl|rfl|rfl|rfl
  .go_wp2_with fail;go_call(iU (w.heap.size+1) w a' (16-2*0) c' xs 2 (16-2*1) (8+2*0) (8+2*1) wr br CP UR ae rfl rfl ae) as e w9 ⟨rfl,ht⟩;rw[<-HD.o 0];obtain⟨⟨a9,c9,Yc,U6,WR⟩,lI,hz9,sO⟩:=ht;have Ai:aF w9 (w.heap.size+2) 107 #[O aa K,O aa L,O aa S,O aa 0,O aa 0,O aa 0,O aa 0,O aa 0,O aa 0,O aa 0,O aa 0]:=lI ae bi;have Yd:=lI ae bg;have iM:=hb.trans (sO ae);clear lI sO bi bg br CP hb;have i9:=Ai.aj (i:=3) rfl;have f9:=Ai.frozen 3;go_wp2;go_roundw
   case rel=>exact⟨1,ae,rfl,Ai.set 3 _,Yd.far au _,⟨a9,c9,Yc.far au _,U6.below ((aE _ _).setCell au _),WR⟩,iM.setCell au _,by simp;omega⟩
   case measure=>simp[intOf]
  .go_wp2_with fail;go_call(iU (w.heap.size+1) w a' (16-2*1) c' xs 2 (16-2*2) (8+2*1) (8+2*2) wr br CP UR ae rfl rfl ae) as e w9 ⟨rfl,ht⟩;rw[<-HD.o 1];obtain⟨⟨a9,c9,Yc,U6,WR⟩,lI,hz9,sO⟩:=ht;have Ai:aF w9 (w.heap.size+2) 107 #[O aa K,O aa L,O aa S,O aa (D 0),O aa 0,O aa 0,O aa 0,O aa 0,O aa 0,O aa 0,O aa 0]:=lI ae bi;have Yd:=lI ae bg;have iM:=hb.trans (sO ae);clear lI sO bi bg br CP hb;have i9:=Ai.aj (i:=4) rfl;have f9:=Ai.frozen 4;go_wp2;go_roundw
   case rel=>exact⟨2,ae,rfl,Ai.set 4 _,Yd.far au _,⟨a9,c9,Yc.far au _,U6.below ((aE _ _).setCell au _),WR⟩,iM.setCell au _,by simp;omega⟩
   case measure=>simp[intOf]
  .go_wp2_with fail;go_call(iU (w.heap.size+1) w a' (16-2*2) c' xs 2 (16-2*3) (8+2*2) (8+2*3) wr br CP UR ae rfl rfl ae) as e w9 ⟨rfl,ht⟩;rw[<-HD.o 2];obtain⟨⟨a9,c9,Yc,U6,WR⟩,lI,hz9,sO⟩:=ht;have Ai:aF w9 (w.heap.size+2) 107 #[O aa K,O aa L,O aa S,O aa (D 0),O aa (D 1),O aa 0,O aa 0,O aa 0,O aa 0,O aa 0,O aa 0]:=lI ae bi;have Yd:=lI ae bg;have iM:=hb.trans (sO ae);clear lI sO bi bg br CP hb;have i9:=Ai.aj (i:=5) rfl;have f9:=Ai.frozen 5;go_wp2;go_roundw
   case rel=>exact⟨3,ae,rfl,Ai.set 5 _,Yd.far au _,⟨a9,c9,Yc.far au _,U6.below ((aE _ _).setCell au _),WR⟩,iM.setCell au _,by simp;omega⟩
   case measure=>simp[intOf]
  .go_wp2_with fail;go_call(iU (w.heap.size+1) w a' (16-2*3) c' xs 2 (16-2*4) (8+2*3) (8+2*4) wr br CP UR ae rfl rfl ae) as e w9 ⟨rfl,ht⟩;rw[<-HD.o 3];obtain⟨⟨a9,c9,Yc,U6,WR⟩,lI,hz9,sO⟩:=ht;have Ai:aF w9 (w.heap.size+2) 107 #[O aa K,O aa L,O aa S,O aa (D 0),O aa (D 1),O aa (D 2),O aa 0,O aa 0,O aa 0,O aa 0,O aa 0]:=lI ae bi;have Yd:=lI ae bg;have iM:=hb.trans (sO ae);clear lI sO bi bg br CP hb;have i9:=Ai.aj (i:=6) rfl;have f9:=Ai.frozen 6;go_wp2;go_roundw
   case rel=>exact⟨4,ae,rfl,Ai.set 6 _,Yd.far au _,⟨a9,c9,Yc.far au _,U6.below ((aE _ _).setCell au _),WR⟩,iM.setCell au _,by simp;omega⟩
   case measure=>simp[intOf]
  .go_wp2_with fail;go_call(iU (w.heap.size+1) w a' (16-2*4) c' xs 2 (16-2*5) (8+2*4) (8+2*5) wr br CP UR ae rfl rfl ae) as e w9 ⟨rfl,ht⟩;rw[<-HD.o 4];obtain⟨⟨a9,c9,Yc,U6,WR⟩,lI,hz9,sO⟩:=ht;have Ai:aF w9 (w.heap.size+2) 107 #[O aa K,O aa L,O aa S,O aa (D 0),O aa (D 1),O aa (D 2),O aa (D 3),O aa 0,O aa 0,O aa 0,O aa 0]:=lI ae bi;have Yd:=lI ae bg;have iM:=hb.trans (sO ae);clear lI sO bi bg br CP hb;have i9:=Ai.aj (i:=7) rfl;have f9:=Ai.frozen 7;go_wp2;go_roundw
   case rel=>exact⟨5,ae,rfl,Ai.set 7 _,Yd.far au _,⟨a9,c9,Yc.far au _,U6.below ((aE _ _).setCell au _),WR⟩,iM.setCell au _,by simp;omega⟩
   case measure=>simp[intOf]
  .go_wp2_with fail;go_call(iU (w.heap.size+1) w a' (16-2*5) c' xs 2 (16-2*6) (8+2*5) (8+2*6) wr br CP UR ae rfl rfl ae) as e w9 ⟨rfl,ht⟩;rw[<-HD.o 5];obtain⟨⟨a9,c9,Yc,U6,WR⟩,lI,hz9,sO⟩:=ht;have Ai:aF w9 (w.heap.size+2) 107 #[O aa K,O aa L,O aa S,O aa (D 0),O aa (D 1),O aa (D 2),O aa (D 3),O aa (D 4),O aa 0,O aa 0,O aa 0]:=lI ae bi;have Yd:=lI ae bg;have iM:=hb.trans (sO ae);clear lI sO bi bg br CP hb;have i9:=Ai.aj (i:=8) rfl;have f9:=Ai.frozen 8;go_wp2;go_roundw
   case rel=>exact⟨6,ae,rfl,Ai.set 8 _,Yd.far au _,⟨a9,c9,Yc.far au _,U6.below ((aE _ _).setCell au _),WR⟩,iM.setCell au _,by simp;omega⟩
   case measure=>simp[intOf]
  .go_wp2_with fail;go_call(iU (w.heap.size+1) w a' (16-2*6) c' xs 2 2 (8+2*6) 22 wr br CP UR ae rfl rfl ae) as e w9 ⟨rfl,ht⟩;obtain⟨⟨a9,c9,Yc,U6,WR⟩,lI,hz9,sO⟩:=ht;have Ai:aF w9 (w.heap.size+2) 107 #[O aa K,O aa L,O aa S,O aa (D 0),O aa (D 1),O aa (D 2),O aa (D 3),O aa (D 4),O aa (D 5),O aa 0,O aa 0]:=lI ae bi;have Yd:=lI ae bg;have iM:=hb.trans (sO ae);clear lI sO bi bg br CP hb;generalize hA:dX ((xs.drop (8+2*6)).take 2)=A;have HA:=ag hA;clear hA;go_wp2_with fail;go_call(iU (w.heap.size+1) w a9 2 c9 xs 2 0 22 24 w9 Yc U6 WR ae rfl rfl ae) as e E5 ⟨rfl,ht⟩;obtain⟨⟨a10,c10,al4,al5,aL3⟩,aiB,aL4,aoJ⟩:=ht;have Uj:=aiB ae Ai;have ahP:=aiB ae Yd;have DJ:=iM.trans (aoJ ae);clear aiB aoJ Ai Yd Yc U6 iM al4 al5;generalize hE:dX ((xs.drop 22).take 2)=E;have HE:=ag hE;clear hE;have ahS:aF ((E5.setCell (w.heap.size+2,9) (O aa A)).setCell (w.heap.size+2,10) (O aa E)) (w.heap.size+2) 107 #[O aa K,O aa L,O aa S,O aa (D 0),O aa (D 1),O aa (D 2),O aa (D 3),O aa (D 4),O aa (D 5),O aa A,O aa E]:=(Uj.set 9 _).set 10 _;have ahR:=(ahP.far (p:=⟨w.heap.size+2,9,none⟩) au (O aa A)).far (p:=⟨w.heap.size+2,10,none⟩) au (O aa E);obtain⟨TZ,BI,BG⟩:=cp ((DJ.setCell (p:=⟨w.heap.size+2,9,none⟩) au (O aa A)).setCell (p:=⟨w.heap.size+2,10,none⟩) au (O aa E)) ahS ahR;have i9:=Uj.aj (i:=9) rfl;have i10:=Uj.aj (i:=10) rfl;have f9:=Uj.frozen 9;have f10:=Uj.frozen 10;have ahX:aO.raw xs=⟨K,L,S,D 0,D 1,D 2,D 3,D 4,D 5,A,E⟩:=by simp only[aO.raw,HD.o,<-HK.o,<-HL.o,<-HS.o,<-HA.o,<-HE.o,List.drop_zero]
   have ash:=ag ahX;clear ahX Uj ahP DJ ahR;by_cases hg:gap=0
   case neg=>
    have Y2:=ag (aO.o8 hlen (λh=>hg (by rw[<-aya.o];exact h.1)));have hg':((gap:Int) !=0)=true:=by rw[bne_iff_ne];omega
    clear hg
    go_wp2_with (refine aH rfl rfl _ _ _ rfl w bc rfl rfl 107 bc BG rfl dC (zC ⟨0,0,0,0,0,0,0,0,0,0,0⟩) ?_)
    have q:=BG.row bc;obtain⟨z0,z1,z2,z3,z4,z5,z6,z7,z8,z9,z10⟩:=q.c11;refine bodyPost_ret (v:=ao #[.agg bc,O aa 51]) (by simp[results,Tryz.results185,go_sem, *]) rfl ⟨?_,TZ.bU av _⟩;rw[Y2.o.1,Y2.o.2];rfl
   subst hg;obtain⟨y0,y1,y2,y3,y4,y5,y6,y7,y8,y9,GR⟩:=ahS.c11;by_cases hr:aO.Right ⟨K,L,S,D 0,D 1,D 2,D 3,D 4,D 5,A,E⟩
   case neg=>
    obtain⟨Y2,hb⟩:=cn (aO.o8 hlen (λh=>hr (by rw[<-ash.o];exact h.2))) (aO.dB hr);clear hr;go_wp2_with fail;refine(qJ ⟨K,L,S,D 0,D 1,D 2,D 3,D 4,D 5,A,E⟩ _).mono ?_;rw[hb.o];rintro e UF ⟨rfl,nI⟩;obtain⟨BG2,MZ⟩:=cn (BG.ah nI) (Below.aA TZ nI);clear nI y0 y1 y2 y3 y4 y5 y6 y7 y8 y9 GR
    go_wp2_with (refine aH rfl rfl _ _ _ rfl w bc rfl rfl 107 bc BG2 rfl dC (zC ⟨0,0,0,0,0,0,0,0,0,0,0⟩) ?_)
    have q:=BG2.row bc;obtain⟨z0,z1,z2,z3,z4,z5,z6,z7,z8,z9,z10⟩:=q.c11;refine bodyPost_ret (v:=ao #[.agg bc,O aa 51]) (by simp[results,Tryz.results185,go_sem, *]) rfl ⟨?_,MZ.bU av _⟩;rw[Y2.o.1,Y2.o.2];rfl
   obtain⟨Y2,hb⟩:=cn (aO.QT hlen aya (by rw[ash.o];exact hr)) (aO.jC hr);clear hr;go_wp2_with fail;refine(qJ ⟨K,L,S,D 0,D 1,D 2,D 3,D 4,D 5,A,E⟩ _).mono ?_;rw[hb.o];rintro e UF ⟨rfl,nI⟩;obtain⟨BG2,BI2,MZ⟩:=cp (BG.ah nI) (BI.ah nI) (Below.aA TZ nI);clear nI y0 y1 y2 y3 y4 y5 y6 y7 y8 y9 GR;obtain⟨y0,y1,y2,y3,y4,y5,y6,y7,y8,y9,GR⟩:=BI2.c11
   go_wp2_with (refine aH rfl rfl _ _ _ rfl w #[O aa K,O aa L,O aa S,O aa (D 0),O aa (D 1),O aa (D 2),O aa (D 3),O aa (D 4),O aa (D 5),O aa A,O aa E] rfl rfl 107 bc BG2 rfl dC (zC ⟨K,L,S,D 0,D 1,D 2,D 3,D 4,D 5,A,E⟩) ?_)
   clear y0 y1 y2 y3 y4 y5 y6 y7 y8 y9 GR;have q:=BG2.row #[O aa K,O aa L,O aa S,O aa (D 0),O aa (D 1),O aa (D 2),O aa (D 3),O aa (D 4),O aa (D 5),O aa A,O aa E];obtain⟨z0,z1,z2,z3,z4,z5,z6,z7,z8,z9,z10⟩:=q.c11;refine bodyPost_ret (v:=ao #[.agg #[O aa K,O aa L,O aa S,O aa (D 0),O aa (D 1),O aa (D 2),O aa (D 3),O aa (D 4),O aa (D 5),O aa A,O aa E],O aa 0]) (by simp[results,Tryz.results185,go_sem, *]) rfl ⟨?_,MZ.bU av _⟩;rw[Y2.o.1,Y2.o.2,ash.o]
theorem abb v0 xs (X n base:Nat) w (hX:X<9223372036854775808) (hn:n<=1000) (hl:xs.length<=1000000) (h0:Own aJ 5 w base v0 xs) (dE:base<=w):
  Calls prog 241 #[v0,O aa X,O aa n] w λe w'=>(∃v,e=ar v/\Own aJ 5 w' base v (xs++aQ X n))/\Below base w w':=by
 have H0:=ag h0;clear h0
 go_in
 go_wp2
 go_loopw [0,1,8] (λv x i wr=>∃k:Nat,k<=n/\i=O aa k/\x=O aa (X/256^k:Nat)/\Own aJ 5 wr base v (xs++aQ X k)/\Below base w wr) (λ_ _ i _=>n-(intOf i).toNat)
 case atStart=>exact⟨0,ae,rfl,au,by simpa[aQ] using H0.o,aE _ _⟩
 case round=>
  obtain⟨k,hk,rfl,rfl,ho,hb⟩:=hrel;obtain⟨HO,HB⟩:=cn ho hb;have iG:=hb.size;have awV:X/256^k<9223372036854775808:=Nat.lt_of_le_of_lt (Nat.div_le_self _ _) hX;obtain⟨XO,XP⟩:=cn (show X/256^k/256=X/256^(k+1) by rw[Nat.div_div_eq_div_mul,Nat.pow_succ]) (show(bx (X/256^k)).toNat=X/256^k%256 by rw[eh]);generalize hY:X/256^k=Y at*;have HY:=ag hY;clear ho hb hY;by_cases aT:k<n
  .have Ep:=ag (show#[Value.int .u8 ((Y:Int)%256)]=([bx Y].map aJ).toArray by rw[show((Y:Int)%256)=((Y%256:Nat):Int) by omega,<-XP.o];rfl)
   go_wp2_with (at_builtin;refine oW rfl _ _ rfl base _ (xs++aQ X k) rfl (HO.alloc _) _ _ _ _ [bx Y] rfl (jq.lit wr 5 [bx Y] 1 rfl ae Ep) (by rw[bE,aU];omega) (by simp;omega) ?_;intro v1 w1 XQ qP awW)
   go_roundw
   case rel=>
    refine⟨k+1,ae,by go_num,?_,?_,?_⟩
    .rw[<-XO.o];exact congrArg (Value.int .i64) ae
    .rw[F7,HY.o,<-cQ];exact XQ
    .exact kD (HB.alloc ae _) (HO.alloc _) qP (by simp;omega)
   case measure=>simp[intOf];omega
  .obtain rfl:k=n:=ae;go_wp2;go_ret;exact⟨⟨_,rfl,HO⟩,HB⟩
theorem jd v0 xs x (n base:Nat) w (h1:0<=x) (h2:x<=9223372036854775807) (hn:n<=1000) (hl:xs.length<=1000000) (h0:Own aJ 5 w base v0 xs) (dE:base<=w):
  Calls prog 241 #[v0,O aa x,O aa n] w λe w'=>(∃v,e=ar v/\Own aJ 5 w' base v (xs++aQ x.toNat n))/\Below base w w':=by
 have h:=abb v0 xs x.toNat n base w ae hn hl h0 dE;grind
theorem aeO i w (h:¬aO.Right i):
  Calls prog 195 #[tV i] w λe w'=>e=ar (ao #[an none 0 0,O aa 51])/\Below w w w':=by
 have gB:=ag ((aE w w).alloc av (PO i));have hr:=aO.dB h
 go_in
 go_wp2_with fail;go_call(qJ i _) as e w1 ⟨rfl,h_⟩;have HB:=ag h_;clear h_;rw[hr];go_wp2;go_ret2;exact⟨rfl,Below.aA gB HB⟩
theorem abd i w (h:aO.Right i):
  Calls prog 195 #[tV i] w λe w'=>(∃v,e=ar (ao #[v,O aa 0])/\Own aJ 5 w' w v i.bytes)/\Below w w w':=by
 have gB:=ag ((aE w w).alloc av (PO i));have hr:=aO.jC h;have nJ:=aO.EH h;obtain⟨k,l,s,d0,d1,d2,d3,d4,d5,a,b⟩:=i;simp only[aO.PI,aO.Pg] at nJ;obtain⟨⟨k1,k2⟩,⟨l1,l2⟩,⟨s1,s2⟩,⟨⟨x0,y0⟩,⟨x1,y1⟩,⟨x2,y2⟩,⟨x3,y3⟩,⟨x4,y4⟩,⟨x5,y5⟩⟩,⟨x6,y6⟩,⟨x7,y7⟩⟩:=nJ;clear h;have bk0:=ag (aF.new w 107 #[O aa k,O aa l,O aa s,O aa d0,O aa d1,O aa d2,O aa d3,O aa d4,O aa d5,O aa a,O aa b])
 go_in
 go_wp2_with fail;refine(qJ ⟨k,l,s,d0,d1,d2,d3,d4,d5,a,b⟩ _).mono ?_;rw[hr];rintro e w1 ⟨rfl,hb⟩;obtain⟨bk1,bV⟩:=cn (bk0.ah hb) (Below.aA gB hb);have aT:=bk1.lt;clear hb bk0 gB hr;have q0:=bk1.aj (i:=0) rfl;have q1:=bk1.aj (i:=1) rfl;have Ep:#[Value.int .u8 k,Value.int .u8 0]=([bx k.toNat,0].map aJ).toArray:=by simp only[cE,List.map_nil,aJ,eh];rw[show((k.toNat%2^8:Nat):Int)=k by omega];rfl
 have ho1:Own aJ 5 (w1.alloc (.cells #[O .u8 k,O .u8 0] 5)) w1 (an (w1.heap.size,0) 2 2) [bx k.toNat,0]:=by rw[Ep];exact Own.akb rfl rfl av aB
 have Rq:=ag ho1;clear Ep ho1;obtain⟨aZ,bk2⟩:=cn (bV.alloc bV.size (.cells #[O .u8 k,O .u8 0] 5)) (bk1.alloc (.cells #[O .u8 k,O .u8 0] 5));go_wp2_with fail;go_call(jd _ [bx k.toNat,0] l 2 w1 _ ae ae ae au Rq au) as e w3 ⟨⟨aL6,rfl,ho⟩,hb⟩;have aIj:w1.heap.size<w3.heap.size:=by have:=hb.size;simp at this;omega
 obtain⟨bk3,cO⟩:=cn (bk2.below hb ae) (aZ.trans (hb.mono ae));generalize hL1:[bx k.toNat,0]++aQ l.toNat 2=L1 at ho;have lL1:L1.length=4:=by rw[<-hL1];simp[aU]
 obtain⟨tN,VM⟩:=cn ho hL1;clear ho hb hL1 bk2 aZ Rq bk1 bV q0 q1;have q2:=bk3.aj (i:=2) rfl;go_wp2_with fail;go_call(jd _ L1 s 4 w1 _ ae ae ae ae tN ae) as e w4 ⟨⟨aL8,rfl,ho⟩,hb⟩;have aIk:=hb.size;obtain⟨YY,jM⟩:=cn (bk3.below hb ae) (cO.trans (hb.mono ae));generalize hL2:L1++aQ s.toNat 4=L2 at ho;have lL2:L2.length=8:=by rw[<-hL2];simp[aU,lL1]
 obtain⟨x9,xW⟩:=cn ho hL2;clear ho hb hL2 bk3 cO tN q2;have q3:=YY.aj (i:=3) rfl;have q4:=YY.aj (i:=4) rfl;have q5:=YY.aj (i:=5) rfl;have q6:=YY.aj (i:=6) rfl;have q7:=YY.aj (i:=7) rfl;have q8:=YY.aj (i:=8) rfl;go_wp2_with fail;clear q3 q4 q5 q6 q7 q8
 go_loopw [4,6,24] (λv _x i wr=>∃m:Nat,m<=6/\i=O aa m/\Own aJ 5 wr w1 v (L2++([d0,d1,d2,d3,d4,d5].take m).flatMap λd=>aQ d.toNat 2)/\Below w1 w4 wr) (λ_ _ i _=>6-(intOf i).toNat)
 case atStart=>exact⟨0,ae,rfl,by simpa using x9.o,aE _ _⟩
 case round=>
  obtain⟨m,hm,rfl,ho,hb⟩:=hrel;have hsr:=hb.size;obtain⟨HO,HB⟩:=cn ho hb;clear ho hb;have hc:m=0\/m=1\/m=2\/m=3\/m=4\/m=5\/m=6:=ae;rcases hc with rfl|rfl|rfl|rfl|rfl|rfl|rfl
  .go_wp2_with fail;go_call(jd _ _ d0 2 w1 _ ae ae ae (by simp[lL2]) HO ae) as e wn ⟨⟨vn,rfl,ho⟩,hb⟩;obtain⟨VG,Ce⟩:=cn ho (HB.trans hb);clear ho hb;go_wp2;go_roundw
   case rel=>exact⟨1,ae,rfl,by simpa using VG.o,Ce⟩
   case measure=>simp[intOf]
  .go_wp2_with fail;go_call(jd _ _ d1 2 w1 _ ae ae ae (by simp[aU,lL2]) HO ae) as e wn ⟨⟨vn,rfl,ho⟩,hb⟩;obtain⟨VG,Ce⟩:=cn ho (HB.trans hb);clear ho hb;go_wp2;go_roundw
   case rel=>exact⟨2,ae,rfl,by simpa using VG.o,Ce⟩
   case measure=>simp[intOf]
  .go_wp2_with fail;go_call(jd _ _ d2 2 w1 _ ae ae ae (by simp[aU,lL2]) HO ae) as e wn ⟨⟨vn,rfl,ho⟩,hb⟩;obtain⟨VG,Ce⟩:=cn ho (HB.trans hb);clear ho hb;go_wp2;go_roundw
   case rel=>exact⟨3,ae,rfl,by simpa using VG.o,Ce⟩
   case measure=>simp[intOf]
  .go_wp2_with fail;go_call(jd _ _ d3 2 w1 _ ae ae ae (by simp[aU,lL2]) HO ae) as e wn ⟨⟨vn,rfl,ho⟩,hb⟩;obtain⟨VG,Ce⟩:=cn ho (HB.trans hb);clear ho hb;go_wp2;go_roundw
   case rel=>exact⟨4,ae,rfl,by simpa using VG.o,Ce⟩
   case measure=>simp[intOf]
  .go_wp2_with fail;go_call(jd _ _ d4 2 w1 _ ae ae ae (by simp[aU,lL2]) HO ae) as e wn ⟨⟨vn,rfl,ho⟩,hb⟩;obtain⟨VG,Ce⟩:=cn ho (HB.trans hb);clear ho hb;go_wp2;go_roundw
   case rel=>exact⟨5,ae,rfl,by simpa using VG.o,Ce⟩
   case measure=>simp[intOf]
  .go_wp2_with fail;go_call(jd _ _ d5 2 w1 _ ae ae ae (by simp[aU,lL2]) HO ae) as e wn ⟨⟨vn,rfl,ho⟩,hb⟩;obtain⟨VG,Ce⟩:=cn ho (HB.trans hb);clear ho hb;go_wp2;go_roundw
   case rel=>exact⟨6,ae,rfl,by simpa using VG.o,Ce⟩
   case measure=>simp[intOf]
  .have YT:w1.heap.size<wr.heap.size:=ae;generalize hL3:(L2++([d0,d1,d2,d3,d4,d5].take 6).flatMap λd=>aQ d.toNat 2)=L3 at HO;have lL3:L3.length=20:=by rw[<-hL3];simp[aU,lL2]
   obtain⟨wR,bk5,je⟩:=cp hL3 (YY.below HB ae) (jM.trans (HB.mono ae));clear hL3 YY jM HB x9;have q9:=bk5.aj (i:=9) rfl;go_wp2_with fail;go_call(jd _ L3 a 2 w1 _ ae ae ae ae HO ae) as e w6 ⟨⟨v6,rfl,ho⟩,hb⟩;have hs6:=hb.size;obtain⟨bk6,ve,BQ⟩:=cp (bk5.below hb ae) (je.trans (hb.mono ae)) ho;clear ho hb bk5 je HO q9;have q10:=bk6.aj (i:=10) rfl;go_wp2_with fail;go_call(jd _ _ b 2 w1 _ ae ae ae (by simp[aU,lL3]) BQ ae) as e w7 ⟨⟨v7,rfl,ho⟩,hb⟩;have nY:=ag (ve.trans (hb.mono ae));have Jh:L3++aQ a.toNat 2++aQ b.toNat 2=aO.bytes ⟨k,l,s,d0,d1,d2,d3,d4,d5,a,b⟩:=by rw[<-wR.o,<-xW.o,<-VM.o];simp[aO.bytes]
   rw[Jh] at ho;have uB:=ag (ho.mono (Nat.le_of_lt aT));clear ho hb Jh;go_wp2;go_ret2;exact⟨⟨_,rfl,uB⟩,nY⟩
theorem YB a n c xs w (hx:Bytes w w a n xs) (hc:n<=c):
  Calls prog 185 #[an a n c] w λe w'=>e=ar (ao #[tV (aO.xU xs),O aa (aO.fZ xs)])/\Below w w w':=by
 by_cases hn:n=24
 .subst hn;exact aba a c xs w hx hc
 .obtain⟨r1,r2⟩:=aO.read_short (xs:=xs) (by rw[hx.len];exact hn);rw[r1,r2];exact aa9 a n c w hn
namespace aO
def lu i:=if Right i then i.bytes else[]
def iD (i:aO):Int:=if Right i then 0 else 51
theorem Gm {i} (h:Right i):lu i=i.bytes/\iD i=0:=by unfold lu iD;rw[ev h,ev h];exact⟨rfl,rfl⟩
theorem NC {i} (h:¬Right i):lu i=[]/\iD i=51:=by unfold lu iD;rw[eo h,eo h];exact⟨rfl,rfl⟩
end aO
def abe (i:aO) (w:World) (e:Ending) w':=∃v,e=ar (ao #[v,O aa (aO.iD i)])/\Own aJ 5 w' w v (aO.lu i)/\Below w w w'
theorem EI i w:Calls prog 195 #[tV i] w (abe i w):=by
 by_cases h:aO.Right i
 .refine(abd i w h).mono λe w' ⟨⟨v,he,ho⟩,hb⟩=>?_;unfold abe;rw[(aO.Gm h).1,(aO.Gm h).2];exact⟨v,he,ho,hb⟩
 .refine(aeO i w h).mono λe w' ⟨he,hb⟩=>?_;unfold abe;rw[(aO.NC h).1,(aO.NC h).2];exact⟨_,he,Own.nil _ _,hb⟩
theorem QW a n c k w (h:aO.In n k):
  Calls prog 184 #[an a n c,O aa k] w λe w'=>e=ar (aq true)/\w=w':=by
 have h1:=h.1;have h2:=h.2;have h3:decide (k<Ino.eF n)=true:=ez h2;clear h
 go_in
 go_wp2_with fail;refine(oN _ _).cj ?_;generalize Ino.eF n=P at*;go_wp2;go_ret;exact⟨by first|rfl|simp[h2],rfl⟩
theorem YC a n c k w (h:¬aO.In n k):
  Calls prog 184 #[an a n c,O aa k] w λe w'=>e=ar (aq false)/\w=w':=by
 by_cases h1:0<=k
 .have h2:Ino.eF n<=k:=by
   by_cases h2:k<Ino.eF n
   .exact absurd ⟨h1,h2⟩ h
   .omega
  have h3:decide (k<Ino.eF n)=false:=ey ae;clear h
  go_in
  go_wp2_with fail;refine(oN _ _).cj ?_;generalize Ino.eF n=P at*;go_wp2;go_ret;exact⟨by first|rfl|simp[h2],rfl⟩
 .have h3:decide (0<=k)=false:=ey h1;clear h
  go_in
  go_wp2;go_ret;exact⟨rfl,rfl⟩
theorem amL {xs k} (h:¬aO.In xs.length k):aO.qA xs k=aO.zero/\aO.aI xs k=1:=by unfold aO.qA aO.aI;rw[eo h,eo h];exact⟨rfl,rfl⟩
theorem FM a n c xs k w (hx:Bytes w w a n xs) (uD:n<=c):
  Calls prog 131 #[an a n c,O aa k] w λe w'=>e=ar (ao #[tV (aO.qA xs k),O aa (aO.aI xs k)])/\Below w w w':=by
 have hl:=hx.len;by_cases h:aO.In n k
 case neg=>
  obtain⟨r1,r2⟩:=amL (xs:=xs) (k:=k) (by rw[hl];exact h);rw[r1,r2];have HP:=ag (λw=>YC a n c k w h);clear r1 r2 h hl hx
  go_in
  go_wp2_with fail;refine(HP.o _).cj ?_;go_wp2;refine bodyPost_ret (v:=ao #[tV aO.zero,O aa 1]) (by simp[results,Tryz.results131,go_sem,tV,aO.zero]) rfl ⟨rfl,?_⟩;exact(aE _ _).alloc av _
 have HP:=ag (λw=>QW a n c k w h);obtain⟨q3,q1,q2,hs⟩:=aO.wF h;obtain⟨j,rfl⟩:∃j:Nat,k=j:=⟨k.toNat,q3.symm⟩
 rw[Int.toNat_natCast] at q1;have r1:aO.qA xs j=aO.xU (aO.cut xs j):=by unfold aO.qA;rw[ev (by rw[hl];exact h),Int.toNat_natCast]
 have r2:aO.aI xs j=aO.fZ (aO.cut xs j):=by unfold aO.aI;rw[ev (by rw[hl];exact h),Int.toNat_natCast]
 obtain⟨EJ,tC,gB⟩:=cp r1 r2 ((aE w w).alloc av (PO aO.zero));have bg:=aF.new w 107 bc;have wO:=((hx.drop (l:=j*24) ae uD).take (k:=24) ae).alloc (PO aO.zero);have yg:=ag (show Bytes (w.alloc (PO aO.zero)) (w.alloc (PO aO.zero)).heap.size (iQ a c (j*24)) 24 (aO.cut xs j) from wO);have hcut:=vK a n c (j*24) ((j+1)*24) ae ae;rw[show((j*24:Nat):Int)=(j:Int)*24 by omega,show(((j+1)*24:Nat):Int)=((j:Int)+1)*24 by omega,show(j+1)*24-j*24=24 by omega] at hcut;clear h q3 hl hx r1 r2 hs wO
 go_in
 go_wp2_with fail;refine(HP.o _).cj ?_;go_wp2_with fail;refine(YB (iQ a c (j*24)) 24 (c-j*24) (aO.cut xs j) _ yg ae).mono ?_;rintro _ w2 ⟨rfl,hb⟩;generalize aO.xU (aO.cut xs j)=r at*;generalize aO.fZ (aO.cut xs j)=er at*;obtain⟨HG,HB⟩:=cn (bg.ah hb) (Below.aA gB hb);clear hb bg
 go_wp2_with (refine aH rfl rfl _ _ _ rfl w r rfl rfl 107 bc HG rfl dC (zC r) ?_)
 have q:=HG.row r;obtain⟨z0,z1,z2,z3,z4,z5,z6,z7,z8,z9,z10⟩:=q.c11;refine bodyPost_ret (v:=ao #[.agg r,O aa er]) (by simp[results,Tryz.results131,go_sem,z0,z1,z2,z3,z4,z5,z6,z7,z8,z9,z10]) rfl ⟨?_,HB.bU av _⟩;rw[EJ.o,tC.o]
def amM (xs:List UInt8) (k:Int) (i:aO) (w:World) (e:Ending) (w':World):=∃v,e=ar (ao #[v,O aa (aO.dA xs k i)])/\Own aJ 5 w' w v (aO.aeC xs k i)/\Below w w w'
theorem amN {xs k i w w'} (h:¬aO.In xs.length k) (hb:Below w.heap.size w w'):amM xs k i w (.returned (ao #[an none 0 0,O aa 1])) w':=by
 refine⟨an none 0 0,?_,?_,hb⟩
 .unfold aO.dA;rw[eo h]
 .unfold aO.aeC;rw[eo (λg=>h g.1)];exact Own.nil _ _
theorem aiC {xs k i w w'} (h:aO.In xs.length k) (hr:¬aO.Right i) (hb:Below w.heap.size w w'):amM xs k i w (.returned (ao #[an none 0 0,O aa 51])) w':=by
 refine⟨an none 0 0,?_,?_,hb⟩
 .unfold aO.dA;rw[ev h,eo hr]
 .unfold aO.aeC;rw[eo (λg=>hr g.2)];exact Own.nil _ _
theorem aeP {xs} {j:Nat} {i v w w'} (h:aO.In xs.length j) (hr:aO.Right i) (ho:Own aJ 5 w' w.heap.size v (aO.putAt xs j i)) (hb:Below w.heap.size w w'):amM xs j i w (.returned (ao #[v,O aa 0])) w':=by
 refine⟨v,?_,?_,hb⟩
 .unfold aO.dA;rw[ev h,ev hr]
 .unfold aO.aeC;grind
theorem aa2 a n c xs k i w (hx:Bytes w w a n xs):
  Calls prog 139 #[an a n c,O aa k,tV i] w (amM xs k i w):=by
 have hl:=hx.len;have gB:=ag ((aE w w).alloc av (PO i));by_cases h:aO.In n k
 case neg=>
  obtain⟨HN,HP⟩:=cn (λw' (hb:Below w w w')=>amN (i:=i) (show¬aO.In xs.length k by rw[hl];exact h) hb) (λw=>YC a n c k w h);clear h hl hx
  go_in
  go_wp2_with fail;refine(HP.o _).cj ?_;go_wp2;go_ret2;exact HN.o _ gB.o
 have HP:=ag (λw=>QW a n c k w h);by_cases hr:aO.Right i
 case neg=>
  obtain⟨HN,hE⟩:=cn (λw' (hb:Below w w w')=>aiC (show aO.In xs.length k by rw[hl];exact h) hr hb) (aO.NC hr);clear h hl hx hr
  go_in
  go_wp2_with fail;refine(HP.o _).cj ?_;go_wp2_with fail;go_call(EI i _) as e w1 ⟨v1,rfl,ho,hb⟩;rw[hE.o.2];have HB:=ag (Below.aA gB hb);clear ho hb;go_wp2;go_ret2;exact HN.o _ HB.o
 have hE:=ag (aO.Gm hr);obtain⟨q3,q1,q2,_⟩:=aO.wF h;obtain⟨j,rfl⟩:∃j:Nat,k=j:=⟨k.toNat,q3.symm⟩
 rw[Int.toNat_natCast] at q1;obtain⟨HI,HR,HX,hlen⟩:=cr (show aO.In xs.length j by rw[hl];exact h) hr (hx.alloc (PO i)) hl;clear h q3 hl hx hr
 go_in
 go_wp2_with fail;refine(HP.o _).cj ?_;go_wp2_with fail;go_call(EI i _) as e w1 ⟨v1,rfl,ho,hb⟩;rw[hE.o.2];rw[hE.o.1] at ho;obtain⟨a1,c1,rfl,_⟩:=ho.bG (n:=24) (aO.lW i);obtain⟨bV,HY1,yg⟩:=cp (Below.aA gB hb) (ho.arr (by rw[aO.lW];omega)) (HX.on hb);have jA:=bV.size;clear ho hb hE;go_wp2_with fail;go_call(iY a n c xs _ yg) as e w2 ⟨⟨v2,rfl,ho⟩,hb⟩;obtain⟨a2,c2,rfl,_⟩:=ho.bG (n:=n) hlen.o;obtain⟨g,rfl,jf,_⟩:=ho.addr (by rw[hlen.o];omega);obtain⟨tJ,df,HY2⟩:=cp ho (Below.aA bV hb) (HY1.on hb);have hcut:=kE (g,0) n c2 (j*24) ae;rw[show((j*24:Nat):Int)=(j:Int)*24 by omega] at hcut;clear ho hb
 go_wp2_with (with_reducible refine Rn rfl _ _ rfl w1 g n c2 (j*24) xs rfl tJ.o _ a1 24 c1 i.bytes rfl HY2.o ae ?_;intro w3 tN bJ)
 go_ret2;have hso:=tN.mono jA;exact aeP HI.o HR.o hso (df.trans (bJ.mono jA))
end
end Go.Proofs.YtnieckfelfoopaaGreat

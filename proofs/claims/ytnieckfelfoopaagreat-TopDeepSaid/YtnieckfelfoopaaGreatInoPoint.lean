import Derived.WalkKit
import Derived.Test.YtnieckfelfoopaaGreatSlClone
import Derived.Test.YtnieckfelfoopaaGreatRows
import Derived.StillTailTactics
import Derived.ChangeKeysEq
import Derived.Deep.QuietTactic
import Derived.BigQuiet
import Derived.Deep.RegionHeld3
import Derived.Deep.DeepCutAuto
open Go.Proofs.Tryz (prog)
namespace Go.Proofs.YtnieckfelfoopaaGreat
open Lib (hid)
set_option maxRecDepth 100000
set_option maxHeartbeats 16000000
section
namespace Ino

def dL (n:Int):Prop:=n=64\/n=128\/n=256\/n=512
instance (n:Int):Decidable (dL n):=by unfold dL;exact inferInstance
def pages (s:Int):Int:=6+s/2+s/2*(s/2)
def most (s:Int):Int:=if dL s then(if pages s*s>2147483647 then 2147483647 else pages s*s) else 0
def dV (s:Int):Int:=if dL s then s/24 else 0
def nJ (s n:Int):Int:=if dL s then(if n<0\/pages s<=n then 52 else 0) else 1
def lD (s n:Int):Int:=if nJ s n≠0 then 0 else if n<6 then 0 else if n<6+s/2 then 1 else 2
def oL (s n:Int):Int:=if nJ s n≠0 then 0 else if n<6 then n else if n<6+s/2 then n-6 else(n-6-s/2)/(s/2)
def uN (s n:Int):Int:=if nJ s n≠0 then 0 else if n<6 then 0 else if n<6+s/2 then 0 else(n-6-s/2)%(s/2)
theorem adM:pages 64=1062:=rfl
theorem O3 {s n:Int} (h:nJ s n=0):dL s/\0<=n/\n<pages s:=by
 unfold nJ at h;by_cases hs:dL s
 ·rw[if_pos hs] at h;by_cases hn:n<0\/pages s<=n
  ·rw[if_pos hn] at h;cases h
  ·exact⟨hs,ae,ae⟩
 ·rw[if_neg hs] at h;cases h
theorem Gj {s n:Int} (hs:dL s) (h0:0<=n) (h1:n<pages s):nJ s n=0:=by unfold nJ;rw[if_pos hs,if_neg ae]
theorem qc {s n:Int} (h:nJ s n=0):
  (lD s n=0/\oL s n=n/\uN s n=0/\n<6)\/(lD s n=1/\oL s n=n-6/\uN s n=0/\6<=n/\n<6+s/2)\/
  (lD s n=2/\oL s n=(n-6-s/2)/(s/2)/\uN s n=(n-6-s/2)%(s/2)/\6+s/2<=n):=by
 obtain⟨hs,h0,h1⟩:=O3 h;by_cases h6:n<6
 ·exact .inl ⟨by simp[lD,h,h6],by simp[oL,h,h6],by simp[uN,h,h6],h6⟩
 by_cases hk:n<6+s/2
 ·exact .inr (.inl ⟨by simp[lD,h,h6,hk],by simp[oL,h,h6,hk],by simp[uN,h,h6,hk],ae,hk⟩)
 ·exact .inr (.inr ⟨by simp[lD,h,h6,hk],by simp[oL,h,h6,hk],by simp[uN,h,h6,hk],ae⟩)
theorem half {s:Int} (h:dL s):32<=s/2/\s/2<=256/\0<=s/2*(s/2)/\s/2*(s/2)<=65536/\pages s=6+s/2+s/2*(s/2):=by rcases h with rfl|rfl|rfl|rfl<;>decide
theorem DD {s n:Int} (h:nJ s n=0):0<=oL s n/\oL s n<=70000/\0<=uN s n/\uN s n<=70000:=by
 obtain⟨hs,h0,h1⟩:=O3 h;have hk:=half hs;rcases qc h with c|c|c
 ·omega
 ·omega
 ·obtain⟨_,b,e,_⟩:=c;have e1:=Int.ediv_nonneg (a:=n-6-s/2) (b:=s/2) ae ae;have e2:(n-6-s/2)/(s/2)<=(n-6-s/2):=Int.ediv_le_self _ ae;have e3:=Int.emod_nonneg (n-6-s/2) (show s/2≠0 by omega);have e4:=Int.emod_lt_of_pos (n-6-s/2) (show 0<s/2 by omega);omega
end Ino
end
section
open Go.RowKit

theorem adN {n:Int} (h:¬Ino.dL n):(n==64)=false/\(n==128)=false/\(n==256)=false/\(n==512)=false:=by unfold Ino.dL at h;refine⟨?_,?_,?_,?_⟩<;>rw[beq_eq_false_iff_ne]<;>omega
theorem dF (n:Int) (w:World):
  Calls prog 186 #[.int .i64 n] w λe w'=>e= .returned (.bool (decide (Ino.dL n)))/\w=w':=by
 by_cases h:Ino.dL n
 ·rw[decide_eq_true h];rcases h with rfl|rfl|rfl|rfl
  all_goals
   go_in
   go_wp2;go_ret;exact⟨rfl,rfl⟩
 ·rw[decide_eq_false h];obtain⟨h1,h2,h3,h4⟩:=adN h
  go_in
  go_wp2;go_ret;exact⟨rfl,rfl⟩
theorem iW (s:Int) (h:Ino.dL s) (w:World):
  Calls prog 187 #[.int .i64 s] w λe w'=>e= .returned (.int .i64 (Ino.pages s))/\w=w':=by
 rcases h with rfl|rfl|rfl|rfl
 all_goals
  go_in
  go_wp2;go_ret;exact⟨rfl,rfl⟩
def uM (s n:Int):Value:= .tuple #[.agg #[.int .i64 (Ino.lD s n),.int .i64 (Ino.oL s n),.int .i64 (Ino.uN s n)],.int .i64 (Ino.nJ s n)]
theorem adO (s n:Int) (h:¬Ino.dL s):uM s n= .tuple #[.agg #[.int .i64 0,.int .i64 0,.int .i64 0],.int .i64 1]:=by
 have he:Ino.nJ s n=1:=by unfold Ino.nJ;rw[if_neg h]
 simp[uM,Ino.lD,Ino.oL,Ino.uN,he]
theorem SS (s n:Int) (h:Ino.dL s) (hn:n<0\/Ino.pages s<=n):uM s n= .tuple #[.agg #[.int .i64 0,.int .i64 0,.int .i64 0],.int .i64 52]:=by
 have he:Ino.nJ s n=52:=by unfold Ino.nJ;rw[if_pos h,if_pos hn]
 simp[uM,Ino.lD,Ino.oL,Ino.uN,he]
theorem als (s n:Int) (h:Ino.dL s) (h0:0<=n) (hp:n<Ino.pages s) (h6:n<6):uM s n= .tuple #[.agg #[.int .i64 0,.int .i64 n,.int .i64 0],.int .i64 0]:=by have he:=Ino.Gj h h0 hp;simp[uM,Ino.lD,Ino.oL,Ino.uN,he,h6]
theorem alu (s n:Int) (h:Ino.dL s) (h0:0<=n) (hp:n<Ino.pages s) (h6:¬n<6) (hk:n<6+s/2):uM s n= .tuple #[.agg #[.int .i64 1,.int .i64 (n-6),.int .i64 0],.int .i64 0]:=by have he:=Ino.Gj h h0 hp;simp[uM,Ino.lD,Ino.oL,Ino.uN,he,h6,hk]
theorem alv (s n:Int) (h:Ino.dL s) (h0:0<=n) (hp:n<Ino.pages s) (h6:¬n<6) (hk:¬n<6+s/2):uM s n= .tuple #[.agg #[.int .i64 2,.int .i64 ((n-6-s/2)/(s/2)),.int .i64 ((n-6-s/2)%(s/2))],.int .i64 0]:=by have he:=Ino.Gj h h0 hp;simp[uM,Ino.lD,Ino.oL,Ino.uN,he,h6,hk]

theorem Ij (s n:Int) (w:World) (h1: -9223372036854775808<=n) (h2:n<=9223372036854775807):
  Calls prog 192 #[.int .i64 s,.int .i64 n] w λe w'=>e= .returned (uM s n)/\Below w.heap.size w w':=by
 by_cases h:Ino.dL s
 case neg=>
  have hd:decide (Ino.dL s)=false:=decide_eq_false h;rw[adO s n h];clear h
  go_in
  go_wp2_with fail;refine(dF s _).mono ?_;rintro e w_ ⟨rfl,rfl⟩;rw[hd];go_wp2;refine bodyPost_ret (v:= .tuple #[.agg #[.int .i64 0,.int .i64 0,.int .i64 0],.int .i64 1]) (by simp[results,Tryz.results192,go_sem]) rfl ⟨rfl,?_⟩;exact(Below.refl _ _).alloc (Nat.le_refl _) _
 have hd:decide (Ino.dL s)=true:=decide_eq_true h;by_cases hn:n<0
 ·rw[SS s n h (.inl hn)];clear h
  go_in
  go_wp2_with fail;refine(dF s _).mono ?_;rintro e w_ ⟨rfl,rfl⟩;rw[hd];go_wp2;refine bodyPost_ret (v:= .tuple #[.agg #[.int .i64 0,.int .i64 0,.int .i64 0],.int .i64 52]) (by simp[results,Tryz.results192,go_sem]) rfl ⟨rfl,?_⟩;exact(Below.refl _ _).alloc (Nat.le_refl _) _
 have iO:64<=s/\s<=512:=by unfold Ino.dL at h;omega
 obtain⟨iO,mr⟩:=iO;have hP:Ino.pages s<=65798:=by rcases h with rfl|rfl|rfl|rfl<;>decide
 have H:=ag h;by_cases hp:Ino.pages s<=n
 ·rw[SS s n h (.inr hp)];clear h
  go_in
  go_wp2_with fail;refine(dF s _).mono ?_;rintro e w_ ⟨rfl,rfl⟩;rw[hd];go_wp2_with fail;refine(iW s H.o _).mono ?_;rintro e w_ ⟨rfl,rfl⟩;go_wp2;refine bodyPost_ret (v:= .tuple #[.agg #[.int .i64 0,.int .i64 0,.int .i64 0],.int .i64 52]) (by simp[results,Tryz.results192,go_sem]) rfl ⟨rfl,?_⟩;exact(Below.refl _ _).alloc (Nat.le_refl _) _
 have hp0:n<Ino.pages s:=ae;by_cases h6:n<6
 ·rw[als s n h ae hp0 h6];clear h
  go_in
  go_wp2_with fail;refine(dF s _).mono ?_;rintro e w_ ⟨rfl,rfl⟩;rw[hd];go_wp2_with fail;refine(iW s H.o _).mono ?_;rintro e w_ ⟨rfl,rfl⟩;go_wp2;refine bodyPost_ret (v:= .tuple #[.agg #[.int .i64 0,.int .i64 n,.int .i64 0],.int .i64 0]) (by simp[results,Tryz.results192,go_sem]) rfl ⟨rfl,?_⟩;exact(Below.refl _ _).alloc (Nat.le_refl _) _
 have h60:6<=n:=ae;by_cases hk:n<6+s/2
 ·rw[alu s n h ae hp0 h6 hk];clear h;have fA:n-6<s/2:=ae
  go_in
  go_wp2_with fail;refine(dF s _).mono ?_;rintro e w_ ⟨rfl,rfl⟩;rw[hd];go_wp2_with fail;refine(iW s H.o _).mono ?_;rintro e w_ ⟨rfl,rfl⟩;go_wp2;refine bodyPost_ret (v:= .tuple #[.agg #[.int .i64 1,.int .i64 (n-6),.int .i64 0],.int .i64 0]) (by simp[results,Tryz.results192,go_sem]) rfl ⟨rfl,?_⟩;exact(Below.refl _ _).alloc (Nat.le_refl _) _
 ·rw[alv s n h ae hp0 h6 hk];clear h;have hk0:6+s/2<=n:=ae;have fA:s/2<=n-6:=ae;have jY:1<=s/2:=ae;have oU:0<=n-6-s/2:=ae
  go_in
  go_wp2_with fail;refine(dF s _).mono ?_;rintro e w_ ⟨rfl,rfl⟩;rw[hd];go_wp2_with fail;refine(iW s H.o _).mono ?_;rintro e w_ ⟨rfl,rfl⟩;go_wp2;obtain⟨m,hm⟩:=bu (n-6-s/2);obtain⟨k,hkk⟩:=bu (s/2);have d1:=Int.ediv_nonneg (a:=m) (b:=k) ae ae;have d2:m/k<=m:=Int.ediv_le_self _ ae;have d3:=Int.emod_nonneg m (show k≠0 by omega);have d4:=Int.emod_lt_of_pos m (show 0<k by omega);have d5:k*(m/k)+m%k=m:=Int.mul_ediv_add_emod m k;have q2:m.tdiv k=m/k:=Int.tdiv_eq_ediv_of_nonneg ae;have q3:=IntWalk.i64_in (m/k) ⟨ae,ae⟩;have q0:(k==0)=false:=by rw[beq_eq_false_iff_ne];omega
  have q6:k≠0:=ae;have q1:=IntWalk.i64_in (n-6-k) ⟨ae,ae⟩;have q4:m.tmod k=m%k:=Int.tmod_eq_emod_of_nonneg ae;have q7:n-6-k=m:=ae;rw[q7] at q1;rw[<-hkk];have HM:=ag hm;have HKK:=ag hkk;clear hm hkk d5
  go_still_tail 11,az
  clear q2 q3 q4 q7 q0 q6 q1;change wpList _ _ _ _ _ ((w.alloc (.cells #[.int .i64 0,.int .i64 0,.int .i64 0] 267)).drew);go_wp2;refine bodyPost_ret (v:= .tuple #[.agg #[.int .i64 2,.int .i64 (m/k),.int .i64 (m%k)],.int .i64 0]) (by simp[results,Tryz.results192,go_sem]) rfl ⟨by rw[HM.o,HKK.o],?_⟩;exact((Below.refl _ _).alloc (Nat.le_refl _) _).drew
end
section

structure aN where
 k:Int
 l:Int
 s:Int
 d0:Int
 d1:Int
 d2:Int
 d3:Int
 d4:Int
 d5:Int
 a:Int
 b:Int
namespace aN
def Pg (p:Int):Prop:=0<=p/\p<8192
instance (p:Int):Decidable (Pg p):=by unfold Pg;exact inferInstance
def zero:aN:=⟨0,0,0,0,0,0,0,0,0,0,0⟩
def Free (i:aN):Prop:=i.k=0/\i.l=0/\i.s=0/\i.d0=0/\i.d1=0/\i.d2=0/\i.d3=0/\i.d4=0/\i.d5=0/\i.a=0/\i.b=0
instance (i:aN):Decidable (Free i):=by unfold Free;exact inferInstance
def OL (i:aN):Prop:=Pg i.d0/\Pg i.d1/\Pg i.d2/\Pg i.d3/\Pg i.d4/\Pg i.d5
instance (i:aN):Decidable (OL i):=by unfold OL;exact inferInstance
def Used (i:aN):Prop:=(i.k=1\/i.k=2)/\0<=i.l/\i.l<=1000/\0<=i.s/\i.s<=2147483647/\OL i/\Pg i.a/\Pg i.b
instance (i:aN):Decidable (Used i):=by unfold Used;exact inferInstance
def Right (i:aN):Prop:=if i.k=0 then Free i else Used i
instance (i:aN):Decidable (Right i):=by unfold Right;exact inferInstance
def uO (i:aN):Bool:=decide (Right i)
theorem kM {i:aN} (h:Right i):uO i=true:=decide_eq_true h
theorem dJ {i:aN} (h:¬Right i):uO i=false:=decide_eq_false h
theorem Ir {i:aN} (h:i.k=0):Right i↔Free i:=by unfold Right;rw[if_pos h]
theorem uJ {i:aN} (h:i.k≠0):Right i↔Used i:=by unfold Right;rw[if_neg h]
def bytes (i:aN):List UInt8:=
 [UInt8.ofNat i.k.toNat,0]++aK i.l.toNat 2++aK i.s.toNat 4++aK i.d0.toNat 2++aK i.d1.toNat 2++aK i.d2.toNat 2++aK i.d3.toNat 2++aK i.d4.toNat 2++aK i.d5.toNat 2++aK i.a.toNat 2++aK i.b.toNat 2
def raw (xs:List UInt8):aN:=
 ⟨dY (xs.take 1),dY ((xs.drop 2).take 2),dY ((xs.drop 4).take 4),dY ((xs.drop 8).take 2),dY ((xs.drop 10).take 2),dY ((xs.drop 12).take 2),dY ((xs.drop 14).take 2),dY ((xs.drop 16).take 2),dY ((xs.drop 18).take 2),dY ((xs.drop 20).take 2),dY ((xs.drop 22).take 2)⟩
theorem Bg {i:aN} (h:Right i):(0<=i.k/\i.k<=2)/\(0<=i.l/\i.l<=1000)/\(0<=i.s/\i.s<=2147483647)/\OL i/\Pg i.a/\Pg i.b:=by
 by_cases hk:i.k=0
 ·obtain⟨e0,e1,e2,e3,e4,e5,e6,e7,e8,e9,e10⟩:=(Ir hk).1 h;simp only[OL,Pg,e0,e1,e2,e3,e4,e5,e6,e7,e8,e9,e10];decide
 ·obtain⟨e0,e1,e2,e3,e4,e5,e6,e7⟩:=(uJ hk).1 h;exact⟨ae,⟨e1,e2⟩,⟨e3,e4⟩,e5,e6,e7⟩
theorem lg (i:aN):(bytes i).length=24:=by simp[bytes,bI]
def vG (xs:List UInt8):aN:=if xs.length=24/\dY ((xs.drop 1).take 1)=0/\Right (raw xs) then raw xs else zero
def fK (xs:List UInt8):Int:=if xs.length=24 then(if dY ((xs.drop 1).take 1)=0/\Right (raw xs) then 0 else 51) else 1
theorem read_short {xs:List UInt8} (h:xs.length≠24):vG xs=zero/\fK xs=1:=by
 constructor
 ·unfold vG;rw[if_neg (λk=>h k.1)]
 ·unfold fK;rw[if_neg h]
theorem nN {xs:List UInt8} (h:xs.length=24) (h2:¬(dY ((xs.drop 1).take 1)=0/\Right (raw xs))):vG xs=zero/\fK xs=51:=by
 constructor
 ·unfold vG;rw[if_neg (λk=>h2 k.2)]
 ·unfold fK;rw[if_pos h,if_neg h2]
theorem MQ {xs:List UInt8} (h:xs.length=24) (h1:dY ((xs.drop 1).take 1)=0) (h2:Right (raw xs)):vG xs=raw xs/\fK xs=0:=by
 constructor
 ·unfold vG;rw[if_pos ⟨h,h1,h2⟩]
 ·unfold fK;rw[if_pos h,if_pos ⟨h1,h2⟩]
end aN
end
section
namespace aN
theorem fP (X n:Nat) (R:List UInt8):(aK X n++R).drop n=R:=by rw[List.drop_append_of_le_length (by rw[bI];omega),List.drop_of_length_le (by rw[bI];omega),List.nil_append]
theorem takeB (X n:Nat) (R:List UInt8) (h:X<256^n):dY ((aK X n++R).take n)=X:=by rw[List.take_append_of_le_length (by rw[bI];omega),List.take_of_length_le (by rw[bI];omega),Ep h]
theorem Z9 (K Z:UInt8) (l s d0 d1 d2 d3 d4 d5 a b:Nat) (hl:l<256^2) (hs:s<256^4) (hd0:d0<256^2) (hd1:d1<256^2) (hd2:d2<256^2) (XQ:d3<256^2) (hd4:d4<256^2) (hd5:d5<256^2) (ha:a<256^2) (hb:b<256^2):
  raw (K::Z::(aK l 2++(aK s 4++(aK d0 2++(aK d1 2++(aK d2 2++(aK d3 2++(aK d4 2++(aK d5 2++(aK a 2++(aK b 2++[])))))))))))=⟨(K.toNat:Nat),l,s,d0,d1,d2,d3,d4,d5,a,b⟩/\dY (((K::Z::(aK l 2++(aK s 4++(aK d0 2++(aK d1 2++(aK d2 2++(aK d3 2++(aK d4 2++(aK d5 2++(aK a 2++(aK b 2++[]))))))))))).drop 1).take 1)=Z.toNat:=by
 have z0:dY ((K::Z::(aK l 2++(aK s 4++(aK d0 2++(aK d1 2++(aK d2 2++(aK d3 2++(aK d4 2++(aK d5 2++(aK a 2++(aK b 2++[]))))))))))).take 1)=K.toNat:=by rw[List.take_succ_cons,List.take_zero];simp only[dY];omega
 have z1:dY (((K::Z::(aK l 2++(aK s 4++(aK d0 2++(aK d1 2++(aK d2 2++(aK d3 2++(aK d4 2++(aK d5 2++(aK a 2++(aK b 2++[]))))))))))).drop 1).take 1)=Z.toNat:=by rw[List.drop_succ_cons,List.drop_zero,List.take_succ_cons,List.take_zero];simp only[dY];omega
 have e2:(K::Z::(aK l 2++(aK s 4++(aK d0 2++(aK d1 2++(aK d2 2++(aK d3 2++(aK d4 2++(aK d5 2++(aK a 2++(aK b 2++[]))))))))))).drop 2=(aK l 2++(aK s 4++(aK d0 2++(aK d1 2++(aK d2 2++(aK d3 2++(aK d4 2++(aK d5 2++(aK a 2++(aK b 2++[])))))))))):=rfl;refine⟨?_,z1⟩;generalize hx:K::Z::(aK l 2++(aK s 4++(aK d0 2++(aK d1 2++(aK d2 2++(aK d3 2++(aK d4 2++(aK d5 2++(aK a 2++(aK b 2++[]))))))))))=xs at*;clear hx z1;have e4:xs.drop 4=(aK s 4++(aK d0 2++(aK d1 2++(aK d2 2++(aK d3 2++(aK d4 2++(aK d5 2++(aK a 2++(aK b 2++[]))))))))):=by rw[show 4=2+2 from rfl,<-List.drop_drop,e2];exact fP _ _ _
 have e8:xs.drop 8=(aK d0 2++(aK d1 2++(aK d2 2++(aK d3 2++(aK d4 2++(aK d5 2++(aK a 2++(aK b 2++[])))))))):=by rw[show 8=4+4 from rfl,<-List.drop_drop,e4];exact fP _ _ _
 have e10:xs.drop 10=(aK d1 2++(aK d2 2++(aK d3 2++(aK d4 2++(aK d5 2++(aK a 2++(aK b 2++[]))))))):=by rw[show 10=8+2 from rfl,<-List.drop_drop,e8];exact fP _ _ _
 have e12:xs.drop 12=(aK d2 2++(aK d3 2++(aK d4 2++(aK d5 2++(aK a 2++(aK b 2++[])))))):=by rw[show 12=10+2 from rfl,<-List.drop_drop,e10];exact fP _ _ _
 have e14:xs.drop 14=(aK d3 2++(aK d4 2++(aK d5 2++(aK a 2++(aK b 2++[]))))):=by rw[show 14=12+2 from rfl,<-List.drop_drop,e12];exact fP _ _ _
 have e16:xs.drop 16=(aK d4 2++(aK d5 2++(aK a 2++(aK b 2++[])))):=by rw[show 16=14+2 from rfl,<-List.drop_drop,e14];exact fP _ _ _
 have e18:xs.drop 18=(aK d5 2++(aK a 2++(aK b 2++[]))):=by rw[show 18=16+2 from rfl,<-List.drop_drop,e16];exact fP _ _ _
 have e20:xs.drop 20=(aK a 2++(aK b 2++[])):=by rw[show 20=18+2 from rfl,<-List.drop_drop,e18];exact fP _ _ _
 have e22:xs.drop 22=(aK b 2++[]):=by rw[show 22=20+2 from rfl,<-List.drop_drop,e20];exact fP _ _ _
 unfold raw;rw[z0,e2,e4,e8,e10,e12,e14,e16,e18,e20,e22];rw[takeB l 2 _ hl,takeB s 4 _ hs,takeB d0 2 _ hd0,takeB d1 2 _ hd1,takeB d2 2 _ hd2,takeB d3 2 _ XQ,takeB d4 2 _ hd4,takeB d5 2 _ hd5,takeB a 2 _ ha,takeB b 2 _ hb]
theorem aab {i:aN} (h:Right i):raw (bytes i)=i/\dY (((bytes i).drop 1).take 1)=0:=by
 obtain⟨⟨k1,k2⟩,⟨l1,l2⟩,⟨s1,s2⟩,hd,ha,hb⟩:=Bg h;obtain⟨k,l,s,d0,d1,d2,d3,d4,d5,a,b⟩:=i;simp only[OL,Pg] at hd ha hb;simp only at k1 k2 l1 l2 s1 s2;obtain⟨⟨x0,y0⟩,⟨x1,y1⟩,⟨x2,y2⟩,⟨x3,y3⟩,⟨x4,y4⟩,⟨x5,y5⟩⟩:=hd;have e2:(256:Nat)^2=65536:=aB;have e4:(256:Nat)^4=4294967296:=aB;have hc:=Z9 (UInt8.ofNat k.toNat) 0 l.toNat s.toNat d0.toNat d1.toNat d2.toNat d3.toNat d4.toNat d5.toNat a.toNat b.toNat (by rw[e2];omega) (by rw[e4];omega) (by rw[e2];omega) (by rw[e2];omega) (by rw[e2];omega) (by rw[e2];omega) (by rw[e2];omega) (by rw[e2];omega) (by rw[e2];omega) (by rw[e2];omega)
 have eb:bytes ⟨k,l,s,d0,d1,d2,d3,d4,d5,a,b⟩=UInt8.ofNat k.toNat::0::(aK l.toNat 2++(aK s.toNat 4++(aK d0.toNat 2++(aK d1.toNat 2++(aK d2.toNat 2++(aK d3.toNat 2++(aK d4.toNat 2++(aK d5.toNat 2++(aK a.toNat 2++(aK b.toNat 2++[])))))))))):=by simp only[bytes,List.append_assoc,List.cons_append,List.nil_append,List.append_nil]
 rw[eb];refine⟨hc.1.trans ?_,hc.2⟩;have hk:(UInt8.ofNat k.toNat).toNat=k.toNat:=by rw[UInt8.toNat_ofNat'];omega
 rw[hk];simp only[aN.mk.injEq];omega
theorem WC {i:aN} (h:Right i):vG (bytes i)=i/\fK (bytes i)=0:=by obtain⟨r1,r2⟩:=aab h;obtain⟨g1,g2⟩:=MQ (lg i) r2 (by rw[r1];exact h);exact⟨g1.trans r1,g2⟩
def In (n:Nat) (k:Int):Prop:=0<=k/\k<Ino.dV n
instance (n:Nat) (k:Int):Decidable (In n k):=by unfold In;exact inferInstance
def cut (xs:List UInt8) (j:Nat):List UInt8:=(xs.drop (j*24)).take 24
def qE (xs:List UInt8) (k:Int):aN:=if In xs.length k then vG (cut xs k.toNat) else zero
def aG (xs:List UInt8) (k:Int):Int:=if In xs.length k then fK (cut xs k.toNat) else 1
def putAt (xs:List UInt8) (j:Nat) (i:aN):List UInt8:=xs.take (j*24)++bytes i++xs.drop (j*24+24)
def ZX (xs:List UInt8) (k:Int) (i:aN):List UInt8:=if In xs.length k/\Right i then putAt xs k.toNat i else[]
def fO (xs:List UInt8) (k:Int) (i:aN):Int:=if In xs.length k then(if Right i then 0 else 51) else 1
theorem uh {n:Nat} {k:Int} (h:In n k):(k.toNat:Int)=k/\k.toNat*24+24<=n/\n<=512/\Ino.dL n:=by
 obtain⟨h1,h2⟩:=h;unfold Ino.dV at h2;by_cases hs:Ino.dL n
 ·rw[if_pos hs] at h2;refine⟨ae,ae,?_,hs⟩;unfold Ino.dL at hs;omega
 ·rw[if_neg hs] at h2;omega
theorem yc {xs:List UInt8} {j:Nat} {i:aN} (h:j*24+24<=xs.length):(putAt xs j i).length=xs.length:=by simp only[putAt,List.length_append,List.length_take,List.length_drop,lg];omega
theorem ahn {xs:List UInt8} {j:Nat} {i:aN} (h:j*24+24<=xs.length):cut (putAt xs j i) j=bytes i:=by
 unfold cut putAt;rw[List.append_assoc,List.drop_append,List.drop_of_length_le (by rw[List.length_take];omega),List.nil_append,List.length_take,show j*24-min (j*24) xs.length=0 by omega,List.drop_zero,
  List.take_append_of_le_length (by rw[lg];omega),List.take_of_length_le (by rw[lg];omega)]
theorem aho {xs:List UInt8} {j t:Nat} {i:aN} (h:j*24+24<=xs.length) (ht:t<j*24\/j*24+24<=t):(putAt xs j i)[t]?=xs[t]?:=by
 unfold putAt;rcases ht with ht|ht
 ·rw[List.append_assoc,List.getElem?_append_left (by rw[List.length_take];omega),List.getElem?_take,if_pos ht]
 ·rw[List.getElem?_append_right (by simp only[List.length_append,List.length_take,lg];omega),List.getElem?_drop];simp only[List.length_append,List.length_take,lg]
  congr 1;omega
theorem aac {xs:List UInt8} {j t:Nat} {i:aN} (h:j*24+24<=xs.length) (dh:t≠j):cut (putAt xs j i) t=cut xs t:=by
 apply List.ext_getElem?;intro m;unfold cut;rw[List.getElem?_take,List.getElem?_take,List.getElem?_drop,List.getElem?_drop];by_cases hm:m<24
 ·rw[if_pos hm,if_pos hm,aho h ae]
 ·rw[if_neg hm,if_neg hm]
theorem ade {xs:List UInt8} {k:Int} {i:aN} (h:In xs.length k) (hr:Right i):qE (putAt xs k.toNat i) k=i/\aG (putAt xs k.toNat i) k=0:=by obtain⟨b1,b2,_,_⟩:=uh h;unfold qE aG;rw[yc b2,if_pos h,if_pos h,ahn b2];exact WC hr
theorem ZN {xs:List UInt8} {k t:Int} {i:aN} (h:In xs.length k) (dh:t≠k):qE (putAt xs k.toNat i) t=qE xs t/\aG (putAt xs k.toNat i) t=aG xs t:=by
 obtain⟨b1,b2,_,_⟩:=uh h;unfold qE aG;rw[yc b2];by_cases ht:In xs.length t
 ·obtain⟨c1,_,_,_⟩:=uh ht;rw[aac b2 ae];exact⟨rfl,rfl⟩
 ·rw[if_neg ht,if_neg ht,if_neg ht,if_neg ht];exact⟨rfl,rfl⟩
end aN
end
section
open Go.RowKit

theorem zI (s:Int) (w:World):
  Calls prog 132 #[.int .i64 s] w λe w'=>e= .returned (.int .i64 (Ino.most s))/\w=w':=by
 by_cases h:Ino.dL s
 ·have hd:decide (Ino.dL s)=true:=decide_eq_true h;have HS:=ag h;rcases h with rfl|rfl|rfl|rfl
  ·
   go_in
   go_wp2_with fail;refine(dF _ _).mono ?_;rintro e w_ ⟨rfl,rfl⟩;rw[hd];go_wp2_with fail;refine(iW _ HS.o _).mono ?_;rintro e w_ ⟨rfl,rfl⟩;rw[show Ino.pages 64=1062 from rfl];go_wp2;go_ret;exact⟨rfl,rfl⟩
  ·
   go_in
   go_wp2_with fail;refine(dF _ _).mono ?_;rintro e w_ ⟨rfl,rfl⟩;rw[hd];go_wp2_with fail;refine(iW _ HS.o _).mono ?_;rintro e w_ ⟨rfl,rfl⟩;rw[show Ino.pages 128=4166 from rfl];go_wp2;go_ret;exact⟨rfl,rfl⟩
  ·
   go_in
   go_wp2_with fail;refine(dF _ _).mono ?_;rintro e w_ ⟨rfl,rfl⟩;rw[hd];go_wp2_with fail;refine(iW _ HS.o _).mono ?_;rintro e w_ ⟨rfl,rfl⟩;rw[show Ino.pages 256=16518 from rfl];go_wp2;go_ret;exact⟨rfl,rfl⟩
  ·
   go_in
   go_wp2_with fail;refine(dF _ _).mono ?_;rintro e w_ ⟨rfl,rfl⟩;rw[hd];go_wp2_with fail;refine(iW _ HS.o _).mono ?_;rintro e w_ ⟨rfl,rfl⟩;rw[show Ino.pages 512=65798 from rfl];go_wp2;go_ret;exact⟨rfl,rfl⟩
 ·have hd:decide (Ino.dL s)=false:=decide_eq_false h;have hv:Ino.most s=0:=by unfold Ino.most;rw[if_neg h]
  rw[hv];clear hv h
  go_in
  go_wp2_with fail;refine(dF _ _).mono ?_;rintro e w_ ⟨rfl,rfl⟩;rw[hd];go_wp2;go_ret;exact⟨rfl,rfl⟩
theorem ng (s:Int) (w:World):
  Calls prog 154 #[.int .i64 s] w λe w'=>e= .returned (.int .i64 (Ino.dV s))/\w=w':=by
 by_cases h:Ino.dL s
 ·have hd:decide (Ino.dL s)=true:=decide_eq_true h;rcases h with rfl|rfl|rfl|rfl
  all_goals
   go_in
   go_wp2_with fail;refine(dF _ _).mono ?_;rintro e w_ ⟨rfl,rfl⟩;rw[hd];go_wp2;go_ret;exact⟨rfl,rfl⟩
 ·have hd:decide (Ino.dL s)=false:=decide_eq_false h;have hv:Ino.dV s=0:=by unfold Ino.dV;rw[if_neg h]
  rw[hv];clear hv h
  go_in
  go_wp2_with fail;refine(dF _ _).mono ?_;rintro e w_ ⟨rfl,rfl⟩;rw[hd];go_wp2;go_ret;exact⟨rfl,rfl⟩
theorem Iu (p:Int) (w:World):
  Calls prog 262 #[.int .i64 p] w λe w'=>e= .returned (.bool (decide (0<=p/\p<8192)))/\w=w':=by
 by_cases h0:0<=p
 ·by_cases h1:p<8192
  ·rw[decide_eq_true ⟨h0,h1⟩]
   go_in
   go_wp2;go_ret;exact⟨rfl,rfl⟩
  ·rw[decide_eq_false (λh=>h1 h.2)]
   go_in
   go_wp2;go_ret;exact⟨rfl,rfl⟩
 ·rw[decide_eq_false (λh=>h0 h.1)]
  go_in
  go_wp2;go_ret;exact⟨rfl,rfl⟩
end
section
open Go.RowKit

theorem mf (p:Int) (h:aN.Pg p) (w:World):Calls prog 262 #[.int .i64 p] w λe w'=>e= .returned (.bool true)/\w=w':=by refine(Iu p w).mono ?_;rw[decide_eq_true (show 0<=p/\p<8192 from h)];exact λ_ _ h=>h
theorem rV (p:Int) (h:¬aN.Pg p) (w:World):Calls prog 262 #[.int .i64 p] w λe w'=>e= .returned (.bool false)/\w=w':=by refine(Iu p w).mono ?_;rw[decide_eq_false (show¬(0<=p/\p<8192) from h)];exact λ_ _ h=>h
end
section
open Go.RowKit Go

abbrev rq (i:aN):Value:= .agg #[.int .i64 i.k,.int .i64 i.l,.int .i64 i.s,.int .i64 i.d0,.int .i64 i.d1,.int .i64 i.d2,.int .i64 i.d3,.int .i64 i.d4,.int .i64 i.d5,.int .i64 i.a,.int .i64 i.b]
abbrev KN (i:aN):Obj:= .cells #[.int .i64 i.k,.int .i64 i.l,.int .i64 i.s,.int .i64 i.d0,.int .i64 i.d1,.int .i64 i.d2,.int .i64 i.d3,.int .i64 i.d4,.int .i64 i.d5,.int .i64 i.a,.int .i64 i.b] 107
def MR (i j:aN):Bool:=i.k==j.k&&(i.l==j.l&&(i.s==j.s&&((i.d0==j.d0&&(i.d1==j.d1&&(i.d2==j.d2&&(i.d3==j.d3&&(i.d4==j.d4&&i.d5==j.d5)))))&&(i.a==j.a&&i.b==j.b))))
theorem aad (i j:aN):MR i j=true↔i=j:=by obtain⟨k,l,s,d0,d1,d2,d3,d4,d5,a,b⟩:=i;obtain⟨k',l',s',d0',d1',d2',d3',d4',d5',a',b'⟩:=j;simp[MR];intro _ _ _;constructor<;>(intro h;simp[h])
theorem lh (d i:Nat) (is:List Nat) (xs ys:Array Value) (a b:Int) (w:World) (hx:xs[i]?=some (.int .i64 a)) (hy:ys[i]?=some (.int .i64 b)):
  (Op.eqItems (d+1) 3 1 xs ys (i::is)).run prog w=if (a==b)=true then(Op.eqItems (d+1) 3 1 xs ys is).run prog w else .ok false w:=by
 have hp:prog.plainKey 3=true:=az;have p1:=run_part_plain (P:=prog) w hp (xs:=xs) (off:=i*1) (by rw[Nat.mul_one];exact hx);have p2:=run_part_plain (P:=prog) w hp (xs:=ys) (off:=i*1) (by rw[Nat.mul_one];exact hy);have p3:=run_equalIn_int (P:=prog) w d 3 .i64 .i64 a b Tryz.underlying3;simp only[Op.eqItems,Sem.run_bind,p1,p2,p3,Result.andThen_ok]
 cases hab:(a==b)<;>simp
theorem aqb (d:Nat) (a0 a1 a2 a3 a4 a5 b0 b1 b2 b3 b4 b5:Int) (w:World):
  (Op.equalIn (d+2) 105 (.agg #[.int .i64 a0,.int .i64 a1,.int .i64 a2,.int .i64 a3,.int .i64 a4,.int .i64 a5]) (.agg #[.int .i64 b0,.int .i64 b1,.int .i64 b2,.int .i64 b3,.int .i64 b4,.int .i64 b5])).run prog w
   = .ok (a0==b0&&(a1==b1&&(a2==b2&&(a3==b3&&(a4==b4&&a5==b5))))) w:=by
 have u3:=Tryz.underlying3;obtain⟨i,hi⟩:=info_of_underlying u3;have hc:prog.cellsOf 3=1:=az;rw[run_equalIn_array w (d+1) _ _ Tryz.underlying105 hi,hc];rw[show List.range 6=[0,1,2,3,4,5] from rfl];rw[lh _ _ _ _ _ a0 b0 w rfl rfl,lh _ _ _ _ _ a1 b1 w rfl rfl,lh _ _ _ _ _ a2 b2 w rfl rfl,lh _ _ _ _ _ a3 b3 w rfl rfl,lh _ _ _ _ _ a4 b4 w rfl rfl,lh _ _ _ _ _ a5 b5 w rfl rfl];rw[show(Op.eqItems (d+1) 3 1 _ _ []).run prog w= .ok true w from rfl]
 cases(a0==b0)<;>cases(a1==b1)<;>cases(a2==b2)<;>cases(a3==b3)<;>cases(a4==b4)<;>cases(a5==b5)<;>rfl
theorem aqc (i j:aN) (w:World):(Op.equalIn 10000 107 (rq i) (rq j)).run prog w= .ok (MR i j) w:=by
 have u3:=Tryz.underlying3;have a3:=Tryz.isAgg3;have z3:=Tryz.sizeOf3;have hS:prog.underlying 107=some (.struct (prog.fieldsOf 107)):=az;have hp:prog.stoodInHeld 107=false:=az;have h6:=λa0 a1 a2 a3 a4 a5 b0 b1 b2 b3 b4 b5=>aqb 9997 a0 a1 a2 a3 a4 a5 b0 b1 b2 b3 b4 b5;rw[show(10000:Nat)=9999+1 from rfl,run_equalIn_agg w 9999 107 _ _ hS hp];simp only[Program.fieldsOf,Tryz.underlying107];go_simp;have hd:(i.d0=j.d0->i.d1=j.d1->i.d2=j.d2->i.d3=j.d3->i.d4=j.d4->¬i.d5=j.d5)↔¬((i.d0==j.d0&&(i.d1==j.d1&&(i.d2==j.d2&&(i.d3==j.d3&&(i.d4==j.d4&&i.d5==j.d5)))))=true):=by simp
 simp only[hd,MR];by_cases h1:i.k=j.k
 ·by_cases h2:i.l=j.l
  ·by_cases h3:i.s=j.s
   ·by_cases h4:(i.d0==j.d0&&(i.d1==j.d1&&(i.d2==j.d2&&(i.d3==j.d3&&(i.d4==j.d4&&i.d5==j.d5)))))=true
    ·by_cases h5:i.a=j.a
     ·by_cases h6:i.b=j.b
      ·simp only[h1,h2,h3,h4,h5,h6];simp
      ·simp only[h1,h2,h3,h4,h5];simp[h6]
     ·simp only[h1,h2,h3,h4];simp[h5]
    ·rw[Bool.not_eq_true] at h4;simp only[h1,h2,h3,h4];simp
   ·simp only[h1,h2];simp[h3]
  ·simp only[h1];simp[h2]
 ·simp[h1]
@[go_sem high] theorem avX (k l s d0 d1 d2 d3 d4 d5 a b k' l' s' d0' d1' d2' d3' d4' d5' a' b' : Int) (w : World) : (Op.equalIn 10000 107 (.agg #[.int .i64 k, .int .i64 l, .int .i64 s, .int .i64 d0, .int .i64 d1, .int .i64 d2, .int .i64 d3, .int .i64 d4, .int .i64 d5, .int .i64 a, .int .i64 b]) (.agg #[.int .i64 k', .int .i64 l', .int .i64 s', .int .i64 d0', .int .i64 d1', .int .i64 d2', .int .i64 d3', .int .i64 d4', .int .i64 d5', .int .i64 a', .int .i64 b'])).run prog w = .ok (MR ⟨k, l, s, d0, d1, d2, d3, d4, d5, a, b⟩ ⟨k', l', s', d0', d1', d2', d3', d4', d5', a', b'⟩) w := aqc ⟨k, l, s, d0, d1, d2, d3, d4, d5, a, b⟩ ⟨k', l', s', d0', d1', d2', d3', d4', d5', a', b'⟩ w
@[go_sem] theorem ahp (a0 a1 a2 a3 a4 a5 : Int) (w : World) : (Instr.index 105 (.agg #[.int .i64 a0, .int .i64 a1, .int .i64 a2, .int .i64 a3, .int .i64 a4, .int .i64 a5]) (.int .i64 0)).run prog w = .ok (.int .i64 a0) w := az
@[go_sem] theorem ahq (a0 a1 a2 a3 a4 a5 : Int) (w : World) : (Instr.index 105 (.agg #[.int .i64 a0, .int .i64 a1, .int .i64 a2, .int .i64 a3, .int .i64 a4, .int .i64 a5]) (.int .i64 1)).run prog w = .ok (.int .i64 a1) w := az
@[go_sem] theorem ahr (a0 a1 a2 a3 a4 a5 : Int) (w : World) : (Instr.index 105 (.agg #[.int .i64 a0, .int .i64 a1, .int .i64 a2, .int .i64 a3, .int .i64 a4, .int .i64 a5]) (.int .i64 2)).run prog w = .ok (.int .i64 a2) w := az
@[go_sem] theorem ahs (a0 a1 a2 a3 a4 a5 : Int) (w : World) : (Instr.index 105 (.agg #[.int .i64 a0, .int .i64 a1, .int .i64 a2, .int .i64 a3, .int .i64 a4, .int .i64 a5]) (.int .i64 3)).run prog w = .ok (.int .i64 a3) w := az
@[go_sem] theorem aht (a0 a1 a2 a3 a4 a5 : Int) (w : World) : (Instr.index 105 (.agg #[.int .i64 a0, .int .i64 a1, .int .i64 a2, .int .i64 a3, .int .i64 a4, .int .i64 a5]) (.int .i64 4)).run prog w = .ok (.int .i64 a4) w := az
@[go_sem] theorem ahu (a0 a1 a2 a3 a4 a5 : Int) (w : World) : (Instr.index 105 (.agg #[.int .i64 a0, .int .i64 a1, .int .i64 a2, .int .i64 a3, .int .i64 a4, .int .i64 a5]) (.int .i64 5)).run prog w = .ok (.int .i64 a5) w := az
end
section
open Go.RowKit

theorem pJ (i:aN) (w:World):
  Calls prog 233 #[rq i] w λe w'=>e= .returned (.bool (aN.uO i))/\Below w.heap.size w w':=by
 have kF:=ag ((Below.refl w.heap.size w).alloc (Nat.le_refl _) (KN i));obtain⟨k,l,s,d0,d1,d2,d3,d4,d5,a,b⟩:=i;by_cases hk:k=0
 ·subst hk;have hv:aN.uO ⟨0,l,s,d0,d1,d2,d3,d4,d5,a,b⟩=MR ⟨0,l,s,d0,d1,d2,d3,d4,d5,a,b⟩ ⟨0,0,0,0,0,0,0,0,0,0,0⟩:=by rw[Bool.eq_iff_iff,aad,aN.uO,decide_eq_true_iff,aN.Ir rfl];simp[aN.Free]
  rw[hv];clear hv
  go_in
  go_wp2;go_ret;exact⟨rfl,kF.o⟩
 ·have hu:=aN.uJ (i:=⟨k,l,s,d0,d1,d2,d3,d4,d5,a,b⟩) hk;have HU:=ag hu;clear hu;have hkb:(k==0)=false:=by rw[beq_eq_false_iff_ne];exact hk
  have HK:=ag hk;clear hk
  go_in
  go_wp2;have BK:=ag (aF.new w 107 #[.int .i64 k,.int .i64 l,.int .i64 s,.int .i64 d0,.int .i64 d1,.int .i64 d2,.int .i64 d3,.int .i64 d4,.int .i64 d5,.int .i64 a,.int .i64 b]);generalize w.alloc (KN ⟨k,l,s,d0,d1,d2,d3,d4,d5,a,b⟩)=w1 at*
  go_loop [2,4,13] (λr _x i=>∃m:Nat,m<=6/\r= .bool false/\i= .int .i64 m/\(0<m->aN.Pg d0)/\(1<m->aN.Pg d1)/\(2<m->aN.Pg d2)/\(3<m->aN.Pg d3)/\(4<m->aN.Pg d4)/\(5<m->aN.Pg d5)) (λ_ _ i=>6-(intOf i).toNat)
  case atStart=>exact⟨0,ae,rfl,rfl,ae,ae,ae,ae,ae,ae⟩
  case round=>
   obtain⟨m,hm,rfl,rfl,g0,g1,g2,g3,g4,g5⟩:=hrel;have hc:m=0\/m=1\/m=2\/m=3\/m=4\/m=5\/m=6:=ae;rcases hc with rfl|rfl|rfl|rfl|rfl|rfl|rfl
   ·by_cases hp:aN.Pg d0
    ·go_wp2_with (go_at_call 262;refine(mf d0 hp _).mono ?_;rintro e w' ⟨rfl,rfl⟩)
     go_round
     case rel=>exact⟨1,ae,rfl,rfl,λ_=>hp,ae,ae,ae,ae,ae⟩
     case measure=>simp[intOf]
    ·go_wp2_with (go_at_call 262;refine(rV d0 hp _).mono ?_;rintro e w' ⟨rfl,rfl⟩)
     go_ret;exact⟨by rw[aN.dJ (λh=>hp (by have:=HU.o.1 h;exact this.2.2.2.2.2.1.1))];rfl,kF.o⟩
   ·by_cases hp:aN.Pg d1
    ·go_wp2_with (go_at_call 262;refine(mf d1 hp _).mono ?_;rintro e w' ⟨rfl,rfl⟩)
     go_round
     case rel=>exact⟨2,ae,rfl,rfl,λ_=>g0 ae,λ_=>hp,ae,ae,ae,ae⟩
     case measure=>simp[intOf]
    ·go_wp2_with (go_at_call 262;refine(rV d1 hp _).mono ?_;rintro e w' ⟨rfl,rfl⟩)
     go_ret;exact⟨by rw[aN.dJ (λh=>hp (by have:=HU.o.1 h;exact this.2.2.2.2.2.1.2.1))];rfl,kF.o⟩
   ·by_cases hp:aN.Pg d2
    ·go_wp2_with (go_at_call 262;refine(mf d2 hp _).mono ?_;rintro e w' ⟨rfl,rfl⟩)
     go_round
     case rel=>exact⟨3,ae,rfl,rfl,λ_=>g0 ae,λ_=>g1 ae,λ_=>hp,ae,ae,ae⟩
     case measure=>simp[intOf]
    ·go_wp2_with (go_at_call 262;refine(rV d2 hp _).mono ?_;rintro e w' ⟨rfl,rfl⟩)
     go_ret;exact⟨by rw[aN.dJ (λh=>hp (by have:=HU.o.1 h;exact this.2.2.2.2.2.1.2.2.1))];rfl,kF.o⟩
   ·by_cases hp:aN.Pg d3
    ·go_wp2_with (go_at_call 262;refine(mf d3 hp _).mono ?_;rintro e w' ⟨rfl,rfl⟩)
     go_round
     case rel=>exact⟨4,ae,rfl,rfl,λ_=>g0 ae,λ_=>g1 ae,λ_=>g2 ae,λ_=>hp,ae,ae⟩
     case measure=>simp[intOf]
    ·go_wp2_with (go_at_call 262;refine(rV d3 hp _).mono ?_;rintro e w' ⟨rfl,rfl⟩)
     go_ret;exact⟨by rw[aN.dJ (λh=>hp (by have:=HU.o.1 h;exact this.2.2.2.2.2.1.2.2.2.1))];rfl,kF.o⟩
   ·by_cases hp:aN.Pg d4
    ·go_wp2_with (go_at_call 262;refine(mf d4 hp _).mono ?_;rintro e w' ⟨rfl,rfl⟩)
     go_round
     case rel=>exact⟨5,ae,rfl,rfl,λ_=>g0 ae,λ_=>g1 ae,λ_=>g2 ae,λ_=>g3 ae,λ_=>hp,ae⟩
     case measure=>simp[intOf]
    ·go_wp2_with (go_at_call 262;refine(rV d4 hp _).mono ?_;rintro e w' ⟨rfl,rfl⟩)
     go_ret;exact⟨by rw[aN.dJ (λh=>hp (by have:=HU.o.1 h;exact this.2.2.2.2.2.1.2.2.2.2.1))];rfl,kF.o⟩
   ·by_cases hp:aN.Pg d5
    ·go_wp2_with (go_at_call 262;refine(mf d5 hp _).mono ?_;rintro e w' ⟨rfl,rfl⟩)
     go_round
     case rel=>exact⟨6,ae,rfl,rfl,λ_=>g0 ae,λ_=>g1 ae,λ_=>g2 ae,λ_=>g3 ae,λ_=>g4 ae,λ_=>hp⟩
     case measure=>simp[intOf]
    ·go_wp2_with (go_at_call 262;refine(rV d5 hp _).mono ?_;rintro e w' ⟨rfl,rfl⟩)
     go_ret;exact⟨by rw[aN.dJ (λh=>hp (by have:=HU.o.1 h;exact this.2.2.2.2.2.1.2.2.2.2.2))];rfl,kF.o⟩
   ·obtain⟨g0,g1,g2,g3,g4,g5⟩:aN.Pg d0/\aN.Pg d1/\aN.Pg d2/\aN.Pg d3/\aN.Pg d4/\aN.Pg d5:=⟨g0 ae,g1 ae,g2 ae,g3 ae,g4 ae,g5 ae⟩
    obtain⟨c0,c1,c2⟩:=BK.o.c3;have c3:=BK.o.aj (i:=9) rfl;have c4:=BK.o.aj (i:=10) rfl;by_cases fA:k=1\/k=2
    case neg=>
     have h1:(k==1)=false:=by rw[beq_eq_false_iff_ne];omega
     have h2:(k==2)=false:=by rw[beq_eq_false_iff_ne];omega
     have fA:=ag fA;go_wp2;go_ret;exact⟨by rw[aN.dJ (λh=>fA.o (HU.o.1 h).1)];rfl,kF.o⟩
    by_cases Jy:0<=l
    case neg=>
     have hn:=ag (aN.dJ (λh=>Jy (HU.o.1 h).2.1));rcases fA with rfl|rfl
     all_goals
      go_wp2;go_ret;exact⟨by rw[hn.o];rfl,kF.o⟩
    by_cases CB:l<=1000
    case neg=>
     have hn:=ag (aN.dJ (λh=>CB (HU.o.1 h).2.2.1));rcases fA with rfl|rfl
     all_goals
      go_wp2;go_ret;exact⟨by rw[hn.o];rfl,kF.o⟩
    by_cases iO:0<=s
    case neg=>
     have hn:=ag (aN.dJ (λh=>iO (HU.o.1 h).2.2.2.1));rcases fA with rfl|rfl
     all_goals
      go_wp2;go_ret;exact⟨by rw[hn.o];rfl,kF.o⟩
    by_cases mr:s<=2147483647
    case neg=>
     have hn:=ag (aN.dJ (λh=>mr (HU.o.1 h).2.2.2.2.1));rcases fA with rfl|rfl
     all_goals
      go_wp2;go_ret;exact⟨by rw[hn.o];rfl,kF.o⟩
    by_cases ha:aN.Pg a
    case neg=>
     have hn:=ag (aN.dJ (λh=>ha (HU.o.1 h).2.2.2.2.2.2.1));rcases fA with rfl|rfl
     all_goals
      go_wp2_with (go_at_call 262;refine(rV a ha _).mono ?_;rintro e w' ⟨rfl,rfl⟩)
      go_ret;exact⟨by rw[hn.o];rfl,kF.o⟩
    by_cases hb:aN.Pg b
    case neg=>
     have hn:=ag (aN.dJ (λh=>hb (HU.o.1 h).2.2.2.2.2.2.2));rcases fA with rfl|rfl
     all_goals
      go_wp2_with (go_at_call 262;first|(refine(mf a ha _).mono ?_;rintro e w' ⟨rfl,rfl⟩)|(refine(rV b hb _).mono ?_;rintro e w' ⟨rfl,rfl⟩))
      go_ret;exact⟨by rw[hn.o];rfl,kF.o⟩
    have hy:=ag (aN.kM (HU.o.2 ⟨fA,Jy,CB,iO,mr,⟨g0,g1,g2,g3,g4,g5⟩,ha,hb⟩));rcases fA with rfl|rfl
    all_goals
     go_wp2_with (go_at_call 262;first|(refine(mf a ha _).mono ?_;rintro e w' ⟨rfl,rfl⟩)|(refine(mf b hb _).mono ?_;rintro e w' ⟨rfl,rfl⟩))
     go_ret;exact⟨by rw[hy.o];rfl,kF.o⟩
end
section
namespace Pt

def Has (n:Nat) (k:Int):Prop:=Ino.dL n/\0<=k/\k<n/2
instance (n:Nat) (k:Int):Decidable (Has n k):=by unfold Has;exact inferInstance
def two (xs:List UInt8) (j:Nat):Nat:=dY ((xs.drop (2*j)).take 2)
def put (xs:List UInt8) (j tt:Nat):List UInt8:=xs.take (2*j)++aK tt 2++xs.drop (2*j+2)
end Pt
end
section
namespace Pt
def Iw (xs:List UInt8):Nat->List (Nat×Nat)
 |0=>[]
 |k+1=>if two xs k=0 then Iw xs k else Iw xs k++[(k,two xs k)]
def pts (xs:List UInt8):List (Nat×Nat):=if Ino.dL xs.length then Iw xs (xs.length/2) else[]
end Pt
end
section
open Go.RowKit

end
end Go.Proofs.YtnieckfelfoopaaGreat

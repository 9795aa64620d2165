import Derived.Test.YtnieckfelfoopaaGreatRows
import Derived.Test.YtnieckfelfoopaaGreatTagMath
open Go.Proofs.Tryz (prog)
namespace Go.Proofs.YtnieckfelfoopaaGreat
open Lib (hid)
set_option maxRecDepth 100000
set_option maxHeartbeats 16000000
section
open Go.RowKit

end
section
open Go.RowKit

theorem aay (r:BitVec 32) (b:UInt8) (w:World):
  Calls prog 182 #[.int .u32 r.toNat,.int .u8 b.toNat] w λe w'=>e= .returned (.int .u32 (CV.put r b).toNat)/\w=w':=by
 have fF:b.toNat<256:=b.toNat_lt
 go_in
 go_wp2
 go_loop [0,9] (λx i=>∃k:Nat,k<=8/\i= .int .i64 k/\x= .int .u32 (CV.aaz k (r^^^b.toBitVec.setWidth 32)).toNat) (λ_ i=>8-(intOf i).toNat)
 case atStart=>exact⟨0,ae,rfl,by rw[acR,uG];rfl⟩
 case round=>
  obtain⟨k,hk,rfl,rfl⟩:=hrel;by_cases aU:k<8
  ·generalize hx:CV.aaz k (r^^^b.toBitVec.setWidth 32)=x at*;have HX:=ag hx;clear hx;have h1:=Ov x 1#32;by_cases hb:x&&&1#32=1#32
   ·have ht:(bits BinOp.and IntKind.u32 (x.toNat:Int) 1==1)=true:=by rw[beq_iff_eq];refine h1.trans ?_;rw[hb];rfl
    clear h1;have HB:=ag hb;clear hb;go_wp2
    go_round
    case rel=>exact⟨k+1,ae,by go_num,by rw[Rk,show(3988292384:Int)=((3988292384#32).toNat:Int) from rfl,uG,CV.aaz,HX.o,CV.stp,if_pos HB.o]⟩
    case measure=>simp[intOf];omega
   ·have ht:(bits BinOp.and IntKind.u32 (x.toNat:Int) 1==1)=false:=by rw[beq_eq_false_iff_ne];intro hh;apply hb;have:=h1.symm.trans hh;exact BitVec.eq_of_toNat_eq (by have e:(1#32).toNat=1:=rfl;rw[e];omega)
    clear h1;have HB:=ag hb;clear hb;go_wp2
    go_round
    case rel=>exact⟨k+1,ae,by go_num,by rw[Rk,CV.aaz,HX.o,CV.stp,if_neg HB.o]⟩
    case measure=>simp[intOf];omega
  ·obtain rfl:k=8:=ae;go_wp2;go_ret;exact⟨rfl,rfl⟩
end
section
open Go.RowKit

theorem take_snoc {α:Type} (l:List α) (k:Nat) (h:k<l.length):l.take (k+1)=l.take k++[l[k]]:=by rw[List.take_succ_eq_append_getElem h]

theorem Xb (s:BitVec 32) (a:Option Addr) (n c:Nat) (xs:List UInt8) (w:World) (hx:Bytes w w.heap.size a n xs):
  Calls prog 127 #[.int .u32 s.toNat,.slice a n c] w λe w'=>e= .returned (.int .u32 (CV.more s xs).toNat)/\w=w':=by
 have hn:=hx.len;have yV:=hx.room;have HN:=ag hn;clear hn
 go_in
 go_wp2
 go_loop [5,7,12] (λx _c i=>∃k:Nat,k<=n/\i= .int .i64 k/\x= .int .u32 (CV.puts (~~~s) (xs.take k)).toNat) (λ_ _ i=>n-(intOf i).toNat)
 case atStart=>exact⟨0,ae,rfl,by rw[Rn];rfl⟩
 case round=>
  obtain⟨k,hk,rfl,rfl⟩:=hrel;by_cases aU:k<n
  ·obtain⟨b,o,Dq,rfl,hb,hc⟩:=hx.at_ aU
   go_wp2_with (go_at_call 182;refine(aay _ _ _).mono ?_;rintro e w' ⟨rfl,rfl⟩)
   go_round
   case rel=>exact⟨k+1,ae,by go_num,by rw[take_snoc _ _ Dq,CV.aaA]⟩
   case measure=>simp[intOf];omega
  ·obtain rfl:k=n:=ae;go_wp2;go_ret;exact⟨by rw[List.take_of_length_le (by have:=HN.o;omega)];exact congrArg (λz=>Ending.returned (Value.int .u32 z)) (Rn _),rfl⟩

theorem Nk (a:Option Addr) (n c:Nat) (xs:List UInt8) (w:World) (hx:Bytes w w.heap.size a n xs):
  Calls prog 68 #[.slice a n c] w λe w'=>e= .returned (.int .u32 (CV.sum xs).toNat)/\w=w':=by
 go_in
 go_wp2_with (go_at_call 127;refine(Xb 0#32 _ _ _ xs _ hx).mono ?_;rintro e w' ⟨rfl,rfl⟩)
 go_ret;exact⟨rfl,rfl⟩
end
section
open Go.RowKit

abbrev tagV (t:Tg):Value:= .agg #[.int .i64 t.k,.int .u32 (t.p:Int),.int .u64 (t.s:Int),.int .u64 (t.e:Int)]
abbrev aqQ (t:Tg):Obj:= .cells #[.int .i64 t.k,.int .u32 (t.p:Int),.int .u64 (t.s:Int),.int .u64 (t.e:Int)] 67

theorem IX (n:Nat) (h:Tg.Fits n) (w:World):Calls prog 66 #[.int .i64 n] w λe w'=>e= .returned (.bool true)/\w=w':=by
 rcases h with rfl|rfl|rfl|rfl
 all_goals
  go_in
  go_wp2;go_ret;exact⟨rfl,rfl⟩
theorem ah3 (n:Int) (h:¬(n=64\/n=128\/n=256\/n=512)) (w:World):Calls prog 66 #[.int .i64 n] w λe w'=>e= .returned (.bool false)/\w=w':=by
 have h1:(n==64)=false:=by rw[beq_eq_false_iff_ne];omega
 have h2:(n==128)=false:=by rw[beq_eq_false_iff_ne];omega
 have h3:(n==256)=false:=by rw[beq_eq_false_iff_ne];omega
 have h4:(n==512)=false:=by rw[beq_eq_false_iff_ne];omega
 clear h
 go_in
 go_wp2;go_ret;exact⟨rfl,rfl⟩
theorem qO (v0:Value) (xs:List UInt8) (X n base:Nat) (w:World) (hX:X<18446744073709551616) (hn:n<=1000) (hl:xs.length<=1000000) (h0:Own aH 5 w base v0 xs) (cZ:base<=w.heap.size):
  Calls prog 67 #[v0,.int .u64 X,.int .i64 n] w λe w'=>(∃v,e= .returned v/\Own aH 5 w' base v (xs++aK X n))/\Below base w w':=by
 have H0:=ag h0;clear h0
 go_in
 go_wp2
 go_loopw [0,1,8] (λv x i wr=>∃k:Nat,k<=n/\i= .int .i64 k/\x= .int .u64 (X/256^k:Nat)/\Own aH 5 wr base v (xs++aK X k)/\Below base w wr) (λ_ _ i _=>n-(intOf i).toNat)
 case atStart=>exact⟨0,ae,rfl,au,by simpa[aK] using H0.o,Below.refl _ _⟩
 case round=>
  obtain⟨k,hk,rfl,rfl,ho,hb⟩:=hrel;have HO:=ag ho;have HB:=ag hb;have ja:=hb.size;have awR:X/256^k<18446744073709551616:=Nat.lt_of_le_of_lt (Nat.div_le_self _ _) hX;have aej:=ag (show X/256^k/256=X/256^(k+1) by rw[Nat.div_div_eq_div_mul,Nat.pow_succ]);have aek:=ag (show(UInt8.ofNat (X/256^k)).toNat=X/256^k%256 by rw[UInt8.toNat_ofNat']);generalize hY:X/256^k=Y at*;have HY:=ag hY;clear ho hb hY;by_cases aU:k<n
  ·have TF:=ag (show#[Value.int .u8 ((Y:Int)%256)]=([UInt8.ofNat Y].map aH).toArray by rw[show((Y:Int)%256)=((Y%256:Nat):Int) by omega,<-aek.o];rfl)
   go_wp2_with (at_builtin;refine rJ rfl _ _ rfl base _ (xs++aK X k) rfl (HO.o.alloc _) _ _ _ _ [UInt8.ofNat Y] rfl (jg.lit wr 5 [UInt8.ofNat Y] 1 rfl ae TF.o) (by rw[List.length_append,bI];omega) (by simp;omega) ?_;intro v1 w1 ael Ae awS)
   go_roundw
   case rel=>
    refine⟨k+1,ae,by go_num,?_,?_,?_⟩
    ·rw[<-aej.o];exact congrArg (Value.int .u64) ae
    ·rw[LU,HY.o,<-List.append_assoc];exact ael
    ·exact jK (HB.o.alloc ae _) (HO.o.alloc _) Ae (by simp;omega)
   case measure=>simp[intOf];omega
  ·obtain rfl:k=n:=ae;go_wp2;go_ret;exact⟨⟨_,rfl,HO.o⟩,HB.o⟩

theorem IY (xs:List UInt8) (k:Nat) (h:k<xs.length):Tg.full (xs.take (k+1))=(Tg.full (xs.take k)&&xs[k]==255):=by unfold Tg.full;rw[List.take_succ_eq_append_getElem h,List.all_append];simp only[List.all_cons,List.all_nil,Bool.and_true]
theorem ah4 {xs:List UInt8} {k:Nat} (h:k<xs.length) (dh:xs[k]≠255):Tg.full xs=false:=by rw[<-Bool.not_eq_true];intro hf;rw[Tg.full,List.all_eq_true] at hf;have:=hf xs[k] (List.getElem_mem h);simp at this;exact dh this
theorem awT (x:UInt8):((x.toNat:Int)=255)↔x=255:=by
 constructor
 ·intro h;apply UInt8.toNat_inj.1;have:(255:UInt8).toNat=255:=rfl;omega
 ·rintro rfl;rfl
theorem BB (a:Option Addr) (n c:Nat) (xs:List UInt8) (w:World) (hx:Bytes w w.heap.size a n xs):
    Calls prog 258 #[.slice a n c] w λe w'=>e= .returned (.bool (Tg.full xs))/\w=w':=by
  have yV:=hx.room;have HL:=ag hx.len
  go_in
  go_wp2
  go_loop [4,7] (λ_x i=>∃k:Nat,k<=n/\i= .int .i64 k/\Tg.full (xs.take k)=true) (λ_ i=>n-(intOf i).toNat)
  case atStart=>exact⟨0,ae,rfl,rfl⟩
  case round=>
    obtain⟨k,hk,rfl,hf⟩:=hrel;have HF:=ag hf;clear hf;by_cases aU:k<n
    · obtain⟨b,o,Dq,rfl,hb,hc⟩:=hx.at_ aU
      by_cases h2:xs[k]=255
      · rw[h2] at hc
        have h3:=IY xs k Dq;rw[h2,HF.o] at h3;have H3:=ag h3;clear h3 h2;go_wp2
        go_round
        case rel=>exact⟨k+1,ae,by go_num,H3.o⟩
        case measure=>simp[intOf];omega
      · have h3:(((xs[k]).toNat:Int) !=255)=true:=by rw[bne_iff_ne];intro h;exact h2 ((awT _).1 h)
        have h4:=ag (ah4 Dq h2);clear h2;go_wp2;go_ret;exact⟨by rw[h4.o];rfl,rfl⟩
    · obtain rfl:k=n:=ae
      go_wp2;go_ret;rw[List.take_of_length_le (by rw[HL.o];omega)] at HF;exact⟨by rw[HF.o];rfl,rfl⟩
end
section
open Go.RowKit

theorem ofInt_u64 (a:Nat) (ha:a<18446744073709551616):(BitVec.ofInt 64 (a:Int)).toNat=a:=by rw[BitVec.ofInt_natCast,BitVec.toNat_ofNat];exact Nat.mod_eq_of_lt ae
theorem Xc (X b:Nat) (hX:X*256<=18446744073709551360) (hb:b<256):bits .or .u64 ((X:Int)*256) (b:Int)=((X*256+b:Nat):Int):=by
 have h1:X*256|||b=X*256+b:=by have:=Nat.two_pow_add_eq_or_of_lt (i:=8) (b:=b) hb X;rw[Nat.mul_comm X 256];exact this.symm
 have e:(X:Int)*256=((X*256:Nat):Int):=ae;rw[e];have a1:(BitVec.ofInt 64 ((X*256:Nat):Int)).toNat=X*256:=ofInt_u64 _ ae;have a2:(BitVec.ofInt 64 (b:Int)).toNat=b:=ofInt_u64 _ ae;show IntKind.u64.wrap ((BitVec.ofInt 64 ((X*256:Nat):Int)|||BitVec.ofInt 64 (b:Int)).toNat:Int)=_;rw[BitVec.toNat_or,a1,a2,h1];exact IntWalk.u64_in _ ⟨ae,ae⟩
theorem TG (R B:Nat) (a:Option Addr) (n c:Nat) (xs:List UInt8) (k:Nat) (w:World) (hR:aF w R 23 #[.slice a n c]) (hx:Bytes w B a n xs) (hk:k<=n) (hk8:k<=8):
  Calls prog 259 #[.int .i64 k,R] w λe w'=>e= .returned (.int .u64 (dY (xs.take k):Nat))/\w'=w.setCell ⟨R,0,none⟩ (.slice (iL a c k) (n-k:Nat) (c-k:Nat)):=by
 have hl:=hx.len;have hm:=ag (hx.take hk);have QP:(xs.take k).length=k:=by rw[List.length_take];omega
 generalize hys:xs.take k=ys at*;clear hys;have HL:=ag QP;have c0:=hR.aj (i:=0) rfl;have f0:=hR.frozen 0;clear QP hl
 go_in
 go_wp2
 go_loop [4,5] (λx i=>∃j:Nat,j<=k/\i= .int .i64 ((j:Int)-1)/\x= .int .u64 (dY (ys.drop j):Nat)) (λ_ i=>(intOf i+1).toNat)
 case atStart=>exact⟨k,ae,rfl,by rw[List.drop_of_length_le (by have:=HL.o;omega)];rfl⟩
 case round=>
  obtain⟨j,hj,rfl,rfl⟩:=hrel;by_cases aU:0<j
  ·obtain⟨b,o,Dq,rfl,hb,hc⟩:=hm.o.at_ (k:=j-1) ae;have hd:=LZ ys (j-1) Dq;rw[Nat.sub_add_cancel aU] at hd;have qw:=Ou hk8 HL.o j aU hj;have kF:=(ys[j-1]).toNat_lt;have HD:=ag hd;clear hd;have hor:=Xc (dY (ys.drop j)) (ys[j-1]).toNat qw kF;generalize hX:dY (ys.drop j)=X at*;generalize hY:ys[j-1]=y at*;clear hX hY;obtain⟨i,rfl⟩:∃i,j=i+1:=⟨j-1,ae⟩
   rw[Nat.add_sub_cancel] at hc;rw[Nat.add_sub_cancel] at HD;rw[show((i+1:Nat):Int)-1=(i:Int) by omega];go_wp2
   go_round
   case rel=>exact⟨i,ae,by go_num,by rw[HD.o];exact congrArg (Value.int .u64) ae⟩
   case measure=>simp[intOf]
  ·obtain rfl:j=0:=ae;have hcut:=kU a n c k hk;go_wp2;go_ret;exact⟨rfl,rfl⟩
structure ame (R B m:Nat) (ys:List UInt8) (w w':World):Prop where
 rest:∃a' c',aF w' R 23 #[.slice a' m c']/\Bytes w' B a' m ys/\m<=c'
 far:∀{g t cs},g≠R->aF w g t cs->aF w' g t cs
 size:w'.heap.size=w.heap.size
 below:∀{D},D<=R->Below D w w'
theorem jG (R B:Nat) (a:Option Addr) (n c:Nat) (xs:List UInt8) (k m j i:Nat) (w:World) (hR:aF w R 23 #[.slice a n c]) (hx:Bytes w B a n (xs.drop j)) (ve:n<=c) (hB:B<=R) (hn:n=m+k) (hi:i=j+k) (hk8:k<=8):
  Calls prog 259 #[.int .i64 k,R] w λe w'=>e= .returned (.int .u64 (Tg.num xs j k:Nat))/\ame R B m (xs.drop i) w w':=by
 refine(TG R B a n c (xs.drop j) k w hR hx ae hk8).mono ?_;rintro e w' ⟨rfl,rfl⟩;have h:=(hx.drop (l:=k) ae ve).below ((Below.refl B w).setCell (p:=⟨R,0,none⟩) hB (.slice (iL a c k) (n-k:Nat) (c-k:Nat)));have hr:=hR.set 0 (.slice (iL a c k) (n-k:Nat) (c-k:Nat));rw[List.drop_drop,<-hi] at h;have e:n-k=m:=ae;rw[e] at h hr⊢;exact⟨rfl,⟨_,_,hr,h,ae⟩,λdh hb=>hb.far dh _,au,λhD=>(Below.refl _ _).setCell hD _⟩
end
section
open Go.RowKit

theorem qP (t:Tg) (hp:t.p<4294967296) (hs:t.s<18446744073709551616) (he:t.e<18446744073709551616) (w:World):
  Calls prog 65 #[tagV t] w λe w'=>e= .returned (.bool (Tg.uO t))/\Below w.heap.size w w':=by
 have kF:=ag ((Below.refl w.heap.size w).alloc (Nat.le_refl _) (aqQ t));obtain⟨k,p,s,e⟩:=t;simp only at hp hs he;by_cases hk:k=1\/k=2
 case neg=>
  have h1:(k==1)=false:=by rw[beq_eq_false_iff_ne];omega
  have h2:(k==2)=false:=by rw[beq_eq_false_iff_ne];omega
  have hn:=ag (Tg.dJ (t:=⟨k,p,s,e⟩) (λh=>hk h.1));clear hk
  go_in
  go_wp2;go_ret;exact⟨by rw[hn.o];rfl,kF.o⟩
 by_cases h:p<8192/\1<=s/\s<4611686018427387904/\1<=e/\e<4611686018427387904
 case pos=>
  have hn:=ag (Tg.kM (t:=⟨k,p,s,e⟩) ⟨hk,h⟩);obtain⟨h1,h2,h3,h4,h5⟩:=h;have g1:(p:Int)<8192:=ae;have g2:(1:Int)<=s:=ae;have g3:(s:Int)<4611686018427387904:=ae;have g4:(1:Int)<=e:=ae;have g5:decide ((e:Int)<4611686018427387904)=true:=decide_eq_true ae;clear h1 h2 h3 h4 h5 hp hs he;rcases hk with rfl|rfl
  all_goals
   go_in
   go_wp2;go_ret;exact⟨by rw[hn.o];rfl,kF.o⟩
 case neg=>
  have hn:=ag (Tg.dJ (t:=⟨k,p,s,e⟩) (λhh=>h hh.2));by_cases h1:p<8192
  case neg=>
   have g1:decide ((p:Int)<8192)=false:=decide_eq_false ae;clear h h1 hp hs he;rcases hk with rfl|rfl
   all_goals
    go_in
    go_wp2;go_ret;exact⟨by rw[hn.o];rfl,kF.o⟩
  by_cases h2:1<=s
  case neg=>
   have g1:(p:Int)<8192:=ae;have g2:decide ((1:Int)<=s)=false:=decide_eq_false ae;clear h h1 h2 hp hs he;rcases hk with rfl|rfl
   all_goals
    go_in
    go_wp2;go_ret;exact⟨by rw[hn.o];rfl,kF.o⟩
  by_cases h3:s<4611686018427387904
  case neg=>
   have g1:(p:Int)<8192:=ae;have g2:(1:Int)<=s:=ae;have g3:decide ((s:Int)<4611686018427387904)=false:=decide_eq_false ae;clear h h1 h2 h3 hp hs he;rcases hk with rfl|rfl
   all_goals
    go_in
    go_wp2;go_ret;exact⟨by rw[hn.o];rfl,kF.o⟩
  by_cases h4:1<=e
  case neg=>
   have g1:(p:Int)<8192:=ae;have g2:(1:Int)<=s:=ae;have g3:(s:Int)<4611686018427387904:=ae;have g4:decide ((1:Int)<=e)=false:=decide_eq_false ae;clear h h1 h2 h3 h4 hp hs he;rcases hk with rfl|rfl
   all_goals
    go_in
    go_wp2;go_ret;exact⟨by rw[hn.o];rfl,kF.o⟩
  have h5:¬e<4611686018427387904:=λh5=>h ⟨h1,h2,h3,h4,h5⟩;clear h;have g1:(p:Int)<8192:=ae;have g2:(1:Int)<=s:=ae;have g3:(s:Int)<4611686018427387904:=ae;have g4:(1:Int)<=e:=ae;have g5:decide ((e:Int)<4611686018427387904)=false:=decide_eq_false ae;clear h1 h2 h3 h4 h5 hp hs he;rcases hk with rfl|rfl
  all_goals
   go_in
   go_wp2;go_ret;exact⟨by rw[hn.o];rfl,kF.o⟩
end
section
open Go.RowKit

theorem EK (t:Tg) (a:Option Addr) (n c:Nat) (pay:List UInt8) (w:World) (ht:Tg.Right t) (hf:Tg.Fits n) (hx:Bytes w w.heap.size a n pay):
  Calls prog 26 #[tagV t,.slice a n c] w λe w'=>(∃v,e= .returned (.tuple #[v,.int .i64 0])/\Own aH 5 w' w.heap.size v (Tg.page t pay))/\Below w.heap.size w w':=by
 have kF:=ag ((Below.refl w.heap.size w).alloc (Nat.le_refl _) (aqQ t));have hrb:=Tg.kM ht;have HP:=ag hx.len;have fF:64<=n/\n<=512:=by unfold Tg.Fits at hf;omega
 obtain⟨bK,aW⟩:=fF;have HF:=ag hf;have HX:=ag hx;obtain⟨k,p,s,e⟩:=t;obtain⟨hk,hp,Fp,hs,QB,he⟩:=id ht;simp only at hk hp Fp hs QB he;have HR:=ag ht;have HHP:=ag (show p<8192 from hp);have HHS:=ag (show s<18446744073709551616 by omega);have HHE:=ag (show e<18446744073709551616 by omega);have iy:1<=k/\k<=2:=ae;obtain⟨iy,fA⟩:=iy;clear hk ht hf hx Fp QB hs he;have bk0:=ag (aF.new w 67 #[.int .i64 k,.int .u32 p,.int .u64 s,.int .u64 e]);have uY:=ao8 (n+32) ae;rw[show((n+32:Nat):Int)=(n:Int)+32 by omega] at uY
 go_in
 go_wp2_with fail;refine(qP ⟨k,p,s,e⟩ (show p<4294967296 by omega) HHS.o HHE.o _).mono ?_;rw[hrb];rintro e1 w1 ⟨rfl,hb⟩;have bk1:=ag (bk0.o.ah hb);have dw:=ag (Below.ay kF.o hb);have aU:=bk1.o.lt;clear hb bk0 kF hrb;go_wp2_with fail;refine(IX n HF.o _).mono ?_;rintro e2 w2 ⟨rfl,rfl⟩;have J4:=ag (acQ w1 w1.heap.size (n+32) (Nat.le_refl _) ae);have aW:=dw.o.alloc dw.o.size (.cells (Array.replicate (n+32) (.int .u8 0)) 5);have dA:=ag aW;have bk2:=ag (bk1.o.alloc (.cells (Array.replicate (n+32) (.int .u8 0)) 5));have Ez:=ag (HX.o.below aW);clear aW;have TF:=ag (show#[Value.int .u8 67,Value.int .u8 85,Value.int .u8 k,Value.int .u8 0]=([67,85,UInt8.ofNat k.toNat,0].map aH).toArray by simp only[List.map_cons,List.map_nil,aH,UInt8.toNat_ofNat'];rw[show((k.toNat%2^8:Nat):Int)=k by omega];rfl)
 go_wp2_with (first
  |(at_builtin;refine lU rfl _ _ rfl w1.heap.size _ [] rfl J4.o _ _ _ _ pay rfl Ez.o (by simp;omega) au ?_;intro v3 w3 rf bQ;have bk3:=ag (bk2.o.below bQ.o aU);have hs3:w1.heap.size<w3.heap.size:=(by have:=bQ.o.size;simp at this;omega);have q0:=bk3.o.aj (i:=0) rfl)
  |(at_builtin;refine Ri rfl _ _ rfl w1.heap.size _ ([]++pay) rfl rf.o 4 [67,85,UInt8.ofNat k.toNat,0] rfl rfl TF.o (by rw[List.nil_append,HP.o];omega) ae ?_;intro v4 w4 vJ di;have bk4:=ag (bk3.o.below di.o aU);have VV:=di.o.size;have q1:=bk4.o.aj (i:=1) rfl))
 clear q0 q1 uY;have di:=ag (bQ.o.trans di.o);generalize hL4:[]++pay++[67,85,UInt8.ofNat k.toNat,0]=L4 at vJ;have l4:L4.length=n+4:=by rw[<-hL4];simp[HP.o]
 have V6:=ag hL4;clear hL4;refine(qO _ L4 p 4 w1.heap.size _ ae ae ae vJ.o ae).mono ?_;rintro _ w5 ⟨⟨v5,rfl,ho⟩,hb⟩;have hs5:=hb.size;have bk5:=ag (bk4.o.below hb aU);have iP:=ag (di.o.trans hb);generalize hL5:L4++aK p 4=L5 at ho;have l5:L5.length=n+8:=by rw[<-hL5];simp[bI];omega
 have GZ:=ag ho;have HL5:=ag hL5;clear ho hb hL5 bk4 di vJ;have q2:=bk5.o.aj (i:=2) rfl;go_wp2_with fail;clear q2;refine(qO _ L5 s 8 w1.heap.size _ HHS.o ae ae GZ.o ae).mono ?_;rintro _ w6 ⟨⟨v6,rfl,ho⟩,hb⟩;have hs6:=hb.size;have bk6:=ag (bk5.o.below hb aU);have iI:=ag (iP.o.trans hb);generalize hL6:L5++aK s 8=L6 at ho;have l6:L6.length=n+16:=by rw[<-hL6];simp[bI];omega
 have Eg:=ag ho;have ZE:=ag hL6;clear ho hb hL6 bk5 iP GZ;have q3:=bk6.o.aj (i:=3) rfl;go_wp2_with fail;clear q3;refine(qO _ L6 e 8 w1.heap.size _ HHE.o ae ae Eg.o ae).mono ?_;rintro _ w7 ⟨⟨v7,rfl,ho⟩,hb⟩;have hs7:=hb.size;have bk7:=ag (bk6.o.below hb aU);have kC:=ag (iI.o.trans hb);generalize hL7:L6++aK e 8=L7 at ho;have l7:L7.length=n+24:=by rw[<-hL7];simp[bI];omega
 have vK:=ag ho;have Yr:=ag hL7;clear ho hb hL7 bk6 iI Eg;have hL7:L7=pay++Tg.head ⟨k,p,s,e⟩:=by rw[<-Yr.o,<-ZE.o,<-HL5.o,<-V6.o];simp[Tg.head]
 have HL:=ag hL7;clear hL7;obtain⟨a7,c7,rfl,_⟩:=vK.o.bZ l7;have awX:=ag (vK.o.arr ae);go_wp2_with fail;refine(Nk _ _ _ L7 _ awX.o).mono ?_;rintro _ w8 ⟨rfl,rfl⟩;have awY:=(CV.sum L7).isLt;have HSM:=ag (show(CV.sum L7).toNat=Tg.sumOf ⟨k,p,s,e⟩ pay by rw[HL.o];rfl);generalize (CV.sum L7).toNat=S at*;go_wp2_with fail;refine(qO _ L7 S 4 w1.heap.size _ ae ae ae vK.o ae).mono ?_;rintro _ w9 ⟨⟨v9,rfl,ho⟩,hb⟩;have hs9:=hb.size;have bk9:=ag (bk7.o.below hb aU);have gI:=ag (kC.o.trans hb);generalize hL9:L7++aK S 4=L9 at ho;have l9:L9.length=n+28:=by rw[<-hL9];simp[bI];omega
 have HO9:=ag ho;have Fz:=ag hL9;clear ho hb hL9 bk7 kC vK;go_wp2_with fail;refine(qO _ L9 0 4 w1.heap.size _ ae ae ae HO9.o ae).mono ?_;rintro _ Ig ⟨⟨v10,rfl,ho⟩,hb⟩;have amg:=hb.size;have aEa:=ag (bk9.o.below hb aU);have A8:=ag (gI.o.trans hb);generalize amh:L9++aK 0 4=L10 at ho;have l10:L10.length=n+32:=by rw[<-amh];simp[bI];omega
 have aw0:=ag ho;have Xe:=ag amh;clear ho hb amh bk9 gI HO9;have FM:L10=Tg.page ⟨k,p,s,e⟩ pay:=by rw[<-Xe.o,<-Fz.o,HL.o,HSM.o,Tg.ah5];rfl
 have HB:=ag (dA.o.trans (A8.o.mono (Nat.le_of_lt aU)));have HO:=ag (FM▸aw0.o.mono (Nat.le_of_lt aU));clear FM;go_wp2;go_ret2;exact⟨⟨_,rfl,HO.o⟩,HB.o⟩
end
end Go.Proofs.YtnieckfelfoopaaGreat

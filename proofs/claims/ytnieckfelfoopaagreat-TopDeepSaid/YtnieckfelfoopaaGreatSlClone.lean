import Derived.Test.YtnieckfelfoopaaGreatRows
import Derived.Test.YtnieckfelfoopaaGreatMem
import Derived.WalkKit
import Derived.Lib.SliceRun
open Go.Proofs.Tryz (prog)
namespace Go.Proofs.YtnieckfelfoopaaGreat
open Lib (hid)
set_option maxRecDepth 100000
set_option maxHeartbeats 16000000
section
open Go.RowKit

theorem Hg:(prog.info? 5).map (λi=>(i.zero,i.size,i.bytes))=some (some (.int .u8 0),1,1):=az
theorem yX (v:Value) (n:Nat):madeCells #[v] n=(List.replicate n v).toArray:=by unfold madeCells;apply Array.ext au;intro i h1 h2;simp[Nat.mod_one]
theorem ao7 (n:Nat) (h:n<=140737488355328) (u:World):(Instr.makeSlice 23 (.int .i64 n) (.int .i64 n)).run prog u=
  .ok (.slice (some ⟨u.heap.size,0,none⟩) n n) (u.alloc (.cells ((List.replicate n (0:UInt8)).map aH).toArray 5)):=by
 obtain⟨i0,hi,qp,rG,yU⟩:=info_parts Hg;have h:=run_make (P:=prog) u 23 5 i0 (.int .u8 0) Tryz.underlying23 hi qp .i64 .i64 (n:Int) (n:Int) ae (Int.le_refl _) (by rw[yU];omega) ae;rw[Int.toNat_natCast,rG,Nat.mul_one] at h;rw[List.map_replicate];exact h.trans (by rw[show Value.cells (.int .u8 0)=#[.int .u8 0] from rfl,yX];rfl)
theorem agD (w:World) (base n:Nat) (hb:base<=w.heap.size) (hn:n<=140737488355328):
  Own aH 5 (w.alloc (.cells ((List.replicate n (0:UInt8)).map aH).toArray 5)) base (.slice (some ⟨w.heap.size,0,none⟩) n n) (List.replicate n (0:UInt8)):=by
 have h:=Own.made (f:=aH) (e:=5) (w:=w) (xs:=List.replicate n (0:UInt8)) hb (by rw[List.length_replicate];simp only[maxLen];omega);rw[List.length_replicate] at h;exact h
theorem Dn (n:Nat):((List.replicate n (0:UInt8)).map aH).toArray=Array.replicate n (.int .u8 0):=by rw[List.map_replicate,List.toArray_replicate];rfl
theorem ao8 (n:Nat) (h:n<=140737488355328) (u:World):(Instr.makeSlice 23 (.int .i64 0) (.int .i64 n)).run prog u=
  .ok (.slice (some ⟨u.heap.size,0,none⟩) 0 n) (u.alloc (.cells (Array.replicate n (.int .u8 0)) 5)):=by
 obtain⟨i0,hi,qp,rG,yU⟩:=info_parts Hg;have h:=run_make (P:=prog) u 23 5 i0 (.int .u8 0) Tryz.underlying23 hi qp .i64 .i64 0 (n:Int) ae ae (by rw[yU];omega) ae;rw[Int.toNat_natCast,rG,Nat.mul_one] at h;rw[<-Dn,List.map_replicate];exact h.trans (by rw[show Value.cells (.int .u8 0)=#[.int .u8 0] from rfl,yX];rfl)
theorem acQ (w:World) (base n:Nat) (hb:base<=w.heap.size) (hn:n<=140737488355328):
  Own aH 5 (w.alloc (.cells (Array.replicate n (.int .u8 0)) 5)) base (.slice (some ⟨w.heap.size,0,none⟩) 0 n) ([]:List UInt8):=
 ⟨au,.inr ⟨w.heap.size,n,_,rfl,hb,heap_alloc_new w _,au,by simp only[maxLen];omega,au,au⟩⟩
theorem Hl (n:Nat) (h:n<=140737488355328) (u:World):(Instr.makeSlice 23 (.int .i64 n) (.int .i64 n)).run prog u=
  .ok (.slice (some ⟨u.heap.size,0,none⟩) n n) (u.alloc (.cells (Array.replicate n (.int .u8 0)) 5)):=by
 rw[ao7 n h u,Dn]
theorem nH (w:World) (base n:Nat) (hb:base<=w.heap.size) (hn:n<=140737488355328):
  Own aH 5 (w.alloc (.cells (Array.replicate n (.int .u8 0)) 5)) base (.slice (some ⟨w.heap.size,0,none⟩) n n) (List.replicate n (0:UInt8)):=by
 rw[<-Dn];exact agD w base n hb hn
theorem kU (a:Option Addr) (n c l:Nat) (hl:l<=n) (w:World):(Instr.slice 23 (.slice a n c) (some (.int .i64 l)) none none).run prog w= .ok (.slice (iL a c l) (n-l) (c-l)) w:=by obtain⟨i0,hi,qp,rG,yU⟩:=info_parts Hg;exact Oo Tryz.underlying23 hi rG a n c l hl w
theorem Oq (a:Option Addr) (n c h:Nat) (hl:h<=c) (w:World):(Instr.slice 23 (.slice a n c) none (some (.int .i64 h)) none).run prog w= .ok (.slice a h c) w:=by obtain⟨i0,hi,qp,rG,yU⟩:=info_parts Hg;exact He Tryz.underlying23 hi a n c h hl w
theorem Hm (a:Option Addr) (n c l h:Nat) (hl:l<=h) (hh:h<=c) (w:World):(Instr.slice 23 (.slice a n c) (some (.int .i64 l)) (some (.int .i64 h)) none).run prog w= .ok (.slice (iL a c l) (h-l) (c-l)) w:=by obtain⟨i0,hi,qp,rG,yU⟩:=info_parts Hg;exact Rh Tryz.underlying23 hi rG a n c l h hl hh w
theorem rJ {w:World} {ops:Array Oper} {rest:List Oper} {o:Oper} {ac:Act} {Q:Exit->Act->World->Prop} (mD:o.guard=none) (s x:Operand)
  (ho:o.op= .call {callee:= .builtin .append,args:=#[s,x],argTypes:=#[23,23]}) (base:Nat)
  (v:Value) (xs:List UInt8) (hs:ac.eval s=v) (bG:Own aH 5 w base v xs) (B:Nat) (a:Option Addr) (m c:Nat) (ys:List UInt8) (hx:ac.eval x= .slice a m c) (hy:Bytes w B a m ys)
  (dW:xs.length+m<=140737488355328) (cZ:base<=w.heap.size)
  (h:∀v' w',Own aH 5 w' base v' (xs++ys)->w.grownBy w' v.ownBlock->(v'.ownBlock=v.ownBlock\/v'.ownBlock=some w.heap.size)->wpList prog ops Q rest (ac.put o.dst v') w'):wpList prog ops Q (o::rest) ac w:=by
 obtain⟨i0,hi,qp,rG,yU⟩:=info_parts Hg;exact rH mD s x 23 ho base 5 i0 _ 1 Tryz.underlying23 hi qp rG yU rfl xX v xs hs bG B a m c ys hx hy ae (by simp only[maxLen];omega) cZ h
theorem lU {w:World} {ops:Array Oper} {rest:List Oper} {o:Oper} {ac:Act} {Q:Exit->Act->World->Prop} (mD:o.guard=none) (s x:Operand)
  (ho:o.op= .call {callee:= .builtin .append,args:=#[s,x],argTypes:=#[23,23]}) (base:Nat)
  (v:Value) (xs:List UInt8) (hs:ac.eval s=v) (bG:Own aH 5 w base v xs) (B:Nat) (a:Option Addr) (m c:Nat) (ys:List UInt8) (hx:ac.eval x= .slice a m c) (hy:Bytes w B a m ys)
  (dW:xs.length+m<=140737488355328) (cZ:base<=w.heap.size)
  (h:∀v' w',Hid (Own aH 5 w' base v' (xs++ys))->Hid (Below base w w')->wpList prog ops Q rest (ac.put o.dst v') w'):wpList prog ops Q (o::rest) ac w:=
 rJ mD s x ho base v xs hs bG B a m c ys hx hy dW cZ λv' w' h1 h2 _=>h v' w' (ag h1) (ag (jK (Below.refl base w) bG h2 cZ))
theorem Ri {w:World} {cs:Array Value} {ops:Array Oper} {rest:List Oper} {o:Oper} {ac:Act} {Q:Exit->Act->World->Prop} (mD:o.guard=none) (s x:Operand)
  (ho:o.op= .call {callee:= .builtin .append,args:=#[s,x],argTypes:=#[23,23]}) (base:Nat)
  (v:Value) (xs:List UInt8) (hs:ac.eval s=v) (bG:Own aH 5 w base v xs) (m:Nat) (ys:List UInt8) (hx:ac.eval x= .slice (some ⟨w.heap.size,0,none⟩) m m) (hm:ys.length=m) (jq:cs=(ys.map aH).toArray)
  (dW:xs.length+m<=140737488351232) (cZ:base<=w.heap.size)
  (h:∀v' w',Hid (Own aH 5 w' base v' (xs++ys))->Hid (Below base w w')->wpList prog ops Q rest (ac.put o.dst v') w'):wpList prog ops Q (o::rest) ac (w.alloc (.cells cs 5)):=
 rJ mD s x ho base v xs hs (bG.alloc _) _ _ m m ys hx (jg.lit w 5 ys m hm ae jq) ae (by simp;omega) λv' w' h1 h2 _=>
  h v' w' (ag h1) (ag (((Below.refl base w).alloc cZ _).trans (jK (Below.refl base _) (bG.alloc _) h2 (by simp;omega))))
theorem agE {w:World} {o:Oper} {ac:Act} {K:Act->World->Prop} {Q:Exit->Act->World->Prop} (s x:Operand)
  (ho:o.op= .call {callee:= .builtin .append,args:=#[s,x],argTypes:=#[23,23]}) (base:Nat)
  (v:Value) (xs:List UInt8) (hs:ac.eval s=v) (bG:Own aH 5 w base v xs) (B:Nat) (a:Option Addr) (m c:Nat) (ys:List UInt8) (hx:ac.eval x= .slice a m c) (hy:Bytes w B a m ys)
  (dW:xs.length+m<=140737488355328) (cZ:base<=w.heap.size)
  (h:∀v' w',Own aH 5 w' base v' (xs++ys)->w.grownBy w' v.ownBlock->(v'.ownBlock=v.ownBlock\/v'.ownBlock=some w.heap.size)->K (ac.put o.dst v') w'):o.wp prog ac w K Q:=by
 obtain⟨i0,hi,qp,rG,yU⟩:=info_parts Hg;exact sH s x 23 ho base 5 i0 _ 1 Tryz.underlying23 hi qp rG yU rfl xX v xs hs bG B a m c ys hx hy ae (by simp only[maxLen];omega) cZ h
theorem Zt {w:World} {ops:Array Oper} {o:Oper} {a:Act} {K:Act->World->Prop} {Q:Exit->Act->World->Prop} {E:Prop} (mD:o.guard=none) (s x:Operand)
  (ho:o.op= .call {callee:= .builtin .append,args:=#[s,x],argTypes:=#[23,23]}) (base:Nat)
  (v:Value) (xs:List UInt8) (hs:a.eval s=v) (bG:Own aH 5 w base v xs) (B:Nat) (ad:Option Addr) (m c:Nat) (ys:List UInt8) (hx:a.eval x= .slice ad m c) (hy:Bytes w B ad m ys)
  (dW:xs.length+m<=140737488355328) (cZ:base<=w.heap.size)
  (h:∀v' w',Hid (Own aH 5 w' base v' (xs++ys))->Hid (Below base w w')->K (a.put o.dst v') w'):
  if Region.wanted o (yielded ops a.tmps)=true then Oper.wp prog o a w K Q else E:=by
 have hw:Region.wanted o (yielded ops a.tmps)=true:=by simp[Region.wanted,mD]
 rw[if_pos hw];exact agE s x ho base v xs hs bG B ad m c ys hx hy dW cZ λv' w' h1 h2 _=>h v' w' (ag h1) (ag (jK (Below.refl base w) bG h2 cZ))
end
section

def aK (X n:Nat):List UInt8:=(List.range n).map λi=>UInt8.ofNat (X/256^i)
theorem bI (X n:Nat):(aK X n).length=n:=by simp[aK]
theorem LU (X k:Nat):aK X (k+1)=aK X k++[UInt8.ofNat (X/256^k)]:=by simp[aK,List.range_succ]
def dY:List UInt8->Nat
 |[]=>0
 |b::bs=>b.toNat+256*dY bs
theorem Ot (xs:List UInt8):dY xs<256^xs.length:=by
 induction xs with
 |nil=>simp[dY]
 |cons b bs ih=>
  have:=b.toNat_lt;simp only[dY,List.length_cons,Nat.pow_succ];omega
theorem LW (X n:Nat):aK X (n+1)=UInt8.ofNat X::aK (X/256) n:=by
 simp only[aK,List.range_succ_eq_map,List.map_cons,List.map_map,Nat.pow_zero,Nat.div_one]
 congr 1
 apply List.map_congr_left;intro i _;simp only[Function.comp_apply,Nat.pow_succ,Nat.div_div_eq_div_mul,Nat.mul_comm]
theorem Zu (X n:Nat):dY (aK X n)=X%256^n:=by
 induction n generalizing X with
 |zero=>simp[aK,dY,Nat.mod_one]
 |succ n ih=>
  have h:=Nat.mod_mul (x:=X) (a:=256) (b:=256^n);have e:256^(n+1)=256*256^n:=by rw[Nat.pow_succ,Nat.mul_comm]
  rw[LW,dY,ih,UInt8.toNat_ofNat',e,h]
theorem Ep {X n:Nat} (h:X<256^n):dY (aK X n)=X:=by rw[Zu,Nat.mod_eq_of_lt h]
theorem Zv (xs:List UInt8):aK (dY xs) xs.length=xs:=by
 induction xs with
 |nil=>rfl
 |cons b bs ih=>
  have hb:=b.toNat_lt;rw[List.length_cons,LW,dY];have h1:(b.toNat+256*dY bs)/256=dY bs:=ae;have h2:UInt8.ofNat (b.toNat+256*dY bs)=b:=by apply UInt8.toNat_inj.1;rw[UInt8.toNat_ofNat'];omega
  rw[h1,ih,h2]
def aJ (xs:List UInt8):ByteArray:=⟨xs.toArray⟩
theorem acF {xs ys:List UInt8} (h:aJ xs=aJ ys):xs=ys:=by
 have h2:=congrArg ByteArray.data h
 simpa[aJ] using h2
end
section
open Go.RowKit

theorem LZ (xs:List UInt8) (k:Nat) (h:k<xs.length):dY (xs.drop k)=xs[k].toNat+256*dY (xs.drop (k+1)):=by rw[List.drop_eq_getElem_cons h,dY]
theorem Ou {xs:List UInt8} {n:Nat} (hn:n<=8) (hl:xs.length=n) (k:Nat) (hk:0<k) (hkn:k<=n):dY (xs.drop k)*256<=18446744073709551360:=by have h:=Ot (xs.drop k);rw[List.length_drop,hl] at h;have h2:(256:Nat)^(n-k)<=256^7:=Nat.pow_le_pow_right ae ae;have h3:(256:Nat)^7=72057594037927936:=aB;omega
end
section
open Go.RowKit

end
section
open Go.RowKit

theorem VL (X b:Nat) (hX:X<36028797018963968) (hb:b<256):bits .or .i64 ((X:Int)*256) (b:Int)=((X*256+b:Nat):Int):=by
 have h1:X*256|||b=X*256+b:=by have:=Nat.two_pow_add_eq_or_of_lt (i:=8) (b:=b) hb X;rw[Nat.mul_comm X 256];exact this.symm
 have e:(X:Int)*256=((X*256:Nat):Int):=ae;rw[e];unfold bits;have a1:(BitVec.ofInt 64 ((X*256:Nat):Int)).toNat=X*256:=xY _ ae;have a2:(BitVec.ofInt 64 (b:Int)).toNat=b:=xY _ ae;show IntKind.i64.wrap ((BitVec.ofInt 64 ((X*256:Nat):Int)|||BitVec.ofInt 64 (b:Int)).toNat:Int)=_;rw[BitVec.toNat_or,a1,a2,h1];exact IntWalk.i64_in _ ⟨ae,ae⟩
theorem Ku {ys:List UInt8} {k:Nat} (hk:k<=7) (hl:ys.length=k) (j:Nat) (h0:0<j) (hj:j<=k):dY (ys.drop j)<281474976710656:=by have h:=Ot (ys.drop j);rw[List.length_drop,hl] at h;have h2:(256:Nat)^(k-j)<=256^6:=Nat.pow_le_pow_right ae ae;have h3:(256:Nat)^6=281474976710656:=aB;omega
theorem VM (R B:Nat) (a:Option Addr) (n c:Nat) (xs:List UInt8) (k:Nat) (w:World) (hR:aF w R 23 #[.slice a n c]) (hx:Bytes w B a n xs) (hk:k<=n) (hk7:k<=7):
  Calls prog 232 #[.int .i64 k,R] w λe w'=>e= .returned (.int .i64 (dY (xs.take k):Nat))/\w'=w.setCell ⟨R,0,none⟩ (.slice (iL a c k) (n-k:Nat) (c-k:Nat)):=by
 have hl:=hx.len;have hm:=ag (hx.take hk);have QP:(xs.take k).length=k:=by rw[List.length_take];omega
 generalize hys:xs.take k=ys at*;clear hys;have HL:=ag QP;have c0:=hR.aj (i:=0) rfl;have f0:=hR.frozen 0;clear QP hl
 go_in
 go_wp2
 go_loop [4,5] (λx i=>∃j:Nat,j<=k/\i= .int .i64 ((j:Int)-1)/\x= .int .i64 (dY (ys.drop j):Nat)) (λ_ i=>(intOf i+1).toNat)
 case atStart=>exact⟨k,ae,rfl,by rw[List.drop_of_length_le (by have:=HL.o;omega)];rfl⟩
 case round=>
  obtain⟨j,hj,rfl,rfl⟩:=hrel;by_cases aU:0<j
  ·obtain⟨b,o,Dq,rfl,hb,hc⟩:=hm.o.at_ (k:=j-1) ae;have hd:=LZ ys (j-1) Dq;rw[Nat.sub_add_cancel aU] at hd;have qw:=Ku hk7 HL.o j aU hj;have kF:=(ys[j-1]).toNat_lt;have HD:=ag hd;clear hd;have hor:=VL (dY (ys.drop j)) (ys[j-1]).toNat ae kF;generalize hX:dY (ys.drop j)=X at*;generalize hY:ys[j-1]=y at*;clear hX hY;obtain⟨i,rfl⟩:∃i,j=i+1:=⟨j-1,ae⟩
   rw[Nat.add_sub_cancel] at hc;rw[Nat.add_sub_cancel] at HD;rw[show((i+1:Nat):Int)-1=(i:Int) by omega];go_wp2
   go_round
   case rel=>exact⟨i,ae,by go_num,by rw[HD.o];exact congrArg (Value.int .i64) ae⟩
   case measure=>simp[intOf]
  ·obtain rfl:j=0:=ae;have hcut:=kU a n c k hk;go_wp2;go_ret;exact⟨rfl,rfl⟩
structure Taken (R B m:Nat) (ys:List UInt8) (w w':World):Prop where
 rest:∃a' c',aF w' R 23 #[.slice a' m c']/\Bytes w' B a' m ys/\m<=c'
 far:∀{g t cs},g≠R->aF w g t cs->aF w' g t cs
 size:w'.heap.size=w.heap.size
 below:∀{D},D<=R->Below D w w'
theorem gV (R B:Nat) (a:Option Addr) (n c:Nat) (xs:List UInt8) (k m j i:Nat) (w:World) (hR:aF w R 23 #[.slice a n c]) (hx:Bytes w B a n (xs.drop j)) (ve:n<=c) (hB:B<=R) (hn:n=m+k) (hi:i=j+k) (hk7:k<=7):
  Calls prog 232 #[.int .i64 k,R] w λe w'=>e= .returned (.int .i64 (dY ((xs.drop j).take k):Nat))/\Taken R B m (xs.drop i) w w':=by
 refine(VM R B a n c (xs.drop j) k w hR hx ae hk7).mono ?_;rintro e w' ⟨rfl,rfl⟩;have h:=(hx.drop (l:=k) ae ve).below ((Below.refl B w).setCell (p:=⟨R,0,none⟩) hB (.slice (iL a c k) (n-k:Nat) (c-k:Nat)));have hr:=hR.set 0 (.slice (iL a c k) (n-k:Nat) (c-k:Nat));rw[List.drop_drop,<-hi] at h;have e:n-k=m:=ae;rw[e] at h hr⊢;exact⟨rfl,⟨_,_,hr,h,ae⟩,λdh hb=>hb.far dh _,au,λhD=>(Below.refl _ _).setCell hD _⟩
end
section
open Go.RowKit

theorem ig (a:Option Addr) (n c:Nat) (xs:List UInt8) (w:World) (hx:Bytes w w.heap.size a n xs):
  Calls prog 28 #[.slice a n c] w λe w'=>(∃v,e= .returned v/\Own aH 5 w' w.heap.size v xs)/\Below w.heap.size w w':=by
 have HX:=ag hx;have yV:=hx.room;have Ho:=λw=>Lib.run_eql_slice_nil (P:=prog) w 23 5 a n c 0 0 Tryz.underlying23
 cases a with
 |none=>
  have hn:xs=[]:=by
   have hl:=hx.len;by_cases h0:n=0
   ·subst h0;exact List.eq_nil_of_length_eq_zero hl
   ·obtain⟨b,o,_,ha,_⟩:=hx.QQ (k:=0) ae;cases ha
  subst hn;simp only[Option.isNone_none] at Ho;clear hx
  go_in
  go_wp2;go_ret;exact⟨⟨_,rfl,Own.nil _ _⟩,Below.refl _ _⟩
 |some p=>
  simp only[Option.isNone_some] at Ho;have ho:=ag (Own.made (f:=aH) (e:=5) (w:=w) (base:=w.heap.size) (xs:=([]:List UInt8)) (Nat.le_refl _) au);have Ff:=ag (HX.o.alloc (.cells #[] 5));have bK:=ag ((Below.refl w.heap.size w).alloc (Nat.le_refl _) (.cells #[] 5));clear hx
  go_in
  go_wp2_with (at_builtin;refine lU rfl _ _ rfl w.heap.size _ [] rfl ho.o _ _ n _ xs rfl Ff.o (by simp only[List.length_nil];omega) au ?_;intro v1 w1 Rj aW)
  go_ret;refine⟨⟨_,rfl,?_⟩,bK.o.trans aW.o⟩;have h:=Rj.o;rw[List.nil_append] at h;exact h
end
end Go.Proofs.YtnieckfelfoopaaGreat

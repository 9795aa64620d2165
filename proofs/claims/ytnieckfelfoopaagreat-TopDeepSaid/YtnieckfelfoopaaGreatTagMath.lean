import Derived.WalkKit
import Derived.Test.YtnieckfelfoopaaGreatSlClone
namespace Go.Proofs.YtnieckfelfoopaaGreat
open Lib (hid)
set_option maxRecDepth 100000
set_option maxHeartbeats 16000000
section
namespace CV

def stp (r:BitVec 32):BitVec 32:=if r&&&1#32=1#32 then(r>>>1)^^^3988292384#32 else r>>>1
def aaz:Nat->BitVec 32->BitVec 32
 |0,r=>r
 |k+1,r=>stp (aaz k r)
def put (r:BitVec 32) (b:UInt8):BitVec 32:=aaz 8 (r^^^b.toBitVec.setWidth 32)
def puts (r:BitVec 32) (l:List UInt8):BitVec 32:=l.foldl put r
def more (s:BitVec 32) (l:List UInt8):BitVec 32:= ~~~(puts (~~~s) l)
def sum (l:List UInt8):BitVec 32:=more 0#32 l

theorem aaA (r:BitVec 32) (l:List UInt8) (b:UInt8):puts r (l++[b])=put (puts r l) b:=by simp[puts]
end CV
end
section
namespace CV

end CV
end
section
namespace CV

end CV
end
section

structure Tg where
 k:Int
 p:Nat
 s:Nat
 e:Nat
namespace Tg
def zero:Tg:=⟨0,0,0,0⟩
def Right (t:Tg):Prop:=(t.k=1\/t.k=2)/\t.p<8192/\1<=t.s/\t.s<4611686018427387904/\1<=t.e/\t.e<4611686018427387904
instance (t:Tg):Decidable (Right t):=by unfold Right;exact inferInstance
def uO (t:Tg):Bool:=decide (Right t)
theorem kM {t:Tg} (h:Right t):uO t=true:=decide_eq_true h
theorem dJ {t:Tg} (h:¬Right t):uO t=false:=decide_eq_false h
def Fits (n:Nat):Prop:=n=64\/n=128\/n=256\/n=512
instance (n:Nat):Decidable (Fits n):=by unfold Fits;exact inferInstance
def head (t:Tg):List UInt8:=[67,85,UInt8.ofNat t.k.toNat,0]++aK t.p 4++aK t.s 8++aK t.e 8
theorem IZ (t:Tg):(head t).length=24:=by simp[head,bI]
def sumOf (t:Tg) (pay:List UInt8):Nat:=(CV.sum (pay++head t)).toNat
def beside (t:Tg) (pay:List UInt8):List UInt8:=head t++aK (sumOf t pay) 4++[0,0,0,0]
theorem I4 (t:Tg) (pay:List UInt8):(beside t pay).length=32:=by simp[beside,IZ,bI]
def page (t:Tg) (pay:List UInt8):List UInt8:=pay++beside t pay
theorem um (t:Tg) (pay:List UInt8):(page t pay).length=pay.length+32:=by simp[page,I4]
theorem ah5 (t:Tg) (pay:List UInt8):page t pay=pay++head t++aK (sumOf t pay) 4++[0,0,0,0]:=by simp[page,beside]
def num (d:List UInt8) (i k:Nat):Nat:=dY ((d.drop i).take k)
def raw (d:List UInt8):Tg:=⟨(num d 2 1:Nat),num d 4 4,num d 8 8,num d 16 8⟩
def full (l:List UInt8):Bool:=l.all (·==255)
def Good (pay d:List UInt8):Prop:=num d 0 2=21827/\num d 3 1=0/\num d 28 4=0/\Right (raw d)/\num d 24 4=(CV.sum (pay++d.take 24)).toNat
instance (pay d:List UInt8):Decidable (Good pay d):=by unfold Good;exact inferInstance
theorem kG {α:Type} {a b c d:List α} (h:a.length=c.length):a++b=c++d↔a=c/\b=d:=by
 constructor
 ·intro e;exact List.append_inj e h
 ·rintro⟨rfl,rfl⟩;rfl
theorem qQ (d:List UInt8) (i k:Nat):d.drop i=(d.drop i).take k++d.drop (i+k):=by rw[<-List.drop_drop,List.take_append_drop]
theorem jl {d:List UInt8} {i k X:Nat} (h:i+k<=d.length) (hX:X<256^k):aK X k=(d.drop i).take k↔num d i k=X:=by
 have hl:((d.drop i).take k).length=k:=by rw[List.length_take,List.length_drop];omega
 constructor
 ·intro e;rw[num,<-e,Ep hX]
 ·intro e;have:=Zv ((d.drop i).take k);rw[hl] at this;rw[<-e];exact this
theorem sW {d:List UInt8} {i k:Nat}:num d i k<256^k:=by
 have h:=Ot ((d.drop i).take k);have h2:((d.drop i).take k).length<=k:=by rw[List.length_take];omega
 exact Nat.lt_of_lt_of_le h (Nat.pow_le_pow_right ae h2)
theorem Xf (d:List UInt8):0<=(raw d).k/\(raw d).k<256/\(raw d).p<4294967296/\(raw d).s<18446744073709551616/\(raw d).e<18446744073709551616:=by
 have h1:=sW (d:=d) (i:=2) (k:=1);have h2:=sW (d:=d) (i:=4) (k:=4);have h3:=sW (d:=d) (i:=8) (k:=8);have h4:=sW (d:=d) (i:=16) (k:=8);refine⟨?_,?_,h2,h3,h4⟩
 ·show(0:Int)<=((num d 2 1:Nat):Int);omega
 ·show((num d 2 1:Nat):Int)<256;have:(256:Nat)^1=256:=aB;omega
theorem I5 (t:Tg):head t=aK 21827 2++(aK t.k.toNat 1++(aK 0 1++(aK t.p 4++(aK t.s 8++aK t.e 8)))):=by
 have e:aK t.k.toNat 1=[UInt8.ofNat t.k.toNat]:=by simp[aK,List.range_succ]
 rw[e];show _=[67,85]++_;simp[head,show aK 0 1=[0] from rfl]
theorem PI (t:Tg) (pay:List UInt8):beside t pay=aK 21827 2++(aK t.k.toNat 1++(aK 0 1++(aK t.p 4++(aK t.s 8++(aK t.e 8++(aK (sumOf t pay) 4++aK 0 4)))))):=by rw[beside,I5];simp only[List.append_assoc,show aK 0 4=[0,0,0,0] from rfl]
theorem TI {d:List UInt8} (h:d.length=32):d=(d.drop 0).take 2++((d.drop 2).take 1++((d.drop 3).take 1++((d.drop 4).take 4++((d.drop 8).take 8++((d.drop 16).take 8++((d.drop 24).take 4++(d.drop 28).take 4)))))):=by
 have e7:d.drop 28=(d.drop 28).take 4:=by rw[List.take_of_length_le (by rw[List.length_drop];omega)]
 have e6:=qQ d 24 4;have e5:=qQ d 16 8;have e4:=qQ d 8 8;have e3:=qQ d 4 4;have e2:=qQ d 3 1;have e1:=qQ d 2 1;have e0:=qQ d 0 2;rw[<-e7,<-e6,<-e5,<-e4,<-e3,<-e2,<-e1,<-e0,List.drop_zero]
theorem aaB {d:List UInt8} {t:Tg} {pay:List UInt8} (e:beside t pay=d):d.take 24=head t:=by rw[<-e,beside,List.append_assoc,List.take_append_of_le_length (by rw[IZ];omega),List.take_of_length_le (by rw[IZ];omega)]
theorem sum_lt (t:Tg) (pay:List UInt8):sumOf t pay<256^4:=by have:=(CV.sum (pay++head t)).isLt;have e:(256:Nat)^4=2^32:=aB;rw[e];exact this
theorem Ld {t:Tg} (ht:Right t) {pay d:List UInt8} (h:d.length=32):beside t pay=d↔Good pay d/\raw d=t:=by
 obtain⟨hk,hp,Fp,hs,QB,he⟩:=id ht;have p1:t.k.toNat<256^1:=by have:(256:Nat)^1=256:=aB;omega
 have p4:t.p<256^4:=by have:(256:Nat)^4=4294967296:=aB;omega
 have e8:(256:Nat)^8=18446744073709551616:=aB;have ps:t.s<256^8:=ae;have pe:t.e<256^8:=ae;have key:beside t pay=d↔num d 0 2=21827/\num d 2 1=t.k.toNat/\num d 3 1=0/\num d 4 4=t.p/\num d 8 8=t.s/\num d 16 8=t.e/\num d 24 4=sumOf t pay/\num d 28 4=0:=by
  rw[PI]
  conv=>lhs;rhs;rw[TI h]
  rw[kG (by simp[bI,h]),kG (by simp[bI,h]),kG (by simp[bI,h]),kG (by simp[bI,h]),kG (by simp[bI,h]),kG (by simp[bI,h]),kG (by simp[bI,h]),
   jl ae aB,jl ae p1,jl ae aB,jl ae p4,jl ae ps,jl ae pe,jl ae (sum_lt t pay),jl ae aB]
 constructor
 ·intro e;have e':=e;rw[key] at e;obtain⟨a0,a1,a2,a3,a4,a5,a6,a7⟩:=e;have hr:raw d=t:=by obtain⟨k,p,s,e⟩:=t;simp only[raw,a1,a3,a4,a5,Tg.mk.injEq,and_true];show((k.toNat:Nat):Int)=k;have:k=1\/k=2:=hk;omega
  refine⟨⟨a0,a2,a7,hr▸ht,?_⟩,hr⟩;rw[aaB e',a6];rfl
 ·rintro⟨⟨a0,a2,a7,_,a6⟩,hr⟩;rw[key];subst hr;refine⟨a0,?_,a2,rfl,rfl,rfl,?_,a7⟩
  ·show num d 2 1=(((num d 2 1:Nat):Int)).toNat
   omega
  ·rw[a6];have hh:d.take 24=head (raw d):=by
    have hd:=TI h;have e:d.take 24=(d.drop 0).take 2++((d.drop 2).take 1++((d.drop 3).take 1++((d.drop 4).take 4++((d.drop 8).take 8++(d.drop 16).take 8)))):=by
     have hc:d=((d.drop 0).take 2++((d.drop 2).take 1++((d.drop 3).take 1++((d.drop 4).take 4++((d.drop 8).take 8++(d.drop 16).take 8)))))++((d.drop 24).take 4++(d.drop 28).take 4):=by
      simpa only[List.append_assoc] using hd
     conv=>lhs;rw[hc]
     rw[List.take_append_of_le_length (by simp[h]),List.take_of_length_le (by simp[h])]
    rw[e,I5];rw[kG (by simp[bI,h]),kG (by simp[bI,h]),kG (by simp[bI,h]),kG (by simp[bI,h]),kG (by simp[bI,h])];refine⟨?_,?_,?_,?_,?_,?_⟩
    ·exact((jl ae aB).2 a0).symm
    ·exact((jl ae p1).2 (by show num d 2 1=(((num d 2 1:Nat):Int)).toNat;omega)).symm
    ·exact((jl ae aB).2 a2).symm
    ·exact((jl ae p4).2 rfl).symm
    ·exact((jl ae ps).2 rfl).symm
    ·exact((jl ae pe).2 rfl).symm
   rw[hh];rfl
def ed (b:List UInt8):Tg:=if Fits (b.length-32)/\full b=false/\Good (b.take (b.length-32)) (b.drop (b.length-32)) then raw (b.drop (b.length-32)) else zero
def jm (b:List UInt8):List UInt8:=if Fits (b.length-32)/\full b=false/\Good (b.take (b.length-32)) (b.drop (b.length-32)) then b.take (b.length-32) else[]
def fK (b:List UInt8):Int:=if Fits (b.length-32) then(if full b=true then 20 else if Good (b.take (b.length-32)) (b.drop (b.length-32)) then 0 else 21) else 1
def Ok (t:Tg):Prop:=t.p<4294967296/\t.s<18446744073709551616/\t.e<18446744073709551616
end Tg
end
end Go.Proofs.YtnieckfelfoopaaGreat

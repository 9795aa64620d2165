import Derived.Test.YtnieckfelfoopaaGreatNodWrite
import Derived.Test.YtnieckfelfoopaaGreatInoTab2
import Derived.Test.YtnieckfelfoopaaGreatDirUndo
open Go.Proofs.Tryz (prog)
namespace Go.Proofs.YtnieckfelfoopaaGreat
open Lib (hid)
set_option maxRecDepth 100000
set_option maxHeartbeats 16000000
section
open Go.RowKit eu
variable {NB B P T:Nat} {Q:Nat->Prop} {w w':World} {f:Fm} {s:Ps}

def oV (w:World) (T P:Nat):Prop:=aF w T 150 #[.pointer (some ⟨P,0,none⟩)]
theorem oV.c0 (h:oV w T P):w.cell? ⟨T,0,none⟩=some (.pointer (some ⟨P,0,none⟩)):=aF.aj h (i:=0) rfl
theorem oV.on (h:oV w T P) (hb:Below w.heap.size w w'):oV w' T P:=aF.ah h hb
theorem oV.kq {U:Nat->Prop} (h:oV w T P) (hk:Kq U w w') (hT:¬U T):oV w' T P:=aF.kq h hk hT
theorem oV.lt (h:oV w T P):T<w.heap.size:=aF.lt h
def ind (s:Ps) (n:Nat):aN:=aN.qE (s.g (1+(n-1)/2)) (((n-1)%2:Nat):Int)
def wB (s:Ps) (n:Nat):Int:=aN.aG (s.g (1+(n-1)/2)) (((n-1)%2:Nat):Int)
def dX (s:Ps) (n:Nat) (i:aN):Ps:=s.put (1+(n-1)/2) (aN.putAt (s.g (1+(n-1)/2)) ((n-1)%2) i)
theorem OH:(prog.info? 93).map (·.size)=some 4:=az
theorem ajb (a b c d:Value):∀u:World,(Instr.field 93 (.agg #[a,b,c,d]) 3).run prog u= .ok d u:=λu=>az
theorem OI (a b c d:Int):(#[.int .i64 a,.int .i64 b,.int .i64 c,.int .i64 d]:Array Value).all (·.oneCell')=true:=by simp[Value.oneCell']
theorem oG (h:bT NB B Q w P f s):Calls prog 40 #[P] w λe w'=>e= .returned (.agg #[.int .i64 (s.tb:Int),.int .i64 ((s.tb:Int)+1),.int .i64 (s.np:Int),.int .i64 (s.ino:Int)])/\Below w.heap.size w w':=by
 have hb:=(Below.refl w.heap.size w).alloc (Nat.le_refl _) (.cells #[.int .i64 0,.int .i64 0,.int .i64 0,.int .i64 0] 93);have h1:=h.on hb;have c1:=h1.c1;have c2:=h1.c2;have c3:=h1.c3;have c4:=h1.c4;have HB:=ag hb;have HL:=ag (aF.new w 93 #[.int .i64 0,.int .i64 0,.int .i64 0,.int .i64 0]);clear h hb h1
 go_in
 go_wp2_with (refine aC rfl rfl _ _ _ rfl w.heap.size #[.int .i64 (s.tb:Int),.int .i64 ((s.tb:Int)+1),.int .i64 (s.np:Int),.int .i64 (s.ino:Int)] rfl rfl 93 #[.int .i64 0,.int .i64 0,.int .i64 0,.int .i64 0] HL.o rfl OH (OI _ _ _ _) ?_)
 have hr:=HL.o.row #[.int .i64 (s.tb:Int),.int .i64 ((s.tb:Int)+1),.int .i64 (s.np:Int),.int .i64 (s.ino:Int)];obtain⟨z0,z1,z2,z3⟩:=hr.c4;refine bodyPost_ret (v:= .agg #[.int .i64 (s.tb:Int),.int .i64 ((s.tb:Int)+1),.int .i64 (s.np:Int),.int .i64 (s.ino:Int)]) (by simp[results,Tryz.results40,go_sem,z0,z1,z2,z3]) rfl ⟨rfl,?_⟩;exact below_setRow HB.o (Nat.le_refl _) _
theorem qH (h:bT NB B Q w P f s) (hT:oV w T P) {n:Nat} (h1:1<=n) (h2:n<=s.ino) (h3:s.ino<=100000):
  Calls prog 99 #[T,.int .i64 n] w λe w'=>e= .returned (.tuple #[.int .i64 ((1+(n-1)/2:Nat):Int),.int .i64 (((n-1)%2:Nat):Int),.int .i64 0])/\Below w.heap.size w w':=by
 have HP:=ag h;have HT:=ag hT;have c0:=hT.c0;have g1:¬(n:Int)<1:=ae;have g2:¬(s.ino:Int)<(n:Int):=ae;have HPp:=ag (show Ino.dV 64=2 from aB);have q1:=IntWalk.i64_in ((n:Int)-1) ⟨ae,ae⟩;have q2:IntKind.i64.wrap (Int.tdiv ((n:Int)-1) 2)=((n:Int)-1)/2:=by rw[Int.tdiv_eq_ediv_of_nonneg ae];exact IntWalk.i64_in (((n:Int)-1)/2) ⟨ae,ae⟩
 have q3:=IntWalk.i64_in (1+((n:Int)-1)/2) ⟨ae,ae⟩;have q4:Int.tmod ((n:Int)-1) 2=((n:Int)-1)%2:=Int.tmod_eq_emod_of_nonneg ae;have q5:=IntWalk.i64_in (((n:Int)-1)%2) ⟨ae,ae⟩;have qf:=ajb (.int .i64 (s.tb:Int)) (.int .i64 ((s.tb:Int)+1)) (.int .i64 (s.np:Int)) (.int .i64 (s.ino:Int));clear h hT
 go_in
 go_wp2_with fail;refine(oG HP.o).mono ?_;rintro e w1 ⟨rfl,hb⟩;have dw:=ag hb;have uw:=ag (HP.o.on hb);have c1:=(HT.o.on hb).c0;clear hb;go_wp2_with fail;refine(dO uw.o).mono ?_;rintro e w_ ⟨rfl,rfl⟩;go_wp2_with fail;refine(ng 64 w1).mono ?_;rintro e w_ ⟨rfl,rfl⟩;rw[HPp.o];go_wp2_with fail;refine iT (λ_=>True) trivial (λbJ=>?_);refine eF 0 (n:Int) ?_;refine ik 1 ((n:Int)-1) ?_;refine eF 2 2 ?_;refine ik 3 (((n:Int)-1)/2) ?_;refine ik 4 (1+((n:Int)-1)/2) ?_;refine eF 5 (n:Int) ?_;refine ik 6 ((n:Int)-1) ?_;refine eF 7 2 ?_;refine ik 8 (((n:Int)-1)%2) ?_;refine eF 9 (1+((n:Int)-1)/2) ?_;refine eF 10 (((n:Int)-1)%2) ?_;refine eF 11 0 ?_;refine gB ?_;clear bJ;go_wp2_with fail;refine bodyPost_ret (v:= .tuple #[.int .i64 (1+((n:Int)-1)/2),.int .i64 (((n:Int)-1)%2),.int .i64 0]) (by simp[results,Tryz.results99,go_sem]) rfl ?_;rw[show((1+(n-1)/2:Nat):Int)=1+((n:Int)-1)/2 from ae,show(((n-1)%2:Nat):Int)=((n:Int)-1)%2 from ae];exact⟨rfl,dw.o.drew⟩
theorem jC (h:bT NB B Q w P f s) (hT:oV w T P) {n:Nat} (h1:1<=n) (h2:n<=s.ino) (h3:s.ino<=100000) (h4:(n-1)/2<s.tb):
  Calls prog 79 #[T,.int .i64 n] w λe w'=>e= .returned (.tuple #[rq (ind s n),.int .i64 (wB s n)])/\bT NB B Q w' P f s/\Kq Q w w':=by
 have OT:s.There (1+(n-1)/2):= .inl ⟨ae,ae⟩;have hlen:=h.ok.sz _ OT;have hb:=(Below.refl w.heap.size w).alloc (Nat.le_refl _) (.cells #[.int .i64 0,.int .i64 0,.int .i64 0,.int .i64 0,.int .i64 0,.int .i64 0,.int .i64 0,.int .i64 0,.int .i64 0,.int .i64 0,.int .i64 0] 107);have uw:=ag (h.on hb);have Ox:=ag (hT.on hb);have ZC:=ag (aF.new w 107 #[.int .i64 0,.int .i64 0,.int .i64 0,.int .i64 0,.int .i64 0,.int .i64 0,.int .i64 0,.int .i64 0,.int .i64 0,.int .i64 0,.int .i64 0]);have ZW:=ag (h.aV (Nat.le_refl _));have HB:=ag hb;have MK:=ag OT;have oJ:=ag hlen;have HP:=ag h;obtain⟨pg,wQ⟩:=bu (1+(n-1)/2);obtain⟨k,hk⟩:=bu ((n-1)%2);have JQ:=ag (show∀w:World,bT NB B Q w P f s->oV w T P->Calls prog 99 #[T,.int .i64 n] w λe w'=>e= .returned (.tuple #[.int .i64 pg,.int .i64 k,.int .i64 0])/\Below w.heap.size w w' from λw h hT=>by rw[wQ,hk];exact qH h hT h1 h2 h3);have e1:ind s n=aN.qE (s.g pg) (k:Int):=by rw[wQ,hk];rfl
 have e2:wB s n=aN.aG (s.g pg) (k:Int):=by rw[wQ,hk];rfl
 rw[<-wQ] at MK oJ;rw[e1,e2];clear h hT hb OT hlen wQ hk h1 h2 h3 h4 e1 e2
 go_in
 go_wp2_with fail;generalize w.alloc (.cells #[.int .i64 0,.int .i64 0,.int .i64 0,.int .i64 0,.int .i64 0,.int .i64 0,.int .i64 0,.int .i64 0,.int .i64 0,.int .i64 0,.int .i64 0] 107)=W1 at*;refine(JQ.o W1 uw.o Ox.o).mono ?_;rintro e w2 ⟨rfl,aW⟩;have pF:=ag (uw.o.on aW);have dA:=ag (HB.o.ay aW);have c2:=(Ox.o.on aW).c0;have Dy:=ag (ZC.o.ah aW);clear aW uw;go_wp2_with fail;refine(lZ pF.o MK.o).mono ?_;rintro e w3 ⟨⟨v,rfl,ho⟩,oq,jY⟩;obtain⟨a3,c3,rfl,yR⟩:=ho.bZ oJ.o;have mP:=ag oq;have jU:=ag (((Kq.of (T:=Q) dA.o)).trans jY);have zZ:=ag (ho.arr (by rw[oJ.o];decide));have yD:=ag (Dy.o.kq jY ZW.o);have zD:=ag yR;clear ho oq jY yR c2;go_wp2_with fail;refine(Dz a3 64 c3 (s.g pg) (k:Int) w3 zZ.o zD.o).mono ?_;rintro e w4 ⟨rfl,di⟩;obtain⟨r,hr⟩:∃r,r=aN.qE (s.g pg) (k:Int):=⟨_,rfl⟩
 obtain⟨er,ZR⟩:∃er,er=aN.aG (s.g pg) (k:Int):=⟨_,rfl⟩
 rw[<-hr,<-ZR];have mY:=ag (jU.o.on di);have xP:=ag (mP.o.on di);have V6:=ag (yD.o.ah di);have yA:=ag hr;have oQ:=ag ZR;clear hr ZR di jU mP yD
 go_wp2_with (refine aC rfl rfl _ _ _ rfl w.heap.size #[.int .i64 r.k,.int .i64 r.l,.int .i64 r.s,.int .i64 r.d0,.int .i64 r.d1,.int .i64 r.d2,.int .i64 r.d3,.int .i64 r.d4,.int .i64 r.d5,.int .i64 r.a,.int .i64 r.b] rfl rfl 107 #[.int .i64 0,.int .i64 0,.int .i64 0,.int .i64 0,.int .i64 0,.int .i64 0,.int .i64 0,.int .i64 0,.int .i64 0,.int .i64 0,.int .i64 0] V6.o rfl dD (wP r) ?_)
 have q:=V6.o.row #[.int .i64 r.k,.int .i64 r.l,.int .i64 r.s,.int .i64 r.d0,.int .i64 r.d1,.int .i64 r.d2,.int .i64 r.d3,.int .i64 r.d4,.int .i64 r.d5,.int .i64 r.a,.int .i64 r.b];obtain⟨z0,z1,z2,z3,z4,z5,z6,z7,z8,z9,z10⟩:=q.c11;refine bodyPost_ret (v:= .tuple #[.agg #[.int .i64 r.k,.int .i64 r.l,.int .i64 r.s,.int .i64 r.d0,.int .i64 r.d1,.int .i64 r.d2,.int .i64 r.d3,.int .i64 r.d4,.int .i64 r.d5,.int .i64 r.a,.int .i64 r.b],.int .i64 er]) (by simp[results,Tryz.results79,go_sem,z0,z1,z2,z3,z4,z5,z6,z7,z8,z9,z10]) rfl ⟨by rw[yA.o,oQ.o],xP.o.kq (eU w4 w.heap.size #[.int .i64 r.k,.int .i64 r.l,.int .i64 r.s,.int .i64 r.d0,.int .i64 r.d1,.int .i64 r.d2,.int .i64 r.d3,.int .i64 r.d4,.int .i64 r.d5,.int .i64 r.a,.int .i64 r.b]) λq hq e=>ZW.o (e▸hq),mY.o.ay (eU w4 w.heap.size #[.int .i64 r.k,.int .i64 r.l,.int .i64 r.s,.int .i64 r.d0,.int .i64 r.d1,.int .i64 r.d2,.int .i64 r.d3,.int .i64 r.d4,.int .i64 r.d5,.int .i64 r.a,.int .i64 r.b]) λq e=> .inr ae⟩
theorem adb {x:List UInt8} (hx:x.length=64) {k:Nat} (hk:k<2):aN.In x.length (k:Int):=by rw[hx];exact⟨ae,by rw[show Ino.dV ((64:Nat):Int)=2 from aB];omega⟩
theorem lK (h:bT NB B Q w P f s) (hT:oV w T P) (qX:¬Q T) {n:Nat} (h1:1<=n) (h2:n<=s.ino) (h3:s.ino<=100000) (h4:(n-1)/2<s.tb) (i:aN) (hr:aN.Right i):
  Calls prog 81 #[T,.int .i64 n,rq i] w λe w'=>e= .returned (.int .i64 0)/\jJ NB B Q w w' P f (dX s n i):=by
 have OT:s.There (1+(n-1)/2):= .inl ⟨ae,ae⟩;have hlen:=h.ok.sz _ OT;have hb:=(Below.refl w.heap.size w).alloc (Nat.le_refl _) (.cells #[.int .i64 i.k,.int .i64 i.l,.int .i64 i.s,.int .i64 i.d0,.int .i64 i.d1,.int .i64 i.d2,.int .i64 i.d3,.int .i64 i.d4,.int .i64 i.d5,.int .i64 i.a,.int .i64 i.b] 107);have uw:=ag (h.on hb);have Ox:=ag (hT.on hb);have ZC:=ag (aF.new w 107 #[.int .i64 i.k,.int .i64 i.l,.int .i64 i.s,.int .i64 i.d0,.int .i64 i.d1,.int .i64 i.d2,.int .i64 i.d3,.int .i64 i.d4,.int .i64 i.d5,.int .i64 i.a,.int .i64 i.b]);have ZW:=ag (h.aV (Nat.le_refl _));have Fh:=ag qX;have QT:=ag h.base;have HB:=ag hb;have MK:=ag OT;have oJ:=ag hlen;have UY:=ag (adb hlen (k:=(n-1)%2) ae);have HR:=ag hr;obtain⟨pg,wQ⟩:=bu (1+(n-1)/2);obtain⟨k,hk⟩:=bu ((n-1)%2);have JQ:=ag (show∀w:World,bT NB B Q w P f s->oV w T P->Calls prog 99 #[T,.int .i64 n] w λe w'=>e= .returned (.tuple #[.int .i64 pg,.int .i64 k,.int .i64 0])/\Below w.heap.size w w' from λw h hT=>by rw[wQ,hk];exact qH h hT h1 h2 h3);have e1:dX s n i=s.put pg (aN.putAt (s.g pg) k i):=by rw[wQ,hk];rfl
 rw[<-wQ] at MK oJ;rw[<-wQ,<-hk] at UY;rw[e1];clear h hT hb OT hlen wQ hk h1 h2 h3 h4 e1 qX hr
 go_in
 go_wp2_with fail;generalize w.alloc (.cells #[.int .i64 i.k,.int .i64 i.l,.int .i64 i.s,.int .i64 i.d0,.int .i64 i.d1,.int .i64 i.d2,.int .i64 i.d3,.int .i64 i.d4,.int .i64 i.d5,.int .i64 i.a,.int .i64 i.b] 107)=W1 at*;refine(JQ.o W1 uw.o Ox.o).mono ?_;rintro e w2 ⟨rfl,aW⟩;have pF:=ag (uw.o.on aW);have JK:=ag (Ox.o.on aW);have dA:=ag (HB.o.ay aW);have c2:=JK.o.c0;have Dy:=ag (ZC.o.ah aW);clear aW uw;go_wp2_with fail;refine(lZ pF.o MK.o).mono ?_;rintro e w3 ⟨⟨v,rfl,ho⟩,oq,jY⟩;obtain⟨a3,c3,rfl,yR⟩:=ho.bZ oJ.o;have mP:=ag oq;have jU:=ag (((Kq.of (T:=Q) dA.o)).trans jY);have zZ:=ag (ho.arr (by rw[oJ.o];decide));have yD:=ag (Dy.o.kq jY ZW.o);have OU:=ag (JK.o.kq jY Fh.o);clear ho oq jY yR c2;obtain⟨y0,y1,y2,y3,y4,y5,y6,y7,y8,y9,zu⟩:=yD.o.c11;go_wp2_with fail;refine(Wq a3 64 c3 (s.g pg) (k:Int) i w3 zZ.o).mono ?_;rintro e w4 ⟨v,rfl,ho,di⟩;have e3:aN.fO (s.g pg) (k:Int) i=0:=by unfold aN.fO;rw[if_pos UY.o,if_pos HR.o]
 have e4:aN.ZX (s.g pg) (k:Int) i=aN.putAt (s.g pg) k i:=by unfold aN.ZX;rw[if_pos ⟨UY.o,HR.o⟩,Int.toNat_natCast]
 rw[e4] at ho;rw[e3];have e5:(aN.putAt (s.g pg) k i).length=64:=by rw[aN.yc (by rw[oJ.o];have:=aN.uh UY.o;rw[oJ.o] at this;omega),oJ.o]
 obtain⟨a4,c4,rfl,_⟩:=ho.bZ e5;have HX4:=ag (ho.arr (by rw[e5];decide));have xP:=ag (mP.o.on di);have mY:=ag (jU.o.on di);have c4':=(OU.o.on di).c0;clear ho di e3 e4 e5 y0 y1 y2 y3 y4 y5 y6 y7 y8 y9 zu;go_wp2_with fail;refine(uK xP.o MK.o a4 c4 _ HX4.o).mono ?_;rintro e w5 ⟨rfl,Ef⟩;have Si:=ag (jJ.behind mY.o Ef QT.o);clear Ef c4';go_wp2;go_ret;exact⟨rfl,Si.o⟩
end
section
open Go.RowKit eu
variable {NB B P T:Nat} {Q:Nat->Prop} {w w':World} {f:Fm} {s:Ps}

def aX (fi:Nf):aN:=⟨fi.k,fi.l,fi.s,nd fi 0,nd fi 1,nd fi 2,nd fi 3,nd fi 4,nd fi 5,(fi.io.s:Int),(fi.io.b:Int)⟩
structure Tdr (NB B:Nat) (Q:Nat->Prop) (W3:World) (P:Nat) (f:Fm) (s:Ps) (v:Value) (X:List UInt8) (W:World):Prop where
 p:bT NB B Q W P f s
 k:Kq Q W3 W
 o:Own aH 5 W W3.heap.size v X
 q:∀q,Q q->q<W3.heap.size
theorem Tdr.on {W3 W W':World} {v:Value} {X:List UInt8} (h:Tdr NB B Q W3 P f s v X W) (hb:Below W.heap.size W W'):Tdr NB B Q W3 P f s v X W':=
 ⟨h.p.on hb,h.k.on hb,h.o.on hb,h.q⟩
theorem Tdr.ask {W3 W W':World} {v:Value} {X:List UInt8} (h:Tdr NB B Q W3 P f s v X W) (hp:bT NB B Q W' P f s) (hk:Kq Q W W'):Tdr NB B Q W3 P f s v X W':=
 ⟨hp,h.k.trans hk,h.o.kq hk λq hq hQ=>by have:=(h.o.aP q hq).1;have:=h.q q hQ;omega,h.q⟩
theorem Tdr.app {W3 W W':World} {v v':Value} {X X':List UInt8} (h:Tdr NB B Q W3 P f s v X W) (ho:Own aH 5 W' W3.heap.size v' X') (hb:Below W3.heap.size W W'):Tdr NB B Q W3 P f s v' X' W':=by refine⟨h.p.kq (T:=λk=>W3.heap.size<=k) (OV hb) λq hq h3=>by have:=h.q q hq;omega,⟨hb.os.trans h.k.os,hb.tape.trans h.k.tape,hb.output.trans h.k.output,Nat.le_trans h.k.size hb.size,λk hk hn=>(hb.block k hk).trans (h.k.block k hk hn)⟩,ho,h.q⟩
theorem fG {W:World} {I:Nat} {fi:Nf} (h:aF W I 107 (dG fi)):W.cell? ⟨I,0,none⟩=some (.int .i64 fi.k)/\W.cell? ⟨I,1,none⟩=some (.int .i64 fi.l)/\W.cell? ⟨I,2,none⟩=some (.int .i64 fi.s)/\W.cell? ⟨I,3,none⟩=some (.int .i64 (nd fi 0))/\W.cell? ⟨I,4,none⟩=some (.int .i64 (nd fi 1))/\W.cell? ⟨I,5,none⟩=some (.int .i64 (nd fi 2))/\W.cell? ⟨I,6,none⟩=some (.int .i64 (nd fi 3))/\W.cell? ⟨I,7,none⟩=some (.int .i64 (nd fi 4))/\W.cell? ⟨I,8,none⟩=some (.int .i64 (nd fi 5))/\W.cell? ⟨I,9,none⟩=some (.int .i64 (fi.io.s:Int))/\W.cell? ⟨I,10,none⟩=some (.int .i64 (fi.io.b:Int)):=
 ⟨h.aj (i:=0) rfl,h.aj (i:=1) rfl,h.aj (i:=2) rfl,h.aj (i:=3) rfl,h.aj (i:=4) rfl,h.aj (i:=5) rfl,h.aj (i:=6) rfl,h.aj (i:=7) rfl,h.aj (i:=8) rfl,h.aj (i:=9) rfl,h.aj (i:=10) rfl⟩
theorem OW {fi:Nf} {n z:Nat} {X:List UInt8} (h:bT NB B Q w P f s) (hT:oV w T P) (qX:¬Q T) (h1:1<=n) (h2:n<=s.ino) (h3:s.ino<=100000) (h4:(n-1)/2<s.tb)
  (hi:ind s n=aX fi) (he:wB s n=0) (fA:fi.k=2) (hz:fi.s=(z:Int)) (yU:z<=384) (hw:aN.Wf s fi.io) (hX:X.length=z) (xZ:∀off,off<z->aN.rdS 20 s fi.io off (off+min 1024 (z-off))=(X.drop off).take (min 1024 (z-off))):
  Calls prog 98 #[T,.int .i64 n] w λe w'=>(∃v,e= .returned (.tuple #[zG fi,v,.int .i64 0])/\Own aH 5 w' w.heap.size v X)/\bT NB B Q w' P f s/\Kq Q w w':=by
 have hb:=(Below.refl w.heap.size w).alloc (Nat.le_refl _) (.cells #[.int .i64 0,.int .i64 0,.int .i64 0,.int .i64 0,.int .i64 0,.int .i64 0,.int .i64 0,.int .i64 0,.int .i64 0,.int .i64 0,.int .i64 0] 107);have uw:=ag (h.on hb);have Ox:=ag (hT.on hb);have ZC:=ag (aF.new w 107 #[.int .i64 0,.int .i64 0,.int .i64 0,.int .i64 0,.int .i64 0,.int .i64 0,.int .i64 0,.int .i64 0,.int .i64 0,.int .i64 0,.int .i64 0]);have ZW:=ag (h.aV (Nat.le_refl _));have HQb:=ag h.bnd;have Fh:=ag qX;have HB:=ag hb;have HI:=ag (show∀W:World,bT NB B Q W P f s->oV W T P->Calls prog 79 #[T,.int .i64 n] W λe w'=>e= .returned (.tuple #[.agg (dG fi),.int .i64 0])/\bT NB B Q w' P f s/\Kq Q W w' from λW hW hT=>by have h:=jC hW hT h1 h2 h3 h4;rw[hi,he] at h;exact h);have yN:=ag (show∀W:World,∀off:Nat,bT NB B Q W P f s->off<z->Calls prog 87 #[P,.agg (dG fi),.int .i64 off,.int .i64 1024] W (Ws NB B Q P f s ((X.drop off).take (min 1024 (z-off))) W) from λW off hW ho=>by have h:=KG (n:=1024) (off:=off) hW hw ae hz yU ae;rw[xZ off ho] at h;exact h);have HX:=ag hX;have HZ:=ag hz;have rD:=ag fA;clear h hT qX hb hi he xZ hX hz fA hw h1 h2 h3 h4
 go_in
 go_wp2_with fail;generalize w.alloc (.cells #[.int .i64 0,.int .i64 0,.int .i64 0,.int .i64 0,.int .i64 0,.int .i64 0,.int .i64 0,.int .i64 0,.int .i64 0,.int .i64 0,.int .i64 0] 107)=W1 at*;refine(HI.o W1 uw.o Ox.o).mono ?_;rintro e W2 ⟨rfl,iU,fA⟩;have pF:=ag iU;have JK:=ag (Ox.o.kq fA Fh.o);have Dy:=ag (ZC.o.kq fA ZW.o);have HKw:=ag ((Kq.of (T:=Q) HB.o).trans fA);have Qu:=ag (show w.heap.size<W2.heap.size from Dy.o.lt);clear iU fA;have xQ:=ag (aF.new W2 107 #[.int .i64 0,.int .i64 0,.int .i64 0,.int .i64 0,.int .i64 0,.int .i64 0,.int .i64 0,.int .i64 0,.int .i64 0,.int .i64 0,.int .i64 0]);obtain⟨W3,JI⟩:=bu ((W2.alloc (.cells #[.int .i64 0,.int .i64 0,.int .i64 0,.int .i64 0,.int .i64 0,.int .i64 0,.int .i64 0,.int .i64 0,.int .i64 0,.int .i64 0,.int .i64 0] 107)).setRow W2.heap.size (dG fi));have bQ:Below W2.heap.size W2 W3:=by rw[JI];exact((Below.refl _ W2).alloc (Nat.le_refl _) _).cO (Nat.le_refl _) _
 have hi3:aF W3 W2.heap.size 107 (dG fi):=by rw[JI];exact xQ.o.row _
 have HW3:=ag JI;have mP:=ag (pF.o.on bQ);have OU:=ag (JK.o.on bQ);have yD:=ag (Dy.o.ah bQ);have jU:=ag (HKw.o.on bQ);have yL:=ag hi3;have dE:=ag bQ;have y0:=hi3.aj (i:=0) (v:= .int .i64 fi.k) rfl;have y2:=hi3.aj (i:=2) (v:= .int .i64 fi.s) rfl;rw[rD.o] at y0;rw[HZ.o] at y2;obtain⟨I7,ZF⟩:=bu W2.heap.size;clear JI bQ hi3
 go_wp2_with (refine aC rfl rfl _ _ _ rfl W2.heap.size (dG fi) rfl rfl 107 #[.int .i64 0,.int .i64 0,.int .i64 0,.int .i64 0,.int .i64 0,.int .i64 0,.int .i64 0,.int .i64 0,.int .i64 0,.int .i64 0,.int .i64 0] xQ.o rfl dD (qm fi) ?_;rw[<-HW3.o])
 rw[<-ZF];have V7:=ag ZF;have HTd:=ag (show Tdr NB B Q W3 P f s (.slice none 0 0) (X.take 0) W3 from⟨mP.o,Kq.refl _ _,Own.nil _ _,λq hq=>(mP.o.bnd q hq).2⟩);have HTf:=ag (show∀W,Kq Q W3 W->oV W T P from λW hW=>OU.o.kq hW Fh.o);have HIf:=ag (show∀W,Kq Q W3 W->aF W I7 107 (dG fi) from λW hW=>by rw[ZF];exact yL.o.kq hW (pF.o.aV (Nat.le_refl _)));have HLf:=ag (show∀W,Kq Q W3 W->aF W w.heap.size 107 #[.int .i64 0,.int .i64 0,.int .i64 0,.int .i64 0,.int .i64 0,.int .i64 0,.int .i64 0,.int .i64 0,.int .i64 0,.int .i64 0,.int .i64 0] from λW hW=>yD.o.kq hW ZW.o);have avK:=ag (show w.heap.size<=W3.heap.size from jU.o.size);clear y0 y2 ZF
 go_loopw [9,10,11,12] (λv9 v10 _ _ wr=>∃off:Nat,v10= .int .i64 off/\off<=z/\Hid (Tdr NB B Q W3 P f s v9 (X.take off) wr)) (λ_ v10 _ _ _=>z-(intOf v10).toNat)
 case atStart=>exact⟨0,rfl,Nat.zero_le _,HTd⟩
 case round=>
  obtain⟨off,rfl,ag4,HD⟩:=hrel;clear HTd;have y2:=(HIf.o wr HD.o.k).aj (i:=2) (v:= .int .i64 fi.s) rfl;rw[HZ.o] at y2;have Oi:=HX.o;have HTl:=ag (show(X.take off).length=off from by rw[List.length_take];omega);clear Oi;by_cases aU:off<z
  ·have g1:(off:Int)<(z:Int):=ae;go_upto_region 10 with fail;obtain⟨a9,c9,hv9,_⟩:=HD.o.o.bZ HTl.o;subst hv9;have HDd:=ag (HD.o.on (ak wr));refine iT (λW'=>W'.cell? ⟨T,0,none⟩=some (.pointer (some ⟨P,0,none⟩))/\aF W' I7 107 (dG fi)) ⟨(HTf.o _ HDd.o.k).c0,HIf.o _ HDd.o.k⟩ (λbJ=>?_);generalize wr.drew=W4 at*;refine dP 0 T 0 ?_;refine aS 1 T 0 ?_;refine aS 2 T 0 ?_;refine tC 3 (.pointer (some ⟨P,0,none⟩)) (λ_ aI=>aI.1) ?_;refine jy 4 (.agg (dG fi)) rfl (λ_ aI=>by obtain⟨y0,y1,y2,y3,y4,y5,y6,y7,y8,y9,zu⟩:=fG aI.2;unfold dG;go_simp) ?_;refine eF 5 (off:Int) ?_;refine dm 6 (λK' hK=>?_);go_simp;refine(yN.o W4 off HDd.o.p aU).mono ?_;rintro e W5 ⟨⟨v,rfl,ho⟩,Ef,zY⟩;obtain⟨m,hm⟩:=bu (min 1024 (z-off));rw[<-hm] at ho;have QP:((X.drop off).take m).length=m:=by rw[List.length_take,List.length_drop,HX.o];omega
   obtain⟨a5,c5,rfl,_⟩:=ho.bZ QP;have GZ:=ag (ho.arr (by rw[QP];omega));have Yp:=ag (HDd.o.ask Ef zY);have HM:=ag (show 0<m/\off+m<=z from ae);have agf:=ag (show X.take off++(X.drop off).take m=X.take (off+m) from by rw[List.take_add]);clear ho Ef zY hm QP;refine hK.out _ _ (⟨(HTf.o _ Yp.o.k).c0,HIf.o _ Yp.o.k⟩) (λwK=>?_)
   try simp only[aO]
   refine fB 7 (.tuple #[.slice a5 m c5,.int .i64 0]) ?_;refine fB 8 (.slice a5 m c5) ?_;refine eF 9 0 ?_;refine fB 10 (.slice a5 m c5) ?_;refine eF 11 0 ?_;refine gB ?_;clear bJ wK;have XZ:=HM.o;obtain⟨ZY,J4⟩:=bu (off+m);have yS:=ag (show ZY<=z/\off<ZY from ae);have apQ:=ag (agf.o.trans (by rw[J4]):X.take off++(X.drop off).take m=X.take ZY);have Dy:=ag (show(X.take ZY).length=ZY from by rw[List.length_take,HX.o];omega);have zY:=Yp.o.k.size;clear J4 XZ
   go_wp2_with (at_builtin;refine lU rfl _ _ rfl W3.heap.size _ (X.take off) rfl Yp.o.o _ a5 m c5 _ rfl GZ.o (by have:=HM.o;rw[HTl.o];omega) zY ?_;intro v6 W6 Eg vP;have QN:=Eg.o;rw[apQ.o] at QN;obtain⟨a6,c6,hv6,_⟩:=QN.bZ Dy.o;subst hv6;have HD6:=ag (Yp.o.app QN vP.o);clear QN)
   go_roundw
   case rel=>exact⟨ZY,rfl,yS.o.1,HD6⟩
   case measure=>have:=yS.o;simp[intOf];omega
  ·have g1:¬(off:Int)<(z:Int):=ae;obtain rfl:off=z:=ae;have HO:=ag HD.o.o;have HXt:=ag (show X.take off=X from List.take_of_length_le (by rw[HX.o];omega));have y:=HIf.o wr HD.o.k;obtain⟨y0,y1,y2',y3,y4,y5,y6,y7,y8,y9,zu⟩:=fG y;rw[HZ.o] at y2';have HLr:=ag (HLf.o wr HD.o.k);clear y2
   go_wp2_with (refine aC rfl rfl _ _ _ rfl w.heap.size #[.int .i64 fi.k,.int .i64 fi.l,.int .i64 off,.int .i64 (nd fi 0),.int .i64 (nd fi 1),.int .i64 (nd fi 2),.int .i64 (nd fi 3),.int .i64 (nd fi 4),.int .i64 (nd fi 5),.int .i64 (fi.io.s:Int),.int .i64 (fi.io.b:Int)] rfl rfl 107 #[.int .i64 0,.int .i64 0,.int .i64 0,.int .i64 0,.int .i64 0,.int .i64 0,.int .i64 0,.int .i64 0,.int .i64 0,.int .i64 0,.int .i64 0] HLr.o rfl dD (wP ⟨fi.k,fi.l,(off:Int),nd fi 0,nd fi 1,nd fi 2,nd fi 3,nd fi 4,nd fi 5,(fi.io.s:Int),(fi.io.b:Int)⟩) ?_)
   have q:=HLr.o.row #[.int .i64 fi.k,.int .i64 fi.l,.int .i64 off,.int .i64 (nd fi 0),.int .i64 (nd fi 1),.int .i64 (nd fi 2),.int .i64 (nd fi 3),.int .i64 (nd fi 4),.int .i64 (nd fi 5),.int .i64 (fi.io.s:Int),.int .i64 (fi.io.b:Int)];obtain⟨z0,z1,z2,z3,z4,z5,z6,z7,z8,z9,z10⟩:=q.c11;have yF:=eU wr w.heap.size #[.int .i64 fi.k,.int .i64 fi.l,.int .i64 off,.int .i64 (nd fi 0),.int .i64 (nd fi 1),.int .i64 (nd fi 2),.int .i64 (nd fi 3),.int .i64 (nd fi 4),.int .i64 (nd fi 5),.int .i64 (fi.io.s:Int),.int .i64 (fi.io.b:Int)];refine bodyPost_ret (v:= .tuple #[.agg #[.int .i64 fi.k,.int .i64 fi.l,.int .i64 off,.int .i64 (nd fi 0),.int .i64 (nd fi 1),.int .i64 (nd fi 2),.int .i64 (nd fi 3),.int .i64 (nd fi 4),.int .i64 (nd fi 5),.int .i64 (fi.io.s:Int),.int .i64 (fi.io.b:Int)],u9,.int .i64 0]) (by simp[results,Tryz.results98,go_sem,z0,z1,z2,z3,z4,z5,z6,z7,z8,z9,z10]) rfl ⟨⟨u9,by unfold zG dG;rw[HZ.o],?_⟩,HD.o.p.kq yF λq hq e=>ZW.o (e▸hq),(jU.o.trans HD.o.k).ay yF λq e=> .inr ae⟩;have ho:=HO.o;rw[HXt.o] at ho;exact(ho.kq yF λq hq e=>by have:=(ho.aP q hq).1;have:=dE.o.size;have:=Qu.o;omega).mono avK.o
end
section
open Go.RowKit eu
variable {NB B P T:Nat} {Q:Nat->Prop} {w w':World} {f:Fm} {s:Ps} {fi:Nf} {n:Nat} {X:List UInt8}

structure jh (s:Ps) (n:Nat) (fi:Nf) (X:List UInt8):Prop where
 lo:1<=n
 hi:n<=s.ino
 big:s.ino<=100000
 pg:(n-1)/2<s.tb
 nd:ind s n=aX fi
 er:wB s n=0
 k2:fi.k=2
 z:fi.s=(X.length:Int)
 z2:X.length<=384
 wf:aN.Wf s fi.io
 rd:∀off,off<X.length->aN.rdS 20 s fi.io off (off+min 1024 (X.length-off))=(X.drop off).take (min 1024 (X.length-off))
theorem sN (h:bT NB B Q w P f s) (hT:oV w T P) (qX:¬Q T) (d:jh s n fi X):
  Calls prog 98 #[T,.int .i64 n] w λe w'=>(∃v,e= .returned (.tuple #[zG fi,v,.int .i64 0])/\Own aH 5 w' w.heap.size v X)/\bT NB B Q w' P f s/\Kq Q w w':=
 OW h hT qX d.lo d.hi d.big d.pg d.nd d.er d.k2 d.z d.z2 d.wf rfl d.rd
theorem qx (h:bT NB B Q w P f s) (hT:oV w T P) (qX:¬Q T) (d:jh s n fi X):
  Calls prog 92 #[T,.int .i64 n] w λe w'=>(∃v,e= .returned (.tuple #[v,.int .i64 0])/\Own aH 5 w' w.heap.size v X)/\bT NB B Q w' P f s/\Kq Q w w':=by
 have HD:=ag (sN h hT qX d);unfold zG dG at HD;clear h hT qX d
 go_in
 go_wp2_with fail;refine HD.o.mono ?_;rintro e W2 ⟨⟨v,rfl,ho⟩,hp,hk⟩;have HO:=ag ho;have HP:=ag hp;have HK:=ag hk;clear ho hp hk HD;have xQ:=ag (aF.new W2 107 #[.int .i64 0,.int .i64 0,.int .i64 0,.int .i64 0,.int .i64 0,.int .i64 0,.int .i64 0,.int .i64 0,.int .i64 0,.int .i64 0,.int .i64 0]);have bQ:Below W2.heap.size W2 ((W2.alloc (.cells #[.int .i64 0,.int .i64 0,.int .i64 0,.int .i64 0,.int .i64 0,.int .i64 0,.int .i64 0,.int .i64 0,.int .i64 0,.int .i64 0,.int .i64 0] 107)).setRow W2.heap.size #[.int .i64 fi.k,.int .i64 fi.l,.int .i64 fi.s,.int .i64 (nd fi 0),.int .i64 (nd fi 1),.int .i64 (nd fi 2),.int .i64 (nd fi 3),.int .i64 (nd fi 4),.int .i64 (nd fi 5),.int .i64 (fi.io.s:Int),.int .i64 (fi.io.b:Int)]):=((Below.refl _ W2).alloc (Nat.le_refl _) _).cO (Nat.le_refl _) _;have dE:=ag bQ;clear bQ
 go_wp2_with (refine aC rfl rfl _ _ _ rfl W2.heap.size #[.int .i64 fi.k,.int .i64 fi.l,.int .i64 fi.s,.int .i64 (nd fi 0),.int .i64 (nd fi 1),.int .i64 (nd fi 2),.int .i64 (nd fi 3),.int .i64 (nd fi 4),.int .i64 (nd fi 5),.int .i64 (fi.io.s:Int),.int .i64 (fi.io.b:Int)] rfl rfl 107 #[.int .i64 0,.int .i64 0,.int .i64 0,.int .i64 0,.int .i64 0,.int .i64 0,.int .i64 0,.int .i64 0,.int .i64 0,.int .i64 0,.int .i64 0] xQ.o rfl dD (qm fi) ?_)
 go_ret2;exact⟨⟨v,rfl,HO.o.on dE.o⟩,HP.o.on dE.o,HK.o.on dE.o⟩
theorem yM (h:bT NB B Q w P f s) (hT:oV w T P) (qX:¬Q T) (d:jh s n fi X) (nm:List UInt8) (hf:0<=(Dir.bY X nm).1):
  Calls prog 45 #[T,.int .i64 n,.string (aJ nm)] w λe w'=>e= .returned (.tuple #[.int .i64 (Dir.bY X nm).2,.int .i64 0])/\bT NB B Q w' P f s/\Kq Q w w':=by
 have HD:=ag (qx h hT qX d);have HZ:=ag d.z2;have g1:¬(Dir.bY X nm).1<0:=ae;clear h hT qX d hf
 go_in
 go_wp2_with fail;refine HD.o.mono ?_;rintro e W2 ⟨⟨v,rfl,ho⟩,hp,hk⟩;obtain⟨a,c,rfl,hc⟩:=ho.bZ rfl;have HX:=ag (ho.arr (by have:=HZ.o;omega));have HC:=ag hc;have HP:=ag hp;have HK:=ag hk;clear ho hp hk HD hc;go_wp2_with fail;refine(qy a _ c X nm W2 HX.o HC.o).mono ?_;rintro e W3 ⟨rfl,hb⟩;have HB:=ag hb;clear hb;obtain⟨r,hr⟩:=bu (Dir.bY X nm);rw[<-hr] at g1⊢;have HR:=ag hr;clear hr;go_wp2;go_ret2;exact⟨by rw[<-HR.o];rfl,HP.o.on HB.o,HK.o.on HB.o⟩
end
section
open eu zJ

namespace jZ
def vS (p:Nat):Io:=⟨[p,0,0,0,0,0],0,0⟩
def dN (l z p:Nat):Nf:=⟨2,l,z,vS p⟩
def pad (X:List UInt8):List UInt8:=X++List.replicate (64-X.length) 0
theorem Yq {X:List UInt8} (h:X.length<=64):(pad X).length=64:=by unfold pad;rw[List.length_append,List.length_replicate];omega
variable {s:Ps} {p n k:Nat}
theorem at0 (g:Nat->List UInt8) (p:Nat):aN.CS g (vS p) 0=p:=rfl
theorem wf1 (h:aN.Gd s p):aN.Wf s (vS p):=by
 refine⟨rfl,λn hn=>?_,rfl,rfl⟩;obtain rfl|rfl|rfl|rfl|rfl|rfl:n=0\/n=1\/n=2\/n=3\/n=4\/n=5:=ae
 ·exact h
 all_goals exact .inl rfl
theorem vZ {l z p:Nat} (hl:l<=1000) (hz:z<=64) (hp:p<8192):aN.Right (aX (dN l z p)):=by rw[aN.uJ (i:=aX (dN l z p)) (by show(2:Int)≠0;omega),show aX (dN l z p)=⟨2,l,z,p,0,0,0,0,0,0,0⟩ from rfl];unfold aN.Used aN.OL aN.Pg;simp only;refine⟨.inr trivial,?_⟩;omega
theorem yl1 (g:Nat->List UInt8) (p:Nat):aN.yl g (vS p)=if p=0 then[] else[(0,p,0)]:=by
 unfold aN.yl vS;by_cases h:p=0
 ·subst h;simp[List.range_succ,aN.ptrs]
 ·simp[List.range_succ,aN.ptrs,h]
theorem ach (g:Nat->List UInt8) (p:Nat):fJ (aN.yl g (vS p))=if p=0 then[] else[0]:=by
 rw[yl1];by_cases h:p=0
 ·rw[if_pos h,if_pos h];rfl
 ·rw[if_neg h,if_neg h];rfl
theorem ads:Room.zi 64 [] 0 1=(1,0):=lH
theorem adt:Room.zi 64 [0] 0 1=(0,0):=by
 have e:Room.row (Room.all [0] 0 1)=[0]:=Room.Wu (List.pairwise_singleton _ _) λx=>by rw[show Room.all [0] 0 1=[0,0] from rfl];simp
 unfold Room.zi;rw[e,show Room.file 64 [0]=(1,0) by decide+kernel];rfl
theorem rd1 {X:List UInt8} (hX:X.length<=64) (hp:X≠[]->p≠0/\s.g p=pad X) {off:Nat} (ho:off<X.length):aN.rdS 20 s (vS p) off (off+min 1024 (X.length-off))=(X.drop off).take (min 1024 (X.length-off)):=by
 obtain⟨hp0,hg⟩:=hp (by intro e;rw[e] at ho;cases ho);have e1:off+min 1024 (X.length-off)=X.length:=ae;have e2:(X.drop off).take (min 1024 (X.length-off))=X.drop off:=List.take_of_length_le (by rw[List.length_drop];omega);have h64:off/64=0:=ae;have hm:off%64=off:=ae;have hH:aN.Wv off X.length=X.length:=by unfold aN.Wv;omega
 rw[e1,e2];show(if off<X.length then aN.rdB s (vS p) off X.length++aN.rdS 19 s (vS p) (off+(aN.Wv off X.length-off%64)) X.length else[])=_;rw[if_pos ho,hH,hm,show off+(X.length-off)=X.length by omega];have e3:aN.rdS 19 s (vS p) X.length X.length=[]:=if_neg ae;rw[e3,List.append_nil];unfold aN.rdB aN.ZZ;rw[h64,hH,hm,at0,if_neg hp0,hg];unfold pad;rw[List.take_left'];rfl
end jZ
structure Yt (s:Ps) (fi:Nf) (k:Nat) (sl:List UInt8) (s':Ps) (Bc:Nf):Prop where
 hs:s'=(aN.Qv 1 s fi.io (16*k) sl).1
 hf:Bc=bz fi (max fi.s ((16*k+16:Nat):Int)) (aN.Qv 1 s fi.io (16*k) sl).2
 more:∃mo:Int,Room.zi 64 (fJ (aN.yl s.g fi.io)) ((16*k/64:Nat):Int) (((16*k+16+63)/64:Nat):Int)=(mo,0)/\mo<=(s.np:Int)-(s.us.length:Int)
 ok:aN.adu 1 s fi.io (16*k) sl
 tb:s'.tb=s.tb
 ino:s'.ino=s.ino
 right:aN.Right (aX Bc)
namespace jZ
variable {s:Ps} {p n k l z:Nat} {sl:List UInt8}
theorem adv {x:List UInt8} (hs:sl.length=16) (hk:k<4):aN.wrX x (16*k) sl=x.take (16*k)++sl++x.drop (16*k+16):=by
 have h1:aN.KH (16*k) sl=16:=by unfold aN.KH;omega
 unfold aN.wrX;rw[h1,show 16*k%64=16*k by omega,List.take_of_length_le (l:=sl) ae]
theorem adw {io:Io} {off:Nat} {b:List UInt8} (hb:b≠[]):aN.Qv 1 s io off b=aN.Z4 s io off b:=by show(if b=[] then(s,io) else aN.Qv 0 (aN.Z4 s io off b).1 (aN.Z4 s io off b).2 _ _)=_;rw[if_neg hb];rfl
theorem QJ (hp:p∈s.us) (hs:sl.length=16) (hk:k<4) (hz:z<=64) (hl:l<=1000) (ho:s.Ok) (hb:s.tb+s.np<8192) (hu:s.us.length<=s.np) (hp0:p≠0):
  Yt s (dN l z p) k sl (s.put p ((s.g p).take (16*k)++sl++(s.g p).drop (16*k+16))) (dN l (max z (16*k+16)) p):=by
 have pU:sl≠[]:=by intro e;rw[e] at hs;cases hs
 have h64:16*k/64=0:=ae;have hg:=ho.sz p (.inr hp);have oh:=ho.us p hp;have he:aN.Qw s (vS p) 0=(s,vS p,p):=if_neg (by rw[at0];exact hp0);have hw:aN.Qv 1 s (vS p) (16*k) sl=(s.put p ((s.g p).take (16*k)++sl++(s.g p).drop (16*k+16)),vS p):=by rw[adw pU];unfold aN.Z4;rw[h64,he,adv hs hk]
 refine⟨by show _=(aN.Qv 1 s (vS p) (16*k) sl).1;rw[hw],?_,⟨0,?_,ae⟩,.inr ⟨⟨wf1 (.inr hp),ae,λh=>?_,?_,?_⟩,?_⟩,rfl,rfl,vZ hl ae ae⟩
 ·show _=bz (dN l z p) _ (aN.Qv 1 s (vS p) (16*k) sl).2;rw[hw];unfold bz dN;simp only[Nf.mk.injEq,true_and,and_true];omega
 ·show Room.zi 64 (fJ (aN.yl s.g (vS p))) _ _=_;rw[ach,if_neg hp0,h64,show(16*k+16+63)/64=1 by omega];exact adt
 ·rw[show(dN l z p).io=vS p from rfl,h64,at0] at h;exact absurd h hp0
 ·show(aN.Qw s (vS p) (16*k/64)).1.There (aN.Qw s (vS p) (16*k/64)).2.2;rw[h64,he];exact .inr hp
 ·show(aN.Qw s (vS p) (16*k/64)).2.1.d.length=6;rw[h64,he];rfl
 ·show sl.drop (aN.KH (16*k) sl)=[];exact List.drop_eq_nil_of_le (by unfold aN.KH;omega)
theorem acD (hn:s.Nx p) (hs:sl.length=16) (hl:l<=1000) (ho:s.Ok) (hb:s.tb+s.np<8192) (hu:s.us.length<s.np):
  Yt s (dN l 0 0) 0 sl ((s.add p).put p (sl++List.replicate 48 0)) (dN l 16 p):=by
 have pU:sl≠[]:=by intro e;rw[e] at hs;cases hs
 have hlo:=hn.lo;have hhi:=hn.hi;have hnx:=Ps.ajh hn;have zX:=ho.add hn;have e0:(s.add p).g p=eu.zeros:=gW _ _ _;have he:aN.Qw s (vS 0) 0=(s.add p,vS p,p):=by have e1:aN.Qw s (vS 0) 0=((aN.FC (s.add s.nx) (vS 0) 0 s.nx).1,(aN.FC (s.add s.nx) (vS 0) 0 s.nx).2,s.nx):=if_pos rfl;rw[e1,hnx];rfl
 have hx:aN.wrX eu.zeros (16*0) sl=sl++List.replicate 48 0:=by rw[adv hs ae];rfl
 have hw:aN.Qv 1 s (vS 0) (16*0) sl=((s.add p).put p (sl++List.replicate 48 0),vS p):=by rw[adw pU];unfold aN.Z4;rw[show 16*0/64=0 from rfl,he,e0,hx]
 have OT:(s.add p).There p:= .inr (List.mem_append_right _ (List.mem_singleton.2 rfl));refine⟨by show _=(aN.Qv 1 s (vS 0) (16*0) sl).1;rw[hw],?_,⟨1,?_,ae⟩,.inr ⟨⟨wf1 (.inl rfl),ae,λ_=>⟨hu,?_⟩,?_,?_⟩,?_⟩,rfl,rfl,vZ hl ae ae⟩
 ·show _=bz (dN l 0 0) _ (aN.Qv 1 s (vS 0) (16*0) sl).2;rw[hw];rfl
 ·show Room.zi 64 (fJ (aN.yl s.g (vS 0))) _ _=_;rw[ach,if_pos rfl];exact ads
 ·show aN.Sj (s.add s.nx) (vS 0) 0 s.nx;rw[hnx];exact⟨rfl,ae,ae⟩
 ·show(aN.Qw s (vS 0) 0).1.There (aN.Qw s (vS 0) 0).2.2;rw[he];exact OT
 ·show(aN.Qw s (vS 0) 0).2.1.d.length=6;rw[he];rfl
 ·show sl.drop (aN.KH (16*0) sl)=[];exact List.drop_eq_nil_of_le (by unfold aN.KH;omega)
end jZ
end
end Go.Proofs.YtnieckfelfoopaaGreat

import Derived.Test.YtnieckfelfoopaaGreatDeeM
import Derived.Deep.DeepCutAuto
open Go.Proofs.Tryz (prog)
namespace Go.Proofs.YtnieckfelfoopaaGreat
open Lib (hid)
set_option maxRecDepth 100000
set_option maxHeartbeats 16000000
section
open Go.RowKit eu
variable {NB B P T:Nat} {Q:Nat->Prop} {w w':World} {f:Fm} {s:Ps} {fi:Nf} {n:Nat} {X:List UInt8}

theorem rW {P:Program} {ops:Array Oper} {o:Oper} {a:Act} {w:World} {K:Act->World->Prop} {Q:Exit->Act->World->Prop} {E:Prop} (mD:o.guard=none) (ty:TypeId) (x y:Operand) (ho:o.op= .store ty x y)
  (g:Nat) (cells:Array Value) (hx:a.eval x= .pointer (some ⟨g,0,none⟩)) (hy:a.eval y= .agg cells)
  (t:TypeId) (old:Array Value) (hg:aF w g t old) (hi:(P.info? ty).map (·.size)=some cells.size)
  (hold:old.size=cells.size) (h1:cells.all (·.oneCell')=true)
  (h:K (a.put o.dst undef) (w.setRow g cells)):if Region.wanted o (yielded ops a.tmps)=true then Oper.wp P o a w K Q else E:=by
 have hw:Region.wanted o (yielded ops a.tmps)=true:=by simp[Region.wanted,mD]
 rw[if_pos hw];exact wp_store_row ty x y ho g cells hx hy t old hg hi hold h1 h
theorem xI {Bc:Nf} {s':Ps} {k c:Nat} {sl:List UInt8} {a:Option Addr} {mo:Int} (h:bT NB B Q w P f s) (hT:oV w T P) (qX:¬Q T) (h1:1<=n) (h2:n<=s.ino) (h3:s.ino<=100000) (h4:(n-1)/2<s.tb)
  (hw:aN.Wf s fi.io) (hx:Bytes w w.heap.size a 16 sl) (hc:16<=c) (hk:16*k+16<=67968) (SH:Room.zi 64 (fJ (aN.yl s.g fi.io)) ((16*k/64:Nat):Int) (((16*k+16+63)/64:Nat):Int)=(mo,0)) (hmo:mo<=(s.np:Int)-(s.us.length:Int))
  (zX:aN.adu 1 s fi.io (16*k) sl) (hqa:∀bl o,a=some ⟨bl,o,none⟩->¬Q bl/\bl<w.heap.size) (hs:s'=(aN.Qv 1 s fi.io (16*k) sl).1) (hf:Bc=bz fi (max fi.s ((16*k+16:Nat):Int)) (aN.Qv 1 s fi.io (16*k) sl).2)
  (htb:s'.tb=s.tb) (acB:s'.ino=s.ino) (hr:aN.Right (aX Bc)):
  Calls prog 101 #[T,.int .i64 n,zG fi,.int .i64 k,.slice a 16 c] w λe w'=>e= .returned (.int .i64 0)/\jJ NB B Q w w' P f (dX s' n (aX Bc)):=by
 have hlen:=hx.len;have hb:=(Below.refl w.heap.size w).alloc (Nat.le_refl _) (.cells (dG fi) 107);have uw:=ag (h.on hb);have HT0:=ag hT;have HTl:=ag hT.lt;have Ox:=ag (hT.on hb);have F8:=ag (hx.on hb);have ZC:=ag (aF.new w 107 (dG fi));have Fh:=ag qX;have HH:=ag h;have QT:=ag h.base;have HB:=ag hb;have HWc:=ag (show∀W:World,bT NB B Q W P f s->Bytes W W.heap.size a 16 sl->w.heap.size<=W.heap.size->Calls prog 80 #[P,.agg (dG fi),.int .i64 ((k:Int)*16),.slice a 16 c] W λe w'=>e= .returned (.tuple #[.agg (dG Bc),.int .i64 0])/\jJ NB B Q W w' P f s' from λW hW hX ja=>by
  have h:=Ik (fuel:=1) (off:=16*k) hW hw hX hc (λe=>by rw[e] at hlen;cases hlen) ae hk SH hmo zX λbl o e=>⟨(hqa bl o e).1,by have:=(hqa bl o e).2;omega⟩
  rw[<-hs,<-hf] at h;rw[show(k:Int)*16=((16*k:Nat):Int) from ae];exact h)
 have oP:=ag (show∀(W:World) (U:Nat->Prop),bT NB B U W P f s'->oV W T P->¬U T->Calls prog 81 #[T,.int .i64 n,.agg (dG Bc)] W λe w'=>e= .returned (.int .i64 0)/\jJ NB B U W w' P f (dX s' n (aX Bc)) from λW U hW hT hU=>
  lK hW hT hU h1 (by rw[acB];exact h2) (by rw[acB];exact h3) (by rw[htb];exact h4) (aX Bc) hr)
 have q1:=IntWalk.i64_in ((k:Int)*16) ⟨ae,ae⟩;have Ah:(dG Bc).all (·.oneCell')=true:=qm Bc;clear h hT qX hb hx hw SH hmo zX hqa hs hf htb acB hr hlen h1 h2 h3 h4 hk;unfold zG
 go_in
 go_upto_region 1 with fail;generalize w.alloc (.cells (dG fi) 107)=W1 at*;have HPd:=ag (uw.o.on (ak W1));have HTd:=ag (Ox.o.on (ak W1));have HLd:=ag (ZC.o.ah (ak W1));have HXd:=ag (F8.o.on (ak W1));have Ak:=ag (HB.o.ay (ak W1));have jA:=ag (λW (h1:oV W T P) (h2:aF W w.heap.size 107 (dG fi))=>(⟨h1.c0,h2⟩:W.cell? ⟨T,0,none⟩=some (.pointer (some ⟨P,0,none⟩))/\aF W w.heap.size 107 (dG fi)));refine iT (λW'=>W'.cell? ⟨T,0,none⟩=some (.pointer (some ⟨P,0,none⟩))/\aF W' w.heap.size 107 (dG fi)) (jA.o _ HTd.o HLd.o) (λbJ=>?_);generalize W1.drew=W0 at*;refine dP 0 T 0 ?_;refine aS 1 T 0 ?_;refine aS 2 T 0 ?_;refine tC 3 (.pointer (some ⟨P,0,none⟩)) (λ_ aI=>aI.1) ?_;refine jy 4 (.agg (dG fi)) rfl (λ_ aI=>by obtain⟨y0,y1,y2,y3,y4,y5,y6,y7,y8,y9,zu⟩:=fG aI.2;unfold dG;go_simp) ?_;refine eF 5 (k:Int) ?_;refine ik 6 ((k:Int)*16) ?_;refine fB 7 (.slice a 16 c) ?_;refine wpAnyH_ready (rs:=[8,12]) az au ?_;refine AllReadyH.cons rfl (λK' hK=>?_) (AllReadyH.cons rfl (λK' hK=>?_) (AllReadyH.nil))
 ·go_simp;refine(HWc.o W0 HPd.o HXd.o Ak.o.size).mono ?_;rintro e W2 ⟨rfl,iU⟩;have pF:=ag iU;have JK:=ag (HTd.o.kq iU.2 Fh.o);have Dy:=ag (HLd.o.kq iU.2 (HH.o.aV (Nat.le_refl _)));clear iU;refine hK.out _ _ (jA.o _ JK.o Dy.o) (λgm=>?_)
  try simp only[aO]
  refine fB 9 (.tuple #[.agg (dG Bc),.int .i64 0]) ?_;refine fB 10 (.agg (dG Bc)) ?_;refine eF 11 0 ?_;refine dm 12 (λK' hK=>?_);go_simp;have bQ:=(Below.refl W2.heap.size W2).alloc (Nat.le_refl _) (.cells #[.int .i64 0,.int .i64 0,.int .i64 0,.int .i64 0,.int .i64 0,.int .i64 0,.int .i64 0,.int .i64 0,.int .i64 0,.int .i64 0,.int .i64 0] 107);have qZ:=ag (aF.new W2 107 #[.int .i64 0,.int .i64 0,.int .i64 0,.int .i64 0,.int .i64 0,.int .i64 0,.int .i64 0,.int .i64 0,.int .i64 0,.int .i64 0,.int .i64 0]);have OU:=ag (JK.o.on bQ);have yD:=ag (Dy.o.ah bQ);have kL:=ag (bQ.cO (Nat.le_refl _) (dG Bc));clear bQ;refine hK.out _ _ (jA.o _ OU.o yD.o) (λkD=>?_)
  try simp only[aO]
  refine dm 13 (λK' hK=>?_);refine rW rfl _ _ _ rfl (W2.heap.size) (dG Bc) rfl rfl 107 _ qZ.o DF rfl Ah ?_;have Df:=ag (qZ.o.row (dG Bc));have Ry:=ag (JK.o.on kL.o);have V6:=ag (Dy.o.ah kL.o);have xP:=ag (jJ.behind (Kq.of Ak.o) (pF.o.on kL.o HPd.o.base) QT.o);generalize (W2.alloc (.cells #[.int .i64 0,.int .i64 0,.int .i64 0,.int .i64 0,.int .i64 0,.int .i64 0,.int .i64 0,.int .i64 0,.int .i64 0,.int .i64 0,.int .i64 0] 107)).setRow W2.heap.size (dG Bc)=W4 at*;refine hK.out _ _ (jA.o _ Ry.o V6.o) (λrY=>?_)
  try simp only[aO]
  refine eF 14 0 ?_;refine gB ?_;clear bJ gm kD rY Ah;obtain⟨y0,y1,y2,y3,y4,y5,y6,y7,y8,y9,zu⟩:=fG Df.o;have Jv:=ag (oP.o W4 _ xP.o.1 Ry.o λh=>Fh.o (ji h HTl.o));unfold dG at Jv;go_wp2_with fail;refine Jv.o.mono ?_;rintro e W5 ⟨rfl,Ef⟩;have Si:=ag (xP.o.ay Ef);clear Ef y0 y1 y2 y3 y4 y5 y6 y7 y8 y9 zu;go_wp2;go_ret;exact⟨rfl,Si.o⟩
 ·go_simp;have bQ:=(Below.refl W0.heap.size W0).alloc (Nat.le_refl _) (.cells #[.int .i64 0,.int .i64 0,.int .i64 0,.int .i64 0,.int .i64 0,.int .i64 0,.int .i64 0,.int .i64 0,.int .i64 0,.int .i64 0,.int .i64 0] 107);have qZ:=ag (aF.new W0 107 #[.int .i64 0,.int .i64 0,.int .i64 0,.int .i64 0,.int .i64 0,.int .i64 0,.int .i64 0,.int .i64 0,.int .i64 0,.int .i64 0,.int .i64 0]);have OU:=ag (HTd.o.on bQ);have yD:=ag (HLd.o.ah bQ);have mP:=ag (HPd.o.on bQ);have zZ:=ag (HXd.o.on bQ);have dE:=ag (Ak.o.ay bQ);have HJQ:=ag (HPd.o.aV (Nat.le_refl _));obtain⟨J,hJ⟩:=bu W0.heap.size;have HJw:=ag (show w.heap.size<=J from by rw[hJ];exact Ak.o.size);rw[<-hJ] at qZ HJQ;have HJ:=ag hJ;clear bQ;refine hK.out _ _ (jA.o _ OU.o yD.o) (λkD=>?_)
  try simp only[aO]
  rw[<-hJ];clear hJ;generalize W0.alloc (.cells #[.int .i64 0,.int .i64 0,.int .i64 0,.int .i64 0,.int .i64 0,.int .i64 0,.int .i64 0,.int .i64 0,.int .i64 0,.int .i64 0,.int .i64 0] 107)=W3 at*;refine dm 8 (λK' hK=>?_);go_simp;refine(HWc.o W3 mP.o zZ.o dE.o.size).mono ?_;rintro e W2 ⟨rfl,iU⟩;have pF:=ag iU;have JK:=ag (OU.o.kq iU.2 Fh.o);have Dy:=ag (yD.o.kq iU.2 (HH.o.aV (Nat.le_refl _)));have xQ:=ag (qZ.o.kq iU.2 HJQ.o);clear iU;refine hK.out _ _ (jA.o _ JK.o Dy.o) (λgm=>?_)
  try simp only[aO]
  refine fB 9 (.tuple #[.agg (dG Bc),.int .i64 0]) ?_;refine fB 10 (.agg (dG Bc)) ?_;refine eF 11 0 ?_;refine dm 13 (λK' hK=>?_);refine rW rfl _ _ _ rfl J (dG Bc) rfl rfl 107 _ xQ.o DF rfl Ah ?_;have yF:=eU W2 J (dG Bc);have Df:=ag (xQ.o.row (dG Bc));have Ry:=ag (JK.o.kq yF λe=>by have:=HTl.o;have:=HJw.o;omega);have V6:=ag (show aF (W2.setRow J (dG Bc)) w.heap.size 107 (dG fi) from Dy.o.kq yF λe=>by have:=ZC.o.lt;have:=HJ.o;have:=HLd.o.lt;omega);have xP:=ag (HH.o.fin (pF.o.1.kq yF λq hq e=>by
   subst e;exact HJQ.o (ji hq qZ.o.lt)) (λq hq=>by
   rcases hq with h1|h1
   ·exact .inl h1
   ·exact .inr (by have:=dE.o.size;omega)) (((Kq.of (T:=Q) dE.o).trans pF.o.2).ay yF λq e=> .inr (by have:=HJw.o;omega)) λq hq=> .inl hq)
  clear yF;generalize W2.setRow J (dG Bc)=W4 at*;refine hK.out _ _ (jA.o _ Ry.o V6.o) (λrY=>?_)
  try simp only[aO]
  refine eF 14 0 ?_;refine gB ?_;clear bJ gm kD rY Ah;obtain⟨y0,y1,y2,y3,y4,y5,y6,y7,y8,y9,zu⟩:=fG Df.o;have Jv:=ag (oP.o W4 _ xP.o.1 Ry.o λh=>Fh.o (ji h HTl.o));unfold dG at Jv;go_wp2_with fail;refine Jv.o.mono ?_;rintro e W5 ⟨rfl,Ef⟩;have Si:=ag (xP.o.ay Ef);clear Ef y0 y1 y2 y3 y4 y5 y6 y7 y8 y9 zu;go_wp2;go_ret;exact⟨rfl,Si.o⟩
end
section
open Go.RowKit eu
variable {NB B P T:Nat} {Q:Nat->Prop} {w w':World} {f:Fm} {s:Ps} {fi:Nf} {n:Nat} {X:List UInt8}

theorem Aq {XV r:Nat} {s':Ps} {Bc:Nf} (h:bT NB B Q w P f s) (hT:oV w T P) (qX:¬Q T) (d:jh s n fi X) (nm:List UInt8) (ht1:1<=XV) (ht2:XV<=s.ino) (he:Dir.QW X ⟨XV,nm⟩=0) (hrm:∀r',Dir.uB X r'->r'=r) (QL:r<=4000) (g:Yt s fi r (Dir.slotL ⟨XV,nm⟩) s' Bc):
  Calls prog 52 #[T,.int .i64 n,.string (aJ nm),.int .i64 XV] w λe w'=>e= .returned (.int .i64 0)/\jJ NB B Q w w' P f (dX s' n (aX Bc)):=by
 obtain⟨Uc,hwe,hno⟩:=Dir.YU he;have pU:=Dir.tV ⟨XV,nm⟩ (Dir.kT ((Dir.jB _).1 hwe).2).2;have Gx:=(Dir.kT ((Dir.jB _).1 hwe).2).2;have U1:Dir.bY X nm=(-1,0):=Dir.AA hno;have hwl:Dir.kK ⟨XV,nm⟩=Dir.slotL ⟨XV,nm⟩:=if_pos hwe;have HD:=ag (sN h hT qX d);have aaf:=d.big;have JQ:=ag (λ(W:World) (hW:bT NB B Q W P f s) (hT:oV W T P)=>qH hW hT ht1 ht2 aaf);have HWr:=ag (show∀W:World,Calls prog 100 #[.agg #[.int .i64 XV,.string (aJ nm)]] W λe w'=>(∃v,e= .returned (.tuple #[v,.int .i64 0])/\Own aH 5 w' W.heap.size v (Dir.slotL ⟨XV,nm⟩))/\Below W.heap.size W w' from λW=>by have h:=EM ⟨XV,nm⟩ W (by show nm.length<=_;simp only at Gx;omega);unfold DU at h;rw[hwe,hwl] at h;exact h);have HTw:=ag (show∀(W:World) (a:Option Addr) (c:Nat),bT NB B Q W P f s->oV W T P->Bytes W W.heap.size a 16 (Dir.slotL ⟨XV,nm⟩)->16<=c->(∀bl o,a=some ⟨bl,o,none⟩->¬Q bl/\bl<W.heap.size)->Calls prog 101 #[T,.int .i64 n,.agg (dG fi),.int .i64 r,.slice a 16 c] W λe w'=>e= .returned (.int .i64 0)/\jJ NB B Q W w' P f (dX s' n (aX Bc)) from λW a c hW hT hx hc hqa=>by obtain⟨mo,m1,m2⟩:=g.more;exact xI hW hT qX d.lo d.hi d.big d.pg d.wf hx hc ae m1 m2 g.ok hqa g.hs g.hf g.tb g.ino g.right);have RP:=ag hrm;have HZ:=ag d.z2;have HG:=ag Uc;have HFn:=ag U1;have NJ:=ag pU;have QT:=ag h.base;have Fh:=ag qX;have HT:=ag hT;have HQb:=ag h.bnd;unfold zG dG at HD;clear h hT qX d he hrm QL g ht1 ht2 aaf Uc hwe hno pU Gx U1 hwl
 go_in
 go_wp2_with fail;refine HD.o.mono ?_;rintro e W2 ⟨⟨v,rfl,ho⟩,hp,hk⟩;obtain⟨a2,c2,rfl,F6⟩:=ho.bZ rfl;have yS:=ag ho;have Wn:=ag F6;have pF:=ag hp;have rD:=ag hk;have JK:=ag (HT.o.kq hk Fh.o);clear ho hp hk HD F6;have xQ:=ag (aF.new W2 107 #[.int .i64 0,.int .i64 0,.int .i64 0,.int .i64 0,.int .i64 0,.int .i64 0,.int .i64 0,.int .i64 0,.int .i64 0,.int .i64 0,.int .i64 0]);obtain⟨W3,JI⟩:∃W3,W3=(W2.alloc (.cells #[.int .i64 0,.int .i64 0,.int .i64 0,.int .i64 0,.int .i64 0,.int .i64 0,.int .i64 0,.int .i64 0,.int .i64 0,.int .i64 0,.int .i64 0] 107)).setRow W2.heap.size #[.int .i64 fi.k,.int .i64 fi.l,.int .i64 fi.s,.int .i64 (nd fi 0),.int .i64 (nd fi 1),.int .i64 (nd fi 2),.int .i64 (nd fi 3),.int .i64 (nd fi 4),.int .i64 (nd fi 5),.int .i64 (fi.io.s:Int),.int .i64 (fi.io.b:Int)]:=⟨_,rfl⟩
 have bQ:Below W2.heap.size W2 W3:=by rw[JI];exact((Below.refl _ W2).alloc (Nat.le_refl _) _).cO (Nat.le_refl _) _
 have yL:=ag (show aF W3 W2.heap.size 107 (dG fi) from by rw[JI];exact xQ.o.row _);have HW3:=ag JI;have mP:=ag (pF.o.on bQ);have OU:=ag (JK.o.on bQ);have rf:=ag (yS.o.on bQ);have jU:=ag (rD.o.on bQ);clear JI bQ
 go_wp2_with (refine aC rfl rfl _ _ _ rfl W2.heap.size #[.int .i64 fi.k,.int .i64 fi.l,.int .i64 fi.s,.int .i64 (nd fi 0),.int .i64 (nd fi 1),.int .i64 (nd fi 2),.int .i64 (nd fi 3),.int .i64 (nd fi 4),.int .i64 (nd fi 5),.int .i64 (fi.io.s:Int),.int .i64 (fi.io.b:Int)] rfl rfl 107 #[.int .i64 0,.int .i64 0,.int .i64 0,.int .i64 0,.int .i64 0,.int .i64 0,.int .i64 0,.int .i64 0,.int .i64 0,.int .i64 0,.int .i64 0] xQ.o rfl dD (qm fi) ?_;rw[<-HW3.o])
 obtain⟨I9,hI9⟩:=bu W2.heap.size;have HI9:=ag hI9;rw[<-hI9] at yL⊢;clear hI9;refine(JQ.o W3 mP.o OU.o).mono ?_;rintro e W4 ⟨rfl,di⟩;have xP:=ag (mP.o.on di);have Ry:=ag (OU.o.on di);have vJ:=ag (rf.o.on di);have mY:=ag (jU.o.on di);have Df:=ag (yL.o.ah di);clear di;go_wp2_with fail;refine(HWr.o W4).mono ?_;rintro e W5 ⟨⟨v,rfl,ho⟩,iP⟩;obtain⟨a5,c5,rfl,QO⟩:=ho.bZ NJ.o;have Dt:=ag (ho.arr (by rw[NJ.o];decide));have HC5:=ag QO;have HQa:=ag (show∀bl o,a5=some ⟨bl,o,none⟩->¬Q bl/\bl<W5.heap.size from λbl o e=>by
  obtain⟨g,rfl,h1,h2⟩:=ho.addr (by rw[NJ.o];omega);injection e with e
  injection e with e
  subst e;exact⟨xP.o.aV h1,h2⟩)
 have Si:=ag (xP.o.on iP);have HT5:=ag (Ry.o.on iP);have GZ:=ag (vJ.o.on iP);have zx:=ag (mY.o.on iP);have HI5:=ag (Df.o.ah iP);clear ho iP QO;have hl:=HZ.o;have JH:=ag (GZ.o.arr ae);clear hl;go_wp2_with fail;refine(qy a2 _ c2 X nm W5 JH.o Wn.o).mono ?_;rintro e W6 ⟨rfl,iI⟩;rw[HFn.o];have Y6:=ag (Si.o.on iI);have HT6:=ag (HT5.o.on iI);have HX6:=ag (JH.o.on iI);have uu:=ag (zx.o.on iI);have EW:=ag (HI5.o.ah iI);have HY6:=ag (Dt.o.on iI);have HQ6:=ag (λbl o e=>And.intro (HQa.o bl o e).1 (Nat.lt_of_lt_of_le (HQa.o bl o e).2 iI.size));clear iI;go_upto_region 13 with fail;have o7:=ak W6;have HPd:=ag (Y6.o.on o7);have HTd:=ag (HT6.o.on o7);have HXd:=ag (HX6.o.on o7);have Zx:=ag (uu.o.on o7);have Qr:=ag (EW.o.ah o7);have HYd:=ag (HY6.o.on o7);have HQd:=ag (λbl o e=>And.intro (HQ6.o bl o e).1 (Nat.lt_of_lt_of_le (HQ6.o bl o e).2 o7.size));clear o7;refine iT (λW'=>aF W' I9 107 (dG fi)) Qr.o (λbJ=>?_);generalize W6.drew=W7 at*;refine dP 0 T 0 ?_;refine eF 1 (n:Int) ?_;refine jy 2 (.agg (dG fi)) rfl (λ_ aI=>by obtain⟨y0,y1,y2,y3,y4,y5,y6,y7,y8,y9,zu⟩:=fG aI;unfold dG;go_simp) ?_;refine fB 3 (.slice a2 X.length c2) ?_;refine fB 5 (.slice a5 16 c5) ?_;refine dm 4 (λK' hK=>?_);go_simp;refine(Xw a2 _ c2 X W7 HXd.o Wn.o).mono ?_;rintro e w_ ⟨⟨r,rfl,hr⟩,rfl⟩;obtain rfl:=RP.o _ hr;clear hr;refine hK.out _ _ (Qr.o) (λdH=>?_)
 try simp only[aO]
 refine dm 6 (λK' hK=>?_);go_simp;refine(HTw.o W7 a5 c5 HPd.o HTd.o HYd.o HC5.o HQd.o).mono ?_;rintro e W8 ⟨rfl,hp8⟩;have HP8:=ag (jJ.behind Zx.o hp8 QT.o);have OJ:=ag (Qr.o.kq hp8.2 (by rw[HI9.o];exact pF.o.aV (Nat.le_refl _)));clear hp8;refine hK.out _ _ (OJ.o) (λgm=>?_)
 try simp only[aO]
 refine eF 7 0 ?_;refine gB ?_;clear bJ dH gm;go_wp2;go_ret;exact⟨rfl,HP8.o⟩
end
section
open Go.RowKit eu aN
variable {NB B P:Nat} {Q:Nat->Prop} {w w':World} {f:Fm} {s:Ps}

theorem Jw {fi:Nf} {z tt:Nat} {ns:List Nat} {rs:List Int} (h:bT NB B Q w P f s) (hz:fi.s=(z:Int)) (ht:tt<384)
  (YV:(fJ (yl s.g fi.io)).reverse=(ns.map λn:Nat=>(n:Int))++rs) (hk:∀n∈ns,(tt+63)/64<=n) (hr:∀x,rs.head?=some x->x<(((tt+63)/64:Nat):Int)) (zX:WH ns s fi.io):
  Calls prog 108 #[P,zG fi,.int .i64 tt] w λe w'=>e= .returned (.tuple #[zG (bz fi (tt:Int) (trL ns s fi.io).2),.int .i64 0])/\jJ NB B Q w w' P f (trT (trL ns s fi.io).1 (trL ns s fi.io).2 z tt):=by
 have HH:=ag h;have HZ:=ag hz;have HW:=ag zX.wf;have HOk:=ag zX;have HNs:=ag YV;have Qz:=ag hk;have HRs:=ag hr;have VT:=ag zX.wf.dl;have DC:=ag (Nat.le_trans (DI (yl s.g fi.io)) (OA h.ok fi.io));have hln:=DC.o;have Gx:=congrArg List.length YV;rw[List.length_reverse,List.length_append,List.length_map] at Gx;obtain⟨N,hN⟩:=bu ((fJ (yl s.g fi.io)).length);rw[<-hN] at hln Gx;have HNl:=ag Gx;have HN:=ag hN;unfold zG dG;have g0:¬(tt:Int)<0:=ae;have g3:¬(67968:Int)<(tt:Int):=ae;have g6:=IntWalk.i64_in (64:Int) ⟨ae,ae⟩;have g7:=IntWalk.i64_in ((tt:Int)+64) ⟨ae,ae⟩;have g8:=IntWalk.i64_in ((tt:Int)+64-1) ⟨ae,ae⟩;have g9:IntKind.i64.wrap (Int.tdiv ((tt:Int)+64-1) 64)=((tt:Int)+64-1)/64:=by rw[Int.tdiv_eq_ediv_of_nonneg ae];exact IntWalk.i64_in (((tt:Int)+64-1)/64) ⟨ae,ae⟩
 have HMs:=ag (show Ino.most 64=67968 from aB);clear h hz YV hk hr zX hN Gx
 go_in
 have aW:Below w.heap.size w ((w.alloc (.cells (dG fi) 107)).alloc (.cells #[.int .i64 0,.int .i64 0,.int .i64 0,.int .i64 0,.int .i64 0,.int .i64 0,.int .i64 0,.int .i64 0,.int .i64 0,.int .i64 0,.int .i64 0] 107)):=((Below.refl _ w).alloc (Nat.le_refl _) _).alloc au _;have qp:=(aF.new w 107 (dG fi)).alloc (.cells #[.int .i64 0,.int .i64 0,.int .i64 0,.int .i64 0,.int .i64 0,.int .i64 0,.int .i64 0,.int .i64 0,.int .i64 0,.int .i64 0,.int .i64 0] 107);have rG:=aF.new (w.alloc (.cells (dG fi) 107)) 107 #[.int .i64 0,.int .i64 0,.int .i64 0,.int .i64 0,.int .i64 0,.int .i64 0,.int .i64 0,.int .i64 0,.int .i64 0,.int .i64 0,.int .i64 0];have mr:((w.alloc (.cells (dG fi) 107)).alloc (.cells #[.int .i64 0,.int .i64 0,.int .i64 0,.int .i64 0,.int .i64 0,.int .i64 0,.int .i64 0,.int .i64 0,.int .i64 0,.int .i64 0,.int .i64 0] 107)).heap.size=w.heap.size+2:=au;simp only[World.size_alloc] at rG;unfold dG at aW qp rG mr;have dA:=ag aW;have HZ0:=ag qp;have HZ1:=ag rG;have wJ:=ag mr;clear aW qp rG mr;go_wp2_with fail;generalize (w.alloc (.cells #[.int .i64 fi.k,.int .i64 fi.l,.int .i64 fi.s,.int .i64 (nd fi 0),.int .i64 (nd fi 1),.int .i64 (nd fi 2),.int .i64 (nd fi 3),.int .i64 (nd fi 4),.int .i64 (nd fi 5),.int .i64 (fi.io.s:Int),.int .i64 (fi.io.b:Int)] 107)).alloc (.cells #[.int .i64 0,.int .i64 0,.int .i64 0,.int .i64 0,.int .i64 0,.int .i64 0,.int .i64 0,.int .i64 0,.int .i64 0,.int .i64 0,.int .i64 0] 107)=w2 at*;have pF:=ag (HH.o.on dA.o);refine(dO pF.o).mono ?_;rintro e w_ ⟨rfl,rfl⟩;go_wp2_with fail;refine(zI 64 w2).mono ?_;rintro e w_ ⟨rfl,rfl⟩;rw[HMs.o];obtain⟨y0,y1,y2,y3,y4,y5,y6,y7,y8,y9,zu⟩:=HZ0.o.c11;have Af:=ag (show∀k,w.heap.size<=k->¬Q k from λk hk=>HH.o.aV hk);go_upto_region 8 with fail;obtain⟨w3,hw3⟩:=bu (w2.alloc (.cells (nfA P fi) 204));have bQ:Below w2.heap.size w2 w3:=by rw[hw3];exact(Below.refl _ w2).alloc (Nat.le_refl _) _
 have hn3:sJ w3 w2.heap.size P fi:=by rw[hw3];exact sJ.made w2 VT.o P
 have hs3:w3.heap.size=w2.heap.size+1:=by rw[hw3];simp
 have HW3:=ag hw3;obtain⟨F,hF⟩:=bu w2.heap.size;rw[<-hF] at hn3 hs3;have HF:=ag (show F=w.heap.size+2 from hF.trans wJ.o);have mP:=ag (pF.o.on bQ);have qZ:=ag hn3;have dE:=ag (dA.o.ay bQ);have O0:=ag (HZ0.o.ah bQ);have rC:=ag (HZ1.o.ah bQ);rw[<-hF,show w2.alloc (.cells #[.pointer (some ⟨P,0,none⟩),.int .i64 fi.k,.int .i64 fi.l,.int .i64 fi.s,.int .i64 (nd fi 0),.int .i64 (nd fi 1),.int .i64 (nd fi 2),.int .i64 (nd fi 3),.int .i64 (nd fi 4),.int .i64 (nd fi 5),.int .i64 (fi.io.s:Int),.int .i64 (fi.io.b:Int)] 204)=w3 from HW3.o.symm];clear y0 y1 y2 y3 y4 y5 y6 y7 y8 y9 zu bQ hn3 hw3 hF pF;have Gi:=ag (wV (fi:=fi) mP.o HW.o);unfold zG dG at Gi;obtain⟨y0,y1,y2,y3,y4,y5,y6,y7,y8,y9,zu⟩:=O0.o.c11;go_wp2_with fail;refine(dO mP.o).mono ?_;rintro e w_ ⟨rfl,rfl⟩;go_wp2_with fail;refine Gi.o.mono ?_;rintro e w4 ⟨⟨v,rfl,ho⟩,Yb,oU⟩;obtain⟨a4,c4,rfl,_⟩:=ho.bZ HN.o.symm;have vJ:=ag ho;have xP:=ag Yb;have mY:=ag oU;clear ho Yb oU y0 y1 y2 y3 y4 y5 y6 y7 y8 y9 zu;go_wp2_with fail;refine(KR (.slice a4 N c4) _ w3.heap.size w4 vJ.o (by rw[<-HN.o];omega)).mono ?_;rintro e w1 ⟨rfl,ho,hb⟩;rw[HNs.o] at ho;have iy:Kq Q w3 w1:=⟨hb.os.trans mY.o.os,hb.tape.trans mY.o.tape,hb.output.trans mY.o.output,Nat.le_trans mY.o.size hb.size,λk hk hn=>(hb.block k ae).trans (mY.o.block k hk hn)⟩
 have Dh:bT NB B Q w1 P f s:=xP.o.kq (T:=λk=>w3.heap.size<=k) (OV hb) λq hq h3=>by have:=(mP.o.bnd q hq).2;omega
 have Rj:=ag ho;have mF:=ag iy;have Be:=ag (show¬Q F from Af.o F (by have:=HF.o;omega));have Il:=ag (show F<w1.heap.size by have:=iy.size;omega);have ayG:=ag (O0.o.kq iy (Af.o _ (Nat.le_refl _)));have yA:=ag (rC.o.kq iy (Af.o _ ae));have HI:=ag (show FD NB B Q w1 F P f s fi fi.io w1 from⟨Dh.more (λq h=> .inl h) λq h=>by
  rcases h with h|h
  ·exact Dh.bnd q h
  ·omega,qZ.o.kq iy Be.o,Kq.refl _ _,λq h=>(Dh.bnd q h).2,Dh.base⟩)
 have Uj:=ag (show∀W,Kq (λq=>Q q\/q=F) w1 W->Own jL 3 W w3.heap.size (.slice a4 N c4) (ns.map (λn:Nat=>(n:Int))++rs) from λW hW=>Rj.o.kq hW λq hq h=>by
  have h1:=Rj.o.aP q hq;rcases h with h|h
  ·have:=(mP.o.bnd q h).2;omega
  ·have:=HF.o;omega)
 obtain⟨R,hR⟩:=bu (trL ns s fi.io);have HR:=ag hR;clear ho hb iy Dh hR vJ xP mY Gi;have hkp:((tt:Int)+64-1)/64=(((tt+63)/64:Nat):Int):=ae

 go_upto_block 1 with fail;have HWf:∀(l:List Nat) (s':Ps) (iR:zJ.Io),WH l s' iR->Wf (trL l s' iR).1 (trL l s' iR).2:=λl=>by
  induction l with
  |nil=>exact λ_ _ h=>h
  |cons n l ih=>exact λs' iR h=>ih _ _ h.2
 have HWR:=ag (show Wf R.1 R.2 from by rw[HR.o];exact HWf _ _ _ HOk.o);clear HWf
 go_cut [] (λwx=>Hid (FD NB B Q w1 F P f R.1 fi R.2 wx))
 case first=>
  go_wp2_with fail
  go_loopw [13,51] (λ_ v51 wr=>∃(i:Nat) (l:List Nat) (s':Ps) (iR:zJ.Io),v51= .int .i64 i/\i<=ns.length/\Hid (ns.drop i=l)/\Hid (WH l s' iR/\trL l s' iR=R)/\Hid (FD NB B Q w1 F P f s' fi iR wr)) (λ_ v51 _=>N-(intOf v51).toNat)
  case atStart=>exact⟨0,ns,s,fi.io,rfl,Nat.zero_le _,ag rfl,ag ⟨HOk.o,HR.o.symm⟩,HI⟩
  case round=>
   obtain⟨i,l,s',iR,rfl,hi,HL,HT,Qy⟩:=hrel;have HOw:=ag (Uj.o wr Qy.o.k);have z0:(0:Int)<=(i:Int):=ae;by_cases h0:i<ns.length
   ·have z1:(i:Int)<(N:Int):=by have:=HNl.o;omega
    obtain⟨n,hn⟩:=bu (ns[i]);have hd:ns.drop i=n::ns.drop (i+1):=by rw[List.drop_eq_getElem_cons h0,hn]
    have hl:l=n::ns.drop (i+1):=HL.o.symm.trans hd;subst hl;have HKn:=ag (show(tt+63)/64<=n from Qz.o n (by rw[hn];exact List.getElem_mem _));have Ox:=ag (show ajp s' iR n from HT.o.1.1);have JK:=ag (show WH (ns.drop (i+1)) (tr1 s' iR n).1 (tr1 s' iR n).2/\trL (ns.drop (i+1)) (tr1 s' iR n).1 (tr1 s' iR n).2=R from⟨HT.o.1.2,HT.o.2⟩);obtain⟨g,rfl,_,_⟩:=Rj.o.addr (by rw[List.length_append,List.length_map];omega);obtain⟨hy,_⟩:=HOw.o.iH (k:=i) (by rw[List.length_append,List.length_map];omega);rw[List.getElem_append_left (by rw[List.length_map];exact h0),List.getElem_map,<-hn] at hy;have hy:wr.cell? ⟨g,i,none⟩=some (.int .i64 n):=hy;have z2:¬(n:Int)<((tt:Int)+63)/64:=by have:=HKn.o;omega
    have q9:=IntWalk.i64_in ((i:Int)+1) ⟨ae,ae⟩;obtain⟨At,O1⟩:=bu (CS s'.g iR n);have HAc:=ag (show Calls prog 135 #[F,.int .i64 n] wr (qA NB B (Up Q w1 wr) P f s' (.int .i64 At) wr) from by rw[O1];exact rU Qy.o.p Qy.o.n (Qy.o.far Be.o Il.o) Ox.o.wf Ox.o.hn);have QA:=ag O1;have HUs:=ag (show At∈s'.us from O1▸Ox.o.us);have Yk:=ag (show Sj (s'.del At) iR n 0 from O1▸Ox.o.set);have HI1:=ag hi;clear hn hd O1 hi;go_wp2_with fail;refine HAc.o.mono ?_;rintro e W2 ⟨rfl,iU,fA⟩;have xQ:=ag (Qy.o.asked Be.o Il.o iU fA);clear iU fA;go_wp2_with fail;refine(KW xQ.o.p HUs.o).mono ?_;rintro e W3 ⟨rfl,oq⟩;have qZ:=ag (xQ.o.call Be.o Il.o oq);clear oq;go_wp2_with fail;refine(Bf qZ.o.p qZ.o.n (qZ.o.far Be.o Il.o) Yk.o).mono ?_;rintro e W4 VV;have VW:=ag (qZ.o.set VV);obtain⟨⟨_,rfl⟩,_⟩:=VV;go_wp2_with fail;go_roundw
    case rel=>refine⟨i+1,ns.drop (i+1),(tr1 s' iR n).1,(tr1 s' iR n).2,by go_num,h0,ag rfl,JK,hid ?_⟩;have:=VW.o;unfold tr1;rw[<-QA.o];exact this
    case measure=>have:=HNl.o;simp[intOf];omega
   ·obtain rfl:i=ns.length:=ae;have hl:l=[]:=HL.o.symm.trans (List.drop_length ..);subst hl;have HE:=ag (show R=(s',iR) from HT.o.2.symm);have CP:=ag (show FD NB B Q w1 F P f R.1 fi R.2 wr from by rw[HE.o];exact Qy.o);rcases hrs:rs with _|⟨x,rs'⟩
    ·have z1:¬((ns.length:Nat):Int)<(N:Int):=by have:=HNl.o;rw[hrs,List.length_nil] at this;omega
     clear h0 hi hrs;go_wp2_with fail;go_meet
     case rel=>exact CP
    ·have z1:((ns.length:Nat):Int)<(N:Int):=by have:=HNl.o;rw[hrs,List.length_cons] at this;omega
     have z2:x<((tt:Int)+63)/64:=by have:=HRs.o x (by rw[hrs];rfl);omega
     obtain⟨g,rfl,_,_⟩:=Rj.o.addr (by rw[List.length_append,hrs,List.length_cons];omega);obtain⟨hy0,_⟩:=HOw.o.iH (k:=ns.length) (by rw[List.length_append,List.length_map,hrs,List.length_cons];omega);rw[List.getElem_append_right (by rw[List.length_map];omega)] at hy0;simp only[List.length_map,Nat.sub_self] at hy0;have hy:wr.cell? ⟨g,ns.length,none⟩=some (.int .i64 x):=by rw[hy0];subst hrs;rfl
     clear hy0 h0 hi hrs;go_wp2_with fail;go_meet
     case rel=>exact CP
 case rest=>
  have HNc:=hcut;generalize wc=W5 at*;have q1:=IntWalk.i64_in ((tt:Int)/64) ⟨ae,ae⟩;have q2:IntKind.i64.wrap (Int.tdiv (tt:Int) 64)=(tt:Int)/64:=by rw[Int.tdiv_eq_ediv_of_nonneg ae];exact q1
  have q3:Int.tmod (tt:Int) 64=(tt:Int)%64:=Int.tmod_eq_emod_of_nonneg ae;have q4:=IntWalk.i64_in ((tt:Int)%64) ⟨ae,ae⟩;obtain⟨At,O1⟩:=bu (CS R.1.g R.2 (tt/64));have HAc:=ag (show Calls prog 135 #[F,.int .i64 ((tt:Int)/64)] W5 (qA NB B (Up Q w1 W5) P f R.1 (.int .i64 At) W5) from by rw[O1,show(tt:Int)/64=((tt/64:Nat):Int) from ae];exact rU HNc.o.p HNc.o.n (HNc.o.far Be.o Il.o) HWR.o ae);have QA:=ag O1;clear O1;go_wp2_with fail;refine HAc.o.mono ?_;rintro e W6 ⟨rfl,hp6,lI⟩;have HN6:=ag (HNc.o.asked Be.o Il.o hp6 lI);have HZ6:=ag (ayG.o.kq HN6.o.k λh=>h.elim (Af.o _ (Nat.le_refl _)) (λe=>by have:=HF.o;omega));have y2:=HZ6.o.aj (i:=2) (v:= .int .i64 fi.s) rfl;rw[HZ.o] at y2;clear hp6 lI HAc HNc;obtain⟨b,hb⟩:∃b:Bool,b=decide (At≠0/\tt%64≠0/\tt<z):=⟨_,rfl⟩
  have HBb:=ag hb;clear hb;go_upto_region 20 with fail
  go_cut [85] from 72 to 86 (λv wx=>v= .bool b/\wx=W6)
  case first=>
   by_cases c1:At=0
   ·have gz:((At:Int) !=0)=false:=by rw[bne_eq_false_iff_eq];omega
    have hbf:b=false:=HBb.o.trans (decide_eq_false ae);subst hbf;go_wp2_with fail;go_meet
    case rel=>exact⟨rfl,rfl⟩
   ·have gz:((At:Int) !=0)=true:=by rw[bne_iff_ne];omega
    by_cases c2:tt%64=0
    ·have gy:((tt:Int)%64 !=0)=false:=by rw[bne_eq_false_iff_eq];omega
     have hbf:b=false:=HBb.o.trans (decide_eq_false ae);subst hbf;go_wp2_with fail;go_meet
     case rel=>exact⟨rfl,rfl⟩
    ·have gy:((tt:Int)%64 !=0)=true:=by rw[bne_iff_ne];omega
     by_cases c3:tt<z
     ·have gx:(tt:Int)<(z:Int):=ae;have hbf:b=true:=HBb.o.trans (decide_eq_true ae);subst hbf;go_wp2_with fail;go_meet
      case rel=>exact⟨rfl,rfl⟩
     ·have gx:¬(tt:Int)<(z:Int):=ae;have hbf:b=false:=HBb.o.trans (decide_eq_false ae);subst hbf;go_wp2_with fail;go_meet
      case rel=>exact⟨rfl,rfl⟩
  case rest=>
   obtain⟨rfl,rfl⟩:=hcut;go_upto_if 85 with fail
   go_cut [] from 86 to 105 (λwx=>Hid (FD NB B Q w1 F P f (trT R.1 R.2 z tt) fi R.2 wx))
   case first=>
    by_cases hc:At≠0/\tt%64≠0/\tt<z
    ·have hbt:b=true:=HBb.o.trans (decide_eq_true hc);subst hbt;have HTr:=ag (show trT R.1 R.2 z tt=R.1.put At (trX (R.1.g At) tt) from by unfold trT;rw[<-QA.o,if_pos hc]);have MK:=ag (show R.1.There At from by have h:=HWR.o.at_ (n:=tt/64) ae;rw[<-QA.o] at h;exact h.there hc.1);have Dt:=ag (HN6.o.p.ok.sz At MK.o);have q5:(0:Int)<=(tt:Int)%64:=ae;have q6:(tt:Int)%64<=64:=ae;obtain⟨M6,hM6⟩:=bu (tt%64);have hm6:M6<64:=ae;have yu:=ag hM6;rw[show(tt:Int)%64=(M6:Int) from ae] at*;clear hc hM6;go_wp2_with fail;refine(lZ HN6.o.p MK.o).mono ?_;rintro e W7 ⟨⟨v,rfl,ho⟩,hp7,hk7⟩;obtain⟨a7,c7,rfl,_⟩:=ho.bZ Dt.o;obtain⟨g,rfl,jr,_⟩:=ho.addr (by rw[Dt.o];omega);have asE:=kU (some ⟨g,0,none⟩) 64 c7 M6 ae;have vK:=ag ho;have HP7:=ag hp7;have zH:=ag hk7;clear ho hp7 hk7 jr
     go_wp2_with (refine Lc rfl _ rfl wc.heap.size g 64 c7 M6 (R.1.g At) _ (64-M6) (c7-M6) rfl rfl vK.o ae ae ?_;intro W8 HO8 HB8)
     have HN8:=ag (HN6.o.got Be.o Il.o HP7.o zH.o HB8.o);have hx8:=HO8.o;rw[show M6+(64-M6)=64 by omega,List.drop_eq_nil_of_le (by rw[Dt.o];omega),List.append_nil] at hx8;replace hx8:Own aH 5 W8 wc.heap.size (.slice (some ⟨g,0,none⟩) 64 c7) (trX (R.1.g At) tt):=by unfold trX;rw[<-yu.o];exact hx8
     refine(uK HN8.o.p MK.o (some ⟨g,0,none⟩) c7 (trX (R.1.g At) tt) (hx8.arr (by rw[ahA Dt.o];decide))).mono ?_;rintro e W9 ⟨rfl,Za⟩;have HN9:=ag (HN8.o.call Be.o Il.o Za);clear Za hx8 asE;go_wp2_with fail;go_meet
     case rel=>rw[HTr.o];exact HN9
    ·have hbf:b=false:=HBb.o.trans (decide_eq_false hc);subst hbf;have HTr:=ag (show trT R.1 R.2 z tt=R.1 from by unfold trT;rw[<-QA.o,if_neg hc]);clear hc;go_wp2_with fail;go_meet
     case rel=>rw[HTr.o];exact HN6
   case rest=>
    have U9:=hcut;generalize wc=wr at*;have DJ:=U9.o.n.cells;have e1:wr.cell? ⟨F,1,none⟩=some (.int .i64 fi.k):=DJ.aj (i:=1) rfl;have e2:wr.cell? ⟨F,2,none⟩=some (.int .i64 fi.l):=DJ.aj (i:=2) rfl;have e3:wr.cell? ⟨F,3,none⟩=some (.int .i64 fi.s):=DJ.aj (i:=3) rfl;have e4:wr.cell? ⟨F,4,none⟩=some (.int .i64 (nd (bz fi (tt:Int) R.2) 0)):=DJ.aj (i:=4) rfl;have e5:wr.cell? ⟨F,5,none⟩=some (.int .i64 (nd (bz fi (tt:Int) R.2) 1)):=DJ.aj (i:=5) rfl;have e6:wr.cell? ⟨F,6,none⟩=some (.int .i64 (nd (bz fi (tt:Int) R.2) 2)):=DJ.aj (i:=6) rfl;have e7:wr.cell? ⟨F,7,none⟩=some (.int .i64 (nd (bz fi (tt:Int) R.2) 3)):=DJ.aj (i:=7) rfl;have e8:wr.cell? ⟨F,8,none⟩=some (.int .i64 (nd (bz fi (tt:Int) R.2) 4)):=DJ.aj (i:=8) rfl;have e9:wr.cell? ⟨F,9,none⟩=some (.int .i64 (nd (bz fi (tt:Int) R.2) 5)):=DJ.aj (i:=9) rfl;have e10:wr.cell? ⟨F,10,none⟩=some (.int .i64 (R.2.s:Int)):=DJ.aj (i:=10) rfl;have e11:wr.cell? ⟨F,11,none⟩=some (.int .i64 (R.2.b:Int)):=DJ.aj (i:=11) rfl;have f3:=DJ.frozen 3;have eQ:Kq (λq=>q=F) wr (wr.setCell ⟨F,3,none⟩ (.int .i64 tt)):=Kq.one ⟨F,3,none⟩ _;have hF2:F≠w.heap.size+1:=by have:=HF.o;omega
    have LJ:aF wr (w.heap.size+1) 107 #[.int .i64 0,.int .i64 0,.int .i64 0,.int .i64 0,.int .i64 0,.int .i64 0,.int .i64 0,.int .i64 0,.int .i64 0,.int .i64 0,.int .i64 0]:=yA.o.kq U9.o.k λh=>h.elim (Af.o _ ae) (λe=>hF2 e.symm);have HR9:=ag (LJ.kq eQ λe=>hF2 e.symm);have oP:=ag eQ;have HP9:=ag (U9.o.p.kq eQ λq hq e=>U9.o.far Be.o Il.o (e▸hq));have U7:=ag (((((Kq.of (T:=λq=>Q q\/q=F) dE.o).trans (mF.o.mono λq h=> .inl h))).trans U9.o.k).trans (eQ.mono λq h=> .inr h));have Qq:=ag (show w3.heap.size<=w1.heap.size from mF.o.size);clear DJ eQ LJ q1 q2 q3 q4 hkp
    go_wp2_with (refine aC rfl rfl _ _ _ rfl (w.heap.size+1) #[.int .i64 fi.k,.int .i64 fi.l,.int .i64 tt,.int .i64 (nd (bz fi (tt:Int) R.2) 0),.int .i64 (nd (bz fi (tt:Int) R.2) 1),.int .i64 (nd (bz fi (tt:Int) R.2) 2),.int .i64 (nd (bz fi (tt:Int) R.2) 3),.int .i64 (nd (bz fi (tt:Int) R.2) 4),.int .i64 (nd (bz fi (tt:Int) R.2) 5),.int .i64 (R.2.s:Int),.int .i64 (R.2.b:Int)] rfl rfl 107 #[.int .i64 0,.int .i64 0,.int .i64 0,.int .i64 0,.int .i64 0,.int .i64 0,.int .i64 0,.int .i64 0,.int .i64 0,.int .i64 0,.int .i64 0] HR9.o rfl DF (qm (bz fi (tt:Int) R.2)) ?_)
    rw[<-HR.o];obtain⟨W9,hW9⟩:∃W,W=(wr.setCell ⟨F,3,none⟩ (.int .i64 tt)).setRow (w.heap.size+1) #[.int .i64 fi.k,.int .i64 fi.l,.int .i64 tt,.int .i64 (nd (bz fi (tt:Int) R.2) 0),.int .i64 (nd (bz fi (tt:Int) R.2) 1),.int .i64 (nd (bz fi (tt:Int) R.2) 2),.int .i64 (nd (bz fi (tt:Int) R.2) 3),.int .i64 (nd (bz fi (tt:Int) R.2) 4),.int .i64 (nd (bz fi (tt:Int) R.2) 5),.int .i64 (R.2.s:Int),.int .i64 (R.2.b:Int)]:=⟨_,rfl⟩
    rw[<-hW9];have adF:aF W9 (w.heap.size+1) 107 #[.int .i64 fi.k,.int .i64 fi.l,.int .i64 tt,.int .i64 (nd (bz fi (tt:Int) R.2) 0),.int .i64 (nd (bz fi (tt:Int) R.2) 1),.int .i64 (nd (bz fi (tt:Int) R.2) 2),.int .i64 (nd (bz fi (tt:Int) R.2) 3),.int .i64 (nd (bz fi (tt:Int) R.2) 4),.int .i64 (nd (bz fi (tt:Int) R.2) 5),.int .i64 (R.2.s:Int),.int .i64 (R.2.b:Int)]:=by rw[hW9];exact HR9.o.row _
    have NY:=eU (wr.setCell ⟨F,3,none⟩ (.int .i64 tt)) (w.heap.size+1) #[.int .i64 fi.k,.int .i64 fi.l,.int .i64 tt,.int .i64 (nd (bz fi (tt:Int) R.2) 0),.int .i64 (nd (bz fi (tt:Int) R.2) 1),.int .i64 (nd (bz fi (tt:Int) R.2) 2),.int .i64 (nd (bz fi (tt:Int) R.2) 3),.int .i64 (nd (bz fi (tt:Int) R.2) 4),.int .i64 (nd (bz fi (tt:Int) R.2) 5),.int .i64 (R.2.s:Int),.int .i64 (R.2.b:Int)];rw[<-hW9] at NY;obtain⟨z0,z1,z2,z3,z4,z5,z6,z7,z8,z9,z10⟩:=adF.c11;refine bodyPost_ret (v:= .tuple #[zG (bz fi (tt:Int) R.2),.int .i64 0]) (by simp[results,Tryz.results108,go_sem,zG,dG,bz,z0,z1,z2,z3,z4,z5,z6,z7,z8,z9,z10]) rfl ⟨rfl,?_⟩;have mr:=wJ.o;refine HH.o.fin (HP9.o.kq NY λq hq e=>?_) (λq hq=>?_) (U7.o.ay NY λq e=> .inr ae) λq hq=>?_
    ·have:=U9.o.q;rcases hq with h1|h1
     ·have:=(HH.o.bnd q h1).2;omega
     ·have:=Qq.o;have:=HF.o;omega
    ·rcases hq with h1|h1
     ·exact .inl h1
     ·have:=Qq.o;have:=HF.o;exact .inr ae
    ·rcases hq with h1|h1
     ·exact .inl h1
     ·exact .inr (by have:=HF.o;omega)
end
section
open Go.RowKit eu
variable {NB B P T:Nat} {Q:Nat->Prop} {w w':World} {f:Fm} {s:Ps} {fi:Nf} {n:Nat} {X:List UInt8}

theorem aiI:Array.replicate 16 (Value.int .u8 0)=(Dir.zeros.map aH).toArray:=JR
theorem E8 {k:Nat} {s1:Ps} {iJ:Nf} (h:bT NB B Q w P f s) (hT:oV w T P) (qX:¬Q T) (d:jh s n fi X) (nm:List UInt8) (he:Dir.iK X nm=0) (oU:k<=4000) (hX6:X.length<=300) (hfk:(Dir.bY X nm).1=(k:Int)) (hrl:(Dir.jb X nm).length=X.length)
  (g:Yt s fi k Dir.zeros s1 iJ) (rG:iJ.s=(X.length:Int)) (yK:ind (dX s1 n (aX iJ)) n=aX iJ/\wB (dX s1 n (aX iJ)) n=0) (anu:aN.Wf (dX s1 n (aX iJ)) iJ.io) (NV:∀x∈fJ (aN.yl (dX s1 n (aX iJ)).g iJ.io),x<(((X.length+63)/64:Nat):Int)):
  Calls prog 54 #[T,.int .i64 n,.string (aJ nm)] w λe w'=>e= .returned (.int .i64 0)/\jJ NB B Q w w' P f (dX (dX s1 n (aX iJ)) n (aX iJ)):=by
 have hd1:=d.lo;have hd2:=d.hi;have XQ:=d.big;have hd4:=d.pg;have hle:=d.z2;obtain⟨tt,htt⟩:=bu X.length;obtain⟨S1,dH⟩:=bu (dX s1 n (aX iJ));rw[<-dH] at yK anu NV⊢;have hi1:S1.ino=s.ino:=by rw[dH];exact g.ino
 have ht1:S1.tb=s.tb:=by rw[dH];exact g.tb
 have HD:=ag (sN h hT qX d);have HRv:=ag (show∀(W:World) (a:Option Addr) (c:Nat),Bytes W W.heap.size a X.length X->X.length<=c->Calls prog 107 #[.slice a X.length c,.string (aJ nm)] W λe w'=>(∃v,e= .returned (.tuple #[v,.int .i64 0])/\Own aH 5 w' W.heap.size v (Dir.jb X nm))/\Below W.heap.size W w' from λW a c hx hc=>by refine(P6 a X.length c X nm W hx hc ae).mono ?_;rintro e w' ⟨⟨v,xs,rfl,ho,Ff,_⟩,hb⟩;rw[he];exact⟨⟨v,rfl,by rw[<-Ff he];exact ho⟩,hb⟩);have HTw:=ag (show∀(W:World) (a:Option Addr) (c:Nat),bT NB B Q W P f s->oV W T P->Bytes W W.heap.size a 16 Dir.zeros->16<=c->(∀bl o,a=some ⟨bl,o,none⟩->¬Q bl/\bl<W.heap.size)->Calls prog 101 #[T,.int .i64 n,.agg (dG fi),.int .i64 k,.slice a 16 c] W λe w'=>e= .returned (.int .i64 0)/\jJ NB B Q W w' P f S1 from λW a c hW hT hx hc hqa=>by obtain⟨mo,m1,m2⟩:=g.more;rw[dH];exact xI hW hT qX d.lo d.hi d.big d.pg d.wf hx hc ae m1 m2 g.ok hqa g.hs g.hf g.tb g.ino g.right);have UY:=ag (show∀(W:World) (U:Nat->Prop),bT NB B U W P f S1->oV W T P->Calls prog 79 #[T,.int .i64 n] W λe w'=>e= .returned (.tuple #[.agg (dG iJ),.int .i64 0])/\bT NB B U w' P f S1/\Kq U W w' from λW U hW hT=>by have h:=jC hW hT hd1 (by rw[hi1];exact hd2) (by rw[hi1];exact XQ) (by rw[ht1];exact hd4);rw[yK.1,yK.2] at h;exact h);have jw:bz iJ (tt:Int) iJ.io=iJ:=by unfold bz;rw[htt,<-rG]
 have jP:aN.trT S1 iJ.io X.length tt=S1:=by unfold aN.trT;rw[if_neg (by rw[htt];omega)]
 have HTc:=ag (show∀(W:World) (U:Nat->Prop),bT NB B U W P f S1->Calls prog 108 #[P,.agg (dG iJ),.int .i64 tt] W λe w'=>e= .returned (.tuple #[.agg (dG iJ),.int .i64 0])/\jJ NB B U W w' P f S1 from λW U hW=>by have h:=Jw hW (fi:=iJ) (z:=X.length) rG (tt:=tt) ae (ns:=[]) (rs:=(fJ (aN.yl S1.g iJ.io)).reverse) rfl (λn hn=>by cases hn) (λx hx=>by rw[htt];exact NV x (List.mem_reverse.1 (List.mem_of_mem_head? hx))) anu;have h:Calls prog 108 #[P,zG iJ,.int .i64 tt] W λe w'=>e= .returned (.tuple #[zG (bz iJ (tt:Int) iJ.io),.int .i64 0])/\jJ NB B U W w' P f (aN.trT S1 iJ.io X.length tt):=h;rw[jw,jP] at h;exact h);have oP:=ag (show∀(W:World) (U:Nat->Prop),bT NB B U W P f S1->oV W T P->¬U T->Calls prog 81 #[T,.int .i64 n,.agg (dG iJ)] W λe w'=>e= .returned (.int .i64 0)/\jJ NB B U W w' P f (dX S1 n (aX iJ)) from λW U hW hT hU=>
  lK hW hT hU hd1 (by rw[hi1];exact hd2) (by rw[hi1];exact XQ) (by rw[ht1];exact hd4) (aX iJ) g.right)
 have HH:=ag h;have HZ:=ag hle;have HTt:=ag (show(Dir.jb X nm).length=tt/\tt<=67968 from⟨by rw[hrl,htt],ae⟩);have HFk:=ag (show(Dir.bY X nm).1=(k:Int) from hfk);have Fh:=ag qX;have HT:=ag hT;have HTl:=ag hT.lt;have uY:∀u:World,(Instr.makeSlice 23 (.int .i64 16) (.int .i64 16)).run prog u= .ok (.slice (some ⟨u.heap.size,0,none⟩) 16 16) (u.alloc (.cells (Array.replicate 16 (.int .u8 0)) 5)):=λu=>Hl 16 ae u;have Ah:(dG iJ).all (·.oneCell')=true:=qm iJ;unfold zG dG at HD;obtain⟨S3,kD⟩:=bu (dX S1 n (aX iJ));rw[<-kD] at oP⊢;clear h hT qX d he oU hX6 hfk hrl g rG yK anu NV hd1 hd2 XQ hd4 hle htt dH hi1 ht1 jw jP kD
 go_in
 go_wp2_with fail;refine HD.o.mono ?_;rintro e W2 ⟨⟨v,rfl,ho⟩,hp,hk⟩;obtain⟨a2,c2,rfl,F6⟩:=ho.bZ rfl;have yS:=ag ho;have Wn:=ag F6;have pF:=ag hp;have rD:=ag hk;have JK:=ag (HT.o.kq hk Fh.o);clear ho hp hk HD F6;have xQ:=ag (aF.new W2 107 #[.int .i64 0,.int .i64 0,.int .i64 0,.int .i64 0,.int .i64 0,.int .i64 0,.int .i64 0,.int .i64 0,.int .i64 0,.int .i64 0,.int .i64 0]);obtain⟨W3,JI⟩:∃W3,W3=(W2.alloc (.cells #[.int .i64 0,.int .i64 0,.int .i64 0,.int .i64 0,.int .i64 0,.int .i64 0,.int .i64 0,.int .i64 0,.int .i64 0,.int .i64 0,.int .i64 0] 107)).setRow W2.heap.size #[.int .i64 fi.k,.int .i64 fi.l,.int .i64 fi.s,.int .i64 (nd fi 0),.int .i64 (nd fi 1),.int .i64 (nd fi 2),.int .i64 (nd fi 3),.int .i64 (nd fi 4),.int .i64 (nd fi 5),.int .i64 (fi.io.s:Int),.int .i64 (fi.io.b:Int)]:=⟨_,rfl⟩
 have bQ:Below W2.heap.size W2 W3:=by rw[JI];exact((Below.refl _ W2).alloc (Nat.le_refl _) _).cO (Nat.le_refl _) _
 have yL:=ag (show aF W3 W2.heap.size 107 (dG fi) from by rw[JI];exact xQ.o.row _);have HW3:=ag JI;have mP:=ag (pF.o.on bQ);have OU:=ag (JK.o.on bQ);have rf:=ag (yS.o.on bQ);have jU:=ag (rD.o.on bQ);clear JI bQ;have hl:=HZ.o;have zZ:=ag (rf.o.arr ae);clear hl
 go_wp2_with (refine aC rfl rfl _ _ _ rfl W2.heap.size #[.int .i64 fi.k,.int .i64 fi.l,.int .i64 fi.s,.int .i64 (nd fi 0),.int .i64 (nd fi 1),.int .i64 (nd fi 2),.int .i64 (nd fi 3),.int .i64 (nd fi 4),.int .i64 (nd fi 5),.int .i64 (fi.io.s:Int),.int .i64 (fi.io.b:Int)] rfl rfl 107 #[.int .i64 0,.int .i64 0,.int .i64 0,.int .i64 0,.int .i64 0,.int .i64 0,.int .i64 0,.int .i64 0,.int .i64 0,.int .i64 0,.int .i64 0] xQ.o rfl dD (qm fi) ?_;rw[<-HW3.o])
 obtain⟨I7,ZF⟩:=bu W2.heap.size;have HQ7:=ag (show¬Q I7/\w.heap.size<=I7 from⟨by rw[ZF];exact pF.o.aV (Nat.le_refl _),by rw[ZF];exact rD.o.size⟩);rw[<-ZF] at yL⊢;clear ZF;refine(qy a2 _ c2 X nm W3 zZ.o Wn.o).mono ?_;rintro e W4 ⟨rfl,di⟩;rw[HFk.o];obtain⟨z9,hz9⟩:=bu ((Dir.bY X nm).2);rw[<-hz9];clear hz9;have xP:=ag (mP.o.on di);have Ry:=ag (OU.o.on di);have HX4:=ag (zZ.o.on di);have mY:=ag (jU.o.on di);have Df:=ag (yL.o.ah di);clear di;have g1:¬(k:Int)<0:=ae;go_wp2_with fail;refine(HRv.o W4 a2 c2 HX4.o Wn.o).mono ?_;rintro e W5 ⟨⟨v,rfl,ho⟩,iP⟩;obtain⟨a5,c5,rfl,QO⟩:=ho.bZ HTt.o.1;have Si:=ag (xP.o.on iP);have HT5:=ag (Ry.o.on iP);have zx:=ag (mY.o.on iP);have HI5:=ag (Df.o.ah iP);clear ho iP QO;go_upto_region 10 with fail;have o7:=ak W5;have HPd:=ag (Si.o.on o7);have HTd:=ag (HT5.o.on o7);have Zx:=ag (zx.o.on o7);have Qr:=ag (HI5.o.ah o7);clear o7;refine iT (λW'=>aF W' I7 107 (dG fi)) Qr.o (λbJ=>?_);generalize W5.drew=W6 at*;refine dP 0 T 0 ?_;refine eF 1 (n:Int) ?_;refine jy 2 (.agg (dG fi)) rfl (λ_ aI=>by obtain⟨y0,y1,y2,y3,y4,y5,y6,y7,y8,y9,zu⟩:=fG aI;unfold dG;go_simp) ?_;refine eF 3 (k:Int) ?_;refine dm 4 (λK' hK=>?_);go_simp;have kC:=(Below.refl W6.heap.size W6).alloc (Nat.le_refl _) (.cells (Array.replicate 16 (.int .u8 0)) 5);have HZ7:=ag (show Bytes (W6.alloc (.cells (Array.replicate 16 (.int .u8 0)) 5)) (W6.alloc (.cells (Array.replicate 16 (.int .u8 0)) 5)).heap.size (some ⟨W6.heap.size,0,none⟩) 16 Dir.zeros from jg.lit W6 5 Dir.zeros 16 rfl ae aiI);have HQz:=ag (show∀bl o,(some ⟨W6.heap.size,0,none⟩:Option Addr)=some ⟨bl,o,none⟩->¬Q bl/\bl<(W6.alloc (.cells (Array.replicate 16 (.int .u8 0)) 5)).heap.size from λbl o e=>by
  injection e with e
  injection e with e
  subst e;exact⟨HPd.o.aV (Nat.le_refl _),au⟩)
 have HP7:=ag (HPd.o.on kC);have HT7:=ag (HTd.o.on kC);have zH:=ag (Zx.o.on kC);have V7:=ag (Qr.o.ah kC);clear kC;refine hK.out _ _ (V7.o) (λdH=>?_)
 try simp only[aO]
 obtain⟨z6,hz6⟩:=bu W6.heap.size;rw[<-hz6] at HZ7 HQz⊢;clear hz6;generalize W6.alloc (.cells (Array.replicate 16 (.int .u8 0)) 5)=W7 at*;refine dm 5 (λK' hK=>?_);go_simp;refine(HTw.o W7 _ 16 HP7.o HT7.o HZ7.o (Nat.le_refl _) HQz.o).mono ?_;rintro e W8 ⟨rfl,hp8⟩;obtain⟨U,hU⟩:=bu (Up Q W7 W8);have HP8:=ag (show bT NB B U W8 P f S1 from by rw[hU];exact hp8.1);have HU:=ag (show∀q,U q->Q q\/w.heap.size<=q from λq hq=>by
  rw[hU] at hq;rcases hq with h1|h1
  ·exact .inl h1
  ·exact .inr (by have:=zH.o.size;omega))
 have U6:=ag (zH.o.trans hp8.2);have OJ:=ag (V7.o.kq hp8.2 HQ7.o.1);have HU7:=ag (show¬U I7 from by rw[hU];exact λh=>HQ7.o.1 (ji h V7.o.lt));have RY:=ag (HT7.o.kq hp8.2 Fh.o);have HUT:=ag (show¬U T from λh=>by
  rcases HU.o T h with h1|h1
  ·exact Fh.o h1
  ·have:=HTl.o;omega)
 clear hp8 hU;refine hK.out _ _ (OJ.o) (λgm=>?_)
 try simp only[aO]
 refine eF 6 0 ?_;refine gB ?_;clear bJ dH gm uY g1;go_wp2_with fail;refine(UY.o W8 U HP8.o RY.o).mono ?_;rintro e W9 ⟨rfl,Za,NY⟩;have HP9:=ag Za;have HT9:=ag (RY.o.kq NY HUT.o);have U7:=ag (U6.o.ay NY HU.o);have HI9:=ag (OJ.o.kq NY HU7.o);clear Za NY;obtain⟨mi,aa1⟩:∃W,W=W9.setRow I7 #[.int .i64 iJ.k,.int .i64 iJ.l,.int .i64 iJ.s,.int .i64 (nd iJ 0),.int .i64 (nd iJ 1),.int .i64 (nd iJ 2),.int .i64 (nd iJ 3),.int .i64 (nd iJ 4),.int .i64 (nd iJ 5),.int .i64 (iJ.io.s:Int),.int .i64 (iJ.io.b:Int)]:=⟨_,rfl⟩
 have yF:=eU W9 I7 #[.int .i64 iJ.k,.int .i64 iJ.l,.int .i64 iJ.s,.int .i64 (nd iJ 0),.int .i64 (nd iJ 1),.int .i64 (nd iJ 2),.int .i64 (nd iJ 3),.int .i64 (nd iJ 4),.int .i64 (nd iJ 5),.int .i64 (iJ.io.s:Int),.int .i64 (iJ.io.b:Int)];rw[<-aa1] at yF;have RU:=ag (show aF mi I7 107 (dG iJ) from by rw[aa1];exact HI9.o.row _);have ag1:=ag (HP9.o.kq yF λq hq e=>HU7.o (e▸hq));have amS:=ag (HT9.o.kq yF λe=>by have:=HTl.o;have:=HQ7.o.2;omega);have ag2:=ag (U7.o.ay yF λq e=> .inr (by have:=HQ7.o.2;omega));have ayH:=ag aa1;clear yF aa1
 go_upto_region 16 with(refine aC rfl rfl _ _ _ rfl I7 #[.int .i64 iJ.k,.int .i64 iJ.l,.int .i64 iJ.s,.int .i64 (nd iJ 0),.int .i64 (nd iJ 1),.int .i64 (nd iJ 2),.int .i64 (nd iJ 3),.int .i64 (nd iJ 4),.int .i64 (nd iJ 5),.int .i64 (iJ.io.s:Int),.int .i64 (iJ.io.b:Int)] rfl rfl 107 _ HI9.o rfl dD (qm iJ) ?_;rw[<-ayH.o])
 have o7:=ak mi;have HPe:=ag (ag1.o.on o7);have HTe:=ag (amS.o.on o7);have Qz:=ag (ag2.o.on o7);have HIe:=ag (RU.o.ah o7);clear o7;have jA:=ag (λW (h1:oV W T P) (h2:aF W I7 107 (dG iJ))=>(⟨h1.c0,h2⟩:W.cell? ⟨T,0,none⟩=some (.pointer (some ⟨P,0,none⟩))/\aF W I7 107 (dG iJ)));refine iT (λW'=>W'.cell? ⟨T,0,none⟩=some (.pointer (some ⟨P,0,none⟩))/\aF W' I7 107 (dG iJ)) (jA.o _ HTe.o HIe.o) (λbJ=>?_);generalize mi.drew=W0 at*;refine dP 0 T 0 ?_;refine aS 1 T 0 ?_;refine aS 2 T 0 ?_;refine tC 3 (.pointer (some ⟨P,0,none⟩)) (λ_ aI=>aI.1) ?_;refine jy 4 (.agg (dG iJ)) rfl (λ_ aI=>by obtain⟨y0,y1,y2,y3,y4,y5,y6,y7,y8,y9,zu⟩:=fG aI.2;unfold dG;go_simp) ?_;refine fB 5 (.slice a5 tt c5) ?_;have q6:=HTt.o.2;refine ik 6 (tt:Int) ?_;clear q6;refine wpAnyH_ready (rs:=[7,11]) az au ?_;refine AllReadyH.cons rfl (λK' hK=>?_) (AllReadyH.cons rfl (λK' hK=>?_) (AllReadyH.nil))
 ·go_simp;refine(HTc.o W0 U HPe.o).mono ?_;rintro e D6 ⟨rfl,iU⟩;have ado:=ag iU;have aba:=ag (HTe.o.kq iU.2 HUT.o);have abb:=ag (HIe.o.kq iU.2 HU7.o);clear iU;refine hK.out _ _ (jA.o _ aba.o abb.o) (λgm=>?_)
  try simp only[aO]
  refine fB 8 (.tuple #[.agg (dG iJ),.int .i64 0]) ?_;refine fB 9 (.agg (dG iJ)) ?_;refine eF 10 0 ?_;refine dm 11 (λK' hK=>?_);go_simp;have bQ:=(Below.refl D6.heap.size D6).alloc (Nat.le_refl _) (.cells #[.int .i64 0,.int .i64 0,.int .i64 0,.int .i64 0,.int .i64 0,.int .i64 0,.int .i64 0,.int .i64 0,.int .i64 0,.int .i64 0,.int .i64 0] 107);have qZ:=ag (aF.new D6 107 #[.int .i64 0,.int .i64 0,.int .i64 0,.int .i64 0,.int .i64 0,.int .i64 0,.int .i64 0,.int .i64 0,.int .i64 0,.int .i64 0,.int .i64 0]);have OU:=ag (aba.o.on bQ);have yL:=ag (abb.o.ah bQ);have kL:=ag (bQ.cO (Nat.le_refl _) (dG iJ));clear bQ;refine hK.out _ _ (jA.o _ OU.o yL.o) (λkD=>?_)
  try simp only[aO]
  refine dm 12 (λK' hK=>?_);refine rW rfl _ _ _ rfl (D6.heap.size) (dG iJ) rfl rfl 107 _ qZ.o DF rfl Ah ?_;have HJ4:=ag (qZ.o.row (dG iJ));have Ry:=ag (aba.o.on kL.o);have Df:=ag (abb.o.ah kL.o);have xP:=ag (ado.o.on kL.o HPe.o.base);generalize (D6.alloc (.cells #[.int .i64 0,.int .i64 0,.int .i64 0,.int .i64 0,.int .i64 0,.int .i64 0,.int .i64 0,.int .i64 0,.int .i64 0,.int .i64 0,.int .i64 0] 107)).setRow D6.heap.size (dG iJ)=W4 at*;refine hK.out _ _ (jA.o _ Ry.o Df.o) (λrY=>?_)
  try simp only[aO]
  refine eF 13 0 ?_;refine gB ?_;clear bJ gm kD rY Ah;obtain⟨y0,y1,y2,y3,y4,y5,y6,y7,y8,y9,zu⟩:=fG HJ4.o;have Jv:=ag (oP.o W4 _ xP.o.1 Ry.o λh=>HUT.o (ji h HTe.o.lt));unfold dG at Jv;go_wp2_with fail;refine Jv.o.mono ?_;rintro e W5 ⟨rfl,Ef⟩;have Si:=ag (xP.o.ay Ef);clear Ef y0 y1 y2 y3 y4 y5 y6 y7 y8 y9 zu;go_wp2;go_ret;refine⟨rfl,HH.o.fin Si.o.1 (λq hq=>?_) (Qz.o.ay Si.o.2 HU.o) λq hq=> .inl hq⟩;rcases hq with h1|h1
  ·exact HU.o q h1
  ·exact .inr (by have:=Qz.o.size;omega)
 ·go_simp;have bQ:=(Below.refl W0.heap.size W0).alloc (Nat.le_refl _) (.cells #[.int .i64 0,.int .i64 0,.int .i64 0,.int .i64 0,.int .i64 0,.int .i64 0,.int .i64 0,.int .i64 0,.int .i64 0,.int .i64 0,.int .i64 0] 107);have qZ:=ag (aF.new W0 107 #[.int .i64 0,.int .i64 0,.int .i64 0,.int .i64 0,.int .i64 0,.int .i64 0,.int .i64 0,.int .i64 0,.int .i64 0,.int .i64 0,.int .i64 0]);have OU:=ag (HTe.o.on bQ);have yL:=ag (HIe.o.ah bQ);have mP:=ag (HPe.o.on bQ);have jU:=ag (Qz.o.on bQ);have HJQ:=ag (HPe.o.aV (Nat.le_refl _));obtain⟨J,hJ⟩:=bu W0.heap.size;have HJw:=ag (show w.heap.size<=J/\I7≠J/\T≠J from⟨by rw[hJ];exact Qz.o.size,λe=>by have:=HIe.o.lt;omega,λe=>by have:=HTe.o.lt;omega⟩);rw[<-hJ] at qZ HJQ;clear bQ;refine hK.out _ _ (jA.o _ OU.o yL.o) (λkD=>?_)
  try simp only[aO]
  rw[<-hJ];clear hJ;generalize W0.alloc (.cells #[.int .i64 0,.int .i64 0,.int .i64 0,.int .i64 0,.int .i64 0,.int .i64 0,.int .i64 0,.int .i64 0,.int .i64 0,.int .i64 0,.int .i64 0] 107)=W3 at*;refine dm 7 (λK' hK=>?_);go_simp;refine(HTc.o W3 U mP.o).mono ?_;rintro e D6 ⟨rfl,iU⟩;have ado:=ag iU;have aba:=ag (OU.o.kq iU.2 HUT.o);have abb:=ag (yL.o.kq iU.2 HU7.o);have asG:=ag (qZ.o.kq iU.2 HJQ.o);have ala:=ag (jU.o.ay iU.2 HU.o);clear iU;refine hK.out _ _ (jA.o _ aba.o abb.o) (λgm=>?_)
  try simp only[aO]
  refine fB 8 (.tuple #[.agg (dG iJ),.int .i64 0]) ?_;refine fB 9 (.agg (dG iJ)) ?_;refine eF 10 0 ?_;refine dm 12 (λK' hK=>?_);refine rW rfl _ _ _ rfl J (dG iJ) rfl rfl 107 _ asG.o DF rfl Ah ?_;have yF:=eU D6 J (dG iJ);have HJ4:=ag (asG.o.row (dG iJ));have Ry:=ag (aba.o.kq yF HJw.o.2.2);have Df:=ag (show aF (D6.setRow J (dG iJ)) I7 107 (dG iJ) from abb.o.kq yF HJw.o.2.1);have xP:=ag (ado.o.1.kq yF λq hq e=>by subst e;exact HJQ.o (ji hq qZ.o.lt));have mY:=ag (ala.o.ay yF λq e=> .inr (by have:=HJw.o.1;omega));have HU4:=ag (show∀q,Up U W3 D6 q->Q q\/w.heap.size<=q from λq hq=>by
   rcases hq with h1|h1
   ·exact HU.o q h1
   ·exact .inr (by have:=jU.o.size;omega))
  have ayI:=ag (show¬Up U W3 D6 T from λh=>HUT.o (ji h OU.o.lt));clear yF;generalize Up U W3 D6=U4 at*;generalize D6.setRow J (dG iJ)=W4 at*;refine hK.out _ _ (jA.o _ Ry.o Df.o) (λrY=>?_)
  try simp only[aO]
  refine eF 13 0 ?_;refine gB ?_;clear bJ gm kD rY Ah;obtain⟨y0,y1,y2,y3,y4,y5,y6,y7,y8,y9,zu⟩:=fG HJ4.o;have Jv:=ag (oP.o W4 _ xP.o Ry.o ayI.o);unfold dG at Jv;go_wp2_with fail;refine Jv.o.mono ?_;rintro e W5 ⟨rfl,Ef⟩;have Si:=ag Ef;clear Ef y0 y1 y2 y3 y4 y5 y6 y7 y8 y9 zu;go_wp2;go_ret;refine⟨rfl,HH.o.fin Si.o.1 (λq hq=>?_) (mY.o.ay Si.o.2 HU4.o) λq hq=> .inl hq⟩;rcases hq with h1|h1
  ·exact HU4.o q h1
  ·exact .inr (by have:=mY.o.size;omega)
end
end Go.Proofs.YtnieckfelfoopaaGreat

import Derived.Test.YtnieckfelfoopaaGreatFsMk
open Go.Proofs.Tryz (prog)
namespace Go.Proofs.YtnieckfelfoopaaGreat
open Lib (hid)
set_option maxRecDepth 100000
set_option maxHeartbeats 16000000
section
open Go.RowKit Go.Maps Go.ChangeMaps eX eu

theorem Vp {P:Program} {fn:Func} {p:Tmp} {ty:TypeId} (h:fn.results=#[.cell p ty]) (tmps:Array Value) (w:World) (g:Nat) (t:TypeId) (cs:Array Value) (fr:Nat×Nat) (d:TypeDesc)
  (hp:tmps.getD p undef= .pointer (some ⟨g,0,none⟩)) (hg:w.heap[g]?=some (.cells cs t fr))
  (hu:P.underlying ty=some d) (hd:(match d with| .struct _| .array _ _=>true|_=>false)=true) (hi:(P.info? ty).map (·.size)=some cs.size):
  (results fn tmps).run P w= .ok (.agg cs) w:=by
 have hp':tmps[p]?.getD undef= .pointer (some ⟨g,0,none⟩):=by simpa using hp
 simp[results,h,hp',asAddr,run_loadVar_row w g t ty cs fr d hg hu hd hi]
theorem GI {P:Program} {fn:Func} {p q:Tmp} {ty:TypeId} (h:fn.results=#[.cell p ty,.tmp q]) (tmps:Array Value) (w:World) (g:Nat) (t:TypeId) (cs:Array Value) (fr:Nat×Nat) (d:TypeDesc)
  (hp:tmps.getD p undef= .pointer (some ⟨g,0,none⟩)) (hg:w.heap[g]?=some (.cells cs t fr))
  (hu:P.underlying ty=some d) (hd:(match d with| .struct _| .array _ _=>true|_=>false)=true) (hi:(P.info? ty).map (·.size)=some cs.size) (v:Value) (hv:tmps.getD q undef=v):
  (results fn tmps).run P w= .ok (.tuple #[.agg cs,v]) w:=by
 have hp':tmps[p]?.getD undef= .pointer (some ⟨g,0,none⟩):=by simpa using hp
 have hv':tmps[q]?.getD undef=v:=by simpa using hv
 simp[results,h,hp',hv',asAddr,run_loadVar_row w g t ty cs fr d hg hu hd hi]
theorem ni:(prog.info? 53).map (·.size)=some 5:=az
section
variable {B X T Z:Nat} {Q:Nat->Prop} {w w':World} {f:Fm} {s:Ps} {xs:List (List UInt8)} {ns:Nat->Nat} {l:List UInt8}
def stC (no:Nat) (fi:Nf) (tk:Nat):Array Value:=#[.int .i64 no,.int .i64 fi.k,.int .i64 fi.l,.int .i64 fi.s,.int .i64 tk]
theorem aiS (no:Nat) (fi:Nf) (tk:Nat):(stC no fi tk).all (·.oneCell')=true:=by simp[stC,Value.oneCell']
theorem JY {no:Nat} {fi:Nf} (h:iQ B Q w X T Z f s) (hw:aN.Wf s fi.io):
  Calls prog 56 #[X,.int .i64 no,.agg (dG fi)] w λe w'=>∃tk:Nat,e= .returned (.agg (stC no fi tk))/\bT 32 B Q w' Z f s/\Kq Q w w':=by
 obtain⟨tk,htk⟩:=bu ((aN.yl s.g fi.io).length);have HTk:=ag (show∀W,bT 32 B Q W Z f s->Calls prog 109 #[Z,.agg #[.int .i64 fi.k,.int .i64 fi.l,.int .i64 fi.s,.int .i64 (nd fi 0),.int .i64 (nd fi 1),.int .i64 (nd fi 2),.int .i64 (nd fi 3),.int .i64 (nd fi 4),.int .i64 (nd fi 5),.int .i64 (fi.io.s:Int),.int .i64 (fi.io.b:Int)]] W λe w'=>e= .returned (.int .i64 tk)/\bT 32 B Q w' Z f s/\Kq Q W w' from λW hW=>by rw[htk];exact GV hW hw);have bK:=(Below.refl w.heap.size w).alloc (Nat.le_refl _) (.cells (dG fi) 107);have hi1:=aF.new w 107 (dG fi);obtain⟨w1,jw⟩:=bu (w.alloc (.cells (dG fi) 107));rw[<-jw] at bK hi1;have iO:w1.heap.size=w.heap.size+1:=by rw[jw,World.size_alloc]
 have aW:=(Below.refl w1.heap.size w1).alloc (Nat.le_refl _) (.cells #[.int .i64 0,.int .i64 0,.int .i64 0,.int .i64 0,.int .i64 0] 53);have QL:=aF.new w1 53 #[.int .i64 0,.int .i64 0,.int .i64 0,.int .i64 0,.int .i64 0];obtain⟨w2,jP⟩:=bu (w1.alloc (.cells #[.int .i64 0,.int .i64 0,.int .i64 0,.int .i64 0,.int .i64 0] 53));rw[<-jP] at aW QL;have Y9:=ag (hi1.ah aW);have JB:=ag ((h.on bK).on aW);have dA:=ag (bK.ay aW);have oQ:=ag (show aF w2 (w.heap.size+1) 53 #[.int .i64 0,.int .i64 0,.int .i64 0,.int .i64 0,.int .i64 0] from by rw[<-iO];exact QL);have UY:=ag (h.hP.aV (Nat.le_refl w.heap.size));have qY:=ag (show¬Q (w.heap.size+1) from h.hP.aV (Nat.le_succ w.heap.size));have HW:=ag (show w2=(w.alloc (.cells (dG fi) 107)).alloc (.cells #[.int .i64 0,.int .i64 0,.int .i64 0,.int .i64 0,.int .i64 0] 53) from by rw[jP,jw]);have HTb:=ag h.hP;clear h hw bK hi1 jw iO aW QL jP htk;unfold dG at HW
 go_in
 unfold dG;go_upto_region 1 with fail;rw[<-HW.o];clear HW;have iC:=ag (show Below w2.heap.size w2 w2.drew from ak w2);have jA:=ag (λW (h1:aF W w.heap.size 107 (dG fi)) (h2:aF W X 90 (fsA f.g.C T))=>And.intro h1 h2);refine iT (λW'=>aF W' w.heap.size 107 (dG fi)/\aF W' X 90 (fsA f.g.C T)) (jA.o _ (Y9.o.ah iC.o) (JB.o.on iC.o).hX) (λbJ=>?_);have Qm:=ag (Y9.o.ah iC.o);have F5:=ag (oQ.o.ah iC.o);have GH:=ag (JB.o.on iC.o);have HK0:=ag (show Kq Q w w2.drew from Kq.of (dA.o.ay iC.o));generalize w2.drew=W0 at*;refine eF 0 (no:Int) ?_;refine aS 1 w.heap.size 0 ?_;refine jH 2 fi.k (λ_ aI=>aI.1.aj (i:=0) (v:= .int .i64 fi.k) rfl) ?_;refine aS 3 w.heap.size 1 ?_;refine jH 4 fi.l (λ_ aI=>aI.1.aj (i:=1) (v:= .int .i64 fi.l) rfl) ?_;refine aS 5 w.heap.size 2 ?_;refine jH 6 fi.s (λ_ aI=>aI.1.aj (i:=2) (v:= .int .i64 fi.s) rfl) ?_;refine dP 7 X 0 ?_;refine aS 8 X 0 ?_;refine aS 9 X 1 ?_;refine tC 10 (.pointer (some ⟨T,0,none⟩)) (λ_ aI=>aI.2.aj (i:=1) (v:= .pointer (some ⟨T,0,none⟩)) rfl) ?_;refine jy 12 (.agg #[.int .i64 fi.k,.int .i64 fi.l,.int .i64 fi.s,.int .i64 (nd fi 0),.int .i64 (nd fi 1),.int .i64 (nd fi 2),.int .i64 (nd fi 3),.int .i64 (nd fi 4),.int .i64 (nd fi 5),.int .i64 (fi.io.s:Int),.int .i64 (fi.io.b:Int)]) rfl (λ_ aI=>by obtain⟨y0,y1,y2,y3,y4,y5,y6,y7,y8,y9,zu⟩:=fG aI.1;go_simp) ?_;refine dm 11 (λK' hK=>?_);go_simp;refine(mZ GH.o.hT).mono ?_;rintro e w_ ⟨rfl,rfl⟩;refine hK.out _ _ (jA.o _ Qm.o GH.o.hX) (λdH=>?_)
 try simp only[aO]
 refine dm 13 (λK' hK=>?_);go_simp;refine(HTk.o W0 GH.o.hP).mono ?_;rintro e w3 ⟨rfl,oq,jY⟩;have QG:=ag (GH.o.ask oq jY);have yL:=ag (Qm.o.kq jY UY.o);have rC:=ag (F5.o.kq jY qY.o);have jU:=ag (HK0.o.trans jY);clear oq jY;refine hK.out _ _ (jA.o _ yL.o QG.o.hX) (λkD=>?_)
 try simp only[aO]
 refine jy 14 (.agg (stC no fi tk)) rfl (λ_ aI=>by unfold stC;go_simp) ?_;refine dm 15 (λK' hK=>?_);refine uz rfl _ _ _ rfl (w.heap.size+1) (stC no fi tk) rfl rfl 53 _ rC.o ni rfl (aiS no fi tk) ?_;obtain⟨w4,yz⟩:=bu (w3.setRow (w.heap.size+1) (stC no fi tk));rw[<-yz];have oU:Kq (λq=>q=w.heap.size+1) w3 w4:=by rw[yz];exact eU _ _ _
 have UX:=ag (show aF w4 (w.heap.size+1) 53 (stC no fi tk) from by rw[yz];exact rC.o.row _);have xP:=ag (QG.o.hP.kq oU λq hq e=>qY.o (e▸hq));have HX4:=ag (QG.o.hX.kq oU λe=>by have:=(aF.lt (JB.o.hX));have h2:=oQ.o;have h3:=JB.o.hX;rw[e] at h3;have e2:=Option.some.inj (h2.symm.trans h3);injection e2 with _ e3 _;revert e3;decide);have Df:=ag (yL.o.kq oU ae);have mY:=ag (jU.o.ay oU λq hq=> .inr ae);refine hK.out _ _ (jA.o _ Df.o HX4.o) (λrY=>?_)
 try simp only[aO]
 refine gB ?_;clear yz oU bJ dH kD rY;go_wp2;refine bodyPost_ret (Vp rfl _ _ (w.heap.size+1) _ _ _ _ rfl UX.o Tryz.underlying53 rfl ni) rfl ?_;exact⟨tk,rfl,xP.o,mY.o⟩
end
end
section
open Go.RowKit Go.Maps Go.ChangeMaps eX eu

theorem QM {P:Program} {fn:Func} {o1 o2 o3 p q:Tmp} {ty:TypeId} (h:fn.results=#[.tmp o1,.tmp o2,.tmp o3,.cell p ty,.tmp q]) (tmps:Array Value) (w:World) (g:Nat) (t:TypeId) (cs:Array Value) (fr:Nat×Nat) (d:TypeDesc)
  (hp:tmps.getD p undef= .pointer (some ⟨g,0,none⟩)) (hg:w.heap[g]?=some (.cells cs t fr))
  (hu:P.underlying ty=some d) (hd:(match d with| .struct _| .array _ _=>true|_=>false)=true) (hi:(P.info? ty).map (·.size)=some cs.size) (u1 u2 u3 v:Value) (h1:tmps.getD o1 undef=u1) (h2:tmps.getD o2 undef=u2) (h3:tmps.getD o3 undef=u3) (hv:tmps.getD q undef=v):
  (results fn tmps).run P w= .ok (.tuple #[u1,u2,u3,.agg cs,v]) w:=by
 have hp':tmps[p]?.getD undef= .pointer (some ⟨g,0,none⟩):=by simpa using hp
 have h1':tmps[o1]?.getD undef=u1:=by simpa using h1
 have h2':tmps[o2]?.getD undef=u2:=by simpa using h2
 have h3':tmps[o3]?.getD undef=u3:=by simpa using h3
 have hv':tmps[q]?.getD undef=v:=by simpa using hv
 simp[results,h,hp',hv',h1',h2',h3',asAddr,run_loadVar_row w g t ty cs fr d hg hu hd hi]
section
variable {B X T Z:Nat} {Q:Nat->Prop} {w w':World} {f:Fm} {s:Ps} {xs:List (List UInt8)} {ns:Nat->Nat} {l nm:List UInt8}
theorem J3 {n0 no:Nat} {f0 fi:Nf} {X0 Xd:List UInt8} (h:iQ B Q w X T Z f s) (hl:l.length<=140737488351232) (hp:bV.parse l=(xs,0)) (h0:xs≠[]) (hx:xs.length<=100) (hy:Way s xs.dropLast ns) (hn:ns xs.dropLast.length=n0) (NV:xs.getLast?.getD []=nm)
  (hd0:jh s n0 f0 X0) (hf0:0<=(Dir.bY X0 nm).1) (hf1:(Dir.bY X0 nm).2=(no:Int)) (hd:jh s no fi Xd):
  Calls prog 50 #[X,.string (aJ l)] w λe w'=>e= .returned (.tuple #[.int .i64 n0,.string (aJ nm),.int .i64 no,.agg (dG fi),.int .i64 0])/\bT 32 B Q w' Z f s/\Kq Q w w':=by
 have qY:=ag (aF.new w 107 #[.int .i64 0,.int .i64 0,.int .i64 0,.int .i64 0,.int .i64 0,.int .i64 0,.int .i64 0,.int .i64 0,.int .i64 0,.int .i64 0,.int .i64 0]);have fF:=(Below.refl w.heap.size w).alloc (Nat.le_refl _) (.cells #[.int .i64 0,.int .i64 0,.int .i64 0,.int .i64 0,.int .i64 0,.int .i64 0,.int .i64 0,.int .i64 0,.int .i64 0,.int .i64 0,.int .i64 0] 107);have GH:=ag (h.on fF);have iC:=ag fF;have C9:=ag (h.hP.aV (Nat.le_refl w.heap.size));have HPa:=ag (λ(W:World) (hW:iQ B Q W X T Z f s)=>show Calls prog 44 #[X,.string (aJ l)] W λe w'=>e= .returned (.tuple #[.int .i64 n0,.string (aJ nm),.int .i64 0])/\bT 32 B Q w' Z f s/\Kq Q W w' from by have h:=qo hW hl hp h0 hx hy;rw[hn,NV] at h;exact h);have HFi:=ag (λ(W:World) (hW:iQ B Q W X T Z f s)=>show Calls prog 45 #[T,.int .i64 n0,.string (aJ nm)] W λe w'=>e= .returned (.tuple #[.int .i64 no,.int .i64 0])/\bT 32 B Q w' Z f s/\Kq Q W w' from by have h:=yM hW.hP hW.hT hW.nT hd0 nm hf0;rw[hf1] at h;exact h);have HI:=ag (show∀W:World,bT 32 B Q W Z f s->oV W T Z->Calls prog 79 #[T,.int .i64 no] W λe w'=>e= .returned (.tuple #[.agg (dG fi),.int .i64 0])/\bT 32 B Q w' Z f s/\Kq Q W w' from λW hW hT=>by have h:=jC hW hT hd.lo hd.hi hd.big hd.pg;rw[hd.nd,hd.er] at h;exact h);clear h hl hp h0 hx hy hn NV hd0 hf0 hf1 hd fF
 go_in
 go_wp2_with fail;obtain⟨Rp,NT⟩:=bu w.heap.size;rw[<-NT] at qY C9⊢;have NS:=ag (show w.heap.size<=Rp from ae);clear NT;generalize w.alloc (.cells #[.int .i64 0,.int .i64 0,.int .i64 0,.int .i64 0,.int .i64 0,.int .i64 0,.int .i64 0,.int .i64 0,.int .i64 0,.int .i64 0,.int .i64 0] 107)=w0 at*;refine(HPa.o w0 GH.o).mono ?_;rintro e w1 ⟨rfl,Dh,iy⟩;have uZ:=ag (GH.o.ask Dh iy);have yA:=ag (qY.o.kq iy C9.o);have mF:=ag (show Kq Q w w1 from(Kq.of iC.o).trans iy);have c1:=uZ.o.c1;clear Dh iy;go_wp2_with fail;refine(HFi.o w1 uZ.o).mono ?_;rintro e w2 ⟨rfl,iU,fA⟩;have JB:=ag (uZ.o.ask iU fA);have oQ:=ag (yA.o.kq fA C9.o);have rD:=ag (mF.o.trans fA);have c1:=JB.o.c1;clear iU fA;go_wp2_with fail;refine(HI.o w2 JB.o.hP JB.o.hT).mono ?_;rintro e w3 ⟨rfl,oq,jY⟩;have QG:=ag (JB.o.ask oq jY);have rC:=ag (oQ.o.kq jY C9.o);have jU:=ag (rD.o.trans jY);clear oq jY;have qZ:=ag (aF.new w3 107 #[.int .i64 0,.int .i64 0,.int .i64 0,.int .i64 0,.int .i64 0,.int .i64 0,.int .i64 0,.int .i64 0,.int .i64 0,.int .i64 0,.int .i64 0]);obtain⟨w4,yz⟩:=bu ((w3.alloc (.cells #[.int .i64 0,.int .i64 0,.int .i64 0,.int .i64 0,.int .i64 0,.int .i64 0,.int .i64 0,.int .i64 0,.int .i64 0,.int .i64 0,.int .i64 0] 107)).setRow w3.heap.size (dG fi));have di:Below w3.heap.size w3 w4:=by rw[yz];exact((Below.refl _ w3).alloc (Nat.le_refl _) _).cO (Nat.le_refl _) _
 have hi4:aF w4 w3.heap.size 107 (dG fi):=by rw[yz];exact qZ.o.row _
 have UW:=ag yz;have HH4:=ag (QG.o.on di);have UX:=ag (rC.o.ah di);have mY:=ag (jU.o.on di);have ack:=ag (show Rp≠w3.heap.size from by have:=rC.o.lt;omega);have Df:=ag hi4;clear yz di hi4 QG rC jU;unfold dG at UW
 go_upto_region 8 with(refine aC rfl rfl _ _ _ rfl w3.heap.size #[.int .i64 fi.k,.int .i64 fi.l,.int .i64 fi.s,.int .i64 (nd fi 0),.int .i64 (nd fi 1),.int .i64 (nd fi 2),.int .i64 (nd fi 3),.int .i64 (nd fi 4),.int .i64 (nd fi 5),.int .i64 (fi.io.s:Int),.int .i64 (fi.io.b:Int)] rfl rfl 107 #[.int .i64 0,.int .i64 0,.int .i64 0,.int .i64 0,.int .i64 0,.int .i64 0,.int .i64 0,.int .i64 0,.int .i64 0,.int .i64 0,.int .i64 0] qZ.o rfl dD (qm fi) ?_;rw[<-UW.o])
 obtain⟨Ib,hIb⟩:=bu w3.heap.size;rw[<-hIb] at Df ack⊢;clear hIb UW qZ;have pV:=ag (show Below w4.heap.size w4 w4.drew from ak w4);have HIf:=ag (λW (h1:aF W Ib 107 (dG fi))=>h1);refine iT (λW'=>aF W' Ib 107 (dG fi)) (HIf.o _ (Df.o.ah pV.o)) (λbJ=>?_);have F5:=ag (UX.o.ah pV.o);have Qm:=ag (Df.o.ah pV.o);have GH:=ag (HH4.o.on pV.o);have HK0:=ag (mY.o.on pV.o);generalize w4.drew=W0 at*;refine eF 0 (n0:Int) ?_;refine fB 1 (.string (aJ nm)) ?_;refine eF 2 (no:Int) ?_;refine jy 3 (.agg #[.int .i64 fi.k,.int .i64 fi.l,.int .i64 fi.s,.int .i64 (nd fi 0),.int .i64 (nd fi 1),.int .i64 (nd fi 2),.int .i64 (nd fi 3),.int .i64 (nd fi 4),.int .i64 (nd fi 5),.int .i64 (fi.io.s:Int),.int .i64 (fi.io.b:Int)]) rfl (λ_ aI=>by obtain⟨y0,y1,y2,y3,y4,y5,y6,y7,y8,y9,zu⟩:=fG aI;go_simp) ?_;refine eF 4 0 ?_;refine eF 5 (n0:Int) ?_;refine fB 6 (.string (aJ nm)) ?_;refine eF 7 (no:Int) ?_;refine dm 8 (λK' hK=>?_);refine uz rfl _ _ _ rfl Rp (dG fi) rfl rfl 107 _ F5.o dD rfl (qm fi) ?_;obtain⟨w6,xJ⟩:=bu (W0.setRow Rp (dG fi));rw[<-xJ];have lI:Kq (λq=>q=Rp) W0 w6:=by rw[xJ];exact eU _ _ _
 have QH:=ag (show aF w6 Rp 107 (dG fi) from by rw[xJ];exact F5.o.row _);have EW:=ag (Qm.o.kq lI ack.o.symm);refine hK.out _ _ (HIf.o _ EW.o) (λrE=>?_)
 try simp only[aO]
 refine eF 9 0 ?_;refine gB ?_;have Y6:=ag (GH.o.hP.kq lI λq hq e=>C9.o (e▸hq));have uu:=ag (HK0.o.ay lI λq hq=> .inr (by rw[hq];exact NS.o));clear xJ lI bJ rE;go_wp2;refine bodyPost_ret (QM rfl _ _ Rp _ _ _ _ rfl QH.o Tryz.underlying107 rfl dD _ _ _ _ rfl rfl rfl rfl) rfl ?_;exact⟨rfl,Y6.o,uu.o⟩
end
end
section
open Go.RowKit

theorem pz {a:Option Addr} {n c:Nat} {xs:List (List UInt8)} {w:World} (hx:jg jV w w.heap.size a n xs) (hn:n<=1000):
  Calls prog 49 #[.slice a n c] w λe w'=>(∃v,e= .returned v/\Own jV 9 w' w.heap.size v xs)/\Below w.heap.size w w':=by
 obtain⟨hl,_,hc⟩:=id hx;by_cases h0:n=0
 ·subst h0;have hxs:xs=[]:=List.length_eq_zero_iff.1 hl;subst hxs
  cases a with
  |none=>
   refine(Tryz.slices_Clone_string_nil 0 c w).mono ?_;rintro e w' ⟨rfl,rfl⟩;exact⟨⟨_,rfl,Own.nil _ _⟩,Below.refl _ _⟩
  |some p=>
   refine(Tryz.slices_Clone_string_zero p c w).mono ?_;rintro e w' ⟨v,rfl,ho,_,hb⟩;exact⟨⟨v,rfl,ho⟩,hb⟩
 ·obtain⟨b,o,rfl,hb,zy⟩:=hc h0;refine(Tryz.slices_Clone_string b o n c (xs.map aJ) w (by rw[List.length_map];omega) ae λj hj=>?_).mono ?_
  ·rw[List.length_map] at hj;rw[zy j hj];simp[jV,hj]
  ·rintro e w' ⟨v,rfl,ho,_,hb⟩;refine⟨⟨v,rfl,?_⟩,hb⟩;unfold Own;rw[List.take_of_length_le (by rw[List.length_map];omega),List.map_map] at ho;rw[hl];exact ho
end
section
open Go.RowKit Go.Maps Go.ChangeMaps eX eu

section
variable {B X T Z:Nat} {Q:Nat->Prop} {w w':World} {f:Fm} {s s0:Ps} {xs ys:List (List UInt8)} {la lb na nb:List UInt8}
theorem w64 (x:Int) (h: -1000<=x/\x<=1000):wrap64 x=x:=by unfold wrap64;omega
theorem agq {d m:Nat} (h:d+1+m<=16):∃tot:Int,wrap64 ((d:Int)+1)=(d:Int)+1/\wrap64 ((d:Int)+1+(m:Int))=tot/\¬(16:Int)<tot:=
 ⟨(d:Int)+1+(m:Int),w64 _ ae,w64 _ ae,ae⟩
theorem split_ok {l:List UInt8} {xs:List (List UInt8)} {nm:List UInt8} (hl:l.length<=140737488351232) (hp:bV.parse l=(xs,0)) (h0:xs≠[]) (hn:xs.getLast?.getD []=nm) (W:World):
  Calls prog 47 #[.string (aJ l)] W λe w'=>(∃a n c,e= .returned (.tuple #[.slice a n c,.string (aJ nm),.int .i64 0])/\Own jV 9 w' W.heap.size (.slice a n c) xs.dropLast/\n<=c)/\Below W.heap.size W w':=by
 have h:=wu l W hl;unfold GX at h;rw[LH hp h0,hn] at h;exact h
theorem CZ {P:Fm->Prop} (h:iQ B Q w X T Z f s) (CG:Calls prog 32 #[X] w (acb B Q w X T Z s0 P))
  (ha:la.length<=140737488351232) (hpa:bV.parse la=(xs,0)) (h0a:xs≠[]) (hna:xs.getLast?.getD []=na) (hb:lb.length<=140737488351232) (hpb:bV.parse lb=(ys,0)) (h0b:ys≠[]) (oC:ys.getLast?.getD []=nb) (hx:xs.length<=100/\ys.length<=100)
  (hin:bV.xM (ys.dropLast++[nb]) (xs.dropLast++[na])=true):
  Calls prog 19 #[X,.string (aJ la),.string (aJ lb)] w λe w'=>e= .returned (.int .i64 70)/\∃f',P f'/\Ee B Q w w' X T Z f' s0:=by
 have HSa:=ag (λW=>split_ok ha hpa h0a hna W);have HSb:=ag (λW=>split_ok hb hpb h0b oC W);have Vq:=ag hx;have UY:=ag hin;have HCh:=ag CG;have HH:=ag h;clear h CG ha hpa h0a hna hb hpb h0b oC hx hin
 go_in
 go_wp2_with fail;refine HCh.o.mono ?_;rintro e w1 ⟨rfl,f1,XW,LJ⟩;have HPf:=ag XW;have yA:=ag LJ;clear LJ XW;go_wp2_with fail;refine(HSa.o w1).mono ?_;rintro e w2 ⟨⟨a1,n1,c1,rfl,UZ,auQ⟩,aW⟩;have XX:=ag (show n1=xs.dropLast.length from by obtain⟨_,_,e1,_⟩:=UZ.form;injection e1);have HA1:=ag (UZ.arr (by rw[List.length_dropLast];have:=Vq.o.1;omega));have GY:=ag aW;clear UZ aW;go_wp2_with fail;refine(HSb.o w2).mono ?_;rintro e w3 ⟨⟨a2,n2,c2,rfl,J4,auR⟩,bQ⟩;have xQ:=ag (show n2=ys.dropLast.length from by obtain⟨_,_,e1,_⟩:=J4.form;injection e1);have HA2:=ag (J4.arr (by rw[List.length_dropLast];have:=Vq.o.2;omega));have acn:=ag bQ;clear J4 bQ;go_wp2_with fail;refine(pz HA2.o (by rw[xQ.o,List.length_dropLast];have:=Vq.o.2;omega)).mono ?_;rintro e w4 ⟨⟨v4,rfl,yB⟩,di⟩;have vJ:=ag yB;have aco:=ag di;have Vr:w3.heap.size<=w4.heap.size:=di.size;clear yB di
 go_wp2_with (at_builtin;refine rF rfl _ _ rfl w3.heap.size _ ys.dropLast rfl vJ.o 1 [nb] rfl rfl rfl (by rw[List.length_dropLast];have:=Vq.o.2;omega) Vr ?_;intro v5 w5 GZ acp)
 have NW:=ag ((acn.o.ay aco.o).trans (acp.o.mono acn.o.size));have HA5:=ag ((HA1.o.below NW.o).mono NW.o.size);refine(pz HA5.o (by rw[XX.o,List.length_dropLast];have:=Vq.o.1;omega)).mono ?_;rintro e w6 ⟨⟨v6,rfl,QN⟩,iI⟩;have Eg:=ag QN;have acr:=ag iI;have acs:w5.heap.size<=w6.heap.size:=iI.size;clear QN iI
 go_wp2_with (at_builtin;refine rF rfl _ _ rfl w5.heap.size _ xs.dropLast rfl Eg.o 1 [na] rfl rfl rfl (by rw[List.length_dropLast];have:=Vq.o.1;omega) acs ?_;intro v7 w7 vK Vs)
 have Vt:=ag (acr.o.trans Vs.o);have Vu:=ag (GZ.o.on Vt.o);obtain⟨a5,c5,hv5,QO⟩:=Vu.o.form;obtain⟨a7,c7,hv7,hc7⟩:=vK.o.form;have acu:=ag (show Own jV 9 w7 w3.heap.size (.slice a5 (ys.dropLast++[nb]).length c5) (ys.dropLast++[nb]) from by rw[<-hv5];exact Vu.o);have acv:=ag (show Own jV 9 w7 w5.heap.size (.slice a7 (xs.dropLast++[na]).length c7) (xs.dropLast++[na]) from by rw[<-hv7];exact vK.o);have hdl:(ys.dropLast++[nb]).length<=1000/\(xs.dropLast++[na]).length<=1000:=by have:=Vq.o;rw[List.length_append,List.length_append,List.length_dropLast,List.length_dropLast];simp only[List.length_singleton];omega
 subst hv5;subst hv7;refine(Au _ _ _ _ _ _ _ _ w7 (acu.o.arr ae) (acv.o.arr ae) QO).mono ?_;rintro e w8 ⟨rfl,kQ⟩;rw[UY.o];have akm:=ag (show Below w1.heap.size w1 w8 from((GY.o.ay NW.o).ay Vt.o).ay kQ);have LK:=ag (yA.o.on akm.o HH.o);have auS:=ag (show Below w2.heap.size w2 w8 from(NW.o.ay Vt.o).ay kQ);clear kQ hdl vJ GZ Eg vK Vu acu acv HA5 HA1 HA2 Vr acs acp aco acr Vs;go_wp2;go_ret;exact⟨rfl,f1,HPf.o,LK.o⟩
theorem GR {P:Fm->Prop} {s1 s2:Ps} {fi:Nf} {m:Nat} (h:iQ B Q w X T Z f s) (CG:Calls prog 32 #[X] w (acb B Q w X T Z s0 P))
  (ha:la.length<=140737488351232) (hpa:bV.parse la=(xs,0)) (h0a:xs≠[]) (hna:xs.getLast?.getD []=na) (hb:lb.length<=140737488351232) (hpb:bV.parse lb=(ys,0)) (h0b:ys≠[]) (oC:ys.getLast?.getD []=nb) (hx:xs.length<=100/\ys.length<=100)
  (hin:bV.xM (ys.dropLast++[nb]) (xs.dropLast++[na])=false) (hm:ys.dropLast.length+1+m<=16)
  (hNa:∀(g:Fm) (W:World) (U:Nat->Prop),iQ B U W X T Z g s0->Calls prog 50 #[X,.string (aJ la)] W λe w'=>e= .returned (.tuple #[.int .i64 1,.string (aJ na),.int .i64 2,.agg (dG fi),.int .i64 0])/\bT 32 B U w' Z g s0/\Kq U W w')
  (hPb:∀(g:Fm) (W:World) (U:Nat->Prop),iQ B U W X T Z g s0->Calls prog 44 #[X,.string (aJ lb)] W λe w'=>e= .returned (.tuple #[.int .i64 1,.string (aJ nb),.int .i64 0])/\bT 32 B U w' Z g s0/\Kq U W w')
  (hFb:∀(g:Fm) (W:World) (U:Nat->Prop),iQ B U W X T Z g s0->Calls prog 45 #[T,.int .i64 1,.string (aJ nb)] W λe w'=>e= .returned (.tuple #[.int .i64 0,.int .i64 60])/\bT 32 B U w' Z g s0/\Kq U W w')
  (hDe:∀(g:Fm) (W:World) (U:Nat->Prop),iQ B U W X T Z g s0->Calls prog 51 #[X,.int .i64 2] W λe w'=>e= .returned (.int .i64 m)/\bT 32 B U w' Z g s0/\Kq U W w')
  (hAd:∀(g:Fm) (W:World) (U:Nat->Prop),iQ B U W X T Z g s0->Calls prog 52 #[T,.int .i64 1,.string (aJ nb),.int .i64 2] W λe w'=>e= .returned (.int .i64 0)/\jJ 32 B U W w' Z g s1)
  (hRm:∀(g:Fm) (W:World) (U:Nat->Prop),iQ B U W X T Z g s1->Calls prog 54 #[T,.int .i64 1,.string (aJ na)] W λe w'=>e= .returned (.int .i64 0)/\jJ 32 B U W w' Z g s2):
  Calls prog 19 #[X,.string (aJ la),.string (aJ lb)] w λe w'=>e= .returned (.int .i64 0)/\∃f',P f'/\Ee B Q w w' X T Z f' s2:=by
 have HSa:=ag (λW=>split_ok ha hpa h0a hna W);have HSb:=ag (λW=>split_ok hb hpb h0b oC W);have Vq:=ag hx;have UY:=ag hin;have HCh:=ag CG;have HH:=ag h;have HMm:=ag hm;have HNa:=ag hNa;have HPb:=ag hPb;have HFb:=ag hFb;have HDe:=ag hDe;have HAd:=ag hAd;have XY:=ag hRm;clear h CG ha hpa h0a hna hb hpb h0b oC hx hin hm hNa hPb hFb hDe hAd hRm
 go_in
 go_wp2_with fail;refine HCh.o.mono ?_;rintro e w1 ⟨rfl,f1,XW,LJ⟩;have HPf:=ag XW;have yA:=ag LJ;clear LJ XW;go_wp2_with fail;refine(HSa.o w1).mono ?_;rintro e w2 ⟨⟨a1,n1,c1,rfl,UZ,auQ⟩,aW⟩;have XX:=ag (show n1=xs.dropLast.length from by obtain⟨_,_,e1,_⟩:=UZ.form;injection e1);have HA1:=ag (UZ.arr (by rw[List.length_dropLast];have:=Vq.o.1;omega));have GY:=ag aW;clear UZ aW;go_wp2_with fail;refine(HSb.o w2).mono ?_;rintro e w3 ⟨⟨a2,n2,c2,rfl,J4,auR⟩,bQ⟩;have xQ:=ag (show n2=ys.dropLast.length from by obtain⟨_,_,e1,_⟩:=J4.form;injection e1);have HA2:=ag (J4.arr (by rw[List.length_dropLast];have:=Vq.o.2;omega));have acn:=ag bQ;clear J4 bQ;go_wp2_with fail;refine(pz HA2.o (by rw[xQ.o,List.length_dropLast];have:=Vq.o.2;omega)).mono ?_;rintro e w4 ⟨⟨v4,rfl,yB⟩,di⟩;have vJ:=ag yB;have aco:=ag di;have Vr:w3.heap.size<=w4.heap.size:=di.size;clear yB di
 go_wp2_with (at_builtin;refine rF rfl _ _ rfl w3.heap.size _ ys.dropLast rfl vJ.o 1 [nb] rfl rfl rfl (by rw[List.length_dropLast];have:=Vq.o.2;omega) Vr ?_;intro v5 w5 GZ acp)
 have NW:=ag ((acn.o.ay aco.o).trans (acp.o.mono acn.o.size));have HA5:=ag ((HA1.o.below NW.o).mono NW.o.size);refine(pz HA5.o (by rw[XX.o,List.length_dropLast];have:=Vq.o.1;omega)).mono ?_;rintro e w6 ⟨⟨v6,rfl,QN⟩,iI⟩;have Eg:=ag QN;have acr:=ag iI;have acs:w5.heap.size<=w6.heap.size:=iI.size;clear QN iI
 go_wp2_with (at_builtin;refine rF rfl _ _ rfl w5.heap.size _ xs.dropLast rfl Eg.o 1 [na] rfl rfl rfl (by rw[List.length_dropLast];have:=Vq.o.1;omega) acs ?_;intro v7 w7 vK Vs)
 have Vt:=ag (acr.o.trans Vs.o);have Vu:=ag (GZ.o.on Vt.o);obtain⟨a5,c5,hv5,QO⟩:=Vu.o.form;obtain⟨a7,c7,hv7,hc7⟩:=vK.o.form;have acu:=ag (show Own jV 9 w7 w3.heap.size (.slice a5 (ys.dropLast++[nb]).length c5) (ys.dropLast++[nb]) from by rw[<-hv5];exact Vu.o);have acv:=ag (show Own jV 9 w7 w5.heap.size (.slice a7 (xs.dropLast++[na]).length c7) (xs.dropLast++[na]) from by rw[<-hv7];exact vK.o);have hdl:(ys.dropLast++[nb]).length<=1000/\(xs.dropLast++[na]).length<=1000:=by have:=Vq.o;rw[List.length_append,List.length_append,List.length_dropLast,List.length_dropLast];simp only[List.length_singleton];omega
 subst hv5;subst hv7;refine(Au _ _ _ _ _ _ _ _ w7 (acu.o.arr ae) (acv.o.arr ae) QO).mono ?_;rintro e w8 ⟨rfl,kQ⟩;rw[UY.o];have akm:=ag (show Below w1.heap.size w1 w8 from((GY.o.ay NW.o).ay Vt.o).ay kQ);have LK:=ag (yA.o.on akm.o HH.o);have auS:=ag (show Below w2.heap.size w2 w8 from(NW.o.ay Vt.o).ay kQ);clear kQ hdl vJ GZ Eg vK Vu acu acv HA5 HA1 HA2 Vr acs acp aco acr Vs;have hlT:=HH.o.ltT;have hlX:=HH.o.ltX;go_wp2_with fail;refine(HNa.o f1 w8 _ LK.o.1).mono ?_;rintro e w9 ⟨rfl,Za,NY⟩;have HR9:=ag (LK.o.ay (LK.o.1.NQ Za NY) hlT hlX);clear Za NY;have HN9:=ag (aF.new w9 107 #[.int .i64 0,.int .i64 0,.int .i64 0,.int .i64 0,.int .i64 0,.int .i64 0,.int .i64 0,.int .i64 0,.int .i64 0,.int .i64 0,.int .i64 0]);obtain⟨wa,hwa⟩:=bu ((w9.alloc (.cells #[.int .i64 0,.int .i64 0,.int .i64 0,.int .i64 0,.int .i64 0,.int .i64 0,.int .i64 0,.int .i64 0,.int .i64 0,.int .i64 0,.int .i64 0] 107)).setRow w9.heap.size (dG fi));have fQ:Below w9.heap.size w9 wa:=by rw[hwa];exact((Below.refl _ w9).alloc (Nat.le_refl _) _).cO (Nat.le_refl _) _
 have HRa:=ag (HR9.o.on fQ HH.o);have HWa:=ag hwa;clear hwa fQ;unfold dG at HWa
 go_wp2_with (refine aC rfl rfl _ _ _ rfl w9.heap.size #[.int .i64 fi.k,.int .i64 fi.l,.int .i64 fi.s,.int .i64 (nd fi 0),.int .i64 (nd fi 1),.int .i64 (nd fi 2),.int .i64 (nd fi 3),.int .i64 (nd fi 4),.int .i64 (nd fi 5),.int .i64 (fi.io.s:Int),.int .i64 (fi.io.b:Int)] rfl rfl 107 #[.int .i64 0,.int .i64 0,.int .i64 0,.int .i64 0,.int .i64 0,.int .i64 0,.int .i64 0,.int .i64 0,.int .i64 0,.int .i64 0,.int .i64 0] HN9.o rfl dD (qm fi) ?_;rw[<-HWa.o])
 refine(HPb.o f1 wa _ HRa.o.1).mono ?_;rintro e wb ⟨rfl,hpb,hkb⟩;have HRb:=ag (HRa.o.ay (HRa.o.1.NQ hpb hkb) hlT hlX);have x1:=HRb.o.1.c1;clear hpb hkb;go_wp2_with fail;refine(HFb.o f1 wb _ HRb.o.1).mono ?_;rintro e wc ⟨rfl,QI,hkc⟩;have HRc:=ag (HRb.o.ay (HRb.o.1.NQ QI hkc) hlT hlX);clear QI hkc x1;go_wp2_with fail;refine(HDe.o f1 wc _ HRc.o.1).mono ?_;rintro e wd ⟨rfl,hpd,hkd⟩;have yN:=ag (HRc.o.ay (HRc.o.1.NQ hpd hkd) hlT hlX);have x1:=yN.o.1.c1;clear hpd hkd;have hm:=HMm.o;rw[<-xQ.o] at hm;obtain⟨tot,q1,q2,q3⟩:=agq hm;clear hm;go_wp2_with fail;refine(HAd.o f1 wd _ yN.o.1).mono ?_;rintro e we ⟨rfl,NK⟩;have NS:=ag (yN.o.ay (yN.o.1.ofR NK rfl) hlT hlX);have x1:=NS.o.1.c1;clear NK;go_wp2_with fail;refine(XY.o f1 we _ NS.o.1).mono ?_;rintro e wf ⟨rfl,XW⟩;have HRf:=ag (NS.o.ay (NS.o.1.ofR XW rfl) hlT hlX);clear XW;go_wp2;go_ret;exact⟨rfl,f1,HPf.o,HRf.o⟩
end
end
end Go.Proofs.YtnieckfelfoopaaGreat

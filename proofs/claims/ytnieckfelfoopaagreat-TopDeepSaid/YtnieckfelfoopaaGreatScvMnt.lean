import Derived.Test.YtnieckfelfoopaaGreatScvWalk
open Go.Proofs.Tryz (prog)
namespace Go.Proofs.YtnieckfelfoopaaGreat
open Lib (hid)
set_option maxRecDepth 100000
set_option maxHeartbeats 16000000
section
open Go.RowKit Go.Maps Go.ChangeMaps eX eu Ed Opn

attribute [local go_sem] Oper.semAt_some

theorem Yf (w:World) (B:Nat):Bytes w B none 0 []:=jg.none_ _ _ _
theorem OC (c:Nat) (w:World):Calls prog 217 #[.slice none 0 c] w λe w'=>e= .returned (.int .i64 0)/\Below w.heap.size w w':=by have h:=Et none 0 c [] w (Yf _ _) (Nat.zero_le _);rw[show Dir.wL []=0 from lH] at h;exact h
def DrI (H V:Nat) (w:World) (W:World):Prop:=aF W V 252 #[.slice none 0 0]/\Below H w W
theorem Zz (H V C B:Nat) (w:World) (h1:V≠C) (h2:H<=C) (h3:H<=B) (hw:H<=w.heap.size):df C B (DrI H V w):=(aF.iZ h1).and (lM h2 h3 hw)
theorem OD (Sr:Nat) (F U K I:Nat) (r1:Int) (n:Int) (w:World) (hs:aF w Sr 192 (x9 F U K I r1)):
  Calls prog 177 #[Sr,.int .i64 n,.agg #[.int .i64 2,.int .i64 1,.int .i64 0,.int .i64 0,.int .i64 0,.int .i64 0,.int .i64 0,.int .i64 0,.int .i64 0,.int .i64 0,.int .i64 0]] w λe w'=>e= .returned (.tuple #[.slice none 0 0,.bool true])/\Below w.heap.size w w':=by
 have HS:=ag hs;clear hs;refine callsIn_wide (n:=9)|>.1 ?_;refine callsIn_of_wp_marks Tryz.func177 rfl trivial ?_ rfl;refine wpIn_wide.2 ?_;simp only[Tryz.ntmps177,List.size_toArray,List.length_cons,List.length_nil,Nat.reduceAdd,Nat.reduceSub,Array.replicate_succ,Array.replicate_zero,List.push_toArray,List.append_toArray,List.nil_append,List.cons_append];have Ya:=ag (((aF.new w 107 #[.int .i64 2,.int .i64 1,.int .i64 0,.int .i64 0,.int .i64 0,.int .i64 0,.int .i64 0,.int .i64 0,.int .i64 0,.int .i64 0,.int .i64 0]).alloc (.cells #[.slice none 0 0] 23)).alloc (.cells #[.int .i64 0] 3));have HV0:=ag ((aF.new (w.alloc (.cells #[.int .i64 2,.int .i64 1,.int .i64 0,.int .i64 0,.int .i64 0,.int .i64 0,.int .i64 0,.int .i64 0,.int .i64 0,.int .i64 0,.int .i64 0] 107)) 23 #[.slice none 0 0]).alloc (.cells #[.int .i64 0] 3));have V5:=ag (aF.new ((w.alloc (.cells #[.int .i64 2,.int .i64 1,.int .i64 0,.int .i64 0,.int .i64 0,.int .i64 0,.int .i64 0,.int .i64 0,.int .i64 0,.int .i64 0,.int .i64 0] 107)).alloc (.cells #[.slice none 0 0] 23)) 3 #[.int .i64 0]);have fF:Below w.heap.size w (((w.alloc (.cells #[.int .i64 2,.int .i64 1,.int .i64 0,.int .i64 0,.int .i64 0,.int .i64 0,.int .i64 0,.int .i64 0,.int .i64 0,.int .i64 0,.int .i64 0] 107)).alloc (.cells #[.slice none 0 0] 23)).alloc (.cells #[.int .i64 0] 3)):=(((Below.refl _ w).alloc (Nat.le_refl _) _).alloc au _).alloc (by simp;omega) _;have iC:=ag fF;obtain⟨j0,j1,j2,j3,j4,j5,j6,j7,j8,j9,j10⟩:=Ya.o.c11;clear fF;go_wp2_with fail;refine(Hy Sr F U K I r1 n 228 _ _ (HS.o.ah iC.o)).mono ?_;rintro e W1 ⟨rfl,bK⟩;have J7:=ag (Ya.o.ah bK);have HV1:=ag (HV0.o.ah bK);have uw:=ag (V5.o.ah bK);have dw:=ag (iC.o.ay bK);rw[World.size_alloc] at HV1;rw[World.size_alloc,World.size_alloc] at uw;obtain⟨J,hJ⟩:=bu w.heap.size;obtain⟨V,hV⟩:=bu (w.heap.size+1);obtain⟨P,hP⟩:=bu (w.heap.size+1+1);rw[<-hJ] at J7;rw[<-hV] at HV1;rw[<-hP] at uw;rw[<-hP,<-hV,<-hJ];clear hJ hV hP bK Ya HV0 V5 iC j0 j1 j2 j3 j4 j5 j6 j7 j8 j9 j10;have nZ:=ag (HS.o.ah dw.o);go_upto_region 5 with fail;have jA:=ag (λW (h1:aF W Sr 192 (x9 F U K I r1)) (h2:aF W J 107 #[.int .i64 2,.int .i64 1,.int .i64 0,.int .i64 0,.int .i64 0,.int .i64 0,.int .i64 0,.int .i64 0,.int .i64 0,.int .i64 0,.int .i64 0]) (h3:aF W V 23 #[.slice none 0 0]) (h4:aF W P 3 #[.int .i64 0])=>And.intro h1 (And.intro h2 (And.intro h3 h4)));have dA:=ag (dw.o.ay (ak W1));have HJ2:=ag (J7.o.ah (ak W1));have HV2:=ag (HV1.o.ah (ak W1));have pF:=ag (uw.o.ah (ak W1));have wJ:=ag (nZ.o.ah (ak W1));refine iT (λW'=>aF W' Sr 192 (x9 F U K I r1)/\aF W' J 107 #[.int .i64 2,.int .i64 1,.int .i64 0,.int .i64 0,.int .i64 0,.int .i64 0,.int .i64 0,.int .i64 0,.int .i64 0,.int .i64 0,.int .i64 0]/\aF W' V 23 #[.slice none 0 0]/\aF W' P 3 #[.int .i64 0]) (jA.o _ wJ.o HJ2.o HV2.o pF.o) (λbJ=>?_);generalize W1.drew=W2 at*;refine jH 0 0 (λ_ aI=>aI.2.2.2.aj (i:=0) rfl) ?_;refine dP 1 Sr 0 ?_;refine aS 2 Sr 0 ?_;refine aS 3 Sr 5 ?_;refine jH 4 64 (λ_ aI=>aI.1.aj (i:=5) (v:= .int .i64 64) rfl) ?_;refine jy 5 (.int .i64 0) rfl (λ_ aI=>by(have y9:IntKind.i64.wrap 0=0:=by decide);go_simp) ?_;refine aS 6 J 2 ?_;refine jH 7 0 (λ_ aI=>aI.2.1.aj (i:=2) (v:= .int .i64 0) rfl) ?_;refine fE 8 (.bool false) ?_;refine fB 9 (.bool false) ?_;refine tC 10 (.slice none 0 0) (λ_ aI=>aI.2.2.1.aj (i:=0) rfl) ?_;refine aS 11 J 2 ?_;refine jH 12 0 (λ_ aI=>aI.2.1.aj (i:=2) (v:= .int .i64 0) rfl) ?_;refine fE 13 (.slice none 0 0) ?_;refine dm 14 (λK' hK=>?_);go_simp;refine(OC 0 W2).mono ?_;rintro e W3 ⟨rfl,bQ⟩;have dE:=ag (dA.o.ay bQ);have HJ3:=ag (HJ2.o.ah bQ);have HV3:=ag (HV2.o.ah bQ);have mP:=ag (pF.o.ah bQ);have Aa:=ag (wJ.o.ah bQ);clear bQ;refine hK.out _ _ (jA.o _ Aa.o HJ3.o HV3.o mP.o) (λkD=>?_)
 try simp only[aO]
 refine fE 15 (.bool false) ?_;refine fE 16 (.bool false) ?_;refine gB ?_;clear bJ kD jA wJ HJ2 HV2 pF nZ J7 HV1 uw;have di:=(Below.refl W3.heap.size W3).alloc (Nat.le_refl _) (.cells #[.slice none 0 0] 252);have HE4:=ag (aF.new W3 252 #[.slice none 0 0]);have kL:=ag (dE.o.ay di);have v0:=(HV3.o.ah di).aj (i:=0) rfl;have j2:=(HJ3.o.ah di).aj (i:=2) rfl;have HEl:=ag (show w.heap.size<=W3.heap.size from dE.o.size);clear di;go_wp2_with fail;obtain⟨E,hE⟩:=bu W3.heap.size;rw[<-hE] at HE4 HEl⊢;clear hE;generalize W3.alloc (.cells #[.slice none 0 0] 252)=W4 at*;refine(VP none 0 0 _).mono ?_;rintro e w_ ⟨rfl,rfl⟩;go_wp2;have hC:=aF.new W4 23 #[.slice none 0 0];have iP:=(Below.refl W4.heap.size W4).alloc (Nat.le_refl _) (.cells #[.slice none 0 0] 23);have hE5:=HE4.o.ah iP;have hB5:=kL.o.ay iP;have hEl:=HEl.o;have ave:=HE4.o.lt;have avf:=kL.o.size;have avg:(W4.alloc (.cells #[.slice none 0 0] 23)).heap.size=W4.heap.size+1:=au;clear v0 j2 iP;obtain⟨Cb,hCb⟩:=bu W4.heap.size;rw[<-hCb] at hC avg ave avf⊢;clear hCb;generalize W4.alloc (.cells #[.slice none 0 0] 23)=W5 at*;have mJ:=Md none 0 0 [] Cb w.heap.size W5 (Nat.le_refl _) (Yf _ _) hC ae;rw[show Dir.tX []=[] from lH] at mJ;refine wpIn_wide.1 (Hz (gf:=211) (lb:=#[.pointer (some ⟨Cb,0,none⟩)]) (encs:=uH) (xs:=[]) (c:=Cb) (n0:=w.heap.size) (w0:=W5) rfl (enters_of Tryz.func211 az rfl) mJ (Below.refl _ _) ae ae (λ_=>rfl)
  (λ_=>DrI w.heap.size E w) (λ_ _ _=>False) (λpre=>Zz _ _ _ _ w ae ae ae (Nat.le_refl _)) (λk pre W W' r h=>h.elim) ⟨hE5,hB5⟩ (λ_ _ _ _=>False) (λ_ _ _ W W' r h=>h.elim) ?assign ?body ?done ?stop)
 case assign=>intro lp pre x W K hi dQ hK;obtain⟨t,ht⟩:=dQ;simp at ht
 case body=>exact λlp pre x a1 W h=>h.elim
 case stop=>exact λD k pre W _ _ h=>h.elim
 case done=>rintro D W hD ⟨h1,h2⟩ hK;have HB:=ag h2;have c4:=h1.aj (i:=0) rfl;clear h1 h2;go_wp2;refine⟨au,.inl ⟨_,_,rfl,run_takeDeferred hK,?_⟩⟩;exact⟨_,by simp[results,Tryz.results177,go_sem],rfl,HB.o.trans (fM _ ae)⟩
end
section
open Go.RowKit Go.Maps Go.ChangeMaps eX eu Ed Opn

theorem apm (a b c d e f g h i j k:Value):∀u:World,(Instr.field 107 (.agg #[a,b,c,d,e,f,g,h,i,j,k]) 0).run prog u= .ok a u:=λu=>az
theorem Yg (w:World):(zeroValue 107).run prog w= .ok (.agg #[.int .i64 0,.int .i64 0,.int .i64 0,.int .i64 0,.int .i64 0,.int .i64 0,.int .i64 0,.int .i64 0,.int .i64 0,.int .i64 0,.int .i64 0]) w:=az
theorem Yh {w:World} {I:Nat} (h:bW U3 prog 3 w I [(1,rP)]):(Instr.lookup 190 (.map (some I)) (.int .i64 1) false).run prog w= .ok (.agg #[.int .i64 2,.int .i64 1,.int .i64 0,.int .i64 0,.int .i64 0,.int .i64 0,.int .i64 0,.int .i64 0,.int .i64 0,.int .i64 0,.int .i64 0]) w:=
 h.look (p:=1) eu.vC Tryz.underlying190 (Yg w) (eu.Fq ae) false
theorem H7 (Sr F U K I:Nat) (w:World) (hs:aF w Sr 192 (x9 F U K I 0)) (hk:bW yC prog 3 w K []) (hi:bW U3 prog 3 w I [(1,rP)]) (hn:Sr≠K/\Sr≠I/\K≠I):
  Calls prog 121 #[Sr] w λe w'=>e= .returned (.bool true)/\aF w' Sr 192 (x9 F U K I 1)/\bW yC prog 3 w' K [1]/\bW U3 prog 3 w' I [(1,rP)]/\Kq (λq=>q=K\/q=Sr) w w':=by
 have HI:=ag hi;have CP:=ag hn;have hf0:=apm;have hl:=Yh hi;have s8:=hs.aj (i:=8) (v:= .map (some I)) rfl;have s7:=hs.aj (i:=7) (v:= .map (some K)) rfl;obtain⟨o,bP,Ye,Ae⟩:=hk.put eu.vC Tryz.underlying152 1 (eu.Fq (p:=1) ae);replace bP:(Instr.mapUpdate 152 (.map (some K)) (.int .i64 1) (.int .i64 1)).run prog w= .ok () (setBlock w K o):=bP;have nZ:=ag (hs.grown Ae λe=>hn.1 (Option.some.inj e));have mF:=ag (show bW yC prog 3 (setBlock w K o) K [1] from Ye);have HI1:=ag (show bW U3 prog 3 (setBlock w K o) I [(1,rP)] from hi.same (Ae.block I hi.lt λe=>hn.2.2 (Option.some.inj e).symm));have Ru:=ag ((Kq.grown Ae).mono (T':=λq=>q=K\/q=Sr) λq e=> .inl (Option.some.inj e).symm);clear hs hk hi hn Ye Ae
 go_in
 go_wp2;go_step3;go_upto_region 5 with fail;generalize setBlock w K o=W1 at*;clear bP hl s8 s7;have vO:=ag (aF.new W1 3 #[.int .i64 1]);have aW:=(Below.refl W1.heap.size W1).alloc (Nat.le_refl _) (.cells #[.int .i64 1] 3);have wJ:=ag (nZ.o.ah aW);have rD:=ag (mF.o.on aW);have Y9:=ag (HI1.o.on aW);have U5:=ag (Ru.o.on aW);have NJ:=ag nZ.o.lt;clear aW nZ mF HI1 Ru;go_wp2;obtain⟨G,hG⟩:=bu W1.heap.size;have HGs:=ag (show G≠Sr from by have:=NJ.o;omega);rw[<-hG] at vO⊢;clear hG;generalize W1.alloc (.cells #[.int .i64 1] 3)=W2 at*;go_step3;go_wp2
 go_loopw [3,4,5,6,7,8] (λv3 v4 v5 _ _ _ wr=>v3= .bool true/\v4= .slice (some ⟨G,0,none⟩) 1 1/\∃k:Nat,v5= .int .i64 k/\k<=1/\Hid (aF wr Sr 192 (x9 F U K I (k:Int))/\bW yC prog 3 wr K [1]/\bW U3 prog 3 wr I [(1,rP)]/\aF wr G 3 #[.int .i64 1]/\Kq (λq=>q=K\/q=Sr) w wr)) (λ_ _ v5 _ _ _ _=>1-(intOf v5).toNat)
 case atStart=>exact⟨rfl,rfl,0,rfl,ae,ag ⟨wJ.o,rD.o,Y9.o,vO.o,U5.o⟩⟩
 case round=>
  obtain⟨rfl,rfl,k,rfl,hk,HX⟩:=hrel;clear wJ rD Y9 vO U5;obtain⟨x1,x2,x3,x4,x5⟩:=HX.o;have HS:=ag x1;have HK:=ag x2;have HIx:=ag x3;have HG:=ag x4;have HQ:=ag x5;clear HX x1 x2 x3 x4 x5;rcases(show k=0\/k=1 by omega) with rfl|rfl
  ·rw[show((0:Nat):Int)=0 from rfl] at HS⊢;have g0:=HG.o.aj (i:=0) (v:= .int .i64 1) rfl;have s11:=HS.o.aj (i:=11) (v:= .int .i64 0) rfl;have f11:=HS.o.frozen 11;have i1:IntKind.i64.wrap 1=1:=aB;have Aa:=ag (show aF (wr.setCell ⟨Sr,11,none⟩ (.int .i64 1)) Sr 192 (x9 F U K I 1) from HS.o.set 11 (.int .i64 1));have jU:=ag (show bW yC prog 3 (wr.setCell ⟨Sr,11,none⟩ (.int .i64 1)) K [1] from HK.o.same (heap_setCell_other wr ⟨Sr,11,none⟩ K _ (by have:=CP.o.1;exact λe=>this e.symm)));have hi3:bW U3 prog 3 (wr.setCell ⟨Sr,11,none⟩ (.int .i64 1)) I [(1,rP)]:=HIx.o.same (heap_setCell_other wr ⟨Sr,11,none⟩ I _ (by have:=CP.o.2.1;exact λe=>this e.symm));have yL:=ag hi3;have HG3:=ag (HG.o.far (p:=⟨Sr,11,none⟩) HGs.o (.int .i64 1));have HQ3:=ag (HQ.o.trans ((Kq.one ⟨Sr,11,none⟩ (.int .i64 1)).mono λq e=> .inr e));have hl:=Yh hi3;have s8:=Aa.o.aj (i:=8) (v:= .map (some I)) rfl;clear hi3 HS HK HIx HG HQ;go_wp2_with fail;refine(OD Sr F U K I 1 1 _ Aa.o).mono ?_;rintro e W5 ⟨rfl,iP⟩;have Ad:=ag (Aa.o.ah iP);have zx:=ag (jU.o.on iP);have HI5:=ag (yL.o.on iP);have Kv:=ag (HG3.o.ah iP);have HQ5:=ag (HQ3.o.on iP);clear iP hl s8 s11 f11 g0 Aa jU yL HG3 HQ3;go_wp2
   go_loopw [3,4,60] (λv3 v4 v60 wq=>v3= .bool true/\v4= .slice (some ⟨G,0,none⟩) 1 1/\v60= .int .i64 0/\wq=W5) (λ_ _ _ _=>0)
   case atStart=>exact⟨rfl,rfl,rfl,rfl⟩
   case round=>
    obtain⟨rfl,rfl,rfl,rfl⟩:=hrel;go_wp2;go_roundw
    case rel=>exact⟨rfl,rfl,1,rfl,ae,ag ⟨Ad.o,zx.o,HI5.o,Kv.o,HQ5.o⟩⟩
    case measure=>simp[intOf]
  ·rw[show((1:Nat):Int)=1 from rfl] at HS⊢;go_wp2;rw[Exit.noGoto_ret];go_ret;exact⟨rfl,HS.o,HK.o,HIx.o,HQ.o⟩
end
section
open Go.RowKit Go.Maps Go.ChangeMaps eX eu Ed Opn

theorem acZ {w:World} {I n:Nat} (h:bW U3 prog 3 w I [(1,rP)]) (hn:n<4294967296):(Instr.lookup 190 (.map (some I)) (.int .i64 n) true).run prog w= .ok (.tuple #[if n=1 then .agg #[.int .i64 2,.int .i64 1,.int .i64 0,.int .i64 0,.int .i64 0,.int .i64 0,.int .i64 0,.int .i64 0,.int .i64 0,.int .i64 0,.int .i64 0] else .agg #[.int .i64 0,.int .i64 0,.int .i64 0,.int .i64 0,.int .i64 0,.int .i64 0,.int .i64 0,.int .i64 0,.int .i64 0,.int .i64 0,.int .i64 0],.bool (decide (n=1))]) w:=by
 have h1:=h.look (p:=n) eu.vC Tryz.underlying190 (Yg w) (eu.Fq hn) true;by_cases e:n=1
 ·subst e;exact h1
 ·rw[if_neg e,decide_eq_false e];have:U3.get [(1,rP)] n=none:=Enc.Gf λx hx he=>by rw[List.mem_singleton] at hx;subst hx;exact e he.symm
  rw[this] at h1;exact h1
theorem Yi {w:World} {K:Nat} (h:bW yC prog 3 w K [1]):(Instr.lookup 152 (.map (some K)) (.int .i64 1) false).run prog w= .ok (.int .i64 1) w:=
 h.look (p:=1) eu.vC Tryz.underlying152 (ac0 w) (eu.Fq ae) false
theorem Kw (Sr F U K I:Nat) (w:World) (hs:aF w Sr 192 (x9 F U K I 1)) (hk:bW yC prog 3 w K [1]) (hi:bW U3 prog 3 w I [(1,rP)]):
  Calls prog 122 #[Sr] w λe w'=>e= .returned (.bool true)/\Below w.heap.size w w':=by
 have HS:=ag hs;have HK:=ag hk;have HI:=ag hi;have iC:=ag (Below.refl w.heap.size w);clear hs hk hi
 go_in
 go_wp2
 go_loopw [3,4,5] (λv3 _ _ wr=>∃k:Nat,v3= .int .i64 k/\1<=k/\k<=21/\Hid (Below w.heap.size w wr)) (λv3 _ _ _=>1000000-(intOf v3).toNat)
 case atStart=>exact⟨1,rfl,ae,ae,iC⟩
 case round=>
  obtain⟨k,rfl,iy,fA,HB⟩:=hrel;clear iC;have Yj:=ag (HS.o.ah HB.o);have s4:=Yj.o.aj (i:=4) (v:= .int .i64 20) rfl;have s8:=Yj.o.aj (i:=8) (v:= .map (some I)) rfl;have q1:=IntWalk.i64_in ((k:Int)+1) ⟨ae,ae⟩;have hl:=acZ (HI.o.on HB.o) (n:=k) ae;rcases(show k=1\/(2<=k/\k<=20)\/k=21 by omega) with rfl|hk|rfl
  ·rw[if_pos rfl,decide_eq_true rfl] at hl;rw[show((1:Nat):Int)=1 from rfl] at q1 hl⊢;clear iy fA;have VW:=ag (aF.new wr 107 #[.int .i64 0,.int .i64 0,.int .i64 0,.int .i64 0,.int .i64 0,.int .i64 0,.int .i64 0,.int .i64 0,.int .i64 0,.int .i64 0,.int .i64 0]);obtain⟨W4,hW4⟩:=bu ((wr.alloc (.cells #[.int .i64 0,.int .i64 0,.int .i64 0,.int .i64 0,.int .i64 0,.int .i64 0,.int .i64 0,.int .i64 0,.int .i64 0,.int .i64 0,.int .i64 0] 107)).setRow wr.heap.size #[.int .i64 2,.int .i64 1,.int .i64 0,.int .i64 0,.int .i64 0,.int .i64 0,.int .i64 0,.int .i64 0,.int .i64 0,.int .i64 0,.int .i64 0]);have di:Below wr.heap.size wr W4:=by rw[hW4];exact((Below.refl _ wr).alloc (Nat.le_refl _) _).cO (Nat.le_refl _) _
   have V6:=ag (show aF W4 wr.heap.size 107 #[.int .i64 2,.int .i64 1,.int .i64 0,.int .i64 0,.int .i64 0,.int .i64 0,.int .i64 0,.int .i64 0,.int .i64 0,.int .i64 0,.int .i64 0] from by rw[hW4];exact VW.o.row _);have UW:=ag hW4;have kL:=ag (HB.o.ay di);clear di hW4
   go_upto_region 6 with(refine aC rfl rfl _ _ _ rfl wr.heap.size #[.int .i64 2,.int .i64 1,.int .i64 0,.int .i64 0,.int .i64 0,.int .i64 0,.int .i64 0,.int .i64 0,.int .i64 0,.int .i64 0,.int .i64 0] rfl rfl 107 #[.int .i64 0,.int .i64 0,.int .i64 0,.int .i64 0,.int .i64 0,.int .i64 0,.int .i64 0,.int .i64 0,.int .i64 0,.int .i64 0,.int .i64 0] VW.o rfl dD (by simp[Value.oneCell']) ?_;rw[<-UW.o])
   have apn:=ag (HS.o.ah (kL.o.ay (ak W4)));have mY:=ag (HK.o.on (kL.o.ay (ak W4)));have HLd:=ag (V6.o.ah (ak W4));have pV:=ag (kL.o.ay (ak W4));have jA:=ag (λW (h1:aF W Sr 192 (x9 F U K I 1)) (h2:bW yC prog 3 W K [1]) (h3:aF W wr.heap.size 107 #[.int .i64 2,.int .i64 1,.int .i64 0,.int .i64 0,.int .i64 0,.int .i64 0,.int .i64 0,.int .i64 0,.int .i64 0,.int .i64 0,.int .i64 0])=>And.intro h1 (And.intro h2 h3));refine iT (λW'=>aF W' Sr 192 (x9 F U K I 1)/\bW yC prog 3 W' K [1]/\aF W' wr.heap.size 107 #[.int .i64 2,.int .i64 1,.int .i64 0,.int .i64 0,.int .i64 0,.int .i64 0,.int .i64 0,.int .i64 0,.int .i64 0,.int .i64 0,.int .i64 0]) (jA.o _ apn.o mY.o HLd.o) (λbJ=>?_);generalize W4.drew=W5 at*;refine aS 0 wr.heap.size 1 ?_;refine jH 1 1 (λ_ aI=>aI.2.2.aj (i:=1) (v:= .int .i64 1) rfl) ?_;refine dP 2 Sr 0 ?_;refine aS 3 Sr 0 ?_;refine aS 4 Sr 7 ?_;refine tC 5 (.map (some K)) (λ_ aI=>aI.1.aj (i:=7) (v:= .map (some K)) rfl) ?_;refine eF 6 1 ?_;refine jH 7 1 (λ_ aI=>Yi aI.2.1) ?_;refine fE 8 (.bool false) ?_;refine gB ?_;clear bJ s4 s8 hl;have y9:=Yi mY.o;have y7:=apn.o.aj (i:=7) (v:= .map (some K)) rfl;go_wp2;go_roundw
   case rel=>exact⟨2,by go_num,ae,ae,pV⟩
   case measure=>simp[intOf]
  ·rw[if_neg (show¬k=1 by omega),decide_eq_false (show¬k=1 by omega)] at hl;have g1:(k:Int)<=20:=ae;have Ia:=ag hk;clear iy fA hk;have VW:=ag (aF.new wr 107 #[.int .i64 0,.int .i64 0,.int .i64 0,.int .i64 0,.int .i64 0,.int .i64 0,.int .i64 0,.int .i64 0,.int .i64 0,.int .i64 0,.int .i64 0]);obtain⟨W4,hW4⟩:=bu ((wr.alloc (.cells #[.int .i64 0,.int .i64 0,.int .i64 0,.int .i64 0,.int .i64 0,.int .i64 0,.int .i64 0,.int .i64 0,.int .i64 0,.int .i64 0,.int .i64 0] 107)).setRow wr.heap.size #[.int .i64 0,.int .i64 0,.int .i64 0,.int .i64 0,.int .i64 0,.int .i64 0,.int .i64 0,.int .i64 0,.int .i64 0,.int .i64 0,.int .i64 0]);have di:Below wr.heap.size wr W4:=by rw[hW4];exact((Below.refl _ wr).alloc (Nat.le_refl _) _).cO (Nat.le_refl _) _
   have V6:=ag (show aF W4 wr.heap.size 107 #[.int .i64 0,.int .i64 0,.int .i64 0,.int .i64 0,.int .i64 0,.int .i64 0,.int .i64 0,.int .i64 0,.int .i64 0,.int .i64 0,.int .i64 0] from by rw[hW4];exact VW.o.row _);have UW:=ag hW4;have kL:=ag (HB.o.ay di);clear di hW4
   go_wp2_with (refine aC rfl rfl _ _ _ rfl wr.heap.size #[.int .i64 0,.int .i64 0,.int .i64 0,.int .i64 0,.int .i64 0,.int .i64 0,.int .i64 0,.int .i64 0,.int .i64 0,.int .i64 0,.int .i64 0] rfl rfl 107 #[.int .i64 0,.int .i64 0,.int .i64 0,.int .i64 0,.int .i64 0,.int .i64 0,.int .i64 0,.int .i64 0,.int .i64 0,.int .i64 0,.int .i64 0] VW.o rfl dD (by simp[Value.oneCell']) ?_;rw[<-UW.o])
   go_roundw
   case rel=>exact⟨k+1,by go_num,by have:=Ia.o;omega,by have:=Ia.o;omega,kL⟩
   case measure=>have:=Ia.o;simp[intOf];omega
  ·rw[show((21:Nat):Int)=21 from rfl] at q1 hl⊢;have s9:=Yj.o.aj (i:=9) (v:= .slice none 0 0) rfl;clear iy fA hl;go_wp2;go_ret;exact⟨rfl,HB.o⟩
end
section
open Go.RowKit Go.Maps Go.ChangeMaps eX eu Ed Opn

section
variable {B Sr U K I:Nat} {R:Nat->Prop} {w:World} {f:Fm}
def ac3 (B:Nat) (R:Nat->Prop) (f:Fm) (w:World) (e:Ending) (w':World):Prop:=
 ∃T Z,e= .returned (.tuple #[.pointer (some ⟨T,0,none⟩),.int .i64 0])/\oV w' T Z/\∃Q,bT 32 B Q w' Z f (Ps.iY f 10 156 20)/\¬Q T/\(∀q,Q q->R q\/w.heap.size<=q)/\Kq R w w'/\w.heap.size<=T
theorem Ky (h:dB 32 B R w f) (hc:Fc 32 f) (htx:f.tx.length=56) (hs:aF w Sr 192 (x9 f.F U K I 1)) (hu:bW yC prog 3 w U []) (hn:¬R Sr/\¬R U):
  Calls prog 123 #[Sr] w (ac3 B R f w):=by
 have HF:=ag h;have HC:=ag hc;have HTx:=ag htx;have HS:=ag hs;have HU:=ag hu;have HN:=ag hn;clear h hc htx hs hu hn;unfold ac3
 go_in
 go_upto_region 1 with fail;have iC:=ag (show Below w.heap.size w w.drew from ak w);have gJ:=ag (HS.o.ah iC.o);have jA:=ag (λW (h1:aF W Sr 192 (x9 f.F U K I 1))=>h1);refine iT (λW'=>aF W' Sr 192 (x9 f.F U K I 1)) (jA.o _ gJ.o) (λbJ=>?_);generalize w.drew=W0 at*;refine dP 0 Sr 0 ?_;refine aS 1 Sr 0 ?_;refine aS 2 Sr 0 ?_;refine tC 3 (.pointer (some ⟨f.F,0,none⟩)) (λ_ aI=>aI.aj (i:=0) (v:= .pointer (some ⟨f.F,0,none⟩)) rfl) ?_;refine dP 4 Sr 0 ?_;refine aS 5 Sr 0 ?_;refine aS 6 Sr 1 ?_;refine jy 7 (.agg #[.int .i64 10,.int .i64 11,.int .i64 156,.int .i64 20]) rfl (λ_ aI=>by have y1:=aI.aj (i:=1) (v:= .int .i64 10) rfl;have y2:=aI.aj (i:=2) (v:= .int .i64 11) rfl;have y3:=aI.aj (i:=3) (v:= .int .i64 156) rfl;have y4:=aI.aj (i:=4) (v:= .int .i64 20) rfl;go_simp) ?_;refine dP 8 Sr 0 ?_;refine aS 9 Sr 0 ?_;refine aS 10 Sr 6 ?_;refine tC 11 (.map (some U)) (λ_ aI=>aI.aj (i:=6) (v:= .map (some U)) rfl) ?_;refine dm 12 (λK' hK=>?_);go_simp;refine(Rw (some U) W0).mono ?_;rintro e w_ ⟨rfl,rfl⟩;have bK:=(Below.refl W0.heap.size W0).alloc (Nat.le_refl _) (.cells #[.map (some U)] 152);have OE:=ag (aF.new W0 152 #[.map (some U)]);have HU1:=ag ((HU.o.on iC.o).on bK);have nZ:=ag (gJ.o.ah bK);have dw:=ag (iC.o.ay bK);clear bK;have Yk:=ag (yZ (enters_of Tryz.func231 az rfl) au (Rx (enc:=encZ) (dec:=λv=>match v with| .int _ a=>a|_=>0) OE.o HU1.o (λ_=>rfl) (λp hp=>by cases hp)));refine hK.out _ _ (jA.o _ nZ.o) (λdH=>?_)
 try simp only[aO]
 obtain⟨Kb,hKb⟩:=bu W0.heap.size;rw[<-hKb] at Yk⊢;clear hKb OE;generalize W0.alloc (.cells #[.map (some U)] 152)=W1 at*;refine dm 13 (λK' hK=>?_);go_simp;refine Yk.o.mono ?_;rintro e W2 ⟨v2,ss,rfl,hss,_,aW,Ho⟩;obtain rfl:=Ho (List.Perm.eq_nil hss);have wJ:=ag (nZ.o.ah aW);have dA:=ag (dw.o.ay aW);clear hss aW Ho Yk;refine hK.out _ _ (jA.o _ wJ.o) (λgm=>?_)
 try simp only[aO]
 refine dm 14 (λK' hK=>?_);go_simp;have Qo:=ag (HF.o.on dA.o);refine(show Calls prog 114 #[f.F,.agg #[.int .i64 10,.int .i64 11,.int .i64 156,.int .i64 20],.slice none 0 0] W2 λe w'=>∃Z,e= .returned (.tuple #[.pointer (some ⟨Z,0,none⟩),.int .i64 0])/\jJ 32 B R W2 w' Z f (Ps.iY f 10 156 20)/\W2.heap.size<=Z from
  zf (tb:=10) (np:=156) (ino:=20) Qo.o HC.o HTx.o ae ae ae).mono ?_
 rintro e W3 ⟨Z,rfl,oh,_⟩;have Aa:=ag (wJ.o.kq oh.2 HN.o.1);have mP:=ag (jJ.from_ dA.o oh HF.o.base);clear oh;refine hK.out _ _ (jA.o _ Aa.o) (λkD=>?_)
 try simp only[aO]
 refine fB 15 (.tuple #[.pointer (some ⟨Z,0,none⟩),.int .i64 0]) ?_;refine dP 16 Z 0 ?_;refine eF 17 0 ?_;refine dP 18 Z 0 ?_;refine eF 19 0 ?_;refine gB ?_;clear bJ dH gm kD;go_wp2_with fail;refine(zg W3 Z).mono ?_;rintro e W4 ⟨rfl,ht4,di⟩;have Ry:=ag ht4;have xP:=ag (mP.o.1.on di);have mY:=ag (mP.o.2.on di);have HTn:=ag (show¬Up R w W3 W3.heap.size/\w.heap.size<=W3.heap.size from⟨mP.o.1.aV (Nat.le_refl _),mP.o.2.size⟩);have VX:=ag (Aa.o.ah di);have s9:=VX.o.aj (i:=9) (v:= .slice none 0 0) rfl;clear ht4 di;go_wp2
 go_loopw [8,9,44] (λ_ _ v44 wq=>v44= .int .i64 0/\wq=W4) (λ_ _ _ _=>0)
 case atStart=>exact⟨rfl,rfl⟩
 case round=>obtain⟨rfl,rfl⟩:=hrel;go_wp2;go_ret2;exact⟨_,Z,rfl,Ry.o,_,xP.o,HTn.o.1,λq hq=>hq.imp id And.left,mY.o,HTn.o.2⟩
end
end
section
open Go.RowKit eX Opn Ed

namespace Opn
variable {f:Fm} {last:Nat} {tl:List UInt8}
theorem Sd.akS (h:Sd f last tl):Gc.count 0 f.g.l<=Gc.count 0 (bU f.g.bl (og f.g.bl 32) (qB (bf (allL f.g.bl 32))) 32):=by
 have hlen:(bU f.g.bl (og f.g.bl 32) (qB (bf (allL f.g.bl 32))) 32).length=32:=by simp[bU]
 rw[Gc.tZ,h.fc.fi.w.len,Gc.tZ,hlen];have hle:∀k,k<=32->o8.Kz (λi=>if (Gc.at_ f.g.l i).st=0 then 1 else 0) k<=o8.Kz (λi=>if (Gc.at_ (bU f.g.bl (og f.g.bl 32) (qB (bf (allL f.g.bl 32))) 32) i).st=0 then 1 else 0) k:=by
  intro k
  induction k with
  |zero=>exact λ_=>Nat.le_refl 0
  |succ k ih=>
   intro hk;have h2:=ih ae;show _+(if (Gc.at_ f.g.l k).st=0 then 1 else 0)<=_+(if (Gc.at_ (bU f.g.bl (og f.g.bl 32) (qB (bf (allL f.g.bl 32))) 32) k).st=0 then 1 else 0);by_cases hs:(Gc.at_ f.g.l k).st=0
   ·have h3:(Gc.at_ (bU f.g.bl (og f.g.bl 32) (qB (bf (allL f.g.bl 32))) 32) k).st=0:=by rw[h.at_ ae,h.fr0 ae hs];rfl
    rw[if_pos hs,if_pos h3];omega
   ·rw[if_neg hs];omega
 exact hle 32 (Nat.le_refl _)
end Opn
section
open Opn
variable {B:Nat} {R:Nat->Prop} {w:World} {f:Fm}
structure Od (f:Fm):Prop where
 fo:Ed.Fo f
 no:f.no=[]
 go:f.go=[]
 sq:f.seq=4
 gh:f.g.gh=λ_=>True
 tx:f.tx=OG
 ct:28<=Gc.count 0 f.g.l
 s0:(aG f.se 0).isSome=true
 key:∀q,2<=q->aG f.se q=none
theorem KA (h:dB 32 B R w f) (hd:Ed.Fd f):
  Calls prog 116 #[f.g.C] w λe w'=>∃(S:Nat->Prop) (f':Fm),e= .returned (.tuple #[.pointer (some ⟨f'.F,0,none⟩),.int .i64 0])/\uI 32 B S w w' f'/\Od f'/\f'.g.C=f.g.C/\∀q,S q->R q:=by
 have hs:=hd.sd;obtain⟨S,hm,hSR⟩:=h.mg;have Me:=hs.fc.sq;have ZA:=hs.ep;have hq:=hd.sq;refine(Rz (tl:=OG) hm.hc (hs.gd ae) hs.hold ae ae ae (λp x hp=>hs.key p (by rw[hp];rfl)) (λx hx=>?_) (λk hk=>⟨hs.few,λhf=>hs.free (by rw[<-Yl hk];exact hf)⟩) hs.idle).mono ?_
 ·obtain⟨t,h1,_⟩:=hs.s0;rw[h1] at hx;obtain rfl:=Option.some.inj hx;rfl
 ·rintro e w' ⟨o,tv,M,ML,cap,rfl,hft⟩;rw[show f.seq-1+1=f.seq by omega,<-ZA] at hft;have hv:=hs.vwO o M ML cap tv λ_=>True;have hno:(reF f o M ML cap tv OG λ_=>True).no=[]:=rfl;have hgo:(reF f o M ML cap tv OG λ_=>True).go=[]:=rfl;have Dx:∀q,(aG (reF f o M ML cap tv OG λ_=>True).se q).map sk=vw f q:=λq=>by have:=hv q;rw[Eu,hno,hgo] at this;exact this
  refine⟨S,reF f o M ML cap tv OG λ_=>True,rfl,hft,⟨Ed.Fo.of (hs.fcO o M ML cap tv (λ_ _=>trivial)) ((hv 1).trans hd.v1) (λq hq=>(hv q).trans (hd.vn q hq)),rfl,rfl,hq,rfl,rfl,Nat.le_trans hd.ct hs.akS,?_,λq hq=>?_⟩,rfl,λq hq=>hSR q (.inr (.inr hq))⟩
  ·have h1:=Dx 0;obtain⟨t,h2,_⟩:=hs.s0;rw[h2] at h1
   cases hz:aG (reF f o M ML cap tv OG λ_=>True).se 0 with
   |none=>rw[hz] at h1;cases h1
   |some x=>rfl
  ·have h1:=Dx q;rw[hd.vn q hq] at h1
   cases hz:aG (reF f o M ML cap tv OG λ_=>True).se q with
   |none=>rfl
   |some x=>rw[hz] at h1;cases h1
end
end
section
open Go.RowKit Go.Maps Go.ChangeMaps eX eu Ed Opn

section
variable {B:Nat} {R:Nat->Prop} {w:World} {f:Fm}
def apr (B:Nat) (R:Nat->Prop) (C:Nat) (w w':World) (T:Nat):Prop:=
 ∃Z Q f',oV w' T Z/\bT 32 B Q w' Z f' (Ps.iY f' 10 156 20)/\¬Q T/\f'.g.C=C/\Od f'/\(∀q,Q q->R q\/w.heap.size<=q)/\Kq R w w'/\w.heap.size<=T
theorem Oz (h:dB 32 B R w f) (ho:Od f):(f.se++f.no).length<=2:=by
 rw[ho.no,List.append_nil];refine RD h.hS.uq λq hq=>?_;rcases Nat.lt_or_ge q 2 with h1|h1
 ·exact h1
 ·rw[ho.key q h1] at hq;cases hq
theorem Od.aps (h:Od f):f.tx.length=56:=by rw[h.tx];exact AZ
theorem ZB (W:World) (F:Nat):∃w7,w7=(((W.alloc (.map #[] 0)).alloc (.map #[] 0)).alloc (.map #[] 0)).alloc (.cells (x9 F W.heap.size (W.heap.size+1) (W.heap.size+1+1) 0) 192)/\Below W.heap.size W w7/\bW yC prog 3 w7 W.heap.size []/\bW yC prog 3 w7 (W.heap.size+1) []/\bW U3 prog 3 w7 (W.heap.size+1+1) []/\aF w7 (W.heap.size+1+1+1) 192 (x9 F W.heap.size (W.heap.size+1) (W.heap.size+1+1) 0):=by
 obtain⟨a1,h1⟩:=bu (W.alloc (.map #[] 0));have b1:Below W.heap.size W a1:=h1▸(Below.refl _ W).alloc (Nat.le_refl _) _;have m1:bW yC prog 3 a1 W.heap.size []:=h1▸bW.made W;have s1:a1.heap.size=W.heap.size+1:=by rw[h1,World.size_alloc]
 rw[<-h1];obtain⟨a2,h2⟩:=bu (a1.alloc (.map #[] 0));have b2:Below a1.heap.size a1 a2:=h2▸(Below.refl _ a1).alloc (Nat.le_refl _) _;have m2:bW yC prog 3 a2 a1.heap.size []:=h2▸bW.made a1;have s2:a2.heap.size=W.heap.size+1+1:=by rw[h2,World.size_alloc,s1]
 rw[<-h2];obtain⟨a3,h3⟩:=bu (a2.alloc (.map #[] 0));have b3:Below a2.heap.size a2 a3:=h3▸(Below.refl _ a2).alloc (Nat.le_refl _) _;have m3:bW U3 prog 3 a3 a2.heap.size []:=h3▸bW.made a2;have s3:a3.heap.size=W.heap.size+1+1+1:=by rw[h3,World.size_alloc,s2]
 rw[<-h3];rw[s1] at m2;rw[s2] at m3;refine⟨_,rfl,?_,?_,?_,?_,?_⟩
 ·exact((b1.ay b2).ay b3).alloc ae _
 ·exact((m1.on b2).on b3).on ((Below.refl _ a3).alloc (Nat.le_refl _) _)
 ·exact(m2.on b3).on ((Below.refl _ a3).alloc (Nat.le_refl _) _)
 ·exact m3.on ((Below.refl _ a3).alloc (Nat.le_refl _) _)
 ·rw[<-s3];exact aF.new a3 192 _
theorem bW.kq {α:Type} {E:Enc α} {P:Program} {k:TypeId} {w w':World} {b:Nat} {l:List α} {T:Nat->Prop} (h:bW E P k w b l) (hk:Kq T w w') (hn:¬T b):bW E P k w' b l:=h.same (hk.block b h.lt hn)
theorem uz {P:Program} {ops:Array Oper} {o:Oper} {a:Act} {w:World} {K:Act->World->Prop} {Q:Exit->Act->World->Prop} {E:Prop} (mD:o.guard=none) (ty:TypeId) (x y:Operand) (ho:o.op= .store ty x y)
  (g:Nat) (cells:Array Value) (hx:a.eval x= .pointer (some ⟨g,0,none⟩)) (hy:a.eval y= .agg cells)
  (t:TypeId) (old:Array Value) (hg:aF w g t old) (hi:(P.info? ty).map (·.size)=some cells.size)
  (hold:old.size=cells.size) (h1:cells.all (·.oneCell')=true)
  (h:K (a.put o.dst undef) (w.setRow g cells)):if Region.wanted o (yielded ops a.tmps)=true then Oper.wp P o a w K Q else E:=by
 have hw:Region.wanted o (yielded ops a.tmps)=true:=by simp[Region.wanted,mD]
 rw[if_pos hw];exact wp_store_row ty x y ho g cells hx hy t old hg hi hold h1 h
theorem vX {P:Program} {fn:Func} {o p q:Tmp} {ty:TypeId} (h:fn.results=#[.tmp o,.cell p ty,.tmp q]) (tmps:Array Value) (w:World) (g:Nat) (t:TypeId) (cs:Array Value) (fr:Nat×Nat) (d:TypeDesc)
  (hp:tmps.getD p undef= .pointer (some ⟨g,0,none⟩)) (hg:w.heap[g]?=some (.cells cs t fr))
  (hu:P.underlying ty=some d) (hd:(match d with| .struct _| .array _ _=>true|_=>false)=true) (hi:(P.info? ty).map (·.size)=some cs.size) (u v:Value) (ho:tmps.getD o undef=u) (hv:tmps.getD q undef=v):
  (results fn tmps).run P w= .ok (.tuple #[u,.agg cs,v]) w:=by
 have hp':tmps[p]?.getD undef= .pointer (some ⟨g,0,none⟩):=by simpa using hp
 have ho':tmps[o]?.getD undef=u:=by simpa using ho
 have hv':tmps[q]?.getD undef=v:=by simpa using hv
 simp[results,h,hp',hv',ho',asAddr,run_loadVar_row w g t ty cs fr d hg hu hd hi]
theorem Ym:(prog.info? 125).map (·.size)=some 4:=az
theorem Ht (h:dB 32 B R w f) (hd:Ed.Fd f):
  Calls prog 60 #[f.g.C] w λe w'=>∃T,e= .returned (.tuple #[.pointer (some ⟨T,0,none⟩),.agg #[.int .i64 0,.int .i64 1,.int .i64 0,.int .i64 0],.int .i64 0])/\apr B R f.g.C w w' T:=by
 have fF:=(Below.refl w.heap.size w).alloc (Nat.le_refl _) (.cells #[.int .i64 0,.int .i64 0,.int .i64 0,.int .i64 0] 125);have F5:=ag (aF.new w 125 #[.int .i64 0,.int .i64 0,.int .i64 0,.int .i64 0]);have iC:=ag fF;have HH:=ag h;have HO:=ag (λW (hW:Below w.heap.size w W)=>KA (h.on hW) hd);have HG:=ag (λW (hW:dB 32 B R W f)=>qC hW);have RF:=MB (.int .i64 32) (.int .i64 8) (.int .i64 64);obtain⟨C,hC⟩:=bu f.g.C;rw[<-hC] at HO⊢;have HC:=ag hC;clear h hd fF hC
 go_in
 go_wp2_with fail;obtain⟨Rp,NT⟩:=bu w.heap.size;rw[<-NT] at F5⊢;have C9:=ag (show w.heap.size<=Rp/\¬R Rp from⟨ae,HH.o.aV ae⟩);clear NT;generalize w.alloc (.cells #[.int .i64 0,.int .i64 0,.int .i64 0,.int .i64 0] 125)=w0 at*;refine(HO.o w0 iC.o).mono ?_;rintro e w1 ⟨S,f1,rfl,sG,hod,hfC,hSR⟩;have HF1:=ag sG.1;have HOd:=ag hod;have HFC:=ag hfC;have mF:=ag (((Kq.of (T:=R) iC.o)).trans (sG.2.mono hSR));have Ru:=ag (show∀q,Up S w0 w1 q->R q\/w.heap.size<=q from λq hq=>by
  rcases hq with h1|h1
  ·exact .inl (hSR q h1)
  ·exact .inr (by have:=iC.o.size;omega))
 have yA:=ag (F5.o.kq sG.2 λh=>C9.o.2 (hSR _ h));have qY:=ag (show¬Up S w0 w1 Rp from λh=>by
  rcases h with h1|h1
  ·exact C9.o.2 (hSR _ h1)
  ·have:=F5.o.lt;omega)
 generalize Up S w0 w1=Q1 at*;clear sG hod hfC hSR HO F5 iC;go_wp2_with fail;refine(show Calls prog 35 #[C] w1 _ from by have h:=qC HF1.o;rw[HFC.o] at h;exact h).mono ?_;rintro e w2 ⟨rfl,aW⟩;have Qo:=ag (HF1.o.on aW);have oQ:=ag (yA.o.ah aW);have rD:=ag (mF.o.on aW);clear aW HF1 yA mF;unfold uf;go_wp2_with fail;refine(show Calls prog 113 #[f1.F] w2 λe w'=>e= .returned (.int .i64 230)/\Below w2.heap.size w2 w' from jc Qo.o HOd.o.fo.fc.fi).mono ?_;rintro e w3 ⟨rfl,bQ⟩;go_wp2_with fail;refine(Ic w3).mono ?_;rintro e w4 ⟨rfl,di⟩;have di:=bQ.ay di;have VW:=ag (aF.new w4 93 #[.int .i64 0,.int .i64 0,.int .i64 0,.int .i64 0]);obtain⟨w5,hw5⟩:=bu ((w4.alloc (.cells #[.int .i64 0,.int .i64 0,.int .i64 0,.int .i64 0] 93)).setRow w4.heap.size #[.int .i64 10,.int .i64 11,.int .i64 156,.int .i64 20]);have iP:Below w4.heap.size w4 w5:=by rw[hw5];exact((Below.refl _ w4).alloc (Nat.le_refl _) _).cO (Nat.le_refl _) _
 have HL5:=ag (show aF w5 w4.heap.size 93 #[.int .i64 10,.int .i64 11,.int .i64 156,.int .i64 20] from by rw[hw5];exact VW.o.row _);have HW5:=ag hw5;have iP:=di.ay iP;have Hw:=ag (Qo.o.on iP);have HR5:=ag (oQ.o.ah iP);have zx:=ag (rD.o.on iP);clear bQ di iP hw5 Qo oQ rD
 go_upto_region 6 with(refine aC rfl rfl _ _ _ rfl w4.heap.size #[.int .i64 10,.int .i64 11,.int .i64 156,.int .i64 20] rfl rfl 93 #[.int .i64 0,.int .i64 0,.int .i64 0,.int .i64 0] VW.o rfl OH (OI _ _ _ _) ?_;rw[<-HW5.o])
 obtain⟨Lb,hLb⟩:=bu w4.heap.size;rw[<-hLb] at HL5⊢;clear hLb
 go_cut [52] (λv52 wx=>v52= .bool false/\Hid (Below w5.heap.size w5 wx))
 case first=>
  have iC:=ag (show Below w5.heap.size w5 w5.drew from ak w5);have HL0:=ag (HL5.o.ah iC.o);have HLf:=ag (λW (h1:aF W Lb 93 #[.int .i64 10,.int .i64 11,.int .i64 156,.int .i64 20])=>h1);refine iT (λW'=>aF W' Lb 93 #[.int .i64 10,.int .i64 11,.int .i64 156,.int .i64 20]) (HLf.o _ HL0.o) (λbJ=>?_);generalize w5.drew=W0 at*;refine eF 0 0 ?_;refine fB 1 (.bool false) ?_;refine fB 2 (.bool false) ?_;refine dP 3 f1.F 0 ?_;refine jy 5 (.agg #[.int .i64 10,.int .i64 11,.int .i64 156,.int .i64 20]) rfl (λ_ aI=>by have y1:=aI.aj (i:=0) (v:= .int .i64 10) rfl;have y2:=aI.aj (i:=1) (v:= .int .i64 11) rfl;have y3:=aI.aj (i:=2) (v:= .int .i64 156) rfl;have y4:=aI.aj (i:=3) (v:= .int .i64 20) rfl;go_simp) ?_;refine eF 6 64 ?_;refine eF 7 56 ?_;refine dm 4 (λK' hK=>?_);go_simp;refine(show Calls prog 118 #[f1.F] W0 λe w'=>(∃a c,e= .returned (.slice a 56 c)/\Own aH 5 w' W0.heap.size (.slice a 56 c) OG)/\Below W0.heap.size W0 w' from by have hx:=kW (Hw.o.on iC.o) HOd.o.aps;rw[HOd.o.tx] at hx;exact hx).mono ?_;rintro e V1 ⟨⟨a1,c1,rfl,UZ⟩,hb⟩;have F8:=ag UZ;clear UZ;have dw:=ag (iC.o.ay hb);have ZC:=ag (HL0.o.ah hb);clear hb;refine hK.out _ _ (HLf.o _ ZC.o) (λdH=>?_)
  try simp only[aO]
  refine dm 8 (λK' hK=>?_);go_simp;refine(show Calls prog 85 #[.agg #[.int .i64 10,.int .i64 11,.int .i64 156,.int .i64 20],.int .i64 56] V1 λe w'=>(∃a c,e= .returned (.slice a 56 c)/\Own aH 5 w' V1.heap.size (.slice a 56 c) (AU 10 156 20))/\Below V1.heap.size V1 w' from zF (tb:=10) (np:=156) (ino:=20) ae ae ae V1).mono ?_;rintro e V2 ⟨⟨a2,c2,rfl,J4⟩,hb⟩;have JH:=ag J4;have HXf:=ag (F8.o.on hb);clear J4;have dA:=ag (dw.o.ay hb);have Dy:=ag (ZC.o.ah hb);clear hb;refine hK.out _ _ (HLf.o _ Dy.o) (λgm=>?_)
  try simp only[aO]
  refine dm 9 (λK' hK=>?_);go_simp;refine(Eo _ _ _ _ _ _ _ _ V2 (HXf.o.arr (by rw[AZ];omega)) (JH.o.arr (by rw[show AU 10 156 20=OG from rfl,AZ];omega))).mono ?_;rintro e V3 ⟨rfl,hb⟩;rw[show decide (OG=AU 10 156 20)=true from decide_eq_true rfl];have dE:=ag (dA.o.ay hb);have yD:=ag (Dy.o.ah hb);clear hb;refine hK.out _ _ (HLf.o _ yD.o) (λkD=>?_)
  try simp only[aO]
  refine fB 10 (.bool false) ?_;refine fB 11 (.bool false) ?_;refine fB 12 (.bool false) ?_;refine dP 13 f1.F 0 ?_;refine aS 15 Lb 0 ?_;refine jH 16 10 (λ_ aI=>aI.aj (i:=0) (v:= .int .i64 10) rfl) ?_;refine aS 17 Lb 2 ?_;refine jH 18 156 (λ_ aI=>aI.aj (i:=2) (v:= .int .i64 156) rfl) ?_;refine eF 19 166 ?_;refine eF 20 167 ?_;refine dm 14 (λK' hK=>?_);go_simp;refine(Ew (Hw.o.on dE.o) (by have:=Oz (Hw.o.on dE.o) HOd.o;omega)).mono ?_;rintro e V4 ⟨rfl,hb⟩;obtain⟨nu,hnu⟩:=bu ((f1.se++f1.no).length);have aCR:¬(167:Int)<(nu:Int):=by have:=Oz (Hw.o.on dE.o) HOd.o;omega
  rw[<-hnu];clear hnu;have kL:=ag (dE.o.ay hb);have V6:=ag (yD.o.ah hb);clear hb;refine hK.out _ _ (HLf.o _ V6.o) (λrY=>?_)
  try simp only[aO]
  refine fE 21 (.bool false) ?_;refine fB 22 (.bool false) ?_;refine gB ?_;go_wp2_with fail;go_meet
  case rel=>exact⟨rfl,kL.o⟩
 case rest=>
  obtain⟨rfl,iI⟩:=hcut;have Yn:=ag (Hw.o.on iI.o);have ZE:=ag (HL5.o.ah iI.o);have QH:=ag (HR5.o.ah iI.o);have uu:=ag (zx.o.on iI.o);have l0:=ZE.o.aj (i:=0) (v:= .int .i64 10) rfl;have l1:=ZE.o.aj (i:=1) (v:= .int .i64 11) rfl;have l2:=ZE.o.aj (i:=2) (v:= .int .i64 156) rfl;have l3:=ZE.o.aj (i:=3) (v:= .int .i64 20) rfl;have Qp:=@run_makeMap prog;clear iI Hw HR5 zx HL5
  go_upto_region 9 with(simp only[Qp])
  obtain⟨w7,hw7,kC,hU7,hK7,ZF,F9⟩:=ZB wc f1.F;have HF7:=ag (Yn.o.on kC);have ZG:=ag (QH.o.ah kC);have zH:=ag (uu.o.on kC);unfold x9 at hw7;rw[<-hw7];have hn7:∀q,wc.heap.size<=q->¬Q1 q:=λq hq=>Yn.o.aV hq;have hm7:w.heap.size<=wc.heap.size:=uu.o.size;have NT:=QH.o.lt;obtain⟨U,hU⟩:=bu wc.heap.size;obtain⟨K,hK⟩:=bu (wc.heap.size+1);obtain⟨I,hI⟩:=bu (wc.heap.size+1+1);obtain⟨Sr,hSr⟩:=bu (wc.heap.size+1+1+1);rw[<-hU] at hU7;rw[<-hK] at hK7;rw[<-hI] at ZF;rw[<-hSr,<-hI,<-hK,<-hU] at F9;rw[<-hSr];have HN:=ag (show(¬Q1 U/\¬Q1 K/\¬Q1 I/\¬Q1 Sr)/\(w.heap.size<=U/\w.heap.size<=K/\w.heap.size<=I/\w.heap.size<=Sr)/\(U≠K/\U≠I/\U≠Sr/\K≠I/\K≠Sr/\I≠Sr)/\(Rp≠U/\Rp≠K/\Rp≠I/\Rp≠Sr) from⟨⟨hn7 _ ae,hn7 _ ae,hn7 _ ae,hn7 _ ae⟩,ae,ae,ae⟩);have HU7:=ag hU7;have apx:=ag hK7;have V7:=ag ZF;have HS7:=ag F9;clear hw7 kC hU7 hK7 ZF F9 hn7 hm7 NT hU hK hI hSr Yn QH uu Qp;go_wp2_with fail;refine(Ie HF7.o HOd.o.fo HS7.o V7.o ⟨HN.o.1.2.2.2,HN.o.1.2.2.1⟩ HN.o.2.2.1.2.2.2.2.2.symm).mono ?_;rintro e w8 ⟨rfl,ht⟩;have HF8:=ag ht.ft;have Yo:=ag ht.s;have OJ:=ag ht.i;have HU8:=ag (HU7.o.kq ht.k λh=>h.elim HN.o.1.1 HN.o.2.2.1.2.1);have apz:=ag (apx.o.kq ht.k λh=>h.elim HN.o.1.2.1 HN.o.2.2.1.2.2.2.1);have LK:=ag (ZG.o.kq ht.k λh=>h.elim qY.o HN.o.2.2.2.2.2.1);have U6:=ag (zH.o.ay ht.k λq hq=>hq.elim (Ru.o q) λh=> .inr (h▸HN.o.2.1.2.2.1));clear ht HF7 HS7 V7 HU7 apx ZG zH;go_wp2_with fail;refine(H7 Sr f1.F U K I w8 Yo.o apz.o OJ.o ⟨HN.o.2.2.1.2.2.2.2.1.symm,HN.o.2.2.1.2.2.2.2.2.symm,HN.o.2.2.1.2.2.2.1⟩).mono ?_;rintro e w9 ⟨rfl,hs9,NY,hi9,hq9⟩;have Qq:=ag hs9;have apA:=ag NY;have HI9:=ag hi9;have HF9:=ag (HF8.o.kq hq9 λq hq h=>h.elim (λe=>HN.o.1.2.1 (e▸hq)) λe=>HN.o.1.2.2.2 (e▸hq));have HU9:=ag (HU8.o.kq hq9 λh=>h.elim HN.o.2.2.1.1 HN.o.2.2.1.2.2.1);have HR9:=ag (LK.o.kq hq9 λh=>h.elim HN.o.2.2.2.2.1 HN.o.2.2.2.2.2.2);have U7:=ag (U6.o.ay hq9 λq hq=> .inr (hq.elim (λe=>e▸HN.o.2.1.2.1) λe=>e▸HN.o.2.1.2.2.2));clear hs9 NY hi9 hq9 HF8 Yo OJ HU8 apz LK U6;go_wp2_with fail;refine(Kw Sr f1.F U K I w9 Qq.o apA.o HI9.o).mono ?_;rintro e Ig ⟨rfl,hb⟩;have oP:=ag (Qq.o.ah hb);have ZH:=ag (HF9.o.on hb);have HUt:=ag (HU9.o.on hb);have HRt:=ag (HR9.o.ah hb);have HKt:=ag (U7.o.on hb);clear hb HF9 Qq HI9 HU9 apA HR9 U7;go_wp2_with fail;refine(Ky ZH.o HOd.o.fo.fc HOd.o.aps oP.o HUt.o ⟨HN.o.1.2.2.2,HN.o.1.1⟩).mono ?_;rintro e ug ⟨T,Z,rfl,htr,Q,oh,hqT,hqr,hkq,hTs⟩;have HT:=ag htr;have JQ:=ag oh;have HQT:=ag (show¬Q T/\w.heap.size<=T from⟨hqT,by have:=HKt.o.size;omega⟩);have HQr:=ag (show∀q,Q q->Q1 q\/Ig.heap.size<=q from hqr);have HSu:=ag (oP.o.kq hkq HN.o.1.2.2.2);have HRu:=ag (HRt.o.kq hkq qY.o);have HKu:=ag (HKt.o.ay hkq Ru.o);have HRT:=ag (show Rp≠T/\¬Q Rp from⟨by have:=HRt.o.lt;omega,λh=>(hqr _ h).elim qY.o λh=>by have:=HRt.o.lt;omega⟩);have hws:=HKt.o.size;have HWs:=ag hws;clear hws htr oh hqT hqr hkq hTs ZH oP HUt HRt HKt;go_wp2_with fail;have iC:=ag (show Below ug.heap.size ug ug.drew from ak ug);have jA:=ag (λW (h1:aF W Sr 192 (x9 f1.F U K I 1))=>h1);refine iT (λW'=>aF W' Sr 192 (x9 f1.F U K I 1)) (jA.o _ (HSu.o.ah iC.o)) (λbJ=>?_);have F5:=ag (HRu.o.ah iC.o);have gJ:=ag (HSu.o.ah iC.o);generalize ug.drew=W0 at*;refine dP 0 T 0 ?_;refine dP 1 Sr 0 ?_;refine aS 2 Sr 0 ?_;refine aS 3 Sr 10 ?_;refine jy 4 (.agg #[.int .i64 0,.int .i64 1,.int .i64 0,.int .i64 0]) rfl (λ_ aI=>by have y1:=aI.aj (i:=10) (v:= .int .i64 0) rfl;have y2:=aI.aj (i:=11) (v:= .int .i64 1) rfl;have y3:=aI.aj (i:=12) (v:= .int .i64 0) rfl;have y4:=aI.aj (i:=13) (v:= .int .i64 0) rfl;go_simp) ?_;refine dP 5 T 0 ?_;refine dm 6 (λK' hK=>?_);refine uz rfl _ _ _ rfl Rp #[.int .i64 0,.int .i64 1,.int .i64 0,.int .i64 0] rfl rfl 125 _ F5.o Ym rfl (OI _ _ _ _) ?_;obtain⟨w12,agP⟩:=bu (W0.setRow Rp #[.int .i64 0,.int .i64 1,.int .i64 0,.int .i64 0]);rw[<-agP];have wM:Kq (λq=>q=Rp) W0 w12:=by rw[agP];exact eU _ _ _
  have Ih:=ag (show aF w12 Rp 125 #[.int .i64 0,.int .i64 1,.int .i64 0,.int .i64 0] from by rw[agP];exact F5.o.row _);have avo:=ag (gJ.o.kq wM HN.o.2.2.2.2.2.2.symm);refine hK.out _ _ (jA.o _ avo.o) (λV8=>?_)
  try simp only[aO]
  refine eF 7 0 ?_;refine gB ?_;have avp:=ag ((HT.o.on iC.o).kq wM HRT.o.1.symm);have avq:=ag ((JQ.o.on iC.o).kq wM λq hq e=>HRT.o.2 (e▸hq));have avr:=ag ((HKu.o.on iC.o).ay wM λq hq=> .inr (hq▸C9.o.1));have c0:=Ih.o.aj (i:=0) (v:= .int .i64 0) rfl;have c1:=Ih.o.aj (i:=1) (v:= .int .i64 1) rfl;have c2:=Ih.o.aj (i:=2) (v:= .int .i64 0) rfl;have c3:=Ih.o.aj (i:=3) (v:= .int .i64 0) rfl;have aCW:=ag iC.o.size;clear agP wM bJ V8;go_wp2;refine bodyPost_ret (vX rfl _ _ Rp _ _ _ _ rfl Ih.o Tryz.underlying125 rfl Ym _ _ rfl rfl) rfl ?_;exact⟨T,rfl,Z,Q,f1,avp.o,avq.o,HQT.o.1,by first|exact HFC.o|exact HFC.o.trans HC.o,HOd.o,λq hq=>(HQr.o q hq).elim (Ru.o q) λh=> .inr (by have:=HWs.o;omega),avr.o,HQT.o.2⟩
end
end
end Go.Proofs.YtnieckfelfoopaaGreat

import Derived.Test.YtnieckfelfoopaaGreatFtlSeal
import Derived.Test.YtnieckfelfoopaaGreatFtlNeed
import Derived.Shelf.SlIterI.Sorted
import Derived.Ground.GgzProg
import Derived.Shelf.SlGeneric
import Derived.Test.YtnieckfelfoopaaGreatRoomInts
import Derived.Test.YtnieckfelfoopaaGreatProg
import Derived.Test.YtnieckfelfoopaaGreatPolAlloc
import Derived.Deep.DeepCutAuto
open Go.Proofs.Tryz (prog)
namespace Go.Proofs.YtnieckfelfoopaaGreat
open Go.RowKit Go.Maps Go.ChangeMaps eX

structure Mcp (ld ls l:List En):Prop where
 get:∀p,aG l p=match aG ls p with|some e=>some e|none=>aG ld p
theorem Mcp.start (ld:List En):Mcp ld [] ld:=⟨λ_=>rfl⟩
theorem Uu {d:List En} {e:En} (h:aG d e.t.p=none) (p:Nat):aG (d++[e]) p=if p=e.t.p then some e else aG d p:=by
 unfold aG at h⊢;rw[List.find?_append];by_cases hp:p=e.t.p
 ·subst hp;rw[h,if_pos rfl];simp
 ·rw[if_neg hp];have:(e.t.p==p)=false:=by rw[beq_eq_false_iff_ne];exact λh=>hp h.symm
  cases List.find? (λe=>e.t.p==p) d<;>simp[this]
theorem Mcp.step {ld d l:List En} {e:En} (h:Mcp ld d l) (hu:Uq l) (hd:aG d e.t.p=none):Mcp ld (d++[e]) (fO l e):=⟨λp=>by
 rw[eX.mQ hu,Uu hd,h.get];by_cases hp:p=e.t.p
 ·rw[if_pos hp,if_pos hp]
 ·rw[if_neg hp,if_neg hp]⟩
theorem Mcp.all {ld d ls l:List En} (h:Mcp ld d l) (hp:d.Perm ls) (hu:Uq ls):Mcp ld ls l:=⟨λp=>by rw[<-eX.yt hp (eX.uT hp.symm hu)];exact h.get p⟩
theorem xn {w:World} {D S:Nat} {ld ls:List En} (hd:dC w D ld) (hs:dC w S ls) (dh:D≠S):
  Calls prog 198 #[.map (some D),.map (some S)] w λe w'=>e= .returned (.tuple #[])/\(∃l,dC w' D l/\Mcp ld ls l)/\Kq (λq=>q=D) w w':=by
 have HD:=ag hd;have HS:=ag hs;have CP:=ag dh;have VT:=ag hd.lt;clear hd hs dh
 go_in
 go_wp2_with (at_range;refine jF _ rfl _ rfl S ls rfl HS.o ?_;intro w3 rC dE hs3)
 go_frame;have HD3:=ag (HD.o.on dE.o);have jU:=ag (Kq.of (T:=λq=>q=D) dE.o);have HRz:=ag (show D<w.heap.size from VT.o);have HW:=ag (Nat.le_refl w.heap.size);obtain⟨r,hr⟩:=bu w.heap.size;rw[<-hr] at rC⊢;have RP:=ag hr;clear hr HD hs3 HW
 go_loopw [4,5,8] (λ_ _ _ wr=>Hid (∃d l,jE wr S r ls d/\dC wr D l/\Mcp ld d l)/\Hid (Kq (λq=>q=D) w wr)) (λ_ _ _ wr=>wr.rangeLeft S r)
 case atStart=>exact⟨ag ⟨[],ld,rC.o,HD3.o,Mcp.start ld⟩,jU⟩
 case round=>
  obtain⟨hX,hK⟩:=hrel;have HK:=ag hK.out;clear rC HD3 jU hK dE;obtain⟨d,l,h1,h2,h3⟩:=hX.o;have H1:=ag h1;have H2:=ag h2;have H3:=ag h3;have Yx:=ag (show D≠r by rw[RP.o];have:=HRz.o;omega);clear hX h1 h2 h3
  go_wp2_with (at_next;refine ku _ rfl _ rfl S r ls d rfl H1.o ?_ ?_)
  ·intro hp;have HP:=ag (H3.o.all hp.o H1.o.PD.uq);go_wp2;go_end0;exact⟨rfl,⟨l,H2.o,HP.o⟩,HK.o⟩
  ·intro e w6 he Uw Xx hs6 hl6 CJ;rw[wZ] at CJ⊢;have yu:=ag (show dC w6 D l from H2.o.same (Xx.o.block D H2.o.lt λe=>Yx.o (Option.some.inj e)));have uu:=ag (HK.o.ay (Kq.grown Xx.o) λq hq=> .inr (by have:=RP.o;have:=Option.some.inj hq;omega));have pG:=(Below.refl w6.heap.size w6).alloc (Nat.le_refl _) (.cells #[.int .i64 (e.b:Int),.int .i64 (e.i:Int)] 247);have Nh:=ag (yu.o.on pG);have ZG:=ag (Uw.o.on pG);have zH:=ag (uu.o.on pG);have Yr:=ag (show(w6.alloc (.cells #[.int .i64 (e.b:Int),.int .i64 (e.i:Int)] 247)).rangeLeft S r<wr.rangeLeft S r from by rw[Uw.o.1.yg pG];exact hl6.o);have iD:=H1.o.PD.key he.o.1;have HGn:=ag (qM λx hx ex=>he.o.2 (by rw[<-DL H1.o.PD.uq (H1.o.2 x hx) he.o.1 ex];exact hx));obtain⟨o,axK,hm8,hg8⟩:=Nh.o.put e iD;rw[wZ] at axK;have HM8:=ag hm8;obtain⟨hR8,hL8⟩:=ZG.o.put Nh.o CP.o Yx.o o;have LK:=ag hR8;have U8:=ag hL8;have U6:=ag (zH.o.trans ((Kq.grown hg8).mono λq hq=>(Option.some.inj hq).symm));have HC8:=ag (H3.o.step H2.o.uq HGn.o);clear pG hm8 hg8 hR8 hL8 iD;go_wp2_with fail;go_roundw
   case rel=>exact⟨ag ⟨d++[e],_,LK.o,HM8.o,HC8.o⟩,U6⟩
   case measure=>rw[U8.o];exact Yr.o
end Go.Proofs.YtnieckfelfoopaaGreat
namespace Go.Proofs.YtnieckfelfoopaaGreat
open Go.RowKit Go.Maps Go.ChangeMaps eX

attribute [local go_sem] Oper.semAt_some

section
variable {NB B:Nat} {R:Nat->Prop} {w:World} {f:Fm}
theorem air (F:Nat) (w:World):Calls prog 142 #[F] w λe w'=>e= .returned (.func (.func 197) #[] #[.pointer (some ⟨w.heap.size,0,none⟩)])/\w.alloc (.cells #[.pointer (some ⟨F,0,none⟩)] 151)=w':=by
 go_in
 go_wp2;go_ret;exact⟨rfl,rfl⟩
section
variable {F:Fence} {n:Nat} {ops:Array Oper} {rest:List Oper} {o:Oper} {a:Act} {Q:Exit->Act->World->Prop} {b r:Nat} {l d:List En}
theorem DZ (hg:o.guard=none) (m:Operand) (uP:o.op=Op.range 222 m) (hm:a.eval m= .map (some b)) (h:dC w b l)
  (hK:∀w',Hid (jE w' b w.heap.size l [])->Hid (Below w.heap.size w w')->wpListIn F n prog ops Q rest (a.put o.dst (.pointer (some ⟨w.heap.size,0,none⟩))) w'):
  wpListIn F n prog ops Q (o::rest) a w:=
 jo hg m 222 uP 64 247 Tryz.underlying222 b _ hm h λw' h1 h2 _=>hK w' (ag ⟨h1,au⟩) (ag h2)
theorem FP (hg:o.guard=none) (it:Operand) (uP:o.op=Op.next it false) (mJ:a.eval it= .pointer (some ⟨r,0,none⟩)) (h:jE w b r l d)
  (Iz:Hid (d.Perm l)->wpListIn F n prog ops Q rest (a.put o.dst (.tuple #[.bool false])) w)
  (IA:∀e w',Hid (e∈l/\e∉d)->Hid (jE w' b r l (d++[e]))->Hid (w.grownBy w' (some r))->Hid (w'.rangeLeft b r<w.rangeLeft b r)->(Instr.entry (.pointer (some ⟨r,0,none⟩))).run prog w'= .ok (.tuple #[.int .u32 (e.t.p:Int),Vd e.b e.i]) w'->wpListIn F n prog ops Q rest (a.put o.dst (.tuple #[.bool true,.int .u32 (e.t.p:Int),Vd e.b e.i])) w'):
  wpListIn F n prog ops Q (o::rest) a w:=by
 refine jO hg it uP 64 b r _ _ mJ h.1 (λh1=>Iz (ag (h.all h1))) λp w' h1 h2 h3 h4 _ h6 h7=>?_;obtain⟨e,he,rfl⟩:=List.mem_map.1 h1;refine IA e w' (ag ⟨he,λh7=>h2 (List.mem_map.2 ⟨e,h7,rfl⟩)⟩) (ag ⟨?_,λx hx=>?_⟩) (ag h4) (ag h6) h7
 ·unfold Bz at h3⊢;rw[List.map_append];exact h3
 ·rcases List.mem_append.1 hx with h8|h8
  ·exact h.2 x h8
  ·rw[List.mem_singleton] at h8;subst h8;exact he
end
def aeR (f:Fm) (ss:List Nat):Prop:=ss.length<=10000/\∀q,q∈ss↔q≠0/\(lW f q).isSome=true
theorem axL {d l:List En} {se:List En} {e:En} (h:∀p,aG l p=if (aG d p).isSome then none else aG se p) (hd:aG d e.t.p=none):∀p,aG (jW l e.t.p) p=if (aG (d++[e]) p).isSome then none else aG se p:=λp=>by
 rw[qh,Uu hd,h];by_cases hp:p=e.t.p
 ·rw[if_pos hp,if_pos hp];rfl
 ·rw[if_neg hp,if_neg hp]
theorem ais {l1 l2:List En} (h1:∀p,aG l1 p=if (aG f.go p).isSome then none else aG f.se p) (h2:Mcp l1 f.no l2) (p:Nat):aG (jW l2 0) p=if p=0 then none else lW f p:=by rw[qh,h2.get,h1];rfl
theorem P8 {l:List En} (hu:Uq l) (h:∀p,aG l p=if p=0 then none else lW f p) (hf:∀q,q≠0->(lW f q).isSome=true->q=1) {ss:List Nat} (hs:ss.Perm (l.map λe=>e.t.p)):ss.length<=1/\aeR f ss:=by
 have hm:∀q,q∈ss↔q≠0/\(lW f q).isSome=true:=λq=>by
  rw[hs.mem_iff,<-dZ,h];by_cases e:q=0
  ·rw[if_pos e];simp[e]
  ·rw[if_neg e];simp[e]
 have:=uk (l:=ss) (l':=[1]) (hs.nodup_iff.2 hu) λx hx=>by obtain⟨a,b⟩:=(hm x).1 hx;rw[hf x a b];simp
 exact⟨this,by have:ss.length<=1:=this;omega,hm⟩
theorem Xy {Bm:Nat} (h:dB NB B R w f) (hB:aF w Bm 151 #[.pointer (some ⟨f.F,0,none⟩)]) (vN:∀q,q≠0->(lW f q).isSome=true->q=1):
  D5 prog 197 #[.pointer (some ⟨Bm,0,none⟩)] tu (aeR f) 10 (λq=>q=Bm\/R q) w:=by
 intro lp J X W hJ hW hX _ hY h0;have hf:=h.kq hW λq hq h=>h (.inr hq);have HBm:=ag (hB.kq hW λh=>h (.inl rfl));have HF:=ag hf;have HJ:=ag hJ;have VU:=ag (λq (h:X q)=>hJ.bd _ _ _ h0 q h);have HY:=ag hY;have H0:=ag h0;have aeS:=ag vN;clear h hB vN hW hX hJ hY h0 hf;refine callsIn_of_wp Tryz.func197 rfl trivial ?_ rfl;simp only[Tryz.ntmps197,List.size_toArray,List.length_cons,List.length_nil,Nat.reduceAdd,Nat.reduceSub,Array.replicate_succ,Array.replicate_zero,List.push_toArray,List.append_toArray,List.nil_append,List.cons_append];have bK:=(Below.refl W.heap.size W).alloc (Nat.le_refl _) (.map #[] 0);have HM1:=ag (dC.made W);have dw:=ag bK;have c0:=HBm.o.aj (i:=0) rfl;have Qp:=@run_makeMap prog;have c1:=(HBm.o.ah bK).aj (i:=0) rfl;have c2:=(HF.o.on bK).c5;clear bK
 gi_wp2_with fail
 refine⟨trivial,?_⟩;clear c0 c1 c2;have HW2:=ag (show f.SE≠W.heap.size/\f.NO≠W.heap.size/\f.GO≠W.heap.size from by have:=HF.o.hS.lt;have:=HF.o.hN.lt;have:=HF.o.hG.lt;omega);refine(callsIn_wide (n:=7)|>.2 (xn HM1.o (HF.o.on dw.o).hS (Ne.symm HW2.o.1))).mono ?_;rintro e W2 ⟨rfl,⟨l1,Ye,vT⟩,iy⟩;have aW:Below W.heap.size W W2:=dw.o.trans (iy.below (λq e=>Nat.le_of_eq e.symm) dw.o.size);have MN:=ag Ye;have Wn:=ag vT;have dA:=ag aW;have c1:=(HBm.o.ah aW).aj (i:=0) rfl;have c2:=(HF.o.on aW).c7;have HGo:=ag (HF.o.on aW).hG;clear Ye vT iy aW HM1 Qp
 gi_wp2_with (gi_at_range;refine DZ rfl _ rfl rfl HGo.o ?_;intro W3 rC dE)
 try go_frame
 have arJ:=ag (dA.o.ay dE.o);have Jz:=ag (MN.o.on dE.o);have yD:=ag (show∀p,aG l1 p=if (aG ([]:List En) p).isSome then none else aG f.se p from λp=>by
  rw[Wn.o.get,show aG ([]:List En) p=none from rfl]
  cases aG f.se p<;>rfl)
 have RP:=ag (show W.heap.size<W2.heap.size from MN.o.lt);obtain⟨r,hr⟩:=bu W2.heap.size;rw[<-hr] at rC RP⊢;have HRw:=ag (show W.heap.size<=r from by have:=RP.o;omega);clear hr dE c1 c2 HGo MN Wn dA dw
 gi_loopw [4,21,22,23,24,25,26] (λ_ _ _ _ _ _ _ wr=>Hid (∃d l,jE wr f.GO r f.go d/\dC wr W.heap.size l/\(∀p,aG l p=if (aG d p).isSome then none else aG f.se p))/\Hid (Below W.heap.size W wr)) (λ_ _ _ _ _ _ _ wr=>wr.rangeLeft f.GO r)
 case atStart=>exact⟨ag ⟨[],l1,rC.o,Jz.o,yD.o⟩,arJ⟩
 case round=>
  obtain⟨hX,hb⟩:=hrel;have HB:=ag hb.o;clear rC Jz yD hb arJ;obtain⟨d,l,h1,h2,h3⟩:=hX.o;have H1:=ag h1;have H2:=ag h2;have H3:=ag h3;clear hX h1 h2 h3
  gi_wp2_with (gi_at_next;refine FP rfl _ rfl rfl H1.o ?_ ?_)
  ·intro hp;have HG:=ag (show∀p,aG l p=if (aG f.go p).isSome then none else aG f.se p from λp=>by rw[H3.o,yt hp.o (uT hp.o.symm H1.o.PD.uq)]);have c1:=(HBm.o.ah HB.o).aj (i:=0) rfl;have c2:=(HF.o.on HB.o).c6;have HMw:=ag H2.o;clear H1 H2 H3 hp
   gi_wp2_with fail
   refine⟨trivial,?_⟩;refine(callsIn_wide (n:=7)|>.2 (xn HMw.o (HF.o.on HB.o).hN (Ne.symm HW2.o.2.1))).mono ?_;rintro e W4 ⟨rfl,⟨l2,XZ,F6⟩,fA⟩;have kL:=ag (HB.o.trans (fA.below (λq e=>Nat.le_of_eq e.symm) HB.o.size));have vO:=ag (ais HG.o F6);obtain⟨o,Xz,hm5,hg5⟩:=XZ.del (p:=0) ae 0;rw[show((0:Nat):Int)=0 from rfl] at Xz;have JA:=ag hm5;have pV:=ag (kL.o.grown hg5 kL.o.size λk e=>by have:=Option.some.inj e;omega);clear c1 c2 XZ F6 fA hm5 hg5 HMw HG
   gi_wp2_with fail
   refine⟨trivial,?_⟩;clear Xz;generalize setBlock W4 W.heap.size o=W5 at*;refine(callsIn_wide (n:=7)|>.2 (Ue (some W.heap.size) W5)).mono ?_;rintro e w_ ⟨rfl,rfl⟩;have OE:=ag (aF.new W5 222 #[.map (some W.heap.size)]);have pG:=(Below.refl W5.heap.size W5).alloc (Nat.le_refl _) (.cells #[.map (some W.heap.size)] 222);have yu:=ag (JA.o.on pG);have vP:=ag (pV.o.ay pG);have Ia:=ag (show W5.heap.size<(W5.alloc (.cells #[.map (some W.heap.size)] 222)).heap.size by simp);clear pG;obtain⟨Kb,hKb⟩:=bu W5.heap.size;rw[<-hKb] at OE Ia⊢;clear hKb;generalize W5.alloc (.cells #[.map (some W.heap.size)] 222)=W6 at*;have mJ:=Ux (enc:=tu) (dec:=aeT) OE.o yu.o XA (λp hp=>by obtain⟨x,_,rfl⟩:=List.mem_map.1 hp;exact⟨x.t.p,rfl⟩);have Yk:=ag (Lj (enters_of Tryz.func243 az rfl) (S:=λss=>ss.Perm ((Bz (jW l2 0)).map λp=>aeT p.1)) (N:=(Bz (jW l2 0)).length) (by
    have:=(P8 yu.o.uq vO.o aeS.o (List.Perm.refl _)).1;rw[List.length_map] at this;unfold Bz;rw[List.length_map];omega) (λss hs=>by
    refine(P8 yu.o.uq vO.o aeS.o (ss:=ss) ?_).1;have e1:(Bz (jW l2 0)).map (λp=>aeT p.1)=(jW l2 0).map λe=>e.t.p:=by unfold Bz;rw[List.map_map];exact List.map_congr_left λx _=>XA x.t.p
    rw[<-e1];exact hs) mJ (λq hq=>by
    rcases hq with rfl|rfl
    ·exact OE.o.lt
    ·exact yu.o.lt))
   clear mJ
   gi_wp2_with fail
   refine⟨trivial,?_⟩;refine(callsIn_wide (n:=7)|>.2 Yk.o).mono ?_;rintro e W7 ⟨⟨v,ss,rfl,hS,ho⟩,kC⟩;have hss:=P8 yu.o.uq vO.o aeS.o (ss:=ss) (by
    have e1:(Bz (jW l2 0)).map (λp=>aeT p.1)=(jW l2 0).map λe=>e.t.p:=by unfold Bz;rw[List.map_map];exact List.map_congr_left λx _=>XA x.t.p
    rw[<-e1];exact hS)
   have HSs:=ag hss;obtain⟨a,c,rfl,hc⟩:=ho.bZ rfl;have EC:=ag (vP.o.ay kC);have HO:=ag (ho.mono (base':=W.heap.size) vP.o.size);have HJ7:=ag (HJ.o.on H0.o (vP.o.ay kC));clear hS ho kC Yk hss hc
   gi_wp2_with fail
   gi_loopw [6,38] (λ_ v wr=>∃(k:Nat) (X1:Nat->Prop),v= .int .i64 k/\k<=ss.length/\Hid (J (ss.take k) X1 wr/\Grew X W X1/\Kq X W wr/\W.heap.size<=wr.heap.size/\Own tu 64 wr W.heap.size (.slice a ss.length c) ss/\∀q,(Value.slice a ss.length c).ownBlock=some q->¬X1 q)) (λ_ v _=>ss.length-(intOf v).toNat)
   case atStart=>exact⟨0,X,rfl,Nat.zero_le _,ag ⟨HJ7.o,Grew.refl _ _,Kq.of EC.o,EC.o.size,HO.o,λq hq hx=>by have:=(HO.o.aP q hq).1;have:=VU.o q hx;omega⟩⟩
   case round=>
    obtain⟨k,X1,rfl,hk,HX⟩:=hrel;clear HJ7 HO;obtain⟨x1,x2,x3,x4,x5,x6⟩:=HX.o;have H1:=ag x1;have H2:=ag x2;have H3:=ag x3;have H4:=ag x4;have H5:=ag x5;have H6:=ag x6;clear HX x1 x2 x3 x4 x5 x6;have iO:=HSs.o.1;by_cases aU:k<ss.length
    ·obtain⟨g,o1,iy,rfl,NZ,vT⟩:=(H5.o.arr ae).QQ aU;have HTk:=ag (List.take_succ_eq_append_getElem iy);generalize ss[k]=x at*;have g1:(k:Int)<(ss.length:Int):=ae;have g0:(0:Int)<=(k:Int):=ae;have g2:=IntWalk.i64_in ((k:Int)+1) ⟨ae,ae⟩;unfold tu at vT;have FB:=ag NZ;obtain⟨fn,tmps,assign,body,hy,hR⟩:=HY.o (ss.take k) x X1 wr H1.o (by rw[List.length_take];omega);unfold tu at hy;have hkl:=aU;clear iO aU NZ
     gi_wp2
     refine hR.mono ?_;rintro e W8 ⟨rfl,⟨X8,hJ8,hg8⟩,hk8⟩;have hs8:=hk8.size;have HX8:=ag (show J (ss.take (k+1)) X8 W8/\Grew X W X8/\Kq X W W8/\W.heap.size<=W8.heap.size/\Own tu 64 W8 W.heap.size (.slice (some ⟨g,o1,none⟩) ss.length c) ss/\∀q,(Value.slice (some ⟨g,o1,none⟩) ss.length c).ownBlock=some q->¬X8 q from
      ⟨by rw[HTk.o];exact hJ8,H2.o.trans hg8 H4.o,H3.o.ay hk8 (λq hq=>H2.o q hq),Nat.le_trans H4.o hs8,H5.o.kq hk8 (λq hq=>H6.o q hq),λq hq=>hg8.not (H6.o q hq) (H5.o.aP q hq).2⟩)
     clear hJ8 hg8 hk8 hs8 vT
     gi_wp2
     go_roundw
     case rel=>exact⟨k+1,X8,by go_num,ae,HX8⟩
     case measure=>simp[intOf];omega
    ·obtain rfl:k=ss.length:=ae;have HJe:=ag (show J ss X1 wr from by have:=H1.o;rwa [List.take_length] at this);clear iO aU
     gi_wp2
     go_end0;exact⟨⟨_,rfl⟩,⟨ss,X1,HSs.o.2,HJe.o,H2.o⟩,H3.o⟩
  ·intro e w6 he Uw Xx hl6 CJ;have yu:=ag (show dC w6 W.heap.size l from H2.o.same (Xx.o.block _ H2.o.lt λe=>by have:=RP.o;have:=Option.some.inj e;omega));have vP:=ag (HB.o.grown Xx.o HB.o.size λk e=>by have:=HRw.o;have:=Option.some.inj e;omega);have iD:=H1.o.PD.key he.o.1;have HGn:=ag (qM λx hx ex=>he.o.2 (by rw[<-DL H1.o.PD.uq (H1.o.2 x hx) he.o.1 ex];exact hx));obtain⟨o,Xz,hm8,hg8⟩:=yu.o.del iD 0;rw[wZ] at CJ⊢;have HM8:=ag hm8;have HB8:=ag (vP.o.grown hg8 vP.o.size λk e=>by have:=Option.some.inj e;omega);obtain⟨hR8,hL8⟩:=jE.put Uw.o yu.o (Ne.symm HW2.o.2.2) (by have:=RP.o;omega) o;have LK:=ag hR8;have U8:=ag hL8;have H38:=ag (axL H3.o HGn.o);clear hm8 hg8 hR8 hL8 iD
   gi_wp2_with fail
   go_roundw
   case rel=>exact⟨ag ⟨d++[e],_,LK.o,HM8.o,H38.o⟩,HB8⟩
   case measure=>rw[U8.o];exact hl6.o
end
end Go.Proofs.YtnieckfelfoopaaGreat
namespace Go.Proofs
open Go.Shelf
def Tryz.sortedA_ren:Go.Shelf.Ren:=⟨fun|6=>145|8=>203|9=>204|11=>245|13=>247|12=>246|23=>275|24=>276|14=>266|15=>267|16=>268|17=>269|18=>270|19=>271|20=>272|21=>273|22=>274|25=>296|26=>297|27=>298|28=>299|29=>300|30=>301|31=>325|n=>n,fun|26=>3|28=>217|24=>116|0=>0|3=>3|37=>196|48=>64|50=>65|4=>4|40=>331|39=>330|45=>239|5=>5|9=>9|51=>354|55=>358|57=>376|58=>158|33=>82|n=>n,fun|n=>n⟩
theorem Tryz.sortedA:Go.Proofs.SlLaysZI.n6 prog Tryz.sortedA_ren:={
 mixed:=az
 f6:=⟨Tryz.f145.name,aB,Tryz.func145.trans (congrArg some az)⟩
 f8:=⟨Tryz.f203.name,aB,Tryz.func203.trans (congrArg some az)⟩
 f11:=⟨Tryz.f245.name,aB,Tryz.func245.trans (congrArg some az)⟩
 t0:=Tryz.underlying0
 a0:=Tryz.isAgg0
 z0:=Tryz.sizeOf0
 v0:=Tryz.zeroValue0
 t24:=Tryz.underlying116
 a24:=Tryz.isAgg116
 z24:=Tryz.sizeOf116
 v24:=Tryz.zeroValue116
 t26:=Tryz.underlying3
 a26:=Tryz.isAgg3
 z26:=Tryz.sizeOf3
 v26:=Tryz.zeroValue3
 t28:=Tryz.underlying217
 a28:=Tryz.isAgg217
 z28:=Tryz.sizeOf217
 v28:=Tryz.zeroValue217
 i26:=by kernel_rfl}
namespace YtnieckfelfoopaaGreat
open Go.RowKit Go.Maps Go.Sort
theorem amR (m:Nat):AnyZI.SortsIn prog Tryz.sortedA_ren Fence.wide m:=
 ⟨λblk off cap ss W hH aae ja=>callsIn_wide.2 (Tryz.slices_Sort_int blk off cap ss W hH aae ja),
  λp cap W=>callsIn_wide.2 (Tryz.slices_Sort_int_none p cap W)⟩
def Uy (ss:List Int):List Int:=ss.mergeSort λx y=>decide (x<=y)
theorem Jm (ss:List Int):(Uy ss).Perm ss:=List.mergeSort_perm ss _
theorem yZ {S:List Int->Prop} {N g:Nat} {lb:Array Value} {w:World} (eg:∀args w,(callFunc g args).run prog w= .ok (.enter g args) w) (hN:N<=1000000) (axM:SeqGives Fence.wide 8 prog g lb encZ S N w):
  Calls prog 145 #[.func (.func g) #[] lb] w λe w'=>∃v ss,e= .returned v/\S ss/\Own encZ 3 w' w.heap.size v (Uy ss)/\Below w.heap.size w w'/\(ss=[]->v= .slice none 0 0):=by
 have h:=AnyZI.sorted_in Tryz.sortedA Fence.wide 11 trivial trivial trivial trivial rfl ae (amR _) (enters_of Tryz.func204 az rfl) g lb trivial eg S N (by unfold maxLen;omega) ae w axM;change CallsIn _ _ prog 145 _ _ _ at h;refine(callsIn_wide.1 h).mono ?_;rintro e w' ⟨v,ss,rfl,hS,adF,Ho,hb⟩;refine⟨v,ss,rfl,hS,?_,hb,Ho.2⟩;unfold Own;rw[(Jm ss).length_eq];exact adF
end YtnieckfelfoopaaGreat
end Go.Proofs
namespace Go.Proofs.YtnieckfelfoopaaGreat
open Go.RowKit Go.Maps Go.ChangeMaps eu eX
variable {NB B P n:Nat} {Q:Nat->Prop} {w w':World} {f:Fm} {s:Ps}

theorem bT.ft (h:bT NB B Q w P f s):∃R,dB NB B R w f/\Fc NB f/\∀q,R q->Q q:=by obtain⟨U,D,dl,R,h1,h2,_⟩:=h;exact⟨R,h1.hf,h1.fc,λq hq=>h2 q (.inr (.inr (.inr (.inl hq))))⟩
theorem rO (h:bT NB B Q w P f s):Calls prog 43 #[P] w λe w'=>e= .returned (.bool false)/\Below w.heap.size w w':=by
 obtain⟨R,hf,hc,_⟩:=h.ft;have HR:=ag (oM hf hc.fi hc.ov);have c0:=h.c0;clear h hf hc
 go_in
 go_wp2_with fail;refine HR.o.mono ?_;rintro e w1 ⟨rfl,hb⟩;have HB:=ag hb;clear hb c0;go_wp2;go_ret;exact⟨rfl,HB.o⟩
end Go.Proofs.YtnieckfelfoopaaGreat
namespace Go.Proofs.YtnieckfelfoopaaGreat
open Go.RowKit Go.Maps Go.ChangeMaps eu eX

structure CmF (NB:Nat) (f:Fm) (L:List Nat) (g:Nat->List UInt8) (k:Nat) (f':Fm):Prop where
 fc:Fc NB f'
 F:f'.F=f.F
 C:f'.g.C=f.g.C
 gh:f'.g.gh=f.g.gh
 ct:Gc.count 0 f.g.l<=Gc.count 0 f'.g.l+k
 seq:f'.seq=f.seq+k
 ep:f'.ep=f.ep
 tx:f'.tx=f.tx
 s0:(aG f'.se 0).isSome=true
 len:(f'.se++f'.no).length=(f.se++f.no).length+k
 no:∀q,(aG f'.no q).isSome=true->q∈L.take k
 vw:∀q,if q∈L.take k then∃sq,f.seq<=sq/\sq<f.seq+k/\vw f' q=some (⟨1,q,sq,f.ep⟩,g q) else vw f' q=vw f q
section
variable {NB k:Nat} {f f1 f':Fm} {L:List Nat} {g:Nat->List UInt8} {tx:List UInt8}
theorem CmF.start (h:Fc NB f) (hn:f.no=[]) (h0:(aG f.se 0).isSome=true):CmF NB f L g 0 f:=
 ⟨h,rfl,rfl,rfl,ae,rfl,rfl,rfl,h0,rfl,λq hq=>(by rw[hn] at hq;cases hq),λq=>by rw[List.take_zero,if_neg au]⟩
theorem CmF.step (h:CmF NB f L g k f1) (hu:L.Nodup) (hk:k<L.length) (hw:Wrd NB f1 f' L[k] (g L[k])):CmF NB f L g (k+1) f':=by
 have ht:=List.take_succ_eq_append_getElem hk;have hni:L[k]∉L.take k:=λhm=>by obtain⟨i,hi,e⟩:=List.mem_iff_getElem.1 hm;rw[List.length_take] at hi;rw[List.getElem_take] at e;exact List.pairwise_iff_getElem.1 hu i k ae hk ae e
 have hno:(aG f1.no L[k]).isSome=false:=by
  cases hz:(aG f1.no L[k]).isSome with
  |false=>rfl
  |true=>exact absurd (h.no _ hz) hni
 refine⟨hw.fc,hw.F.trans h.F,hw.C.trans h.C,hw.gh.trans h.gh,?_,?_,hw.ep.trans h.ep,hw.tx.trans h.tx,hw.adY h.s0,?_,λq hq=>?_,λq=>?_⟩
 ·have:=h.ct;have:=hw.ct;omega
 ·rw[hw.seq,h.seq];omega
 ·rw[hw.len_,h.len,hno];simp;omega
 ·rw[ht,List.mem_append,List.mem_singleton];have h1:=hw.no q;by_cases e:q=L[k]
  ·exact .inr e
  ·rw[if_neg e] at h1;refine .inl (h.no q ?_)
   cases hz:aG f'.no q with
   |none=>rw[hz] at hq;cases hq
   |some x=>
    rw[hz] at h1
    cases hy:aG f1.no q with
    |none=>rw[hy] at h1;cases h1
    |some y=>rfl
 ·have h1:=hw.vw q;have h2:=h.vw q;rw[ht];by_cases e:q=L[k]
  ·rw[if_pos (List.mem_append_right _ (by rw[e];exact List.mem_singleton.2 rfl))];rw[if_pos e] at h1;exact⟨f1.seq,by rw[h.seq];omega,by rw[h.seq];omega,by rw[h1,h.ep,<-e]⟩
  ·rw[if_neg e] at h1;by_cases hm:q∈L.take k
   ·rw[if_pos hm] at h2;rw[if_pos (List.mem_append_left _ hm)];obtain⟨sq,a,b,c⟩:=h2;exact⟨sq,a,ae,by rw[h1];exact c⟩
   ·rw[if_neg hm] at h2;rw[if_neg (by rw[List.mem_append,List.mem_singleton];rintro(h|h);exact hm h;exact e h),h1];exact h2
structure CmD (NB:Nat) (f:Fm) (L:List Nat) (g:Nat->List UInt8) (tl:List UInt8) (f':Fm):Prop where
 fc:Fc NB f'
 F:f'.F=f.F
 C:f'.g.C=f.g.C
 gh:f'.g.gh=f.g.gh
 ct:Gc.count 0 f.g.l<=Gc.count 0 f'.g.l+L.length+1
 seq:f'.seq=f.seq+L.length+1
 ep:f'.ep=f.ep+1
 tx:f'.tx=tl
 no:f'.no=[]
 go:f'.go=[]
 s0:(aG f'.se 0).isSome=true
 vw0:vw f' 0=some (⟨2,0,f.seq+L.length,f.ep⟩,fZ tl)
 vw:∀q,q≠0->if q∈L then∃sq,f.seq<=sq/\sq<f.seq+L.length/\vw f' q=some (⟨1,q,sq,f.ep⟩,g q) else vw f' q=vw f q
theorem CmF.sealC (h:CmF NB f L g L.length f1) (hs:Sld NB f1 f' tx):CmD NB f L g tx f':=by
 refine⟨hs.fc,hs.F.trans h.F,hs.C.trans h.C,hs.gh.trans h.gh,?_,?_,?_,hs.tx,hs.no,hs.go,hs.adY,?_,λq hq=>?_⟩
 ·have:=h.ct;have:=hs.ct;omega
 ·rw[hs.sq,h.seq]
 ·rw[hs.ep,h.ep]
 ·rw[hs.vw,if_pos rfl];unfold uj;rw[h.seq,h.ep]
 ·have h1:=h.vw q;have h2:=hs.vw q;rw[if_neg hq] at h2;rw[List.take_length] at h1;rw[h2];exact h1
theorem CmD.perm {L':List Nat} (h:CmD NB f L g tx f') (hp:L.Perm L'):CmD NB f L' g tx f':=by
 have hl:=hp.length_eq;refine⟨h.fc,h.F,h.C,h.gh,by rw[<-hl];exact h.ct,by rw[<-hl];exact h.seq,h.ep,h.tx,h.no,h.go,h.s0,by rw[<-hl];exact h.vw0,λq hq=>?_⟩;have h1:=h.vw q hq;by_cases hm:q∈L
 ·rw[if_pos hm] at h1;rw[if_pos (hp.mem_iff.1 hm),<-hl];exact h1
 ·rw[if_neg hm] at h1;rw[if_neg λh=>hm (hp.mem_iff.2 h)];exact h1
end
theorem P9 {dl:List Dp} {ss:List Int} (h:ss.Perm (dl.map λd=>(d.n:Int))):∃Ln:List Nat,Uy ss=Ln.map (λn:Nat=>(n:Int))/\Ln.Perm (dl.map Dp.n):=by
 have hp:=(Jm ss).trans h;refine⟨(Uy ss).map Int.toNat,?_,?_⟩
 ·rw[List.map_map]
  conv=>lhs;rw[<-List.map_id (Uy ss)]
  refine List.map_congr_left λx hx=>?_;obtain⟨d,_,rfl⟩:=List.mem_map.1 (hp.mem_iff.1 hx);simp
 ·have h2:=hp.map Int.toNat
  rw[List.map_map] at h2;have:dl.map (Int.toNat∘λd=>(d.n:Int))=dl.map Dp.n:=List.map_congr_left λd _=>au;rw[this] at h2;exact h2
end Go.Proofs.YtnieckfelfoopaaGreat
namespace Go.Proofs.YtnieckfelfoopaaGreat
open Go.RowKit eX Go.ChangeMaps

section
variable {NB B n:Nat} {R:Nat->Prop} {w:World} {f:Fm}
def Wrt (NB B:Nat) (R:Nat->Prop) (f:Fm) (p:Nat) (pay:List UInt8) (w:World) (e:Ending) (w':World):Prop:=e= .returned (.int .i64 0)/\∃f',uI NB B R w w' f'/\Wrd NB f f' p pay
theorem Qa (Tt:4<=Gc.count 0 f.g.l) (h:dB NB B R w f) (hc:Fc NB f) (p:Nat) (JL:(aG f.no p).isSome=false) (Dh:1<=p) (iU:p+2<(NB-3)*8) (oq:p<8192) (hfull:(aG f.no p).isSome=true\/(f.se++f.no).length+3<=8*(NB-3)) (Me:f.seq<=1000000) (a:Option Addr) (c:Nat) (pay:List UInt8) (RX:f.g.gh (Tg.page ⟨1,p,f.seq,f.ep⟩ pay)) (hx:Bytes w w.heap.size a 64 pay) (EE:∀b o,a=some ⟨b,o,none⟩->¬R b):
  Calls prog 147 #[f.F,.int .u32 p,.slice a 64 c] w (Wrt NB B R f p pay w):=by
 have iC:=h.base;have oC:=hc.fi.nb;have hlg:=qL h hc.fi p ae;rw[if_neg ae] at hlg;have HLg:=ag hlg;have HH:=ag h;have HC:=ag hc;have HX:=ag hx;have Wj:=ag EE;have HFu:=ag hfull;have Py:=ag Me;have uw:=ag Dh;have mP:=ag oq;have HAb:=ag (show∀b o,a=some ⟨b,o,none⟩->b<w.heap.size from λb o e=>by obtain⟨b',o',e',aU,_⟩:=hx.2.2 ae;rw[e] at e';injection e' with e';injection e' with e';omega);have axN:=ag (show(f.se++f.no).length<=1000000 by have:=hc.cap;omega);have jq:=iE;have HGh:=ag RX;have adZ:=ag (YI Tt);have HAg:=ag JL;clear Tt JL RX h hc hlg hx EE hfull Me Dh iU oq
 go_in
 go_wp2_with fail;refine HLg.o.mono ?_;rintro e w1 ⟨rfl,bK⟩;have H1:=ag (HH.o.on bK);have dw:=ag bK;obtain⟨b1,i1,e1⟩:=qN (aG f.no p);have Jy:=H1.o.hN.Bo (by have:=mP.o;omega) rfl e1 HAg.o;have c6:=H1.o.c6;have aW:=bK.alloc bK.size (.cells #[.int .i64 b1,.int .i64 i1] 247);have H2:=ag (HH.o.on aW);have dA:=ag aW;clear bK e1 aW;go_upto_region 5 with fail;generalize w1.alloc (.cells #[.int .i64 b1,.int .i64 i1] 247)=w2 at*;clear Jy c6;go_wp2_with fail;refine(EJ H2.o).mono ?_;rintro e w3 ⟨rfl,bQ⟩;have dE:=ag (dA.o.ay bQ);have H3:=ag (H2.o.on bQ);clear bQ;go_wp2_with fail;refine(oM H3.o HC.o.fi HC.o.ov).mono ?_;rintro e w4 ⟨rfl,di⟩;have kL:=ag (dE.o.ay di);have H4:=ag (H3.o.on di);clear di;go_upto_region 9 with fail
 go_cut [38] (λv wx=>v= .bool false/\Hid (Below w.heap.size w wx))
 case first=>
  ·have hfl:=HFu.o;rw[HAg.o] at hfl;have hfl:(f.se++f.no).length+3<=8*(NB-3):=by simpa using hfl
   obtain⟨U,hU⟩:=bu ((f.se++f.no).length);have HUs:=ag (Ew H4.o axN.o);rw[<-hU] at HUs hfl;have aU:¬((NB:Int)-3)*8-2<=(U:Int):=ae;clear hU hfl;go_wp2_with fail;refine HUs.o.mono ?_;rintro e w5 ⟨rfl,iP⟩;have pV:=ag (kL.o.ay iP);have H5:=ag (H4.o.on iP);clear iP;go_wp2_with fail;refine(jc H5.o HC.o.fi).mono ?_;rintro e w6 ⟨rfl,iI⟩;have vP:=ag (pV.o.ay iI);clear iI;have HLt:=ag aU;clear aU;go_wp2_with fail;go_meet
   case rel=>exact⟨by have:=HLt.o;exact congrArg Value.bool (decide_eq_false ae),vP.o⟩
 case rest=>
  obtain⟨rfl,iP⟩:=hcut;have H5:=ag (HH.o.on iP.o);have Dt:=ag (HX.o.on iP.o);have pV:=ag iP.o;have axP:=ag ((Pr.start HH.o).on iP.o);clear iP;have HPt:=ag (IJ adZ.o H5.o HC.o.fi HC.o.fr HC.o.cap (by have:=Py.o;omega) 1 p (.inl rfl) mP.o ⟨by have:=HC.o.sq;omega,by have:=Py.o;omega⟩ ⟨by have:=HC.o.sq;omega,by have:=HC.o.sq;have:=Py.o;omega⟩ a c pay HGh.o Dt.o Wj.o);go_wp2_with fail;refine HPt.o.mono ?_;rintro e w6 ⟨k,i,f1,g',rfl,h6,gQ,wQ,zk,sG⟩;have Ll:=ag (axP.o.step h6);obtain⟨R2,hR2⟩:=bu (Up R wc w6);rw[<-hR2] at Ll;have YW:=ag gQ;have Gi:=ag wQ;have HFi:=ag zk;have ZM:=ag sG;have kC:=(Below.refl w6.heap.size w6).alloc (Nat.le_refl _) (.cells #[.int .i64 k,.int .i64 i] 247);have Qb:=ag (Ll.o.on kC);have amS:=ag (aF.new w6 247 #[.int .i64 k,.int .i64 i]);have ajS:=ag (Ll.o.ft.aV (Nat.le_refl w6.heap.size));have c6:=Qb.o.ft.c6;rw[show(⟨({f1 with g:=g',seq:=f.seq+1}:Fm).F,6,none⟩:Addr)=⟨f.F,6,none⟩ from congrArg (λq=>(⟨q,6,none⟩:Addr)) gQ.F] at c6;have amT:(aG f1.no p).isSome=false:=by rw[je gQ.no];exact HAg.o
  obtain⟨b2,i2,e2⟩:=qN (aG f1.no p);have hl7:=Qb.o.ft.hN.Bo (by have:=mP.o;omega) rfl e2 amT;have hu1:=Qb.o.ft.hN.uq;have HU1:=ag hu1;have HOe:=ag (show Oe ⟨⟨1,p,f.seq,f.ep⟩,pay,k,i⟩ from⟨⟨.inl rfl,mP.o,by show 1<=f.seq;have:=HC.o.sq;omega,by show f.seq<_;have:=Py.o;omega,by show 1<=f.ep;have:=HC.o.sq;omega,by show f.ep<_;have:=HC.o.sq;have:=Py.o;omega⟩,HX.o.len⟩);simp only at c6 hl7;have kQ:=(Below.refl _ _).alloc (Nat.le_refl (w6.alloc (.cells #[.int .i64 k,.int .i64 i] 247)).heap.size) (.cells #[.int .i64 b2,.int .i64 i2] 247);have BM:=ag (Qb.o.on kQ);have RY:=ag (amS.o.ah kQ);have HO8:=ag (aF.new (w6.alloc (.cells #[.int .i64 k,.int .i64 i] 247)) 247 #[.int .i64 b2,.int .i64 i2]);have HG1:=ag amT;have HE2:=ag e2;clear h6 gQ wQ zk sG kC kQ hR2 amT e2 hu1;go_upto_region 15 with fail;obtain⟨T10,amU⟩:=bu w6.heap.size;have HTe:=ag amU;obtain⟨W8,RI⟩:∃W8,W8=(w6.alloc (.cells #[.int .i64 k,.int .i64 i] 247)).alloc (.cells #[.int .i64 b2,.int .i64 i2] 247):=⟨_,rfl⟩
  have HO8:Hid (aF W8 (w6.heap.size+1) 247 #[.int .i64 b2,.int .i64 i2]):=by rw[RI];have:=HO8;rw[World.size_alloc] at this;exact this
  rw[<-RI] at BM RY⊢;rw[<-amU] at RY ajS HO8⊢;clear amU RI c6 hl7
  ·-- no older one
   have hno:aG f1.no p=none:=by have:=HG1.o;cases hg:aG f1.no p with|none=>rfl|some e=>rw[hg] at this;cases this
   obtain⟨f3,hf3⟩:∃f3,f3=({f1 with g:=g',seq:=f.seq+1}:Fm):=⟨_,rfl⟩
   have HF3:=ag (show f3.F=f.F by rw[hf3];exact YW.o.F);have BO:=ag (show f3.tx=f1.tx/\f3.se=f1.se/\(fO f3.no ⟨⟨1,p,f.seq,f.ep⟩,pay,k,i⟩=fO f1.no ⟨⟨1,p,f.seq,f.ep⟩,pay,k,i⟩)/\jW f3.go p=jW f1.go p/\f3.ep=f1.ep/\f3.ov=f1.ov by rw[hf3];exact⟨rfl,rfl,rfl,rfl,rfl,rfl⟩);have axR:=ag (show f3.seq=f.seq+1 by rw[hf3]);have axS:=ag (show f3.g.C=f.g.C by rw[hf3];exact Gi.o.C.trans YW.o.C);have arL:=ag (show f3.g.gh=f.g.gh by rw[hf3];exact Gi.o.gh.trans YW.o.gh);have arM:=ag (show Fr f.g f3.g by rw[hf3];exact ZM.o);have arN:=ag (show Fi NB (100000*f.seq+17*(NB+1)+1) [] f3.g (f1.se++fO f1.no ⟨⟨1,p,f.seq,f.ep⟩,pay,k,i⟩) by rw[hf3];refine HFi.o.add Gi.o.gp HOe.o ?_;rw[nV λx hx=>jM hno x hx,<-List.append_assoc];exact(List.perm_append_comm (l₁:=f1.se++f1.no)));have jT:Hid (Pr NB B R w R2 W8 f3):=by rw[hf3];exact BM
   have aeW:=RY;have HTn:=ajS;clear hno hf3 BM RY;generalize W8=mi at*;have hF3:f3.F=f.F:=HF3.o;have Vf:=jT.o.ft.on (ak mi);have hpn:=Vf.aqI ⟨⟨1,p,f.seq,f.ep⟩,pay,k,i⟩ (by show p<_;have:=mP.o;omega);obtain⟨Lm,bP,Jn,Jo⟩:=hpn;have bP:(Instr.mapUpdate 222 (.map (some f3.NO)) (.int .u32 p) (.agg #[.int .i64 k,.int .i64 i])).run prog mi.drew= .ok () (setBlock mi.drew f3.NO Lm):=bP;have o9:=ag ((jT.o.on (ak mi)).same Jn Jo);have BP:mi.drew.cell? ⟨f.F,6,none⟩=some (.map (some f3.NO))/\mi.drew.cell? ⟨T10,0,none⟩=some (.int .i64 k)/\mi.drew.cell? ⟨T10,1,none⟩=some (.int .i64 i):=by refine⟨by rw[<-hF3];exact Vf.c6,aeW.o.drew.aj (i:=0) rfl,aeW.o.drew.aj (i:=1) rfl⟩
   have Jp:(setBlock mi.drew f3.NO Lm).cell? ⟨f.F,6,none⟩=some (.map (some f3.NO))/\(setBlock mi.drew f3.NO Lm).cell? ⟨T10,0,none⟩=some (.int .i64 k)/\(setBlock mi.drew f3.NO Lm).cell? ⟨T10,1,none⟩=some (.int .i64 i):=by have hT:=aeW.o.drew.kq Jo HTn.o;exact⟨by rw[<-hF3];exact Jn.c6,hT.aj (i:=0) rfl,hT.aj (i:=1) rfl⟩
   have XB:=ag BP;have XC:=ag Jp;clear Vf Jn Jo BP Jp;go_upto_region 17 with fail;refine iT (λW'=>W'.cell? ⟨f.F,6,none⟩=some (.map (some f3.NO))/\W'.cell? ⟨T10,0,none⟩=some (.int .i64 k)/\W'.cell? ⟨T10,1,none⟩=some (.int .i64 i)) XB.o (λbJ=>?_);refine dP 0 f.F 0 ?_;refine dP 1 f.F 0 ?_;refine aS 2 f.F 6 ?_;refine jy 3 (.map (some f3.NO)) rfl (λ_ aI=>by obtain⟨y7,y8,y9⟩:=aI;go_simp) ?_;refine fB 4 (.int .u32 p) ?_;refine jy 5 (.agg #[.int .i64 k,.int .i64 i]) rfl (λ_ aI=>by obtain⟨y7,y8,y9⟩:=aI;go_simp) ?_;refine dm 6 (λK' hK=>?_);go_simp;refine hK.out _ _ XC.o (λV8=>?_);refine gB ?_;clear bP bJ V8;obtain⟨D6,Uz⟩:=bu (setBlock mi.drew f3.NO Lm);rw[<-Uz] at o9⊢;clear Uz;have Xz:=o9.o.ft.al2 (p:=p) (by have:=mP.o;omega);have c7:=o9.o.ft.c7;rw[show(⟨({f3 with no:=fO f3.no ⟨⟨1,p,f.seq,f.ep⟩,pay,k,i⟩}:Fm).F,7,none⟩:Addr)=⟨f.F,7,none⟩ from congrArg (λq=>(⟨q,7,none⟩:Addr)) hF3] at c7;have c7:D6.cell? ⟨f.F,7,none⟩=some (.map (some f3.GO)):=c7;have arP:=λty=>Xz ty;obtain⟨o12,qV,Jq,wM⟩:=Xz 0;have Jr:=ag (o9.o.same Jq wM);have qV:∀ty,(Builtin.delete_ #[222,64] ty #[.map (some f3.GO),.int .u32 p]).run prog D6= .ok (.tuple #[]) (setBlock D6 f3.GO o12):=λty=>qV;clear Xz arP Jq wM hF3;go_wp2_with fail;go_ret;exact⟨rfl,_,Jr.o.fin iC,wrd HC.o YW.o HU1.o uw.o arN.o ae arM.o (by have:=HFu.o;exact this) axS.o arL.o (HF3.o.trans YW.o.F.symm) BO.o.1 BO.o.2.1 BO.o.2.2.1 BO.o.2.2.2.1 axR.o BO.o.2.2.2.2.1 BO.o.2.2.2.2.2⟩
end
end Go.Proofs.YtnieckfelfoopaaGreat
namespace Go.Proofs.YtnieckfelfoopaaGreat
open Go.RowKit Go.Maps Go.ChangeMaps eu eX

def Ps.clean (s:Ps):Ps:={s with dy:=λ_=>False}
section
variable {NB B P U D:Nat} {R R2 Q:Nat->Prop} {w W:World} {f f':Fm} {s:Ps} {dl:List Dp} {L:List Nat} {tx:List UInt8}
theorem zM.bf (h:zM NB B R w P U D dl f s) (h2:∀q,Hp P U D R dl q->Q q) (h3:∀q,Q q->B<=q/\q<w.heap.size) (hp:Pr NB B R w R2 W f') (hc:CmD NB f L s.g tx f') (hL:L.Perm (dl.map Dp.n)):
  jJ NB B Q w ((W.alloc (.map #[] 0)).setCell ⟨P,7,none⟩ (.map (some W.heap.size))) P f' s.clean:=by
 have hs:=hp.kq.size;have hPl:=h.hP.lt;have hUl:=h.hU.lt;have pG:=(Below.refl W.heap.size W).alloc (Nat.le_refl _) (.map #[] 0);have eQ:Kq (λq=>q=P) (W.alloc (.map #[] 0)) ((W.alloc (.map #[] 0)).setCell ⟨P,7,none⟩ (.map (some W.heap.size))):=Kq.one ⟨P,7,none⟩ _;have hnP:¬R2 P:=λhr=>by
  rcases hp.up P hr with h1|h1
  ·exact h.nr.1 h1
  ·omega
 have hnU:¬R2 U:=λhr=>by
  rcases hp.up U hr with h1|h1
  ·exact h.nr.2.1 h1
  ·omega
 have hnD:¬R2 W.heap.size:=λhr=>by
  rcases hp.up _ hr with h1|h1
  ·have:=(h3 _ (h2 _ (.inr (.inr (.inr (.inl h1)))))).2;omega
  ·omega
 have hR2:∀q,R2 q->q<W.heap.size:=λq hq=>(hp.ft.bnd q hq).2;have Wi:Kq Q w ((W.alloc (.map #[] 0)).setCell ⟨P,7,none⟩ (.map (some W.heap.size))):=
  ((hp.kq.mono λq hq=>h2 q (.inr (.inr (.inr (.inl hq))))).on pG).ay eQ λq e=> .inl (e▸h2 P (.inl rfl))
 refine⟨⟨U,W.heap.size,[],R2,⟨?_,?_,?_,?_,hc.fc,⟨h.ok.us,h.ok.nd,h.ok.sz,h.ok.no⟩,h.bd,(λd hd=>by cases hd),(λd hd=>by cases hd),λn hn=>?_,⟨h.ne.1,ae,ae⟩,⟨hnP,hnU,hnD⟩,(λd hd=>by cases hd),λn=>⟨λh=>h.elim,λh=>by cases h⟩⟩,λq hq=>?_,λq hq=>?_⟩,Wi⟩
 ·have h1:=(((h.hP.kq hp.kq h.nr.1).ah pG).set 7 (.map (some W.heap.size)))
  rw[hc.F];exact h1
 ·exact h.hU.same ((eQ.block U (by simp;omega) (λe=>h.ne.1 e.symm)).trans ((pG.block U ae).trans (hp.kq.block U hUl h.nr.2.1)))
 ·exact bW.same (bW.made W) (eQ.block W.heap.size au ae)
 ·exact(hp.ft.on pG).kq eQ λq hq e=>hnP (e▸hq)
 ·show s.g n=CX f' [] n;have JD:n≠0:=by
   rcases hn with h1|h1
   ·omega
   ·have:=(h.ok.us n h1).1;omega
  have hv:=hc.vw n JD;have hg:=h.g n hn;have he:CX f' [] n=match vw f' n with|some y=>y.2|none=>zeros:=rfl
  rw[he];by_cases hm:n∈L
  ·rw[if_pos hm] at hv;obtain⟨sq,_,_,e⟩:=hv;rw[e]
  ·rw[if_neg hm] at hv;rw[hv,hg];unfold CX;rw[Enc.Gf λd hd e=>hm (hL.mem_iff.2 (List.mem_map.2 ⟨d,hd,e⟩))];rfl
 ·rcases hq with e|e|e|e|⟨d,hd,_⟩
  ·exact .inl (h2 q (.inl e))
  ·exact .inl (h2 q (.inr (.inl e)))
  ·rw[e];exact .inr ⟨hs,au⟩
  ·rcases hp.up q e with h1|h1
   ·exact .inl (h2 q (.inr (.inr (.inr (.inl h1)))))
   ·exact .inr ⟨h1.1,by have:=h1.2;simp;omega⟩
  ·cases hd
 ·have h0:=h3 P (h2 P (.inl rfl));rcases hq with e|e
  ·have:=h3 q e;have:=Wi.size;omega
  ·exact⟨ae,e.2⟩
structure CmW (NB B:Nat) (R:Nat->Prop) (w:World) (f:Fm) (Ln:List Nat) (g:Nat->List UInt8) (v:Value) (k:Nat) (W:World):Prop where
 ex:∃fk R2,Pr NB B R w R2 W fk/\CmF NB f Ln g k fk/\∀q,v.ownBlock=some q->¬R2 q
 o:Own encZ 3 W w.heap.size v (Ln.map λn:Nat=>(n:Int))
theorem aeX (hD:bW tJ prog 3 w D dl) {d:Dp} (hd:d∈dl) (h9:d.n<4294967296):(Instr.lookup 153 (.map (some D)) (.int .i64 (d.n:Int)) false).run prog w= .ok d.v w:=by have h1:=hD.look (p:=d.n) eu.vC Tryz.underlying153 (adW w) (eu.Fq h9) false;have h2:tJ.get dl d.n=some d:=Enc.Dv hD.uq hd;rw[h2] at h1;exact h1
theorem vk {a:Option Addr} {c:Nat} (h:bT NB B Q w P f s) (hLn:L.Nodup) (hd:∀n,s.dy n↔n∈L) (hno:f.no=[]) (Fp:(aG f.se 0).isSome=true) (hct:L.length+4<=Gc.count 0 f.g.l) (Me:f.seq+L.length<=900000) (nO:f.se.length+L.length+3<=8*(NB-3)) (vN:∀q,q≠0->(lW f q).isSome=true->q=1) (htb:1<=s.tb)
  (hg:∀q sq,q∈L->f.seq<=sq->sq<f.seq+L.length->f.g.gh (Tg.page ⟨1,q,sq,f.ep⟩ (s.g q))) (hgs:f.g.gh (Tg.page ⟨2,0,f.seq+L.length,f.ep⟩ (fZ tx))) (hx:Bytes w w.heap.size a 56 tx) (hxQ:∀b o,a=some ⟨b,o,none⟩->¬Q b):
  Calls prog 84 #[P,.slice a 56 c] w λe w'=>e= .returned (.int .i64 0)/\∃f',jJ NB B Q w w' P f' s.clean/\CmD NB f L s.g tx f':=by
 obtain⟨U,D,dl,R,h1,h2,h3⟩:=id h;have xq:L.Perm (dl.map Dp.n):=(List.perm_ext_iff_of_nodup hLn h1.hD.uq).2 λn=>by
  rw[<-hd,h1.dy];constructor
  ·intro hs
   cases hz:tJ.get dl n with
   |none=>rw[hz] at hs;cases hs
   |some d=>obtain⟨hm,hk⟩:=Enc.get_mem hz;exact List.mem_map.2 ⟨d,hm,hk⟩
  ·intro hm;obtain⟨d,XZ,rfl⟩:=List.mem_map.1 hm;have this:tJ.get dl d.n=some d:=Enc.Dv h1.hD.uq XZ;show(tJ.get dl d.n).isSome=true;rw[this];rfl
 have HPm:=ag xq;have HH:=ag h;have HC:=ag h1;have H2:=ag h2;have H3:=ag h3;have HNo:=ag hno;have gJ:=ag Fp;have HCt:=ag hct;have Py:=ag Me;have axU:=ag nO;have HTb:=ag htb;have HG:=ag hg;have HGs:=ag hgs;have HX:=ag hx;have HXR:=ag (show∀b o,a=some ⟨b,o,none⟩->¬R b/\b<w.heap.size from λb o e=>⟨λh=>hxQ b o e (h2 b (.inr (.inr (.inr (.inl h))))),by obtain⟨b',o',e',aU,_⟩:=hx.2.2 ae;rw[e] at e';injection e' with e';injection e' with e';omega⟩);have c5:=h.c5;have c0:=h.c0;have HBp:=ag (aF.new w 151 #[.pointer (some ⟨f.F,0,none⟩)]);have pG:=(Below.refl w.heap.size w).alloc (Nat.le_refl _) (.cells #[.pointer (some ⟨f.F,0,none⟩)] 151);have HCo:=ag (xu (enters_of Tryz.func197 az rfl) ae (Xy (h1.hf.on pG) HBp.o vN) (λq hq=>by
  rcases hq with rfl|hq
  ·exact HBp.o.lt
  ·have:=(h1.hf.bnd q hq).2;have:=pG.size;omega))
 have dw:=ag pG;have HF1:=ag (show∀q,aeR f [q]->True from λ_ _=>trivial);have aeS:=ag vN;clear h h1 h2 h3 xq hLn hd hno Fp hct Me nO vN htb hg hgs hx hxQ pG HF1
 go_in
 go_wp2_with fail;refine(air f.F w).mono ?_;rintro e w_ ⟨rfl,rfl⟩;go_wp2_with fail;refine HCo.o.mono ?_;rintro e W2 ⟨⟨v,ss,rfl,hS,ho⟩,aW⟩;obtain⟨a2,c2,rfl,_⟩:=ho.bZ rfl;have HS:=ag hS;have dA:=ag (dw.o.ay aW);have yS:=ag ho;clear hS aW ho c0 c5 HCo dw HBp;go_wp2_with fail
 go_loopw [6,29] (λ_ v29 wr=>∃k:Nat,v29= .int .i64 k/\k<=ss.length/\Hid (Below w.heap.size w wr)/\Hid (Own tu 64 wr w.heap.size (.slice a2 ss.length c2) ss)) (λ_ v29 _=>ss.length-(intOf v29).toNat)
 case atStart=>exact⟨0,rfl,Nat.zero_le _,dA,ag (yS.o.mono au)⟩
 case round=>
  obtain⟨k,rfl,hk,HB,HO⟩:=hrel;clear dA yS;have Jy:=HS.o.1;have c5:=(HH.o.on HB.o).c0;by_cases aU:k<ss.length
  ·obtain⟨g,o1,iy,rfl,NZ,vT⟩:=(HO.o.arr ae).QQ aU;have hm:=(HS.o.2 ss[k]).1 (List.getElem_mem iy);have h1x:=aeS.o _ hm.1 hm.2;have MK:=ag (uS (HH.o.on HB.o) (n:=ss[k]) (.inl (by have:=HTb.o;omega)) ae);rw[h1x] at vT MK;unfold tu at vT;have g1:(k:Int)<(ss.length:Int):=ae;have g0:(0:Int)<=(k:Int):=ae;have g2:=IntWalk.i64_in ((k:Int)+1) ⟨ae,ae⟩;have g3:=IntWalk.i64_in (1:Int) ⟨ae,ae⟩;rw[show((1:Nat):Int)=1 from rfl] at vT MK;clear hm h1x NZ;go_wp2_with fail;refine MK.o.mono ?_;rintro e w_ ⟨rfl,rfl⟩;go_wp2;go_roundw
   case rel=>exact⟨k+1,by go_num,ae,HB,HO⟩
   case measure=>simp[intOf];omega
  ·obtain rfl:k=ss.length:=ae;clear aU hk HO;have c7:=HC.o.hP.ah HB.o|>.aj (i:=7) (v:= .map (some D)) rfl;have hDr:=HC.o.hD.on HB.o;have Yx:=ag hDr;have pG:=(Below.refl wr.heap.size wr).alloc (Nat.le_refl _) (.cells #[.map (some D)] 153);have mF:=ag (aF.new wr 153 #[.map (some D)]);have dE:=ag (HB.o.ay pG);have Yk:=ag (yZ (enters_of Tryz.func205 az rfl) (by rw[List.length_map];have:=HPm.o.length_eq;rw[List.length_map] at this;have:=Py.o;omega) (Uf (enc:=encZ) (dec:=λv=>match v with| .int _ a=>a|_=>0) mF.o (MapAt.on hDr pG) (λ_=>rfl) (λp hp=>by obtain⟨x,_,rfl⟩:=List.mem_map.1 hp;exact⟨(x.n:Int),rfl⟩)))
   clear hDr pG;go_wp2_with fail;refine(Ui (some D) wr).mono ?_;rintro e w_ ⟨rfl,rfl⟩;go_wp2_with fail;refine Yk.o.mono ?_;rintro e W5 ⟨v5,s5,rfl,hs5,ho5,iP,_⟩;obtain⟨Ln,hLe,hLp⟩:=P9 (dl:=dl) (ss:=s5) (by rw[List.map_map] at hs5;exact hs5);rw[hLe] at ho5;obtain⟨m,hm⟩:=bu Ln.length;obtain⟨a5,c5',rfl,_⟩:=ho5.bZ (n:=m) (by rw[List.length_map,hm]);have HM:=ag hm;have HLp:=ag hLp;have pV:=ag (dE.o.ay iP);have HW5:=ag (show CmW NB B R w f Ln s.g (.slice a5 m c5') 0 W5 from⟨⟨f,R,(Pr.start HC.o.hf).on pV.o,CmF.start HC.o.fc HNo.o gJ.o,λq hq=>HC.o.hf.aV (by have:=(ho5.aP q hq).1;have:=dE.o.size;omega)⟩,ho5.mono dE.o.size⟩);clear hs5 ho5 iP hLe hLp hm c5 c7 Yk mF dE Yx HB Jy;go_wp2_with fail
   go_loopw [9,10,54] (λ_ _ v54 wq=>∃k:Nat,v54= .int .i64 k/\k<=m/\Hid (CmW NB B R w f Ln s.g (.slice a5 m c5') k wq)) (λ_ _ v54 _=>m-(intOf v54).toNat)
   case atStart=>exact⟨0,rfl,Nat.zero_le _,HW5⟩
   case round=>
    obtain⟨k,rfl,hk,HW⟩:=hrel;clear HW5 pV;obtain⟨⟨fk,R2,Vg,hcm,hnr⟩,ho⟩:=id HW.o;have CQ:=ag Vg;have Dw:=ag hcm;have ZI:=ag hnr;have HO:=ag ho;have QP:m<=1000000:=by have h1:=HLp.o.length_eq;have h2:=HPm.o.length_eq;have h3:=Py.o;have h4:=HM.o;omega
    have HML:=ag QP;have hPn:aF wr P 155 (FI f.F U D s):=HC.o.hP.kq Vg.kq HC.o.nr.1;have HPq:=ag hPn;have HDq:=ag (show bW tJ prog 3 wr D dl from HC.o.hD.same (Vg.kq.block D HC.o.hD.lt HC.o.nr.2.2));clear Vg hcm hnr ho hPn HW;by_cases aU:k<m
    ·have hkL:k<Ln.length:=by rw[<-HM.o];exact aU
     obtain⟨d,hd,hdn⟩:=List.mem_map.1 (HLp.o.mem_iff.1 (List.getElem_mem hkL));have HDm:=ag hd;have HDn:=ag (show∃h:k<Ln.length,d.n=Ln[k] from⟨hkL,hdn⟩);have OT:=HC.o.dt d hd;have o7:=Bi HH.o OT;have ax1:=ag OT;have Ak:=ag o7;have how:=HC.o.ow d hd;have hdx:d.x=s.g d.n:=by rw[HC.o.g d.n OT];unfold CX;have this:tJ.get dl d.n=some d:=Enc.Dv HC.o.hD.uq hd;rw[this]
     have hlen:d.x.length=64:=by rw[hdx];exact HH.o.ok.sz d.n OT
     obtain⟨a7,c7,hv7,_⟩:=how.bZ hlen;have HV7:=ag hv7;have HDx:=ag hdx;have hnu:=HC.o.nu d hd;have EC:=ag (show∀b o,a7=some ⟨b,o,none⟩->¬R b/\b<w.heap.size from λb o e=>by
      have e1:d.v.ownBlock=some b:=by rw[hv7,e];rfl
      exact⟨(hnu b e1).2.2.2,(how.aP b e1).2⟩)
     have vK:=ag (show Own aH 5 wr 0 (.slice a7 64 c7) (s.g d.n) from by rw[<-hv7,<-hdx];exact how.kq CQ.o.kq λq e=>(hnu q e).2.2.2);have qY:=ag (show∀b o,a7=some ⟨b,o,none⟩->¬R2 b from λb o e h=>by
      rcases CQ.o.up b h with h1|h1
      ·exact(EC.o b o e).1 h1
      ·have:=(EC.o b o e).2;omega)
     obtain⟨g5,o5,zY,rfl,ax2,QO⟩:=(HO.o.arr (by rw[List.length_map,<-HM.o];omega)).QQ (k:=k) aU;rw[List.getElem_map,<-hdn] at QO;have g1:(k:Int)<(m:Int):=ae;have g0:(0:Int)<=(k:Int):=ae;have g2:=IntWalk.i64_in ((k:Int)+1) ⟨ae,ae⟩;have g3:=IntWalk.u32_in (d.n:Int) ⟨ae,ae⟩;have HKm:=ag aU;clear hd hdn OT o7 how hdx hlen hnu ax2 zY hkL aU hv7;have HWr:=ag (show∀W,Below wr.heap.size wr W->Calls prog 147 #[f.F,.int .u32 (d.n:Int),.slice a7 64 c7] W λe w'=>e= .returned (.int .i64 0)/\∃f2,uI NB B R2 W w' f2/\CmF NB f Ln s.g (k+1) f2 from λW hW=>by
      have hpW:=CQ.o.on hW;have hl:=HPm.o.length_eq;have CB:=HLp.o.length_eq;rw[List.length_map] at hl CB;have nO:=axU.o;have hfu:=Dw.o.len;rw[HNo.o,List.append_nil] at hfu;have hct:=HCt.o;have F6:=Dw.o.ct;obtain⟨hkl,hdn⟩:=HDn.o;have hkm:=HKm.o;have aFc:=HC.o.bd;have hbn:=Ak.o;have hu:Ln.Nodup:=HLp.o.nodup_iff.2 HC.o.hD.uq;have h:=Qa ae hpW.ft Dw.o.fc d.n (by
       cases hz:(aG fk.no d.n).isSome with
       |false=>rfl
       |true=>
        have:=Dw.o.no _ hz;rw[hdn] at this;obtain⟨i,hi,e⟩:=List.mem_iff_getElem.1 this;rw[List.length_take] at hi;rw[List.getElem_take] at e;exact(List.pairwise_iff_getElem.1 hu i k ae hkl ae e).elim) ae ae ae (.inr ae) (by rw[Dw.o.seq];have:=Py.o;omega) a7 c7 (s.g d.n) (by
       rw[Dw.o.gh,Dw.o.ep,Dw.o.seq];exact HG.o d.n _ (HPm.o.mem_iff.2 (List.mem_map.2 ⟨d,HDm.o,rfl⟩)) ae ae) ((vK.o.on hW).arr (by rw[HH.o.ok.sz d.n ax1.o];decide)) qY.o
      rw[Dw.o.F] at h;refine h.mono ?_;rintro e w' ⟨rfl,f2,hr,hw⟩;refine⟨rfl,f2,hr,Dw.o.step hu hkl ?_⟩;have e1:Ln[k]=d.n:=hdn.symm;rw[e1];exact hw)
     go_upto_region 16 with fail;have gJ:=ag (show Below wr.heap.size wr wr.drew from ak wr);have jA:=ag (λW (h1:aF W P 155 (FI f.F U D s)) (h2:bW tJ prog 3 W D dl)=>And.intro h1 h2);refine iT (λW'=>aF W' P 155 (FI f.F U D s)/\bW tJ prog 3 W' D dl) (jA.o _ (HPq.o.ah gJ.o) (HDq.o.on gJ.o)) (λbJ=>?_);generalize wr.drew=Wd at*;refine dP 0 P 0 ?_;refine aS 1 P 0 ?_;refine aS 2 P 0 ?_;refine tC 3 (.pointer (some ⟨f.F,0,none⟩)) (λ_ aI=>aI.1.aj (i:=0) (v:= .pointer (some ⟨f.F,0,none⟩)) rfl) ?_;refine eF 4 (d.n:Int) ?_;refine fE 5 (.int .u32 (d.n:Int)) ?_;refine dP 6 P 0 ?_;refine aS 7 P 0 ?_;refine aS 8 P 7 ?_;refine tC 9 (.map (some D)) (λ_ aI=>aI.1.aj (i:=7) (v:= .map (some D)) rfl) ?_;refine eF 10 (d.n:Int) ?_;refine jy 11 (.slice a7 64 c7) rfl (λ_ aI=>by(have y9:=aeX aI.2 HDm.o (by have:=Ak.o;omega);rw[HV7.o] at y9);go_simp) ?_;refine dm 12 (λK' hK=>?_);go_simp;refine(HWr.o Wd gJ.o).mono ?_;rintro e W8 ⟨rfl,f8,hr8,hc8⟩;have hnP:¬R2 P:=λh=>by
      rcases CQ.o.up P h with h1|h1
      ·exact HC.o.nr.1 h1
      ·have:=HC.o.hP.lt;omega
     have hnD:¬R2 D:=λh=>by
      rcases CQ.o.up D h with h1|h1
      ·exact HC.o.nr.2.2 h1
      ·have:=HC.o.hD.lt;omega
     have HP8:=ag ((HPq.o.ah gJ.o).kq hr8.2 hnP);have HD8:=ag (show bW tJ prog 3 W8 D dl from(HDq.o.on gJ.o).same (hr8.2.block D (HDq.o.on gJ.o).lt hnD));have hs8:=gJ.o.size;have HW8:=ag (show CmW NB B R w f Ln s.g (.slice (some ⟨g5,o5,none⟩) m c5') (k+1) W8 from⟨⟨f8,Up R2 Wd W8,(CQ.o.on gJ.o).step hr8,hc8,λq hq h=>by have:=(HO.o.aP q hq).2;exact ZI.o q hq (ji h ae)⟩,(HO.o.on gJ.o).kq hr8.2 λq hq=>ZI.o q hq⟩);have HKp:=ag (show k+1<=m from HKm.o);clear hr8 hc8 hnP hnD hs8 CQ Dw ZI HO HPq HDq vK qY HWr HKm;refine hK.out _ _ (jA.o _ HP8.o HD8.o) (λVZ=>?_)
     try simp only[aO]
     refine eF 13 0 ?_;refine gB ?_;clear bJ VZ gJ HP8 HD8 jA;go_wp2;go_roundw
     case rel=>exact⟨k+1,by go_num,HKp.o,HW8⟩
     case measure=>have:=HKp.o;simp[intOf];omega
    ·obtain rfl:k=m:=ae;have HCk:=ag (show CmF NB f Ln s.g Ln.length fk from by rw[<-HM.o];exact Dw.o);have hXw:=(HX.o.kq (Nat.le_refl _) CQ.o.kq λb o e=>(HXR.o b o e).1).mono CQ.o.kq.size;have HSe:=ag (show Calls prog 148 #[f.F,.slice a 56 c] wr λe w'=>e= .returned (.int .i64 0)/\∃f2,uI NB B R2 wr w' f2/\CmD NB f Ln s.g tx f2 from by
      have hl:=HPm.o.length_eq;have CB:=HLp.o.length_eq;rw[List.length_map] at hl CB;have hm:=HM.o;have hct:=HCt.o;have F6:=Dw.o.ct;have h:=EG (YI ae) CQ.o.ft Dw.o.fc (by rw[Dw.o.seq];have:=Py.o;omega) a c tx (by
       unfold uj;rw[Dw.o.gh,Dw.o.ep,Dw.o.seq,hm,CB,<-hl];exact HGs.o) hXw (λb o e h=>by
       rcases CQ.o.up b h with h1|h1
       ·exact(HXR.o b o e).1 h1
       ·have:=(HXR.o b o e).2;omega) (.inl Dw.o.s0)
      rw[Dw.o.F] at h;refine h.mono ?_;rintro e w' ⟨rfl,f2,hr,hsd⟩;exact⟨rfl,f2,hr,HCk.o.sealC hsd⟩)
     have c0:=HPq.o.aj (i:=0) (v:= .pointer (some ⟨f.F,0,none⟩)) rfl;clear hXw aU;go_wp2_with fail;refine HSe.o.mono ?_;rintro e W9 ⟨rfl,f9,hr9,TY⟩;have HP9:=ag (CQ.o.step hr9);have HC9:=ag TY;have hq:=(HC.o.hP.kq HP9.o.kq HC.o.nr.1).alloc (.map #[] 0);have hfz:=hq.frozen 7;have c7:=hq.aj (i:=7) (v:= .map (some D)) rfl;have Qp:=@run_makeMap prog;have amW:=ag (zM.bf HC.o H2.o H3.o HP9.o HC9.o HLp.o);have HCp:=ag (HC9.o.perm (HLp.o.trans HPm.o.symm));clear hr9 TY c0 hq;go_wp2;go_ret;exact⟨rfl,f9,amW.o,HCp.o⟩
end
end Go.Proofs.YtnieckfelfoopaaGreat

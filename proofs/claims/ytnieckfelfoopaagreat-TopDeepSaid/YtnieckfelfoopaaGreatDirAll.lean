import Derived.Laws.BytesArg
import Derived.Laws.BytesString
import Derived.Lib.SlicesS
import Derived.Test.YtnieckfelfoopaaGreatDirWrite
import Derived.Maps.OwnSet
import Derived.WalkMore
import Derived.Carry
import Derived.OwnWalkIn
import Derived.TacticsInMore
import Derived.LoopNIn
import Derived.LoopIn
open Go.Proofs.Tryz (prog)
namespace Go.Proofs.YtnieckfelfoopaaGreat
open Lib (hid)
set_option maxRecDepth 100000
set_option maxHeartbeats 16000000
section
open Go.RowKit Go

theorem aiU {w:World} {B:Nat} {a:Option Addr} {n c:Nat} {xs:List UInt8} (hx:Bytes w B a n xs):
  (convert 23 9 (.slice a n c)).run prog w= .ok (.string (aJ xs)) w:=by
 have hl:=hx.len;by_cases hn:n=0
 ·subst hn;obtain rfl:xs=[]:=List.eq_nil_of_length_eq_zero hl;rw[run_convert_bytes_string w _ _ _ a 0 c Tryz.underlying23 Tryz.underlying5 Tryz.underlying9]
  cases a with
  |none=>rfl
  |some a=>
   have h:=run_loadCells_list (P:=prog) w a [] (λj v hj=>by simp at hj);exact run_bytesToString w a 0 c [] h
 ·obtain⟨b,o,_,rfl,_,_⟩:=hx.at_ (k:=0) ae;have h:=run_convert_bytes_arg (P:=prog) w 23 5 Tryz.underlying23 Tryz.underlying5 b o n c (xs.map λx=>(x.toNat:Int)) (by simp[hl])
   (λi hi=>by obtain⟨b',o',hi',hb,_,hc⟩:=hx.at_ hi;simp only[Option.some.injEq,Addr.mk.injEq,and_true] at hb;obtain⟨rfl,rfl⟩:=hb;rw[hc];simp[List.getD,hi']) 9 Tryz.underlying9
  have e:(xs.map λx=>(x.toNat:Int)).map (λn=>UInt8.ofNat n.toNat)=xs:=by
   rw[List.map_map]
   conv=>rhs;rw[<-List.map_id xs]
   apply List.map_congr_left;intro x _;simp
  have e2:strOfNums (xs.map λx=>(x.toNat:Int))=aJ xs:=by unfold strOfNums aJ;rw[e]
  rw[e2] at h;exact h
end
section
open Go.RowKit

def yY (b:List UInt8) (w:World) (x:Ending) (w':World):Prop:=x= .returned (.tuple #[amc (Dir.gK b).1,.bool (Dir.gK b).2.1,.int .i64 (Dir.gK b).2.2])/\Below w.heap.size w w'
theorem aaT (x y:Nat) (hx:x<256) (hy:y<256):bits .or .i64 (x:Int) ((y:Int)*256)=((x+256*y:Nat):Int):=by
 have h1:x|||y*256=x+256*y:=by have h:=Nat.two_pow_add_eq_or_of_lt (i:=8) (b:=x) hx y;rw[Nat.or_comm,Nat.mul_comm y 256,Nat.add_comm];exact h.symm
 have e:(y:Int)*256=((y*256:Nat):Int):=ae;rw[e];have a1:(BitVec.ofInt 64 ((y*256:Nat):Int)).toNat=y*256:=xY _ ae;have a2:(BitVec.ofInt 64 (x:Int)).toNat=x:=xY _ ae;show IntKind.i64.wrap ((BitVec.ofInt 64 (x:Int)|||BitVec.ofInt 64 ((y*256:Nat):Int)).toNat:Int)=_;rw[BitVec.toNat_or,a1,a2,h1];exact IntWalk.i64_in _ ⟨ae,ae⟩
theorem Xu (e:ny):(#[.int .i64 e.i,.string (aJ e.nm)]:Array Value).all (·.oneCell')=true:=by simp[Value.oneCell']
theorem P7:(prog.info? 167).map (·.size)=some 2:=az
theorem nN {b:List UInt8} {E:Int} {w w':World} (h:Dir.gK b=(Dir.none_,false,E)) (hb:Below w.heap.size w w'):yY b w (.returned (.tuple #[.agg #[.int .i64 0,.string ⟨#[]⟩],.bool false,.int .i64 E])) w':=by unfold yY;rw[h];exact⟨rfl,hb⟩
theorem aeL (a:Option Addr) (n c:Nat) (b:List UInt8) (w:World) (hx:Bytes w w.heap.size a n b) (h:n≠16):
  Calls prog 212 #[.slice a n c] w (yY b w):=by
 have h1:((n:Int) !=16)=true:=by rw[bne_iff_ne];omega
 have HB:=ag (λw'=>nN (w:=w) (w':=w') (b:=b) (E:=1) (by unfold Dir.gK;rw[if_pos (by rw[hx.len];exact h)]));clear hx h
 go_in
 go_wp2;refine bodyPost_ret (v:= .tuple #[.agg #[.int .i64 0,.string ⟨#[]⟩],.bool false,.int .i64 1]) (by simp[results,Tryz.results212,go_sem]) rfl (HB.o _ ((Below.refl _ _).alloc (Nat.le_refl _) _))
theorem aaU (a:Option Addr) (c:Nat) (b:List UInt8) (w:World) (hx:Bytes w w.heap.size a 16 b) (h:Dir.tN b=true):
  Calls prog 212 #[.slice a 16 c] w (yY b w):=by
 have HB:=ag (λw'=>nN (w:=w) (w':=w') (b:=b) (E:=0) (by unfold Dir.gK;rw[if_neg (by rw[hx.len];omega),if_pos h]));have he:=ag (nD a 16 c b _ (hx.alloc (.cells #[.int .i64 0,.string ⟨#[]⟩] 167)));rw[h] at he;have b0:=aF.new w 167 #[.int .i64 0,.string ⟨#[]⟩];have bK:=(Below.refl w.heap.size w).alloc (Nat.le_refl _) (.cells #[.int .i64 0,.string ⟨#[]⟩] 167);clear hx h
 go_in
 go_wp2_with fail;refine he.o.mono ?_;rintro e w_ ⟨rfl,rfl⟩;go_wp2;refine bodyPost_ret (v:= .tuple #[.agg #[.int .i64 0,.string ⟨#[]⟩],.bool false,.int .i64 0]) (by simp[results,Tryz.results212,go_sem]) rfl (HB.o _ ((Below.refl _ _).alloc (Nat.le_refl _) _))
theorem Jl {w:World} {B:Nat} {a:Option Addr} {n:Nat} {b:List UInt8} (hx:Bytes w B a n b) (hn:0<n):∃g o,a=some ⟨g,o,none⟩/\g<B/\∀k,k<n->w.cell? ⟨g,o+k,none⟩=some (.int .u8 ((b.getD k 0).toNat:Int)):=by obtain⟨h1,h2,h3⟩:=hx;obtain⟨g,o,ha,aU,hc⟩:=h3 ae;refine⟨g,o,ha,aU,λk hk=>?_⟩;rw[hc k ae,List.getD_eq_getElem?_getD,List.getElem?_eq_getElem ae];rfl
theorem aeM (a:Option Addr) (c:Nat) (b:List UInt8) (w:World) (hx:Bytes w w.heap.size a 16 b) (h:Dir.tN b=false) (hn:13<Dir.Di b):
  Calls prog 212 #[.slice a 16 c] w (yY b w):=by
 have HB:=ag (λw'=>nN (w:=w) (w':=w') (b:=b) (E:=50) (by unfold Dir.gK;rw[if_neg (by rw[hx.len];omega),if_neg (by rw[h];simp),if_pos hn]));have he:=ag (nD a 16 c b _ (hx.alloc (.cells #[.int .i64 0,.string ⟨#[]⟩] 167)));rw[h] at he;obtain⟨g,o,rfl,aU,hc⟩:=Jl (hx.alloc (.cells #[.int .i64 0,.string ⟨#[]⟩] 167)) ae;have c2:=hc 2 ae;have aW:=(b.getD 2 0).toNat_lt;unfold Dir.Di at hn;generalize (b.getD 2 0).toNat=N at*;have g1:decide (13<(N:Int))=true:=decide_eq_true ae;clear hx h hc hn
 go_in
 go_wp2_with fail;refine he.o.mono ?_;rintro e w_ ⟨rfl,rfl⟩;go_wp2;refine bodyPost_ret (v:= .tuple #[.agg #[.int .i64 0,.string ⟨#[]⟩],.bool false,.int .i64 50]) (by simp[results,Tryz.results212,go_sem]) rfl (HB.o _ ((Below.refl _ _).alloc (Nat.le_refl _) _))
theorem ain (a:Option Addr) (c:Nat) (b:List UInt8) (w:World) (hx:Bytes w w.heap.size a 16 b) (U0:16<=c) (h:Dir.tN b=false) (hn:¬13<Dir.Di b):
  Calls prog 212 #[.slice a 16 c] w (yY b w):=by
 have HR:=ag (show Dir.gK b=if Dir.aY (Dir.Fa b)=0/\b=Dir.slotL (Dir.Fa b) then(Dir.Fa b,true,0) else(Dir.none_,false,50) by unfold Dir.gK;rw[if_neg (by rw[hx.len];omega),if_neg (by rw[h];simp),if_neg hn]);have he:=ag (nD a 16 c b _ (hx.alloc (.cells #[.int .i64 0,.string ⟨#[]⟩] 167)));rw[h] at he;have bK:=(Below.refl w.heap.size w).alloc (Nat.le_refl _) (.cells #[.int .i64 0,.string ⟨#[]⟩] 167);have Ff:=hx.on bK;have br:=aF.new w 167 #[.int .i64 0,.string ⟨#[]⟩];obtain⟨w1,jw⟩:=bu (w.alloc (.cells #[.int .i64 0,.string ⟨#[]⟩] 167));rw[<-jw] at he bK Ff br;have ajO:=Ff.drop (l:=3) ae U0;have hcut:=ajO.take (k:=Dir.Di b) ae;rw[show(b.drop 3).take (Dir.Di b)=Dir.Hf b from rfl] at hcut;have Gx:(Dir.Hf b).length=Dir.Di b:=hcut.len;have Oy:Dir.Fa b=⟨((Dir.inN b:Nat):Int),Dir.Hf b⟩:=rfl;have hin:Dir.inN b=(b.getD 0 0).toNat+256*(b.getD 1 0).toNat:=rfl;obtain⟨g,o,rfl,aU,hc⟩:=Jl Ff ae;have CB:Dir.Di b=(b.getD 2 0).toNat:=rfl;have y0:=(b.getD 0 0).toNat_lt;have y1:=(b.getD 1 0).toNat_lt;have HC:=ag (show∀W,Below w1.heap.size w1 W->W.cell? ⟨g,o,none⟩=some (.int .u8 ((b.getD 0 0).toNat:Int))/\W.cell? ⟨g,o+1,none⟩=some (.int .u8 ((b.getD 1 0).toNat:Int))/\W.cell? ⟨g,o+2,none⟩=some (.int .u8 ((b.getD 2 0).toNat:Int)) from
  λW hb=>⟨(hb.cell aU).trans (hc 0 ae),(hb.cell aU).trans (hc 1 ae),(hb.cell aU).trans (hc 2 ae)⟩)
 rw[<-CB] at HC;have HX:=ag Ff;have arC:=ag hcut;have HW:=ag (λW=>EM (Dir.Fa b) W (by rw[Oy];simp only[Gx];omega));unfold DU at HW;rw[Oy] at HR HW;have hor:=aaT (b.getD 0 0).toNat (b.getD 1 0).toNat y0 y1;rw[<-hin] at hor;have aBa:Dir.inN b<65536:=ae;generalize Dir.Di b=N at*;generalize Dir.inN b=I at*;generalize Dir.Hf b=nm at*;generalize (b.getD 0 0).toNat=x0 at*;generalize (b.getD 1 0).toNat=x1 at*;have HBR:=ag br;have dw:=ag bK;have HL:=ag hx.len;have c2:=(HC.o w1 (Below.refl _ _)).2.2;have g1:decide (13<(N:Int))=false:=decide_eq_false ae;have oC:N<=13:=ae;have q3:IntKind.i64.wrap (3+(N:Int))=3+(N:Int):=IntWalk.i64_in _ ⟨ae,ae⟩;have f1:(0:Int)<=3+(N:Int):=ae;have f2:3+(N:Int)<=(c:Int):=ae;have f3:(3:Int)<=max (3+(N:Int)) 0:=ae;have f4:(3+(N:Int)).toNat-3=N:=ae;have f5:¬c=3:=ae;rw[show iL (some ⟨g,o,none⟩) c 3=some ⟨g,o+3,none⟩ by unfold iL;rw[if_neg f5];exact congrArg some (Addr.add_mid g o 3)] at arC;clear hx h hc hn Ff bK br ajO hcut Oy hin CB
 go_in
 go_wp2_with fail;rw[<-jw];have ad8:w.heap.size<w1.heap.size:=by rw[jw];simp
 clear jw;refine he.o.mono ?_;rintro e w_ ⟨rfl,rfl⟩;go_wp2_with fail;have q1:IntKind.i64.wrap (x1:Int)=(x1:Int):=IntWalk.i64_in _ ⟨ae,ae⟩;have q0:IntKind.i64.wrap (x0:Int)=(x0:Int):=IntWalk.i64_in _ ⟨ae,ae⟩;have q2:IntKind.i64.wrap ((x1:Int)*256)=(x1:Int)*256:=IntWalk.i64_in _ ⟨ae,ae⟩;refine iT (λW'=>Below w1.heap.size w1 W') (Below.refl _ _).drew (λbJ=>?_);refine fB 0 (.slice (some ⟨g,o,none⟩) 16 c) ?_;refine aS 1 g o ?_;refine tC 2 (.int .u8 x0) (λW aI=>(HC.o W aI).1) ?_;refine ik 3 (x0:Int) ?_;refine fB 4 (.slice (some ⟨g,o,none⟩) 16 c) ?_;refine aS 5 g (o+1) ?_;refine tC 6 (.int .u8 x1) (λW aI=>(HC.o W aI).2.1) ?_;refine ik 7 (x1:Int) ?_;refine ik 8 ((x1:Int)*256) ?_;refine ik 9 (I:Int) ?_;refine fB 10 (.slice (some ⟨g,o,none⟩) 16 c) ?_;refine eF 11 (N:Int) ?_;refine ik 12 (3+(N:Int)) ?_;refine fE 13 (.slice (some ⟨g,o+3,none⟩) N (c-3:Nat)) ?_;refine tC 14 (.string (aJ nm)) (λ_ aI=>aiU (c:=(c-3:Nat)) (arC.o.on aI)) ?_;refine fE 15 (.agg #[.int .i64 I,.string (aJ nm)]) ?_;refine dm 16 (λK' hK=>?_);go_simp;refine hK.out _ _ ((Below.refl _ _).alloc (Nat.le_refl _) _).drew (λdH=>?_)
 try simp only[aO]
 refine dm 17 (λK' hK=>?_);go_simp;refine hK.out _ _ ((Below.refl _ _).alloc (Nat.le_refl _) _).drew (λgm=>?_)
 try simp only[aO]
 refine gB ?_;obtain⟨w2,jP⟩:∃w2,w2=(w1.alloc (.cells #[.int .i64 I,.string (aJ nm)] 167)).drew:=⟨_,rfl⟩
 rw[<-jP];have be2:aF w2 w1.heap.size 167 #[.int .i64 I,.string (aJ nm)]:=by rw[jP];exact(aF.new _ _ _).drew
 have aW:Below w1.heap.size w1 w2:=by rw[jP];exact((Below.refl _ _).alloc (Nat.le_refl _) _).drew
 have br2:=HBR.o.ah aW;have Ez:=HX.o.on aW;have arD:=dw.o.trans (aW.mono (Nat.le_of_lt ad8));have BE2:=ag be2;have BR2:=ag br2;have JH:=ag Ez;have axE:=ag arD;have e0:=be2.aj (i:=0) rfl;have e1:=be2.aj (i:=1) rfl;clear jP be2 aW br2 Ez arD bJ dH gm c2;go_wp2_with fail;refine(HW.o _).mono ?_;rintro e w3 ⟨⟨v,rfl,ho⟩,hb⟩;have HO:=ag ho;have be3:=BE2.o.ah hb;have br3:=BR2.o.ah hb;have BE3:=ag be3;have BR3:=ag br3;have zZ:=ag (JH.o.on hb);have amL:=ag (axE.o.ay hb);have x0:=be3.aj (i:=0) rfl;have x1:=be3.aj (i:=1) rfl;have hwl:=ag (Dir.VI ⟨(I:Int),nm⟩);have hws:=ag (show Dir.aY ⟨(I:Int),nm⟩=0->Dir.kK ⟨(I:Int),nm⟩=Dir.slotL ⟨(I:Int),nm⟩ from λh=>if_pos h);clear ho hb be3 br3;by_cases hE:Dir.aY ⟨(I:Int),nm⟩=0
 case neg=>
  have hr:=ag (λw9=>nN (w:=w) (w':=w9) (b:=b) (HR.o.trans (if_neg (λh=>hE h.1))));generalize Dir.aY ⟨(I:Int),nm⟩=E at*;have g2:(E==0)=false:=by simpa using hE
  have g3:(E !=0)=true:=by simpa using hE
  clear hE hwl hws
  go_wp2_with (refine aC rfl rfl _ _ _ rfl w.heap.size #[.int .i64 0,.string ⟨#[]⟩] rfl rfl 167 #[.int .i64 0,.string ⟨#[]⟩] BR3.o rfl P7 (Xu ⟨0,[]⟩) ?_)
  have q:=BR3.o.row #[.int .i64 0,.string ⟨#[]⟩];have z0:=q.aj (i:=0) rfl;have z1:=q.aj (i:=1) rfl;refine bodyPost_ret (v:= .tuple #[.agg #[.int .i64 0,.string ⟨#[]⟩],.bool false,.int .i64 50]) (by simp[results,Tryz.results212,go_sem, *]) rfl (hr.o _ (amL.o.cO (Nat.le_refl _) _))
 case pos=>
  have hlen:=hwl.o hE;have pU:=ag (hws.o hE);have oQ:=ag (show Dir.gK b=if b=Dir.slotL ⟨(I:Int),nm⟩ then(⟨(I:Int),nm⟩,true,0) else(Dir.none_,false,50) by
   rw[HR.o];by_cases h:b=Dir.slotL ⟨(I:Int),nm⟩
   ·rw[if_pos h,if_pos ⟨hE,h⟩]
   ·rw[if_neg h,if_neg (λg=>h g.2)])
  rw[hE];rw[pU.o] at HO hlen;clear hE hwl hws pU HR HW;generalize Dir.slotL ⟨(I:Int),nm⟩=sl at*;obtain⟨a3,c3,rfl,_⟩:=HO.o.bZ (n:=16) hlen;have HY:=ag (HO.o.arr ae);have HQ:=ag (Eo (some ⟨g,o,none⟩) a3 16 16 c c3 b sl w3 zZ.o HY.o);by_cases hD:b=sl
  case neg=>
   have hr:=ag (λw9=>nN (w:=w) (w':=w9) (b:=b) (oQ.o.trans (if_neg hD)));rw[decide_eq_false hD] at HQ;clear hD oQ hlen;go_wp2_with fail;refine HQ.o.mono ?_;rintro e w4 ⟨rfl,hb⟩;have BR4:=ag (BR3.o.ah hb);have amM:=ag (amL.o.ay hb);clear hb
   go_wp2_with (refine aC rfl rfl _ _ _ rfl w.heap.size #[.int .i64 0,.string ⟨#[]⟩] rfl rfl 167 #[.int .i64 0,.string ⟨#[]⟩] BR4.o rfl P7 (Xu ⟨0,[]⟩) ?_)
   have q:=BR4.o.row #[.int .i64 0,.string ⟨#[]⟩];have z0:=q.aj (i:=0) rfl;have z1:=q.aj (i:=1) rfl;refine bodyPost_ret (v:= .tuple #[.agg #[.int .i64 0,.string ⟨#[]⟩],.bool false,.int .i64 50]) (by simp[results,Tryz.results212,go_sem, *]) rfl (hr.o _ (amM.o.cO (Nat.le_refl _) _))
  case pos=>
   have hr:=ag (oQ.o.trans (if_pos hD));rw[decide_eq_true hD] at HQ;clear hD oQ hlen;go_wp2_with fail;refine HQ.o.mono ?_;rintro e w4 ⟨rfl,hb⟩;have be4:=BE3.o.ah hb;have e40:=be4.aj (i:=0) rfl;have e41:=be4.aj (i:=1) rfl;have BR4:=ag (BR3.o.ah hb);have amM:=ag (amL.o.ay hb);clear hb be4
   go_wp2_with (refine aC rfl rfl _ _ _ rfl w.heap.size #[.int .i64 I,.string (aJ nm)] rfl rfl 167 #[.int .i64 0,.string ⟨#[]⟩] BR4.o rfl P7 (Xu ⟨(I:Int),nm⟩) ?_)
   have q:=BR4.o.row #[.int .i64 I,.string (aJ nm)];have z0:=q.aj (i:=0) rfl;have z1:=q.aj (i:=1) rfl;refine bodyPost_ret (v:= .tuple #[.agg #[.int .i64 I,.string (aJ nm)],.bool true,.int .i64 0]) (by simp[results,Tryz.results212,go_sem, *]) rfl ⟨?_,amM.o.cO (Nat.le_refl _) _⟩;rw[hr.o];rfl
theorem zC (a:Option Addr) (n c:Nat) (b:List UInt8) (w:World) (hx:Bytes w w.heap.size a n b) (U0:n<=c):
  Calls prog 212 #[.slice a n c] w (yY b w):=by
 by_cases h1:n=16
 ·subst h1
  cases h2:Dir.tN b
  ·by_cases h3:13<Dir.Di b
   ·exact aeM a c b w hx h2 h3
   ·exact ain a c b w hx U0 h2 h3
  ·exact aaU a c b w hx h2
 ·exact aeL a n c b w hx h1
end
section
open Go.RowKit Go.Maps Go.WideMaps

theorem aeN:Keyed prog 9:=string_keyed Tryz.underlying9
theorem aio (w:World):(zeroValue 3).run prog w= .ok (.int .i64 0) w:=az
theorem aeO (l:List UInt8) (h:l.length<=maxLen):keyOf prog 9 (.string (aJ l))=some (.string l):=by have:=keyOf_string_mk Tryz.underlying9 (s:=aJ l) (by rw[pX];exact h);exact this
def NameSet (w:World) (B k:Nat) (l:List (List UInt8)):Prop:=
 ∃D:DataW Unit,w.ownsMap prog 9 (plainElem prog 3) B k D/\Maps.IsMap D/\∀nm,Maps.has D (.string nm)=l.contains nm
theorem NameSet.made (w:World):NameSet (w.alloc (.map #[] 0)) w.heap.size 0 []:=⟨.map [],World.ownsMap_made _ _ _ _,⟨[],rfl⟩,λ_=>rfl⟩
theorem NameSet.on {w w':World} {B k:Nat} {l:List (List UInt8)} (h:NameSet w B k l) (hb:Below w.heap.size w w'):NameSet w' B k l:=by obtain⟨D,h,h2⟩:=h;have aU:=h.lt;obtain⟨es,clock,hh,r⟩:=h;exact⟨D,⟨es,clock,(hb.block B aU).trans hh,r⟩,h2⟩
theorem NameSet.mono {w:World} {B k k':Nat} {l:List (List UInt8)} (h:NameSet w B k l) (hk:k<=k'):NameSet w B k' l:=by obtain⟨D,h,h2⟩:=h;exact⟨D,h.mono hk,h2⟩
section
variable {w:World} {ops:Array Oper} {rest:List Oper} {o:Oper} {a:Act} {Q:Exit->Act->World->Prop} {B k:Nat} {l:List (List UInt8)}
theorem gG (hg:o.guard=none) (m x:Operand) (uP:o.op=Op.lookup 321 m x true) (hm:a.eval m= .map (some B)) (bG:NameSet w B k l) (nm:List UInt8) (hl:nm.length<=maxLen)
  (hx:a.eval x= .string (aJ nm)) (hK:∀c:Int,wpList prog ops Q rest (a.put o.dst (.tuple #[.int .i64 c,.bool (l.contains nm)])) w):wpList prog ops Q (o::rest) a w:=by
 obtain⟨D,bG,_,hh⟩:=bG;refine wpList_lookup_own_ok_int w hg m x 321 uP 9 3 .i64 aeN Tryz.underlying321 Tryz.underlying3 (aio _) B k D hm bG _ _ hx (aeO nm hl) ?_;intro c _ _;rw[hh];exact hK c
theorem FN (hg:o.guard=none) (m x v:Operand) (uP:o.op=Op.mapUpdate 321 m x v) (hm:a.eval m= .map (some B)) (bG:NameSet w B k l) (hk:k<maxLen) (nm:List UInt8) (hl:nm.length<=maxLen) (i:Int) (hi:(Lit.int .i64 i).wf=true)
  (hx:a.eval x= .string (aJ nm)) (hv:a.eval v= .int .i64 i) (hK:∀w',Hid (NameSet w' B (k+1) (l++[nm]))->Hid (w.grownBy w' (some B))->wpList prog ops Q rest (a.put o.dst undef) w'):wpList prog ops Q (o::rest) a w:=by
 obtain⟨D,bG,hD,hh⟩:=bG;refine wpList_mapUpdate_own w hg m x v 321 uP 9 3 aeN Tryz.underlying321 _ B k D hm bG hk _ _ _ hx hv (aeO nm hl) _ [] (plainElem_int Tryz.underlying3 hi) ?_;intro w' h1 h2;refine hK w' (ag ⟨_,h1,hD.put _ _,λnm'=>?_⟩) (ag h2);by_cases he:nm'=nm
 ·subst he;rw[Maps.has_put_same hD (by trivial)];simp
 ·rw[Maps.has_put_other (by intro h;injection h with h;exact he h),hh];rw[List.contains_append];simp[he]
end

namespace Dir
def bD (b:List UInt8) (k:Nat):List UInt8:=(b.drop (16*k)).take 16
def rd (b:List UInt8) (k:Nat):ny×Bool×Int:=gK (bD b k)
def seen (b:List UInt8):Nat->List (List UInt8)
 |0=>[]
 |k+1=>if (rd b k).2.1=true then seen b k++[(rd b k).1.nm] else seen b k
def Us (b:List UInt8) (k:Nat):Bool:=decide ((rd b k).2.2=0)&& !((rd b k).2.1&&(seen b k).contains (rd b k).1.nm)
def yH (b:List UInt8):Nat->Bool
 |0=>true
 |k+1=>yH b k&&Us b k
def cnt (b:List UInt8):Nat:=b.length/16
def Jk (b:List UInt8):Bool:=decide (cnt b=0)||(rd b (cnt b-1)).2.1
def jQ (b:List UInt8):Bool:=decide (b.length%16=0)&&yH b (cnt b)&&Jk b
theorem aaV {b:List UInt8} {k m:Nat} (h:k<=m) (hm:yH b m=true):yH b k=true:=by
 induction m with
 |zero=>
  obtain rfl:k=0:=ae;exact hm
 |succ m ih=>
  rcases Nat.lt_or_ge k (m+1) with h2|h2
  ·rw[yH,Bool.and_eq_true] at hm;exact ih ae hm.1
  ·obtain rfl:k=m+1:=ae;exact hm
theorem aip {b:List UInt8} {k:Nat} (h:k<cnt b) (hn:Us b k=false):jQ b=false:=by
 cases hg:jQ b
 ·rfl
 ·rw[jQ,Bool.and_eq_true,Bool.and_eq_true] at hg;have:=aaV (k:=k+1) ae hg.1.2;rw[yH,hn,Bool.and_false] at this;cases this
theorem aaW {b:List UInt8} {k:Nat} (h:k+1=cnt b) (hn:(rd b k).2.1=false):jQ b=false:=by unfold jQ Jk;rw[show cnt b-1=k by omega,hn,decide_eq_false (by omega:¬cnt b=0)];simp
theorem aeP {b:List UInt8} (h:yH b (cnt b)=true) (hl:cnt b=0\/(rd b (cnt b-1)).2.1=true):jQ b=decide (b.length%16=0):=by
 unfold jQ Jk;rw[h];rcases hl with hl|hl
 ·rw[decide_eq_true hl];simp
 ·rw[hl];simp
theorem amN (b:List UInt8):(gK b).1.nm.length<=13:=by
 cases h:(gK b).2.1
 ·rw[VK h];simp[none_]
 ·exact(kT ((jB _).1 (VJ h).1).2).2
end Dir
theorem nI (a:Option Addr) (n c:Nat) (w:World) (hn:n<=140737488355328):Calls prog 156 #[.slice a n c] w λe w'=>e= .returned (.int .i64 (n/16:Nat))/\w=w':=by
 have q:(n:Int)/16=((n/16:Nat):Int):=ae;have hq:n/16<=140737488355328:=ae;generalize n/16=m at*
 go_in
 go_wp2;go_ret;exact⟨rfl,rfl⟩
theorem mO (a:Option Addr) (n c k:Nat) (b:List UInt8) (w:World) (hx:Bytes w w.heap.size a n b) (ve:n<=c) (hk:k<n/16):
  Calls prog 158 #[.slice a n c,.int .i64 k] w λe w'=>(∃a' c',e= .returned (.slice a' 16 c')/\16<=c'/\a'=iL a c (16*k)/\Bytes w w.heap.size a' 16 (Dir.bD b k))/\w=w':=by
 have yV:=hx.room;have hc:=Hm a n c (16*k) (16*k+16) ae ae;have HY:=ag ((hx.drop (l:=16*k) ae ve).take (k:=16) ae);have U0:16<=c-16*k:=ae;rw[show 16*k+16-16*k=16 by omega,show((16*k:Nat):Int)=(k:Int)*16 by omega,show((16*k+16:Nat):Int)=((k:Int)+1)*16 by omega] at hc;have q1:IntKind.i64.wrap ((k:Int)*16)=(k:Int)*16:=IntWalk.i64_in _ ⟨ae,ae⟩;have q2:IntKind.i64.wrap ((k:Int)+1)=(k:Int)+1:=IntWalk.i64_in _ ⟨ae,ae⟩;have q3:IntKind.i64.wrap (((k:Int)+1)*16)=((k:Int)+1)*16:=IntWalk.i64_in _ ⟨ae,ae⟩;clear hx
 go_in
 go_wp2;go_ret;exact⟨⟨_,_,rfl,U0,rfl,HY.o⟩,rfl⟩
end
section
open Go.RowKit Go.Maps Go.WideMaps

namespace Dir
def wL (b:List UInt8):Int:=if jQ b=true then 0 else 50
theorem DY {b:List UInt8} (h:jQ b=false):wL b=50:=by unfold wL;rw[h];rfl
end Dir
theorem Et (a:Option Addr) (n c:Nat) (b:List UInt8) (w:World) (hx:Bytes w w.heap.size a n b) (ve:n<=c):
  Calls prog 217 #[.slice a n c] w λe w'=>e= .returned (.int .i64 (Dir.wL b))/\Below w.heap.size w w':=by
 have hl:=hx.len;have yV:=hx.room;have HX:=ag hx;obtain⟨S,hS⟩:=bu (Dir.cnt b);have VO:S=n/16:=by rw[hS,Dir.cnt,hl]
 have HS:=ag VO;have pU:=ag (λW=>nI a n c W ae);rw[<-VO] at pU;have akD:S<=140737488351232:=ae;have HGA:=ag (λk (h:k<S) (hn:Dir.Us b k=false)=>Dir.DY (Dir.aip (by rw[<-hS];exact h) hn));have HGL:=ag (λk (h:k+1=S) (hn:(Dir.rd b k).2.1=false)=>Dir.DY (Dir.aaW (by rw[<-hS];exact h) hn));have HGE:=ag (λ(h:Dir.yH b S=true) (h2:S=0\/(Dir.rd b (S-1)).2.1=true)=>(show Dir.wL b=if n%16=0 then 0 else 50 by unfold Dir.wL;rw[hS] at h h2;rw[Dir.aeP h h2,hl];simp only[decide_eq_true_eq]));have aly:(n:Int).tmod 16=((n%16:Nat):Int):=by rw[Int.tmod_eq_emod_of_nonneg ae];omega
 have arF:(n:Int)%16=((n%16:Nat):Int):=ae;obtain⟨M,hM⟩:=bu (n%16);rw[<-hM] at aly arF HGE;have hMl:M<16:=ae;clear hx hS VO hl hM;have Qp:=@run_makeMap prog
 go_in
 go_wp2;go_step3;go_wp2;go_step3;go_wp2_with fail;refine(pU.o _).mono ?_;rintro e w_ ⟨rfl,rfl⟩;go_wp2_with fail
 go_loopw [4,18] (λg i wr=>∃k:Nat,k<=S/\i= .int .i64 k/\g= .bool ((M:Int)==0)/\Dir.yH b k=true/\(k=0\/k<S\/(Dir.rd b (k-1)).2.1=true)/\NameSet wr w.heap.size k (Dir.seen b k)/\Below w.heap.size w wr) (λ_ i _=>S-(intOf i).toNat)
 case atStart=>exact⟨0,ae,rfl,rfl,rfl,.inl rfl,NameSet.made w,(Below.refl _ _).alloc (Nat.le_refl _) _⟩
 case round=>
  obtain⟨k,hk,rfl,rfl,zX,YR,YV,hb⟩:=hrel;have HOK:=ag zX;have HLA:=ag YR;have HNS:=ag YV;have HB:=ag hb;clear zX YR YV hb;by_cases aU:k<S
  ·have hsc:=ag (mO a n c k b wr (HX.o.on HB.o) (by have:=ve;omega) (by have:=HS.o;omega));go_wp2_with fail;refine hsc.o.mono ?_;rintro e w_ ⟨⟨a1,c1,rfl,vT,ha1,hy⟩,rfl⟩;clear ha1;have HY:=ag hy;clear hy;go_wp2_with fail;have xZ:=ag (zC a1 16 c1 (Dir.bD b k) wr HY.o vT);unfold yY at xZ;rw[show Dir.gK (Dir.bD b k)=Dir.rd b k from rfl] at xZ;have Gx:(Dir.rd b k).1.nm.length<=maxLen:=Nat.le_trans (Dir.amN _) (by simp[maxLen]);have Ti:=ag (show Dir.Us b k=(decide ((Dir.rd b k).2.2=0)&& !((Dir.rd b k).2.1&&(Dir.seen b k).contains (Dir.rd b k).1.nm)) from rfl);have hsn:=ag (show Dir.seen b (k+1)=if (Dir.rd b k).2.1=true then Dir.seen b k++[(Dir.rd b k).1.nm] else Dir.seen b k from rfl);have hto:=ag (show Dir.yH b (k+1)=(Dir.yH b k&&Dir.Us b k) from rfl);have VH:=ag (λh=>HGA.o k aU h);have aeQ:=ag (λh=>HGL.o k h);have hus:=ag (show(Dir.rd b (k+1-1)).2.1=(Dir.rd b k).2.1 by rw[Nat.add_sub_cancel]);generalize Dir.rd b k=R at*;obtain⟨⟨i,nm⟩,u,er⟩:=R;simp only at Gx;refine xZ.o.mono ?_;rintro e w2 ⟨rfl,aW⟩;have Xv:=ag (((HNS.o.on aW)).on ((Below.refl w2.heap.size w2).alloc (Nat.le_refl _) (.cells #[.int .i64 i,.string (aJ nm)] 167)));have dE:=ag ((HB.o.ay aW).ay ((Below.refl w2.heap.size w2).alloc (Nat.le_refl _) (.cells #[.int .i64 i,.string (aJ nm)] 167)));clear aW;by_cases ZR:er=0
   case neg=>
    have g1:(er==0)=false:=by simpa using ZR
    have g2:(er !=0)=true:=by simpa using ZR
    have hf:=ag (VH.o (by rw[Ti.o];simp[ZR]));clear ZR
    go_wp2_with (at_lookup;refine gG rfl _ _ rfl rfl Xv.o nm Gx rfl ?_;intro cc)
    rw[Exit.noGoto_ret];go_ret;exact⟨by rw[hf.o];rfl,dE.o⟩
   subst ZR;cases u
   ·have amO:=ag (show Dir.yH b (k+1)=true by rw[hto.o,HOK.o,Ti.o];simp);have amP:=ag (show Dir.seen b (k+1)=Dir.seen b k from hsn.o);by_cases iy:k+1=S
    ·have hf:=ag (aeQ.o iy rfl);have g1:((k:Int)==(S:Int)-1)=true:=by rw[beq_iff_eq];omega
     clear iy
     go_wp2_with (first
      |(at_lookup;refine gG rfl _ _ rfl rfl Xv.o nm Gx rfl ?_;intro cc)
      |(go_at_call 156;refine(pU.o _).mono ?_;rintro e w_ ⟨rfl,rfl⟩))
     rw[Exit.noGoto_ret];go_ret;exact⟨by rw[hf.o];rfl,dE.o⟩
    ·have g1:((k:Int)==(S:Int)-1)=false:=by rw[beq_eq_false_iff_ne];omega
     go_wp2_with (first
      |(at_lookup;refine gG rfl _ _ rfl rfl Xv.o nm Gx rfl ?_;intro cc)
      |(go_at_call 156;refine(pU.o _).mono ?_;rintro e w_ ⟨rfl,rfl⟩))
     go_roundw
     case rel=>exact⟨k+1,ae,by go_num,rfl,amO.o,.inr (.inl ae),by rw[amP.o];exact Xv.o.mono ae,dE.o⟩
     case measure=>simp[intOf];omega
   ·obtain⟨T,hT⟩:=bu ((Dir.seen b k).contains nm);cases T
    ·have hTT:=ag hT.symm;have amO:=ag (show Dir.yH b (k+1)=true by rw[hto.o,HOK.o,Ti.o];simp only[<-hT];rfl);have amP:=ag (show Dir.seen b (k+1)=Dir.seen b k++[nm] from hsn.o);have axI:(Lit.int .i64 k).wf=true:=WalkArith.wf_i64 ae;have af7:=dE.o.size;clear hT
     go_wp2_with (first
      |(at_lookup;refine gG rfl _ _ rfl rfl Xv.o nm Gx rfl ?_;intro cc;rw[hTT.o])
      |(at_mapUpdate;refine FN rfl _ _ _ rfl rfl Xv.o (by simp only[maxLen];omega) nm Gx (k:Int) axI rfl rfl ?_;intro w5 Y3 hg5))
     go_roundw
     case rel=>exact⟨k+1,ae,by go_num,rfl,amO.o,.inr (.inr hus.o),by rw[amP.o];exact Y3.o,dE.o.grown hg5.o dE.o.size (λj hj=>by cases hj;exact Nat.le_refl _)⟩
     case measure=>simp[intOf];omega
    ·have hf:=ag (VH.o (by rw[Ti.o];simp only[<-hT];rfl));have hTT:=ag hT.symm;clear hT
     go_wp2_with (at_lookup;refine gG rfl _ _ rfl rfl Xv.o nm Gx rfl ?_;intro cc;rw[hTT.o])
     rw[Exit.noGoto_ret];go_ret;exact⟨by rw[hf.o];rfl,dE.o⟩
  ·obtain rfl:k=S:=ae;have FM:=ag (HGE.o HOK.o (by have h:=HLA.o;rcases h with h|h|h<;>first|exact .inl h|exact .inr h|(exfalso;omega)));by_cases hM0:M=0
   ·have g1:((M:Int)==0)=true:=by rw[hM0];rfl
    have hf:=ag (FM.o.trans (if_pos hM0));clear hM0;go_wp2;rw[Exit.noGoto_ret];go_ret;exact⟨by rw[hf.o];rfl,HB.o⟩
   ·have g1:((M:Int)==0)=false:=by rw[beq_eq_false_iff_ne];omega
    have hf:=ag (FM.o.trans (if_neg hM0));clear hM0;go_wp2;rw[Exit.noGoto_ret];go_ret;exact⟨by rw[hf.o];rfl,HB.o⟩

namespace Dir
def N9 (b:List UInt8) (k:Nat):Prop:=∀j,j<k->tN (bD b j)=false
def uB (b:List UInt8) (r:Nat):Prop:=N9 b r/\r<=cnt b/\(r<cnt b->tN (bD b r)=true)
end Dir
theorem Xw (a:Option Addr) (n c:Nat) (b:List UInt8) (w:World) (hx:Bytes w w.heap.size a n b) (ve:n<=c):
  Calls prog 102 #[.slice a n c] w λe w'=>(∃r:Nat,e= .returned (.int .i64 r)/\Dir.uB b r)/\w=w':=by
 have hl:=hx.len;have yV:=hx.room;have HX:=ag hx;obtain⟨S,hS⟩:=bu (Dir.cnt b);have VO:S=n/16:=by rw[hS,Dir.cnt,hl]
 have HS:=ag VO;have HC:=ag hS;have pU:=ag (λW=>nI a n c W ae);rw[<-VO] at pU;have akD:S<=140737488351232:=ae;clear hx hS VO hl
 go_in
 go_wp2_with fail;refine(pU.o _).mono ?_;rintro e w_ ⟨rfl,rfl⟩;go_wp2_with fail
 go_loop [6] (λi=>∃k:Nat,k<=S/\i= .int .i64 k/\Dir.N9 b k) (λi=>S-(intOf i).toNat)
 case atStart=>exact⟨0,ae,rfl,λj hj=>ae⟩
 case round=>
  obtain⟨k,hk,rfl,hz⟩:=hrel;have HZ:=ag hz;clear hz;by_cases aU:k<S
  ·have hsc:=ag (mO a n c k b w HX.o ve (by have:=HS.o;omega));go_wp2_with fail;refine hsc.o.mono ?_;rintro e w_ ⟨⟨a1,c1,rfl,vT,ha1,hy⟩,rfl⟩;have HE:=ag (nD a1 16 c1 _ w hy);clear ha1 hy
   cases hb:Dir.tN (Dir.bD b k)
   ·rw[hb] at HE;have hnx:=ag (show Dir.N9 b (k+1) from λj hj=>by
     by_cases h:j=k
     ·rw[h];exact hb
     ·exact HZ.o j ae)
    clear hb;go_wp2_with fail;refine HE.o.mono ?_;rintro e w_ ⟨rfl,rfl⟩;go_wp2
    go_round
    case rel=>exact⟨k+1,ae,by go_num,hnx.o⟩
    case measure=>simp[intOf];omega
   ·rw[hb] at HE;have FM:=ag (show Dir.uB b k from⟨HZ.o,by have:=HC.o;omega,λ_=>hb⟩);clear hb;go_wp2_with fail;refine HE.o.mono ?_;rintro e w_ ⟨rfl,rfl⟩;go_wp2;go_ret;exact⟨⟨k,rfl,FM.o⟩,rfl⟩
  ·obtain rfl:k=S:=ae;have FM:=ag (show Dir.uB b k from⟨HZ.o,by have:=HC.o;omega,λh=>by have:=HC.o;omega⟩);go_wp2_with fail;refine(pU.o _).mono ?_;rintro e w_ ⟨rfl,rfl⟩;go_wp2;go_ret;exact⟨⟨k,rfl,FM.o⟩,rfl⟩
end
section
open Go.RowKit

attribute [local go_sem] Oper.semAt_some

namespace Dir
def dI (b:List UInt8):Nat->List (Nat×ny)
 |0=>[]
 |k+1=>if (rd b k).2.1=true then dI b k++[(k,(rd b k).1)] else dI b k
def tX (b:List UInt8):List (Nat×ny):=dI b (cnt b)
theorem Hr {b:List UInt8} {k m:Nat} (h:k<=m):dI b k<+:dI b m:=by
 induction m with
 |zero=>
  obtain rfl:k=0:=ae;exact List.prefix_refl _
 |succ m ih=>
  rcases Nat.lt_or_ge k (m+1) with h2|h2
  ·refine(ih ae).trans ?_;rw[dI]
   split
   ·exact List.prefix_append _ _
   ·exact List.prefix_refl _
  ·obtain rfl:k=m+1:=ae;exact List.prefix_refl _
end Dir
def uH (x:Nat×ny):Array Value:=#[.int .i64 (x.1:Int),.agg #[.int .i64 x.2.i,.string (aJ x.2.nm)]]
theorem FO {c:Nat} {W W':World} (h:Below W.heap.size W W'):W.grownBy W' (some c):=⟨h.os,h.tape,h.output,h.size,λk hk _=>h.block k hk⟩
theorem Md (a:Option Addr) (n c:Nat) (b:List UInt8) (C n0:Nat) (w:World) (ve:n<=c) (hx:Bytes w n0 a n b) (hC:aF w C 23 #[.slice a n c]) (JD:n0<=C):
  Iter prog 211 #[.pointer (some ⟨C,0,none⟩)] uH (Dir.tX b) C n0 w:=by
 intro lp J Jx W hW hJ hJx hY h0;have hxW:=hx.below (B:=n0) (hW.mono (Nat.le_of_lt (Nat.lt_of_le_of_lt JD hC.lt)));have hCW:=hC.ah hW;have yV:=hx.room;have hl:=hx.len;obtain⟨S,hS⟩:=bu (Dir.cnt b);have VO:S=n/16:=by rw[hS,Dir.cnt,hl]
 have HS:=ag VO;have pU:=ag (λW=>nI a n c W ae);rw[<-VO] at pU;have akD:S<=140737488351232:=ae;have HE:=ag (show Dir.tX b=Dir.dI b S by rw[hS];rfl);have HY:=ag hY;have HJ:=ag hJ;have HX:=ag hxW;have HC:=ag hCW;have H0:=ag h0;have cc:=hCW.aj (i:=0) rfl;have hsc:=ag (callsIn_wide (n:=7)|>.2 (pU.o W));clear hx hC hW hl VO hS hY hJ hxW hCW h0 pU;refine callsIn_of_wp Tryz.func211 rfl trivial ?_ rfl;simp only[Tryz.ntmps211,List.size_toArray,List.length_cons,List.length_nil,Nat.reduceAdd,Nat.reduceSub,Array.replicate_succ,Array.replicate_zero,List.push_toArray,List.append_toArray,List.nil_append,List.cons_append]
 gi_wp2_with fail
 refine⟨trivial,?_⟩;refine hsc.o.mono ?_;rintro e w_ ⟨rfl,rfl⟩
 gi_wp2
 gi_loopw [9] (λi wr=>∃k:Nat,k<=S/\i= .int .i64 k/\Bytes wr n0 a n b/\aF wr C 23 #[.slice a n c]/\J (Dir.dI b k) wr) (λi _=>S-(intOf i).toNat)
 case atStart=>exact⟨0,ae,rfl,HX.o,HC.o,H0.o⟩
 case round=>
  obtain⟨k,hk,rfl,hx,hc,hj⟩:=hrel;have arH:n0<=wr.heap.size:=Nat.le_of_lt (Nat.lt_of_le_of_lt JD hc.lt);have cc:=hc.aj (i:=0) rfl;have HX:=ag hx;have HC:=ag hc;have J7:=ag hj;clear hx hc hj;by_cases aU:k<S
  ·have eQ:=ag (callsIn_wide (n:=7)|>.2 (mO a n c k b wr (HX.o.mono arH) ve (by have:=HS.o;omega)));have Oy:=ag (show Dir.dI b (k+1)=if (Dir.rd b k).2.1=true then Dir.dI b k++[(k,(Dir.rd b k).1)] else Dir.dI b k from rfl);have dQ:=ag (show Dir.dI b (k+1)<+:Dir.tX b by rw[HE.o];exact Dir.Hr ae)
   gi_wp2_with fail
   refine⟨trivial,?_⟩;refine eQ.o.mono ?_;rintro e w_ ⟨⟨a1,c1,rfl,vT,ha1,hy⟩,rfl⟩;clear ha1;have xZ:=ag (callsIn_wide (n:=7)|>.2 (zC a1 16 c1 (Dir.bD b k) wr hy vT));unfold yY at xZ;rw[show Dir.gK (Dir.bD b k)=Dir.rd b k from rfl] at xZ;generalize Dir.rd b k=R at*;obtain⟨⟨i,nm⟩,u,er⟩:=R;clear hy
   gi_wp2_with fail
   refine⟨trivial,?_⟩;refine xZ.o.mono ?_;rintro e w2 ⟨rfl,aW⟩;have bQ:=aW.trans (((Below.refl w2.heap.size w2).alloc (Nat.le_refl _) (.cells #[.int .i64 i,.string (aJ nm)] 167)).mono aW.size);have zZ:=ag (HX.o.below (bQ.mono arH));have zD:=ag (HC.o.ah bQ);have HJ3:=ag (HJ.o _ _ _ J7.o (FO bQ));clear aW bQ;cases u
   ·have wI:=ag (show Dir.dI b (k+1)=Dir.dI b k from Oy.o)
    gi_wp2
    all_goals (refine⟨λ_ h=>(by cases h),?_⟩;gi_wp2)
    go_roundw
    case rel=>exact⟨k+1,ae,by go_num,zZ.o,zD.o,by rw[wI.o];exact HJ3.o⟩
    case measure=>simp[intOf];omega
   ·have wI:=ag (show Dir.dI b (k+1)=Dir.dI b k++[(k,⟨i,nm⟩)] from Oy.o);obtain⟨fn,tmps,assign,body,hy,hR⟩:=HY.o (Dir.dI b k) (k,⟨i,nm⟩) _ HJ3.o (by rw[<-wI.o];exact dQ.o);unfold uH at hy
    gi_wp2
    refine hR.mono ?_;rintro e W3 (⟨rfl,Zi,bQ,yR⟩|⟨rfl,acH⟩)
    ·have HX4:=ag (zZ.o.below bQ);have Va:=ag (yR.trans zD.o);have HJ4:=ag Zi;clear Zi bQ yR
     gi_wp2
     go_roundw
     case rel=>exact⟨k+1,ae,by go_num,HX4.o,Va.o,by rw[wI.o];exact HJ4.o⟩
     case measure=>simp[intOf];omega
    ·gi_wp2
     refine bodyPost_ret (results_none rfl _ _ _) rfl ?_;exact⟨⟨_,rfl⟩,.inr ⟨_,by rw[<-wI.o];exact dQ.o,acH⟩⟩
  ·obtain rfl:k=S:=ae
   gi_wp2
   go_end0;exact⟨⟨_,rfl⟩,.inl (by rw[HE.o];exact J7.o)⟩
end
end Go.Proofs.YtnieckfelfoopaaGreat

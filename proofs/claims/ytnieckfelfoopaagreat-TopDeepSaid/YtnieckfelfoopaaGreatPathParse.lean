import Derived.WalkKit
import Derived.Lib.Bytealg
import Derived.Test.YtnieckfelfoopaaGreatDirZero
import Derived.Laws.Externs
import Derived.Deep.QuietTactic
import Derived.BigQuiet
import Derived.OwnWalkIn
import Derived.TacticsInMore
import Derived.LoopNIn
import Derived.LoopIn
import Derived.WalkMore
import Derived.Shelf.Abstract
open Go.Proofs.Tryz (prog)
namespace Go.Proofs.YtnieckfelfoopaaGreat
open Lib (hid)
set_option maxRecDepth 100000
set_option maxHeartbeats 16000000
section
namespace bV

def ahead (l:List UInt8):List UInt8:=l.takeWhile (·!=47)
def behind (l:List UInt8):List UInt8:=l.drop ((ahead l).length+1)
theorem QX (l:List UInt8):(ahead l).length<=l.length:=by unfold ahead;exact(List.takeWhile_prefix _).length_le
theorem tY (r:List UInt8):ahead (47::r)=[]:=rfl
theorem uD (c:UInt8) (r:List UInt8) (h:c≠47):ahead (c::r)=c::ahead r:=by unfold ahead;rw[List.takeWhile_cons,if_pos (by simpa using h)]
theorem G7 (l:List UInt8):l.take (ahead l).length=ahead l:=by
 induction l with
 |nil=>rfl
 |cons c r ih=>
  by_cases h:c=47
  ·subst h;rfl
  ·rw[uD c r h,List.length_cons,List.take_succ_cons,ih]
theorem QY (l:List UInt8):Lib.indexByte l 47=if (ahead l).length<l.length then((ahead l).length:Int) else-1:=by
 induction l with
 |nil=>rfl
 |cons c r ih=>
  by_cases h:c=47
  ·subst h;rw[tY,if_pos au];rfl
  ·rw[uD c r h];unfold Lib.indexByte;rw[if_neg (by simpa using h),ih];by_cases h2:(ahead r).length<r.length
   ·rw[if_pos h2,if_neg au,if_pos (by simpa using h2)];simp
   ·rw[if_neg h2,if_pos au,if_neg (by simpa using h2)]
theorem QZ (l:List UInt8) (h:¬(ahead l).length<l.length):ahead l=l:=by rw[<-G7 l,List.take_of_length_le ae]
theorem Ei (l:List UInt8) (h:¬(ahead l).length<l.length):behind l=[]:=by unfold behind;exact List.drop_of_length_le ae
theorem Dk (l:List UInt8) (h:l≠[]):(behind l).length<l.length:=by have:0<l.length:=List.length_pos_iff.2 h;unfold behind;rw[List.length_drop];omega
theorem AB (r:List UInt8):behind (47::r)=r:=rfl
theorem Q4 (c:UInt8) (r:List UInt8) (h:c≠47):behind (c::r)=behind r:=by unfold behind;rw[uD c r h];rfl
def opt (l:List UInt8):List (List UInt8):=if l=[] then[] else[l]
def oD:List UInt8->List UInt8->List (List UInt8)
 |cur,[]=>opt cur
 |cur,c::r=>if c=47 then opt cur++oD [] r else oD (cur++[c]) r
def parts (l:List UInt8):List (List UInt8):=oD [] l
theorem Q5 (cur l:List UInt8):oD cur l=opt (cur++ahead l)++(if (ahead l).length<l.length then parts (behind l) else[]):=by
 induction l generalizing cur with
 |nil=>simp[oD,ahead]
 |cons c r ih=>
  rw[oD];by_cases h:c=47
  ·subst h;rw[if_pos rfl,tY,if_pos au,AB,List.append_nil,parts]
  ·rw[if_neg h,ih,uD c r h,Q4 c r h,List.append_assoc];simp
theorem pW:parts []=[]:=rfl
theorem zA (l:List UInt8):parts l=opt (ahead l)++parts (behind l):=by
 have h:=Q5 [] l;rw[List.nil_append] at h;rw[parts,h];by_cases h2:(ahead l).length<l.length
 ·rw[if_pos h2]
 ·rw[if_neg h2,Ei l h2,pW]
theorem agu (l:List UInt8):(opt l).length<=1:=by unfold opt;split<;>simp
theorem Zb (l:List UInt8):(parts l).length<=l.length:=by
 have H:∀n (l:List UInt8),l.length<=n->(parts l).length<=l.length:=by
  intro n
  induction n with
  |zero=>
   intro l hl;have:l=[]:=List.eq_nil_of_length_eq_zero ae;subst this;simp[pW]
  |succ n ih=>
   intro l hl;by_cases h:l=[]
   ·subst h;simp[pW]
   ·have h1:=Dk l h;have h2:=ih (behind l) ae;have h3:=agu (ahead l);rw[zA,List.length_append];omega
 exact H l.length l (Nat.le_refl _)
end bV
end
section
open Go.RowKit

theorem Fe (l:List UInt8) (w:World):
  Calls prog 315 #[.string (aJ l),.int .u8 47] w λe w'=>e= .returned (.int .i64 (Lib.indexByte l 47))/\w=w':=by
 go_in
 go_wp2;rw[run_callFunc_extern Tryz.func344 az az az (e:=Extern.BytealgIndexByte.indexByte) az,Lib.run_indexByteString];simp only[Result.andThen];rw[Oper.upon_value];go_wp2;go_ret;exact⟨rfl,rfl⟩
theorem G8 (l:List UInt8) (w:World):
  Calls prog 285 #[.string (aJ l),.string ⟨#[47]⟩] w λe w'=>e= .returned (.int .i64 (Lib.indexByte l 47))/\w=w':=by
 have hc:=ag (Fe l w);by_cases h:l=[47]
 ·have g:([47]==l)=true:=by rw[h];rfl
  have hv:Lib.indexByte l 47=0:=by rw[h];rfl
  rw[hv];clear h hv
  go_in
  go_wp2_with (go_at_call 315;refine hc.o.mono ?_;rintro e w' ⟨rfl,rfl⟩)
  go_ret;exact⟨rfl,rfl⟩
 ·have g:([47]==l)=false:=by rw[beq_eq_false_iff_ne];exact λe=>h e.symm
  clear h
  go_in
  go_wp2_with (go_at_call 315;refine hc.o.mono ?_;rintro e w' ⟨rfl,rfl⟩)
  go_ret;exact⟨rfl,rfl⟩
theorem Gw (l:List UInt8) (a b:Nat):(aJ l).extract a b=aJ ((l.drop a).take (b-a)):=by apply ByteArray.ext;rw[ByteArray.data_extract];simp[aJ]
theorem VC (l:List UInt8) (w:World) (hl:l.length<=140737488351232):
  Calls prog 251 #[.string (aJ l),.string ⟨#[47]⟩] w λe w'=>(∃b,e= .returned (.tuple #[.string (aJ (bV.ahead l)),.string (aJ (bV.behind l)),.bool b]))/\Below w.heap.size w w':=by
 have hc:=ag (G8 l w);rw[bV.QY] at hc;have hle:=bV.QX l;by_cases h:(bV.ahead l).length<l.length
 ·rw[if_pos h] at hc;have HA:=ag (bV.G7 l);have HB:=ag (show bV.behind l=l.drop ((bV.ahead l).length+1) from rfl);generalize bV.behind l=B at*;generalize hn:(bV.ahead l).length=n at*;clear hn;have w1:IntKind.i64.wrap ((n:Int)+1)=(n:Int)+1:=IntWalk.i64_in _ ⟨ae,ae⟩;have w2:((n:Int)+1).toNat=n+1:=ae;have w3:(0:Int)<=(n:Int)+1:=ae;have w4:(n:Int)+1<=(l.length:Int):=ae;have w5:(n:Int)<=(l.length:Int):=ae
  go_in
  go_wp2_with (go_at_call 285;refine hc.o.mono ?_;rintro e w' ⟨rfl,rfl⟩)
  go_quiet (fail)
  go_wp2;go_ret3;refine⟨⟨true,?_⟩,⟨rfl,rfl,rfl,Nat.le_refl _,λ_ _=>rfl⟩⟩;have e1:(aJ l).extract 0 n=aJ (bV.ahead l):=by rw[Gw,<-HA.o];rfl
  have e2:(aJ l).extract (n+1) l.length=aJ B:=by rw[Gw,HB.o,List.take_of_length_le au]
  rw[<-e1,<-e2];rfl
 ·rw[if_neg h] at hc;have HA:=ag (bV.QZ l h);have HB:=ag (bV.Ei l h);clear h hle
  go_in
  go_wp2_with (go_at_call 285;refine hc.o.mono ?_;rintro e w' ⟨rfl,rfl⟩)
  go_ret3;rw[HA.o,HB.o];exact⟨⟨false,rfl⟩,Below.refl _ _⟩
theorem Zg (l:List UInt8) (w:World) (hl:l.length<=140737488351232):
  Calls prog 214 #[.string (aJ l),.string ⟨#[47]⟩] w λe w'=>(∃b,e= .returned (.tuple #[.string (aJ (bV.ahead l)),.string (aJ (bV.behind l)),.bool b]))/\Below w.heap.size w w':=by
 go_in
 go_wp2_with fail;refine(VC l w hl).mono ?_;rintro e w1 ⟨⟨b,rfl⟩,hb⟩;have HB:=ag hb;clear hb;go_wp2;go_ret3;exact⟨⟨b,rfl⟩,HB.o⟩
end
section
open Go.RowKit

attribute [local go_sem] Oper.semAt_some

theorem wC {w w':World} {c:Nat} (h:Below w.heap.size w w'):w.grownBy w' (some c):=⟨h.os,h.tape,h.output,h.size,λk hk _=>h.block k hk⟩
theorem grown_setCell (w:World) (c o:Nat) (v:Value):w.grownBy (w.setCell ⟨c,o,none⟩ v) (some c):=
 have h:=(Below.refl 0 w).setCell (p:=⟨c,o,none⟩) (Nat.zero_le _) v
 ⟨h.os,h.tape,h.output,h.size,λk _ hk=>heap_setCell_other w ⟨c,o,none⟩ k v (λe=>hk (by rw[e]))⟩
def F7 (l:List UInt8):Array Value:=#[.string (aJ l)]
open Classical in
noncomputable def Oc (c:Nat) (W:World):Nat:=if h:∃l,W.cell? ⟨c,0,none⟩=some (.string (aJ l)) then(Classical.choose h).length else 0
theorem uF {c:Nat} {W:World} {l:List UInt8} (h:W.cell? ⟨c,0,none⟩=some (.string (aJ l))):Oc c W=l.length:=by
 have hex:∃l,W.cell? ⟨c,0,none⟩=some (.string (aJ l)):=⟨l,h⟩
 unfold Oc;rw[dif_pos hex];have h2:=h.symm.trans (Classical.choose_spec hex);simp only[Option.some.injEq,Value.string.injEq] at h2;rw[<-acF h2]
theorem VD (l:List UInt8) (c n0:Nat) (w:World) (hl:l.length<=140737488351232) (hc:w.cell? ⟨c,0,none⟩=some (.string (aJ l))) (hf:w.frozen? ⟨c,0,none⟩=false):
  Iter prog 213 #[.pointer (some ⟨c,0,none⟩)] F7 (bV.parts l) c n0 w:=by
 intro lp J Jx W hW hJ hJx hY h0;have zy:=block_lt_of_cell hc;have Zh:=(hW.cell (p:=⟨c,0,none⟩) zy).trans hc;have hf':=(hW.frozen (p:=⟨c,0,none⟩) zy).trans hf;clear hc hf hW zy;refine callsIn_of_wp Tryz.func213 rfl trivial ?_ rfl;simp only[Tryz.ntmps213,List.size_toArray,List.length_cons,List.length_nil,Nat.reduceAdd,Nat.reduceSub,Array.replicate_succ,Array.replicate_zero,List.push_toArray,List.append_toArray,List.nil_append,List.cons_append]
 gi_wp2
 gi_loopw [3,4,5] (λ_ _ _ wr=>∃pre r:_,bV.parts l=pre++bV.parts r/\r.length<=l.length/\wr.cell? ⟨c,0,none⟩=some (.string (aJ r))/\wr.frozen? ⟨c,0,none⟩=false/\J pre wr) (λ_ _ _ wr=>Oc c wr)
 case atStart=>exact⟨[],l,rfl,Nat.le_refl _,Zh,hf',h0⟩
 case round=>
  obtain⟨pre,r,hp,hrl,LQ,sG,hJ1⟩:=hrel;have HP:=ag hp;have J7:=ag hJ1;have HR:=ag LQ;clear hp hJ1;by_cases h0:r=[]
  ·subst h0
   gi_wp2
   go_end0;refine⟨⟨_,rfl⟩,.inl ?_⟩;have hp:=HP.o;rw[bV.pW,List.append_nil] at hp;rw[hp];exact J7.o
  have g0:r.isEmpty=false:=by simpa using h0
  have g1:(r==[])=false:=by simpa using h0
  have HS:=ag (bV.zA r);have aU:=bV.Dk r h0;have U0:=ag (callsIn_wide (n:=7)|>.2 (Zg r wr ae));have HIN:=ag (λx (h:bV.opt (bV.ahead r)=[x])=>(⟨bV.parts (bV.behind r),by rw[HP.o,HS.o,h,List.append_assoc]⟩:(pre++[x])<+:bV.parts l));clear h0;by_cases h1:bV.ahead r=[]
  ·have ho:bV.opt (bV.ahead r)=[]:=by rw[h1];rfl
   have HO:=ag ho;rw[h1] at U0;clear h1 ho HIN
   gi_wp2_with fail
   refine⟨trivial,?_⟩;refine U0.o.mono ?_;rintro e w2 ⟨⟨b,rfl⟩,hb⟩;have agv:=(hb.cell (p:=⟨c,0,none⟩) (block_lt_of_cell HR.o)).trans HR.o;have akt:=(hb.frozen (p:=⟨c,0,none⟩) (block_lt_of_cell HR.o)).trans sG;have HJ2:=ag (hJ _ _ _ J7.o (wC hb));clear hb
   gi_wp2
   all_goals (refine⟨λ_ h=>(by cases h),?_⟩;gi_wp2)
   go_roundw
   case rel=>
    refine⟨pre,bV.behind r,by rw[HP.o,HS.o,HO.o];rfl,ae,?_,?_,?_⟩
    ·exact World.cell?_setCell_same' _ _ _ (by rw[agv];rfl)
    ·rw[World.frozen?_setCell];exact akt
    ·exact hJ _ _ _ HJ2.o (grown_setCell _ _ _ _)
   case measure=>rw[uF (l:=bV.behind r) (World.cell?_setCell_same' _ _ _ (by rw[agv];rfl)),uF HR.o];exact aU
  ·have ho:bV.opt (bV.ahead r)=[bV.ahead r]:=by unfold bV.opt;rw[if_neg h1]
   have HO:=ag ho;have ao3:=ag (HIN.o _ ho);have g2:(bV.ahead r).isEmpty=false:=by simpa using h1
   have g3:(bV.ahead r==[])=false:=by simpa using h1
   clear h1 ho HIN;have ay3:=ag hY
   gi_wp2_with fail
   refine⟨trivial,?_⟩;refine U0.o.mono ?_;rintro e w2 ⟨⟨b,rfl⟩,hb⟩;have agv:=(hb.cell (p:=⟨c,0,none⟩) (block_lt_of_cell HR.o)).trans HR.o;have akt:=(hb.frozen (p:=⟨c,0,none⟩) (block_lt_of_cell HR.o)).trans sG;have HJ2:=ag (hJ _ _ _ J7.o (wC hb));clear hb;obtain⟨fn,tmps,assign,body,hy,hR⟩:=hY pre (bV.ahead r) (w2.setCell ⟨c,0,none⟩ (.string (aJ (bV.behind r)))) (hJ _ _ _ HJ2.o (grown_setCell _ _ _ _)) ao3.o;unfold F7 at hy;have au0:=World.cell?_setCell_same' w2 ⟨c,0,none⟩ (.string (aJ (bV.behind r))) (by rw[agv];rfl);have au1:(w2.setCell ⟨c,0,none⟩ (.string (aJ (bV.behind r)))).frozen? ⟨c,0,none⟩=false:=by rw[World.frozen?_setCell];exact akt
   gi_wp2
   refine hR.mono ?_;rintro e W3 (⟨rfl,Zi,bQ,yR⟩|⟨rfl,acH⟩)
   ·have ao4:=(World.cell?_of_block (a:=⟨c,0,none⟩) yR).trans au0;have agw:=(World.frozen?_of_block (a:=⟨c,0,none⟩) yR).trans au1
    gi_wp2
    go_roundw
    case rel=>exact⟨pre++[bV.ahead r],bV.behind r,by rw[HP.o,HS.o,HO.o,List.append_assoc],ae,ao4,agw,Zi⟩
    case measure=>rw[uF ao4,uF HR.o];exact aU
   ·gi_wp2
    refine bodyPost_ret (results_none rfl _ _ _) rfl ?_;exact⟨⟨_,rfl⟩,.inr ⟨_,ao3.o,acH⟩⟩
end
section
open Go.RowKit Go.Shelf

attribute [local go_sem] Oper.semAt_some

namespace bV
def chk:Nat->List (List UInt8)->Int
 |_,[]=>0
 |i,s::t=>if nameB s then(if i=16 then 30 else chk (i+1) t) else 31
def parse (l:List UInt8):List (List UInt8)×Int:=
 if l=[]\/255<l.length\/l.head?≠some 47 then([],30) else if chk 0 (parts l)=0 then(parts l,0) else([],chk 0 (parts l))
theorem G9 (pre rest:List (List UInt8)) (hn:∀x∈pre,nameB x=true) (i:Nat) (hl:i+pre.length<=16):chk i (pre++rest)=chk (i+pre.length) rest:=by
 induction pre generalizing i with
 |nil=>rfl
 |cons s t ih=>
  rw[List.length_cons] at hl⊢;rw[List.cons_append,chk,if_pos (hn s au),if_neg ae,ih (λx hx=>hn x (by simp[hx])) (i+1) ae]
  congr 1
  omega
theorem LM (xs:List (List UInt8)) (hn:∀x∈xs,nameB x=true) (hl:xs.length<=16):chk 0 xs=0:=by have h:=G9 xs [] hn 0 ae;rw[List.append_nil] at h;rw[h];rfl
theorem agx {pre xs:List (List UInt8)} {x:List UInt8} (h:(pre++[x])<+:xs) (hn:∀y∈pre,nameB y=true) (hl:pre.length<=16) (hx:nameB x=false):chk 0 xs=31:=by obtain⟨t,rfl⟩:=h;rw[List.append_assoc,G9 pre _ hn 0 ae];simp[chk,hx]
theorem QS {pre xs:List (List UInt8)} {x:List UInt8} (h:(pre++[x])<+:xs) (hn:∀y∈pre,nameB y=true) (hl:pre.length=16) (hx:nameB x=true):chk 0 xs=30:=by obtain⟨t,rfl⟩:=h;rw[List.append_assoc,G9 pre _ hn 0 ae];simp[chk,hx,hl]
theorem agy {x l:List UInt8} (h:x∈opt l):x=l:=by
 unfold opt at h;split at h
 ·simp at h
 ·simpa using h
theorem Zj {x l:List UInt8} (h:x∈parts l):x.length<=l.length:=by
 have H:∀n (l:List UInt8),l.length<=n->x∈parts l->x.length<=l.length:=by
  intro n
  induction n with
  |zero=>
   intro l hl h;have:l=[]:=List.eq_nil_of_length_eq_zero ae;subst this;simp[pW] at h
  |succ n ih=>
   intro l hl h;by_cases h0:l=[]
   ·subst h0;simp[pW] at h
   ·have h1:=Dk l h0;rw[zA,List.mem_append] at h;rcases h with h|h
    ·rw[agy h];exact QX l
    ·have:=ih (behind l) ae h;omega
 exact H l.length l (Nat.le_refl _) h
end bV
def acI (H:Nat) (w:World) (pre:List (List UInt8)) (W:World):Prop:=
 (∃v,aF W H 100 #[v]/\Own jV 9 W (H+1+1+1) v pre)/\aF W (H+1) 36 #[.int .i64 0]/\Below H w W/\H+1+1+1<=W.heap.size/\((∀x∈pre,bV.nameB x=true)/\pre.length<=16)
def acJ (H:Nat) (w:World) (E:Int) (k:Code) (W:World):Prop:=
 (∃v,aF W H 100 #[v])/\aF W (H+1) 36 #[.int .i64 E]/\Below H w W/\(k= .exit 0/\E≠0)
theorem Og (H:Nat) (w:World) (hw:H<=w.heap.size) (pre:List (List UInt8)):df (H+1+1) (H+1+1+1) (acI H w pre):=
 (df.ex λv=>(aF.iZ ae).and (Own.iZ ae)).and ((aF.iZ ae).and ((lM ae ae hw).and (Ej.and (df.pure _))))
theorem Oh (H:Nat) (w:World) (hw:H<=w.heap.size) (E:Int) (k:Code):df (H+1+1) (H+1+1+1) (acJ H w E k):=
 (df.ex λv=>aF.iZ ae).and ((aF.iZ ae).and ((lM ae ae hw).and (df.pure _)))
theorem agz (l:List UInt8) (w:World):
  Calls prog 152 #[.string (aJ l)] w λe w'=>e= .returned (.func (.func 213) #[] #[.pointer (some ⟨w.heap.size,0,none⟩)])/\w.alloc (.cells #[.string (aJ l)] 9)=w':=by
 go_in
 go_wp2;go_ret;exact⟨rfl,rfl⟩
theorem zt (l:List UInt8) (w:World) (h0:l≠[]) (h1:l.length<=255) (h2:l.head?=some 47):
  Calls prog 95 #[.string (aJ l)] w λe w'=>(∃v,e= .returned (.tuple #[v,.int .i64 (bV.parse l).2])/\Own jV 9 w' w.heap.size v (bV.parse l).1)/\Below w.heap.size w w':=by
 have g0:l.isEmpty=false:=by simpa using h0
 have g1:(l==[])=false:=by simpa using h0
 have g2:decide (255<(l.length:Int))=false:=decide_eq_false ae;have g3:(0:Nat)<l.length:=List.length_pos_iff.2 h0;have g4:((l[0].toNat:Int)==47)=true:=by
  cases l with
  |nil=>exact absurd rfl h0
  |cons c r=>simp at h2;subst h2;rfl
 refine callsIn_wide (n:=9)|>.1 ?_;refine callsIn_of_wp_marks Tryz.func95 rfl trivial ?_ rfl;refine wpIn_wide.2 ?_;simp only[Tryz.ntmps95,List.size_toArray,List.length_cons,List.length_nil,Nat.reduceAdd,Nat.reduceSub,Array.replicate_succ,Array.replicate_zero,List.push_toArray,List.append_toArray,List.nil_append,List.cons_append];go_wp2;go_step3;go_wp2_with fail;go_step3;go_wp2_with fail;refine(agz l _).mono ?_;rintro e w' ⟨rfl,rfl⟩;go_wp2;have b4:=((aF.new w 100 #[.slice none 0 0]).alloc (.cells #[.int .i64 0] 36)).alloc (.cells #[.string (aJ l)] 9);have b5:=(aF.new (w.alloc (.cells #[.slice none 0 0] 100)) 36 #[.int .i64 0]).alloc (.cells #[.string (aJ l)] 9);have b6:=aF.new ((w.alloc (.cells #[.slice none 0 0] 100)).alloc (.cells #[.int .i64 0] 36)) 9 #[.string (aJ l)];have fF:Below w.heap.size w (((w.alloc (.cells #[.slice none 0 0] 100)).alloc (.cells #[.int .i64 0] 36)).alloc (.cells #[.string (aJ l)] 9)):=(((Below.refl _ w).alloc (Nat.le_refl _) _).alloc au _).alloc (by simp;omega) _;have ja:(((w.alloc (.cells #[.slice none 0 0] 100)).alloc (.cells #[.int .i64 0] 36)).alloc (.cells #[.string (aJ l)] 9)).heap.size=w.heap.size+1+1+1:=au;simp only[World.size_alloc] at b4 b5 b6;generalize ((w.alloc (.cells #[.slice none 0 0] 100)).alloc (.cells #[.int .i64 0] 36)).alloc (.cells #[.string (aJ l)] 9)=W0 at*;have mJ:=VD l (w.heap.size+1+1) w.heap.size W0 ae (b6.aj (i:=0) rfl) (b6.frozen 0);refine wpIn_wide.1 (Zk (gf:=213) (lb:=#[.pointer (some ⟨w.heap.size+1+1,0,none⟩)]) (encs:=F7) (xs:=bV.parts l) (c:=w.heap.size+1+1) (n0:=w.heap.size) (w0:=W0) rfl (enters_of Tryz.func213 az rfl) mJ (Below.refl _ _) ae ae (λ_=>rfl)
  (acI w.heap.size w) (λk _=>acJ w.heap.size w (bV.chk 0 (bV.parts l)) k) (λpre=>by rw[ja];exact Og _ w (Nat.le_refl _) pre) (λk pre=>by rw[ja];exact Oh _ w (Nat.le_refl _) _ k)
  ⟨⟨_,b4,Own.nil _ _⟩,b5,fF,ae,au⟩
  (λx=>{tmps:=#[.string (aJ l),undef,.slice none 0 0,.int .i64 0,.pointer (some ⟨w.heap.size,0,none⟩),.pointer (some ⟨w.heap.size+1,0,none⟩),.string (aJ x),.string (aJ l),.bool false,.bool false,.string (aJ l),.int .i64 l.length,.bool false,.bool false,.bool false,.string (aJ l),.int .u8 l[0].toNat,.bool false,.bool false,.string (aJ l),.func (.func 213) #[] #[.pointer (some ⟨w.heap.size+1+1,0,none⟩)],.string (aJ x),undef,undef,undef,undef,undef,undef,undef,undef,undef,undef,undef,undef,undef,undef,undef,undef,undef,undef,undef],defers:=[]}) ?assign ?body ?done ?stop)
 case assign=>
  intro lp x W K hK;unfold F7
  gi_wp2
  exact hK
 case body=>
  rintro lp pre x W ⟨⟨v,bv,ho⟩,be,jD,hsW,hn,hle⟩ dQ;have hxm:x∈bV.parts l:=dQ.subset au;have Oi:=bV.Zj hxm;obtain⟨a1,c1,rfl,_⟩:=ho.bZ (n:=pre.length) rfl;have HO:=ag ho;have AL:=ag jD;have HN:=ag hn;have BV:=ag bv;have BE:=ag be;have iO:=bv.lt;have mr:=be.lt;have c4:W.cell? ⟨w.heap.size,0,none⟩=some (.slice a1 pre.length c1):=bv.aj (i:=0) rfl;have f4:=bv.frozen 0;have c5:W.cell? ⟨w.heap.size+1,0,none⟩=some (.int .i64 0):=be.aj (i:=0) rfl;have f5:=be.frozen 0;have ve:=ag (callsIn_wide (n:=6)|>.2 (zB x W ae))
  cases hx:bV.nameB x
  ·have hE:=ag (bV.agx dQ hn hle hx);rw[show bV.kR x=31 by unfold bV.kR;rw[hx];rfl] at ve;clear dQ hn hx ho jD bv be hxm
   gi_wp2_with (refine⟨trivial,?_⟩;gi_at_call 153;refine(CallsIn.inRound lp ve.o).mono ?_;rintro e w' ⟨rfl,rfl⟩)
   refine⟨fC _ _ _ _,⟨_,BV.o.far au _⟩,?_,AL.o.setCell (p:=⟨w.heap.size+1,0,none⟩) au _,rfl,by rw[hE.o];decide⟩;rw[hE.o];exact BE.o.set 0 (.int .i64 31)
  ·rw[show bV.kR x=0 by unfold bV.kR;rw[hx];rfl] at ve;by_cases h16:pre.length=16
   ·have hE:=ag (bV.QS dQ hn h16 hx);rw[h16] at c4;clear dQ hn hx ho jD bv be hxm h16
    gi_wp2_with (refine⟨trivial,?_⟩;gi_at_call 153;refine(CallsIn.inRound lp ve.o).mono ?_;rintro e w' ⟨rfl,rfl⟩)
    refine⟨(fC _ _ _ _).trans (fC _ _ _ _),⟨_,(BV.o.far au _).far au _⟩,?_,(AL.o.setCell (p:=⟨w.heap.size+1,0,none⟩) au _).setCell (p:=⟨w.heap.size+1,0,none⟩) au _,rfl,by rw[hE.o];decide⟩;rw[hE.o];exact(BE.o.set 0 (.int .i64 0)).set 0 (.int .i64 30)
   ·have J5:∀y∈pre++[x],bV.nameB y=true:=by
     intro y hy;rw[List.mem_append] at hy;rcases hy with h|h
     ·exact hn y h
     ·rw[List.mem_singleton.1 h];exact hx
    have xQ:=ag J5;have g16:((pre.length:Int)==16)=false:=by rw[beq_eq_false_iff_ne];omega
    clear dQ hn J5 hx ho jD bv be hxm
    gi_wp2_with (first
     |(refine⟨trivial,?_⟩;gi_at_call 153;refine(CallsIn.inRound lp ve.o).mono ?_;rintro e w' ⟨rfl,rfl⟩;have yS:=ag ((HO.o.far (p:=⟨w.heap.size+1,0,none⟩) (HO.o.Oj (.inl au)) (.int .i64 0))))
     |(gi_at_builtin;refine J8 rfl _ _ rfl (w.heap.size+1+1+1) _ pre rfl yS.o 1 _ [x] rfl au rfl rfl ae (by simp;omega) ?_;intro v2 w2 rf dE HG3;obtain⟨a3,c3,rfl,_⟩:=rf.o.bZ (n:=pre.length+1) au;have BV2:=ag ((BV.o.far (p:=⟨w.heap.size+1,0,none⟩) au (.int .i64 0)).below dE.o ae);have c42:=BV2.o.aj (i:=0) rfl;have f42:=BV2.o.frozen 0))
    have BE2:=ag ((BE.o.set 0 (.int .i64 0)).below dE.o ae);have ao5:=ag ((AL.o.setCell (p:=⟨w.heap.size+1,0,none⟩) au (.int .i64 0)).trans (dE.o.mono ae));refine⟨(((fC _ _ _ _).trans (KeepsOthers.alloc _ _)).trans (KeepsOthers.of_grownBy HG3.o (yS.o.alloc _).acK)).trans (fC _ _ _ _),?_,?_,⟨.slice a3 (pre.length+1) c3,BV2.o.set 0 _,rf.o.far (p:=⟨w.heap.size,0,none⟩) (rf.o.Oj (.inl (show w.heap.size<w.heap.size+1+1+1 by omega))) _⟩,BE2.o.far au _,ao5.o.setCell (p:=⟨w.heap.size,0,none⟩) (Nat.le_refl _) _,?_,xQ.o,by simp;omega⟩
    ·exact(((Below.refl w.heap.size W).setCell (p:=⟨w.heap.size+1,0,none⟩) au _).trans (dE.o.mono ae)).setCell (p:=⟨w.heap.size,0,none⟩) (Nat.le_refl _) _
    ·rw[heap_setCell_other _ _ _ _ (by simp;omega),dE.o.block _ ae,heap_setCell_other _ _ _ _ au]
    ·have:=dE.o.size;simp at this⊢;omega
 case done=>rintro D W hD ⟨⟨v,bv,ho⟩,be,jD,_,hn,hle⟩ hK;have hv:=bV.LM _ hn hle;have HV:=ag (show bV.parse l=(bV.parts l,0) by unfold bV.parse;rw[if_neg (by simp[h0,h2];omega),if_pos hv]);have HO:=ag ho;have AL:=ag jD;have c4:=bv.aj (i:=0) rfl;have c5:=be.aj (i:=0) rfl;clear hn hle hv ho jD;go_wp2;rw[Exit.noGoto_ret];refine⟨au,.inl ⟨_,_,rfl,run_takeDeferred hK,?_⟩⟩;refine⟨_,by simp[results,Tryz.results95,go_sem];rfl,⟨v,by rw[HV.o],?_⟩,AL.o.trans (fM _ ae)⟩;rw[HV.o];exact((Own.iZ (c:=w.heap.size) (B:=0) ae) W _ D HO.o (grownBy_putObj' _ _ _) (.inr ⟨ae,_,hK,rfl⟩)).mono ae
 case stop=>
  rintro D k pre W hD _ ⟨⟨v,bv⟩,be,jD,rfl,dh⟩ hK;have HV:=ag (show bV.parse l=([],bV.chk 0 (bV.parts l)) by unfold bV.parse;rw[if_neg (by simp[h0,h2];omega),if_neg dh]);have AL:=ag jD;have c4:=bv.aj (i:=0) rfl;have c5:=be.aj (i:=0) rfl;generalize bV.chk 0 (bV.parts l)=E at*;have g9:(E==0)=false:=by simpa using dh
  clear jD dh;refine wpIn_wide.2 ?_;go_wp2_with fail
  go_quiet (fail)
  go_wp2;rw[Exit.noGoto_ret];refine⟨au,.inl ⟨_,_,rfl,run_takeDeferred hK,?_⟩⟩;refine⟨_,by simp[results,Tryz.results95,go_sem];rfl,⟨.slice none 0 0,by rw[HV.o],?_⟩,(AL.o.trans (below_drewN _ _)).trans (fM _ ae)⟩;rw[HV.o];exact Own.nil _ _
theorem Zl (l:List UInt8) (w:World) (hl:l.length<=140737488351232) (h:l=[]\/255<l.length\/l.head?≠some 47):
  Calls prog 95 #[.string (aJ l)] w λe w'=>e= .returned (.tuple #[.slice none 0 0,.int .i64 30])/\w=w':=by
 by_cases h0:l=[]
 ·subst h0
  go_in
  go_wp2;go_step3;go_wp2;rw[Exit.noGoto_ret];go_ret2;exact⟨rfl,rfl⟩
 have g0:l.isEmpty=false:=by simpa using h0
 have g1:(l==[])=false:=by simpa using h0
 have g3:(0:Nat)<l.length:=List.length_pos_iff.2 h0;by_cases h1:255<l.length
 ·have g2:decide (255<(l.length:Int))=true:=decide_eq_true ae;clear h h0
  go_in
  go_wp2;go_step3;go_wp2;rw[Exit.noGoto_ret];go_ret2;exact⟨rfl,rfl⟩
 have g2:decide (255<(l.length:Int))=false:=decide_eq_false ae;have g4:((l[0].toNat:Int) !=47)=true:=by
  have h2:l.head?≠some 47:=by rcases h with h|h|h;exact absurd h h0;omega;exact h
  cases l with
  |nil=>exact absurd rfl h0
  |cons c r=>
   rw[bne_iff_ne];intro e;apply h2;rw[List.head?_cons]
   congr 1
   apply UInt8.toNat_inj.1;show c.toNat=47;rw[List.getElem_cons_zero] at e;omega
 clear h h0 h1
 go_in
 go_wp2;go_step3;go_wp2;rw[Exit.noGoto_ret];go_ret2;exact⟨rfl,rfl⟩
def GK (l:List UInt8) (w:World) (e:Ending) (w':World):Prop:=
 (∃v,e= .returned (.tuple #[v,.int .i64 (bV.parse l).2])/\Own jV 9 w' w.heap.size v (bV.parse l).1)/\Below w.heap.size w w'
theorem vW (l:List UInt8) (w:World) (hl:l.length<=140737488351232):
  Calls prog 95 #[.string (aJ l)] w (GK l w):=by
 by_cases h:l=[]\/255<l.length\/l.head?≠some 47
 ·refine(Zl l w hl h).mono ?_;rintro e w' ⟨rfl,rfl⟩;have hv:bV.parse l=([],30):=by unfold bV.parse;rw[if_pos h]
  unfold GK;rw[hv];exact⟨⟨_,rfl,Own.nil _ _⟩,Below.refl _ _⟩
 ·refine zt l w (λh1=>h (.inl h1)) ?_ ?_
  ·rcases Nat.lt_or_ge 255 l.length with h1|h1
   ·exact absurd (.inr (.inl h1)) h
   ·exact h1
  ·by_cases h1:l.head?=some 47
   ·exact h1
   ·exact absurd (.inr (.inr h1)) h
end
end Go.Proofs.YtnieckfelfoopaaGreat

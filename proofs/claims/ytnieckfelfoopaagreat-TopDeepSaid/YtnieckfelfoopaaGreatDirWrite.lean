import Derived.Laws.CopyOwn
import Derived.Test.YtnieckfelfoopaaGreatDirZero
import Derived.Lib.BufferWrite
import Derived.Lib.SliceRun
open Go.Proofs.Tryz (prog)
namespace Go.Proofs.YtnieckfelfoopaaGreat
open Lib (hid)
set_option maxRecDepth 100000
set_option maxHeartbeats 16000000
section
open Go.RowKit

theorem xg {α:Type} (L:List α) (off n:Nat) (cs:List α) (h:off+cs.length<=n) (hn:n<=L.length):(splice L off cs).take n=(L.take n).take off++cs++(L.take n).drop (off+cs.length):=by
 have hX:(L.take n).length=n:=by rw[List.length_take];omega
 have hL:L=L.take n++L.drop n:=(List.take_append_drop n L).symm;have h1:L.take off=(L.take n).take off:=by rw[List.take_take,Nat.min_eq_left ae]
 have h2:L.drop (off+cs.length)=(L.take n).drop (off+cs.length)++L.drop n:=by
  conv=>lhs;rw[hL]
  rw[List.drop_append_of_le_length ae]
 unfold splice;rw[h1,h2];generalize L.take n=X at*;generalize L.drop n=R at*;rw[<-List.append_assoc,<-List.append_assoc,List.take_append_of_le_length (by simp only[List.length_append,List.length_take,List.length_drop];omega),
  List.take_of_length_le (by simp only[List.length_append,List.length_take,List.length_drop];omega)]
theorem OO:(prog.info? 5).map (·.size)=some 1:=az
theorem PE {w:World} {ops:Array Oper} {rest:List Oper} {o:Oper} {ac:Act} {Q:Exit->Act->World->Prop} (mD:o.guard=none) (d s:Operand)
  (ho:o.op= .call {callee:= .builtin .copy,args:=#[d,s],argTypes:=#[23,23]}) (base g L C off:Nat) (xs:List UInt8)
  (hd:ac.eval d= .slice (iL (some ⟨g,0,none⟩) C off) (L-off:Nat) (C-off:Nat)) (bG:Own aH 5 w base (.slice (some ⟨g,0,none⟩) L C) xs)
  (B:Nat) (a:Option Addr) (m c:Nat) (ys:List UInt8) (hs:ac.eval s= .slice a m c) (hy:Bytes w B a m ys) (hm:off+m<=L)
  (h:∀w',Hid (Own aH 5 w' base (.slice (some ⟨g,0,none⟩) L C) (xs.take off++ys++xs.drop (off+m)))->Hid (Below base w w')->wpList prog ops Q rest (ac.put o.dst (goInt m)) w'):wpList prog ops Q (o::rest) ac w:=by
 have hl:=hy.len;rcases bG.2 with⟨hv,_⟩|⟨g',cap,cur,hv,jr,hg,nO,Yd,ja,ht⟩
 ·cases hv
 ·injection hv with e1 e2 e3
  injection e1 with e1
  injection e1 with e1
  subst e1 e3;have Oi:xs.length=L:=e2.symm;have zy:cur.toList.length=C:=by simpa using ja
  rw[Oi] at nO ht;have jq:(ys.map aH).length=m:=by rw[List.length_map,hl]
  refine wpList_copy_splice mD d s _ _ ho 5 Tryz.underlying23 OO _ a _ _ m c hd hs g off cur.toList 5 (by simpa using hg) (ys.map aH) (by rw[jq];exact(Nat.min_eq_left ae).symm) ?_ (by rw[jq,zy];omega)
   (λv hv=>by obtain⟨x,_,rfl⟩:=List.mem_map.1 hv;exact xX x) base w (Below.refl _ _) jr ?_
  ·intro hp;rw[jq] at hp;obtain⟨b,o',ha,_,hc⟩:=hy.2.2 ae;refine⟨?_,⟨b,o',none⟩,ha,λj v hj=>?_⟩
   ·rw[iL,if_neg ae];show some ((⟨g,0,none⟩:Addr).add off)=_;rw[Addr.add_mid,Nat.zero_add]
   ·rw[List.getElem?_map] at hj
    cases hk:ys[j]? with
    |none=>rw[hk] at hj;cases hj
    |some y=>
     rw[hk] at hj;injection hj with hj
     subst hj;obtain⟨uX,hje⟩:=List.getElem?_eq_some_iff.1 hk;rw[Addr.add_mid,hc j uX,hje]
  ·intro w' hg' hb;rw[jq];refine h w' (hid ?_) (ag hb);have hlen:(xs.take off++ys++xs.drop (off+m)).length=L:=by simp only[List.length_append,List.length_take,List.length_drop,hl,Oi];omega
   refine⟨by rw[List.length_map,Nat.mul_one],.inr ⟨g,C,(splice cur.toList off (ys.map aH)).toArray,by rw[hlen],jr,hg'.o,by rw[hlen];exact nO,Yd,?_,?_⟩⟩
   ·rw[List.size_toArray,length_splice _ _ _ (by rw[jq,zy];omega),zy,Nat.mul_one]
   ·rw[hlen];show(splice cur.toList off (ys.map aH)).take (L*1)=_;rw[Nat.mul_one,xg _ _ _ _ (by rw[jq];omega) (by rw[zy];omega)];have ht':cur.toList.take L=xs.map aH:=by simpa using ht
    rw[ht',jq,List.map_append,List.map_append,List.map_take,List.map_drop]
end
section
open Go.RowKit

theorem PG {w:World} {ops:Array Oper} {rest:List Oper} {o:Oper} {ac:Act} {Q:Exit->Act->World->Prop} (mD:o.guard=none) (d s:Operand)
  (ho:o.op= .call {callee:= .builtin .copy,args:=#[d,s],argTypes:=#[23,23]}) (base g L C off:Nat) (xs:List UInt8)
  (hd:ac.eval d= .slice (iL (some ⟨g,0,none⟩) C off) (L-off:Nat) (C-off:Nat)) (bG:Own aH 5 w base (.slice (some ⟨g,0,none⟩) L C) xs)
  (B:Nat) (a:Option Addr) (m c:Nat) (ys:List UInt8) (hs:ac.eval s= .slice a m c) (hy:Bytes w B a m ys) (J4:off<=L) (k:Nat) (hk:k=min (L-off) m)
  (h:∀w',Hid (Own aH 5 w' base (.slice (some ⟨g,0,none⟩) L C) (xs.take off++ys.take k++xs.drop (off+k)))->Hid (Below base w w')->wpList prog ops Q rest (ac.put o.dst (goInt k)) w'):wpList prog ops Q (o::rest) ac w:=by
 have hl:=hy.len;rcases bG.2 with⟨hv,_⟩|⟨g',cap,cur,hv,jr,hg,nO,Yd,ja,ht⟩
 ·cases hv
 ·injection hv with e1 e2 e3
  injection e1 with e1
  injection e1 with e1
  subst e1 e3;have Oi:xs.length=L:=e2.symm;have zy:cur.toList.length=C:=by simpa using ja
  rw[Oi] at nO ht;have jq:((ys.take k).map aH).length=k:=by rw[List.length_map,List.length_take,hl];omega
  refine wpList_copy_splice mD d s _ _ ho 5 Tryz.underlying23 OO _ a _ _ m c hd hs g off cur.toList 5 (by simpa using hg) ((ys.take k).map aH) (by rw[jq,hk];exact Nat.min_comm ..) ?_ (by rw[jq,zy];omega)
   (λv hv=>by obtain⟨x,_,rfl⟩:=List.mem_map.1 hv;exact xX x) base w (Below.refl _ _) jr ?_
  ·intro hp;rw[jq] at hp;obtain⟨b,o',ha,_,hc⟩:=hy.2.2 ae;refine⟨?_,⟨b,o',none⟩,ha,λj v hj=>?_⟩
   ·rw[iL,if_neg ae];show some ((⟨g,0,none⟩:Addr).add off)=_;rw[Addr.add_mid,Nat.zero_add]
   ·rw[List.getElem?_map] at hj
    cases hkk:(ys.take k)[j]? with
    |none=>rw[hkk] at hj;cases hj
    |some y=>
     rw[hkk] at hj;injection hj with hj
     subst hj;obtain⟨uX,hje⟩:=List.getElem?_eq_some_iff.1 hkk;rw[List.length_take] at uX;rw[List.getElem_take] at hje;rw[Addr.add_mid,hc j ae,hje]
  ·intro w' hg' hb;rw[jq];refine h w' (hid ?_) (ag hb);have hlen:(xs.take off++ys.take k++xs.drop (off+k)).length=L:=by simp only[List.length_append,List.length_take,List.length_drop,hl,Oi];omega
   refine⟨by rw[List.length_map,Nat.mul_one],.inr ⟨g,C,(splice cur.toList off ((ys.take k).map aH)).toArray,by rw[hlen],jr,hg'.o,by rw[hlen];exact nO,Yd,?_,?_⟩⟩
   ·rw[List.size_toArray,length_splice _ _ _ (by rw[jq,zy];omega),zy,Nat.mul_one]
   ·rw[hlen];show(splice cur.toList off ((ys.take k).map aH)).take (L*1)=_;rw[Nat.mul_one,xg _ _ _ _ (by rw[jq];omega) (by rw[zy];omega)];have ht':cur.toList.take L=xs.map aH:=by simpa using ht
    rw[ht',jq];simp only[List.map_append,List.map_take,List.map_drop]
theorem KL {w:World} {ops:Array Oper} {rest:List Oper} {o:Oper} {ac:Act} {Q:Exit->Act->World->Prop} (mD:o.guard=none) (d s:Operand)
  (ho:o.op= .call {callee:= .builtin .copy,args:=#[d,s],argTypes:=#[23,23]}) (base g L C off:Nat) (xs:List UInt8)
  (hd:ac.eval d= .slice (some ⟨g,off,none⟩) (L-off:Nat) (C-off:Nat)) (bG:Own aH 5 w base (.slice (some ⟨g,0,none⟩) L C) xs)
  (B:Nat) (a:Option Addr) (m c:Nat) (ys:List UInt8) (hs:ac.eval s= .slice a m c) (hy:Bytes w B a m ys) (J4:off<=L) (aU:off<C) (k:Nat) (hk:k=min (L-off) m)
  (h:∀w',Hid (Own aH 5 w' base (.slice (some ⟨g,0,none⟩) L C) (xs.take off++ys.take k++xs.drop (off+k)))->Hid (Below base w w')->wpList prog ops Q rest (ac.put o.dst (goInt k)) w'):wpList prog ops Q (o::rest) ac w:=
 PG mD d s ho base g L C off xs (by rw[hd,iL,if_neg ae];show _=Value.slice (some ((⟨g,0,none⟩:Addr).add off)) _ _;rw[Addr.add_mid,Nat.zero_add]) bG B a m c ys hs hy J4 k hk h
end
section
open Go.RowKit

theorem PH (l:List UInt8):Lib.byteCells l=l.map aH:=rfl
theorem zS {w:World} {base g L C off:Nat} {xs:List UInt8} (bG:Own aH 5 w base (.slice (some ⟨g,0,none⟩) L C) xs) (ys:List UInt8) (hm:off+ys.length<=L):
  ∃cur:Array Value,w.heap[g]?=some (.cells cur 5 (0,0))/\cur.size=C/\L<=C/\Own aH 5 (w.setRow g (cur.toList.take off++ys.map aH++cur.toList.drop (off+ys.length)).toArray) base (.slice (some ⟨g,0,none⟩) L C) (xs.take off++ys++xs.drop (off+ys.length))/\base<=g:=by
 rcases bG.2 with⟨hv,_⟩|⟨g',cap,cur,hv,jr,hg,nO,Yd,ja,ht⟩
 ·cases hv
 ·injection hv with e1 e2 e3
  injection e1 with e1
  injection e1 with e1
  subst e1 e3;have Oi:xs.length=L:=e2.symm;have zy:cur.toList.length=C:=by simpa using ja
  rw[Oi] at nO ht;have jq:(ys.map aH).length=ys.length:=List.length_map _;refine⟨cur,hg,by simpa using ja,nO,?_,jr⟩;have hlen:(xs.take off++ys++xs.drop (off+ys.length)).length=L:=by simp only[List.length_append,List.length_take,List.length_drop,Oi];omega
  have hsp:cur.toList.take off++ys.map aH++cur.toList.drop (off+ys.length)=splice cur.toList off (ys.map aH):=by unfold splice;rw[jq,List.append_assoc]
  rw[hsp];refine⟨by rw[List.length_map,Nat.mul_one],.inr ⟨g,C,(splice cur.toList off (ys.map aH)).toArray,by rw[hlen],jr,setRow_heap w g cur _ 5 _ hg,by rw[hlen];exact nO,Yd,?_,?_⟩⟩
  ·rw[List.size_toArray,length_splice _ _ _ (by rw[jq,zy];omega),zy,Nat.mul_one]
  ·rw[hlen];show(splice cur.toList off (ys.map aH)).take (L*1)=_;rw[Nat.mul_one,xg _ _ _ _ (by rw[jq];omega) (by rw[zy];omega)];have ht':cur.toList.take L=xs.map aH:=by simpa using ht
   rw[ht',jq,List.map_append,List.map_append,List.map_take,List.map_drop]
theorem WZ {w:World} {ops:Array Oper} {o:Oper} {a:Act} {K:Act->World->Prop} {Q:Exit->Act->World->Prop} {E:Prop} (mD:o.guard=none) (d s:Operand)
  (ho:o.op= .call {callee:= .builtin .copy,args:=#[d,s],argTypes:=#[23,9]}) (base g L C off l c:Nat) (xs:List UInt8)
  (hd:a.eval d= .slice (some ⟨g,off,none⟩) l c) (bG:Own aH 5 w base (.slice (some ⟨g,0,none⟩) L C) xs)
  (ys:List UInt8) (hs:a.eval s= .string (aJ ys)) (hm:off+ys.length<=L) (hl:ys.length<=l)
  (h:∀w',Hid (Own aH 5 w' base (.slice (some ⟨g,0,none⟩) L C) (xs.take off++ys++xs.drop (off+ys.length)))->Hid (Below base w w')->K (a.put o.dst (goInt ys.length)) w'):
  if Region.wanted o (yielded ops a.tmps)=true then Oper.wp prog o a w K Q else E:=by
 have hw:Region.wanted o (yielded ops a.tmps)=true:=by simp[Region.wanted,mD]
 rw[if_pos hw];obtain⟨cur,hg,ja,hLC,zn,jr⟩:=zS bG ys hm;have bP:=Lib.run_copy_row_string (P:=prog) w 23 9 o.type 5 g off l c (aJ ys) cur 5 Tryz.underlying23 OO hg (by rw[pX];exact hl) (by rw[pX];omega);rw[pX,Zr,PH] at bP;unfold Oper.wp;simp[execOp,ho,resolve,invoke,builtin,hd,hs,bP,Result.andThen];refine h _ (hid ?_) (ag (below_setRow (Below.refl _ _) jr _))
 simpa using zn
end
section
open Go.RowKit

theorem ama (w:World):(zeroValue 5).run prog w= .ok (.int .u8 0) w:=az
theorem IV (w:World) (ty:TypeId) (g off m c:Nat) (cur:Array Value) (hg:w.heap[g]?=some (.cells cur 5 (0,0))) (hm:0<m) (awK:off+m<=cur.size):
  (Builtin.clear_ #[23] ty #[.slice (some ⟨g,off,none⟩) m c]).run prog w= .ok (.tuple #[]) (w.setRow g (cur.toList.take off++(List.replicate m (0:UInt8)).map aH++cur.toList.drop (off+m)).toArray):=by
 have hzc:(Builtin.zeroCells (Value.int .u8 0).cells m).toList=(List.replicate m (0:UInt8)).map aH:=by
  rw[List.map_replicate];show(Builtin.zeroCells #[Value.int .u8 0] m).toList=_;simp[Builtin.zeroCells];apply List.ext_getElem
  ·simp
  ·intro i h1 h2;simp[Nat.mod_one,aH]
 have eQ:=run_storeCells_at prog g off 5 ((List.replicate m (0:UInt8)).map aH) 0 cur w hg (by simpa using awK) (by intro v hv';rw[List.map_replicate] at hv';rw[List.eq_of_mem_replicate hv'];rfl);rw[List.length_map,List.length_replicate] at eQ;simp only[Nat.add_zero] at eQ;obtain⟨k,rfl⟩:∃k,m=k+1:=⟨m-1,ae⟩
 have hz:=λw=>ama w;simp[Builtin.clear_,run_underlying Tryz.underlying23,hz,hzc];rw[List.map_replicate] at eQ;rw[eQ];simp
theorem Xa {w:World} {base g L C off:Nat} {xs:List UInt8} {ad:Option Addr} {dl dc:Nat} (had:ad=iL (some ⟨g,0,none⟩) C off) (bG:Own aH 5 w base (.slice (some ⟨g,0,none⟩) L C) xs) (hm:off+dl<=L) (hp:0<dl):
  ∃w',(∀ty,(Builtin.clear_ #[23] ty #[.slice ad dl dc]).run prog w= .ok (.tuple #[]) w')/\Own aH 5 w' base (.slice (some ⟨g,0,none⟩) L C) (xs.take off++List.replicate dl 0++xs.drop (off+dl))/\Below base w w':=by
 obtain⟨cur,hg,ja,hLC,zn,jr⟩:=zS bG (List.replicate dl (0:UInt8)) (by rw[List.length_replicate];exact hm);rw[List.length_replicate] at zn;have amb:ad=some ⟨g,off,none⟩:=by rw[had,iL,if_neg ae];show some ((⟨g,0,none⟩:Addr).add off)=_;rw[Addr.add_mid,Nat.zero_add]
 subst amb;exact⟨_,λty=>IV w ty g off dl dc cur hg hp ae,zn,below_setRow (Below.refl _ _) jr _⟩
theorem Lc {w:World} {ops:Array Oper} {rest:List Oper} {o:Oper} {ac:Act} {Q:Exit->Act->World->Prop} (mD:o.guard=none) (d:Operand)
  (ho:o.op= .call {callee:= .builtin .clear,args:=#[d],argTypes:=#[23]}) (base g L C off:Nat) (xs:List UInt8) (ad:Option Addr) (dl dc:Nat)
  (hd:ac.eval d= .slice ad dl dc) (had:ad=iL (some ⟨g,0,none⟩) C off) (bG:Own aH 5 w base (.slice (some ⟨g,0,none⟩) L C) xs)
  (hm:off+dl<=L) (hp:0<dl)
  (h:∀w',Hid (Own aH 5 w' base (.slice (some ⟨g,0,none⟩) L C) (xs.take off++List.replicate dl 0++xs.drop (off+dl)))->Hid (Below base w w')->wpList prog ops Q rest (ac.put o.dst (.tuple #[])) w'):wpList prog ops Q (o::rest) ac w:=by
 obtain⟨cur,hg,ja,hLC,zn,jr⟩:=zS bG (List.replicate dl (0:UInt8)) (by rw[List.length_replicate];exact hm);rw[List.length_replicate] at zn;have amb:ad=some ⟨g,off,none⟩:=by rw[had,iL,if_neg ae];show some ((⟨g,0,none⟩:Addr).add off)=_;rw[Addr.add_mid,Nat.zero_add]
 subst amb;have bP:=IV w o.type g off dl dc cur hg hp ae;refine wpList_plain mD λK hK=>?_;unfold Oper.wp;simp[execOp,ho,resolve,invoke,builtin,hd,bP,Result.andThen];refine hK _ _ (h _ (hid ?_) (ag (below_setRow (Below.refl _ _) jr _)))
 simpa using zn
end
section
open Go.RowKit

def amc (e:ny):Value:= .agg #[.int .i64 e.i,.string (aJ e.nm)]
theorem ah2 (e:ny):amc e= .agg #[.int .i64 e.i,.string (aJ e.nm)]:=rfl
def amd (e:ny):Obj:= .cells #[.int .i64 e.i,.string (aJ e.nm)] 167
attribute [go_sem] ah2
def DU (e:ny) (w:World) (x:Ending) (w':World):Prop:=(∃v,x= .returned (.tuple #[v,.int .i64 (Dir.aY e)])/\Own aH 5 w' w.heap.size v (Dir.kK e))/\Below w.heap.size w w'
theorem xh (i:Int) (w:World):Calls prog 155 #[.int .i64 i] w λe w'=>e= .returned (.bool (Dir.okI i))/\w=w':=by
 unfold Dir.okI
 cases h1:decide (1<=i)
 all_goals
  go_in
  go_wp2;go_ret;exact⟨rfl,rfl⟩
theorem IW {e:ny} {w w':World} (he:¬Dir.aY e=0) (hb:Below w.heap.size w w'):DU e w (.returned (.tuple #[.slice none 0 0,.int .i64 (Dir.aY e)])) w':=by unfold DU Dir.kK;rw[if_neg he];exact⟨⟨_,rfl,Own.nil _ _⟩,hb⟩
theorem aeh (T:Nat):Value.int .u8 ((T:Int)%256)=aH (UInt8.ofNat T):=by unfold aH;rw[UInt8.toNat_ofNat'];exact congrArg (Value.int .u8) ae
theorem G5 (T:Nat) (h:T<256):Value.int .u8 T=aH (UInt8.ofNat T):=by unfold aH;rw[UInt8.toNat_ofNat',Nat.mod_eq_of_lt h]
theorem aei (T:Nat) (h:T<65536):Value.int .u8 ((T:Int)/256)=aH (UInt8.ofNat (T/256)):=by rw[<-G5 (T/256) ae];exact congrArg (Value.int .u8) ae
theorem EM (e:ny) (w:World) (hn:e.nm.length<=140737488351232):
  Calls prog 100 #[amc e] w (DU e w):=by
 have kF:=ag ((Below.refl w.heap.size w).alloc (Nat.le_refl _) (amd e));by_cases hi:Dir.okI e.i=true
 case neg=>
  have hE:Dir.aY e=1:=if_neg hi;have HB:=ag (λw'=>IW (w:=w) (w':=w') (e:=e) ae);rw[hE] at HB;have hi2:Dir.okI e.i=false:=by simpa using hi
  obtain⟨i,nm⟩:=e;clear hi hE
  go_in
  go_wp2_with fail;refine(xh i _).mono ?_;rintro e w_ ⟨rfl,rfl⟩;rw[hi2];go_wp2;go_ret2;exact HB.o _ kF.o
 have hE:Dir.aY e=bV.kR e.nm:=if_pos hi;by_cases NV:bV.kR e.nm=0
 case neg=>
  have HB:=ag (λw'=>IW (w:=w) (w':=w') (e:=e) (by rw[hE];exact NV));rw[hE] at HB;obtain⟨i,nm⟩:=e;have HN:=ag (λw=>zB nm w hn);simp only at NV HB hi;generalize bV.kR nm=E at*;have g1:(E==0)=false:=by simpa using NV
  have g2:(E !=0)=true:=by simpa using NV
  clear hE NV
  go_in
  go_wp2_with fail;refine(xh i _).mono ?_;rintro e w_ ⟨rfl,rfl⟩;rw[hi];go_wp2_with fail;refine(HN.o _).mono ?_;rintro e w_ ⟨rfl,rfl⟩;go_wp2;go_ret2;exact HB.o _ kF.o
 rw[NV] at hE;have HW:=ag (show Dir.kK e=Dir.slotL e from if_pos hE);have HE:=ag hE;have HN:=ag (λw=>zB e.nm w hn);rw[NV] at HN;obtain⟨i,nm⟩:=e;obtain⟨h1,h2⟩:=Dir.kT NV;obtain⟨h3,h4⟩:=(Dir.Om i).1 hi;obtain⟨I,rfl⟩:∃I:Nat,i=I:=⟨i.toNat,ae⟩
 simp only at h1 h2 h3 h4 hi HN;have b0:=ag (aF.new w 167 #[.int .i64 I,.string (aJ nm)]);unfold DU;clear hE NV hn;have uY:∀u:World,(Instr.makeSlice 23 (.int .i64 16) (.int .i64 16)).run prog u= .ok (.slice (some ⟨u.heap.size,0,none⟩) 16 16) (u.alloc (.cells (Array.replicate 16 (.int .u8 0)) 5)):=Hl 16 aB
 go_in
 go_wp2_with fail;refine(xh _ _).mono ?_;rintro e w_ ⟨rfl,rfl⟩;rw[hi];go_wp2_with fail;refine(HN.o _).mono ?_;rintro e w_ ⟨rfl,rfl⟩;go_wp2_with fail;obtain⟨w1,jw⟩:∃w1,w1=(w.alloc (.cells #[.int .i64 I,.string (aJ nm)] 167)).alloc (.cells (Array.replicate 16 (.int .u8 0)) 5):=⟨_,rfl⟩
 obtain⟨g,hg⟩:=bu (w.heap.size+1);have b1:=b0.o.alloc (.cells (Array.replicate 16 (.int .u8 0)) 5);have ho:=nH (w.alloc (.cells #[.int .i64 I,.string (aJ nm)] 167)) (w.alloc (.cells #[.int .i64 I,.string (aJ nm)] 167)).heap.size 16 (Nat.le_refl _) aB;have hb:=kF.o.alloc (by simp[amd]) (.cells (Array.replicate 16 (.int .u8 0)) 5);unfold amd at hb;have hgz:(w.alloc (.cells #[.int .i64 I,.string (aJ nm)] 167)).heap.size=g:=by rw[hg];simp
 rw[hgz] at ho;rw[<-jw] at b1 ho hb⊢;rw[<-hg];have dh:w.heap.size≠g:=ae;have jr:w.heap.size<=g:=ae;have aU:=ag (show w.heap.size<g by omega);have e0:=b1.aj (i:=0) rfl;have e1:=b1.aj (i:=1) rfl;obtain⟨c0,f0⟩:=ho.iH (k:=0) au;obtain⟨c1,f1⟩:=ho.iH (k:=1) au;obtain⟨c2,f2⟩:=ho.iH (k:=2) au;have HO:=ag ho;have HB:=ag hb;have B1:=ag b1;clear jw hg hgz ho hb b1 b0 kF;have q3:(1:Int)<=(I:Int):=h3;have q4:(I:Int)<=65535:=h4;have q5:IntKind.u8.wrap (I:Int)=(I:Int)%256:=IntKind.wrap_u8 _;have q6:IntKind.u8.wrap ((I:Int)/256)=(I:Int)/256:=IntWalk.u8_in _ ⟨ae,ae⟩;have q7:IntKind.u8.wrap (nm.length:Int)=(nm.length:Int):=IntWalk.u8_in _ ⟨ae,ae⟩;refine iT (λW'=>aF W' w.heap.size 167 #[.int .i64 I,.string (aJ nm)]) B1.o (λbJ=>?_);refine fB 0 (.slice (some ⟨g,0,none⟩) 16 16) ?_;refine fB 1 (.slice (some ⟨g,0,none⟩) 16 16) ?_;refine fB 2 (.slice (some ⟨g,0,none⟩) 16 16) ?_;refine aS 3 w.heap.size 0 ?_;refine jH 4 (I:Int) (λ_ aI=>aI.aj (i:=0) rfl) ?_;refine fE 5 (.int .u8 ((I:Int)%256)) ?_;refine aS 6 w.heap.size 0 ?_;refine jH 7 (I:Int) (λ_ aI=>aI.aj (i:=0) rfl) ?_;refine ik 8 ((I:Int)/256) ?_;refine fE 9 (.int .u8 ((I:Int)/256)) ?_;refine aS 10 w.heap.size 1 ?_;refine tC 11 (.string (aJ nm)) (λ_ aI=>aI.aj (i:=1) rfl) ?_;refine ik 12 nm.length ?_;refine fE 13 (.int .u8 nm.length) ?_;refine aS 14 g 0 ?_;refine dm 15 (λK' hK=>?_);go_simp;have bs1:=B1.o.far (p:=⟨g,0,none⟩) dh (.int .u8 ((I:Int)%256));refine hK.out _ _ bs1 (λdH=>?_)
 try simp only[aO]
 refine aS 16 g 1 ?_;refine dm 17 (λK' hK=>?_);go_simp;have bs2:=bs1.far (p:=⟨g,1,none⟩) dh (.int .u8 ((I:Int)/256));refine hK.out _ _ bs2 (λgm=>?_)
 try simp only[aO]
 refine aS 18 g 2 ?_;refine dm 19 (λK' hK=>?_);go_simp;have bs3:=bs2.far (p:=⟨g,2,none⟩) dh (.int .u8 (nm.length:Int));refine hK.out _ _ bs3 (λkD=>?_)
 try simp only[aO]
 refine gB ?_;have Aj:=((HO.o.set 0 (UInt8.ofNat I)).set 1 (UInt8.ofNat (I/256))).set 2 (UInt8.ofNat nm.length);rw[<-aeh,<-aei I ae,<-G5 nm.length ae] at Aj;have bQ:=((HB.o.setCell (p:=⟨g,0,none⟩) jr (.int .u8 ((I:Int)%256))).setCell (p:=⟨g,1,none⟩) jr (.int .u8 ((I:Int)/256))).setCell (p:=⟨g,2,none⟩) jr (.int .u8 (nm.length:Int));obtain⟨w2,jP⟩:∃w2,w2=(((w1.setCell ⟨g,0,none⟩ (.int .u8 ((I:Int)%256))).setCell ⟨g,1,none⟩ (.int .u8 ((I:Int)/256))).setCell ⟨g,2,none⟩ (.int .u8 (nm.length:Int))).drew:=⟨_,rfl⟩
 rw[<-jP];have yS:Own aH 5 w2 g (.slice (some ⟨g,0,none⟩) 16 16) (UInt8.ofNat I::UInt8.ofNat (I/256)::UInt8.ofNat nm.length::List.replicate 13 0):=by rw[jP];exact Aj
 have dA:Below w.heap.size w w2:=by rw[jP];exact bQ.drew
 have BS2:aF w2 w.heap.size 167 #[.int .i64 I,.string (aJ nm)]:=by rw[jP];exact bs3
 have H2:=ag yS;have awP:=ag dA;have aqP:=ag BS2;clear jP Aj bQ bs1 bs2 bs3 dH gm kD bJ c0 c1 c2 f0 f1 f2 e0 e1 HO HB B1 yS dA BS2;go_wp2_with fail;refine iT (λW'=>aF W' w.heap.size 167 #[.int .i64 I,.string (aJ nm)]) aqP.o (λbJ=>?_);refine fB 0 (.slice (some ⟨g,0,none⟩) 16 16) ?_;refine fE 1 (.slice (some ⟨g,3,none⟩) 13 13) ?_;refine aS 2 w.heap.size 1 ?_;refine tC 3 (.string (aJ nm)) (λ_ aI=>aI.aj (i:=1) rfl) ?_;refine dm 4 (λK' hK=>?_);refine WZ rfl (.tmp 35) (.tmp 37) rfl g g 16 16 3 13 13 _ rfl H2.o nm rfl ae ae ?_;intro w3 rf dE;refine hK.out _ _ (aqP.o.drew.below dE.o aU.o) (λrY=>?_)
 try simp only[aO]
 refine gB ?_;go_wp2;go_ret2;rw[HE.o];refine⟨⟨_,rfl,?_⟩,?_⟩
 ·rw[HW.o];have OZ:=rf.o.mono jr;have e:(UInt8.ofNat I::UInt8.ofNat (I/256)::UInt8.ofNat nm.length::List.replicate 13 (0:UInt8)).take 3++nm++(UInt8.ofNat I::UInt8.ofNat (I/256)::UInt8.ofNat nm.length::List.replicate 13 (0:UInt8)).drop (3+nm.length)=Dir.slotL ⟨(I:Int),nm⟩:=by
   have hd:(UInt8.ofNat I::UInt8.ofNat (I/256)::UInt8.ofNat nm.length::List.replicate 13 (0:UInt8)).drop (3+nm.length)=List.replicate (13-nm.length) 0:=by rw[<-List.drop_drop];show(List.replicate 13 (0:UInt8)).drop nm.length=_;rw[List.drop_replicate]
   rw[hd];rfl
  rw[e] at OZ;exact OZ
 ·exact awP.o.drew.trans (dE.o.mono jr)
end
end Go.Proofs.YtnieckfelfoopaaGreat

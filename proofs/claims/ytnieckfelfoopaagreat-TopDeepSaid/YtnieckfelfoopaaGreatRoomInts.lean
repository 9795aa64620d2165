import Derived.Shelf.Small.Bits
import Derived.Shelf.Small.Wraps
import Derived.Shelf.Strconv.Itoa0
import Derived.Shelf.Sort.Plain
import Derived.Shelf.Bits.Mul64
import Derived.Shelf.Slices.Turned
import Derived.Shelf.Slices.Reverse
import Derived.Shelf.Slices.Equal
import Derived.Ground.Names2Prog
import Derived.Shelf.Slices.Clone
import Derived.Shelf.Slices.CompactI
import Derived.Shelf.Slices.SearchI
import Derived.Shelf.Slices.Cells
import Derived.Shelf.Slices.In.SortNone
import Derived.Shelf.Slices.Empties2
import Derived.Ground.SlgnProg
import Derived.Shelf.SlicesE.Reverse
import Derived.Shelf.SlicesE.Clone
import Derived.Test.YtnieckfelfoopaaGreatProg
import Derived.Test.YtnieckfelfoopaaGreatMem
import Derived.Test.YtnieckfelfoopaaGreatRows
open Go.Proofs.Tryz (prog)
namespace Go.Proofs
open Go.Shelf
def Tryz.SV:Go.Shelf.Ren:=⟨fun|189=>204|125=>247|257=>246|128=>275|129=>276|294=>266|295=>267|296=>268|297=>269|298=>270|299=>271|216=>272|300=>273|301=>274|328=>296|329=>297|330=>298|331=>299|332=>300|215=>301|343=>325|n=>n,fun|28=>116|3=>3|46=>196|0=>0|51=>64|53=>65|4=>4|183=>331|182=>330|131=>239|5=>5|9=>9|218=>354|222=>358|228=>376|229=>158|n=>n,fun|n=>n⟩
theorem Tryz.lays189:Go.Proofs.Lays.n189 prog Tryz.SV:={
 mixed:=az
 f125:=Tryz.func247.trans (congrArg some az)
 f128:=Tryz.func275.trans (congrArg some az)
 f129:=Tryz.func276.trans (congrArg some az)
 f189:=Tryz.func204.trans (congrArg some az)
 f215:=Tryz.func301.trans (congrArg some az)
 f216:=Tryz.func272.trans (congrArg some az)
 f257:=Tryz.func246.trans (congrArg some az)
 f294:=Tryz.func266.trans (congrArg some az)
 f295:=Tryz.func267.trans (congrArg some az)
 f296:=Tryz.func268.trans (congrArg some az)
 f297:=Tryz.func269.trans (congrArg some az)
 f298:=Tryz.func270.trans (congrArg some az)
 f299:=Tryz.func271.trans (congrArg some az)
 f300:=Tryz.func273.trans (congrArg some az)
 f301:=Tryz.func274.trans (congrArg some az)
 f328:=Tryz.func296.trans (congrArg some az)
 f329:=Tryz.func297.trans (congrArg some az)
 f330:=Tryz.func298.trans (congrArg some az)
 f331:=Tryz.func299.trans (congrArg some az)
 f332:=Tryz.func300.trans (congrArg some az)
 f343:=Tryz.func325.trans (congrArg some az)
 t0:=Tryz.underlying0
 a0:=Tryz.isAgg0
 z0:=Tryz.sizeOf0
 v0:=Tryz.zeroValue0
 t3:=Tryz.underlying3
 a3:=Tryz.isAgg3
 z3:=Tryz.sizeOf3
 v3:=Tryz.zeroValue3
 t4:=Tryz.underlying4
 a4:=Tryz.isAgg4
 z4:=Tryz.sizeOf4
 v4:=Tryz.zeroValue4
 t5:=Tryz.underlying5
 a5:=Tryz.isAgg5
 z5:=Tryz.sizeOf5
 v5:=Tryz.zeroValue5
 t9:=Tryz.underlying9
 a9:=Tryz.isAgg9
 z9:=Tryz.sizeOf9
 v9:=Tryz.zeroValue9
 t28:=Tryz.underlying116
 a28:=Tryz.isAgg116
 z28:=Tryz.sizeOf116
 v28:=Tryz.zeroValue116
 t46:=Tryz.underlying196
 a46:=Tryz.isAgg196
 z46:=Tryz.sizeOf196
 v46:=Tryz.zeroValue196
 t51:=Tryz.underlying64
 a51:=Tryz.isAgg64
 z51:=Tryz.sizeOf64
 v51:=Tryz.zeroValue64
 t53:=Tryz.underlying65
 a53:=Tryz.isAgg65
 z53:=Tryz.sizeOf65
 v53:=Tryz.zeroValue65
 t131:=Tryz.underlying239
 a131:=Tryz.isAgg239
 z131:=Tryz.sizeOf239
 v131:=Tryz.zeroValue239
 t182:=Tryz.underlying330
 a182:=Tryz.isAgg330
 z182:=Tryz.sizeOf330
 v182:=Tryz.zeroValue330
 t183:=Tryz.underlying331
 a183:=Tryz.isAgg331
 z183:=Tryz.sizeOf331
 v183:=Tryz.zeroValue331
 t218:=Tryz.underlying354
 a218:=Tryz.isAgg354
 z218:=Tryz.sizeOf354
 v218:=Tryz.zeroValue354
 t222:=Tryz.underlying358
 a222:=Tryz.isAgg358
 z222:=Tryz.sizeOf358
 v222:=Tryz.zeroValue358
 t228:=Tryz.underlying376
 a228:=Tryz.isAgg376
 z228:=Tryz.sizeOf376
 v228:=Tryz.zeroValue376
 t229:=Tryz.underlying158
 a229:=Tryz.isAgg158
 z229:=Tryz.sizeOf158
 v229:=Tryz.zeroValue158}
open Go.Sort Go.RowKit in
theorem Tryz.slices_Sort_int (blk off cap:Nat) (zs:List Int) (w:World) (hH:Holds (Value.int .i64) w blk off zs.toArray) (aae:blk<w.heap.size) (ja:zs.length<4611686018427387904):
  Calls prog 204 #[.slice (some ⟨blk,off,none⟩) zs.length cap] w λe w'=>
   e= .returned (.tuple #[])/\∃n os,w'=grow (putRow (Value.int .i64) (Sort.ahead w n) blk off (zs.mergeSort λx y=>decide (x<=y)).toArray) os:=Any.slices_Sort_int Tryz.lays189 blk off cap zs w hH aae ja
def Tryz.lays112_ren:Go.Shelf.Ren:=⟨fun|112=>160|n=>n,fun|28=>116|3=>3|4=>4|0=>0|n=>n,fun|n=>n⟩
theorem Tryz.lays112:Go.Proofs.Lays.n112 prog Tryz.lays112_ren:={
 mixed:=az
 f112:=Tryz.func160.trans (congrArg some az)
 t0:=Tryz.underlying0
 a0:=Tryz.isAgg0
 z0:=Tryz.sizeOf0
 v0:=Tryz.zeroValue0
 t3:=Tryz.underlying3
 a3:=Tryz.isAgg3
 z3:=Tryz.sizeOf3
 v3:=Tryz.zeroValue3
 t4:=Tryz.underlying4
 a4:=Tryz.isAgg4
 z4:=Tryz.sizeOf4
 v4:=Tryz.zeroValue4
 t28:=Tryz.underlying116
 a28:=Tryz.isAgg116
 z28:=Tryz.sizeOf116
 v28:=Tryz.zeroValue116}
open Go.RowKit Go.Lib Go.Sort in
theorem Tryz.slices_Reverse_int (blk off cap:Nat) (zs:List Int) (w:World) (hH:Holds (Value.int .i64) w blk off zs.toArray) (ja:zs.length<=9223372036854775807):
  Calls prog 160 #[.slice (some ⟨blk,off,none⟩) zs.length cap] w λe w'=>e= .returned (.tuple #[])/\∃n,w'=putRow (Value.int .i64) (Sort.ahead w n) blk off zs.reverse.toArray:=Any.slices_Reverse_int Tryz.lays112 blk off cap zs w hH ja
open Go.RowKit Go.Lib Go.Sort in
theorem Tryz.slices_Reverse_int_empty (a:Option Addr) (cap:Nat) (w:World):
  Calls prog 160 #[.slice a 0 cap] w λe w'=>e= .returned (.tuple #[])/\w'=w:=Any.slices_Reverse_int_empty Tryz.lays112 a cap w
def Tryz.KO:Go.Shelf.Ren:=⟨fun|15=>235|n=>n,fun|22=>116|3=>3|4=>4|n=>n,fun|n=>n⟩
theorem Tryz.laysNm215:Go.Proofs.Lays2.n15 prog Tryz.KO:={
 mixed:=az
 f15:=Tryz.func235.trans (congrArg some az)
 t3:=Tryz.underlying3
 a3:=Tryz.isAgg3
 z3:=Tryz.sizeOf3
 v3:=Tryz.zeroValue3
 t4:=Tryz.underlying4
 a4:=Tryz.isAgg4
 z4:=Tryz.sizeOf4
 v4:=Tryz.zeroValue4
 t22:=Tryz.underlying116
 a22:=Tryz.isAgg116
 z22:=Tryz.sizeOf116
 v22:=Tryz.zeroValue116
 i3:=by kernel_rfl}
open Go.RowKit Go.Lib in
theorem Tryz.slices_Clone_int (b off n c:Nat) (zs:List Int) (w:World) (hz:n<=zs.length) (aaf:n*8<=140737488355328) (hc:∀j,j<zs.length->w.cell? ⟨b,off+j,none⟩=some (.int .i64 (zs.getD j 0))):
  Calls prog 235 #[.slice (some ⟨b,off,none⟩) n c] w λe w'=>∃v',e= .returned v'/\w'.ownsRow w.heap.size 3 1 v' n ((zs.take n).map (Value.int .i64))/\v'≠ .slice none 0 0/\Below w.heap.size w w':=Any.slices_Clone_int Tryz.laysNm215 b off n c zs w hz aaf hc
open Go.RowKit Go.Lib in
theorem Tryz.slices_Clone_int_nil (n c:Nat) (w:World):
  Calls prog 235 #[.slice none n c] w λe w'=>e= .returned (.slice none 0 0)/\w'=w:=Any.slices_Clone_int_nil Tryz.laysNm215 n c w
def Tryz.KP:Go.Shelf.Ren:=⟨fun|16=>49|n=>n,fun|24=>100|9=>9|4=>4|n=>n,fun|n=>n⟩
theorem Tryz.laysNm216:Go.Proofs.Lays2.n16 prog Tryz.KP:={
 mixed:=az
 f16:=Tryz.func49.trans (congrArg some az)
 t4:=Tryz.underlying4
 a4:=Tryz.isAgg4
 z4:=Tryz.sizeOf4
 v4:=Tryz.zeroValue4
 t9:=Tryz.underlying9
 a9:=Tryz.isAgg9
 z9:=Tryz.sizeOf9
 v9:=Tryz.zeroValue9
 t24:=Tryz.underlying100
 a24:=Tryz.isAgg100
 z24:=Tryz.sizeOf100
 v24:=Tryz.zeroValue100
 i9:=by kernel_rfl}
open Go.RowKit Go.Lib in
theorem Tryz.slices_Clone_string (b off n c:Nat) (zs:List ByteArray) (w:World) (hz:n<=zs.length) (aaf:n*16<=140737488355328) (hc:∀j,j<zs.length->w.cell? ⟨b,off+j,none⟩=some (.string (zs.getD j ByteArray.empty))):
  Calls prog 49 #[.slice (some ⟨b,off,none⟩) n c] w λe w'=>∃v',e= .returned v'/\w'.ownsRow w.heap.size 9 1 v' n ((zs.take n).map (Value.string))/\v'≠ .slice none 0 0/\Below w.heap.size w w':=Any.slices_Clone_string Tryz.laysNm216 b off n c zs w hz aaf hc
open Go.RowKit Go.Lib in
theorem Tryz.slices_Clone_string_nil (n c:Nat) (w:World):
  Calls prog 49 #[.slice none n c] w λe w'=>e= .returned (.slice none 0 0)/\w'=w:=Any.slices_Clone_string_nil Tryz.laysNm216 n c w
open Go.RowKit Go.Lib in
theorem Tryz.slices_Clone_int_zero (a:Addr) (c:Nat) (w:World):
  Calls prog 235 #[.slice (some a) 0 c] w λe w'=>∃v',e= .returned v'/\w'.ownsRow w.heap.size 3 1 v' 0 []/\v'≠ .slice none 0 0/\Below w.heap.size w w':=Any.slices_Clone_int_zero Tryz.laysNm215 a c w
open Go.RowKit Go.Lib in
theorem Tryz.slices_Clone_string_zero (a:Addr) (c:Nat) (w:World):
  Calls prog 49 #[.slice (some a) 0 c] w λe w'=>∃v',e= .returned v'/\w'.ownsRow w.heap.size 9 1 v' 0 []/\v'≠ .slice none 0 0/\Below w.heap.size w w':=Any.slices_Clone_string_zero Tryz.laysNm216 a c w
def Tryz.KQ:Go.Shelf.Ren:=⟨fun|20=>236|n=>n,fun|22=>116|3=>3|4=>4|0=>0|n=>n,fun|n=>n⟩
theorem Tryz.MS:Go.Proofs.Lays2.n20 prog Tryz.KQ:={
 mixed:=az
 f20:=Tryz.func236.trans (congrArg some az)
 t0:=Tryz.underlying0
 a0:=Tryz.isAgg0
 z0:=Tryz.sizeOf0
 v0:=Tryz.zeroValue0
 t3:=Tryz.underlying3
 a3:=Tryz.isAgg3
 z3:=Tryz.sizeOf3
 v3:=Tryz.zeroValue3
 t4:=Tryz.underlying4
 a4:=Tryz.isAgg4
 z4:=Tryz.sizeOf4
 v4:=Tryz.zeroValue4
 t22:=Tryz.underlying116
 a22:=Tryz.isAgg116
 z22:=Tryz.sizeOf116
 v22:=Tryz.zeroValue116
 i3:=by kernel_rfl}
open Go.RowKit Go.Lib Go.Sort in
theorem Tryz.slices_Compact_int (blk off cap:Nat) (zs:List Int) (w:World) (hH:Holds (Value.int .i64) w blk off zs.toArray) (ja:zs.length<=9223372036854775807) (nO:zs.length<=cap):
  Calls prog 236 #[.slice (some ⟨blk,off,none⟩) zs.length cap] w λe w'=>e= .returned (.slice (some ⟨blk,off,none⟩) (Lib.compact zs).length cap)/\∃q,w'=putRow (Value.int .i64) (Sort.ahead w q) blk off (Lib.compact zs++List.replicate (zs.length-(Lib.compact zs).length) 0).toArray:=Any.slices_Compact_int Tryz.MS blk off cap zs w hH ja nO
open Go.RowKit Go.Lib Go.Sort in
theorem Tryz.slices_Compact_int_empty (a:Option Addr) (cap:Nat) (w:World):
  Calls prog 236 #[.slice a 0 cap] w λe w'=>e= .returned (.slice a 0 cap)/\w'=w:=Any.slices_Compact_int_empty Tryz.MS a cap w
open Go.RowKit Go.Sort in
theorem Tryz.slices_Sort_int_none (p:Option Addr) (cap:Nat) (w:World):
  Calls prog 204 #[.slice p 0 cap] w λe w'=>e= .returned (.tuple #[])/\w'=w:=Any.slices_Sort_int_none Tryz.lays189 p cap w
end Go.Proofs
namespace Go.Proofs.YtnieckfelfoopaaGreat
open Go.RowKit

theorem Own.cut {α:Type} {f:α->Value} {e:TypeId} {w:World} {base g n c m:Nat} {xs:List α} (h:Own f e w base (.slice (some ⟨g,0,none⟩) n c) xs) (hm:m<=xs.length):Own f e w base (.slice (some ⟨g,0,none⟩) m c) (xs.take m):=by
 rcases h.2 with⟨hv,_⟩|⟨g',cap,cur,hv,jr,hg,nO,Yd,ja,ht⟩
 ·cases hv
 ·injection hv with e1 e2 e3
  injection e1 with e1
  injection e1 with e1
  subst e1 e3;have hl:(xs.take m).length=m:=by rw[List.length_take];omega
  refine⟨by rw[List.length_map,Nat.mul_one],.inr ⟨g,c,cur,by rw[hl],jr,hg,by rw[hl];omega,Yd,ja,?_⟩⟩;rw[hl,List.map_take,<-ht,List.take_take]
  congr 1
  omega
theorem Own.WE {α:Type} [Inhabited α] {f:α->Value} {e:TypeId} {w:World} {base g n c k:Nat} {xs:List α} (h:Own f e w base (.slice (some ⟨g,0,none⟩) n c) xs) (ys:List α) (hl:ys.length=xs.length) (os:Array Obj):
  Own f e (Sort.grow (Sort.putRow f (Sort.ahead w k) g 0 ys.toArray) os) base (.slice (some ⟨g,0,none⟩) n c) ys/\Below base w (Sort.grow (Sort.putRow f (Sort.ahead w k) g 0 ys.toArray) os):=by
 rcases h.2 with⟨hv,_⟩|⟨g',cap,cur,hv,jr,hg,nO,Yd,ja,ht⟩
 ·cases hv
 ·injection hv with e1 e2 e3
  injection e1 with e1
  injection e1 with e1
  subst e1 e3;have aU:g<w.heap.size:=by
   rcases Nat.lt_or_ge g w.heap.size with aU|Fb
   ·exact aU
   ·rw[Array.getElem?_eq_none Fb] at hg;cases hg
  have aae:∀j,(Sort.grow (Sort.putRow f (Sort.ahead w k) g 0 ys.toArray) os).heap[j]?=if j<w.heap.size then(if g=j then w.heap[j]?.map (Sort.onCells (Sort.putCells f 0 ys.toArray)) else w.heap[j]?) else os[j-w.heap.size]?:=λj=>by simp only[Sort.grow,Sort.putRow,Sort.mapBlock,Sort.ahead,Array.getElem?_append,Array.size_modify,Array.getElem?_modify]
  refine⟨⟨by rw[List.length_map,Nat.mul_one],.inr ⟨g,c,Sort.putCells f 0 ys.toArray cur,by rw[hl,e2],jr,?_,by rw[hl];exact nO,Yd,?_,?_⟩⟩,?_⟩
  ·rw[aae g,if_pos aU,if_pos rfl,hg];rfl
  ·simp[Sort.putCells,ja]
  ·apply List.ext_getElem?;intro i;rw[List.getElem?_take,List.getElem?_map];by_cases hi:i<ys.length
   ·rw[if_pos ae];have hic:i<cur.size:=ae;simp[Sort.putCells,hi,hic]
   ·rw[if_neg ae,List.getElem?_eq_none ae];rfl
  ·refine⟨rfl,rfl,rfl,au,λj hj=>?_⟩;rw[aae j,if_pos ae,if_neg ae]
theorem DK {w:World} {base g n c:Nat} {xs:List Int} (h:Own jL 3 w base (.slice (some ⟨g,0,none⟩) n c) xs):Sort.Holds (Value.int .i64) w g 0 xs.toArray:=λj hj=>by
 have hj':j<xs.length:=by simpa using hj
 obtain⟨h1,h2⟩:=h.iH hj';rw[Nat.zero_add];refine⟨?_,h2⟩;rw[h1,getElem!_pos _ j hj];rfl
def sortL (xs:List Int):List Int:=xs.mergeSort λx y=>decide (x<=y)
theorem yf (xs:List Int):(sortL xs).length=xs.length:=List.length_mergeSort ..
theorem zL (v:Value) (xs:List Int) (base:Nat) (w:World) (h:Own jL 3 w base v xs) (hl:xs.length<=1000000):
  Calls prog 204 #[v] w λe w'=>e= .returned (.tuple #[])/\Own jL 3 w' base v (sortL xs)/\Below base w w':=by
 obtain⟨a,c,rfl,_⟩:=h.bZ (n:=xs.length) rfl;by_cases h0:xs.length=0
 ·have hx:xs=[]:=List.eq_nil_of_length_eq_zero h0;subst hx;exact(Tryz.slices_Sort_int_none a c w).mono λe w' ⟨he,hw⟩=>⟨he,by rw[hw,show sortL []=[] by simp[sortL]];exact h,by rw[hw];exact Below.refl _ _⟩
 ·obtain⟨g,rfl,jr,hgl⟩:=h.addr ae;refine(Tryz.slices_Sort_int g 0 c xs w (DK h) hgl ae).mono ?_;rintro e w' ⟨he,k,os,rfl⟩;exact⟨he,h.WE _ (yf xs) os⟩
theorem SX (xs:List Int):(Lib.compact xs).length<=xs.length:=by unfold Lib.compact Lib.compactUpTo;rw[List.length_map];have h:=List.length_filter_le (Lib.keeps xs.toArray) (List.range xs.length);rw[List.length_range] at h;exact h
theorem sO (v:Value) (xs:List Int) (base:Nat) (w:World) (h:Own jL 3 w base v xs) (hl:xs.length<=1000000):
  Calls prog 236 #[v] w λe w'=>∃v',e= .returned v'/\Own jL 3 w' base v' (Lib.compact xs)/\Below base w w':=by
 obtain⟨a,c,rfl,hc⟩:=h.bZ (n:=xs.length) rfl;by_cases h0:xs.length=0
 ·have hx:xs=[]:=List.eq_nil_of_length_eq_zero h0;subst hx;exact(Tryz.slices_Compact_int_empty a c w).mono λe w' ⟨he,hw⟩=>⟨_,he,by rw[hw];exact h,by rw[hw];exact Below.refl _ _⟩
 ·obtain⟨g,rfl,jr,hgl⟩:=h.addr ae;refine(Tryz.slices_Compact_int g 0 c xs w (DK h) ae hc).mono ?_;rintro e w' ⟨he,k,rfl⟩;have zy:=SX xs;have hr:=h.WE (k:=k) (Lib.compact xs++List.replicate (xs.length-(Lib.compact xs).length) 0) (by rw[List.length_append,List.length_replicate];omega) #[];rw[Sort.grow_empty] at hr;refine⟨_,he,?_,hr.2⟩;have:=hr.1.cut (m:=(Lib.compact xs).length) (by rw[List.length_append];omega);rw[List.take_left'] at this
  ·exact this
  ·rfl
theorem aqd:(prog.info? 3).map (λi=>(i.zero,i.size,i.bytes))=some (some (.int .i64 0),1,8):=az
theorem OY (a:Option Addr) (n c:Nat) (xs:List Int) (w:World) (hx:jg jL w w.heap.size a n xs) (hn:n<=1000000):
  Calls prog 235 #[.slice a n c] w λe w'=>(∃v,e= .returned v/\Own jL 3 w' w.heap.size v xs)/\Below w.heap.size w w':=by
 have hl:=hx.len
 cases a with
 |none=>
  have hn:xs=[]:=by
   by_cases h0:n=0
   ·subst h0;exact List.eq_nil_of_length_eq_zero hl
   ·obtain⟨b,o,_,ha,_⟩:=hx.QQ (k:=0) ae;cases ha
  subst hn;exact(Tryz.slices_Clone_int_nil n c w).mono λe w' ⟨he,hw⟩=>⟨⟨_,he,Own.nil _ _⟩,by rw[hw];exact Below.refl _ _⟩
 |some p=>
  by_cases h0:n=0
  ·subst h0;have hx0:xs=[]:=List.eq_nil_of_length_eq_zero hl;subst hx0;exact(Tryz.slices_Clone_int_zero p c w).mono λe w' ⟨v',he,ho,_,hb⟩=>⟨⟨_,he,ho⟩,hb⟩
  ·obtain⟨b,o,ha,_,hc⟩:=hx.2.2 h0;injection ha with ha
   subst ha;refine(Tryz.slices_Clone_int b o n c xs w ae ae (λj hj=>by rw[hc j hj,List.getD_eq_getElem?_getD,List.getElem?_eq_getElem hj];rfl)).mono ?_;rintro e w' ⟨v',he,ho,_,hb⟩;rw[List.take_of_length_le ae] at ho;refine⟨⟨v',he,?_⟩,hb⟩;unfold Own;rw[hl];exact ho
end Go.Proofs.YtnieckfelfoopaaGreat
namespace Go.Proofs.YtnieckfelfoopaaGreat
open Go.RowKit
theorem KR (v:Value) (xs:List Int) (base:Nat) (w:World) (h:Own jL 3 w base v xs) (hl:xs.length<=1000000):
  Calls prog 160 #[v] w λe w'=>e= .returned (.tuple #[])/\Own jL 3 w' base v xs.reverse/\Below base w w':=by
 obtain⟨a,c,rfl,_⟩:=h.bZ (n:=xs.length) rfl;by_cases h0:xs.length=0
 ·have hx:xs=[]:=List.eq_nil_of_length_eq_zero h0;subst hx;exact(Tryz.slices_Reverse_int_empty a c w).mono λe w' ⟨he,hw⟩=>⟨he,by rw[hw];exact h,by rw[hw];exact Below.refl _ _⟩
 ·obtain⟨g,rfl,jr,hgl⟩:=h.addr ae;refine(Tryz.slices_Reverse_int g 0 c xs w (DK h) ae).mono ?_;rintro e w' ⟨he,k,rfl⟩;have hr:=h.WE (k:=k) xs.reverse (by rw[List.length_reverse]) #[];rw[Sort.grow_empty] at hr;exact⟨he,hr⟩
end Go.Proofs.YtnieckfelfoopaaGreat
namespace Go.Proofs.YtnieckfelfoopaaGreat
open Go.RowKit

section
variable {w:World} {ops:Array Oper} {rest:List Oper} {o:Oper} {ac:Act} {Q:Exit->Act->World->Prop}
theorem Yy {K:Act->World->Prop} (s x:Operand)
  (ho:o.op= .call {callee:= .builtin .append,args:=#[s,x],argTypes:=#[116,116]}) (base:Nat)
  (v:Value) (xs:List Int) (hs:ac.eval s=v) (bG:Own jL 3 w base v xs) (B:Nat) (a:Option Addr) (m c:Nat) (ys:List Int) (hx:ac.eval x= .slice a m c) (hy:jg jL w B a m ys)
  (dW:xs.length+m<=10000000) (cZ:base<=w.heap.size)
  (h:∀v' w',Own jL 3 w' base v' (xs++ys)->w.grownBy w' v.ownBlock->(v'.ownBlock=v.ownBlock\/v'.ownBlock=some w.heap.size)->K (ac.put o.dst v') w'):o.wp prog ac w K Q:=by
 obtain⟨i0,hi,qp,rG,yU⟩:=info_parts aqd;exact sH s x 116 ho base 3 i0 _ 8 Tryz.underlying116 hi qp rG yU rfl acS v xs hs bG B a m c ys hx hy ae (by simp only[maxLen];omega) cZ h
theorem O5 (mD:o.guard=none) (s x:Operand)
  (ho:o.op= .call {callee:= .builtin .append,args:=#[s,x],argTypes:=#[116,116]}) (base:Nat)
  (v:Value) (xs:List Int) (hs:ac.eval s=v) (bG:Own jL 3 w base v xs) (B:Nat) (a:Option Addr) (m c:Nat) (ys:List Int) (hx:ac.eval x= .slice a m c) (hy:jg jL w B a m ys)
  (dW:xs.length+m<=10000000) (cZ:base<=w.heap.size)
  (h:∀v' w',Hid (Own jL 3 w' base v' (xs++ys))->Hid (Below base w w')->wpList prog ops Q rest (ac.put o.dst v') w'):wpList prog ops Q (o::rest) ac w:=
 wpList_plain mD λ_ hK=>Yy s x ho base v xs hs bG B a m c ys hx hy dW cZ λv' w' h1 h2 _=>hK _ _ (h v' w' (ag h1) (ag (jK (Below.refl base w) bG h2 cZ)))
theorem SB {cs:Array Value} (mD:o.guard=none) (s x:Operand)
  (ho:o.op= .call {callee:= .builtin .append,args:=#[s,x],argTypes:=#[116,116]}) (base:Nat)
  (v:Value) (xs:List Int) (hs:ac.eval s=v) (bG:Own jL 3 w base v xs) (y:Int) (hx:ac.eval x= .slice (some ⟨w.heap.size,0,none⟩) 1 1) (jq:cs=#[.int .i64 y])
  (dW:xs.length<=1000000) (cZ:base<=w.heap.size)
  (h:∀v' w',Hid (Own jL 3 w' base v' (xs++[y]))->Hid (Below base w w')->wpList prog ops Q rest (ac.put o.dst v') w'):wpList prog ops Q (o::rest) ac (w.alloc (.cells cs 3)):=
 O5 mD s x ho base v xs hs (bG.alloc _) _ _ 1 1 [y] hx (jg.lit w 3 [y] 1 rfl ae jq) ae (by simp;omega) λv' w' h1 h2=>
  h v' w' h1 (ag (((Below.refl base w).alloc cZ _).trans h2.o))
end
theorem jg.atI {w:World} {B:Nat} {a:Option Addr} {n:Nat} {xs:List Int} (h:jg jL w B a n xs) {k:Nat} (hk:k<n):
  ∃b o,∃h':k<xs.length,a=some ⟨b,o,none⟩/\b<B/\w.cell? ⟨b,o+k,none⟩=some (.int .i64 xs[k]):=h.QQ hk
end Go.Proofs.YtnieckfelfoopaaGreat

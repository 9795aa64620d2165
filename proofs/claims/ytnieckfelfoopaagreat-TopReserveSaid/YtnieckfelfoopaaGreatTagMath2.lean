import Derived.Handy
import Derived.Lib.Hide
import Derived.WalkKit
import Derived.WalkSpells
import Derived.Deep.MidRow
import Derived.Deep.Draws
import Derived.Deep.RegionHeld3
import Derived.Maps.AppendAt
import Derived.Deep.AppendLies
import Derived.Test.YtnieckfelfoopaaGreatRows
import Derived.Deep.DeepCutAuto
import Derived.WalkMore
import Derived.Laws.CopyOwn
import Derived.Lib.SliceRun
import Derived.Maps.Keyed
import Derived.WideKeyEntry
import Derived.Maps.OwnRows
import Derived.Maps.Range
import Derived.Laws.BytesArg
import Derived.Laws.BytesString
import Derived.Lib.SlicesS
open Array renaming replicate->cB
open BitVec renaming ofInt->de
open Go.AllReadyH renaming cons->bX,nil->cN
open Go.IntWalk renaming i64_in->bq
open Go.RowKit.Below renaming refl->aE
open Go.World renaming size_alloc->bR,cell?_setCell_far->cK,size_setCell->cT
open List renaming replicate->bt,mem_map->bw,length_append->bE,length_map->bO,mem_cons->bS,mem_append->cv,range->cz,map_append->cA,length_cons->cD,map_cons->cE,mem_singleton->cG,length_take->cI,take_of_length_le->cL,nil_append->cP,append_assoc->cQ,nodup_cons->cR,getElem_mem->cS,size_toArray->cU,length_nil->cV,map_map->cW,getElem?_eq_getElem->cX,not_mem_nil->cY,length_drop->dk,map_congr_left->dp,getElem?_eq_some_iff->dq,drop_drop->dr,length_replicate->dx,range_succ->dz,eq_nil_of_length_eq_zero->ek
open Nat renaming le_refl->bp,le_trans->bB,zero_le->bN,lt_of_lt_of_le->cM,mul_one->da
open UInt8 renaming ofNat->bx,toNat_ofNat'->eh
open Go.Value renaming int->O,slice->an,tuple->ao,bool->aq
open Go.IntKind renaming i64->aa
open Go.Ending renaming returned->ar
open Go.RowKit renaming Hid->aL
open Go.Proofs.Tryz (prog)
set_option maxRecDepth 100000
set_option maxHeartbeats 16000000
namespace Go.Proofs
instance:Coe Nat Value:=⟨fun b=> .pointer (some ⟨b,0,none⟩)⟩
theorem ag {p} (h:p):RowKit.Hid p:=h
theorem aW {α} (a:α):∃x,x=a:=⟨_,rfl⟩
theorem Iu {α} (a:α):∃x,a=x:=⟨_,rfl⟩
theorem ae {p:Prop} (h:p:=by omega):p:=h
theorem au {p:Prop} (h:p:=by simp):p:=h
theorem az {p:Prop} (h:p:=by kernel_rfl):p:=h
theorem NV {p:Prop} (h:p:=by rfl):p:=h
theorem aB {p:Prop} (h:p:=by decide):p:=h
theorem iW {p:Prop} (h:p:=by decide+kernel):p:=h
theorem mP {p:Prop} (h:p:=by assumption):p:=h
theorem _root_.Go.RowKit.Hid.o {p} (h:RowKit.Hid p):p:=h
instance (X i:Nat):CoeDep (Nat×Nat) (X,i) Addr:=⟨⟨X,i,none⟩⟩
instance (X i:Nat):CoeDep (Nat×Nat) (X,i) (Option Addr):=⟨some ⟨X,i,none⟩⟩
instance (X i:Nat):CoeDep (Nat×Nat) (X,i) Value:=⟨.pointer (some ⟨X,i,none⟩)⟩
instance:Coe World Nat:=⟨λw=>w.heap.size⟩
theorem bA w o:RowKit.Below w.heap.size w (w.alloc o):=(RowKit.Below.refl w.heap.size w).alloc (Nat.le_refl _) o
theorem av {n:Nat}:n<=n:=Nat.le_refl n
universe u
theorem eo {c:Prop} {h:Decidable c} (n:¬c) {α:Sort u} {t e:α}:ite c t e=e:=if_neg n
theorem ev {c:Prop} {h:Decidable c} (n:c) {α:Sort u} {t e:α}:ite c t e=t:=if_pos n
theorem ew {α:Type u} [BEq α] [LawfulBEq α] {a b:α}:(a==b)=false↔a≠b:=beq_eq_false_iff_ne
theorem ey {p:Prop} [Decidable p]:¬p->decide p=false:=decide_eq_false
theorem ez {p:Prop} [Decidable p]:p->decide p=true:=decide_eq_true
instance (X:World) (i:Nat):CoeDep (World×Nat) (X,i) Addr:=⟨⟨X.heap.size,i,none⟩⟩
instance (X:World) (i:Nat):CoeDep (World×Nat) (X,i) (Option Addr):=⟨some ⟨X.heap.size,i,none⟩⟩
instance (X:World) (i:Nat):CoeDep (World×Nat) (X,i) Value:=⟨.pointer (some ⟨X.heap.size,i,none⟩)⟩
def bc:Nat:=0
def bh:Nat:=0
def bj:Nat:=0
def bm:Nat:=0
instance:CoeDep Nat bc (Array Value):=⟨#[.int .i64 0,.int .i64 0,.int .i64 0,.int .i64 0,.int .i64 0,.int .i64 0,.int .i64 0,.int .i64 0,.int .i64 0,.int .i64 0,.int .i64 0]⟩
instance:CoeDep Nat bh (Array Value):=⟨#[.int .i64 2,.int .i64 1,.int .i64 0,.int .i64 0,.int .i64 0,.int .i64 0,.int .i64 0,.int .i64 0,.int .i64 0,.int .i64 0,.int .i64 0]⟩
instance:CoeDep Nat bj (Array Value):=⟨#[.int .i64 0,.int .u32 0,.int .u64 0,.int .u64 0]⟩
instance:CoeDep Nat bm (Array Value):=⟨#[.int .i64 0,.int .i64 0,.slice none 0 0]⟩
theorem cn {p q:Prop} (xp:p) (xq:q):RowKit.Hid p/\RowKit.Hid q:=⟨xp,xq⟩
theorem cp {p q r:Prop} (xp:p) (xq:q) (xr:r):RowKit.Hid p/\RowKit.Hid q/\RowKit.Hid r:=⟨xp,xq,xr⟩
theorem cr {p q r s:Prop} (xp:p) (xq:q) (xr:r) (xs:s):RowKit.Hid p/\RowKit.Hid q/\RowKit.Hid r/\RowKit.Hid s:=⟨xp,xq,xr,xs⟩
theorem ct {p q r s t:Prop} (xp:p) (xq:q) (xr:r) (xs:s) (xt:t):RowKit.Hid p/\RowKit.Hid q/\RowKit.Hid r/\RowKit.Hid s/\RowKit.Hid t:=⟨xp,xq,xr,xs,xt⟩
def aw (x i:Nat):Nat×Nat:=(x,i)
instance (X i:Nat):CoeDep (Nat×Nat) (aw X i) Addr:=⟨⟨X,i,none⟩⟩
instance (X i:Nat):CoeDep (Nat×Nat) (aw X i) (Option Addr):=⟨some ⟨X,i,none⟩⟩
instance (X i:Nat):CoeDep (Nat×Nat) (aw X i) Value:=⟨.pointer (some ⟨X,i,none⟩)⟩
class aM (p:Prop) (q:outParam Prop):Prop where h:p->q
instance (priority:=low) {p}:aM p (RowKit.Hid p):=⟨id⟩
instance {α} {a b:α}:aM (a=b) (a=b):=⟨id⟩
instance {p p' q q'} [aM p p'] [aM q q']:aM (p/\q) (p'/\q'):=⟨λh=>⟨aM.h h.1,aM.h h.2⟩⟩
instance {p p' q q'} [aM p p'] [aM q q']:aM (p\/q) (p'\/q'):=⟨λh=>h.elim (λa=>.inl (aM.h a)) λa=>.inr (aM.h a)⟩
instance {α} {p q:α->Prop} [∀x,aM (p x) (q x)]:aM (∃x,p x) (∃x,q x):=⟨λ⟨x,h⟩=>⟨x,aM.h h⟩⟩
theorem aR {p q} [aM p q] (h:p):q:=aM.h h
theorem _root_.Go.Calls.cg {P f a w R H} [i:∀e w',aM (R e w') (H e w')] (h:Calls P f a w R):Calls P f a w H:=h.mono λe w' h=>(i e w').h h
theorem _root_.Go.Calls.cj {P f a w v} {R:Ending->World->Prop} (h:Calls P f a w λe w'=>e=v/\w=w') (k:R v w):Calls P f a w R:=h.mono λ_ _ ⟨a,b⟩=>a▸b▸k
end Go.Proofs
namespace Go.Proofs.YtnieckfelfoopaaGreat
open Lib (hid)
section
open RowKit
theorem mM {n} x:de n x.toNat=x:=by rw[BitVec.ofInt_natCast,BitVec.ofNat_toNat,BitVec.setWidth_eq]
theorem mO (x y:BitVec 32):bits .xor .u32 x.toNat y.toNat=(x^^^y).toNat:=by show IntKind.u32.wrap ((de 32 (x.toNat:Int)^^^de 32 (y.toNat:Int)).toNat:Int)=_;rw[mM,mM,IntKind.wrap_u32'];grind[mM]
theorem Di (x y:BitVec 32):bits .and .u32 x.toNat y.toNat=(x&&&y).toNat:=by show IntKind.u32.wrap ((de 32 (x.toNat:Int)&&&de 32 (y.toNat:Int)).toNat:Int)=_;rw[mM,mM,IntKind.wrap_u32'];grind[mM]
theorem abB (x:BitVec 32) n:x.toNat/(2^n:Nat)=((x>>>n).toNat:Int):=by rw[BitVec.toNat_ushiftRight,Nat.shiftRight_eq_div_pow,Int.natCast_ediv]
theorem Dj (x:BitVec 32):x.toNat/(2:Int)=(x>>>1).toNat:=abB x 1
theorem Vy (b:UInt8):b.toNat=((b.toBitVec.setWidth 32).toNat:Int):=by simp_all
theorem Vz (x:BitVec 32):bits .xor .u32 IntKind.u32.max x.toNat=(~~~x).toNat:=by have e:IntKind.u32.max=((BitVec.allOnes 32).toNat:Int):=aB;rw[e,mO,BitVec.allOnes_xor]
theorem abC (x:BitVec 32):4294967295-x.toNat=((~~~x).toNat:Int):=by have:=x.isLt;rw[BitVec.toNat_not];omega
theorem zL (a:Nat) (ha:a<9223372036854775808):(de 64 a).toNat=a:=by rw[BitVec.ofInt_natCast,BitVec.toNat_ofNat];exact Nat.mod_eq_of_lt ae
theorem _root_.Go.RowKit.Below.aA {w w1 w2} (h:Below w.heap.size w w1) (k:Below w1 w1 w2):Below w w w2:=h.trans (k.mono h.size)
def jq {α:Type} (f:α->Value) (w:World) (B:Nat) (a:Option Addr) (n:Nat) (xs:List α):=
 xs.length=n/\n<=140737488351232/\(n≠0->∃b o,a=some ⟨b,o,none⟩/\b<B/\∀i h,w.cell? (aw b (o+i))=some (f xs[i]))
def aJ (x:UInt8):Value:=O .u8 x.toNat
def kC (x:Int):Value:=O aa x
theorem Kz x:aJ x=O .u8 x.toNat:=rfl
theorem aj9 x:kC x=O aa x:=rfl
attribute [go_sem] Kz aj9
abbrev Bytes:=jq aJ
section
variable {α:Type} {f:α->Value} {w w':World} {B B':Nat} {a:Option Addr} {n:Nat} {xs:List α}
theorem jq.len (h:jq f w B a n xs):xs.length=n:=h.1
theorem jq.room (h:jq f w B a n xs):n<=140737488351232:=h.2.1
theorem jq.YJ (h:jq f w B a n xs) {k} (hk:k<n):
  ∃b o,∃h',a=some ⟨b,o,none⟩/\b<B/\w.cell? (aw b (o+k))=some (f xs[k]):=by grind[jq]
theorem jq.keep (h:jq f w B a n xs) (hk:∀b o,b<B->w'.cell? ⟨b,o,none⟩=w.cell? (aw b o)):jq f w' B a n xs:=by grind[jq]
theorem jq.below (h:jq f w B a n xs) (hb:Below B w w'):jq f w' B a n xs:=h.keep λb o aT=>hb.cell (p:=⟨b,o,none⟩) aT
theorem jq.mono (h:jq f w B a n xs) (hB:B<=B'):jq f w B' a n xs:=by grind[jq]
theorem jq.on (h:jq f w w a n xs) (hb:Below w w w'):jq f w' w' a n xs:=(h.below hb).mono hb.size
theorem jq.none_ w B a:jq f w B a 0 []:=⟨rfl,ae,λh=>absurd rfl h⟩
theorem jq.alloc (h:jq f w w a n xs) o:jq f (w.alloc o) (w.alloc o).heap.size a n xs:=h.on ((aE _ _).alloc av o)
theorem jq.take (h:jq f w B a n xs) {k} (hk:k<=n):jq f w B a k (xs.take k):=by grind[jq]
end
theorem jq.at_ {w B a n xs} (h:Bytes w B a n xs) {k} (hk:k<n):
  ∃b o,∃h',a=some ⟨b,o,none⟩/\b<B/\w.cell? (aw b (o+k))=some (O .u8 xs[k].toNat):=h.YJ hk
def aF (w:World) (g:Nat) t cs:=w.heap[g]?=some (.cells cs t (0,0))
section
variable {w w':World} {g:Nat} {t:TypeId} {cs:Array Value}
theorem aF.lt (h:aF w g t cs):g<w:=by grind[aF]
theorem aF.cell (h:aF w g t cs) i:w.cell? ⟨g,i,none⟩=cs[i]?:=cell_of_row w g i cs t (0,0) h
theorem aF.aj (h:aF w g t cs) {i v} (hv:cs[i]?=some v):w.cell? ⟨g,i,none⟩=some v:=(h.cell i).trans hv
theorem aF.c11 {a0 a1 a2 a3 a4 a5 a6 a7 a8 a9 a10} (h:aF w g t cs) (h0:cs[0]?=some a0:=by exact rfl) (h1:cs[1]?=some a1:=by exact rfl) (h2:cs[2]?=some a2:=by exact rfl) (h3:cs[3]?=some a3:=by exact rfl) (h4:cs[4]?=some a4:=by exact rfl) (h5:cs[5]?=some a5:=by exact rfl) (h6:cs[6]?=some a6:=by exact rfl) (h7:cs[7]?=some a7:=by exact rfl) (h8:cs[8]?=some a8:=by exact rfl) (h9:cs[9]?=some a9:=by exact rfl) (J6:cs[10]?=some a10:=by exact rfl):w.cell? (g,0)=some a0/\w.cell? (g,1)=some a1/\w.cell? (g,2)=some a2/\w.cell? (g,3)=some a3/\w.cell? (g,4)=some a4/\w.cell? (g,5)=some a5/\w.cell? (g,6)=some a6/\w.cell? (g,7)=some a7/\w.cell? (g,8)=some a8/\w.cell? (g,9)=some a9/\w.cell? (g,10)=some a10:=by grind[aF.aj]
theorem aF.c6 {a0 a1 a2 a3 a4 a5} (h:aF w g t cs) (h0:cs[0]?=some a0:=by exact rfl) (h1:cs[1]?=some a1:=by exact rfl) (h2:cs[2]?=some a2:=by exact rfl) (h3:cs[3]?=some a3:=by exact rfl) (h4:cs[4]?=some a4:=by exact rfl) (h5:cs[5]?=some a5:=by exact rfl):w.cell? (g,0)=some a0/\w.cell? (g,1)=some a1/\w.cell? (g,2)=some a2/\w.cell? (g,3)=some a3/\w.cell? (g,4)=some a4/\w.cell? (g,5)=some a5:=⟨h.aj h0,h.aj h1,h.aj h2,h.aj h3,h.aj h4,h.aj h5⟩
theorem aF.c4 {a0 a1 a2 a3} (h:aF w g t cs) (h0:cs[0]?=some a0:=by exact rfl) (h1:cs[1]?=some a1:=by exact rfl) (h2:cs[2]?=some a2:=by exact rfl) (h3:cs[3]?=some a3:=by exact rfl):w.cell? (g,0)=some a0/\w.cell? (g,1)=some a1/\w.cell? (g,2)=some a2/\w.cell? (g,3)=some a3:=⟨h.aj h0,h.aj h1,h.aj h2,h.aj h3⟩
theorem aF.c3 {a0 a1 a2} (h:aF w g t cs) (h0:cs[0]?=some a0:=by exact rfl) (h1:cs[1]?=some a1:=by exact rfl) (h2:cs[2]?=some a2:=by exact rfl):w.cell? (g,0)=some a0/\w.cell? (g,1)=some a1/\w.cell? (g,2)=some a2:=⟨h.aj h0,h.aj h1,h.aj h2⟩
theorem aF.frozen (h:aF w g t cs) i:w.frozen? ⟨g,i,none⟩=false:=frozen_of_row w g i cs t h
theorem aF.new (w:World) t cs:aF (w.alloc (.cells cs t)) w t cs:=heap_alloc_new w _
theorem aF.drew (h:aF w g t cs):aF w.drew g t cs:=h
theorem aF.alloc (h:aF w g t cs) o:aF (w.alloc o) g t cs:=(Below.heap_alloc w o g h.lt).trans h
theorem aF.set (h:aF w g t cs) i u:aF (w.setCell (g,i) u) g t (cs.setIfInBounds i u):=heap_setCell_same w g i cs t u h
theorem aF.far (h:aF w g t cs) {p} (hp:g≠p.block) u:aF (w.setCell p u) g t cs:=(heap_setCell_other w p g u hp).trans h
theorem aF.below {B} (h:aF w g t cs) (hb:Below B w w') (hg:g<B):aF w' g t cs:=(hb.block g hg).trans h
theorem aF.ah (h:aF w g t cs) (hb:Below w w w'):aF w' g t cs:=h.below hb h.lt
theorem aF.grown {row} (h:aF w g t cs) (hb:w.grownBy w' row) (hg:some g≠row):aF w' g t cs:=(hb.block g h.lt hg).trans h
theorem aF.row (h:aF w g t cs) cs':aF (w.setRow g cs') g t cs':=setRow_heap w g cs cs' t _ h
theorem aF.apd (h:aF w g t cs) {g'} (di:g≠g') cs':aF (w.setRow g' cs') g t cs:=(setRow_other w g' g cs' di).trans h
theorem _root_.Go.RowKit.Below.bU {B a w} (h:Below B a w) {g} (hg:B<=g) cs:Below B a (w.setRow g cs):=
 h.trans ⟨rfl,rfl,rfl,au,λk hk=>setRow_other _ _ _ _ ae⟩
end
theorem Iy {w:World} {p} (h:(w.cell? p).isSome=true):p.block<w:=by obtain⟨v,hv⟩:=Option.isSome_iff_exists.1 h;exact block_lt_of_cell hv
theorem jq.aka {α f w B n b o} {xs:List α} (h:jq f w B (some ⟨b,o,none⟩) n xs) {p} (di:b≠p.block) u:jq f (w.setCell p u) B (b,o) n xs:=by obtain⟨h1,h2,h3⟩:=h;refine⟨h1,h2,λhn=>?_⟩;obtain⟨b',o',ha,aT,hc⟩:=h3 hn;simp only[Option.some.injEq,Addr.mk.injEq,and_true] at ha;obtain⟨rfl,rfl⟩:=ha;exact⟨b,o,rfl,aT,λi hi=>(cK w p (aw b (o+i)) u (Ne.symm di)).trans (hc i hi)⟩
theorem aH {P ops rest o a w Q} (mF:o.guard=none) (aAF:o.dst=none) ty x y (ho:o.op= .store ty x y)
  g cs' (hx:a.eval x= .pointer (some ⟨g,0,none⟩)) (hy:a.eval y= .agg cs') t cs (hg:aF w g t cs) (hs:cs.size=cs'.size)
  (hi:(P.info? ty).map (·.size)=some cs'.size) (h1:cs'.all (·.oneCell')=true)
  (h:wpList P ops Q rest a (w.setRow g cs')):wpList P ops Q (o::rest) a w:=
 wpList_store_row mF ty x y ho g cs' hx hy t cs hg hi hs h1 (by rw[aAF];exact h)
theorem aP:(∀ts ds i v,Act.put ⟨ts,ds⟩ (some i) v=⟨ts.setIfInBounds i v,ds⟩)/\(∀a v,Act.put a none v=a)/\(∀(xs:List Value) i x,xs.toArray.setIfInBounds i x=(xs.set i x).toArray)/\
  (∀x y (xs:List Value),(x::xs).set 0 y=y::xs)/\(∀x y (xs:List Value) n,(x::xs).set (n+1) y=x::xs.set n y):=
 ⟨λ_ _ _ _=>rfl,λ_ _=>rfl,λ_ _ _=>au,λ_ _ _=>rfl,λ_ _ _ _=>rfl⟩
section
variable {P:Program} {md:Region.Mode} {ops:Array Oper} {Q:Exit->Act->World->Prop} {S:World->Prop} {oi:Oper} {v:Value} {fuel:Nat} {bK:Array Bool} {a a':Act} {w:World}
theorem Dk i (hi:ops.toList[i]?=some oi) (hs:Region.noSelect ops=true) (hf:Region.free md ops bK i=true) (hr:(Region.ready md ops bK).contains i=true)
  (hQ:∀c a w,Q (.panic c) (a.put oi.dst v) w->Q (.panic c) a w) (hw:Region.wanted oi (yielded ops a.tmps)=true) (hv:∀w,S w->(execOp a.eval oi).run P w= .ok (.value v) w) (hS:S w)
  (h:wpAnyH P md ops Q S fuel (bK.setIfInBounds i true) (a.put oi.dst v) w):wpAnyH P md ops Q S (fuel+1) bK a w:=
 wpAnyH_take (by rw[<-Array.getElem?_toList];exact hi) hs hf hr hQ (.inl ⟨hw,hv⟩) hS h
theorem ape i (hi:ops.toList[i]?=some oi) (hs:Region.noSelect ops=true) (hf:Region.free md ops bK i=true) (hr:(Region.ready md ops bK).contains i=true)
  (hQ:∀c a w,Q (.panic c) (a.put oi.dst undef) w->Q (.panic c) a w) (hw:Region.wanted oi (yielded ops a.tmps)=false) (hS:S w)
  (h:wpAnyH P md ops Q S fuel (bK.setIfInBounds i true) (a.put oi.dst undef) w):wpAnyH P md ops Q S (fuel+1) bK a w:=
 wpAnyH_take (by rw[<-Array.getElem?_toList];exact hi) hs hf hr hQ (.inr ⟨hw,rfl⟩) hS h
theorem jE i v (hi:ops.toList[i]?=some oi) (hv:∀w,S w->(execOp a.eval oi).run P w= .ok (.value v) w) (h:wpAnyH P md ops Q S fuel (bK.setIfInBounds i true) a' w) (hs:Region.noSelect ops=true:=by kernel_rfl) (hf:Region.free md ops bK i=true:=by kernel_rfl) (hr:(Region.ready md ops bK).contains i=true:=by kernel_rfl) (hQ:∀c a w,Q (.panic c) (a.put oi.dst v) w->Q (.panic c) a w:=by exact λ_ _ _ h=>h) (hw:Region.wanted oi (yielded ops a.tmps)=true:=by rfl) (hS:S w:=by assumption) (ha:a.put oi.dst v=a':=by(try simp only[aP]);exact rfl):wpAnyH P md ops Q S (fuel+1) bK a w:=Dk i hi hs hf hr hQ hw hv hS (by rw[ha];exact h)
theorem dG i v (h:wpAnyH P md ops Q S fuel (bK.setIfInBounds i true) a' w) (hi:ops.toList[i]?=some oi:=by exact rfl) (hs:Region.noSelect ops=true:=by kernel_rfl) (hf:Region.free md ops bK i=true:=by kernel_rfl) (hr:(Region.ready md ops bK).contains i=true:=by kernel_rfl) (hQ:∀c a w,Q (.panic c) (a.put oi.dst v) w->Q (.panic c) a w:=by exact λ_ _ _ h=>h) (hw:Region.wanted oi (yielded ops a.tmps)=true:=by rfl) (hv:∀w,S w->(execOp a.eval oi).run P w= .ok (.value v) w:=by exact λ_ _=>rfl) (hS:S w:=by assumption) (ha:a.put oi.dst v=a':=by(try simp only[aP]);exact rfl):wpAnyH P md ops Q S (fuel+1) bK a w:=Dk i hi hs hf hr hQ hw hv hS (by rw[ha];exact h)
theorem eX i v (h:wpAnyH P md ops Q S fuel (bK.setIfInBounds i true) a' w) (hi:ops.toList[i]?=some oi:=by exact rfl) (hs:Region.noSelect ops=true:=by kernel_rfl) (hf:Region.free md ops bK i=true:=by kernel_rfl) (hr:(Region.ready md ops bK).contains i=true:=by kernel_rfl) (hQ:∀c a w,Q (.panic c) (a.put oi.dst v) w->Q (.panic c) a w:=by exact λ_ _ _ h=>h) (hw:Region.wanted oi (yielded ops a.tmps)=true:=by rfl) (hv:∀w,S w->(execOp a.eval oi).run P w= .ok (.value v) w:=by intro W aK;go_simp) (hS:S w:=by assumption) (ha:a.put oi.dst v=a':=by(try simp only[aP]);exact rfl):wpAnyH P md ops Q S (fuel+1) bK a w:=Dk i hi hs hf hr hQ hw hv hS (by rw[ha];exact h)
theorem dw i b d (h:wpAnyH P md ops Q S fuel (bK.setIfInBounds i true) a' w) (hi:ops.toList[i]?=some oi:=by exact rfl) (hs:Region.noSelect ops=true:=by kernel_rfl) (hf:Region.free md ops bK i=true:=by kernel_rfl) (hr:(Region.ready md ops bK).contains i=true:=by kernel_rfl) (hQ:∀c a w,Q (.panic c) (a.put oi.dst (.pointer (some ⟨b,d,none⟩))) w->Q (.panic c) a w:=by exact λ_ _ _ h=>h) (hw:Region.wanted oi (yielded ops a.tmps)=true:=by rfl) (hv:∀w,S w->(execOp a.eval oi).run P w= .ok (.value (.pointer (aw b d))) w:=by exact λ_ _=>rfl) (hS:S w:=by assumption) (ha:a.put oi.dst (b,d)=a':=by(try simp only[aP]);exact rfl):wpAnyH P md ops Q S (fuel+1) bK a w:=Dk i hi hs hf hr hQ hw hv hS (by rw[ha];exact h)
theorem aS i b d (h:wpAnyH P md ops Q S fuel (bK.setIfInBounds i true) a' w) (hi:ops.toList[i]?=some oi:=by exact rfl) (hs:Region.noSelect ops=true:=by kernel_rfl) (hf:Region.free md ops bK i=true:=by kernel_rfl) (hr:(Region.ready md ops bK).contains i=true:=by kernel_rfl) (hQ:∀c a w,Q (.panic c) (a.put oi.dst (.pointer (some ⟨b,d,none⟩))) w->Q (.panic c) a w:=by exact λ_ _ _ h=>h) (hw:Region.wanted oi (yielded ops a.tmps)=true:=by rfl) (hv:∀w,S w->(execOp a.eval oi).run P w= .ok (.value (.pointer (aw b d))) w:=by intro W aK;go_simp) (hS:S w:=by assumption) (ha:a.put oi.dst (b,d)=a':=by(try simp only[aP]);exact rfl):wpAnyH P md ops Q S (fuel+1) bK a w:=Dk i hi hs hf hr hQ hw hv hS (by rw[ha];exact h)
theorem dI i n (h:wpAnyH P md ops Q S fuel (bK.setIfInBounds i true) a' w) (hi:ops.toList[i]?=some oi:=by exact rfl) (hs:Region.noSelect ops=true:=by kernel_rfl) (hf:Region.free md ops bK i=true:=by kernel_rfl) (hr:(Region.ready md ops bK).contains i=true:=by kernel_rfl) (hQ:∀c a w,Q (.panic c) (a.put oi.dst (O aa n)) w->Q (.panic c) a w:=by exact λ_ _ _ h=>h) (hw:Region.wanted oi (yielded ops a.tmps)=true:=by rfl) (hv:∀w,S w->(execOp a.eval oi).run P w= .ok (.value (O aa n)) w:=by exact λ_ _=>rfl) (hS:S w:=by assumption) (ha:a.put oi.dst (O aa n)=a':=by(try simp only[aP]);exact rfl):wpAnyH P md ops Q S (fuel+1) bK a w:=Dk i hi hs hf hr hQ hw hv hS (by rw[ha];exact h)
theorem iR i n (h:wpAnyH P md ops Q S fuel (bK.setIfInBounds i true) a' w) (hi:ops.toList[i]?=some oi:=by exact rfl) (hs:Region.noSelect ops=true:=by kernel_rfl) (hf:Region.free md ops bK i=true:=by kernel_rfl) (hr:(Region.ready md ops bK).contains i=true:=by kernel_rfl) (hQ:∀c a w,Q (.panic c) (a.put oi.dst (O aa n)) w->Q (.panic c) a w:=by exact λ_ _ _ h=>h) (hw:Region.wanted oi (yielded ops a.tmps)=true:=by rfl) (hv:∀w,S w->(execOp a.eval oi).run P w= .ok (.value (O aa n)) w:=by intro W aK;go_simp) (hS:S w:=by assumption) (ha:a.put oi.dst (O aa n)=a':=by(try simp only[aP]);exact rfl):wpAnyH P md ops Q S (fuel+1) bK a w:=Dk i hi hs hf hr hQ hw hv hS (by rw[ha];exact h)
theorem kS i v {R:World->Prop} (hR:∀w,S w->R w) (h:wpAnyH P md ops Q S fuel (bK.setIfInBounds i true) a' w) (hi:ops.toList[i]?=some oi:=by exact rfl) (hs:Region.noSelect ops=true:=by kernel_rfl) (hf:Region.free md ops bK i=true:=by kernel_rfl) (hr:(Region.ready md ops bK).contains i=true:=by kernel_rfl) (hQ:∀c a w,Q (.panic c) (a.put oi.dst v) w->Q (.panic c) a w:=by exact λ_ _ _ h=>h) (hw:Region.wanted oi (yielded ops a.tmps)=true:=by rfl) (hv:∀w,R w->(execOp a.eval oi).run P w= .ok (.value v) w:=by intro W aK;go_simp) (hS:S w:=by assumption) (ha:a.put oi.dst v=a':=by(try simp only[aP]);exact rfl):wpAnyH P md ops Q S (fuel+1) bK a w:=Dk i hi hs hf hr hQ hw (λw h=>hv w (hR w h)) hS (by rw[ha];exact h)
theorem jV i n {R:World->Prop} (hR:∀w,S w->R w) (h:wpAnyH P md ops Q S fuel (bK.setIfInBounds i true) a' w) (hi:ops.toList[i]?=some oi:=by exact rfl) (hs:Region.noSelect ops=true:=by kernel_rfl) (hf:Region.free md ops bK i=true:=by kernel_rfl) (hr:(Region.ready md ops bK).contains i=true:=by kernel_rfl) (hQ:∀c a w,Q (.panic c) (a.put oi.dst (O aa n)) w->Q (.panic c) a w:=by exact λ_ _ _ h=>h) (hw:Region.wanted oi (yielded ops a.tmps)=true:=by rfl) (hv:∀w,R w->(execOp a.eval oi).run P w= .ok (.value (O aa n)) w:=by intro W aK;go_simp) (hS:S w:=by assumption) (ha:a.put oi.dst (O aa n)=a':=by(try simp only[aP]);exact rfl):wpAnyH P md ops Q S (fuel+1) bK a w:=Dk i hi hs hf hr hQ hw (λw h=>hv w (hR w h)) hS (by rw[ha];exact h)
theorem oD i (h:wpAnyH P md ops Q S fuel (bK.setIfInBounds i true) a' w) (hi:ops.toList[i]?=some oi:=by exact rfl) (hs:Region.noSelect ops=true:=by kernel_rfl) (hf:Region.free md ops bK i=true:=by kernel_rfl) (hr:(Region.ready md ops bK).contains i=true:=by kernel_rfl) (hQ:∀c a w,Q (.panic c) (a.put oi.dst undef) w->Q (.panic c) a w:=by exact λ_ _ _ h=>h) (hw:Region.wanted oi (yielded ops a.tmps)=false:=by rfl) (hS:S w:=by assumption) (ha:a.put oi.dst undef=a':=by(try simp only[aP]);exact rfl):wpAnyH P md ops Q S (fuel+1) bK a w:=ape i hi hs hf hr hQ hw hS (by rw[ha];exact h)
theorem bY i (h:∀K',Shut (∀a w,S w->(S w->wpAnyH P md ops Q S fuel (bK.setIfInBounds i true) a w)->K' a w)->if Region.wanted oi (yielded ops a.tmps)=true then Oper.wp P oi a w K' Q else K' (a.put oi.dst undef) w) (ho:ops[i]?=some oi:=by exact rfl) (hr:Region.ready md ops bK=[i]:=by kernel_rfl):wpAnyH P md ops Q S (fuel+1) bK a w:=wpAnyH_ready hr au (bX ho h cN)
theorem iE {id} S (hS:S w.drew) (h:S w.drew->wpAnyH P .any ops (NoPanic Q) S ops.size (cB ops.size false) a w.drew) (hm:P.follows .mixedOrders=true:=by kernel_rfl):(Code.region id ops true).wp P Q a w:=wp_region_noPanic (wp_region_held_drew hm hS h)
theorem eH (h:Q .normal a w) (hr:Region.ready md ops bK=[]:=by kernel_rfl):wpAnyH P md ops (NoPanic Q) S fuel bK a w:=wpAnyH_done hr (NoPanic.normal h) fuel
end
def Own {α:Type} (f:α->Value) (e:TypeId) (w:World) (base:Nat) (v:Value) (xs:List α):=w.ownsRow base e 1 v xs.length (xs.map f)
section
variable {α:Type} {f:α->Value} {e:TypeId} {w w':World} {base:Nat} {v:Value} {xs:List α}
theorem Own.nil w base:Own f e w base (an none 0 0) []:=World.ownsRow_nil w base e 1
theorem Own.form (h:Own f e w base v xs):∃a c,v=an a xs.length c/\xs.length<=c:=by
 rcases h.2 with⟨hv,hn⟩|⟨g,cap,cur,hv,_,_,hc,_⟩
 .grind
 .exact⟨_,cap,hv,hc⟩
theorem Own.bG {n} (h:Own f e w base v xs) (hn:xs.length=n):∃a c,v=an a n c/\n<=c:=by subst hn;exact h.form
theorem Own.jh (h:Own f e w base v xs) (hn:0<xs.length):∃g c,v=an (some ⟨g,0,none⟩) xs.length c/\xs.length<=c/\base<=g/\g<w:=by
 rcases h.2 with⟨_,h0⟩|⟨g,cap,cur,hv,jf,hg,hc,_⟩
 .omega
 grind
theorem Own.arr {a n c} (h:Own f e w base (an a n c) xs) (hb:xs.length<=140737488351232):jq f w w a n xs:=by
 rcases h.2 with⟨hv,hn⟩|⟨g,cap,cur,hv,_,hg,hc,_,hs,ht⟩
 .grind[jq]
 .injection hv with h1 h2 h3
  subst h1;refine⟨h2.symm,ae,λ_=>⟨g,0,rfl,?_,λi hi=>?_⟩⟩
  .grind
  .rw[cell_of_row w g (0+i) cur e (0,0) hg];have h5:(xs.map f)[i]?=some (f xs[i]):=by grind
   grind
theorem Own.below {B} (h:Own f e w base v xs) (hb:Below B w w') (hB:w<=B):Own f e w' base v xs:=by
 refine⟨h.1,?_⟩;rcases h.2 with h2|⟨g,cap,cur,hv,jf,hg,r⟩
 .exact Or.inl h2
 .refine Or.inr ⟨g,cap,cur,hv,jf,?_,r⟩;have aT:g<w.heap.size:=by
   grind
  exact(hb.block g ae).trans hg
theorem Own.on (h:Own f e w base v xs) (hb:Below w w w'):Own f e w' base v xs:=h.below hb av
theorem Own.alloc (h:Own f e w base v xs) o:Own f e (w.alloc o) base v xs:=h.on ((aE _ _).alloc av o)
theorem Own.drew (h:Own f e w base v xs):Own f e w.drew base v xs:=h
theorem Own.grown {row} (h:Own f e w base v xs) (hg:w.grownBy w' row) (di:v.ownBlock=none\/v.ownBlock≠row):Own f e w' base v xs:=World.ownsRow.kept h hg di
theorem Own.mono {base'} (h:Own f e w base v xs) (hb:base'<=base):Own f e w base' v xs:=by
 refine⟨h.1,?_⟩;rcases h.2 with h2|⟨g,cap,cur,hv,jf,r⟩
 .exact Or.inl h2
 .exact Or.inr ⟨g,cap,cur,hv,ae,r⟩
theorem Own.aN (h:Own f e w base v xs):∀k,v.ownBlock=some k->base<=k/\k<w:=World.ownsRow.lt h
theorem Own.made (dE:base<=w) (hm:xs.length<=maxLen):Own f e (w.alloc (.cells (xs.map f).toArray e)) base (an (w,0) xs.length xs.length) xs:=
 ⟨au,.inr ⟨w.heap.size,xs.length,_,rfl,dE,heap_alloc_new w _,bp _,hm,au,by simp[cL]⟩⟩
theorem Own.cell {a n c} (h:Own f e w base (an (some a) n c) xs) {k} hk:
  ∃g,a=⟨g,0,none⟩/\base<=g/\g<w/\w.cell? ⟨g,k,none⟩=some (f xs[k])/\w.frozen? (aw g k)=false:=by
 rcases h.2 with⟨hv,hn⟩|⟨g,cap,cur,hv,jf,hg,hc,_,hs,ht⟩
 .cases hv
 .injection hv with h1 h2 h3
  injection h1 with h1
  refine⟨g,h1,jf,?_,?_,frozen_of_row w g k cur e hg⟩
  .grind
  .rw[cell_of_row w g k cur e (0,0) hg];have h5:(xs.map f)[k]?=some (f xs[k]):=by grind
   grind
theorem Own.addr {a n c} (h:Own f e w base (an a n c) xs) (hn:0<xs.length):∃g,a=some ⟨g,0,none⟩/\base<=g/\g<w:=by
 obtain⟨g,c',hv,_,h1,h2⟩:=h.jh hn;injection hv with h3
 exact⟨g,h3,h1,h2⟩
theorem Own.dU {g n c} (h:Own f e w base (an (some ⟨g,0,none⟩) n c) xs) {k} hk:
  w.cell? ⟨g,k,none⟩=some (f xs[k])/\w.frozen? (g,k)=false:=by grind[Own.cell]
theorem Own.set {g n c} (h:Own f e w base (an (some ⟨g,0,none⟩) n c) xs) k x:
  Own f e (w.setCell (g,k) (f x)) base (an (g,0) n c) (xs.set k x):=by
 refine⟨au,?_⟩;rcases h.2 with⟨hv,hn⟩|⟨g',cap,cur,hv,jf,hg,hc,hm,hs,ht⟩
 .cases hv
 .injection hv with h1 h2 h3
  injection h1 with h1
  injection h1 with h1
  subst h1 h3;refine Or.inr ⟨g,c,cur.setIfInBounds k (f x),by rw[h2,List.length_set],jf,heap_setCell_same w g k cur e (f x) hg,by grind,hm,by simpa using hs,?_⟩;grind[List.map_set,List.take_set]
theorem Own.far (h:Own f e w base v xs) {p} (hp:v.ownBlock≠some p.block) u:Own f e (w.setCell p u) base v xs:=by
 refine⟨h.1,?_⟩;rcases h.2 with h2|⟨g,cap,cur,hv,jf,hg,r⟩
 .exact Or.inl h2
 .refine Or.inr ⟨g,cap,cur,hv,jf,?_,r⟩;rw[heap_setCell_other w p g u (λe=>hp (by rw[hv];simp[Value.ownBlock,e]))];exact hg
end
section
variable {P:Program} {α:Type} {f:α->Value}
theorem yA w base t ty e i z bytes (ht:P.underlying t=some (.slice e)) (hi:P.info? e=some i) (hz:i.zero=some z)
  (oU:i.size=1) (hby:i.bytes=bytes) (hzs:z.cells.size=1) (hf:∀x,(f x).oneCell'=true)
  v xs (bz:Own f e w base v xs) B a m c ys (hy:jq f w B a m ys)
  (fB:(xs.length+m)*bytes<=140737488355328) (h63:xs.length+m<=maxLen) (dE:base<=w):
  ∃v' w',(Builtin.append_ #[t,t] ty #[v,an a m c]).run P w= .ok v' w'/\Own f e w' base v' (xs++ys)/\w.grownBy w' v.ownBlock/\(v'.ownBlock=v.ownBlock\/v'.ownBlock=some w.heap.size):=by
 have hlen:=hy.len;by_cases hm:m=0
 .subst hm;have hn:ys=[]:=ek hlen;subst hn;refine⟨v,w,?_,by simpa using bz,World.grownBy.refl w _,.inl rfl⟩;rcases bz.2 with⟨rfl,hn⟩|⟨g,cap,cur,rfl,_,_,uD,_⟩
  .cases a<;>simp[Builtin.append_,run_underlying ht,sizeOf,typeInfo,hi,Builtin.lenOf,Builtin.firstCells,loadCells,loadCellsFrom]
  .cases a<;>simp[Builtin.append_,run_underlying ht,sizeOf,typeInfo,hi,Builtin.lenOf,Builtin.firstCells,loadCells,loadCellsFrom,uD,storeCells]
 .obtain⟨b,o,rfl,_,hc⟩:=hy.2.2 hm;obtain⟨v',w',bF,h2,h3,_,h5⟩:=run_append_own_at (P:=P) w base t ty e i z 1 bytes ht hi hz oU hby hzs ae v xs.length (xs.map f) bz (b,o) m c (ys.map f) (by simp[hlen])
   (λj u hu=>by
    rw[List.getElem?_map] at hu
    cases hj:ys[j]? with
    |none=>rw[hj] at hu;cases hu
    |some y=>
     rw[hj] at hu;injection hu with hu
     subst hu;obtain⟨vJ,hje⟩:=dq.1 hj;rw[Addr.add_mid,hc j vJ,hje])
   (λu hu=>by obtain⟨x,_,rfl⟩:=bw.1 hu;exact hf x) h63 fB dE
  refine⟨v',w',bF,?_,h3,h5⟩;unfold Own;rw[bE,cA,hlen];exact h2
theorem uJ {w} {o:Oper} {ac K Q} s x t
  (ho:o.op= .call {callee:= .builtin .append,args:=#[s,x],argTypes:=#[t,t]})
  base e i z bytes (ht:P.underlying t=some (.slice e)) (hi:P.info? e=some i) (hz:i.zero=some z)
  (oU:i.size=1) (hby:i.bytes=bytes) (hzs:z.cells.size=1) (hf:∀x,(f x).oneCell'=true)
  v xs (hs:ac.eval s=v) (bz:Own f e w base v xs) B a m c ys (hx:ac.eval x=an a m c) (hy:jq f w B a m ys)
  (fB:(xs.length+m)*bytes<=140737488355328) (h63:xs.length+m<=maxLen) (dE:base<=w)
  (h:∀v' w',Own f e w' base v' (xs++ys)->w.grownBy w' v.ownBlock->(v'.ownBlock=v.ownBlock\/v'.ownBlock=some w.heap.size)->K (ac.put o.dst v') w'):o.wp P ac w K Q:=by
 obtain⟨v',w',bF,h2,h3,h4⟩:=yA (P:=P) w base t o.type e i z bytes ht hi hz oU hby hzs hf v xs bz B a m c ys hy fB h63 dE;unfold Oper.wp execOp;simp only[ho,resolve,invoke,builtin,Sem.run_bind,Sem.run_pure,Result.andThen_ok,List.map_toArray,cE,List.map_nil,hs,hx,bF];exact h v' w' h2 h3 h4
theorem Dl {w ops rest o ac Q} (mF:o.guard=none) s x t
  (ho:o.op= .call {callee:= .builtin .append,args:=#[s,x],argTypes:=#[t,t]})
  base e i z bytes (ht:P.underlying t=some (.slice e)) (hi:P.info? e=some i) (hz:i.zero=some z)
  (oU:i.size=1) (hby:i.bytes=bytes) (hzs:z.cells.size=1) (hf:∀x,(f x).oneCell'=true)
  v xs (hs:ac.eval s=v) (bz:Own f e w base v xs) B a m c ys (hx:ac.eval x=an a m c) (hy:jq f w B a m ys)
  (fB:(xs.length+m)*bytes<=140737488355328) (h63:xs.length+m<=maxLen) (dE:base<=w)
  (h:∀v' w',Own f e w' base v' (xs++ys)->w.grownBy w' v.ownBlock->(v'.ownBlock=v.ownBlock\/v'.ownBlock=some w.heap.size)->wpList P ops Q rest (ac.put o.dst v') w'):wpList P ops Q (o::rest) ac w:=
 wpList_plain mF λ_ hK=>uJ s x t ho base e i z bytes ht hi hz oU hby hzs hf v xs hs bz B a m c ys hx hy fB h63 dE λv' w' h2 h3 h4=>hK _ _ (h v' w' h2 h3 h4)
end
theorem Own.akb {α f e} {w:World} {base g n} {xs:List α} (hg:g=w.heap.size) (hn:xs.length=n) (dE:base<=w.heap.size) (hm:n<=maxLen):
  Own f e (w.alloc (.cells (xs.map f).toArray e)) base (an (g,0) n n) xs:=by
 subst hg hn;exact Own.made dE hm
theorem qL x:(aJ x).oneCell'=true:=rfl
theorem afF x:(kC x).oneCell'=true:=rfl
theorem jq.lit {α f} (w:World) e (xs:List α) n (hn:xs.length=n) (hb:n<=140737488351232) {cs} (gm:cs=(xs.map f).toArray):
  jq f (w.alloc (.cells cs e)) (w.alloc (.cells cs e)).heap.size (w,0) n xs:=by
 subst gm;refine⟨hn,hb,λ_=>⟨w.heap.size,0,rfl,au,λi hi=>?_⟩⟩;rw[cell_of_row _ _ _ _ _ _ (heap_alloc_new w _),Nat.zero_add];simp[hi]
def iQ (a:Option Addr) c l:=if c=l then a else a.map (·.add l)
theorem jq.drop {α f w B a n c} {xs:List α} (h:jq f w B a n xs) {l} (hl:l<=n) (hc:n<=c):jq f w B (iQ a c l) (n-l) (xs.drop l):=by
 obtain⟨h1,h2,h3⟩:=h;refine⟨by grind,ae,λhn=>?_⟩;obtain⟨b,o,ha,aT,rC⟩:=h3 ae;refine⟨b,o+l,?_,aT,λi hi=>?_⟩
 .rw[iQ,eo ae,ha];exact congrArg some (Addr.add_mid b o l)
 grind
section
variable {P:Program} {t e:TypeId} {i:TypeInfo}
theorem Rx (ht:P.underlying t=some (.slice e)) (hi:P.info? e=some i) (hs:i.size=1) a n c l (hl:l<=n) w:
  (Instr.slice t (an a n c) (some (O aa l)) none none).run P w= .ok (an (iQ a c l) (n-l) (c-l)) w:=by
 have h0:(0:Int)<=(l:Int):=ae;have h1:(l:Int)<=((n:Nat):Int):=ae;simp[Instr.slice,run_underlying ht,sizeOf,typeInfo,hi,hs,Instr.sliceBounds,go_sem,h0,h1,iQ]
theorem Zp (ht:P.underlying t=some (.slice e)) (hi:P.info? e=some i) a n c h (hl:h<=c) w:
  (Instr.slice t (an a n c) none (some (O aa h)) none).run P w= .ok (an a h c) w:=by
 have h0:(0:Int)<=(h:Int):=ae;have h1:(h:Int)<=((c:Nat):Int):=ae;simp[Instr.slice,run_underlying ht,sizeOf,typeInfo,hi,Instr.sliceBounds,go_sem,h0,h1]
theorem VA (ht:P.underlying t=some (.slice e)) (hi:P.info? e=some i) (hs:i.size=1) a n c l h (hl:l<=h) (hh:h<=c) w:
  (Instr.slice t (an a n c) (some (O aa l)) (some (O aa h)) none).run P w= .ok (an (iQ a c l) (h-l) (c-l)) w:=by
 have h0:(0:Int)<=(l:Int):=ae;have h2:(h:Int)<=((c:Nat):Int):=ae;have h3:(0:Int)<=(h:Int):=ae;simp[Instr.slice,run_underlying ht,sizeOf,typeInfo,hi,hs,Instr.sliceBounds,go_sem,h0,h2,h3,hl,iQ]
end
theorem kD {α f e w0 w w' base v} {xs:List α} (hb:Below base w0 w) (bz:Own f e w base v xs) (hg:w.grownBy w' v.ownBlock) (hB:base<=w):Below base w0 w':=
 hb.grown hg hB (λk hk=>(bz.aN k hk).1)
theorem KA:(prog.info? 5).map (λi=>(i.zero,i.size,i.bytes))=some (some (O .u8 0),1,1):=az
theorem AP v n:madeCells #[v] n=(bt n v).toArray:=by unfold madeCells;apply Array.ext au;intro i h1 h2;simp[Nat.mod_one]
theorem aun (n:Nat) (h:n<=140737488355328) u:(Instr.makeSlice 23 (O aa n) (O aa n)).run prog u=
  .ok (an (u,0) n n) (u.alloc (.cells ((bt n 0).map aJ).toArray 5)):=by
 obtain⟨i0,hi,qm,tZ,tu⟩:=info_parts KA;have h:=run_make (P:=prog) u 23 5 i0 (O .u8 0) Tryz.underlying23 hi qm .i64 .i64 (n:Int) (n:Int) ae (Int.le_refl _) (by rw[tu];omega) ae;rw[Int.toNat_natCast,tZ,da] at h;rw[List.map_replicate];exact h.trans (by rw[show Value.cells (O .u8 0)=#[O .u8 0] from rfl,AP];rfl)
theorem akc (w:World) base n (hb:base<=w.heap.size) (hn:n<=140737488355328):
  Own aJ 5 (w.alloc (.cells ((bt n 0).map aJ).toArray 5)) base (an (w,0) n n) (bt n 0):=by
 have h:=Own.made (f:=aJ) (e:=5) (w:=w) (xs:=bt n (0:UInt8)) hb (by rw[dx];simp only[maxLen];omega);grind
theorem Fe n:((bt n 0).map aJ).toArray=cB n (O .u8 0):=by rw[List.map_replicate,List.toArray_replicate];rfl
theorem auo (n:Nat) (h:n<=140737488355328) u:(Instr.makeSlice 23 (O aa 0) (O aa n)).run prog u=
  .ok (an (u,0) 0 n) (u.alloc (.cells (cB n (O .u8 0)) 5)):=by
 obtain⟨i0,hi,qm,tZ,tu⟩:=info_parts KA;have h:=run_make (P:=prog) u 23 5 i0 (O .u8 0) Tryz.underlying23 hi qm .i64 .i64 0 (n:Int) ae ae (by rw[tu];omega) ae;rw[Int.toNat_natCast,tZ,da] at h;rw[<-Fe,List.map_replicate];exact h.trans (by rw[show Value.cells (O .u8 0)=#[O .u8 0] from rfl,AP];rfl)
theorem afG (w:World) base n (hb:base<=w.heap.size) (hn:n<=140737488355328):
  Own aJ 5 (w.alloc (.cells (cB n (O .u8 0)) 5)) base (an (w,0) 0 n) ([]):=
 ⟨au,.inr ⟨w.heap.size,n,_,rfl,hb,heap_alloc_new w _,au,by simp only[maxLen];omega,au,au⟩⟩
theorem GG (n:Nat) (h:n<=140737488355328) u:(Instr.makeSlice 23 (O aa n) (O aa n)).run prog u=
  .ok (an (u,0) n n) (u.alloc (.cells (cB n (O .u8 0)) 5)):=by
 rw[aun n h u,Fe]
theorem kU (w:World) base n (hb:base<=w.heap.size) (hn:n<=140737488355328):
  Own aJ 5 (w.alloc (.cells (cB n (O .u8 0)) 5)) base (an (w,0) n n) (bt n 0):=by
 rw[<-Fe];exact akc w base n hb hn
theorem kE a n c l (hl:l<=n) w:(Instr.slice 23 (an a n c) (some (O aa l)) none none).run prog w= .ok (an (iQ a c l) (n-l) (c-l)) w:=by obtain⟨i0,hi,qm,tZ,tu⟩:=info_parts KA;exact Rx Tryz.underlying23 hi tZ a n c l hl w
theorem Ry a n c h (hl:h<=c) w:(Instr.slice 23 (an a n c) none (some (O aa h)) none).run prog w= .ok (an a h c) w:=by obtain⟨i0,hi,qm,tZ,tu⟩:=info_parts KA;exact Zp Tryz.underlying23 hi a n c h hl w
theorem vK a n c l h (hl:l<=h) (hh:h<=c) w:(Instr.slice 23 (an a n c) (some (O aa l)) (some (O aa h)) none).run prog w= .ok (an (iQ a c l) (h-l) (c-l)) w:=by obtain⟨i0,hi,qm,tZ,tu⟩:=info_parts KA;exact VA Tryz.underlying23 hi tZ a n c l h hl hh w
theorem oW {w ops rest o ac Q} (mF:o.guard=none) s x
  (ho:o.op= .call {callee:= .builtin .append,args:=#[s,x],argTypes:=#[23,23]}) base
  v xs (hs:ac.eval s=v) (bz:Own aJ 5 w base v xs) B a m c ys (hx:ac.eval x=an a m c) (hy:Bytes w B a m ys)
  (fB:xs.length+m<=140737488355328) (dE:base<=w)
  (h:∀v' w',Own aJ 5 w' base v' (xs++ys)->w.grownBy w' v.ownBlock->(v'.ownBlock=v.ownBlock\/v'.ownBlock=some w.heap.size)->wpList prog ops Q rest (ac.put o.dst v') w'):wpList prog ops Q (o::rest) ac w:=by
 obtain⟨i0,hi,qm,tZ,tu⟩:=info_parts KA;exact Dl mF s x 23 ho base 5 i0 _ 1 Tryz.underlying23 hi qm tZ tu rfl qL v xs hs bz B a m c ys hx hy ae (by simp only[maxLen];omega) dE h
theorem ik {w ops rest o ac Q} (mF:o.guard=none) s x
  (ho:o.op= .call {callee:= .builtin .append,args:=#[s,x],argTypes:=#[23,23]}) base
  v xs (hs:ac.eval s=v) (bz:Own aJ 5 w base v xs) B a m c ys (hx:ac.eval x=an a m c) (hy:Bytes w B a m ys)
  (fB:xs.length+m<=140737488355328) (dE:base<=w)
  (h:∀v' w',Hid (Own aJ 5 w' base v' (xs++ys))->Hid (Below base w w')->wpList prog ops Q rest (ac.put o.dst v') w'):wpList prog ops Q (o::rest) ac w:=
 oW mF s x ho base v xs hs bz B a m c ys hx hy fB dE λv' w' h1 h2 _=>h v' w' (ag h1) (ag (kD (aE base w) bz h2 dE))
theorem GI {w cs ops rest o ac Q} (mF:o.guard=none) s x
  (ho:o.op= .call {callee:= .builtin .append,args:=#[s,x],argTypes:=#[23,23]}) base
  v xs (hs:ac.eval s=v) (bz:Own aJ 5 w base v xs) m ys (hx:ac.eval x=an (w,0) m m) (hm:ys.length=m) (gm:cs=(ys.map aJ).toArray)
  (fB:xs.length+m<=140737488351232) (dE:base<=w)
  (h:∀v' w',Hid (Own aJ 5 w' base v' (xs++ys))->Hid (Below base w w')->wpList prog ops Q rest (ac.put o.dst v') w'):wpList prog ops Q (o::rest) ac (w.alloc (.cells cs 5)):=
 oW mF s x ho base v xs hs (bz.alloc _) _ _ m m ys hx (jq.lit w 5 ys m hm ae gm) ae (by simp;omega) λv' w' h1 h2 _=>
  h v' w' (ag h1) (ag (((aE base w).alloc dE _).trans (kD (aE base _) (bz.alloc _) h2 (by simp;omega))))
theorem akd {w} {o:Oper} {ac K Q} s x
  (ho:o.op= .call {callee:= .builtin .append,args:=#[s,x],argTypes:=#[23,23]}) base
  v xs (hs:ac.eval s=v) (bz:Own aJ 5 w base v xs) B a m c ys (hx:ac.eval x=an a m c) (hy:Bytes w B a m ys)
  (fB:xs.length+m<=140737488355328) (dE:base<=w)
  (h:∀v' w',Own aJ 5 w' base v' (xs++ys)->w.grownBy w' v.ownBlock->(v'.ownBlock=v.ownBlock\/v'.ownBlock=some w.heap.size)->K (ac.put o.dst v') w'):o.wp prog ac w K Q:=by
 obtain⟨i0,hi,qm,tZ,tu⟩:=info_parts KA;exact uJ s x 23 ho base 5 i0 _ 1 Tryz.underlying23 hi qm tZ tu rfl qL v xs hs bz B a m c ys hx hy ae (by simp only[maxLen];omega) dE h
theorem acT {w ops o a K Q E} (mF:o.guard=none) s x
  (ho:o.op= .call {callee:= .builtin .append,args:=#[s,x],argTypes:=#[23,23]}) base
  v xs (hs:a.eval s=v) (bz:Own aJ 5 w base v xs) B ad m c ys (hx:a.eval x=an ad m c) (hy:Bytes w B ad m ys)
  (fB:xs.length+m<=140737488355328) (dE:base<=w)
  (h:∀v' w',Hid (Own aJ 5 w' base v' (xs++ys))->Hid (Below base w w')->K (a.put o.dst v') w'):
  if Region.wanted o (yielded ops a.tmps)=true then Oper.wp prog o a w K Q else E:=by
 have hw:Region.wanted o (yielded ops a.tmps)=true:=by simp[Region.wanted,mF]
 rw[ev hw];exact akd s x ho base v xs hs bz B ad m c ys hx hy fB dE λv' w' h1 h2 _=>h v' w' (ag h1) (ag (kD (aE base w) bz h2 dE))
section
variable {α:Type} {m:Nat} {f:α->List Value}
theorem Ku (hf:∀x,(f x).length=m) (xs:List α):(xs.flatMap f).length=xs.length*m:=by induction xs<;>grind
theorem abz (hf:∀x,(f x).length=m) {xs:List α} {i j} hi (hj:j<m):(xs.flatMap f)[i*m+j]?=(f xs[i])[j]?:=by
 induction xs generalizing i with
 |nil=>simp at hi
 |cons x t ih=>
  rw[List.flatMap_cons]
  cases i with
  |zero=>grind
  |succ i=>
   grind
theorem afA (hf:∀x,(f x).length=m) {xs:List α} {i j u y} hi (hj:j<m) (hy:f y=(f xs[i]).set j u):(xs.set i y).flatMap f=(xs.flatMap f).set (i*m+j) u:=by
 induction xs generalizing i with
 |nil=>simp at hi
 |cons x t ih=>
  cases i with
  |zero=>
   grind
  |succ i=>
   grind
def fP (m:Nat) (f:α->List Value) (w:World) (B:Nat) (a:Option Addr) (n:Nat) (xs:List α):=
 xs.length=n/\n<=140737488351232/\(n≠0->∃b o,a=(b,o)/\b<B/\∀i h,w.rangeAt b (o+i*m) (f xs[i]))
variable {w w':World} {B B':Nat} {a:Option Addr} {n:Nat} {xs:List α}
theorem fP.len (h:fP m f w B a n xs):xs.length=n:=h.1
theorem fP.YJ (h:fP m f w B a n xs) {k} (hk:k<n):∃b o,∃h',a=(b,o)/\b<B/\w.rangeAt b (o+k*m) (f xs[k]):=by grind[fP]
theorem fP.keep (h:fP m f w B a n xs) (hk:∀b o,b<B->w'.cell? (b,o)=w.cell? ⟨b,o,none⟩):fP m f w' B a n xs:=by obtain⟨h1,h2,h3⟩:=h;refine⟨h1,h2,λhn=>?_⟩;obtain⟨b,o,ha,aT,hc⟩:=h3 hn;exact⟨b,o,ha,aT,λi hi j v hv=>(hk b _ aT).trans (hc i hi j v hv)⟩
theorem fP.below (h:fP m f w B a n xs) (hb:Below B w w'):fP m f w' B a n xs:=h.keep λb o aT=>hb.cell (p:=(b,o)) aT
theorem fP.mono (h:fP m f w B a n xs) (hB:B<=B'):fP m f w B' a n xs:=by grind[fP]
theorem fP.on (h:fP m f w w a n xs) (hb:Below w w w'):fP m f w' w' a n xs:=(h.below hb).mono hb.size
theorem fP.none_ w B a:fP m f w B a 0 []:=⟨rfl,ae,λh=>absurd rfl h⟩
theorem fP.alloc (h:fP m f w w a n xs) o:fP m f (w.alloc o) (w.alloc o).heap.size a n xs:=h.on ((aE _ _).alloc av o)
def bQ (m:Nat) (f:α->List Value) (e:TypeId) (w:World) (base:Nat) (v:Value) (xs:List α):=(∀x,(f x).length=m)/\w.ownsRow base e m v xs.length (xs.flatMap f)
variable {e:TypeId} {base:Nat} {v:Value}
theorem bQ.nil (hf:∀x,(f x).length=m) w base:bQ m f e w base (an none 0 0) []:=⟨hf,World.ownsRow_nil w base e m⟩
theorem bQ.form (h:bQ m f e w base v xs):∃a c,v=an a xs.length c/\xs.length<=c:=by
 rcases h.2.2 with⟨hv,hn⟩|⟨g,cap,cur,hv,_,_,hc,_⟩
 ·grind
 grind
theorem bQ.bG {n} (h:bQ m f e w base v xs) (hn:xs.length=n):∃a c,v=an a n c/\n<=c:=by subst hn;exact h.form
theorem bQ.jh (h:bQ m f e w base v xs) (hn:0<xs.length):∃g c,v=an (g,0) xs.length c/\xs.length<=c/\base<=g/\g<w:=by
 rcases h.2.2 with⟨_,h0⟩|⟨g,cap,cur,hv,jf,hg,hc,_⟩
 ·omega
 grind
theorem bQ.dU {g n c} (h:bQ m f e w base (an (g,0) n c) xs) {i j} hi (hj:j<m):
  w.cell? (g,i*m+j)=(f xs[i])[j]?/\w.frozen? ⟨g,i*m+j,none⟩=false:=by
 obtain⟨hf,hx⟩:=h;rcases hx.2 with⟨hv,_⟩|⟨g',cap,cur,hv,jf,hg,hc,_,hs,ht⟩
 ·cases hv
 ·injection hv with h1 h2 h3
  injection h1 with h1
  injection h1 with h1
  subst h1;refine⟨?_,frozen_of_row w g _ cur e hg⟩;rw[cell_of_row w g _ cur e (0,0) hg,<-abz hf hi hj,<-ht,List.getElem?_take];have hm:m<=xs.length*m:=Nat.le_mul_of_pos_left _ ae;have h5:i*m+m<=xs.length*m:=by rw[<-Nat.succ_mul];exact Nat.mul_le_mul_right _ ae
  rw[ev ae];simp
theorem bQ.arr {a n c} (h:bQ m f e w base (an a n c) xs) (hb:xs.length<=140737488351232):fP m f w w a n xs:=by
 obtain⟨a',c',hv,_⟩:=h.form;injection hv with h1 h2 h3
 subst h1 h2 h3;refine⟨rfl,hb,λhn=>?_⟩;obtain⟨g,c',hv,_,_,aT⟩:=h.jh ae;injection hv with h1
 subst h1;refine⟨g,0,rfl,aT,λi hi j u hu=>?_⟩;grind[bQ,bQ.dU]
theorem bQ.below {B} (h:bQ m f e w base v xs) (hb:Below B w w') (hB:w<=B):bQ m f e w' base v xs:=by
 refine⟨h.1,h.2.1,?_⟩;rcases h.2.2 with h2|⟨g,cap,cur,hv,jf,hg,r⟩
 ·exact Or.inl h2
 ·refine Or.inr ⟨g,cap,cur,hv,jf,?_,r⟩;have aT:g<w.heap.size:=by
   grind
  exact(hb.block g ae).trans hg
theorem bQ.on (h:bQ m f e w base v xs) (hb:Below w w w'):bQ m f e w' base v xs:=h.below hb av
theorem bQ.alloc (h:bQ m f e w base v xs) o:bQ m f e (w.alloc o) base v xs:=h.on ((aE _ _).alloc av o)
theorem bQ.drew (h:bQ m f e w base v xs):bQ m f e w.drew base v xs:=h
theorem bQ.grown {row} (h:bQ m f e w base v xs) (hg:w.grownBy w' row) (di:v.ownBlock=none\/v.ownBlock≠row):bQ m f e w' base v xs:=⟨h.1,World.ownsRow.kept h.2 hg di⟩
theorem bQ.mono {base'} (h:bQ m f e w base v xs) (hb:base'<=base):bQ m f e w base' v xs:=by
 refine⟨h.1,h.2.1,?_⟩;rcases h.2.2 with h2|⟨g,cap,cur,hv,jf,r⟩
 ·exact Or.inl h2
 ·exact Or.inr ⟨g,cap,cur,hv,ae,r⟩
theorem bQ.aN (h:bQ m f e w base v xs):∀k,v.ownBlock=some k->base<=k/\k<w:=World.ownsRow.lt h.2
theorem bQ.far (h:bQ m f e w base v xs) {p} (hp:v.ownBlock≠some p.block) u:bQ m f e (w.setCell p u) base v xs:=by
 refine⟨h.1,h.2.1,?_⟩;rcases h.2.2 with h2|⟨g,cap,cur,hv,jf,hg,r⟩
 ·exact Or.inl h2
 ·refine Or.inr ⟨g,cap,cur,hv,jf,?_,r⟩;rw[heap_setCell_other w p g u (λe=>hp (by rw[hv];simp[Value.ownBlock,e]))];exact hg
theorem bQ.set {g n c} (h:bQ m f e w base (an (g,0) n c) xs) {i j} hi (hj:j<m) {u y} (hy:f y=(f xs[i]).set j u):
  bQ m f e (w.setCell (g,i*m+j) u) base (an (some ⟨g,0,none⟩) n c) (xs.set i y):=by
 obtain⟨hf,hx⟩:=h;refine⟨hf,by grind[Ku],?_⟩;rcases hx.2 with⟨hv,_⟩|⟨g',cap,cur,hv,jf,hg,hc,hm,hs,ht⟩
 ·cases hv
 ·injection hv with h1 h2 h3
  injection h1 with h1
  injection h1 with h1
  subst h1 h3;refine Or.inr ⟨g,c,cur.setIfInBounds (i*m+j) u,by rw[h2,List.length_set],jf,heap_setCell_same w g _ cur e u hg,by grind,hm,by simpa using hs,?_⟩;grind[afA,List.take_set]
end
section
variable {P:Program} {α:Type} {sz:Nat} {f:α->List Value}
theorem Iw w base t ty e i z bytes (ht:P.underlying t=some (.slice e)) (hi:P.info? e=some i) (hz:i.zero=some z)
  (oU:i.size=sz) (hby:i.bytes=bytes) (hzs:z.cells.size=sz) (iG:0<sz) (hf:∀x,∀u∈f x,u.oneCell'=true)
  v xs (bz:bQ sz f e w base v xs) B a m c ys (hy:fP sz f w B a m ys)
  (fB:(xs.length+m)*bytes<=140737488355328) (h63:xs.length+m<=maxLen) (dE:base<=w):
  ∃v' w',(Builtin.append_ #[t,t] ty #[v,an a m c]).run P w= .ok v' w'/\bQ sz f e w' base v' (xs++ys)/\w.grownBy w' v.ownBlock/\(v'.ownBlock=v.ownBlock\/v'.ownBlock=some w.heap.size):=by
 have hlen:=hy.len;obtain⟨hfl,AO⟩:=id bz;by_cases hm:m=0
 ·subst hm;have hn:ys=[]:=ek hlen;subst hn;refine⟨v,w,?_,by simpa using bz,World.grownBy.refl w _,.inl rfl⟩;rcases AO.2 with⟨rfl,hn⟩|⟨g,cap,cur,rfl,_,_,uD,_⟩
  ·cases a<;>simp[Builtin.append_,run_underlying ht,sizeOf,typeInfo,hi,Builtin.lenOf,Builtin.firstCells,loadCells,loadCellsFrom]
  ·cases a<;>simp[Builtin.append_,run_underlying ht,sizeOf,typeInfo,hi,Builtin.lenOf,Builtin.firstCells,loadCells,loadCellsFrom,uD,storeCells]
 ·obtain⟨b,o,rfl,_,hc⟩:=hy.2.2 hm;obtain⟨v',w',bF,h2,h3,_,h5⟩:=run_append_own_at (P:=P) w base t ty e i z sz bytes ht hi hz oU hby hzs iG v xs.length (xs.flatMap f) AO (b,o) m c (ys.flatMap f) (by rw[Ku hfl,hlen])
   (λj u hu=>by
    have vJ:j<m*sz:=by have:=(dq.1 hu).1;rw[Ku hfl,hlen] at this;exact this
    have hq:j/sz<ys.length:=by rw[hlen];exact(Nat.div_lt_iff_lt_mul iG).2 vJ
    have hr:j%sz<sz:=Nat.mod_lt _ iG;have hj:j/sz*sz+j%sz=j:=by rw[Nat.mul_comm];exact Nat.div_add_mod j sz
    rw[<-hj,abz hfl hq hr] at hu;rw[Addr.add_mid,<-hj,<-Nat.add_assoc];exact hc _ hq _ u hu)
   (λu hu=>by obtain⟨x,_,hx⟩:=List.mem_flatMap.1 hu;exact hf x u hx) h63 fB dE
  refine⟨v',w',bF,⟨hfl,?_⟩,h3,h5⟩;rw[bE,List.flatMap_append,hlen];exact h2
theorem rf {w} {o:Oper} {ac K Q} s x t
  (ho:o.op= .call {callee:= .builtin .append,args:=#[s,x],argTypes:=#[t,t]})
  base e i z bytes (ht:P.underlying t=some (.slice e)) (hi:P.info? e=some i) (hz:i.zero=some z)
  (oU:i.size=sz) (hby:i.bytes=bytes) (hzs:z.cells.size=sz) (iG:0<sz) (hf:∀x,∀u∈f x,u.oneCell'=true)
  v xs (hs:ac.eval s=v) (bz:bQ sz f e w base v xs) B a m c ys (hx:ac.eval x=an a m c) (hy:fP sz f w B a m ys)
  (fB:(xs.length+m)*bytes<=140737488355328) (h63:xs.length+m<=maxLen) (dE:base<=w)
  (h:∀v' w',bQ sz f e w' base v' (xs++ys)->w.grownBy w' v.ownBlock->(v'.ownBlock=v.ownBlock\/v'.ownBlock=some w.heap.size)->K (ac.put o.dst v') w'):o.wp P ac w K Q:=by
 obtain⟨v',w',bF,h2,h3,h4⟩:=Iw (P:=P) w base t o.type e i z bytes ht hi hz oU hby hzs iG hf v xs bz B a m c ys hy fB h63 dE;unfold Oper.wp execOp;simp only[ho,resolve,invoke,builtin,Sem.run_bind,Sem.run_pure,Result.andThen_ok,List.map_toArray,cE,List.map_nil,hs,hx,bF];exact h v' w' h2 h3 h4
theorem lq {w ops rest o ac Q} (mF:o.guard=none) s x t
  (ho:o.op= .call {callee:= .builtin .append,args:=#[s,x],argTypes:=#[t,t]})
  base e i z bytes (ht:P.underlying t=some (.slice e)) (hi:P.info? e=some i) (hz:i.zero=some z)
  (oU:i.size=sz) (hby:i.bytes=bytes) (hzs:z.cells.size=sz) (iG:0<sz) (hf:∀x,∀u∈f x,u.oneCell'=true)
  v xs (hs:ac.eval s=v) (bz:bQ sz f e w base v xs) B a m c ys (hx:ac.eval x=an a m c) (hy:fP sz f w B a m ys)
  (fB:(xs.length+m)*bytes<=140737488355328) (h63:xs.length+m<=maxLen) (dE:base<=w)
  (h:∀v' w',bQ sz f e w' base v' (xs++ys)->w.grownBy w' v.ownBlock->(v'.ownBlock=v.ownBlock\/v'.ownBlock=some w.heap.size)->wpList P ops Q rest (ac.put o.dst v') w'):wpList P ops Q (o::rest) ac w:=
 wpList_plain mF λ_ hK=>rf s x t ho base e i z bytes ht hi hz oU hby hzs iG hf v xs hs bz B a m c ys hx hy fB h63 dE λv' w' h2 h3 h4=>hK _ _ (h v' w' h2 h3 h4)
end
theorem fP.ajQ {α m f} (w:World) e (x:α) {cs} (gm:cs=(f x).toArray):
  fP m f (w.alloc (.cells cs e)) (w.alloc (.cells cs e)).heap.size (w,0) 1 [x]:=by
 subst gm;refine⟨rfl,ae,λ_=>⟨w.heap.size,0,rfl,au,λi hi j u hu=>?_⟩⟩;obtain rfl:i=0:=by simp at hi;omega
 rw[cell_of_row _ _ _ _ _ _ (heap_alloc_new w _),Nat.zero_mul,Nat.zero_add];grind
theorem Zn {α m f e w0 w w' base v} {xs:List α} (hb:Below base w0 w) (bz:bQ m f e w base v xs) (hg:w.grownBy w' v.ownBlock) (hB:base<=w):Below base w0 w':=
 hb.grown hg hB (λk hk=>(bz.aN k hk).1)
end
section
open RowKit
structure Bv where
 pages:Value
 next:Int
 broken:Bool
 bad:Bool
 aC:Int
def EK (x:Bv):=[x.pages,O aa x.next,aq x.broken,aq x.bad,O aa x.aC]
theorem afr x:(EK x).length=5:=rfl
def CZ (v:Value):=v
structure Fv where
 no:Int
 kind:Int
 data:Value
def fvL (x:Fv):=[O aa x.no,O aa x.kind,x.data]
theorem Zl x:(fvL x).length=3:=rfl
structure Fl where
 no:Int
 kind:Int
 data:List UInt8
def Kv (w:World) (N0:Nat) (v:Value):Option (List UInt8)->Prop
 |none=>v=an none 0 0
 |some L=>0<L.length/\Own aJ 5 w N0 v L
theorem Kv.on {w w' N0 v o} (h:Kv w N0 v o) (hb:Below w w w'):Kv w' N0 v o:=by
 cases o with
 |none=>exact h
 |some L=>exact⟨h.1,h.2.on hb⟩
theorem Rk {α f e w N0 v} {xs:List α} (h:Own f e w N0 v xs) {p} (hp:p.block<N0) u:Own f e (w.setCell p u) N0 v xs:=
 h.far (λe=>by have:=(h.aN _ e).1;omega) u
theorem Kv.far {w N0 v o} (h:Kv w N0 v o) {p} (hp:p.block<N0) u:Kv (w.setCell p u) N0 v o:=by
 cases o with
 |none=>exact h
 |some L=>exact⟨h.1,Rk h.2 hp u⟩
def Og (w:World) (N0:Nat) (fv:Value) (fs:List Fl):=
 ∃rows,bQ 3 fvL 35 w N0 fv rows/\rows.length=fs.length/\∀i h1 (h2:i<fs.length),rows[i].no=fs[i].no/\rows[i].kind=fs[i].kind/\Own aJ 5 w N0 rows[i].data fs[i].data
theorem Og.on {w w' N0 fv fs} (h:Og w N0 fv fs) (hb:Below w w w'):Og w' N0 fv fs:=by obtain⟨rows,h1,h2,h3⟩:=h;exact⟨rows,h1.on hb,h2,λi a b=>⟨(h3 i a b).1,(h3 i a b).2.1,(h3 i a b).2.2.on hb⟩⟩
theorem Og.far {w N0 fv fs} (h:Og w N0 fv fs) {p} (hp:p.block<N0) u:Og (w.setCell p u) N0 fv fs:=by obtain⟨rows,h1,h2,h3⟩:=h;exact⟨rows,h1.far (λe=>by have:=(h1.aN _ e).1;omega) u,h2,λi a b=>⟨(h3 i a b).1,(h3 i a b).2.1,Rk (h3 i a b).2.2 hp u⟩⟩
theorem Og.nil w N0:Og w N0 (an none 0 0) []:=⟨[],bQ.nil Zl w N0,rfl,λi h=>absurd h au⟩
structure Cn where
 fv:Value
 si:Nat
 dn:Bool
 sk:Nat
 rd:Nat
def chA (BL:Nat) (x:Cn):=#[O aa 16,O aa 8,O aa 64,an (BL,0) 16 16,x.fv,O aa x.si,aq x.dn,O aa x.sk,O aa x.rd]
def Dis (base N0 C BL P:Nat):=C≠BL/\C≠P/\BL≠P/\C<N0/\BL<N0/\P<N0/\base<=C/\base<=BL/\base<=P
structure og base N0 w (C BL P K:Nat) x (nx:Nat) (ls:Nat->Option (List UInt8)) fs:Prop where
 hC:aF w C 76 (chA BL x)
 hB:∃bs,bs.length=16/\bs[K]?=some ⟨an (P,0) 8 8,nx,false,false,0⟩/\bQ 5 EK 121 w base (an (BL,0) 16 16) bs
 hP:∃xs,xs.length=8/\Own CZ 23 w base (an (P,0) 8 8) xs/\∀i h,Kv w N0 xs[i] (ls i)
 hF:Og w N0 x.fv fs
 PZ:Dis base N0 C BL P
 hK:K<16
 hN:N0<=w
structure Kp C BL P (w w':World):Prop where
 os:w'.os=w.os
 tape:w'.tape=w.tape
 output:w'.output=w.output
 size:w<=w'.heap.size
 block:∀k,k<w.heap.size->k≠C->k≠BL->k≠P->w'.heap[k]?=w.heap[k]?
theorem Kp.refl C BL P w:Kp C BL P w w:=⟨rfl,rfl,rfl,bp _,λ_ _ _ _ _=>rfl⟩
theorem Kp.trans {C BL P a b c} (h:Kp C BL P a b) (k:Kp C BL P b c):Kp C BL P a c:=
 ⟨k.os.trans h.os,k.tape.trans h.tape,k.output.trans h.output,bB h.size k.size,λj hj h1 h2 h3=>(k.block j (cM hj h.size) h1 h2 h3).trans (h.block j hj h1 h2 h3)⟩
theorem Kp.of {C BL P w w'} (h:Below w.heap.size w w'):Kp C BL P w w':=⟨h.os,h.tape,h.output,h.size,λk hk _ _ _=>h.block k hk⟩
theorem Kp.on {C BL P a b c} (h:Kp C BL P a b) (k:Below b b c):Kp C BL P a c:=h.trans (Kp.of k)
theorem Kp.setCell {C BL P a b} (h:Kp C BL P a b) {p} (hp:p.block=C\/p.block=BL\/p.block=P) u:Kp C BL P a (b.setCell p u):=
 h.trans ⟨rfl,rfl,rfl,au,λk _ h1 h2 h3=>heap_setCell_other b p k u (by grind)⟩
theorem Kp.below {C BL P base w w'} (h:Kp C BL P w w') (h1:base<=C) (h2:base<=BL) (h3:base<=P) (hb:base<=w):Below base w w':=
 ⟨h.os,h.tape,h.output,h.size,λk hk=>h.block k ae ae ae ae⟩
theorem Own.kp {α f e C BL P N0 w w' v} {xs:List α} (h:Own f e w N0 v xs) (hk:Kp C BL P w w') (h1:C<N0) (h2:BL<N0) (h3:P<N0):Own f e w' N0 v xs:=by
 refine⟨h.1,?_⟩;rcases h.2 with h2'|⟨g,cap,cur,hv,jf,hg,r⟩
 ·exact Or.inl h2'
 ·refine Or.inr ⟨g,cap,cur,hv,jf,?_,r⟩;grind[Kp.block]
variable {base N0 C BL P K nx:Nat} {w w':World} {x:Cn} {ls:Nat->Option (List UInt8)} {fs:List Fl}
theorem og.on (h:og base N0 w C BL P K x nx ls fs) (hb:Below w w w'):og base N0 w' C BL P K x nx ls fs:=by obtain⟨h1,⟨bs,b1,b2,b3⟩,⟨xs,x1,x2,x3⟩,h4,h5,h6,h7⟩:=h;exact⟨h1.ah hb,⟨bs,b1,b2,b3.on hb⟩,⟨xs,x1,x2.on hb,λi hi=>(x3 i hi).on hb⟩,h4.on hb,h5,h6,bB h7 hb.size⟩
theorem ak w:Below w.heap.size w w.drew:=⟨rfl,rfl,rfl,bp _,λ_ _=>rfl⟩
theorem og.drew (h:og base N0 w C BL P K x nx ls fs):og base N0 w.drew C BL P K x nx ls fs:=h.on (ak w)
theorem og.ajW {x'} (h:og base N0 w C BL P K x nx ls fs) i u (hx:(chA BL x).setIfInBounds i u=chA BL x') (hf:x'.fv=x.fv):og base N0 (w.setCell (C,i) u) C BL P K x' nx ls fs:=by obtain⟨h1,⟨bs,b1,b2,b3⟩,⟨xs,x1,x2,x3⟩,h4,h5,h6,h7⟩:=h;have hd:=h5;obtain⟨d1,d2,d3,d4,d5,d6,d7⟩:=h5;refine⟨?_,⟨bs,b1,b2,b3.far (by simpa[Value.ownBlock] using Ne.symm d1) u⟩,⟨xs,x1,x2.far (by simpa[Value.ownBlock] using Ne.symm d2) u,λj hj=>(x3 j hj).far d4 u⟩,by rw[hf];exact h4.far d4 u,hd,h6,by simpa using h7⟩;rw[<-hx];exact h1.set i u
theorem og.afz {v L} (h:og base N0 w C BL P K x nx ls fs) k (hv:Kv w N0 v (some L)):og base N0 (w.setCell (P,k) v) C BL P K x nx (λi=>if i=k then some L else ls i) fs:=by
 obtain⟨h1,⟨bs,b1,b2,b3⟩,⟨xs,x1,x2,x3⟩,h4,h5,h6,h7⟩:=h;have hd:=h5;obtain⟨d1,d2,d3,d4,d5,d6,d7⟩:=h5;refine⟨h1.far d2 v,⟨bs,b1,b2,b3.far (by simpa[Value.ownBlock] using d3) v⟩,⟨xs.set k v,by grind,x2.set k v,λj hj=>?_⟩,h4.far d6 v,hd,h6,by simpa using h7⟩;rw[List.length_set] at hj;by_cases e:j=k
 ·subst e;rw[List.getElem_set_self,ev rfl];exact hv.far d6 v
 ·rw[List.getElem_set_ne (Ne.symm e),eo e];exact(x3 j hj).far d6 v
theorem og.apb (h:og base N0 w C BL P K x nx ls fs) (m:Nat):og base N0 (w.setCell (BL,K*5+1) (O aa m)) C BL P K x m ls fs:=by
 obtain⟨h1,⟨bs,b1,b2,b3⟩,⟨xs,x1,x2,x3⟩,h4,h5,h6,h7⟩:=h;have hd:=h5;obtain⟨d1,d2,d3,d4,d5,d6,d7⟩:=h5;have hk:K<bs.length:=ae;have e2:bs[K]=⟨an (P,0) 8 8,nx,false,false,0⟩:=by grind
 refine⟨h1.far d1 _,⟨bs.set K ⟨an (P,0) 8 8,m,false,false,0⟩,by grind,by grind,b3.set (i:=K) (j:=1) hk ae (by rw[e2];rfl)⟩,⟨xs,x1,x2.far (by simpa[Value.ownBlock] using Ne.symm d3) _,λj hj=>(x3 j hj).far d5 _⟩,h4.far d5 _,hd,h6,by simpa using h7⟩
theorem og.afy (h:og base N0 w C BL P K x nx ls fs) i:w.frozen? ⟨C,i,none⟩=false:=h.hC.frozen i
theorem og.abA (h:og base N0 w C BL P K x nx ls fs):∀j (_:j<5),w.cell? (BL,K*5+j)=(EK ⟨an (P,0) 8 8,nx,false,false,0⟩)[j]?/\w.frozen? (BL,K*5+j)=false:=by
 intro j hj;obtain⟨bs,b1,b2,b3⟩:=h.hB;have hk:K<bs.length:=by have:=h.hK;omega
 have e2:bs[K]=⟨an (P,0) 8 8,nx,false,false,0⟩:=by grind
 rw[<-e2];exact b3.dU hk hj
theorem og.c1 (h:og base N0 w C BL P K x nx ls fs):w.cell? (C,1)=some (O aa 8):=h.hC.aj rfl
theorem og.c2 (h:og base N0 w C BL P K x nx ls fs):w.cell? (C,2)=some (O aa 64):=h.hC.aj rfl
theorem og.c3 (h:og base N0 w C BL P K x nx ls fs):w.cell? (C,3)=some (an (BL,0) 16 16):=h.hC.aj rfl
theorem og.c4 (h:og base N0 w C BL P K x nx ls fs):w.cell? (C,4)=some (x.fv):=h.hC.aj rfl
theorem og.c5 (h:og base N0 w C BL P K x nx ls fs):w.cell? (C,5)=some (O aa x.si):=h.hC.aj rfl
theorem og.c6 (h:og base N0 w C BL P K x nx ls fs):w.cell? (C,6)=some (aq x.dn):=h.hC.aj rfl
theorem og.c7 (h:og base N0 w C BL P K x nx ls fs):w.cell? (C,7)=some (O aa x.sk):=h.hC.aj rfl
theorem og.b0 (h:og base N0 w C BL P K x nx ls fs):w.cell? (BL,K*5)=some (an (P,0) 8 8)/\w.frozen? (BL,K*5)=false:=h.abA 0 ae
theorem og.b1 (h:og base N0 w C BL P K x nx ls fs):w.cell? (BL,K*5+1)=some (O aa nx)/\w.frozen? (BL,K*5+1)=false:=h.abA 1 ae
theorem og.b2 (h:og base N0 w C BL P K x nx ls fs):w.cell? (BL,K*5+2)=some (aq false)/\w.frozen? (BL,K*5+2)=false:=h.abA 2 ae
theorem og.b3 (h:og base N0 w C BL P K x nx ls fs):w.cell? (BL,K*5+3)=some (aq false)/\w.frozen? (BL,K*5+3)=false:=h.abA 3 ae
theorem og.page (h:og base N0 w C BL P K x nx ls fs) {i} (hi:i<8):∃v,w.cell? (P,i)=some v/\w.frozen? (P,i)=false/\Kv w N0 v (ls i):=by grind[CZ,og.hP,Own.dU]
theorem og.below (h:og base N0 w C BL P K x nx ls fs) (hk:Kp C BL P w w'):Below base w w':=by obtain⟨d1,d2,d3,d4,d5,d6,d7,d8,d9⟩:=h.PZ;have:=h.hN;exact hk.below d7 d8 d9 ae
end
section
open RowKit
theorem Vu w:Calls prog 25 #[] w λe w'=>e=ar (.agg #[O aa 16,O aa 8,O aa 64])/\Below w w w':=by
 go_in
 go_wp2;refine bodyPost_ret (v:= .agg #[O aa 16,O aa 8,O aa 64]) (by simp[results,Tryz.results25,go_sem]) rfl ⟨rfl,?_⟩;exact(aE _ _).alloc av _
theorem Vw b o w (h:w.cell? (b,o)=some (O aa 64)):
  Calls prog 163 #[an (some ⟨b,o,none⟩) 4 4,O aa 64] w λe w'=>e=ar (O aa 0)/\w=w':=by
 go_in
 go_wp2
 go_loop [5,8] (λ_ i=>i=O aa 0) (λ_ _=>0)
 case atStart=>exact rfl
 case round=>subst hrel;go_wp2;go_ret;exact⟨rfl,rfl⟩
theorem Kw b o w (h:w.cell? (b,o)=some (O aa 64)):
  Calls prog 110 #[an (some ⟨b,o,none⟩) 4 4,O aa 64] w λe w'=>e=ar (aq true)/\w=w':=by
 have HI:=ag (Vw b o w h);clear h
 go_in
 go_wp2_with fail;refine(HI.o).cj ?_;go_wp2;go_ret;exact⟨rfl,rfl⟩
theorem Gw n (UH:8<=n) (YK:n<=128) w:Calls prog 57 #[.agg #[O aa n,O aa 8,O aa 64]] w λe w'=>e=ar (aq true)/\Below w w w':=by
 have B1:=(aF.new w 60 #[O aa n,O aa 8,O aa 64]).alloc (.cells #[O aa 64,O aa 128,O aa 256,O aa 512] 178);have B2:=aF.new (w.alloc (.cells #[O aa n,O aa 8,O aa 64] 60)) 178 #[O aa 64,O aa 128,O aa 256,O aa 512];rw[bR] at B2;have hb:=(bA w (.cells #[O aa n,O aa 8,O aa 64] 60)).alloc au (.cells #[O aa 64,O aa 128,O aa 256,O aa 512] 178);obtain⟨w2,jT⟩:=aW ((w.alloc (.cells #[O aa n,O aa 8,O aa 64] 60)).alloc (.cells #[O aa 64,O aa 128,O aa 256,O aa 512] 178));obtain⟨g,hg⟩:=aW w.heap.size;obtain⟨g2,nH⟩:=aW (w.heap.size+1);rw[<-jT] at B1 B2 hb;rw[<-hg] at B1;rw[<-nH] at B2;have HB:=ag hb;have bV:=ag B1;have df:=ag B2;have HC:=ag (λu (h:aF u g2 178 #[O aa 64,O aa 128,O aa 256,O aa 512])=>Kw g2 0 u (h.aj (i:=0) rfl));have k1:¬n<8:=ae;have k2:¬128<n:=ae;have k3:decide ((8:Int)<=n)=true:=ez UH;have k4:decide (n<=(128:Int))=true:=ez YK;clear B1 B2 hb
 go_in
 go_wp2_with fail;rw[<-jT,<-nH,<-hg];clear jT hg nH;refine iE (λW'=>aF W' g 60 #[O aa n,O aa 8,O aa 64]/\aF W' g2 178 #[O aa 64,O aa 128,O aa 256,O aa 512]) ⟨bV.o,df.o⟩ (λaY=>?_);refine aS 0 g 0 ?_;refine jV 1 n (λ_ aK=>(aK.1.aj (i:=0) rfl)) ?_;refine eX 2 (aq true) ?_;refine dG 3 (aq true) ?_;refine aS 4 g 0 ?_;refine jV 5 n (λ_ aK=>(aK.1.aj (i:=0) rfl)) ?_;refine eX 6 (aq true) ?_;refine eX 7 (aq true) ?_;refine dG 8 (aq true) ?_;refine aS 9 g 1 ?_;refine jV 10 8 (λ_ aK=>(aK.1.aj (i:=1) rfl)) ?_;refine eX 11 (aq true) ?_;refine eX 12 (aq true) ?_;refine dG 13 (aq true) ?_;refine aS 14 g 1 ?_;refine jV 15 8 (λ_ aK=>(aK.1.aj (i:=1) rfl)) ?_;refine eX 16 (aq true) ?_;refine eX 17 (aq true) ?_;refine dG 18 (aq true) ?_;refine eX 19 (an (g2,0) 4 4) ?_;refine aS 20 g 2 ?_;refine jV 21 64 (λ_ aK=>(aK.1.aj (i:=2) rfl)) ?_;refine bY 22 (λK' hK=>?_);go_simp;refine(HC.o _ aY.2).cj ?_;refine hK.out _ _ aY (λdh=>?_)
 refine eX 23 (aq true) ?_;refine dG 24 (aq true) ?_;refine eH ?_;clear aY dh;go_wp2_with fail;go_ret;exact⟨rfl,HB.o.drew⟩
def bv0:Bv:=⟨an none 0 0,0,false,false,0⟩
def Ky:=bt 16 bv0
def lh:List Value:=bt 8 (an none 0 0)
theorem aj7 u:(Instr.makeSlice 74 (O aa 16) (O aa 16)).run prog u= .ok (an (u,0) 16 16) (u.alloc (.cells (Ky.flatMap EK).toArray 121)):=by
 kernel_rfl
theorem Rf u:(Instr.makeSlice 119 (O aa 8) (O aa 8)).run prog u= .ok (an (u,0) 8 8) (u.alloc (.cells (lh.map CZ).toArray 23)):=by
 kernel_rfl
theorem apc (u:World) base (hb:base<=u.heap.size):bQ 5 EK 121 (u.alloc (.cells (Ky.flatMap EK).toArray 121)) base (an (u,0) 16 16) Ky:=
 ⟨afr,NV,.inr ⟨u.heap.size,16,_,rfl,hb,heap_alloc_new u _,bp _,aB,NV,NV⟩⟩
theorem Ze (u:World) base (hb:base<=u.heap.size):Own CZ 23 (u.alloc (.cells (lh.map CZ).toArray 23)) base (an (u,0) 8 8) lh:=
 ⟨NV,.inr ⟨u.heap.size,8,_,rfl,hb,heap_alloc_new u _,bp _,aB,NV,NV⟩⟩
def cn0:Cn:=⟨an none 0 0,0,false,0,0⟩
structure BlI base K w wr (k:Nat):Prop where
 hG:aF wr base 60 #[O aa 16,O aa 8,O aa 64]
 hC:aF wr (base+2) 76 (chA (base+1) cn0)
 hB:∃bs,bs.length=16/\bQ 5 EK 121 wr base (an (base+1,0) 16 16) bs/\(k<=K->bs[K]?=some bv0)/\
  (K<k->∃P,bs[K]?=some ⟨an (P,0) 8 8,0,false,false,0⟩/\Own CZ 23 wr base (an (P,0) 8 8) lh/\base+2<P)
 hb:Below base w wr
theorem BlI.on {base K k w wr w'} (h:BlI base K w wr k) (hb:Below wr wr w'):BlI base K w w' k:=by obtain⟨h1,h2,⟨bs,b1,b2,b3,b4⟩,h4⟩:=h;have iG:base<=wr.heap.size:=Nat.le_of_lt h1.lt;exact⟨h1.ah hb,h2.ah hb,⟨bs,b1,b2.on hb,b3,λhk=>by obtain⟨P,p1,p2,p3⟩:=b4 hk;exact⟨P,p1,p2.on hb,p3⟩⟩,h4.trans (hb.mono iG)⟩
theorem BlI.step {base K k w wr} (h:BlI base K w wr k) (hk:k<16):
  BlI base K w ((wr.alloc (.cells (lh.map CZ).toArray 23)).setCell (base+1,k*5) (an (wr,0) 8 8)) (k+1):=by
 have aT:=h.hC.lt;have ho:=Ze wr base ae;obtain⟨h1,h2,⟨bs,b1,b2,b3,b4⟩,h4⟩:=h.on (bA wr (.cells (lh.map CZ).toArray 23));have b5:∀hKk:K<k,∃P,bs[K]?=some ⟨an (P,0) 8 8,0,false,false,0⟩/\Own CZ 23 (wr.alloc (.cells (lh.map CZ).toArray 23)) base (an (P,0) 8 8) lh/\base+2<P:=b4;generalize wr.alloc (.cells (lh.map CZ).toArray 23)=wp at*;have hkb:k<bs.length:=ae;have C9:=b2.set (i:=k) (j:=0) (u:=an (wr.heap.size,0) 8 8) (y:={bs[k] with pages:=an (wr.heap.size,0) 8 8}) hkb ae rfl;refine⟨h1.far au _,h2.far au _,⟨_,by grind,C9,λhle=>?_,λpM=>?_⟩,h4.setCell (p:=(base+1,k*5)) au _⟩
 ·grind
 ·by_cases e:K=k
  ·subst e;refine⟨wr.heap.size,?_,ho.far (by simp[Value.ownBlock];omega) _,aT⟩;have hz:=b3 av;rw[cX hkb] at hz;rw[List.getElem?_set_self hkb,Option.some.inj hz];rfl
  ·obtain⟨P,p1,p2,p3⟩:=b5 ae;exact⟨P,by grind,p2.far (by simp[Value.ownBlock];omega) _,p3⟩
theorem Vx K (hK:K<16) w:
  Calls prog 58 #[.agg #[O aa 16,O aa 8,O aa 64]] w λe w'=>e=ar (.pointer (some ⟨w+2,0,none⟩))/\BlI w K w w' 16:=by
 have B1:=aF.new w 60 #[O aa 16,O aa 8,O aa 64];have hb:=bA w (.cells #[O aa 16,O aa 8,O aa 64] 60);obtain⟨w1,ku⟩:=aW (w.alloc (.cells #[O aa 16,O aa 8,O aa 64] 60));obtain⟨g,hg⟩:=aW w.heap.size;have jA:w1.heap.size=g+1:=by rw[ku,hg];simp
 rw[<-ku] at B1 hb;rw[<-hg] at B1 hb⊢;have sW:=ag (show aF w1.drew g 60 #[O aa 16,O aa 8,O aa 64] from B1);have HB:=ag hb;have pG:=ag jA;have wI:=aj7 w1.drew;have HBg:=ag B1;have hC0:=aF.new (w1.alloc (.cells (Ky.flatMap EK).toArray 121)) 76 (chA (g+1) cn0);have hG0:=(B1.alloc (.cells (Ky.flatMap EK).toArray 121)).alloc (.cells (chA (g+1) cn0) 76);have hO0:=(apc w1 g ae).alloc (.cells (chA (g+1) cn0) 76);have hB0:=(hb.alloc ae (.cells (Ky.flatMap EK).toArray 121)).alloc (by simp;omega) (.cells (chA (g+1) cn0) 76);rw[bR,jA] at hC0;rw[jA] at hO0;have HI:=ag (show BlI g K w ((w1.alloc (.cells (Ky.flatMap EK).toArray 121)).alloc (.cells (chA (g+1) cn0) 76)) 0 from⟨hG0,hC0,⟨Ky,rfl,hO0,λ_=>by unfold Ky;rw[List.getElem?_replicate,ev hK],λh=>absurd h ae⟩,hB0⟩);clear B1 hb hC0 hG0 hO0 hB0
 go_in
 go_wp2_with fail;rw[<-ku,<-hg];clear ku hg jA;refine iE (λW'=>aF W' g 60 #[O aa 16,O aa 8,O aa 64]) sW.o (λaY=>?_);refine jE 0 (.agg #[O aa 16,O aa 8,O aa 64]) rfl (λ_ aK=>by have y0:=aK.aj (i:=0) rfl;have y1:=aK.aj (i:=1) rfl;have y2:=aK.aj (i:=2) rfl;go_simp) ?_;refine aS 1 g 0 ?_;refine jV 2 16 (λ_ aK=>aK.aj (i:=0) rfl) ?_;refine bY 3 (λK' hK=>?_);go_simp;refine hK.out _ _ (HBg.o.alloc _).drew (λdh=>?_)
 refine eX 4 (.agg #[O aa 16,O aa 8,O aa 64,an (w1.heap.size,0) 16 16,an none 0 0,O aa 0,aq false,O aa 0,O aa 0]) ?_;refine bY 5 (λK' hK=>?_);go_simp;refine hK.out _ _ ((HBg.o.alloc _).alloc _).drew (λfE=>?_)
 refine dw 6 (w1.heap.size+1) 0 ?_;refine eH ?_;clear aY dh fE wI;rw[pG.o];change Exit.then _ _ _ _ ((w1.alloc (.cells (Ky.flatMap EK).toArray 121)).alloc (.cells (chA (g+1) cn0) 76)).drew;have qY:=HI.o.on (ak _);generalize ((w1.alloc (.cells (Ky.flatMap EK).toArray 121)).alloc (.cells (chA (g+1) cn0) 76)).drew=w3 at*;have c3:w3.cell? (g+1+1,3)=some (an (g+1,0) 16 16):=qY.hC.aj rfl;have HJ:=ag qY;clear HI qY HB sW HBg pG;go_wp2_with fail
 go_loopw [4,16] (λ_ i wr=>∃k:Nat,k<=16/\i=O aa k/\BlI g K w wr k) (λ_ i _=>16-(intOf i).toNat)
 case atStart=>exact⟨0,ae,rfl,HJ.o⟩
 case round=>
  obtain⟨k,hk,rfl,hI⟩:=hrel;have HI:=ag hI;clear HJ;by_cases aT:k<16
  ·have hst:=(hI.step aT).on (ak _);have jI:=ag hst;have wI:=Rf wr.drew;have k0:(0:Int)<=(k:Int):=ae;have k1:(k:Int)<16:=ae;have e3:wr.drew.cell? (g+1+1,3)=some (an (g+1,0) 16 16):=(hI.on (ak _)).hC.aj rfl;have e1:wr.drew.cell? (g,1)=some (O aa 8):=(hI.on (ak _)).hG.aj rfl;have hgl:=hI.hC.lt;have HA:=ag (hI.on ((bA wr (.cells (lh.map CZ).toArray 23)).drew));obtain⟨bs,b1,b2,_,_⟩:=HA.o.hB;obtain⟨z1,z2⟩:=b2.dU (i:=k) (j:=0) ae ae;have z3:((wr.alloc (.cells (lh.map CZ).toArray 23)).drew).cell? (g+1,k*5)=some bs[k].pages:=z1;have z4:((wr.alloc (.cells (lh.map CZ).toArray 23)).drew).frozen? (g+1,k*5)=false:=z2;clear hst z1 z2 b2 hI;go_upto_region 5 with fail;refine iE (λW'=>W'.cell? (g+1+1,3)=some (an (g+1,0) 16 16)/\W'.cell? (g,1)=some (O aa 8)) ⟨e3,e1⟩ (λaY=>?_);refine dw 0 (g+1+1) 0 ?_;refine aS 1 (g+1+1) 0 ?_;refine aS 2 (g+1+1) 3 ?_;refine kS 3 (an (g+1,0) 16 16) (λ_ aK=>aK.1) ?_;refine dI 4 (k:Int) ?_;refine aS 5 g 1 ?_;refine jV 6 8 (λ_ aK=>aK.2) ?_;refine bY 7 (λK' hK=>?_);go_simp;have hlC:g+1+1<wr.drew.heap.size:=hgl;have hlG:g<wr.drew.heap.size:=by show g<wr.heap.size;omega
   have fM:=bA wr.drew (.cells (lh.map CZ).toArray 23);refine hK.out _ _ ⟨(fM.cell (p:=⟨g+1+1,3,none⟩) hlC).trans aY.1,(fM.cell (p:=⟨g,1,none⟩) hlG).trans aY.2⟩ (λdh=>?_)
   refine aS 8 (g+1) (k*5) ?_;refine aS 9 (g+1) (k*5) ?_;refine bY 10 (λK' hK=>?_);go_simp;refine hK.out _ _ ⟨(cK _ _ _ _ au).trans dh.1,(cK _ _ _ _ au).trans dh.2⟩ (λfE=>?_)
   refine eH ?_;clear aY dh fE wI fM;go_wp2_with fail;go_roundw
   case rel=>exact⟨k+1,ae,by go_num,jI.o⟩
   case measure=>simp[intOf];omega
  ·obtain rfl:k=16:=ae;clear hI;go_wp2_with fail;go_ret;exact⟨rfl,HI.o⟩
structure Kq (T:Nat->Prop) (w w':World):Prop where
 os:w'.os=w.os
 tape:w'.tape=w.tape
 output:w'.output=w.output
 size:w<=w'.heap.size
 block:∀k,k<w.heap.size->¬T k->w'.heap[k]?=w.heap[k]?
section
variable {T T':Nat->Prop} {a b c w w':World}
theorem Kq.refl T w:Kq T w w:=⟨rfl,rfl,rfl,bp _,λ_ _ _=>rfl⟩
theorem Kq.trans (h:Kq T a b) (k:Kq T b c):Kq T a c:=
 ⟨k.os.trans h.os,k.tape.trans h.tape,k.output.trans h.output,bB h.size k.size,λj hj h1=>(k.block j (cM hj h.size) h1).trans (h.block j hj h1)⟩
theorem Kq.of (h:Below w w w'):Kq T w w':=⟨h.os,h.tape,h.output,h.size,λk hk _=>h.block k hk⟩
theorem Kq.on (h:Kq T a b) (k:Below b b c):Kq T a c:=h.trans (Kq.of k)
theorem Kq.mono (h:Kq T w w') (hT:∀k,T k->T' k):Kq T' w w':=⟨h.os,h.tape,h.output,h.size,λk hk hn=>h.block k hk λh'=>hn (hT k h')⟩
theorem Kq.aA (h:Kq T a b) (k:Kq T' b c) (hT:∀k,T' k->T k\/a<=k):Kq T a c:=
 ⟨k.os.trans h.os,k.tape.trans h.tape,k.output.trans h.output,bB h.size k.size,λj hj h1=>(k.block j (cM hj h.size) λh2=>by grind).trans (h.block j hj h1)⟩
theorem Kq.setCell (h:Kq T a b) {p} (hp:T p.block\/a.heap.size<=p.block) u:Kq T a (b.setCell p u):=
 ⟨h.os,h.tape,h.output,by simpa using h.size,λk hk h1=>(heap_setCell_other b p k u λe=>by grind).trans (h.block k hk h1)⟩
theorem Kq.one p u:Kq (λk=>k=p.block) w (w.setCell p u):=(Kq.refl _ w).setCell (T:=λk=>k=p.block) (p:=p) (.inl rfl) u
theorem Kq.below {B} (h:Kq T w w') (hT:∀k,T k->B<=k) (hB:B<=w):Below B w w':=
 ⟨h.os,h.tape,h.output,h.size,λk hk=>h.block k ae λh1=>by have:=hT k h1;omega⟩
theorem Kq.grown {r} (h:w.grownBy w' r):Kq (λk=>r=some k) w w':=⟨h.os,h.tape,h.output,h.size,λk hk h1=>h.block k hk λe=>h1 e.symm⟩
theorem aF.kq {g t cs} (h:aF w g t cs) (hk:Kq T w w') (hg:¬T g):aF w' g t cs:=(hk.block g h.lt hg).trans h
theorem bQ.kq {α m f e B v} {xs:List α} (h:bQ m f e w B v xs) (hk:Kq T w w') (hv:∀g,v.ownBlock=some g->¬T g):bQ m f e w' B v xs:=by
 refine⟨h.1,h.2.1,?_⟩;rcases h.2.2 with h2|⟨g,cap,cur,rfl,jf,hg,r⟩
 ·exact Or.inl h2
 ·refine Or.inr ⟨g,cap,cur,rfl,jf,?_,r⟩;have aT:g<w.heap.size:=by
   grind
  exact(hk.block g aT (hv g rfl)).trans hg
theorem Own.kq {α f e B v} {xs:List α} (h:Own f e w B v xs) (hk:Kq T w w') (hv:∀g,v.ownBlock=some g->¬T g):Own f e w' B v xs:=by
 refine⟨h.1,?_⟩;rcases h.2 with h2|⟨g,cap,cur,rfl,jf,hg,r⟩
 ·exact Or.inl h2
 ·refine Or.inr ⟨g,cap,cur,rfl,jf,?_,r⟩;have aT:g<w.heap.size:=by
   grind
  exact(hk.block g aT (hv g rfl)).trans hg
end
def Up (S:Nat->Prop) (w w':World):=λk=>S k\/(w<=k/\k<w')
theorem fA {S w w' k} (h:Up S w w' k) (hk:k<w):S k:=by
 rcases h with h|h
 ·exact h
 ·omega
structure Pb where
 qB:Nat->Option (List UInt8)
 nx:Nat
 broken:Bool
 bad:Bool
 aC:Nat
def fresh (w:Nat):Pb:=⟨λ_=>none,0,false,false,w⟩
def upd {α:Type} (f:Nat->α) k v:=λj=>if j=k then v else f j
theorem upd_same {α} f k (v:α):upd f k v k=v:=ev rfl
theorem aG {α} f {k j} (v:α) (h:j≠k):upd f k v j=f j:=eo h
def Ir (P:Nat) (x:Pb):Bv:=⟨an (P,0) 8 8,x.nx,x.broken,x.bad,x.aC⟩
def Df (NB BL:Nat) (fv:Value) si sk rd:=#[O aa NB,O aa 8,O aa 64,an (BL,0) NB NB,fv,O aa si,aq false,O aa sk,O aa rd]
def chQ (NB BL:Nat) (si sk rd:Int):Array Value:=#[O aa NB,O aa 8,O aa 64,an (BL,0) NB NB,an none 0 0,O aa si,aq false,O aa sk,O aa rd]
def Mu (NB C BL:Nat) (ps:Nat->Nat) k:=k=C\/k=BL\/∃j,j<NB/\k=ps j
def PgS (S M:Nat->Prop) (w:World) (v:Value):Option (List UInt8)->Prop
 |none=>v=an none 0 0
 |some L=>L.length=96/\Own aJ 5 w 0 v L/\∀g,v.ownBlock=some g->S g/\¬M g
theorem PgS.kq {S M T w w' v o} (h:PgS S M w v o) (hk:Kq T w w') (hT:∀k,S k->¬M k->¬T k):PgS S M w' v o:=by
 cases o with
 |none=>exact h
 |some L=>grind[PgS,Own.kq]
theorem PgS.weaken {S S' M M' w v o} (h:PgS S M w v o) (hS:∀k,S k->S' k) (hM:∀k,S k->M' k->M k):PgS S' M' w v o:=by
 cases o with
 |none=>exact h
 |some L=>grind[PgS]
def NY (fs:List Fl) si:=(fs.filter λf=>decide (si<=f.no)).length
def Rt (S M:Nat->Prop) (w:World) (fv:Value) (si:Int) (x:Pb):=
 (x.bad=false/\fv=an none 0 0)\/(x.bad=true/\si=x.aC/\(∀g,fv.ownBlock=some g->S g/\¬M g)/\∃(rows:List Fv) (fs:List Fl),bQ 3 fvL 35 w 0 fv rows/\rows.length=fs.length/\rows.length<=1000/\NY fs si<=x.nx/\
  ∀i h1 (h2:i<fs.length),rows[i].no=fs[i].no/\rows[i].kind=3/\fs[i].data.length<=96/\Own aJ 5 w 0 rows[i].data fs[i].data/\∀g,rows[i].data.ownBlock=some g->S g/\¬M g)
theorem Rt.kq {S M T w w' fv si x} (h:Rt S M w fv si x) (hk:Kq T w w') (hT:∀k,S k->¬M k->¬T k):Rt S M w' fv si x:=by
 rcases h with h|⟨h1,h2,h3,rows,fs,h4,h5,h6,h7,h8⟩
 ·exact .inl h
 ·exact .inr ⟨h1,h2,h3,rows,fs,h4.kq hk λg hg=>hT g (h3 g hg).1 (h3 g hg).2,h5,h6,h7,λi a b=>⟨(h8 i a b).1,(h8 i a b).2.1,(h8 i a b).2.2.1,(h8 i a b).2.2.2.1.kq hk λg hg=>hT g ((h8 i a b).2.2.2.2 g hg).1 ((h8 i a b).2.2.2.2 g hg).2,(h8 i a b).2.2.2.2⟩⟩
theorem Rt.weaken {S S' M M' w fv si x} (h:Rt S M w fv si x) (hS:∀k,S k->S' k) (hM:∀k,S k->M' k->M k):Rt S' M' w fv si x:=by
 rcases h with h|⟨h1,h2,h3,rows,fs,h4,h5,h6,h7,h8⟩
 ·exact .inl h
 ·exact .inr ⟨h1,h2,λg hg=>⟨hS g (h3 g hg).1,λhm=>(h3 g hg).2 (hM g (h3 g hg).1 hm)⟩,rows,fs,h4,h5,h6,h7,λi a b=>⟨(h8 i a b).1,(h8 i a b).2.1,(h8 i a b).2.2.1,(h8 i a b).2.2.2.1,λg hg=>⟨hS g ((h8 i a b).2.2.2.2 g hg).1,λhm=>((h8 i a b).2.2.2.2 g hg).2 (hM g ((h8 i a b).2.2.2.2 g hg).1 hm)⟩⟩⟩
structure aAC NB C BL (ps:Nat->Nat):Prop where
 cb:C≠BL
 pc:∀j,j<NB->ps j≠C
 pb:∀j,j<NB->ps j≠BL
 inj:∀i j,i<NB->j<NB->ps i=ps j->i=j
structure eu NB B S w C BL ps (bl:Nat->Pb):Prop where
 hC:∃fv si sk rd,aF w C 76 (Df NB BL fv si sk rd)/\Rt S (Mu NB C BL ps) w fv si (bl NB)
 hB:bQ 5 EK 121 w 0 (an (BL,0) NB NB) ((cz NB).map λk=>Ir (ps k) (bl k))
 hP:∀k,k<NB->∃xs,xs.length=8/\Own CZ 23 w 0 (an (ps k,0) 8 8) xs/\∀i h,PgS S (Mu NB C BL ps) w xs[i] ((bl k).qB i)
 PZ:aAC NB C BL ps
 hS:∀k,Mu NB C BL ps k->S k
 lo:∀k,S k->B<=k
 hi:∀k,S k->k<w
section
variable {NB B C BL:Nat} {S T:Nat->Prop} {w w':World} {ps:Nat->Nat} {bl:Nat->Pb}
theorem dP P n c g (h:Value.ownBlock (an (P,0) n c)=some g):g=P:=by
 simpa[Value.ownBlock,eq_comm] using h
theorem eu.kq (h:eu NB B S w C BL ps bl) (hk:Kq T w w') (hT:∀k,S k->¬T k):eu NB B S w' C BL ps bl:=by obtain⟨⟨fv,si,sk,rd,h1,hf⟩,h2,h3,h4,h5,h6,h7⟩:=h;refine⟨⟨fv,si,sk,rd,h1.kq hk (hT _ (h5 _ (.inl rfl))),hf.kq hk λk hs _=>hT k hs⟩,h2.kq hk λg hg=>by obtain rfl:=dP _ _ _ _ hg;exact hT _ (h5 _ (.inr (.inl rfl))),λk nD=>?_,h4,h5,h6,λk nD=>cM (h7 k nD) hk.size⟩;obtain⟨xs,x1,x2,x3⟩:=h3 k nD;exact⟨xs,x1,x2.kq hk λg hg=>by obtain rfl:=dP _ _ _ _ hg;exact hT _ (h5 _ (.inr (.inr ⟨k,nD,rfl⟩))),λi hi=>(x3 i hi).kq hk λk hs _=>hT k hs⟩
theorem eu.on (h:eu NB B S w C BL ps bl) (hb:Below w w w'):eu NB B S w' C BL ps bl:=h.kq (T:=λ_=>False) (Kq.of hb) λ_ _ h=>h
theorem eu.wide {S'} (h:eu NB B S w C BL ps bl) (hS:∀k,S k->S' k) (lo:∀k,S' k->B<=k) (hi:∀k,S' k->k<w.heap.size):eu NB B S' w C BL ps bl:=by obtain⟨⟨fv,si,sk,rd,h1,hf⟩,h2,h3,h4,h5,h6,h7⟩:=h;refine⟨⟨fv,si,sk,rd,h1,hf.weaken hS λ_ _ h=>h⟩,h2,λk hk=>?_,h4,λk hk=>hS k (h5 k hk),lo,hi⟩;obtain⟨xs,x1,x2,x3⟩:=h3 k hk;exact⟨xs,x1,x2,λi hi=>(x3 i hi).weaken hS λ_ _ h=>h⟩
theorem eu.rows (h:eu NB B S w C BL ps bl) {k j} (hk:k<NB) (hj:j<5):w.cell? (BL,k*5+j)=(EK (Ir (ps k) (bl k)))[j]?/\w.frozen? (BL,k*5+j)=false:=by
 have h1:=h.hB.dU (i:=k) (j:=j) (by simpa using hk) hj
 simpa using h1
theorem eu.c0 (h:eu NB B S w C BL ps bl):w.cell? (C,0)=some (O aa NB):=by obtain⟨_,_,_,_,h,_⟩:=h.hC;exact h.aj rfl
theorem eu.c1 (h:eu NB B S w C BL ps bl):w.cell? (C,1)=some (O aa 8):=by obtain⟨_,_,_,_,h,_⟩:=h.hC;exact h.aj rfl
theorem eu.c2 (h:eu NB B S w C BL ps bl):w.cell? (C,2)=some (O aa 64):=by obtain⟨_,_,_,_,h,_⟩:=h.hC;exact h.aj rfl
theorem eu.c3 (h:eu NB B S w C BL ps bl):w.cell? (C,3)=some (an (BL,0) NB NB):=by obtain⟨_,_,_,_,h,_⟩:=h.hC;exact h.aj rfl
theorem eu.c6 (h:eu NB B S w C BL ps bl):w.cell? (C,6)=some (aq false):=by obtain⟨_,_,_,_,h,_⟩:=h.hC;exact h.aj rfl
theorem eu.b0 (h:eu NB B S w C BL ps bl) {k} (hk:k<NB):w.cell? (BL,k*5)=some (an (ps k,0) 8 8)/\w.frozen? (BL,k*5)=false:=h.rows hk (j:=0) ae
theorem eu.b1 (h:eu NB B S w C BL ps bl) {k} (hk:k<NB):w.cell? (BL,k*5+1)=some (O aa (bl k).nx)/\w.frozen? (BL,k*5+1)=false:=h.rows hk (j:=1) ae
theorem eu.b2 (h:eu NB B S w C BL ps bl) {k} (hk:k<NB):w.cell? (BL,k*5+2)=some (aq (bl k).broken)/\w.frozen? (BL,k*5+2)=false:=h.rows hk (j:=2) ae
theorem eu.b3 (h:eu NB B S w C BL ps bl) {k} (hk:k<NB):w.cell? (BL,k*5+3)=some (aq (bl k).bad)/\w.frozen? (BL,k*5+3)=false:=h.rows hk (j:=3) ae
theorem eu.b4 (h:eu NB B S w C BL ps bl) {k} (hk:k<NB):w.cell? (BL,k*5+4)=some (O aa (bl k).aC)/\w.frozen? (BL,k*5+4)=false:=h.rows hk (j:=4) ae
theorem eu.afy (h:eu NB B S w C BL ps bl) i:w.frozen? ⟨C,i,none⟩=false:=by obtain⟨_,_,_,_,h,_⟩:=h.hC;exact h.frozen i
theorem eu.ltC (h:eu NB B S w C BL ps bl):C<w:=h.hi _ (h.hS _ (.inl rfl))
theorem eu.ajW (h:eu NB B S w C BL ps bl) i u (hx:∀fv si sk rd,∃sk' rd',(Df NB BL fv si sk rd).setIfInBounds i u=Df NB BL fv si sk' rd'):eu NB B S (w.setCell (C,i) u) C BL ps bl:=by obtain⟨⟨fv,si,sk,rd,h1,hf⟩,h2,h3,h4,h5,h6,h7⟩:=h;obtain⟨sk',rd',e⟩:=hx fv si sk rd;have hk:Kq (λk=>k=C) w (w.setCell (C,i) u):=Kq.one ⟨_,_,none⟩ _;refine⟨⟨fv,si,sk',rd',e▸h1.set i u,hf.kq hk λk _ hm e=>hm (.inl e)⟩,h2.kq hk λg hg=>by obtain rfl:=dP _ _ _ _ hg;exact Ne.symm h4.cb,λk nD=>?_,h4,h5,h6,λk nD=>by simpa using h7 k nD⟩;obtain⟨xs,x1,x2,x3⟩:=h3 k nD;exact⟨xs,x1,x2.kq hk λg hg=>by obtain rfl:=dP _ _ _ _ hg;exact h4.pc k nD,λi hi=>(x3 i hi).kq hk λk _ hm e=>hm (.inl e)⟩
theorem eu.setB (h:eu NB B S w C BL ps bl) {k j} (hk:k<NB) (hj:j<5) u x (hx:EK (Ir (ps k) x)=(EK (Ir (ps k) (bl k))).set j u) (hp:x.qB=(bl k).qB):eu NB B S (w.setCell (BL,k*5+j) u) C BL ps (upd bl k x):=by
 obtain⟨⟨fv,si,sk,rd,h1,hf⟩,h2,h3,h4,h5,h6,h7⟩:=h;have hq:Kq (λk=>k=BL) w (w.setCell (BL,k*5+j) u):=Kq.one ⟨_,_,none⟩ _;refine⟨⟨fv,si,sk,rd,h1.kq hq h4.cb,by rw[aG _ _ (Nat.ne_of_gt hk)];exact hf.kq hq λk _ hm e=>hm (.inr (.inl e))⟩,?_,λi hi'=>?_,h4,h5,h6,λk nD=>by simpa using h7 k nD⟩
 ·have hs:=h2.set (i:=k) (j:=j) (u:=u) (y:=Ir (ps k) x) (by simpa using hk) hj (by simpa using hx);have e:((cz NB).map λk=>Ir (ps k) (bl k)).set k (Ir (ps k) x)=(cz NB).map λi=>Ir (ps i) (upd bl k x i):=by
   apply List.ext_getElem
   ·simp
   ·intro i g1 g2;rw[List.getElem_set];simp only[List.getElem_map,List.getElem_range];by_cases e:k=i
    ·subst e;rw[ev rfl,upd_same]
    ·rw[eo e,aG _ _ (Ne.symm e)]
  rw[e] at hs;exact hs
 ·obtain⟨xs,x1,x2,x3⟩:=h3 i hi';refine⟨xs,x1,x2.kq hq λg hg=>by obtain rfl:=dP _ _ _ _ hg;exact h4.pb i hi',λq hq'=>?_⟩;have h8:=(x3 q hq').kq hq λk _ hm e=>hm (.inr (.inl e));by_cases e:i=k
  ·subst e;rw[upd_same,hp];exact h8
  ·rw[aG _ _ e];exact h8
theorem eu.afz (h:eu NB B S w C BL ps bl) {k i} (hk:k<NB) v o (hv:PgS S (Mu NB C BL ps) w v o) x (hx:Ir (ps k) x=Ir (ps k) (bl k)) (hp:x.qB=upd (bl k).qB i o):eu NB B S (w.setCell (ps k,i) v) C BL ps (upd bl k x):=by
 obtain⟨⟨fv,si,sk,rd,h1,hf⟩,h2,h3,h4,h5,h6,h7⟩:=h;have hq:Kq (λq=>q=ps k) w (w.setCell (ps k,i) v):=Kq.one ⟨_,_,none⟩ _;have hMu:∀q,S q->¬Mu NB C BL ps q->¬(q=ps k):=λq _ hm e=>hm (.inr (.inr ⟨k,hk,e⟩));refine⟨⟨fv,si,sk,rd,h1.kq hq (Ne.symm (h4.pc k hk)),by rw[aG _ _ (Nat.ne_of_gt hk)];exact hf.kq hq hMu⟩,?_,λj hj=>?_,h4,h5,h6,λk nD=>by simpa using h7 k nD⟩
 ·have e:((cz NB).map λk=>Ir (ps k) (bl k))=(cz NB).map λi=>Ir (ps i) (upd bl k x i):=by
   apply dp;intro q _;by_cases e:q=k
   ·subst e;rw[upd_same,hx]
   ·rw[aG _ _ e]
  rw[<-e];exact h2.kq hq λg hg=>by obtain rfl:=dP _ _ _ _ hg;exact Ne.symm (h4.pb k hk)
 ·obtain⟨xs,x1,x2,x3⟩:=h3 j hj;by_cases e:j=k
  ·subst e;refine⟨xs.set i v,by grind,x2.set i v,λq hq'=>?_⟩;rw[List.length_set] at hq';rw[upd_same,hp,List.getElem_set];by_cases e2:i=q
   ·subst e2;rw[ev rfl,upd_same];exact hv.kq hq hMu
   ·rw[eo e2,aG _ _ (Ne.symm e2)];exact(x3 q hq').kq hq hMu
  ·refine⟨xs,x1,x2.kq hq λg hg=>by obtain rfl:=dP _ _ _ _ hg;exact λe2=>e (h4.inj j k hj hk e2),λq hq'=>?_⟩;rw[aG _ _ e];exact(x3 q hq').kq hq hMu
theorem eu.apb (h:eu NB B S w C BL ps bl) {k P'} (hk:k<NB) (ho:Own CZ 23 w 0 (an (P',0) 8 8) lh) (hP:¬S P') (hB:B<=P') x (hx:x.nx=(bl k).nx/\x.broken=(bl k).broken/\x.bad=(bl k).bad/\x.aC=(bl k).aC) (hp:x.qB=λ_=>none):
  eu NB B (λq=>S q\/q=P') (w.setCell (BL,k*5) (an (P',0) 8 8)) C BL (upd ps k P') (upd bl k x):=by
 obtain⟨⟨fv,si,sk,rd,h1,hf⟩,h2,h3,h4,h5,h6,h7⟩:=h;have aT:P'<w.heap.size:=(ho.aN P' rfl).2;have hq:Kq (λk=>k=BL) w (w.setCell (BL,k*5) (an (P',0) 8 8)):=Kq.one ⟨_,_,none⟩ _;have hM1:∀q,S q->¬Mu NB C BL ps q->¬(q=BL):=λq _ hm e=>hm (.inr (.inl e));have hMM:∀q,Mu NB C BL (upd ps k P') q->Mu NB C BL ps q\/q=P':=by
  rintro q (e|e|⟨j,hj,e⟩)
  ·exact .inl (.inl e)
  ·exact .inl (.inr (.inl e))
  ·by_cases e2:j=k
   ·subst e2;rw[upd_same] at e;exact .inr e
   ·rw[aG _ _ e2] at e;exact .inl (.inr (.inr ⟨j,hj,e⟩))
 have di:∀q,Mu NB C BL ps q->q≠P':=λq hm e=>hP (e▸h5 q hm);refine⟨⟨fv,si,sk,rd,h1.kq hq h4.cb,by rw[aG _ _ (Nat.ne_of_gt hk)];exact(hf.kq hq hM1).weaken (λ_ hs=> .inl hs) λq hs hm=>by grind⟩,?_,λj hj=>?_,⟨h4.cb,λj hj=>?_,λj hj=>?_,λi j hi hj e=>?_⟩,λq hm=>?_,λq hs=>?_,λq hs=>?_⟩
 ·have hs:=h2.set (i:=k) (j:=0) (u:=an (P',0) 8 8) (y:=Ir P' x) (by simpa using hk) ae (by obtain⟨e1,e2,e3,e4⟩:=hx;simp[EK,Ir,e1,e2,e3,e4]);have e:((cz NB).map λk=>Ir (ps k) (bl k)).set k (Ir P' x)=(cz NB).map λi=>Ir (upd ps k P' i) (upd bl k x i):=by
   apply List.ext_getElem
   ·simp
   ·intro i g1 g2;rw[List.getElem_set];simp only[List.getElem_map,List.getElem_range];by_cases e:k=i
    ·subst e;rw[ev rfl,upd_same,upd_same]
    ·rw[eo e,aG _ _ (Ne.symm e),aG _ _ (Ne.symm e)]
  rw[e] at hs;exact hs
 ·by_cases e:j=k
  ·subst e;rw[upd_same,upd_same,hp];refine⟨lh,rfl,ho.kq hq λg hg=>by obtain rfl:=dP _ _ _ _ hg;exact λe=>di _ (.inr (.inl rfl)) e.symm,λi hi=>?_⟩;exact List.eq_of_mem_replicate (n:=8) (cS hi)
  ·obtain⟨xs,x1,x2,x3⟩:=h3 j hj;rw[aG _ _ e,aG _ _ e];exact⟨xs,x1,x2.kq hq λg hg=>by obtain rfl:=dP _ _ _ _ hg;exact h4.pb j hj,λi hi=>((x3 i hi).kq hq hM1).weaken (λ_ hs=> .inl hs) λq hs hm=>by grind⟩
 ·by_cases e:j=k
  ·subst e;rw[upd_same];exact λe=>di _ (.inl rfl) e.symm
  ·rw[aG _ _ e];exact h4.pc j hj
 ·by_cases e:j=k
  ·subst e;rw[upd_same];exact λe=>di _ (.inr (.inl rfl)) e.symm
  ·rw[aG _ _ e];exact h4.pb j hj
 ·by_cases e1:i=k
  ·by_cases e2:j=k
   ·rw[e1,e2]
   ·subst e1;rw[upd_same,aG _ _ e2] at e;exact absurd e.symm (di _ (.inr (.inr ⟨j,hj,rfl⟩)))
  ·by_cases e2:j=k
   ·subst e2;rw[upd_same,aG _ _ e1] at e;exact absurd e (di _ (.inr (.inr ⟨i,hi,rfl⟩)))
   ·rw[aG _ _ e1,aG _ _ e2] at e;exact h4.inj i j hi hj e
 ·grind
 ·grind
 ·rw[cT];grind
theorem eu.page (h:eu NB B S w C BL ps bl) {k i} (hk:k<NB) (hi:i<8):∃v,w.cell? (ps k,i)=some v/\w.frozen? (ps k,i)=false/\PgS S (Mu NB C BL ps) w v ((bl k).qB i):=by obtain⟨xs,x1,x2,x3⟩:=h.hP k hk;obtain⟨c1,c2⟩:=x2.dU (k:=i) ae;exact⟨xs[i],c1,c2,x3 i ae⟩
end
section
variable {NB B C BL:Nat} {S:Nat->Prop} {w:World} {ps:Nat->Nat} {bl:Nat->Pb}
theorem uH (h:eu NB B S w C BL ps bl) {k} (hk:k<NB):
  Calls prog 88 #[C,O aa k] w λe w'=>e=ar (aq true)/\w=w':=by
 have c3:=h.c3;have g1:(0:Int)<=(k:Int):=ae;have g2:(k:Int)<(NB:Int):=ae;clear h hk
 go_in
 go_wp2;go_ret;exact⟨rfl,rfl⟩
theorem qC (h:eu NB B S w C BL ps bl):
  Calls prog 70 #[C] w λe w'=>e=ar (O aa 96)/\w=w':=by
 have c2:=h.c2;clear h
 go_in
 go_wp2;go_ret;exact⟨rfl,rfl⟩
theorem oM (h:eu NB B S w C BL ps bl) {k i:Nat} (hk:k<NB) (hi:i<8):
  Calls prog 69 #[C,O aa k,O aa i] w λe w'=>e=ar (O aa 0)/\w=w':=by
 have HT:=ag (uH h hk);have c1:=h.c1;have c6:=h.c6;have g1:(0:Int)<=(i:Int):=ae;have g2:(i:Int)<8:=ae;clear h hk hi
 go_in
 go_wp2_with fail;refine(HT.o).cj ?_;go_wp2;go_ret;exact⟨rfl,rfl⟩
theorem rq (h:eu NB B S w C BL ps bl):
  Calls prog 89 #[C] w λe w'=>e=ar (aq true)/\w=w':=by
 have c6:=h.c6;clear h
 go_in
 go_wp2;go_ret;exact⟨rfl,rfl⟩
def uI (NB:Nat):Value:= .agg #[O aa NB,O aa 8,O aa 64]
theorem ry:prog.cellsOf 60=3:=az
theorem dQ (h:eu NB B S w C BL ps bl):
  Calls prog 35 #[C] w λe w'=>e=ar (uI NB)/\Below w w w':=by
 have hb:=bA w (.cells #[O aa 0,O aa 0,O aa 0] 60);have h1:=h.on hb;have hk:=aF.new w 60 #[O aa 0,O aa 0,O aa 0];have c0:=h1.c0;have c1:=h1.c1;have c2:=h1.c2;obtain⟨k0,k1,k2⟩:=hk.c3;have f0:=hk.frozen 0;have f1:=hk.frozen 1;have f2:=hk.frozen 2;have gm:=ry;clear h h1 hb hk
 go_in
 go_wp2;refine bodyPost_ret (v:=uI NB) (by simp[results,Tryz.results35,go_sem,uI]) rfl ⟨rfl,(aE _ _).alloc av _⟩
theorem oV (h:eu NB B S w C BL ps bl) {k} (hk:k<NB):
  Calls prog 36 #[C,O aa k] w λe w'=>e=ar (aq (bl k).bad)/\w=w':=by
 have HT:=ag (uH h hk);have c3:=h.c3;have b3:=(h.b3 hk).1;have g1:(0:Int)<=(k:Int):=ae;have g2:(k:Int)<(NB:Int):=ae;clear h hk
 go_in
 go_wp2_with fail;refine(HT.o).cj ?_;go_wp2;go_ret;exact⟨rfl,rfl⟩
theorem mJ (h:eu NB B S w C BL ps bl) {k} (hk:k<NB):
  Calls prog 37 #[C,O aa k] w λe w'=>e=ar (O aa (bl k).aC)/\w=w':=by
 have HT:=ag (uH h hk);have c3:=h.c3;have b4:=(h.b4 hk).1;have g1:(0:Int)<=(k:Int):=ae;have g2:(k:Int)<(NB:Int):=ae;clear h hk
 go_in
 go_wp2_with fail;refine(HT.o).cj ?_;go_wp2;go_ret;exact⟨rfl,rfl⟩
end
theorem P5 {fs a b} (h:a<=b):NY fs b<=NY fs a:=by
 unfold NY
 induction fs with
 |nil=>exact bp _
 |cons f fs ih=>
  grind
theorem afE {fs a q} (hq:q<fs.length) (h:fs[q].no=a):NY fs (a+1)+1<=NY fs a:=by
 induction fs generalizing q with
 |nil=>cases hq
 |cons f fs ih=>
  unfold NY;rw[List.filter_cons,List.filter_cons]
  cases q with
  |zero=>
   have h:f.no=a:=h;rw[eo (by simp;omega),ev (by simp;omega),cD];exact Nat.succ_le_succ (P5 ae)
  |succ q=>
   have h1:=ih (q:=q) (by simpa using hq) (by simpa using h);unfold NY at h1;grind
def mG (x y:Pb)
 |true=>(x.bad=false/\y=x)\/(x.bad=true/\y={x with aC:=x.aC+1})
 |false=>x.bad=true/\1<=x.nx/\y={x with aC:=x.aC+1,nx:=x.nx-1}
theorem Rt.ok {S M w fv si J7 x} (h:Rt S M w fv si x) (hs:x.bad=true->J7=si+1):∃y,mG x y true/\Rt S M w fv J7 y:=by
 rcases h with h|⟨h1,h2,h3,rows,fs,h4,h5,h6,h7,h8⟩
 ·exact⟨x,.inl ⟨h.1,rfl⟩,.inl h⟩
 ·refine⟨{x with aC:=x.aC+1},.inr ⟨h1,rfl⟩,.inr ⟨h1,?_,h3,rows,fs,h4,h5,h6,bB (P5 (by rw[hs h1];omega)) h7,h8⟩⟩;grind
section
variable {NB B C BL:Nat} {S:Nat->Prop} {w:World} {ps:Nat->Nat} {bl:Nat->Pb}
theorem abw NB BL fv si sk rd J7 sk':((Df NB BL fv si sk rd).setIfInBounds 5 (O aa J7)).setIfInBounds 7 (O aa sk')=Df NB BL fv J7 sk' rd:=by simp[Df]
theorem eu.stroke (h:eu NB B S w C BL ps bl) {fv si sk rd} (hC:aF w C 76 (Df NB BL fv si sk rd)) J7 sk' {y} (hf:Rt S (Mu NB C BL ps) w fv J7 y):eu NB B S ((w.setCell (C,5) (O aa J7)).setCell (C,7) (O aa sk')) C BL ps (upd bl NB y):=by
 obtain⟨_,h2,h3,h4,h5,h6,h7⟩:=h;have hk:Kq (λk=>k=C) w ((w.setCell (C,5) (O aa J7)).setCell (C,7) (O aa sk')):=(Kq.one (w:=w) (C,5) (O aa J7)).setCell (p:=(C,7)) (.inl rfl) (O aa sk');have hC2:=(hC.set 5 (O aa J7)).set 7 (O aa sk');rw[abw] at hC2;refine⟨⟨fv,J7,sk',rd,hC2,by rw[upd_same];exact hf.kq hk λk _ hm e=>hm (.inl e)⟩,?_,λk nD=>?_,h4,h5,h6,λk nD=>by simpa using h7 k nD⟩
 ·have e2:((cz NB).map λk=>Ir (ps k) (bl k))=(cz NB).map λk=>Ir (ps k) (upd bl NB y k):=dp λk hk=>by rw[aG _ _ (Nat.ne_of_lt (List.mem_range.1 hk))]
  rw[<-e2];exact h2.kq hk λg hg=>by obtain rfl:=dP _ _ _ _ hg;exact Ne.symm h4.cb
 ·obtain⟨xs,x1,x2,x3⟩:=h3 k nD;rw[aG _ _ (Nat.ne_of_lt nD)];exact⟨xs,x1,x2.kq hk λg hg=>by obtain rfl:=dP _ _ _ _ hg;exact h4.pc k nD,λi hi=>(x3 i hi).kq hk λk _ hm e=>hm (.inl e)⟩
def abv (S M:Nat->Prop) (w:World) (fv:Value) rows:=
 bQ 3 fvL 35 w 0 fv rows/\rows.length<=1000/\∀i (h1:i<rows.length),rows[i].kind=3/\∃L,L.length<=96/\Own aJ 5 w 0 rows[i].data L/\∀g,rows[i].data.ownBlock=some g->S g/\¬M g
theorem Rt.rows {S M w fv si x} (h:Rt S M w fv si x):∃rows,abv S M w fv rows/\∀q (hq:q<rows.length),rows[q].no=si->∀J7,(x.bad=true->J7=si+1)->∃y,mG x y false/\Rt S M w fv J7 y:=by
 rcases h with h|⟨h1,h2,h3,rows,fs,h4,h5,h6,h7,h8⟩
 ·exact⟨[],⟨h.2▸bQ.nil Zl w 0,bN _,λi hi=>absurd hi (Nat.not_lt_zero _)⟩,λq hq=>absurd hq (Nat.not_lt_zero _)⟩
 ·refine⟨rows,⟨h4,h6,λi hi=>⟨(h8 i hi (h5▸hi)).2.1,_,(h8 i hi (h5▸hi)).2.2.1,(h8 i hi (h5▸hi)).2.2.2.1,(h8 i hi (h5▸hi)).2.2.2.2⟩⟩,λq hq he J7 hs=>?_⟩;have hr:=afE (fs:=fs) (q:=q) (h5▸hq) ((h8 q hq (h5▸hq)).1.symm.trans he);refine⟨{x with aC:=x.aC+1,nx:=x.nx-1},⟨h1,ae,rfl⟩,.inr ⟨h1,?_,h3,rows,fs,h4,h5,h6,?_,h8⟩⟩
  ·grind
  grind
end
theorem uf {α} L off n (cs:List α) (h:off+cs.length<=n) (hn:n<=L.length):(splice L off cs).take n=(L.take n).take off++cs++(L.take n).drop (off+cs.length):=by
 have hX:(L.take n).length=n:=by grind
 have hL:L=L.take n++L.drop n:=(List.take_append_drop n L).symm;have h1:L.take off=(L.take n).take off:=by rw[List.take_take,Nat.min_eq_left ae]
 have h2:L.drop (off+cs.length)=(L.take n).drop (off+cs.length)++L.drop n:=by
  conv=>lhs;rw[hL]
  rw[List.drop_append_of_le_length ae]
 unfold splice;grind[cL]
theorem Fa:(prog.info? 5).map (·.size)=some 1:=az
theorem Rn {w ops rest o ac Q} (mF:o.guard=none) d s
  (ho:o.op= .call {callee:= .builtin .copy,args:=#[d,s],argTypes:=#[23,23]}) base g L C off xs
  (hd:ac.eval d=an (iQ (g,0) C off) (L-off) (C-off)) (bz:Own aJ 5 w base (an (g,0) L C) xs)
  B a m c ys (hs:ac.eval s=an a m c) (hy:Bytes w B a m ys) (hm:off+m<=L)
  (h:∀w',Hid (Own aJ 5 w' base (an (some ⟨g,0,none⟩) L C) (xs.take off++ys++xs.drop (off+m)))->Hid (Below base w w')->wpList prog ops Q rest (ac.put o.dst (goInt m)) w'):wpList prog ops Q (o::rest) ac w:=by
 have hl:=hy.len;rcases bz.2 with⟨hv,_⟩|⟨g',cap,cur,hv,jf,hg,pR,hmx,iG,ht⟩
 .cases hv
 .injection hv with e1 e2 e3
  injection e1 with e1
  injection e1 with e1
  subst e1 e3;have NI:xs.length=L:=e2.symm;have uF:cur.toList.length=C:=by simpa using iG
  rw[NI] at pR ht;have gm:(ys.map aJ).length=m:=by rw[bO,hl]
  refine wpList_copy_splice mF d s _ _ ho 5 Tryz.underlying23 Fa _ a _ _ m c hd hs g off cur.toList 5 (by simpa using hg) (ys.map aJ) (by grind) ?_ (by rw[gm,uF];omega)
   (λv hv=>by obtain⟨x,_,rfl⟩:=bw.1 hv;exact qL x) base w (aE _ _) jf ?_
  .intro hp;rw[gm] at hp;obtain⟨b,o',ha,_,hc⟩:=hy.2.2 ae;refine⟨?_,(b,o'),ha,λj v hj=>?_⟩
   .rw[iQ,eo ae];show some (((g,0):Addr).add off)=_;rw[Addr.add_mid,Nat.zero_add]
   .rw[List.getElem?_map] at hj
    cases hk:ys[j]? with
    |none=>rw[hk] at hj;cases hj
    |some y=>
     rw[hk] at hj;injection hj with hj
     subst hj;obtain⟨vJ,hje⟩:=dq.1 hk;rw[Addr.add_mid,hc j vJ,hje]
  .intro w' hg' hb;rw[gm];refine h w' (hid ?_) (ag hb);have hlen:(xs.take off++ys++xs.drop (off+m)).length=L:=by simp only[bE,cI,dk,hl,NI];omega
   refine⟨by rw[bO,da],.inr ⟨g,C,(splice cur.toList off (ys.map aJ)).toArray,by rw[hlen],jf,hg',by rw[hlen];exact pR,hmx,?_,?_⟩⟩
   .rw[cU,length_splice _ _ _ (by rw[gm,uF];omega),uF,da]
   .rw[hlen];show(splice cur.toList off (ys.map aJ)).take (L*1)=_;rw[da,uf _ _ _ _ (by rw[gm];omega) (by rw[uF];omega)];have ht':cur.toList.take L=xs.map aJ:=by simpa using ht
    rw[ht',gm,cA,cA,List.map_take,List.map_drop]
theorem Ro {w ops rest o ac Q} (mF:o.guard=none) d s
  (ho:o.op= .call {callee:= .builtin .copy,args:=#[d,s],argTypes:=#[23,23]}) base g L C off xs
  (hd:ac.eval d=an (iQ (g,0) C off) (L-off) (C-off)) (bz:Own aJ 5 w base (an (g,0) L C) xs)
  B a m c ys (hs:ac.eval s=an a m c) (hy:Bytes w B a m ys) (Iq:off<=L) k (hk:k=min (L-off) m)
  (h:∀w',Hid (Own aJ 5 w' base (an (some ⟨g,0,none⟩) L C) (xs.take off++ys.take k++xs.drop (off+k)))->Hid (Below base w w')->wpList prog ops Q rest (ac.put o.dst (goInt k)) w'):wpList prog ops Q (o::rest) ac w:=by
 have hl:=hy.len;rcases bz.2 with⟨hv,_⟩|⟨g',cap,cur,hv,jf,hg,pR,hmx,iG,ht⟩
 .cases hv
 .injection hv with e1 e2 e3
  injection e1 with e1
  injection e1 with e1
  subst e1 e3;have NI:xs.length=L:=e2.symm;have uF:cur.toList.length=C:=by simpa using iG
  rw[NI] at pR ht;have gm:((ys.take k).map aJ).length=k:=by grind
  refine wpList_copy_splice mF d s _ _ ho 5 Tryz.underlying23 Fa _ a _ _ m c hd hs g off cur.toList 5 (by simpa using hg) ((ys.take k).map aJ) (by grind) ?_ (by rw[gm,uF];omega)
   (λv hv=>by obtain⟨x,_,rfl⟩:=bw.1 hv;exact qL x) base w (aE _ _) jf ?_
  .intro hp;rw[gm] at hp;obtain⟨b,o',ha,_,hc⟩:=hy.2.2 ae;refine⟨?_,(b,o'),ha,λj v hj=>?_⟩
   .rw[iQ,eo ae];show some (((g,0):Addr).add off)=_;rw[Addr.add_mid,Nat.zero_add]
   .rw[List.getElem?_map] at hj
    cases hkk:(ys.take k)[j]? with
    |none=>rw[hkk] at hj;cases hj
    |some y=>
     rw[hkk] at hj;injection hj with hj
     subst hj;obtain⟨vJ,hje⟩:=dq.1 hkk;rw[cI] at vJ;rw[List.getElem_take] at hje;rw[Addr.add_mid,hc j ae,hje]
  .intro w' hg' hb;rw[gm];refine h w' (hid ?_) (ag hb);have hlen:(xs.take off++ys.take k++xs.drop (off+k)).length=L:=by simp only[bE,cI,dk,hl,NI];omega
   refine⟨by rw[bO,da],.inr ⟨g,C,(splice cur.toList off ((ys.take k).map aJ)).toArray,by rw[hlen],jf,hg',by rw[hlen];exact pR,hmx,?_,?_⟩⟩
   .rw[cU,length_splice _ _ _ (by rw[gm,uF];omega),uF,da]
   .rw[hlen];show(splice cur.toList off ((ys.take k).map aJ)).take (L*1)=_;rw[da,uf _ _ _ _ (by rw[gm];omega) (by rw[uF];omega)];have ht':cur.toList.take L=xs.map aJ:=by simpa using ht
    rw[ht',gm];simp only[cA,List.map_take,List.map_drop]
theorem NZ {w ops rest o ac Q} (mF:o.guard=none) d s
  (ho:o.op= .call {callee:= .builtin .copy,args:=#[d,s],argTypes:=#[23,23]}) base g L C off xs
  (hd:ac.eval d=an (g,off) (L-off) (C-off)) (bz:Own aJ 5 w base (an (g,0) L C) xs)
  B a m c ys (hs:ac.eval s=an a m c) (hy:Bytes w B a m ys) (Iq:off<=L) (aT:off<C) k (hk:k=min (L-off) m)
  (h:∀w',Hid (Own aJ 5 w' base (an (some ⟨g,0,none⟩) L C) (xs.take off++ys.take k++xs.drop (off+k)))->Hid (Below base w w')->wpList prog ops Q rest (ac.put o.dst (goInt k)) w'):wpList prog ops Q (o::rest) ac w:=
 Ro mF d s ho base g L C off xs (by rw[hd,iQ,eo ae];show _=Value.slice (some (((g,0):Addr).add off)) _ _;rw[Addr.add_mid,Nat.zero_add]) bz B a m c ys hs hy Iq k hk h
theorem Vl base N0 C BL P K nx x ls fs w (h:og base N0 w C BL P K x nx ls fs):
  Calls prog 88 #[C,O aa K] w λe w'=>e=ar (aq true)/\w=w':=by
 have c3:=h.c3;have g1:(0:Int)<=(K:Int):=ae;have g2:decide ((K:Int)<16)=true:=ez (by have:=h.hK;omega);have g3:(K:Int)<16:=by have:=h.hK;omega
 clear h
 go_in
 go_wp2;go_ret;exact⟨rfl,rfl⟩
theorem Zm base N0 C BL P K nx x ls fs w (h:og base N0 w C BL P K x nx ls fs):
  Calls prog 70 #[C] w λe w'=>e=ar (O aa 96)/\w=w':=by
 have c2:=h.c2;clear h
 go_in
 go_wp2;go_ret;exact⟨rfl,rfl⟩
theorem Vm (base N0 C BL P K nx i:Nat) x ls fs w (h:og base N0 w C BL P K x nx ls fs) (hd:x.dn=false) (hi:i<8):
  Calls prog 69 #[C,O aa K,O aa i] w λe w'=>e=ar (O aa 0)/\w=w':=by
 have c1:=h.c1;have c6:=h.c6;rw[hd] at c6;have HT:=ag (Vl base N0 C BL P K nx x ls fs w h);have g1:decide ((i:Int)<0)=false:=ey ae;have g2:(i:Int)<8:=ae;clear h hd
 go_in
 go_wp2_with fail;refine(HT).cj ?_;go_wp2;go_ret;exact⟨rfl,rfl⟩
def fnd (fs:List Fl) (k:Nat):=(fs.find? λf=>f.no==(k:Int)).getD ⟨0,0,[]⟩
theorem ao5 {fs} {k:Nat} {rows:List Fv} (hl:rows.length=fs.length) (h3:∀i h1 (h2:i<fs.length),rows[i].no=fs[i].no) (h:∀j (h:j<rows.length),rows[j].no≠k):fnd fs k=⟨0,0,[]⟩:=by
 unfold fnd;rw[List.find?_eq_none.2]
 .rfl
 .intro f hf;obtain⟨i,hi,rfl⟩:=List.getElem_of_mem hf;grind
theorem ajV {fs} {k q:Nat} {rows:List Fv} hq (hl:rows.length=fs.length) (h3:∀i h1 (h2:i<fs.length),rows[i].no=fs[i].no) (h:∀j h,j<q->rows[j].no≠k) (he:rows[q].no=k):fnd fs k=fs[q]'ae:=by unfold fnd;rw[List.find?_eq_some_iff_getElem.2 ⟨by grind,q,ae,rfl,λj hj=>by grind⟩];rfl
theorem Vo base N0 C BL P K nx x ls fs w (h:og base N0 w C BL P K x nx ls fs) (hsi:x.si<=1000000) (Vp:x.sk<=1000000) (hfl:fs.length<=1000):
  Calls prog 71 #[C] w λe w'=>(∃no dv,e=ar (.agg #[O aa no,O aa (fnd fs x.si).kind,dv])/\Own aJ 5 w' N0 dv (fnd fs x.si).data)/\og base N0 w' C BL P K {x with si:=x.si+1,sk:=x.sk+1} nx ls fs/\Kp C BL P w w':=by
 have hCl:C<w.heap.size:=h.hC.lt;have h1:=h.on ((aE w w).alloc av (.cells bm 35));have hA:=((h.ajW (x':={x with si:=x.si+1}) 5 (O aa ((x.si:Int)+1)) rfl rfl).ajW (x':={x with si:=x.si+1,sk:=x.sk+1}) 7 (O aa ((x.sk:Int)+1)) rfl rfl)
 have hBA:=((Kp.refl C BL P w).setCell (p:=(C,5)) (.inl rfl) (O aa ((x.si:Int)+1))).setCell (p:=(C,7)) (.inl rfl) (O aa ((x.sk:Int)+1));have hsA:((w.setCell (C,5) (O aa ((x.si:Int)+1))).setCell (C,7) (O aa ((x.sk:Int)+1))).heap.size=w.heap.size:=au;have hw:=λz:Obj=>World.setCell_alloc_past (w:=w) z C 5 (O aa ((x.si:Int)+1)) hCl;have hw':=λz:Obj=>World.setCell_alloc_past (w:=w.setCell (C,5) (O aa ((x.si:Int)+1))) z C 7 (O aa ((x.sk:Int)+1)) (by simpa using hCl);obtain⟨wA,hwA⟩:∃wA,wA=((w.setCell (C,5) (O aa ((x.si:Int)+1))).setCell (C,7) (O aa ((x.sk:Int)+1))):=⟨_,rfl⟩
 have hWZ:((w.alloc (.cells bm 35)).setCell (C,5) (O aa ((x.si:Int)+1))).setCell (C,7) (O aa ((x.sk:Int)+1))=wA.alloc (.cells bm 35):=by rw[hw,hw',hwA]
 rw[<-hwA] at hA hBA hsA;obtain⟨w1,ku⟩:=aW (w.alloc (.cells bm 35));obtain⟨g,hg⟩:=aW w.heap.size;have ao6:w1.heap.size=g+1:=by rw[ku,hg];simp
 rw[<-ku] at h1 hWZ;obtain⟨HWZ,HA,HBA⟩:=cp hWZ hA hBA;have c5:=h1.c5;have c7:=h1.c7;have f5:=h1.afy 5;have f7:=h1.afy 7;have N7:=ag (hg.trans hsA.symm);clear h h1 hA hBA hw hw' hwA hWZ hsA
 go_in
 go_wp2;rw[<-ku,<-hg];clear ku hg;go_step3;go_wp2_with fail;rw[HWZ.o];clear ao6 c5 c7 f5 f7;have auh:=HA.on (((aE wA wA).alloc av (.cells bm 35)).alloc au (.cells bm 35));have hBB:=((aE wA wA).alloc av (.cells bm 35)).alloc au (.cells bm 35);have RA':=(aF.new wA 35 bm).alloc (.cells bm 35);have RB':=aF.new (wA.alloc (.cells bm 35)) 35 bm;rw[bR] at RB';rw[<-N7.o] at RA' RB';generalize (wA.alloc (.cells bm 35)).alloc (.cells bm 35)=w2 at*;obtain⟨rows,r1,r2,r3⟩:=HA.hF;obtain⟨n,hn⟩:=aW rows.length;obtain⟨a,c,hfv,uD⟩:=r1.bG hn.symm;have c4:w2.cell? (C,4)=some (an a n c):=by rw[<-hfv];exact auh.c4
 have UH:n<=1000:=ae;obtain⟨HBB,HRw,Aw,HFe,zK⟩:=ct hBB r1 hn r3 r2;obtain⟨HFv,RA,RB⟩:=cp hfv RA' RB';obtain⟨g2,nH⟩:=aW (g+1);rw[<-nH] at RB⊢;have di:g≠g2:=ae;have hgC:g≠C:=by have:=N7.o;have:=HA.hC.lt;omega
 have oC:=ag nH;clear auh RA' RB' hBB r1 r2 r3 hn hfv nH HWZ;go_step3;go_wp2
 go_loopw [6,31] (λ_ i wr=>∃q:Nat,q<=n/\i=O aa q/\(∀j (h:j<rows.length),j<q->rows[j].no≠(x.si:Int))/\Below w2 w2 wr) (λ_ i _=>n-(intOf i).toNat)
 case atStart=>exact⟨0,ae,rfl,λj _ h=>absurd h ae,aE _ _⟩
 case round=>
  obtain⟨q,hq,rfl,hg0,hb⟩:=hrel;obtain⟨HNo,kT⟩:=cn hg0 hb;clear hg0 hb;by_cases aT:q<n
  .have Bq:q<rows.length:=by rw[<-Aw.o];exact aT
   have k0:(0:Int)<=(q:Int):=ae;have k1:(q:Int)<(n:Int):=ae;obtain⟨g3,c3,hv3,_,hN3,hg3⟩:=HRw.jh ae;rw[HFv.o] at hv3;injection hv3 with e1 e2 e3
   subst e1;clear e2 e3;have Gy:=HRw.on (HBB.aA kT);rw[HFv.o] at Gy;have d0:wr.cell? (g3,q*3)=some (O aa rows[q].no):=(Gy.dU (i:=q) (j:=0) Bq ae).1;have d1:wr.cell? (g3,q*3+1)=some (O aa rows[q].kind):=(Gy.dU (i:=q) (j:=1) Bq ae).1;have d2:wr.cell? (g3,q*3+2)=some rows[q].data:=(Gy.dU (i:=q) (j:=2) Bq ae).1;clear Gy;have hqf:q<fs.length:=by rw[<-zK.o];exact Bq
   obtain⟨ad,nd,hdv,_⟩:=(HFe.o q Bq hqf).2.2.form;obtain⟨HDa,HDv⟩:=cn (HFe.o q Bq hqf) hdv;rw[hdv] at d2;clear hdv;by_cases he:rows[q].no=(x.si:Int)
   .have g9:(rows[q].no==(x.si:Int))=true:=by simpa using he
    have HY:=ag (ajV Bq zK (λi a b=>(HFe.o i a b).1) HNo he);rw[he] at d0;have xX:=ag (show rows[q].kind=(fs[q]).kind from HDa.o.2.1);generalize rows[q].kind=kd at*;generalize (fs[q]).data.length=nl at*;have fM:=(aE wr wr).alloc av (.cells #[O aa x.si,O aa kd,an ad nl nd] 35);have nI:=kT.aA fM;have RFa:=aF.new wr 35 #[O aa x.si,O aa kd,an ad nl nd];obtain⟨wf,hwf⟩:∃wf,wf=wr.alloc (.cells #[O aa x.si,O aa kd,an ad nl nd] 35):=⟨_,rfl⟩
    go_upto_region 9 with fail;rw[<-hwf] at nI RFa⊢;obtain⟨gf,hgf⟩:=aW wr.heap.size;rw[<-hgf] at RFa⊢;have Vq:=RB.ah nI;have J8:=RA.ah nI;obtain⟨v0,v1,v2⟩:=RFa.c3;obtain⟨e0,e1,e2⟩:=Vq.c3;have l0:=Vq.frozen 0;have l1:=Vq.frozen 1;have l2:=Vq.frozen 2;obtain⟨i0,i1,i2⟩:=J8.c3;have j0:=J8.frozen 0;have j1:=J8.frozen 1;have j2:=J8.frozen 2;have zI:=ag (HBB.aA nI);clear fM nI RFa Vq J8 hwf hgf d0 d1 d2 he;go_wp2;have hB1:=((zI.setCell (p:=(g2,0)) (show wA.heap.size<=g2 by have:=N7.o;have:=oC.o;omega) (O aa x.si)).setCell (p:=(g2,1)) (show wA.heap.size<=g2 by have:=N7.o;have:=oC.o;omega) (O aa kd)).setCell (p:=(g2,2)) (show wA.heap.size<=g2 by have:=N7.o;have:=oC.o;omega) (an ad nl nd);have U8:=((hB1.setCell (p:=(g,0)) (show wA.heap.size<=g by have:=N7.o;omega) (O aa x.si)).setCell (p:=(g,1)) (show wA.heap.size<=g by have:=N7.o;omega) (O aa kd)).setCell (p:=(g,2)) (show wA.heap.size<=g by have:=N7.o;omega) (an ad nl nd);rw[Exit.noGoto_ret];refine bodyPost_ret (v:= .agg #[O aa x.si,O aa kd,an ad nl nd]) (by simp[results,Tryz.results71,go_sem, *]) rfl ⟨⟨_,_,by rw[HY.o,xX.o],?_⟩,HA.on U8,HBA.on U8⟩;rw[HY.o];have hd:=HDa.o.2.2.on U8;rw[HDv.o] at hd;exact hd
   .have g9:(rows[q].no==(x.si:Int))=false:=by simpa using he
    have ao7:=ag (show∀j (h:j<rows.length),j<q+1->rows[j].no≠(x.si:Int) from λj h hj=>by
     by_cases e:j=q
     .subst e;exact he
     .exact HNo.o j h ae)
    have HQ:=ag aT;clear he;go_wp2;go_roundw
    case rel=>exact⟨q+1,HQ,by go_num,ao7,kT.alloc kT.size _⟩
    case measure=>have:=HQ.o;simp[intOf];omega
  .obtain rfl:q=n:=ae;have Dh:=ag (ao5 zK (λi a b=>(HFe.o i a b).1) (λj h=>HNo.o j h (by rw[Aw.o];exact h)));have Vq:=RB.ah kT.o;have J8:=RA.ah kT.o;obtain⟨e0,e1,e2⟩:=Vq.c3;obtain⟨i0,i1,i2⟩:=J8.c3;have j0:=J8.frozen 0;have j1:=J8.frozen 1;have j2:=J8.frozen 2;clear Vq J8;have zI:=ag (HBB.aA kT);go_wp2;have U8:=((zI.setCell (p:=(g,0)) (show wA.heap.size<=g by have:=N7.o;omega) (O aa 0)).setCell (p:=(g,1)) (show wA.heap.size<=g by have:=N7.o;omega) (O aa 0)).setCell (p:=(g,2)) (show wA.heap.size<=g by have:=N7.o;omega) (an none 0 0);rw[Exit.noGoto_ret];refine bodyPost_ret (v:= .agg bm) (by simp[results,Tryz.results71,go_sem, *]) rfl ⟨⟨_,_,by rw[Dh.o],?_⟩,HA.on U8,HBA.on U8⟩;rw[Dh.o];exact Own.nil _ _
theorem wU {w ops rest o ac Q} (mF:o.guard=none) d s
  (ho:o.op= .call {callee:= .builtin .copy,args:=#[d,s],argTypes:=#[23,23]}) base g L C xs
  (hd:ac.eval d=an (g,0) L C) (bz:Own aJ 5 w base (an (g,0) L C) xs)
  B a m c ys (hs:ac.eval s=an a m c) (hy:Bytes w B a m ys)
  (h:∀w',Hid (Own aJ 5 w' base (an (some ⟨g,0,none⟩) L C) (ys.take L++xs.drop m))->Hid (Below base w w')->wpList prog ops Q rest (ac.put o.dst (goInt (Nat.min m L))) w'):wpList prog ops Q (o::rest) ac w:=by
 have hl:=hy.len;rcases bz.2 with⟨hv,_⟩|⟨g',cap,cur,hv,jf,hg,pR,hmx,iG,ht⟩
 .cases hv
 .injection hv with e1 e2 e3
  injection e1 with e1
  injection e1 with e1
  subst e1 e3;have NI:xs.length=L:=e2.symm;have uF:cur.toList.length=C:=by simpa using iG
  rw[NI] at pR ht;obtain⟨k,hk⟩:=aW (Nat.min m L);have hkm:k<=m:=by grind
  have hkL:k<=L:=by grind
  have htk:ys.take L=ys.take k:=by
   grind
  have hdr:xs.drop m=xs.drop k:=by
   rcases Nat.le_total m L with Gz|Gz
   .grind
   .have:k=L:=by grind
    rw[this,List.drop_of_length_le ae,List.drop_of_length_le ae]
  have hyk:(ys.take k).length=k:=by grind
  have gm:((ys.take k).map aJ).length=k:=by rw[bO,hyk]
  rw[<-hk] at h;refine wpList_copy_splice mF d s _ _ ho 5 Tryz.underlying23 Fa _ a _ _ m c hd hs g 0 cur.toList 5 (by simpa using hg) ((ys.take k).map aJ) (by rw[gm,hk]) ?_ (by rw[gm,uF];omega)
   (λv hv=>by obtain⟨x,_,rfl⟩:=bw.1 hv;exact qL x) base w (aE _ _) jf ?_
  .intro hp;rw[gm] at hp;obtain⟨b,o',ha,_,hc⟩:=hy.2.2 ae;refine⟨rfl,(b,o'),ha,λj v hj=>?_⟩;rw[List.getElem?_map] at hj
   cases hq:(ys.take k)[j]? with
   |none=>rw[hq] at hj;cases hj
   |some y=>
    rw[hq] at hj;injection hj with hj
    subst hj;obtain⟨vJ,hje⟩:=dq.1 hq;rw[hyk] at vJ;rw[Addr.add_mid,hc j ae,<-hje,List.getElem_take]
  .intro w' hg' hb;rw[gm];refine h w' (hid ?_) (ag hb);have hlen:(ys.take L++xs.drop m).length=L:=by rw[htk,hdr,bE,dk,hyk,NI];omega
   refine⟨by rw[bO,da],.inr ⟨g,C,(splice cur.toList 0 ((ys.take k).map aJ)).toArray,by rw[hlen],jf,hg',by rw[hlen];exact pR,hmx,?_,?_⟩⟩
   .rw[cU,length_splice _ _ _ (by rw[gm,uF];omega),uF,da]
   .rw[hlen];show(splice cur.toList 0 ((ys.take k).map aJ)).take (L*1)=_;rw[da,uf _ _ _ _ (by rw[gm];omega) (by rw[uF];omega)];have ht':cur.toList.take L=xs.map aJ:=by simpa using ht
    rw[ht',gm,List.take_zero,cP,Nat.zero_add,htk,hdr,cA,List.map_drop]
def yz (n k:Nat):List UInt8:=bt k 255++bt (n-k) 0
theorem PV {n k} (h:k<=n):(yz n k).length=n:=by simp[yz];omega
theorem J9 n:yz n 0=bt n 0:=by simp[yz]
theorem PW n:yz n n=bt n 255:=by simp[yz]
theorem Ko {n k} (h:k<n):(yz n k).set k 255=yz n (k+1):=by unfold yz;rw[List.set_append_right _ _ au,dx,Nat.sub_self,show n-k=(n-(k+1))+1 by omega,List.replicate_succ,List.set_cons_zero,List.replicate_succ',cQ];rfl
theorem Kr (n:Nat) w (hn:n<=1000000):
  Calls prog 128 #[O aa n] w λe w'=>(∃v,e=ar v/\Own aJ 5 w' w v (bt n 255))/\Below w w w':=by
 have wI:=GG n ae;obtain⟨HO0,gX⟩:=cn (kU w w n av ae) ((aE w w).alloc av (.cells (cB n (O .u8 0)) 5))
 go_in
 go_wp2;clear wI
 go_loopw [4,9] (λ_ i wr=>∃k:Nat,k<=n/\i=O aa k/\Own aJ 5 wr w (an (w.heap.size,0) n n) (yz n k)/\Below w w wr) (λ_ i _=>n-(intOf i).toNat)
 case atStart=>exact⟨0,ae,rfl,by rw[J9];exact HO0.o,gX⟩
 case round=>
  obtain⟨k,hk,rfl,ho,hb⟩:=hrel;obtain⟨HO,HB⟩:=cn ho hb;clear ho hb HO0 gX;by_cases aT:k<n
  .obtain⟨c0,f0⟩:=HO.dU (k:=k) (by rw[PV hk];exact aT);have g1:(0:Int)<=(k:Int):=ae;have g2:(k:Int)<(n:Int):=ae;have HS:=ag (HO.set k 255);rw[Ko aT] at HS;go_wp2;go_roundw
   case rel=>exact⟨k+1,ae,by go_num,HS,HB.setCell (p:=(w.heap.size,k)) av _⟩
   case measure=>simp[intOf];omega
  .obtain rfl:k=n:=ae;go_wp2;go_ret;exact⟨⟨_,rfl,by have:=HO.o;rw[PW] at this;exact this⟩,HB⟩
def yj (data:List UInt8):=data++bt (96-data.length) 255
theorem vH {data} (h:data.length<=96):(yj data).length=96:=by simp[yj];omega
theorem Vr {data m} (hm:data.length=m) (h:m<=96):data.take 96++(bt 96 255).drop m=yj data:=by unfold yj;rw[cL ae,List.drop_replicate,hm]
theorem iY a n c xs w (hx:Bytes w w a n xs):
  Calls prog 28 #[an a n c] w λe w'=>(∃v,e=ar v/\Own aJ 5 w' w v xs)/\Below w w w':=by
 have HX:=ag hx;have AA:=hx.room;have Fb:=λw=>Lib.run_eql_slice_nil (P:=prog) w 23 5 a n c 0 0 Tryz.underlying23
 cases a with
 |none=>
  have hn:xs=[]:=by
   have hl:=hx.len;by_cases h0:n=0
   .subst h0;exact ek hl
   .obtain⟨b,o,_,ha,_⟩:=hx.YJ (k:=0) ae;cases ha
  subst hn;simp only[Option.isNone_none] at Fb;clear hx
  go_in
  go_wp2;go_ret;exact⟨⟨_,rfl,Own.nil _ _⟩,aE _ _⟩
 |some p=>
  simp only[Option.isNone_some] at Fb;obtain⟨ho,wO,bP⟩:=cp (Own.made (f:=aJ) (e:=5) (w:=w) (base:=w.heap.size) (xs:=([]:List UInt8)) av au) (HX.alloc (.cells #[] 5)) ((aE w w).alloc av (.cells #[] 5));clear hx
  go_in
  go_wp2_with (at_builtin;refine ik rfl _ _ rfl w _ [] rfl ho _ _ n _ xs rfl wO (by simp only[cV];omega) au ?_;intro v1 w1 Rq aZ)
  go_ret;refine⟨⟨_,rfl,?_⟩,bP.trans aZ⟩;have h:=Rq.o;rw[cP] at h;exact h
theorem abv.kq {S M T w w' fv rows} (h:abv S M w fv rows) (hf:∀g,fv.ownBlock=some g->S g/\¬M g) (hk:Kq T w w') (hT:∀k,S k->¬M k->¬T k):abv S M w' fv rows:=by obtain⟨h4,h6,h8⟩:=h;refine⟨h4.kq hk λg hg=>hT g (hf g hg).1 (hf g hg).2,h6,λi a=>?_⟩;obtain⟨k3,L,l1,l2,l3⟩:=h8 i a;exact⟨k3,L,l1,l2.kq hk λg hg=>hT g (l3 g hg).1 (l3 g hg).2,l3⟩
theorem Rt.own {S M w fv si x} (h:Rt S M w fv si x):∀g,fv.ownBlock=some g->S g/\¬M g:=by
 rcases h with h|⟨_,_,h3,_⟩
 .intro g hg;rw[h.2] at hg;cases hg
 .exact h3
theorem Rt.si {S M w fv si x} (h:Rt S M w fv si x) (hw:x.aC<=1099511627776) (hb:x.bad=true):wrap64 (si+1)=si+1:=by
 rcases h with h|⟨_,h2,_⟩
 .rw[h.1] at hb;cases hb
 .exact IntWalk.wrap64_in (si+1) ⟨ae,ae⟩
section
variable {NB B C BL:Nat} {S:Nat->Prop} {w:World} {ps:Nat->Nat} {bl:Nat->Pb}
theorem eu.aAv (h:eu NB B S w C BL ps bl) x:eu NB B S (w.setCell (C,8) (O aa x)) C BL ps bl:=h.ajW 8 _ λ_ _ sk _=>⟨sk,x,rfl⟩
def Flt (S M:Nat->Prop) (x y:Pb) (e:Ending) (w':World):=
 (e=ar (.agg bm)/\mG x y true)\/∃no dv L,e=ar (.agg #[O aa no,O aa 3,dv])/\L.length<=96/\Own aJ 5 w' 0 dv L/\(∀g,dv.ownBlock=some g->S g/\¬M g)/\mG x y false
theorem AB (h:eu NB B S w C BL ps bl) (PX:(bl NB).aC<=1099511627776):
  Calls prog 71 #[C] w λe w'=>∃y,Flt S (Mu NB C BL ps) (bl NB) y e w'/\eu NB B S w' C BL ps (upd bl NB y)/\Kq (λq=>q=C) w w':=by
 obtain⟨fv,si,sk,rd,hC,hf⟩:=h.hC;have c5:w.cell? (C,5)=some (O aa si):=hC.aj rfl;have c7:w.cell? (C,7)=some (O aa sk):=hC.aj rfl;have c4:w.cell? (C,4)=some fv:=hC.aj rfl;have f5:=h.afy 5;have f7:=h.afy 7;have hwp:=hf.si PX;obtain⟨J7,aj3⟩:=aW (wrap64 (si+1));rw[<-aj3] at hwp;obtain⟨rows,Gy,auk⟩:=hf.rows;have bz:=hf.own;obtain⟨Vs,aAw,jI⟩:=cp (hf.ok hwp) (λq hq he=>auk q hq he J7 hwp) (λ(y:Pb) (hy:Rt S (Mu NB C BL ps) w fv J7 y)=>h.stroke hC J7 (wrap64 (sk+1)) hy);rw[aj3] at jI;have hK:=(Kq.one (w:=w) (C,5) (O aa (wrap64 (si+1)))).setCell (p:=(C,7)) (.inl rfl) (O aa (wrap64 (sk+1)));have HG:=ag (show((w.setCell (C,5) (O aa (wrap64 (si+1)))).setCell (C,7) (O aa (wrap64 (sk+1)))).heap.size=w.heap.size by simp);have hrA:=Gy.kq bz hK λk _ hm e=>hm (.inl e);have c4A:((w.setCell (C,5) (O aa (wrap64 (si+1)))).setCell (C,7) (O aa (wrap64 (sk+1)))).cell? (C,4)=some fv:=by
  have q:=((hC.set 5 (O aa (wrap64 (si+1)))).set 7 (O aa (wrap64 (sk+1))))
  rw[abw] at q;exact q.aj rfl
 obtain⟨HRA,HK,N8,aAy⟩:=cr hrA hK c4A bz;have aT:=h.ltC;have HSi:=ag aj3;clear h hC hK hf Gy hrA bz auk hwp aj3 c4 c4A PX
 go_in
 go_wp2;go_step3;go_wp2_with fail;clear c5 c7 f5 f7;obtain⟨wA,hwA⟩:=aW ((w.setCell (C,5) (O aa (wrap64 (si+1)))).setCell (C,7) (O aa (wrap64 (sk+1))));rw[<-hwA] at jI HG HRA HK N8⊢;clear hwA;generalize hg:w.heap.size=g at*;have hlA:C<wA.heap.size:=by have:=HG.o;omega
 have hBB:=((aE wA wA).alloc av (.cells bm 35)).alloc au (.cells bm 35);have RA':=(aF.new wA 35 bm).alloc (.cells bm 35);have RB':=aF.new (wA.alloc (.cells bm 35)) 35 bm;rw[bR] at RB';rw[HG.o] at RA' RB';obtain⟨w2,jT⟩:=aW ((wA.alloc (.cells bm 35)).alloc (.cells bm 35));rw[<-jT] at RA' RB' hBB⊢;clear jT;obtain⟨n,hn⟩:=aW rows.length;have PY:=HRA.kq aAy.o (Kq.of hBB) (T:=λ_=>False) λ_ _ _ h=>h;obtain⟨a,c,hfv,uD⟩:=PY.1.bG hn.symm;have c4:w2.cell? (C,4)=some (an a n c):=by rw[<-hfv];exact(hBB.cell (p:=(C,4)) hlA).trans N8.o
 have UH:n<=1000:=by have:=PY.2.1;omega
 obtain⟨HBB,HRw,Aw⟩:=cp hBB PY hn;obtain⟨HFv,RA,RB⟩:=cp hfv RA' RB';obtain⟨g2,nH⟩:=aW (g+1);rw[<-nH] at RB⊢;have di:g≠g2:=ae;obtain⟨oC,N7,HgW⟩:=cp nH HG.symm hg;clear RA' RB' hBB PY hn hfv nH hlA hg;go_step3;go_wp2
 go_loopw [6,31] (λ_ i wr=>∃q:Nat,q<=n/\i=O aa q/\(∀j (h:j<rows.length),j<q->rows[j].no≠si)/\Below w2 w2 wr) (λ_ i _=>n-(intOf i).toNat)
 case atStart=>exact⟨0,ae,rfl,λj _ h=>absurd h ae,aE _ _⟩
 case round=>
  obtain⟨q,hq,rfl,hg0,hb⟩:=hrel;obtain⟨HNo,kT⟩:=cn hg0 hb;clear hg0 hb;by_cases aT:q<n
  .have Bq:q<rows.length:=by rw[<-Aw.o];exact aT
   have k0:(0:Int)<=(q:Int):=ae;have k1:(q:Int)<(n:Int):=ae;obtain⟨g3,c3,hv3,_,hN3,hg3⟩:=HRw.o.1.jh ae;rw[HFv.o] at hv3;injection hv3 with e1 e2 e3
   subst e1;clear e2 e3;have Gy:=HRw.o.1.on kT.o;rw[HFv.o] at Gy;have d0:wr.cell? (g3,q*3)=some (O aa rows[q].no):=(Gy.dU (i:=q) (j:=0) Bq ae).1;have d1:wr.cell? (g3,q*3+1)=some (O aa rows[q].kind):=(Gy.dU (i:=q) (j:=1) Bq ae).1;have d2:wr.cell? (g3,q*3+2)=some rows[q].data:=(Gy.dU (i:=q) (j:=2) Bq ae).1;clear Gy;obtain⟨mr,Ld,Ru,hod,hog⟩:=HRA.o.2.2 q Bq;obtain⟨ad,nd,hdv,_⟩:=hod.form;obtain⟨HDa,UI,HDo,HDv⟩:=cr hod Ru hog hdv;clear hod hog;rw[hdv] at d2;clear hdv;by_cases he:rows[q].no=si
   .have g9:(rows[q].no==si)=true:=by simpa using he
    have HY:=ag (aAw.o q Bq he);rw[he] at d0;rw[mr] at d1;obtain⟨nl,N9⟩:=aW Ld.length;rw[<-N9] at d2 HDv;have HNl:=ag N9;clear N9 mr Ru;have fM:=(aE wr wr).alloc av (.cells #[O aa si,O aa 3,an ad nl nd] 35);have nI:=kT.aA fM;have RFa:=aF.new wr 35 #[O aa si,O aa 3,an ad nl nd];obtain⟨wf,hwf⟩:=aW (wr.alloc (.cells #[O aa si,O aa 3,an ad nl nd] 35));go_upto_region 9 with fail;rw[<-hwf] at nI RFa⊢;obtain⟨gf,hgf⟩:=aW wr.heap.size;rw[<-hgf] at RFa⊢;have Vq:=RB.ah nI;have J8:=RA.ah nI;obtain⟨v0,v1,v2⟩:=RFa.c3;obtain⟨e0,e1,e2⟩:=Vq.c3;have l0:=Vq.frozen 0;have l1:=Vq.frozen 1;have l2:=Vq.frozen 2;obtain⟨i0,i1,i2⟩:=J8.c3;have j0:=J8.frozen 0;have j1:=J8.frozen 1;have j2:=J8.frozen 2;have zI:=ag (HBB.aA nI);clear fM nI RFa Vq J8 hwf hgf d0 d1 d2 he;go_wp2;have hB1:=((zI.setCell (p:=(g2,0)) (show wA.heap.size<=g2 by have:=N7.o;have:=oC.o;omega) (O aa si)).setCell (p:=(g2,1)) (show wA.heap.size<=g2 by have:=N7.o;have:=oC.o;omega) (O aa 3)).setCell (p:=(g2,2)) (show wA.heap.size<=g2 by have:=N7.o;have:=oC.o;omega) (an ad nl nd);have U8:=((hB1.setCell (p:=(g,0)) (show wA.heap.size<=g by have:=N7.o;omega) (O aa si)).setCell (p:=(g,1)) (show wA.heap.size<=g by have:=N7.o;omega) (O aa 3)).setCell (p:=(g,2)) (show wA.heap.size<=g by have:=N7.o;omega) (an ad nl nd);rw[Exit.noGoto_ret];obtain⟨y,hy1,hy2⟩:=HY.o;refine bodyPost_ret (v:= .agg #[O aa si,O aa 3,an ad nl nd]) (by simp[results,Tryz.results71,go_sem, *]) rfl ⟨y,.inr ⟨si,an ad nl nd,Ld,rfl,UI,?_,?_,hy1⟩,(jI.o y (HSi.o▸hy2)).on U8,HK.on U8⟩
    .have h8:=(HDa.kq (T:=λ_=>False) (Kq.of U8) λ_ _ h=>h)
     rw[HDv.o] at h8;exact h8
    .have h9:=HDo.o;rw[HDv.o] at h9;exact h9
   .have g9:(rows[q].no==si)=false:=by simpa using he
    have ao7:=ag (show∀j (h:j<rows.length),j<q+1->rows[j].no≠si from λj h hj=>by
     by_cases e:j=q
     .subst e;exact he
     .exact HNo.o j h ae)
    have HQ:=ag aT;clear he;go_wp2;go_roundw
    case rel=>exact⟨q+1,HQ,by go_num,ao7,kT.alloc kT.size _⟩
    case measure=>have:=HQ.o;simp[intOf];omega
  .obtain rfl:q=n:=ae;have Vq:=RB.ah kT.o;have J8:=RA.ah kT.o;obtain⟨e0,e1,e2⟩:=Vq.c3;obtain⟨i0,i1,i2⟩:=J8.c3;have j0:=J8.frozen 0;have j1:=J8.frozen 1;have j2:=J8.frozen 2;clear Vq J8;have zI:=ag (HBB.aA kT);go_wp2;have U8:=((zI.setCell (p:=(g,0)) (show wA.heap.size<=g by have:=N7.o;omega) (O aa 0)).setCell (p:=(g,1)) (show wA.heap.size<=g by have:=N7.o;omega) (O aa 0)).setCell (p:=(g,2)) (show wA.heap.size<=g by have:=N7.o;omega) (an none 0 0);rw[Exit.noGoto_ret];obtain⟨y,hy1,hy2⟩:=Vs.o;refine bodyPost_ret (v:= .agg bm) (by simp[results,Tryz.results71,go_sem, *]) rfl ⟨y,.inl ⟨rfl,hy1⟩,(jI.o y (HSi.o▸hy2)).on U8,HK.on U8⟩
end
def Vt:Option (List UInt8)->List UInt8
 |none=>bt 96 255
 |some L=>L
section
variable {NB B C BL:Nat} {S:Nat->Prop} {w:World} {ps:Nat->Nat} {bl:Nat->Pb}
theorem wV (h:eu NB B S w C BL ps bl) {k i:Nat} (hk:k<NB) (hi:i<8):
  Calls prog 223 #[C,O aa k,O aa i] w λe w'=>(∃a c,e=ar (ao #[an a 96 c,O aa 0])/\96<=c/\Own aJ 5 w' w (an a 96 c) (Vt ((bl k).qB i)))/\eu NB B S w' C BL ps bl/\Kq (λq=>q=C) w w':=by
 have HA:=ag (oM h hk hi);obtain⟨fv,si,sk,rd,hC,_⟩:=h.hC;obtain⟨r1,hr1⟩:=Iu (IntKind.i64.wrap (rd+1));have c8:=hC.aj (i:=8) (v:=O aa rd) rfl;have f8:=hC.frozen 8;have h1:=h.aAv r1;have fO:Kq (λq=>q=C) w (w.setCell (C,8) (O aa r1)):=Kq.one ⟨_,_,none⟩ _;obtain⟨w1,ku⟩:=aW (w.setCell (C,8) (O aa r1));rw[<-ku] at h1 fO;have c3:=h1.c3;have b0:=(h1.b0 hk).1;obtain⟨v,p0,_,hv⟩:=h1.page hk hi;have g1:(0:Int)<=(k:Int):=ae;have g2:(k:Int)<(NB:Int):=ae;have g3:(0:Int)<=(i:Int):=ae;have g4:(i:Int)<8:=ae;obtain⟨HF,H1,iH,HW1⟩:=cr (qC h1) h1 fO ku
 cases hls:(bl k).qB i with
 |none=>
  rw[hls] at hv;have hv':v=an none 0 0:=hv;subst hv';have Fb:=λw=>Lib.run_eql_slice_nil (P:=prog) w 23 5 none 0 0 0 0 Tryz.underlying23;simp only[Option.isNone_none] at Fb;clear h h1 fO ku hv hls hC
  go_in
  go_wp2_with fail;refine(HA).cj ?_;go_upto_region 5 with fail;rw[<-HW1.o];clear c8 f8;go_wp2_with fail;refine HF.cj ?_;go_wp2_with fail;go_call(Kr 96 w1 ae) as e w2 ⟨⟨v2,rfl,ho⟩,aZ⟩;obtain⟨a,c,rfl,hc⟩:=ho.bG (dx ..);obtain⟨HO,HC,H2,ja⟩:=cr (ho.mono iH.size) hc (H1.on aZ) (iH.on aZ);clear ho aZ hc;go_wp2_with fail;go_ret2;exact⟨⟨a,c,rfl,HC,HO⟩,H2,ja⟩
 |some L=>
  rw[hls] at hv;obtain⟨hlen,bz,_⟩:=hv;obtain⟨ga,ca,rfl,hca,_,_⟩:=bz.jh ae;rw[hlen] at p0 hca bz;obtain⟨Rq,UJ⟩:=cn bz hlen;have Fb:=λw=>Lib.run_eql_slice_nil (P:=prog) w 23 5 (ga,0) 96 ca 0 0 Tryz.underlying23;simp only[Option.isNone_some] at Fb;clear h h1 fO ku hls bz hlen hC
  go_in
  go_wp2_with fail;refine(HA).cj ?_;go_upto_region 5 with fail;rw[<-HW1.o];clear c8 f8;go_wp2_with fail;go_call(iY (some ⟨ga,0,none⟩) 96 ca L w1 (Rq.arr (by rw[UJ.o];omega))) as e w2 ⟨⟨v2,rfl,ho⟩,aZ⟩;obtain⟨a,c,rfl,hc⟩:=ho.bG UJ.o;obtain⟨HO,HC,H2,ja⟩:=cr (ho.mono iH.size) hc (H1.on aZ) (iH.on aZ);clear ho aZ hc;go_wp2_with fail;go_ret2;exact⟨⟨a,c,rfl,HC,HO⟩,H2,ja⟩
end
section
variable {NB B C BL:Nat} {S:Nat->Prop} {w:World} {ps:Nat->Nat} {bl:Nat->Pb}
def uG (x:Pb) (i:Nat) L:={x with qB:=upd x.qB i (some L),nx:=i+1}
def ao8 (x:Pb) (i:Nat) L:={x with qB:=upd x.qB i (some L)}
theorem qE {α} f k (u v:α):upd (upd f k u) k v=upd f k v:=by
 funext j
 unfold upd
 split<;>rfl
theorem GH (h:eu NB B S w C BL ps bl) {k i} (hk:k<NB) (hi:i<8) (hn:(bl k).nx=i) a n c L (hv:PgS S (Mu NB C BL ps) w (an a n c) (some L)):
  Calls prog 72 #[(BL,k*5),an a n c] w λe w'=>e=ar (ao #[])/\eu NB B S w' C BL ps (upd bl k (uG (bl k) i L))/\Kq (λq=>q=BL\/q=ps k) w w':=by
 have hd:=h.on (ak w);have b0:=(hd.b0 hk).1;have b1:w.drew.cell? (BL,k*5+1)=some (O aa i):=by rw[<-hn];exact(hd.b1 hk).1
 obtain⟨v,p0,p1,_⟩:=hd.page hk hi;obtain⟨H1,bV⟩:=cn ((h.afz (i:=i) hk (an a n c) (some L) hv (ao8 (bl k) i L) rfl rfl).on (ak _)) (((Kq.refl (λq=>q=BL\/q=ps k) w).setCell (p:=(ps k,i)) (.inl (.inr rfl)) (an a n c)).on (ak _));have dBP:ps k≠BL:=h.PZ.pb k hk;have g1:(0:Int)<=(i:Int):=ae;have g2:(i:Int)<8:=ae;have HN:=ag hn;clear h hv hd hn;generalize hP:ps k=P at*;have HPe:=ag hP;clear hP
 go_in
 go_wp2_with fail;refine iE (λW'=>W'.cell? (BL,k*5)=some (an (P,0) 8 8)/\W'.cell? (BL,k*5+1)=some (O aa i)) ⟨b0,b1⟩ (λaY=>?_);refine dw 0 BL (k*5) ?_;refine aS 1 BL (k*5) ?_;refine aS 2 BL (k*5) ?_;refine kS 3 (an (P,0) 8 8) (λ_ aK=>aK.1) ?_;refine dw 4 BL (k*5) ?_;refine aS 5 BL (k*5) ?_;refine aS 6 BL (k*5+1) ?_;refine jV 7 (i:Int) (λ_ aK=>aK.2) ?_;refine dG 8 (an a n c) ?_;refine aS 9 P i ?_;refine bY 10 (λK' hK=>?_);go_simp;refine hK.out _ _ ⟨(cK _ _ _ _ (by simpa using dBP)).trans aY.1,(cK _ _ _ _ (by simpa using dBP)).trans aY.2⟩ (λdh=>?_)
 refine eH ?_;clear aY dh b0 b1 p0 p1;obtain⟨w2,jT⟩:=aW ((w.setCell (P,i) (an a n c)).drew);rw[<-jT] at H1 bV;have c1:=(H1.b1 hk).1;have f1:=(H1.b1 hk).2;rw[upd_same] at c1;have c1':w2.cell? (BL,k*5+1)=some (O aa i):=by rw[<-HN.o];exact c1
 have H2:=ag (H1.setB (k:=k) (j:=1) hk ae (O aa ((i+1:Nat))) (uG (bl k) i L) (by rw[upd_same];rfl) (by rw[upd_same];rfl));rw[qE] at H2;have df:=ag (bV.setCell (p:=(BL,k*5+1)) (.inl (.inl rfl)) (O aa ((i+1:Nat))));have e1:((i+1:Nat):Int)=(i:Int)+1:=ae;rw[e1] at H2 df;rw[<-jT];clear jT e1 c1;go_wp2;go_end0;exact⟨rfl,H2,df⟩
theorem eu.base (h:eu NB B S w C BL ps bl):B<=w:=by have h1:=h.lo C (h.hS C (.inl rfl));have h2:=h.ltC;omega
theorem eu.up {w0} (h:eu NB B S w C BL ps bl) (h0:B<=w0.heap.size):eu NB B (Up S w0 w) w C BL ps bl:=by grind[Up,eu.wide,eu.lo,eu.hi]
theorem eu.Ob {w0 w1} (h:eu NB B (Up S w0 w1) w C BL ps bl) (h0:B<=w0) (hs:w1<=w.heap.size):eu NB B (Up S w0 w) w C BL ps bl:=by grind[Up,eu.wide,eu.lo,eu.hi]
theorem eu.re {w0 wa wb} (h:eu NB B (Up S wa wb) w C BL ps bl) (h0:B<=w0.heap.size) (h1:w0.heap.size<=wa.heap.size) (hs:wb<=w.heap.size):eu NB B (Up S w0 w) w C BL ps bl:=by grind[Up,eu.wide,eu.lo,eu.hi]
theorem eu.anb {w0} (h:eu NB B S w C BL ps bl) {v L} (hl:L.length=96) (ho:Own aJ 5 w w0.heap.size v L) (hs:∀k,S k->k<w0.heap.size):PgS (Up S w0 w) (Mu NB C BL ps) w v (some L):=
 ⟨hl,ho.mono (bN _),λg hg=>⟨.inr (ho.aN g hg),λhm=>by have:=hs g (h.hS g hm);have:=(ho.aN g hg).1;omega⟩⟩
theorem Rw a m c data (h:eu NB B S w C BL ps bl) (hx:Bytes w w a m data) (hm:m<=96):
  Calls prog 73 #[C,an a m c] w λe w'=>(∃v,e=ar v/\Own aJ 5 w' w v (yj data))/\Below w w w':=by
 obtain⟨HF,HX⟩:=cn (qC h) hx;have hl:=hx.len;clear h hx
 go_in
 go_wp2_with fail;refine(HF).cj ?_;go_wp2_with fail;go_call(Kr 96 w ae) as e w1 ⟨⟨v,rfl,ho⟩,hb⟩;obtain⟨g,cc,hv,UK,hg,_⟩:=ho.jh au;rw[dx] at hv UK;subst hv;obtain⟨HO,HB,yg⟩:=cp ho hb (HX.on hb);clear ho hb
 go_wp2_with (with_reducible refine wU rfl _ _ rfl w g 96 cc _ rfl HO.o _ a m c data rfl yg.o ?_;intro w2 tJ df)
 go_ret;refine⟨⟨_,rfl,?_⟩,HB.trans df⟩;have h5:=tJ.o;rw[Vr hl hm] at h5;exact h5
def aAB (NB B:Nat) (S:Nat->Prop) (w:World) (C BL:Nat) (ps:Nat->Nat) (bl:Nat->Pb) (k i:Nat) (bs:List UInt8) (e:Ending) w':=
 ∃y L,((e=ar (O aa 0)/\mG (bl NB) y true/\L=bs)\/(e=ar (O aa 11)/\mG (bl NB) y false/\L.length=96))/\eu NB B (Up S w w') w' C BL ps (upd (upd bl NB y) k (uG (bl k) i L))/\Kq S w w'
theorem xN (h:eu NB B S w C BL ps bl) (PX:(bl NB).aC<=1099511627776) {k i} (hk:k<NB) (hi:i<8) (hn:(bl k).nx=i) (bP:(bl k).bad=false) (aZ:(bl k).broken=false) a c bs (hx:Own aJ 5 w 0 (an a 96 c) bs) (AL:∀g,Value.ownBlock (an a 96 c)=some g->¬S g):
  Calls prog 27 #[C,O aa k,O aa i,an a 96 c] w (aAB NB B S w C BL ps bl k i bs):=by
 obtain⟨HA,HF,HFa⟩:=cp (oM h hk hi) (qC h) (AB h PX);have c3:=h.c3;have b1:=(h.b1 hk).1;have b2:=(h.b2 hk).1;have b3:=(h.b3 hk).1;rw[hn] at b1;rw[aZ] at b2;rw[bP] at b3;have g1:(0:Int)<=(k:Int):=ae;have g2:(k:Int)<(NB:Int):=ae;obtain⟨HX,kz,Kt⟩:=cp hx (show bs.length=96 by obtain⟨_,_,e,_⟩:=hx.form;injection e with _ e2 _;exact e2.symm) AL;obtain⟨HH,HNk,HN⟩:=cp h (show∀y,upd bl NB y k=bl k from λy=>aG _ _ (Nat.ne_of_lt hk)) (show∀y,(upd bl NB y k).nx=i from λy=>by rw[aG _ _ (Nat.ne_of_lt hk)];exact hn);clear h hx AL hn bP aZ PX
 go_in
 go_wp2_with fail;refine(HA).cj ?_;go_wp2_with fail;refine HF.cj ?_;go_wp2_with fail;go_call HFa as e w1 ⟨y,hfl,h1,fO⟩;rcases hfl with⟨rfl,hst⟩|⟨no,dv,L,rfl,Ru,hod,hog,hst⟩
 .have jI:=ag hst;have fM:=(aE w1 w1).alloc av (.cells bm 35);obtain⟨H1,iH⟩:=cn (h1.on fM) ((fO.mono (T':=S) λq hq=>hq▸HH.hS C (.inl rfl)).on fM);have yg:=ag (HX.kq iH Kt);clear h1 fO fM hst;go_wp2_with fail;go_call(iY a 96 c bs _ (yg.arr (by rw[kz.o];omega))) as e w3 ⟨⟨v,rfl,hv⟩,bJ⟩;have jZ:=ag (iH.on bJ);have hhi:=HH.hi;have iG:=iH.size;have EM:=ag ((H1.on bJ).up (w0:=w) HH.base);have hlen:=kz.o;obtain⟨a3,c3,rfl,xM⟩:=hv.bG hlen;have HV:=ag ((H1.on bJ).anb (w0:=w) hlen (hv.mono iG) hhi);clear bJ hv xM hlen hhi iG;go_wp2_with fail;go_call(GH EM hk hi (HN.o y) a3 96 c3 bs HV) as e w4 ⟨rfl,h4,oQ⟩;rw[HNk.o y] at h4;obtain⟨kX,H4⟩:=cn (jZ.aA oQ λq hq=> .inl (by rcases hq with rfl|rfl;exact HH.hS _ (.inr (.inl rfl));exact HH.hS _ (.inr (.inr ⟨k,hk,rfl⟩)))) (h4.Ob HH.base oQ.size);clear h4 oQ;go_wp2_with fail;go_ret;exact⟨y,bs,.inl ⟨rfl,jI,rfl⟩,H4,kX⟩
 .have jI:=ag hst;obtain⟨m,hm⟩:=aW L.length;obtain⟨ad,nd,rfl,hnd⟩:=hod.bG hm.symm;have apa:m<=96:=by rw[hm];exact Ru
  have fM:=(aE w1 w1).alloc av (.cells #[O aa no,O aa 3,an ad m nd] 35);obtain⟨H1,iH,HD,UI,HMl⟩:=ct (h1.on fM) ((fO.mono (T':=S) λq hq=>hq▸HH.hS C (.inl rfl)).on fM) (hod.on fM) Ru hm;clear h1 fO fM hst hod hog Ru hm hnd;go_wp2_with fail;go_call(Rw ad m nd L H1 (HD.arr (by have:=UI.o;omega)) apa) as e w3 ⟨⟨v,rfl,hv⟩,bJ⟩;have jZ:=ag (iH.on bJ);have hhi:=HH.hi;have iG:=iH.size;have EM:=ag ((H1.on bJ).up (w0:=w) HH.base);have hlen:=vH UI.o;obtain⟨a3,c3,rfl,xM⟩:=hv.bG hlen;obtain⟨HV,HTl⟩:=cn ((H1.on bJ).anb (w0:=w) hlen (hv.mono iG) hhi) hlen;clear bJ hv xM hlen hhi iG;go_wp2_with fail;go_call(GH EM hk hi (HN.o y) a3 96 c3 (yj L) HV) as e w4 ⟨rfl,h4,oQ⟩;rw[HNk.o y] at h4;obtain⟨kX,H4⟩:=cn (jZ.aA oQ λq hq=> .inl (by rcases hq with rfl|rfl;exact HH.hS _ (.inr (.inl rfl));exact HH.hS _ (.inr (.inr ⟨k,hk,rfl⟩)))) (h4.Ob HH.base oQ.size);clear h4 oQ;go_wp2_with fail;go_ret;exact⟨y,yj L,.inr ⟨rfl,jI,HTl⟩,H4,kX⟩
end
end
section
open RowKit Maps ChangeMaps
def MapAt (P:Program) (k:TypeId) (w:World) (b:Nat) l:=
 ∃es clock,w.heap[b]?=some (.map es clock)/\es.toList.map (λe=>(e.key,e.val))=l/\(∀x∈es.toList,x.born<clock)/\(es.toList.map (·.born)).Nodup/\(l.map (·.1)).Nodup/\∀p∈l,∃kl,keyOf P k p.1=some kl
def rD (l:List (Value×Value)) (key val:Value) l':=
 (∃l1 v0 l2,l=l1++(key,v0)::l2/\l'=l1++(key,val)::l2)\/((∀p∈l,p.1≠key)/\l'=l++[(key,val)])
section
variable {P:Program} {k:TypeId} {w w':World} {b:Nat} {l l':List (Value×Value)} {key val:Value}
theorem MapAt.lt (h:MapAt P k w b l):b<w:=by obtain⟨_,_,hb,_⟩:=h;exact(Array.getElem?_eq_some_iff.1 hb).1
theorem MapAt.same (h:MapAt P k w b l) (hb:w'.heap[b]?=w.heap[b]?):MapAt P k w' b l:=by obtain⟨es,clock,h1,h2⟩:=h;exact⟨es,clock,hb.trans h1,h2⟩
theorem MapAt.on (h:MapAt P k w b l) (hb:Below w w w'):MapAt P k w' b l:=h.same (hb.block b h.lt)
theorem MapAt.alloc (h:MapAt P k w b l) o:MapAt P k (w.alloc o) b l:=h.same (Below.heap_alloc w o b h.lt)
theorem MapAt.made (w:World):MapAt P k (w.alloc (.map #[] 0)) w []:=⟨#[],0,(MapKept.heap_alloc w _).1,rfl,au,au,au,au⟩
theorem MapAt.nodup (h:MapAt P k w b l):(l.map (·.1)).Nodup:=by obtain⟨_,_,_,_,_,_,h,_⟩:=h;exact h
theorem MapAt.one (h:MapAt P k w b l) {u v} (h1:(key,u)∈l) (h2:(key,v)∈l):u=v:=by
 have hn:=h.nodup;clear h
 induction l with
 |nil=>cases h1
 |cons p t ih=>
  rw[cE,cR] at hn;rcases bS.1 h1 with e1|e1<;>rcases bS.1 h2 with e2|e2
  .rw[<-e1] at e2;injection e2 with _ e3;exact e3.symm
  .exact absurd (bw.2 ⟨_,e2,by rw[<-e1]⟩) hn.1
  .exact absurd (bw.2 ⟨_,e1,by rw[<-e2]⟩) hn.1
  .exact ih e1 e2 hn.2
theorem rD.mem (h:rD l key val l') (hn:(l.map (·.1)).Nodup) Zq v:(Zq,v)∈l'↔(Zq=key/\v=val)\/(Zq≠key/\(Zq,v)∈l):=by
 rcases h with⟨l1,v0,l2,rfl,rfl⟩|⟨h1,rfl⟩
 .rw[cA,cE,List.nodup_append,cR] at hn;obtain⟨_,⟨n2,_⟩,n4⟩:=hn;have m1:∀v,(key,v)∉l1:=λv hv=>n4 key (bw.2 ⟨_,hv,rfl⟩) key au rfl;have m2:∀v,(key,v)∉l2:=λv hv=>n2 (bw.2 ⟨_,hv,rfl⟩);simp only[cv,bS,Prod.mk.injEq];by_cases he:Zq=key
  .subst he;simp[m1,m2]
  .simp[he]
 .simp only[cv,cG,Prod.mk.injEq];by_cases he:Zq=key
  .subst he;have:(Zq,v)∉l:=λhv=>h1 _ hv rfl;simp[this]
  .simp[he]
theorem rD.len (h:rD l key val l'):((∃v,(key,v)∈l)/\l'.length=l.length)\/((∀p∈l,p.1≠key)/\l'.length=l.length+1):=by
 rcases h with⟨l1,v0,l2,rfl,rfl⟩|⟨h1,rfl⟩
 .exact .inl ⟨⟨v0,au⟩,au⟩
 .exact .inr ⟨h1,au⟩
theorem rD.keys (h:rD l key val l') (hn:(l.map (·.1)).Nodup):(l'.map (·.1)).Nodup:=by
 rcases h with⟨l1,v0,l2,rfl,rfl⟩|⟨h1,rfl⟩
 .simpa using hn
 .rw[cA,List.nodup_append];refine⟨hn,au,?_⟩;rintro a ha c hc rfl;obtain⟨p,hp,rfl⟩:=bw.1 ha;simp at hc;exact h1 p hp hc
theorem Dn {es:Array MapEntry} {j e0} (h2:es.toList[j]?=some e0) f:∃s1 s2,es.toList=s1++e0::s2/\(es.modify j f).toList=s1++f e0::s2:=by
 obtain⟨hj,he⟩:=dq.1 h2;refine⟨es.toList.take j,es.toList.drop (j+1),?_,?_⟩
 .rw[<-he,<-List.drop_eq_getElem_cons hj,List.take_append_drop]
 .rw[Array.toList_modify,modify_eq_set _ _ _ _ h2,List.set_eq_take_append_cons_drop,ev hj]
theorem iI (h:MapAt P k w b l) o:w.grownBy (setBlock w b o) (some b):=by obtain⟨_,_,hb,_⟩:=h;exact⟨rfl,rfl,rfl,by simp[setBlock],λi _ hi=>heap_setBlock_other hb _ (λe1=>hi (by rw[e1]))⟩
variable {t e:TypeId} {kl:Lit}
theorem MapAt.look (h:MapAt P k w b l) (K:Keyed P k) (ht:P.underlying t=some (.map k e)) {z} (hz:(zeroValue e).run P w= .ok z w) (jc:keyOf P k key=some kl) ok:
  ∃v f,(Instr.lookup t (.map (some b)) key ok).run P w= .ok (if ok then ao #[v,aq f] else v) w/\((f=true/\(key,v)∈l)\/(f=false/\v=z/\∀p∈l,p.1≠key)):=by
 obtain⟨es,clock,hb,rfl,kM,pK,Zr,lJ⟩:=h;have hk:∀x∈es.toList,∃l,keyOf P k x.key=some l:=λx hx=>lJ (x.key,x.val) (bw.2 ⟨x,hx,rfl⟩);rcases K.find w jc es.toList hk with⟨h1,h2⟩|⟨j,e0,h1,h2,h3⟩
 .refine⟨z,false,?_,.inr ⟨rfl,rfl,?_⟩⟩
  .simp[Instr.lookup,run_underlying ht,MapKept.run_getObj_map hb,K.check w _ jc,h1,hz,Result.andThen]
  .intro p hp;obtain⟨x,hx,rfl⟩:=bw.1 hp;exact h2 x hx
 .refine⟨e0.val,true,?_,.inl ⟨rfl,?_⟩⟩
  .simp[Instr.lookup,run_underlying ht,MapKept.run_getObj_map hb,K.check w _ jc,h1,Result.andThen]
  .exact bw.2 ⟨e0,List.mem_of_getElem? h2,by rw[h3]⟩
theorem MapAt.put (h:MapAt P k w b l) (K:Keyed P k) (ht:P.underlying t=some (.map k e)) (jc:keyOf P k key=some kl) val:
  ∃l' o,(Instr.mapUpdate t (.map (some b)) key val).run P w= .ok () (setBlock w b o)/\rD l key val l'/\MapAt P k (setBlock w b o) b l'/\w.grownBy (setBlock w b o) (some b):=by
 have hG:=λo=>iI h o;obtain⟨es,clock,hb,rfl,kM,pK,Zr,lJ⟩:=h;have hk:∀x∈es.toList,∃l,keyOf P k x.key=some l:=λx hx=>lJ (x.key,x.val) (bw.2 ⟨x,hx,rfl⟩);rcases K.find w jc es.toList hk with⟨h1,h2⟩|⟨j,e0,h1,h2,h3⟩
 .have hP:rD (es.toList.map λe=>(e.key,e.val)) key val ((es.toList.map λe=>(e.key,e.val))++[(key,val)]):= .inr ⟨λp hp=>by obtain⟨x,hx,rfl⟩:=bw.1 hp;exact h2 x hx,rfl⟩;refine⟨_,.map (es.push ⟨key,val,clock⟩) (clock+1),?_,hP,⟨_,_,heap_setBlock_same hb _,au,?_,?_,hP.keys Zr,?_⟩,hG _⟩
  .simp[Instr.mapUpdate,run_underlying ht,MapKept.run_getObj_map hb,K.check w false jc,h1,MapKept.run_setObj_map _ hb,Result.andThen,setBlock]
  .intro x hx;simp only[Array.toList_push,cv,cG] at hx;rcases hx with hx|rfl
   .have:=kM x hx;omega
   .show clock<clock+1;omega
  .rw[Array.toList_push,cA,List.nodup_append];refine⟨pK,au,?_⟩;rintro a ha c hc rfl;obtain⟨x,hx,rfl⟩:=bw.1 ha;simp at hc;have:=kM x hx;omega
  .intro p hp;rcases cv.1 hp with hp|hp
   .exact lJ p hp
   .simp at hp;subst hp;exact⟨kl,jc⟩
 .have hj:es[j]?=some e0:=by simpa using h2
  obtain⟨s1,s2,q1,q2⟩:=Dn h2 (λe'=>{e' with key:=key,val:=val});have hP:rD (es.toList.map λe=>(e.key,e.val)) key val ((s1.map λe=>(e.key,e.val))++(key,val)::(s2.map λe=>(e.key,e.val))):= .inl ⟨_,e0.val,_,by rw[q1,cA,cE,h3],rfl⟩;refine⟨_,.map (es.modify j (λe'=>{e' with key:=key,val:=val})) clock,?_,hP,⟨_,_,heap_setBlock_same hb _,by rw[q2];simp,?_,?_,hP.keys Zr,?_⟩,hG _⟩
  .simp[Instr.mapUpdate,run_underlying ht,MapKept.run_getObj_map hb,K.check w false jc,h1,hj,h3,K.stays w jc,MapKept.run_setObj_map _ hb,Result.andThen,setBlock]
  .intro x hx;rw[q2] at hx;rw[q1] at kM;simp only[cv,bS] at hx;rcases hx with hx|rfl|hx
   .exact kM x (by simp[hx])
   .exact kM e0 au
   .exact kM x (by simp[hx])
  .rw[q2];rw[q1] at pK
   simpa using pK
  .intro p hp;rw[q1] at lJ;simp only[cv,bS] at hp;rcases hp with hp|rfl|hp
   .exact lJ p (by simp only[cA,cE,cv,bS];exact .inl hp)
   .exact⟨kl,jc⟩
   .exact lJ p (by simp only[cA,cE,cv,bS];exact .inr (.inr hp))
theorem MapAt.entry (h:MapAt P k w b l) (K:Keyed P k) (ht:P.underlying t=some (.map k e)) {z} (hz:(zeroValue e).run P w= .ok z w) (jc:keyOf P k key=some kl):
  ∃v st o,(Instr.mapEntry t (.map (some b)) key).run P w= .ok (ao #[v,st]) (setBlock w b o)/\((key,v)∈l\/(v=z/\∀p∈l,p.1≠key))/\(setBlock w b o).heap[b]?=some o/\(∃es clock,o= .map es clock)/\w.grownBy (setBlock w b o) (some b)/\
   ∀w2 val,w2.heap[b]?=some o->∃l' o',(Instr.entryStore t (.map (some b)) st val).run P w2= .ok () (setBlock w2 b o')/\rD l key val l'/\MapAt P k (setBlock w2 b o') b l'/\w2.grownBy (setBlock w2 b o') (some b):=by
 have hG:=λo=>iI h o;obtain⟨es,clock,hb,rfl,kM,pK,Zr,lJ⟩:=h;have hk:∀x∈es.toList,∃l,keyOf P k x.key=some l:=λx hx=>lJ (x.key,x.val) (bw.2 ⟨x,hx,rfl⟩);have nH:∀(w2:World) (es:Array MapEntry) (clock:Nat) (o':Obj),w2.heap[b]?=some (.map es clock)->w2.grownBy (setBlock w2 b o') (some b):=λw2 _ _ o' h2=>
  ⟨rfl,rfl,rfl,by simp[setBlock],λi _ hi=>heap_setBlock_other h2 _ (λe1=>hi (by rw[e1]))⟩
 rcases K.find w jc es.toList hk with⟨h1,h2⟩|⟨j,e0,h1,h2,h3⟩
 .have hP:∀val,rD (es.toList.map λe=>(e.key,e.val)) key val ((es.toList.map λe=>(e.key,e.val))++[(key,val)]):=λval=> .inr ⟨λp hp=>by obtain⟨x,hx,rfl⟩:=bw.1 hp;exact h2 x hx,rfl⟩;refine⟨z,goInt clock,.map (es.push ⟨key,z,clock⟩) (clock+1),?_,.inr ⟨rfl,λp hp=>by obtain⟨x,hx,rfl⟩:=bw.1 hp;exact h2 x hx⟩,heap_setBlock_same hb _,⟨_,_,rfl⟩,hG _,?_⟩
  .simp[Instr.mapEntry,run_underlying ht,MapKept.run_getObj_map hb,K.check w false jc,h1,hz,MapKept.run_setObj_map _ hb,Result.andThen,setBlock]
  .intro w2 val jT;have afH:(es.push ⟨key,z,clock⟩).findIdx? (λe=>((e.born:Nat):Int)==((clock:Nat):Int))=some es.size:=by rw[WideElems.findIdx_arr];have:=WideElems.findIdx_born (l:=(es.push ⟨key,z,clock⟩).toList) (j:=es.size) (e0:=⟨key,z,clock⟩) (by simp only[Array.toList_push,cA,cE,List.map_nil];refine List.nodup_append.2 ⟨pK,au,λa ha c hc e1=>?_⟩;simp only[cG] at hc;obtain⟨x,hx,rfl⟩:=bw.1 ha;have:=kM x hx;omega) au;exact this
   have apf:(es.push ⟨key,z,clock⟩).modify es.size (λe=>{e with val:=val})=es.push ⟨key,val,clock⟩:=by apply Array.ext';rw[Array.toList_modify,Array.toList_push,Array.toList_push,<-Array.length_toList,WideElems.modify_last]
   refine⟨_,.map (es.push ⟨key,val,clock⟩) (clock+1),?_,hP val,⟨_,_,heap_setBlock_same jT _,au,?_,?_,(hP val).keys Zr,?_⟩,nH w2 _ _ _ jT⟩
   .simp[Instr.entryStore,MapKept.run_getObj_map jT,asInt,asIntOf,goInt,afH,apf,MapKept.run_setObj_map _ jT,Result.andThen,setBlock]
   .intro x hx;simp only[Array.toList_push,cv,cG] at hx;rcases hx with hx|rfl
    .have:=kM x hx;omega
    .show clock<clock+1;omega
   .rw[Array.toList_push,cA,List.nodup_append];refine⟨pK,au,?_⟩;rintro a ha c hc rfl;obtain⟨x,hx,rfl⟩:=bw.1 ha;simp at hc;have:=kM x hx;omega
   .intro p hp;rcases cv.1 hp with hp|hp
    .exact lJ p hp
    .simp at hp;subst hp;exact⟨kl,jc⟩
 .have hj:es[j]?=some e0:=by simpa using h2
  have iP:es.modify j (λe=>{e with key:=key})=es:=by
   apply Array.ext';rw[Array.toList_modify,modify_eq_set _ _ _ _ h2];have:({e0 with key:=key}:MapEntry)=e0:=by rw[<-h3]
   rw[this];exact WideElems.set_self _ _ _ h2
  refine⟨e0.val,goInt e0.born,.map es clock,?_,.inl (bw.2 ⟨e0,List.mem_of_getElem? h2,by rw[h3]⟩),heap_setBlock_same hb _,⟨_,_,rfl⟩,hG _,?_⟩
  .simp[Instr.mapEntry,run_underlying ht,MapKept.run_getObj_map hb,K.check w false jc,h1,hj,h3,K.stays w jc,iP,MapKept.run_setObj_map _ hb,Result.andThen,setBlock]
  .intro w2 val jT;obtain⟨s1,s2,q1,q2⟩:=Dn h2 (λe'=>{e' with val:=val});have hP:rD (es.toList.map λe=>(e.key,e.val)) key val ((s1.map λe=>(e.key,e.val))++(key,val)::(s2.map λe=>(e.key,e.val))):= .inl ⟨_,e0.val,_,by rw[q1,cA,cE,h3],rfl⟩;have afH:es.findIdx? (λe=>((e.born:Nat):Int)==((e0.born:Nat):Int))=some j:=by rw[WideElems.findIdx_arr];exact WideElems.findIdx_born pK h2
   refine⟨_,.map (es.modify j (λe'=>{e' with val:=val})) clock,?_,hP,⟨_,_,heap_setBlock_same jT _,by rw[q2];simp[h3],?_,?_,hP.keys Zr,?_⟩,nH w2 _ _ _ jT⟩
   .simp[Instr.entryStore,MapKept.run_getObj_map jT,asInt,asIntOf,goInt,afH,MapKept.run_setObj_map _ jT,Result.andThen,setBlock]
   .intro x hx;rw[q2] at hx;rw[q1] at kM;simp only[cv,bS] at hx;rcases hx with hx|rfl|hx
    .exact kM x (by simp[hx])
    .exact kM e0 au
    .exact kM x (by simp[hx])
   .rw[q2];rw[q1] at pK
    simpa using pK
   .intro p hp;rw[q1] at lJ;simp only[cv,bS] at hp;rcases hp with hp|rfl|hp
    .exact lJ p (by simp only[cA,cE,cv,bS];exact .inl hp)
    .exact⟨kl,jc⟩
    .exact lJ p (by simp only[cA,cE,cv,bS];exact .inr (.inr hp))
theorem MapAt.size (h:MapAt P k w b l):∃es clock,w.heap[b]?=some (.map es clock)/\es.size=l.length:=by obtain⟨es,clock,hb,rfl,_⟩:=h;exact⟨es,clock,hb,au⟩
end
section
variable {P:Program} {ρ:Operand->Value} {o:Oper} {w:World} {v:Value}
theorem PU t x (ho:o.op= .load t x) (h:(Instr.loadAt t (ρ x)).run P w= .ok v w):(execOp ρ o).run P w= .ok (.value v) w:=by unfold execOp;simp only[ho,Sem.run_bind,h,Result.andThen_ok,Sem.run_pure]
theorem jJ {w'} t m x (ho:o.op= .mapEntry t m x) (h:(Instr.mapEntry t (ρ m) (ρ x)).run P w= .ok v w'):(execOp ρ o).run P w= .ok (.value v) w':=by unfold execOp;simp only[ho,Sem.run_bind,h,Result.andThen_ok,Sem.run_pure]
theorem iT {w'} t m s x (ho:o.op= .entryStore t m s x) (h:(Instr.entryStore t (ρ m) (ρ s) (ρ x)).run P w= .ok () w'):(execOp ρ o).run P w= .ok .skip w':=by unfold execOp;simp only[ho,Sem.run_bind,h,Result.andThen_ok,Sem.run_pure]
theorem gK {w' ops a K Q E} (mF:o.guard=none) (bF:(execOp a.eval o).run P w= .ok (.value v) w') (h:K (a.put o.dst v) w'):
  if Region.wanted o (yielded ops a.tmps)=true then Oper.wp P o a w K Q else E:=by
 have hw:Region.wanted o (yielded ops a.tmps)=true:=by simp[Region.wanted,mF]
 rw[ev hw];unfold Oper.wp;rw[bF];exact h
theorem step_skip {w' ops a K Q E} (mF:o.guard=none) (bF:(execOp a.eval o).run P w= .ok .skip w') (h:K (a.put o.dst undef) w'):
  if Region.wanted o (yielded ops a.tmps)=true then Oper.wp P o a w K Q else E:=by
 have hw:Region.wanted o (yielded ops a.tmps)=true:=by simp[Region.wanted,mF]
 rw[ev hw];unfold Oper.wp;rw[bF];exact h
theorem lK t m x ok (ho:o.op= .lookup t m x ok) (h:(Instr.lookup t (ρ m) (ρ x) ok).run P w= .ok v w):(execOp ρ o).run P w= .ok (.value v) w:=by unfold execOp;simp only[ho,Sem.run_bind,h,Result.andThen_ok,Sem.run_pure]
end
end
section
open RowKit Maps ChangeMaps MapKept
def fQ (P:Program) (k:TypeId) (w:World) (b r:Nat) (l d:List (Value×Value)):=
 ∃es clock since seen c0,w.heap[b]?=some (.map es clock)/\es.toList.map (λe=>(e.key,e.val))=l/\w.heap[r]?=some (.mapIter (some b) since seen c0)/\(∀x∈es.toList,x.born<since)/\(es.toList.map (·.born)).Nodup/\(l.map (·.1)).Nodup/\
  since<=c0/\since<=clock/\(∀x∈es.toList,seen.contains x.born=true↔(x.key,x.val)∈d)/\(∀p∈d,p∈l)/\d.Nodup/\∀p∈l,∃kl,keyOf P k p.1=some kl
def afI (l:List (Value×Value)) (key:Value) l':=
 (∃l1 v0 l2,l=l1++(key,v0)::l2/\l'=l1++l2)\/((∀p∈l,p.1≠key)/\l'=l)
theorem uK {l:List (Value×Value)} (h:(l.map (·.1)).Nodup):l.Nodup:=by
 induction l with
 |nil=>simp
 |cons p t ih=>
  rw[cE,cR] at h;rw[cR];exact⟨λhp=>h.1 (bw.2 ⟨p,hp,rfl⟩),ih h.2⟩
section
variable {P:Program} {k:TypeId} {w w':World} {b r:Nat} {l d:List (Value×Value)}
theorem fQ.ane (h:fQ P k w b r l d):MapAt P k w b l:=by obtain⟨es,clock,since,seen,c0,h1,h2,h3,h4,h5,h6,h7,h8,h9,J6,Zg,h12⟩:=h;exact⟨es,clock,h1,h2,λx hx=>cM (h4 x hx) h8,h5,h6,h12⟩
theorem fQ.ltr (h:fQ P k w b r l d):r<w:=by obtain⟨_,_,_,_,_,_,_,h3,_⟩:=h;exact(Array.getElem?_eq_some_iff.1 h3).1
theorem fQ.ltb (h:fQ P k w b r l d):b<w:=h.ane.lt
theorem fQ.ne (h:fQ P k w b r l d):r≠b:=by obtain⟨es,clock,since,seen,c0,h1,h2,h3,_⟩:=h;intro e;rw[e,h1] at h3;cases h3
theorem fQ.same (h:fQ P k w b r l d) (h1:w'.heap[b]?=w.heap[b]?) (h2:w'.heap[r]?=w.heap[r]?):fQ P k w' b r l d:=by obtain⟨es,clock,since,seen,c0,a1,a2,a3,rest⟩:=h;exact⟨es,clock,since,seen,c0,h1.trans a1,a2,h2.trans a3,rest⟩
theorem fQ.on (h:fQ P k w b r l d) (hb:Below w w w'):fQ P k w' b r l d:=h.same (hb.block b h.ltb) (hb.block r h.ltr)
theorem oG (h1:w'.heap[b]?=w.heap[b]?) (h2:w'.heap[r]?=w.heap[r]?):w'.rangeLeft b r=w.rangeLeft b r:=by simp only[World.rangeLeft,h1,h2]
theorem fQ.ug (h:fQ P k w b r l d) (hb:Below w w w'):w'.rangeLeft b r=w.rangeLeft b r:=oG (hb.block b h.ltb) (hb.block r h.ltr)
theorem MapAt.range {t e} (h:MapAt P k w b l) (ht:P.underlying t=some (.map k e)):
  ∃w',(Instr.range t (.map (some b))).run P w= .ok (.pointer (aw w 0)) w'/\fQ P k w' b w l []/\Below w w w'/\w'=w.heap.size+1:=by
 have aT:=h.lt;obtain⟨es,clock,h1,h2,h3,h4,h5,h6⟩:=h;refine⟨_,run_range_map w t k e b es clock ht h1,⟨es,clock,clock,#[],clock,(Below.heap_alloc w _ b aT).trans h1,h2,heap_alloc_new w _,h3,h4,h5,bp _,bp _,λx _=>au,au,au,h6⟩,(aE _ _).alloc av _,au⟩
theorem fQ.next (h:fQ P k w b r l d) ty:
  (d.Perm l/\(Instr.next r false ty).run P w= .ok (ao #[aq false]) w)\/
  ∃p w',p∈l/\p∉d/\(Instr.next (.pointer (aw r 0)) false ty).run P w= .ok (ao #[aq true,p.1,p.2]) w'/\fQ P k w' b r l (d++[p])/\w.grownBy w' (some r)/\w'=w.heap.size/\
   w'.rangeLeft b r<w.rangeLeft b r/\(Instr.entry r).run P w'= .ok (ao #[p.1,p.2]) w':=by
 have di:=h.ne;obtain⟨es,clock,since,seen,c0,h1,h2,h3,h4,h5,h6,h7,h8,h9,J6,Zg,h12⟩:=h;rcases run_next_at (P:=P) w ty r b since c0 seen es clock h3 h1 h4 h7 with⟨h0,bF⟩|⟨e,he,w1,mf,bF⟩
 .refine .inl ⟨(List.perm_ext_iff_of_nodup Zg (uK h6)).2 λp=>⟨J6 p,λhp=>?_⟩,bF⟩;rw[<-h2] at hp;obtain⟨x,hx,rfl⟩:=bw.1 hp;exact(h9 x hx).1 (all_seen es seen h0 x hx)
 .obtain⟨hem,hes⟩:=mem_left he;have hr1:w1.heap[r]?=some (.mapIter (some b) since seen c0):=by rcases mf with rfl|rfl<;>exact h3
  have bP:w1.heap[b]?=some (.map es clock):=by rcases mf with rfl|rfl<;>exact h1
  have C9:=heap_set (o':= .mapIter (some b) since (seen.push e.born) clock) hr1;have hb':(setBlock w1 r (.mapIter (some b) since (seen.push e.born) clock)).heap[b]?=some (.map es clock):=(C9.2 b (λe1=>di e1.symm)).trans bP;have uh:(e.key,e.val)∈l:=by rw[<-h2];exact bw.2 ⟨e,hem,rfl⟩
  have hpd:(e.key,e.val)∉d:=λhd=>by have:=(h9 e hem).2 hd;rw[hes] at this;cases this
  refine .inr ⟨(e.key,e.val),_,uh,hpd,bF,⟨es,clock,since,seen.push e.born,clock,hb',h2,C9.1,h4,h5,h6,h8,h8,λx hx=>?_,λp hp=>?_,?_,h12⟩,?_,?_,?_,run_entry_at _ r b since seen es clock e C9.1 hb' hem h5⟩
  .rw[contains_push,Bool.or_eq_true,h9 x hx,cv,cG,beq_iff_eq];constructor
   .rintro(h|h)
    .exact .inl h
    .obtain rfl:=born_inj h5 hx hem h;exact .inr rfl
   .rintro(h|h)
    .exact .inl h
    .have NI:(x.key,x.val)∈l:=by rw[<-h2];exact bw.2 ⟨x,hx,rfl⟩
     refine .inr ?_;have hk:x.key=e.key:=congrArg Prod.fst h;rw[<-h2,cW] at h6;have:∀{m:List MapEntry},(m.map ((·.1)∘λe=>(e.key,e.val))).Nodup->x∈m->e∈m->x=e:=by
      intro m
      induction m with
      |nil=>intro _ hx;cases hx
      |cons y t ih=>
       intro hn hx he;rw[cE,cR] at hn;rcases bS.1 hx with rfl|CP<;>rcases bS.1 he with rfl|he'
       .rfl
       .exact absurd (bw.2 ⟨e,he',hk.symm⟩) hn.1
       .exact absurd (bw.2 ⟨x,CP,hk⟩) hn.1
       .exact ih hn.2 CP he'
     rw[this h6 hx hem]
  .rcases cv.1 hp with hp|hp
   .exact J6 p hp
   .rw[cG] at hp;subst hp;exact uh
  .rw[List.nodup_append];refine⟨Zg,au,?_⟩;rintro a ha c hc rfl;rw[cG] at hc;subst hc;exact hpd ha
  .rcases mf with rfl|rfl<;>exact⟨rfl,rfl,rfl,by simp[setBlock],λi _ hi=>C9.2 i (λe1=>hi (by rw[e1]))⟩
  .rcases mf with rfl|rfl<;>simp[setBlock]
  .have jA:(setBlock w1 r (.mapIter (some b) since (seen.push e.born) clock)).heap[r]?=some (.mapIter (some b) since (seen.push e.born) clock):=C9.1;unfold World.rangeLeft;rw[h1,h3,hb',jA];exact left_shrinks es seen e he
theorem MapAt.del {t e key kl} (h:MapAt P k w b l) (K:Keyed P k) (ht:P.underlying t=some (.map k e)) (jc:keyOf P k key=some kl) ty:
  ∃l' o,(Builtin.delete_ #[t,k] ty #[.map (some b),key]).run P w= .ok (ao #[]) (setBlock w b o)/\afI l key l'/\MapAt P k (setBlock w b o) b l'/\w.grownBy (setBlock w b o) (some b):=by
 have hG:=λo=>iI h o;obtain⟨es,clock,hb,rfl,kM,pK,Zr,lJ⟩:=h;have hk:∀x∈es.toList,∃l,keyOf P k x.key=some l:=λx hx=>lJ (x.key,x.val) (bw.2 ⟨x,hx,rfl⟩);rcases K.find w jc es.toList hk with⟨h1,h2⟩|⟨j,e0,h1,h2,h3⟩
 .refine⟨_,.map es clock,?_,.inr ⟨λp hp=>by obtain⟨x,hx,rfl⟩:=bw.1 hp;exact h2 x hx,rfl⟩,⟨es,clock,heap_setBlock_same hb _,rfl,kM,pK,Zr,lJ⟩,hG _⟩;simp[Builtin.delete_,run_underlying ht,MapKept.run_getObj_map hb,K.check w _ jc,h1,MapKept.run_setObj_map _ hb,Result.andThen,setBlock]
 .have vJ:j<es.toList.length:=(dq.1 h2).1;have hjs:j<es.size:=by simpa using vJ
  have apg:(es.eraseIdxIfInBounds j).toList=es.toList.eraseIdx j:=by unfold Array.eraseIdxIfInBounds;rw[dif_pos hjs];simp
  have Ff:es.toList[j]=e0:=(dq.1 h2).2;have q1:es.toList=es.toList.take j++e0::es.toList.drop (j+1):=by rw[<-Ff,<-List.drop_eq_getElem_cons vJ,List.take_append_drop]
  have q2:es.toList.eraseIdx j=es.toList.take j++es.toList.drop (j+1):=List.eraseIdx_eq_take_drop_succ ..;have hs:(es.toList.eraseIdx j).Sublist es.toList:=List.eraseIdx_sublist _ _;refine⟨(es.toList.eraseIdx j).map λe=>(e.key,e.val),.map (es.eraseIdxIfInBounds j) clock,?_,.inl ⟨(es.toList.take j).map λe=>(e.key,e.val),e0.val,(es.toList.drop (j+1)).map λe=>(e.key,e.val),?_,?_⟩,⟨_,clock,heap_setBlock_same hb _,by rw[apg],λx hx=>?_,?_,?_,λp hp=>?_⟩,hG _⟩
  .simp[Builtin.delete_,run_underlying ht,MapKept.run_getObj_map hb,K.check w _ jc,h1,MapKept.run_setObj_map _ hb,Result.andThen,setBlock]
  .conv=>lhs;rw[q1]
   rw[cA,cE,h3]
  .rw[q2,cA]
  .rw[apg] at hx;exact kM x (hs.subset hx)
  .rw[apg];exact List.Sublist.nodup (hs.map _) pK
  .rw[cW];rw[cW] at Zr;exact List.Sublist.nodup (hs.map _) Zr
  .obtain⟨x,hx,rfl⟩:=bw.1 hp;exact hk x (hs.subset hx)
end
section
variable {P:Program} (w:World) {ops:Array Oper} {rest:List Oper} {o:Oper} {a:Act} {Q:Exit->Act->World->Prop}
theorem Iz (hg:o.guard=none) m t (wJ:o.op=Op.range t m) k e (ht:P.underlying t=some (.map k e)) b l (hm:a.eval m= .map (some b)) (h:MapAt P k w b l)
  (hK:∀w',Hid (fQ P k w' b w l [])->Hid (Below w w w')->w'=w.heap.size+1->wpList P ops Q rest (a.put o.dst (.pointer (aw w 0))) w'):
  wpList P ops Q (o::rest) a w:=by
 refine wpList_plain hg λK' hK'=>?_;obtain⟨w',bF,r1,r2,r3⟩:=h.range ht;unfold Oper.wp;simp[execOp,wJ,hm,bF,Result.andThen];exact hK' _ _ (hK w' (ag r1) (ag r2) r3)
theorem KC (hg:o.guard=none) it (wJ:o.op=Op.next it false) k b r l d (wK:a.eval it= .pointer (some ⟨r,0,none⟩)) (h:fQ P k w b r l d)
  (KD:Hid (d.Perm l)->wpList P ops Q rest (a.put o.dst (ao #[aq false])) w)
  (KE:∀p w',Hid (p∈l/\p∉d)->Hid (fQ P k w' b r l (d++[p]))->Hid (w.grownBy w' (some r))->w'=w.heap.size->Hid (w'.rangeLeft b r<w.rangeLeft b r)->(Instr.entry (.pointer (aw r 0))).run P w'= .ok (ao #[p.1,p.2]) w'->wpList P ops Q rest (a.put o.dst (ao #[aq true,p.1,p.2])) w'):
  wpList P ops Q (o::rest) a w:=by
 refine wpList_plain hg λK' hK'=>?_;unfold Oper.wp;rcases h.next o.type with⟨h0,bF⟩|⟨p,w',h1,h2,bF,h3,h4,h5,h6,h7⟩
 .simp[execOp,wJ,wK,bF,Result.andThen];exact hK' _ _ (KD (ag h0))
 .simp[execOp,wJ,wK,bF,Result.andThen];exact hK' _ _ (KE p w' (ag ⟨h1,h2⟩) (ag h3) (ag h4) h5 (ag h6) h7)
end
end
section
open RowKit Maps ChangeMaps
structure Enc (α:Type) where
 kf:α->Nat
 kv:Nat->Value
 vf:α->Value
 inj:∀p q,kv p=kv q->p=q
namespace Enc
variable {α:Type} (E:Enc α)
def pr x:=(E.kv (E.kf x),E.vf x)
def get (l:List α) p:=l.find? λe=>E.kf e==p
def put l e:=if (E.get l (E.kf e)).isSome then l.map (λx=>if E.kf x=E.kf e then e else x) else l++[e]
def del (l:List α) p:=l.filter λx=>E.kf x !=p
def Uq (l:List α):=(l.map E.kf).Nodup
variable {E} {l:List α} {p:Nat} {e:α}
theorem KF:((l.map E.pr).map (·.1)).Nodup↔E.Uq l:=by
 unfold Uq;have h1:(l.map E.pr).map (·.1)=(l.map E.kf).map E.kv:=by rw[cW,cW];rfl
 rw[h1];unfold List.Nodup;rw[List.pairwise_map];exact⟨λh=>h.imp λh e=>h (by rw[e]),λh=>h.imp λh e=>h (E.inj _ _ e)⟩
theorem get_mem (h:E.get l p=some e):e∈l/\E.kf e=p:=by unfold get at h;exact⟨List.mem_of_find?_eq_some h,by have:=List.find?_some h;simpa using this⟩
theorem get_none (h:E.get l p=none):∀e∈l,E.kf e≠p:=λe he=>by
 unfold get at h;have:=(List.find?_eq_none.1 h) e he
 simpa using this
theorem Ju (h:∀e∈l,E.kf e≠p):E.get l p=none:=by
 unfold get;rw[List.find?_eq_none];intro x hx
 simpa using h x hx
theorem uM (h:E.Uq l) {x y} (hx:x∈l) (hy:y∈l) (e:E.kf x=E.kf y):x=y:=by
 induction l with
 |nil=>cases hx
 |cons z t ih=>
  unfold Uq at h ih;rw[cE,cR] at h;rcases bS.1 hx with rfl|CP<;>rcases bS.1 hy with rfl|hy'
  .rfl
  .exact absurd (bw.2 ⟨y,hy',e.symm⟩) h.1
  .exact absurd (bw.2 ⟨x,CP,e⟩) h.1
  .exact ih h.2 CP hy'
theorem Fg (h:E.Uq l) (he:e∈l):E.get l (E.kf e)=some e:=by
 cases hg:E.get l (E.kf e) with
 |none=>exact absurd rfl (get_none hg e he)
 |some x=>
  obtain⟨h1,h2⟩:=get_mem hg;rw[uM h h1 he h2]
theorem wW {l1 l2 e0} (h:E.Uq (l1++e0::l2)):(∀x∈l1,E.kf x≠E.kf e0)/\∀x∈l2,E.kf x≠E.kf e0:=by unfold Uq at h;rw[cA,cE,List.nodup_append,cR] at h;obtain⟨_,⟨n2,_⟩,n4⟩:=h;exact⟨λx hx e=>n4 (E.kf x) (bw.2 ⟨x,hx,rfl⟩) (E.kf e0) au e,λx hx e=>n2 (bw.2 ⟨x,hx,e⟩)⟩
theorem api {l1 l2 e0} (h:E.Uq (l1++e0::l2)) (hp:E.kf e0=E.kf e):E.put (l1++e0::l2) e=l1++e::l2:=by
 obtain⟨h1,h2⟩:=wW h;have hg:E.get (l1++e0::l2) (E.kf e)=some e0:=by rw[<-hp];exact Fg h au
 unfold put;rw[hg,ev Option.isSome_some,cA,cE,ev hp];have e1:∀m:List α,(∀x∈m,E.kf x≠E.kf e0)->m.map (λx=>if E.kf x=E.kf e then e else x)=m:=λm hm=>by
  conv=>rhs;rw[<-List.map_id m]
  exact dp λx hx=>eo (by rw[<-hp];exact hm x hx)
 rw[e1 l1 h1,e1 l2 h2]
theorem abD (h:∀x∈l,E.kf x≠E.kf e):E.put l e=l++[e]:=by unfold put;rw[Ju h];rfl
theorem apj {l1 l2 e0} (h:E.Uq (l1++e0::l2)):E.del (l1++e0::l2) (E.kf e0)=l1++l2:=by obtain⟨h1,h2⟩:=wW h;unfold del;rw[List.filter_append,List.filter_cons_of_neg au];rw[List.filter_eq_self.2 (λx hx=>by simpa using h1 x hx),List.filter_eq_self.2 (λx hx=>by simpa using h2 x hx)]
theorem akg (h:∀x∈l,E.kf x≠p):E.del l p=l:=List.filter_eq_self.2 λx hx=>by simpa using h x hx
theorem apk {L} (h:E.Uq l) (hP:rD (l.map E.pr) (E.kv (E.kf e)) (E.vf e) L):L=(E.put l e).map E.pr:=by
 rcases hP with⟨l1,v0,l2,e1,rfl⟩|⟨h1,rfl⟩
 .obtain⟨m1,m2,rfl,rfl,e3⟩:=List.map_eq_append_iff.1 e1;obtain⟨e0,m3,rfl,e4,rfl⟩:=List.map_eq_cons_iff.1 e3;have hp:E.kf e0=E.kf e:=E.inj _ _ (congrArg Prod.fst e4);rw[api h hp,cA,cE];rfl
 .rw[abD λx hx e1=>h1 (E.pr x) (bw.2 ⟨x,hx,rfl⟩) (by rw[<-e1];rfl),cA];rfl
theorem apl {L} (h:E.Uq l) (hP:afI (l.map E.pr) (E.kv p) L):L=(E.del l p).map E.pr:=by
 rcases hP with⟨l1,v0,l2,e1,rfl⟩|⟨h1,rfl⟩
 .obtain⟨m1,m2,rfl,rfl,e3⟩:=List.map_eq_append_iff.1 e1;obtain⟨e0,m3,rfl,e4,rfl⟩:=List.map_eq_cons_iff.1 e3;obtain rfl:E.kf e0=p:=E.inj _ _ (congrArg Prod.fst e4);rw[apj h,cA]
 .rw[akg λx hx e1=>h1 (E.pr x) (bw.2 ⟨x,hx,rfl⟩) (by rw[<-e1];rfl)]
theorem Jv {x} (h:x∈E.put l e):x=e\/x∈l:=by
 unfold put at h;split at h
 .obtain⟨y,hy,e1⟩:=bw.1 h;split at e1
  .exact .inl e1.symm
  .exact .inr (e1▸hy)
 .rcases cv.1 h with h|h
  .exact .inr h
  .exact .inl (by simpa using h)
theorem Jw {x}:x∈E.del l p↔x∈l/\E.kf x≠p:=by unfold del;rw[List.mem_filter];simp
theorem get_put q:E.get (E.put l e) q=if q=E.kf e then some e else E.get l q:=by
 unfold put;by_cases hs:(E.get l (E.kf e)).isSome=true
 .rw[ev hs];have h1:∀m:List α,E.get (m.map λx=>if E.kf x=E.kf e then e else x) q=if q=E.kf e then(if (E.get m q).isSome then some e else none) else E.get m q:=λm=>by
   induction m with
   |nil=>simp[get]
   |cons z t ih=>
    unfold get at ih⊢;rw[cE,List.find?_cons,List.find?_cons,ih];by_cases hz:E.kf z=E.kf e
    .rw[ev hz];by_cases hq:q=E.kf e
     .have b1:(E.kf e==q)=true:=by rw[hq];exact beq_self_eq_true _
      have b2:(E.kf z==q)=true:=by rw[hz];exact b1
      rw[b1,b2];simp[hq]
     .have b1:(E.kf e==q)=false:=beq_eq_false_iff_ne.2 (Ne.symm hq);have b2:(E.kf z==q)=false:=by rw[hz];exact b1
      rw[b1,b2]
    .rw[eo hz];by_cases hq:q=E.kf e
     .have b2:(E.kf z==q)=false:=beq_eq_false_iff_ne.2 (by rw[hq];exact hz);rw[b2]
     .simp[hq]
  rw[h1];by_cases hq:q=E.kf e
  .subst hq;rw[ev rfl,ev rfl,ev hs]
  .rw[eo hq,eo hq]
 .rw[eo hs];unfold get at hs⊢;rw[List.find?_append];by_cases hq:q=E.kf e
  .subst hq;have hn:List.find? (λe_1=>E.kf e_1==E.kf e) l=none:=by
    cases hz:List.find? (λe_1=>E.kf e_1==E.kf e) l with
    |none=>rfl
    |some x=>rw[hz] at hs;exact absurd rfl hs
   rw[hn,ev rfl];simp
  .rw[eo hq]
   cases hz:List.find? (λe=>E.kf e==q) l with
   |none=>simp[Ne.symm hq]
   |some x=>rfl
theorem abE q:E.get (E.del l p) q=if q=p then none else E.get l q:=by
 unfold del get;rw[List.find?_filter];by_cases hq:q=p
 .subst hq;rw[ev rfl,List.find?_eq_none];intro x _;simp
 .rw[eo hq]
  congr 1
  funext x
  by_cases hx:E.kf x=q
  .simp[hx,hq]
  .simp[hx]
end Enc
def cZ {α} (E:Enc α) (P:Program) (k:TypeId) (w:World) (b:Nat) (l:List α):=MapAt P k w b (l.map E.pr)
section
variable {α:Type} {E:Enc α} {P:Program} {k t et:TypeId} {w w':World} {b p:Nat} {l:List α} {e:α}
theorem cZ.uq (h:cZ E P k w b l):E.Uq l:=Enc.KF.1 (MapAt.nodup h)
theorem cZ.lt (h:cZ E P k w b l):b<w:=MapAt.lt h
theorem cZ.on (h:cZ E P k w b l) (hb:Below w w w'):cZ E P k w' b l:=MapAt.on h hb
theorem cZ.same (h:cZ E P k w b l) (hb:w'.heap[b]?=w.heap[b]?):cZ E P k w' b l:=MapAt.same h hb
theorem cZ.made (w:World):cZ E P k (w.alloc (.map #[] 0)) w []:=MapAt.made w
theorem cZ.look (h:cZ E P k w b l) (K:Keyed P k) (ht:P.underlying t=some (.map k et)) {z} (hz:(zeroValue et).run P w= .ok z w) {kl} (jc:keyOf P k (E.kv p)=some kl) ok:
  (Instr.lookup t (.map (some b)) (E.kv p) ok).run P w= .ok (if ok then ao #[(E.get l p).elim z E.vf,aq (E.get l p).isSome] else(E.get l p).elim z E.vf) w:=by
 obtain⟨v,f,bF,hv⟩:=MapAt.look h K ht hz jc ok;have e:v=(E.get l p).elim z E.vf/\f=(E.get l p).isSome:=by
  rcases hv with⟨rfl,hv⟩|⟨rfl,rfl,hv⟩
  .obtain⟨x,hx,e1⟩:=bw.1 hv;obtain rfl:E.kf x=p:=E.inj _ _ (congrArg Prod.fst e1);rw[Enc.Fg h.uq hx];exact⟨(congrArg Prod.snd e1).symm,rfl⟩
  .rw[Enc.Ju λx hx e1=>hv (E.pr x) (bw.2 ⟨x,hx,rfl⟩) (by rw[<-e1];rfl)];exact⟨rfl,rfl⟩
 obtain⟨rfl,rfl⟩:=e;exact bF
theorem cZ.put (h:cZ E P k w b l) (K:Keyed P k) (ht:P.underlying t=some (.map k et)) e {kl} (jc:keyOf P k (E.kv (E.kf e))=some kl):
  ∃o,(Instr.mapUpdate t (.map (some b)) (E.kv (E.kf e)) (E.vf e)).run P w= .ok () (setBlock w b o)/\cZ E P k (setBlock w b o) b (E.put l e)/\w.grownBy (setBlock w b o) (some b):=by
 obtain⟨l',o,bF,hP,hm,hg⟩:=MapAt.put h K ht jc (E.vf e);refine⟨o,bF,?_,hg⟩;rw[Enc.apk h.uq hP] at hm;exact hm
theorem cZ.del (h:cZ E P k w b l) (K:Keyed P k) (ht:P.underlying t=some (.map k et)) {kl} (jc:keyOf P k (E.kv p)=some kl) ty:
  ∃o,(Builtin.delete_ #[t,k] ty #[.map (some b),E.kv p]).run P w= .ok (ao #[]) (setBlock w b o)/\cZ E P k (setBlock w b o) b (E.del l p)/\w.grownBy (setBlock w b o) (some b):=by
 obtain⟨l',o,bF,hP,hm,hg⟩:=MapAt.del h K ht jc ty;refine⟨o,bF,?_,hg⟩;rw[Enc.apl h.uq hP] at hm;exact hm
theorem cZ.size (h:cZ E P k w b l):∃es clock,w.heap[b]?=some (.map es clock)/\es.size=l.length:=by obtain⟨es,clock,h1,h2⟩:=MapAt.size h;exact⟨es,clock,h1,by rw[h2,bO]⟩
end
end
section
open RowKit
theorem acI:(prog.info? 35).map (λi=>(i.zero,i.size,i.bytes))=some (some (.agg bm),3,40):=az
structure Fs where
 no:Int
 kind:Int
 a:Option Addr
 n:Nat
 c:Nat
def Va (x:Fs):List Value:=[O aa x.no,O aa x.kind,an x.a x.n x.c]
theorem afg x:(Va x).length=3:=rfl
theorem aoY:∀x,∀u∈Va x,u.oneCell'=true:=λx u hu=>by simp only[Va,bS,cY,or_false] at hu;rcases hu with rfl|rfl|rfl<;>rfl
def tvF (y:Fs):Fv:=⟨y.no,y.kind,an y.a y.n y.c⟩
theorem ajP (l:List Fs):(l.map tvF).flatMap fvL=l.flatMap Va:=by rw[List.flatMap_map];rfl
theorem bQ.tv {w b v l} (h:bQ 3 Va 35 w b v l):bQ 3 fvL 35 w b v (l.map tvF):=by refine⟨Zl,?_⟩;rw[ajP,bO];exact h.2
theorem own_ne {w b b' v v' l xs} (h:bQ 3 Va 35 w b v l) (h':Own aJ 5 w b' v' xs) {g} (hg:v'.ownBlock=some g):¬v.ownBlock=some g:=λhv=>by
 rcases h.2.2 with⟨rfl,_⟩|⟨g1,c1,k1,rfl,_,h1,_⟩
 .cases hv
 .rcases h'.2 with⟨rfl,_⟩|⟨g2,c2,k2,rfl,_,h2,_⟩
  .cases hg
  grind[dP]
theorem uA {w ops o ac Q cs K E} (mF:o.guard=none) s x (ho:o.op= .call {callee:= .builtin .append,args:=#[s,x],argTypes:=#[32,32]})
  base v xs (hs:ac.eval s=v) (bz:bQ 3 Va 35 w base v xs) (hl:xs.length<=1000) (hb:base<=w) y g (hx:ac.eval x=an (g,0) 1 1) (hg:g=w.heap.size) (gm:cs=(Va y).toArray)
  (h:∀v' w',Hid (bQ 3 Va 35 w' base v' (xs++[y]))->Hid (Kq (λq=>v.ownBlock=some q) w w')->K (ac.put o.dst v') w'):if Region.wanted o (yielded ops ac.tmps)=true then Oper.wp prog o ac (w.alloc (.cells cs 35)) K Q else E:=by
 have hw:Region.wanted o (yielded ops ac.tmps)=true:=by simp[Region.wanted,mF]
 rw[ev hw];subst hg;obtain⟨i0,hi,qm,tZ,tu⟩:=info_parts acI;have aZ:base<=(w.alloc (.cells cs 35)).heap.size:=by simp;omega
 exact rf s x 32 ho base 35 i0 _ 40 Tryz.underlying32 hi qm tZ tu rfl aB aoY v xs hs (bz.alloc _) _ _ 1 1 [y] hx (fP.ajQ w 35 y gm) ae (by simp only[maxLen];omega) aZ λv' w' h1 h2 _=>
  h v' w' (ag h1) (ag ((Kq.of ((aE _ w).alloc av _)).trans (Kq.grown h2)))
section
variable {NB B C BL n q m cd:Nat} {S:Nat->Prop} {w w2 W W6 W7:World} {ps:Nat->Nat} {bl:Nat->Pb} {sk rd no:Int} {ad a5:Option Addr} {c5:Nat} {data:List UInt8} {v:Value}
theorem aoZ NB BL fv fv' si sk rd:(Df NB BL fv si sk rd).setIfInBounds 4 fv'=Df NB BL fv' si sk rd:=by simp[Df]
theorem ajR NB BL fv fv' si J7 sk rd:((Df NB BL fv si sk rd).setIfInBounds 4 fv').setIfInBounds 5 (O aa J7)=Df NB BL fv' J7 sk rd:=by simp[Df]
def acJ NB C BL sk rd data w2 q W fv rows:=
 Kq (λk=>k=C) w2 W/\aF W C 76 (Df NB BL fv 0 sk rd)/\bQ 3 Va 35 W w2 fv rows/\rows.length=q/\
  ∀y∈rows,y.kind=3/\Own aJ 5 W w2 (an y.a y.n y.c) data
theorem acJ.next {fv fv' rows} (h:acJ NB C BL sk rd data w2 q W fv rows) (hC:C<w2) (hb:Below W W W6) (ho:Own aJ 5 W6 W (an a5 m c5) data) (hn:bQ 3 Va 35 W7 w2 fv' (rows++[⟨no,3,a5,m,c5⟩])) (hk:Kq (λk=>fv.ownBlock=some k) W6 W7):
  acJ NB C BL sk rd data w2 (q+1) (W7.setCell (C,4) fv') fv' (rows++[⟨no,3,a5,m,c5⟩]):=by
 obtain⟨h1,h2,h3,h4,h5⟩:=h;have iG:=h1.size;have eU:=Kq.one (w:=W7) (C,4) fv';have hfv:∀k,fv.ownBlock=some k->w2.heap.size<=k/\k<W.heap.size:=λk hk=>h3.aN k hk;have fJ:bQ 3 Va 35 W6 w2 fv rows:=h3.on hb;refine⟨((h1.on hb).aA hk λk hk=> .inr (hfv k hk).1).setCell (.inl rfl) fv',?_,hn.kq eU λg hg e=>by have e:g=C:=e;have:=(hn.aN g hg).1;omega,by grind,λy hy=>?_⟩
 .rw[<-aoZ NB BL fv fv'];exact((h2.ah hb).kq hk λe=>by have:=(hfv _ e).1;omega).set 4 fv'
 .rcases cv.1 hy with hy|hy
  .obtain⟨y1,y3⟩:=h5 y hy;have y4:=y3.on hb;exact⟨y1,(y4.kq hk λg hg=>own_ne fJ y4 hg).kq eU λg hg e=>by have e:g=C:=e;have:=(y3.aN g hg).1;omega⟩
  .obtain rfl:=cG.1 hy;refine⟨rfl,((ho.mono iG).kq hk λg hg e=>?_).kq eU λg hg e=>?_⟩
   .have:=(ho.aN g hg).1;have:=(hfv g e).2;omega
   .have e:g=C:=e;have:=(ho.aN g hg).1;omega
theorem ajS fs si:NY fs si<=fs.length:=List.length_filter_le _ _
theorem eu.script {fv rows} (h:eu NB B S w C BL ps bl) (hk:Kq (λk=>k=C) w w2) (hs:acJ NB C BL sk rd data w2 q W fv rows) (hq:q<=2) (hm:data.length<=96):eu NB B (Up S w W) W C BL ps (upd bl NB {bl NB with bad:=true,aC:=0,nx:=2})/\Kq (λk=>k=C) w W:=by
 obtain⟨s1,s2,s3,s4,s5⟩:=hs;have hkk:=hk.trans s1;have hz:=hk.size;have tZ:=s1.size;have hB:B<=w.heap.size:=by have:=h.lo _ (h.hS _ (.inl rfl));have:=h.ltC;omega
 have hMu:∀q,S q->¬Mu NB C BL ps q->¬(q=C):=λq _ hm e=>hm (.inl e);obtain⟨_,h2,h3,h4,h5,h6,h7⟩:=h;have ao0:∀g,Mu NB C BL ps g->g<w.heap.size:=λg hg=>h7 g (h5 g hg);refine⟨⟨⟨fv,0,sk,rd,s2,?_⟩,?_,λk nD=>?_,h4,λk nD=> .inl (h5 k nD),λk nD=>?_,λk nD=>?_⟩,hkk⟩
 .rw[upd_same];refine .inr ⟨rfl,rfl,λg hg=>?_,rows.map tvF,rows.map (λy=>(⟨y.no,y.kind,data⟩:Fl)),s3.tv.mono (bN _),by grind,by grind,?_,λi i1 i2=>?_⟩
  .have:=s3.aN g hg;exact⟨.inr ⟨ae,this.2⟩,λhm=>by have:=ao0 g hm;omega⟩
  .show _<=2;refine bB (ajS _ _) ?_;grind
  .rw[bO] at i1;have hy:=s5 rows[i] (cS i1);rw[List.getElem_map,List.getElem_map];exact⟨rfl,hy.1,hm,hy.2.mono (bN _),λg hg=>by have:=hy.2.aN g hg;exact⟨.inr ⟨ae,this.2⟩,λhm=>by have:=ao0 g hm;omega⟩⟩
 .have e:((cz NB).map λk=>Ir (ps k) (bl k))=(cz NB).map λi=>Ir (ps i) (upd bl NB {bl NB with bad:=true,aC:=0,nx:=2} i):=by apply dp;intro q hq;rw[aG _ _ (Nat.ne_of_lt (List.mem_range.1 hq))]
  rw[<-e];exact h2.kq hkk λg hg=>by obtain rfl:=dP _ _ _ _ hg;exact Ne.symm h4.cb
 .obtain⟨xs,x1,x2,x3⟩:=h3 k nD;rw[aG _ _ (Nat.ne_of_lt nD)];exact⟨xs,x1,x2.kq hkk λg hg=>by obtain rfl:=dP _ _ _ _ hg;exact h4.pc k nD,λi hi=>((x3 i hi).kq hkk hMu).weaken (λ_ h=> .inl h) λ_ _ h=>h⟩
 .rcases nD with nD|nD
  .exact h6 k nD
  .omega
 .rcases nD with nD|nD
  .have:=h7 k nD;omega
  .exact nD.2
end
theorem ajT {α f T w w' B n a} {xs:List α} (h:jq f w B a n xs) (hB:B<=w) (hk:Kq T w w') (hT:n≠0->∀b o,a=some ⟨b,o,none⟩->¬T b):jq f w' B a n xs:=by obtain⟨h1,h2,h3⟩:=h;refine⟨h1,h2,λhn=>?_⟩;obtain⟨b,o,ha,aT,hc⟩:=h3 hn;exact⟨b,o,ha,aT,λi hi=>(World.cell?_of_block (a:=⟨b,_,none⟩) (hk.block b ae (hT hn b o ha))).trans (hc i hi)⟩
section
variable {NB B C BL n m cd:Nat} {S:Nat->Prop} {w:World} {ps:Nat->Nat} {bl:Nat->Pb} {ad:Option Addr} {data:List UInt8} {v:Value} {rs:List Fs}
theorem J4 (h:eu NB B S w C BL ps bl) (hl:bQ 3 Va 35 w 0 v rs) (hn:rs.length<=2) (h0:∀y∈rs,0<=y.no/\y.kind=3/\y.a=ad/\y.n=m/\y.c=cd) (hx:Bytes w w ad m data) (hm:data.length<=96) (hlS:∀g,v.ownBlock=some g->¬S g) (hdS:m≠0->∀b o,ad=some ⟨b,o,none⟩->¬S b):
  Calls prog 10 #[C,v] w λe w'=>e=ar (O aa 0)/\eu NB B (Up S w w') w' C BL ps (upd bl NB {bl NB with bad:=true,aC:=0,nx:=2})/\Kq (λk=>k=C) w w':=by
 obtain⟨HH,HL,HX,HM⟩:=cr h hl hx hm;have hSC:S C:=h.hS _ (.inl rfl);obtain⟨HlC,HdC⟩:=cn (show∀g,v.ownBlock=some g->g≠C from λg hg e=>hlS g hg (e▸hSC)) (show m≠0->∀b o,ad=some ⟨b,o,none⟩->¬b=C from λh0 b o e e2=>hdS h0 b o e (e2▸hSC));obtain⟨fv0,si0,sk,rd,hC,_⟩:=h.hC;obtain⟨HC,H0⟩:=cn hC h0;obtain⟨n,Gx⟩:=aW rs.length;have YK:n<=2:=ae;have HN:=ag Gx;obtain⟨la,lc,hv,_⟩:=hl.bG Gx.symm;have HV:=ag hv;have aT:=h.ltC;have HCl:=ag aT;rw[hv];clear h hl hx hm hlS hdS hSC hC h0 hn Gx hv aT
 go_in
 go_wp2
 go_loopw [6,13] (λ_ i wr=>∃q:Nat,q<=n/\i=O aa q/\Below w w wr) (λ_ i _=>n-(intOf i).toNat)
 case atStart=>exact⟨0,ae,rfl,aE _ _⟩
 case round=>
  obtain⟨q,hq,rfl,hb⟩:=hrel;have kT:=ag hb;clear hb;by_cases aT:q<n
  .have Bq:q<rs.length:=by rw[<-HN.o];exact aT
   have k0:(0:Int)<=(q:Int):=ae;have k1:(q:Int)<(n:Int):=ae;obtain⟨g3,c3,hv3,_,hN3,hg3⟩:=HL.jh ae;rw[HV.o] at hv3;injection hv3 with e1 e2 e3
   subst e1;clear e2 e3;have Gy:=HL.on kT.o;rw[HV.o] at Gy;obtain⟨y0,y1,y2,y3,y4⟩:=H0.o rs[q] (cS Bq);have d0:wr.cell? (g3,q*3)=some (O aa rs[q].no):=(Gy.dU (i:=q) (j:=0) Bq ae).1;have d1:wr.cell? (g3,q*3+1)=some (O aa rs[q].kind):=(Gy.dU (i:=q) (j:=1) Bq ae).1;have d2:wr.cell? (g3,q*3+2)=some (an rs[q].a rs[q].n rs[q].c):=(Gy.dU (i:=q) (j:=2) Bq ae).1;rw[y1] at d1;rw[y2,y3,y4] at d2;have aue:decide (rs[q].no<0)=false:=ey ae;have aIE:¬rs[q].no<0:=ae;generalize rs[q].no=no at*;clear Gy hN3 hg3 Bq y1 y2 y3 y4;go_wp2;go_roundw
   case rel=>exact⟨q+1,ae,by go_num,kT.alloc kT.size _⟩
   case measure=>simp[intOf];omega
  .obtain rfl:n=q:=ae;have hCr:=HC.ah kT.o;have c4:=hCr.aj (i:=4) rfl;have f4:=hCr.frozen 4;have c5:=hCr.aj (i:=5) rfl;have f5:=hCr.frozen 5;go_wp2;have K2':=((Kq.of (T:=λk=>k=C) kT).setCell (p:=⟨C,4,none⟩) (.inl rfl) (an none 0 0)).setCell (p:=⟨C,5,none⟩) (.inl rfl) (O aa 0);have C2':=(hCr.set 4 (an none 0 0)).set 5 (O aa 0);rw[ajR] at C2';clear c4 f4 c5 f5 hCr kT;generalize (wr.setCell (C,4) (an none 0 0)).setCell (C,5) (O aa 0)=w2 at*;obtain⟨ja,ao1,gZ⟩:=cp K2' (show C<w2.heap.size from C2'.lt) (show acJ NB C BL sk rd data w2 0 w2 (an none 0 0) [] from⟨Kq.refl _ _,C2',bQ.nil afg _ _,rfl,λy hy=>by cases hy⟩);clear K2' C2'
   go_loopw [8,29] (λ_ i wi=>∃q:Nat,q<=n/\i=O aa q/\∃fv rows,acJ NB C BL sk rd data w2 q wi fv rows) (λ_ i _=>n-(intOf i).toNat)
   case atStart=>exact⟨0,ae,rfl,_,_,gZ⟩
   case round=>
    obtain⟨q,hq,rfl,fv,rows,hs⟩:=hrel;clear gZ;by_cases aT:q<n
    .have Bq:q<rs.length:=by rw[<-HN.o];exact aT
     have k0:(0:Int)<=(q:Int):=ae;have k1:(q:Int)<(n:Int):=ae;have hkr:=ja.trans hs.1;obtain⟨g3,c3,hv3,_,hN3,hg3⟩:=HL.jh ae;rw[HV.o] at hv3;injection hv3 with e1 e2 e3
     subst e1;clear e2 e3;have Gy:=HL.kq hkr λg hg=>HlC.o g hg;rw[HV.o] at Gy;obtain⟨y0,y1,y2,y3,y4⟩:=H0.o rs[q] (cS Bq);have d0:wr.cell? (g3,q*3)=some (O aa rs[q].no):=(Gy.dU (i:=q) (j:=0) Bq ae).1;have d1:wr.cell? (g3,q*3+1)=some (O aa rs[q].kind):=(Gy.dU (i:=q) (j:=1) Bq ae).1;have d2:wr.cell? (g3,q*3+2)=some (an rs[q].a rs[q].n rs[q].c):=(Gy.dU (i:=q) (j:=2) Bq ae).1;rw[y1] at d1;rw[y2,y3,y4] at d2;generalize rs[q].no=no at*;have hxr:=(ajT HX av hkr HdC).mono hkr.size;clear Gy hN3 hg3 Bq y1 y2 y3 y4;have fM:=(aE wr wr).alloc av (.cells #[O aa no,O aa 3,an ad m cd] 35);have RF0:=aF.new wr 35 #[O aa no,O aa 3,an ad m cd];have ao2:=ag (iY ad m cd data _ (hxr.on fM));have hdl:=hxr.len;have iG:(wr.alloc (.cells #[O aa no,O aa 3,an ad m cd] 35)).heap.size=wr.heap.size+1:=au;have HS:=ag hs;obtain⟨a4,c4,hf4,_⟩:=hs.2.2.1.bG hs.2.2.2.1;subst hf4;clear hxr hs hkr;go_wp2_with fail;obtain⟨wq,hwq⟩:=aW (wr.alloc (.cells #[O aa no,O aa 3,an ad m cd] 35));rw[<-hwq] at fM RF0 ao2 iG⊢;clear hwq;go_call ao2 as e w5 ⟨⟨v5,rfl,ho⟩,eQ⟩;obtain⟨a5,cc5,rfl,_⟩:=ho.bG hdl;have RF5:=RF0.ah eQ;have f2:=RF5.aj (i:=2) rfl;have z2:=RF5.frozen 2;have RF6:=RF5.set 2 (an a5 m cc5);have auf:=Rk (p:=⟨wr.heap.size,2,none⟩) ho (by show wr.heap.size<_;omega) (an a5 m cc5);have aug:Below wr wr (w5.setCell (wr.heap.size,2) (an a5 m cc5)):=(fM.aA eQ).setCell (p:=⟨wr.heap.size,2,none⟩) av (an a5 m cc5);clear RF0 RF5 ho eQ fM ao2 d0 d1 d2;go_upto_region 14 with fail;generalize w5.setCell (wr.heap.size,2) (an a5 m cc5)=w6 at*;obtain⟨sU,sW,Y6⟩:=cp (show aF w6.drew wr 35 #[O aa no,O aa 3,an a5 m cc5] from RF6) (aug.aA (ak w6)) (show Own aJ 5 w6.drew wr (an a5 m cc5) data from(auf.on (ak w6)).mono ae);obtain⟨HCd,HOr,HLr,Js,HgC⟩:=ct (HS.o.2.1.ah sW) (HS.o.2.2.1.on sW) HS.o.2.2.2.1 (show w2.heap.size<=w6.drew.heap.size from by have:=HS.o.1.size;have:=sW.size;omega) (show wr.heap.size≠C from by have:=HS.o.1.size;have:=ao1.o;omega);obtain⟨HCn,HGn,yx⟩:=cp (show¬(Value.slice a4 q c4).ownBlock=some C from λe=>by have:=(HS.o.2.2.1.aN C e).1;have:=ao1.o;omega) (show¬(Value.slice a4 q c4).ownBlock=some wr from λe=>by have:=(HS.o.2.2.1.aN _ e).2;omega) (λv7 w7 h7 oP=>HS.next (W6:=w6.drew) (W7:=w7) (fv':=v7) (no:=no) ao1 sW Y6 h7 oP);have q4:w6.drew.cell? (C,4)=some (an a4 q c4):=HCd.aj rfl;have Q4:=ag q4;clear f2 z2 RF6 auf aug q4;have hld:∀u:World,u.cell? (aw C 4)=some (an a4 q c4)->(Instr.loadAt 32 (.pointer (aw C 4))).run prog u= .ok (an a4 q c4) u:=λu hu=>by go_simp
     refine iE (λW'=>aF W' wr 35 #[O aa no,O aa 3,an a5 m cc5]) sU.o (λaY=>?_);refine dw 0 C 0 ?_;refine dw 1 C 0 ?_;refine aS 2 C 0 ?_;refine aS 3 C 4 ?_;refine jE 5 (.agg #[O aa no,O aa 3,an a5 m cc5]) rfl (λ_ aK=>by have y0:=aK.aj (i:=0) rfl;have y1:=aK.aj (i:=1) rfl;have y2:=aK.aj (i:=2) rfl;go_simp) ?_;refine wpAnyH_ready (rs:=[4,6]) az au ?_;refine bX rfl (λK' hK=>?_) (bX rfl (λK' hK=>?_) cN)
     .refine gK rfl (PU _ _ rfl (hld _ Q4)) ?_;refine hK.out _ _ aY (λdh=>?_)
      refine bY 6 (λK' hK=>?_);go_simp;refine hK.out _ _ (dh.alloc _) (λfE=>?_)
      refine bY 7 (λK' hK=>?_);refine uA (w:=w6.drew) (cs:=#[O aa no,O aa 3,an a5 m cc5]) rfl (.tmp 41) (.tmp 43) rfl w2 (an a4 q c4) rows rfl HOr.o (by rw[HLr.o];omega) Js.o ⟨no,3,a5,m,cc5⟩ w6 rfl rfl rfl ?_;intro v7 w7 uB nY;have HFn:=ag (yx.o v7 w7 uB nY);obtain⟨a7,c7,rfl,_⟩:=uB.bG (n:=q+1) (by rw[bE,HLr.o];rfl);have hCb:=HCd.kq nY.o HCn.o;have q4:w7.cell? (C,4)=some (an a4 q c4):=hCb.aj rfl;have z4:=hCb.frozen 4;have hRb:=sU.kq nY.o HGn.o;clear hCb;refine hK.out _ _ hRb (λiZ=>?_)
      refine aS 8 C 0 ?_;refine aS 9 C 4 ?_;refine bY 10 (λK' hK=>?_);go_simp;refine hK.out _ _ (iZ.far (p:=⟨C,4,none⟩) HgC _) (λqX=>?_)
      refine eH ?_;clear q4 z4 hRb;clear aY dh fE iZ qX hld;go_wp2;go_roundw
      case rel=>exact⟨q+1,ae,by go_num,_,_,HFn⟩
      case measure=>simp[intOf];omega
     .go_simp;refine hK.out _ _ (aY.alloc _) (λdh=>?_)
      refine bY 4 (λK' hK=>?_);refine gK rfl (PU _ _ rfl (hld _ (((aE w6.drew w6.drew).alloc av _).cell (p:=⟨C,4,none⟩) (HCd.lt)|>.trans Q4))) ?_;refine hK.out _ _ dh (λfE=>?_)
      refine bY 7 (λK' hK=>?_);refine uA (w:=w6.drew) (cs:=#[O aa no,O aa 3,an a5 m cc5]) rfl (.tmp 41) (.tmp 43) rfl w2 (an a4 q c4) rows rfl HOr.o (by rw[HLr.o];omega) Js.o ⟨no,3,a5,m,cc5⟩ w6 rfl rfl rfl ?_;intro v7 w7 uB nY;have HFn:=ag (yx.o v7 w7 uB nY);obtain⟨a7,c7,rfl,_⟩:=uB.bG (n:=q+1) (by rw[bE,HLr.o];rfl);have hCb:=HCd.kq nY.o HCn.o;have q4:w7.cell? (C,4)=some (an a4 q c4):=hCb.aj rfl;have z4:=hCb.frozen 4;have hRb:=sU.kq nY.o HGn.o;clear hCb;refine hK.out _ _ hRb (λiZ=>?_)
      refine aS 8 C 0 ?_;refine aS 9 C 4 ?_;refine bY 10 (λK' hK=>?_);go_simp;refine hK.out _ _ (iZ.far (p:=⟨C,4,none⟩) HgC _) (λqX=>?_)
      refine eH ?_;clear q4 z4 hRb;clear aY dh fE iZ qX hld;go_wp2;go_roundw
      case rel=>exact⟨q+1,ae,by go_num,_,_,HFn⟩
      case measure=>simp[intOf];omega
    .obtain rfl:n=q:=ae;have HF:=ag (HH.script ja hs YK HM);clear hs;go_wp2;go_ret;exact⟨rfl,HF.o.1,HF.o.2⟩
end
end
section
def aQ X n:=(cz n).map λi=>bx (X/256^i)
theorem aU X n:(aQ X n).length=n:=by simp[aQ]
theorem F7 X k:aQ X (k+1)=aQ X k++[bx (X/256^k)]:=by simp[aQ,dz]
def dX:List UInt8->Nat
 |[]=>0
 |b::bs=>b.toNat+256*dX bs
theorem TA xs:dX xs<256^xs.length:=by
 induction xs with
 |nil=>simp[dX]
 |cons b bs ih=>
  have:=b.toNat_lt;grind[dX]
theorem Qy X n:aQ X (n+1)=bx X::aQ (X/256) n:=by
 simp only[aQ,List.range_succ_eq_map,cE,cW,Nat.pow_zero,Nat.div_one]
 congr 1
 apply dp;intro i _;simp only[Function.comp_apply,Nat.pow_succ,Nat.div_div_eq_div_mul,Nat.mul_comm]
theorem adS X n:dX (aQ X n)=X%256^n:=by
 induction n generalizing X with
 |zero=>simp[aQ,dX,Nat.mod_one]
 |succ n ih=>
  have h:=Nat.mod_mul (x:=X) (a:=256) (b:=256^n);have e:256^(n+1)=256*256^n:=by grind
  rw[Qy,dX,ih,eh,e,h]
theorem Hr {X n} (h:X<256^n):dX (aQ X n)=X:=by rw[adS,Nat.mod_eq_of_lt h]
theorem adT xs:aQ (dX xs) xs.length=xs:=by
 induction xs with
 |nil=>rfl
 |cons b bs ih=>
  have hb:=b.toNat_lt;rw[cD,Qy,dX];have h1:(b.toNat+256*dX bs)/256=dX bs:=ae;have h2:bx (b.toNat+256*dX bs)=b:=by apply UInt8.toNat_inj.1;rw[eh];omega
  rw[h1,ih,h2]
def aX (xs:List UInt8):ByteArray:=⟨xs.toArray⟩
theorem VX {xs ys} (h:aX xs=aX ys):xs=ys:=by
 have h2:=congrArg ByteArray.data h
 simpa[aX] using h2
end
section
open RowKit Go
theorem P9 {w B a n c xs} (hx:Bytes w B a n xs):
  (convert 23 9 (an a n c)).run prog w= .ok (.string (aX xs)) w:=by
 have hl:=hx.len;by_cases hn:n=0
 .subst hn;obtain rfl:xs=[]:=ek hl;rw[run_convert_bytes_string w _ _ _ a 0 c Tryz.underlying23 Tryz.underlying5 Tryz.underlying9]
  cases a with
  |none=>rfl
  |some a=>
   have h:=run_loadCells_list (P:=prog) w a [] (λj v hj=>by simp at hj);exact run_bytesToString w a 0 c [] h
 .obtain⟨b,o,_,rfl,_,_⟩:=hx.at_ (k:=0) ae;have h:=run_convert_bytes_arg (P:=prog) w 23 5 Tryz.underlying23 Tryz.underlying5 b o n c (xs.map λx=>(x.toNat:Int)) (by simp[hl])
   (λi hi=>by obtain⟨b',o',hi',hb,_,hc⟩:=hx.at_ hi;grind) 9 Tryz.underlying9
  have e:(xs.map λx=>(x.toNat:Int)).map (λn=>bx n.toNat)=xs:=by
   rw[cW]
   conv=>rhs;rw[<-List.map_id xs]
   apply dp;intro x _;simp
  have e2:strOfNums (xs.map λx=>(x.toNat:Int))=aX xs:=by unfold strOfNums aX;rw[e]
  rw[e2] at h;exact h
theorem Md xs ys:((aX xs).toList==(aX ys).toList)=decide (xs=ys):=by
 by_cases h:xs=ys
 .rw[h];simp
 .rw[ey h];exact(Lib.bytes_beq_false_iff _ _).2 (λe=>h (VX e))
theorem Za a b n c m d xs ys w (hx:Bytes w w a n xs) (hy:Bytes w w b m ys):
  Calls prog 15 #[an a n c,an b m d] w λe w'=>e=ar (aq (decide (xs=ys)))/\w=w':=by
 have h1:=P9 (c:=c) hx;have h2:=P9 (c:=d) hy
 go_in
 go_wp2_with fail;rw[Md];go_ret;exact⟨rfl,rfl⟩
end
section
open RowKit
theorem F8 (xs:List UInt8) k h:dX (xs.drop k)=xs[k].toNat+256*dX (xs.drop (k+1)):=by rw[List.drop_eq_getElem_cons h,dX]
theorem Ee {xs:List UInt8} {n} (hn:n<=8) (hl:xs.length=n) k (hk:0<k) (hkn:k<=n):dX (xs.drop k)*256<=18446744073709551360:=by have h:=TA (xs.drop k);rw[dk,hl] at h;have h2:(256:Nat)^(n-k)<=256^7:=Nat.pow_le_pow_right ae ae;grind
theorem xB a n c xs w (hx:Bytes w w a n xs) (hn:n<=8):
    Calls prog 62 #[an a n c] w λe w'=>e=ar (O .u64 (dX xs))/\w=w':=by
  have hl:=hx.len;have HL:=ag hl;clear hl
  go_in
  go_wp2
  go_loop [3,4] (λx i=>∃k:Nat,k<=n/\i=O aa ((k:Int)-1)/\x=O .u64 (dX (xs.drop k):Nat)) (λ_ i=>(intOf i+1).toNat)
  case atStart=>exact⟨n,ae,rfl,by rw[List.drop_of_length_le (by have:=HL.o;omega)];rfl⟩
  case round=>
    obtain⟨k,hk,rfl,rfl⟩:=hrel;by_cases aT:0<k
    · obtain⟨b,o,nD,rfl,hb,hc⟩:=hx.at_ (k:=k-1) ae
      have hd:=F8 xs (k-1) nD;rw[Nat.sub_add_cancel aT] at hd;have pM:=Ee hn HL.o k aT hk;have gB:=(xs[k-1]).toNat_lt;have HD:=ag hd;clear hd;generalize hX:dX (xs.drop k)=X at*;generalize hY:xs[k-1]=y at*;obtain⟨HX,HY⟩:=cn hX hY;clear hX hY;obtain⟨j,rfl⟩:∃j,k=j+1:=⟨k-1,ae⟩
      rw[Nat.add_sub_cancel] at hc;rw[Nat.add_sub_cancel] at HD;rw[show((j+1:Nat):Int)-1=(j:Int) by omega];go_wp2
      go_round
      case rel=>exact⟨j,ae,by go_num,by rw[HD.o];exact congrArg (Value.int .u64) ae⟩
      case measure=>simp[intOf]
    · obtain rfl:k=0:=ae
      go_wp2;go_ret;exact⟨rfl,rfl⟩
theorem aay (X b:Nat) (hX:X<36028797018963968) (hb:b<256):bits .or .i64 (X*256) b=((X*256+b:Nat)):=by
 have h1:X*256|||b=X*256+b:=by have:=Nat.two_pow_add_eq_or_of_lt (i:=8) (b:=b) hb X;grind
 have e:(X:Int)*256=((X*256:Nat):Int):=ae;rw[e];unfold bits;have a1:(de 64 ((X*256:Nat):Int)).toNat=X*256:=zL _ ae;have a2:(de 64 (b:Int)).toNat=b:=zL _ ae;show IntKind.i64.wrap ((de 64 ((X*256:Nat):Int)|||de 64 (b:Int)).toNat:Int)=_;rw[BitVec.toNat_or,a1,a2,h1];exact bq _ ⟨ae,ae⟩
theorem O6 {ys:List UInt8} {k} (hk:k<=7) (hl:ys.length=k) j (h0:0<j) (hj:j<=k):dX (ys.drop j)<281474976710656:=by have h:=TA (ys.drop j);rw[dk,hl] at h;have h2:(256:Nat)^(k-j)<=256^6:=Nat.pow_le_pow_right ae ae;grind
theorem aaz R B a n c xs k w (hR:aF w R 23 #[an a n c]) (hx:Bytes w B a n xs) (hk:k<=n) (oP:k<=7):
  Calls prog 232 #[O aa k,R] w λe w'=>e=ar (O aa (dX (xs.take k)))/\w'=w.setCell (aw R 0) (an (iQ a c k) (n-k) (c-k)):=by
 have hl:=hx.len;have hm:=ag (hx.take hk);have Gz:(xs.take k).length=k:=by rw[cI];omega
 generalize hys:xs.take k=ys at*;clear hys;have HL:=ag Gz;have c0:=hR.aj (i:=0) rfl;have f0:=hR.frozen 0;clear Gz hl
 go_in
 go_wp2
 go_loop [4,5] (λx i=>∃j:Nat,j<=k/\i=O aa ((j:Int)-1)/\x=O aa (dX (ys.drop j):Nat)) (λ_ i=>(intOf i+1).toNat)
 case atStart=>exact⟨k,ae,rfl,by rw[List.drop_of_length_le (by have:=HL.o;omega)];rfl⟩
 case round=>
  obtain⟨j,hj,rfl,rfl⟩:=hrel;by_cases aT:0<j
  .obtain⟨b,o,nD,rfl,hb,hc⟩:=hm.at_ (k:=j-1) ae;have hd:=F8 ys (j-1) nD;rw[Nat.sub_add_cancel aT] at hd;have pM:=O6 oP HL.o j aT hj;have gB:=(ys[j-1]).toNat_lt;have HD:=ag hd;clear hd;have Vb:=aay (dX (ys.drop j)) (ys[j-1]).toNat ae gB;generalize hX:dX (ys.drop j)=X at*;generalize hY:ys[j-1]=y at*;clear hX hY;obtain⟨i,rfl⟩:∃i,j=i+1:=⟨j-1,ae⟩
   rw[Nat.add_sub_cancel] at hc;rw[Nat.add_sub_cancel] at HD;rw[show((i+1:Nat):Int)-1=(i:Int) by omega];go_wp2
   go_round
   case rel=>exact⟨i,ae,by go_num,by rw[HD.o];exact congrArg (Value.int .i64) ae⟩
   case measure=>simp[intOf]
  .obtain rfl:j=0:=ae;have hcut:=kE a n c k hk;go_wp2;go_ret;exact⟨rfl,rfl⟩
structure Taken R B m ys w w':Prop where
 rest:∃a' c',aF w' R 23 #[an a' m c']/\Bytes w' B a' m ys/\m<=c'
 far:∀{g t cs},g≠R->aF w g t cs->aF w' g t cs
 size:w'=w.heap.size
 below:∀{D},D<=R->Below D w w'
theorem iU R B a n c (xs:List UInt8) k m j i w (hR:aF w R 23 #[an a n c]) (hx:Bytes w B a n (xs.drop j)) (uD:n<=c) (hB:B<=R) (hn:n=m+k) (hi:i=j+k) (oP:k<=7):
  Calls prog 232 #[O aa k,R] w λe w'=>e=ar (O aa (dX ((xs.drop j).take k)))/\Taken R B m (xs.drop i) w w':=by
 refine(aaz R B a n c (xs.drop j) k w hR hx ae oP).mono ?_;rintro e w' ⟨rfl,rfl⟩;have h:=(hx.drop (l:=k) ae uD).below ((aE B w).setCell (p:=⟨R,0,none⟩) hB (an (iQ a c k) (n-k:Nat) (c-k:Nat)));have hr:=hR.set 0 (an (iQ a c k) (n-k:Nat) (c-k:Nat));rw[dr,<-hi] at h;have e:n-k=m:=ae;rw[e] at h hr⊢;exact⟨rfl,⟨_,_,hr,h,ae⟩,λdi hb=>hb.far di _,au,λhD=>(aE _ _).setCell hD _⟩
end
section
namespace lU
def stp r:=if r&&&1#32=1#32 then(r>>>1)^^^3988292384#32 else r>>>1
def Ef
 |0,r=>r
 |k+1,r=>stp (Ef k r)
def put (r:BitVec 32) (b:UInt8):=Ef 8 (r^^^b.toBitVec.setWidth 32)
def puts (r:BitVec 32) (l:List UInt8):=l.foldl put r
def more s l:= ~~~(puts (~~~s) l)
def sum l:=more 0#32 l
theorem Qz r l b:puts r (l++[b])=put (puts r l) b:=by simp[puts]
theorem Xr r l m:puts r (l++m)=puts (puts r l) m:=by simp[puts]
end lU
namespace lU
end lU
namespace lU
end lU
structure Tg where
 k:Int
 p:Nat
 s:Nat
 e:Nat
namespace Tg
def zero:Tg:=⟨0,0,0,0⟩
def Right (t:Tg):=(t.k=1\/t.k=2)/\t.p<8192/\1<=t.s/\t.s<4611686018427387904/\1<=t.e/\t.e<4611686018427387904
instance (t:Tg):Decidable (Right t):=by unfold Right;exact inferInstance
def uT t:=decide (Right t)
theorem jC {t} (h:Right t):uT t=true:=ez h
theorem dB {t} (h:¬Right t):uT t=false:=ey h
def Fits n:=n=64\/n=128\/n=256\/n=512
instance (n:Nat):Decidable (Fits n):=by unfold Fits;exact inferInstance
def head (t:Tg):=[67,85,bx t.k.toNat,0]++aQ t.p 4++aQ t.s 8++aQ t.e 8
theorem Me t:(head t).length=24:=by simp[head,aU]
def sumOf t pay:=(lU.sum (pay++head t)).toNat
def beside t pay:=head t++aQ (sumOf t pay) 4++[0,0,0,0]
theorem xC t pay:(beside t pay).length=32:=by simp[beside,Me,aU]
def page t pay:=pay++beside t pay
theorem rX t pay:(page t pay).length=pay.length+32:=by simp[page,xC]
theorem alp t pay:page t pay=pay++head t++aQ (sumOf t pay) 4++[0,0,0,0]:=by simp[page,beside]
def num (d:List UInt8) i k:=dX ((d.drop i).take k)
def raw (d:List UInt8):Tg:=⟨(num d 2 1),num d 4 4,num d 8 8,num d 16 8⟩
def full (l:List UInt8):=l.all (·==255)
def Good pay d:=num d 0 2=21827/\num d 3 1=0/\num d 28 4=0/\Right (raw d)/\num d 24 4=(lU.sum (pay++d.take 24)).toNat
instance (pay d:List UInt8):Decidable (Good pay d):=by unfold Good;exact inferInstance
theorem kZ {α:Type} {a b c d:List α} (h:a.length=c.length):a++b=c++d↔a=c/\b=d:=by
 constructor
 .intro e;exact List.append_inj e h
 .rintro⟨rfl,rfl⟩;rfl
theorem rZ (d:List UInt8) i k:d.drop i=(d.drop i).take k++d.drop (i+k):=by rw[<-dr,List.take_append_drop]
theorem jR {d i k X} (h:i+k<=d.length) (hX:X<256^k):aQ X k=(d.drop i).take k↔num d i k=X:=by grind[Tg.num,Hr,adT]
theorem oK {d i k}:num d i k<256^k:=by
 have h:=TA ((d.drop i).take k);have h2:((d.drop i).take k).length<=k:=by grind
 exact cM h (Nat.pow_le_pow_right ae h2)
theorem aaA d:0<=(raw d).k/\(raw d).k<256/\(raw d).p<4294967296/\(raw d).s<18446744073709551616/\(raw d).e<18446744073709551616:=by
 have h1:=oK (d:=d) (i:=2) (k:=1);have h2:=oK (d:=d) (i:=4) (k:=4);have h3:=oK (d:=d) (i:=8) (k:=8);have h4:=oK (d:=d) (i:=16) (k:=8);refine⟨?_,?_,h2,h3,h4⟩
 .show(0:Int)<=((num d 2 1:Nat):Int);omega
 .show((num d 2 1:Nat):Int)<256;grind
theorem MC t:head t=aQ 21827 2++(aQ t.k.toNat 1++(aQ 0 1++(aQ t.p 4++(aQ t.s 8++aQ t.e 8)))):=by
 have e:aQ t.k.toNat 1=[bx t.k.toNat]:=by simp[aQ,dz]
 rw[e];show _=[67,85]++_;simp[head,show aQ 0 1=[0] from rfl]
theorem TB t pay:beside t pay=aQ 21827 2++(aQ t.k.toNat 1++(aQ 0 1++(aQ t.p 4++(aQ t.s 8++(aQ t.e 8++(aQ (sumOf t pay) 4++aQ 0 4)))))):=by rw[beside,MC];simp only[cQ,show aQ 0 4=[0,0,0,0] from rfl]
theorem Xt {d:List UInt8} (h:d.length=32):d=(d.drop 0).take 2++((d.drop 2).take 1++((d.drop 3).take 1++((d.drop 4).take 4++((d.drop 8).take 8++((d.drop 16).take 8++((d.drop 24).take 4++(d.drop 28).take 4)))))):=by grind[Tg.rZ]
theorem adU {d t pay} (e:beside t pay=d):d.take 24=head t:=by grind[Tg.beside,Tg.Me]
theorem sum_lt t pay:sumOf t pay<256^4:=by have:=(lU.sum (pay++head t)).isLt;have e:(256:Nat)^4=2^32:=aB;rw[e];exact this
theorem uU {t} (ht:Right t) {pay d} (h:d.length=32):beside t pay=d↔Good pay d/\raw d=t:=by
 obtain⟨hk,hp,ET,hs,Ff,he⟩:=id ht;have p1:t.k.toNat<256^1:=by grind
 have p4:t.p<256^4:=by grind
 have e8:(256:Nat)^8=18446744073709551616:=aB;have ps:t.s<256^8:=ae;have pe:t.e<256^8:=ae;have key:beside t pay=d↔num d 0 2=21827/\num d 2 1=t.k.toNat/\num d 3 1=0/\num d 4 4=t.p/\num d 8 8=t.s/\num d 16 8=t.e/\num d 24 4=sumOf t pay/\num d 28 4=0:=by
  rw[TB]
  conv=>lhs;rhs;rw[Xt h]
  rw[kZ (by simp[aU,h]),kZ (by simp[aU,h]),kZ (by simp[aU,h]),kZ (by simp[aU,h]),kZ (by simp[aU,h]),kZ (by simp[aU,h]),kZ (by simp[aU,h]),
   jR ae aB,jR ae p1,jR ae aB,jR ae p4,jR ae ps,jR ae pe,jR ae (sum_lt t pay),jR ae aB]
 constructor
 .intro e;have e':=e;rw[key] at e;obtain⟨a0,a1,a2,a3,a4,a5,a6,a7⟩:=e;have hr:raw d=t:=by obtain⟨k,p,s,e⟩:=t;simp only[raw,a1,a3,a4,a5,Tg.mk.injEq,and_true];grind
  refine⟨⟨a0,a2,a7,hr▸ht,?_⟩,hr⟩;rw[adU e',a6];rfl
 .rintro⟨⟨a0,a2,a7,_,a6⟩,hr⟩;rw[key];subst hr;refine⟨a0,?_,a2,rfl,rfl,rfl,?_,a7⟩
  .show num d 2 1=(((num d 2 1:Nat):Int)).toNat
   omega
  .rw[a6];have hh:d.take 24=head (raw d):=by
    have hd:=Xt h;have e:d.take 24=(d.drop 0).take 2++((d.drop 2).take 1++((d.drop 3).take 1++((d.drop 4).take 4++((d.drop 8).take 8++(d.drop 16).take 8)))):=by
     have hc:d=((d.drop 0).take 2++((d.drop 2).take 1++((d.drop 3).take 1++((d.drop 4).take 4++((d.drop 8).take 8++(d.drop 16).take 8)))))++((d.drop 24).take 4++(d.drop 28).take 4):=by
      simpa only[cQ] using hd
     conv=>lhs;rw[hc]
     rw[List.take_append_of_le_length (by simp[h]),cL (by simp[h])]
    rw[e,MC];rw[kZ (by simp[aU,h]),kZ (by simp[aU,h]),kZ (by simp[aU,h]),kZ (by simp[aU,h]),kZ (by simp[aU,h])];refine⟨?_,?_,?_,?_,?_,?_⟩
    .exact((jR ae aB).2 a0).symm
    .exact((jR ae p1).2 (by show num d 2 1=(((num d 2 1:Nat):Int)).toNat;omega)).symm
    .exact((jR ae aB).2 a2).symm
    .exact((jR ae p4).2 rfl).symm
    .exact((jR ae ps).2 rfl).symm
    .exact((jR ae pe).2 rfl).symm
   rw[hh];rfl
theorem jm {pay d} (h:d.length=32):Good pay d↔Right (raw d)/\beside (raw d) pay=d:=by grind[Tg.Good,Tg.uU]
def fC b:=if Fits (b.length-32)/\full b=false/\Good (b.take (b.length-32)) (b.drop (b.length-32)) then raw (b.drop (b.length-32)) else zero
def jS b:=if Fits (b.length-32)/\full b=false/\Good (b.take (b.length-32)) (b.drop (b.length-32)) then b.take (b.length-32) else[]
def fZ (b:List UInt8):Int:=if Fits (b.length-32) then(if full b=true then 20 else if Good (b.take (b.length-32)) (b.drop (b.length-32)) then 0 else 21) else 1
def Ok (t:Tg):=t.p<4294967296/\t.s<18446744073709551616/\t.e<18446744073709551616
end Tg
namespace lU
end lU
namespace Tg
theorem alq {l} (h:full l=true) i (hi:i<l.length):l[i]=255:=by
 rw[full,List.all_eq_true] at h
 simpa using h l[i] (cS hi)
theorem alr {t pay} i (hi:i<32):(page t pay)[pay.length+i]?=(beside t pay)[i]?:=by rw[page,List.getElem?_append_right ae,Nat.add_sub_cancel_left]
theorem TC t pay:(beside t pay)[0]?=some 67:=by simp[beside,head]
theorem adV {l} (h:full l=true) i (hi:i<l.length):l[i]?=some 255:=by rw[cX hi,alq h i hi]
theorem TD t pay:full (page t pay)=false:=by grind[Tg.full,Tg.page,Tg.beside]
theorem adW t pay:(page t pay).take pay.length=pay:=by rw[page,List.take_append_of_le_length av,cL av]
theorem adX t pay:(page t pay).drop pay.length=beside t pay:=by rw[page,List.drop_append_of_le_length av,List.drop_of_length_le av,cP]
theorem adY {t} (ht:Right t) pay:Good pay (beside t pay)/\raw (beside t pay)=t:=(uU ht (xC t pay)).1 rfl
theorem F9 {t} (ht:Right t) {pay} (hf:Fits pay.length):fC (page t pay)=t/\jS (page t pay)=pay/\fZ (page t pay)=0:=by grind[Tg.fC,Tg.jS,Tg.fZ,Tg.adY,Tg.rX,Tg.TD,Tg.adW,Tg.adX]
end Tg
end
end Go.Proofs.YtnieckfelfoopaaGreat

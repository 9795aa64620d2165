import Derived.Test.YtnieckfelfoopaaGreatOz
import Derived.WalkKit
import Derived.WalkSpells
import Derived.Lib.Hide
import Derived.Deep.MidRow
import Derived.Deep.Draws
import Derived.Deep.RegionHeld3
import Derived.Maps.AppendAt
import Derived.Deep.AppendLies
namespace Go.Proofs.YtnieckfelfoopaaGreat
open Lib (hid)
set_option maxRecDepth 100000
set_option maxHeartbeats 16000000
section
open Go.RowKit

theorem lV {n:Nat} (x:BitVec n):BitVec.ofInt n (x.toNat:Int)=x:=by rw[BitVec.ofInt_natCast,BitVec.ofNat_toNat,BitVec.setWidth_eq]

theorem uG (x y:BitVec 32):bits .xor .u32 (x.toNat:Int) (y.toNat:Int)=((x^^^y).toNat:Int):=by show IntKind.u32.wrap ((BitVec.ofInt 32 (x.toNat:Int)^^^BitVec.ofInt 32 (y.toNat:Int)).toNat:Int)=_;rw[lV,lV,IntKind.wrap_u32'];have:=(x^^^y).isLt;omega
theorem Ov (x y:BitVec 32):bits .and .u32 (x.toNat:Int) (y.toNat:Int)=((x&&&y).toNat:Int):=by show IntKind.u32.wrap ((BitVec.ofInt 32 (x.toNat:Int)&&&BitVec.ofInt 32 (y.toNat:Int)).toNat:Int)=_;rw[lV,lV,IntKind.wrap_u32'];have:=(x&&&y).isLt;omega
theorem agF (x:BitVec 32) (n:Nat):(x.toNat:Int)/(2^n:Nat)=((x>>>n).toNat:Int):=by rw[BitVec.toNat_ushiftRight,Nat.shiftRight_eq_div_pow,Int.natCast_ediv]
theorem Rk (x:BitVec 32):(x.toNat:Int)/(2:Int)=((x>>>1).toNat:Int):=agF x 1
theorem acR (b:UInt8):(b.toNat:Int)=((b.toBitVec.setWidth 32).toNat:Int):=by have:=b.toBitVec.isLt;rw[BitVec.toNat_setWidth];show((b.toBitVec.toNat:Nat):Int)=_;omega
theorem Rn (x:BitVec 32):bits .xor .u32 IntKind.u32.max (x.toNat:Int)=((~~~x).toNat:Int):=by have e:IntKind.u32.max=((BitVec.allOnes 32).toNat:Int):=aB;rw[e,uG,BitVec.allOnes_xor]
theorem xY (a:Nat) (ha:a<9223372036854775808):(BitVec.ofInt 64 (a:Int)).toNat=a:=by rw[BitVec.ofInt_natCast,BitVec.toNat_ofNat];exact Nat.mod_eq_of_lt ae
theorem _root_.Go.RowKit.Below.ay {w w1 w2:World} (h:Below w.heap.size w w1) (k:Below w1.heap.size w1 w2):Below w.heap.size w w2:=h.trans (k.mono h.size)

def jg {α:Type} (f:α->Value) (w:World) (B:Nat) (a:Option Addr) (n:Nat) (xs:List α):Prop:=
 xs.length=n/\n<=140737488351232/\(n≠0->∃b o,a=some ⟨b,o,none⟩/\b<B/\∀i (h:i<xs.length),w.cell? ⟨b,o+i,none⟩=some (f xs[i]))
def aH (x:UInt8):Value:= .int .u8 (x.toNat:Int)
def jL (x:Int):Value:= .int .i64 x
theorem Hq (x:UInt8):aH x= .int .u8 (x.toNat:Int):=rfl
theorem agG (x:Int):jL x= .int .i64 x:=rfl
attribute [go_sem] Hq agG
abbrev Bytes:=jg aH
section
variable {α:Type} {f:α->Value} {w w':World} {B B':Nat} {a:Option Addr} {n:Nat} {xs:List α}
theorem jg.len (h:jg f w B a n xs):xs.length=n:=h.1
theorem jg.room (h:jg f w B a n xs):n<=140737488351232:=h.2.1
theorem jg.QQ (h:jg f w B a n xs) {k:Nat} (hk:k<n):
  ∃b o,∃h':k<xs.length,a=some ⟨b,o,none⟩/\b<B/\w.cell? ⟨b,o+k,none⟩=some (f xs[k]):=by
 obtain⟨h1,_,h3⟩:=h;obtain⟨b,o,ha,hb,hc⟩:=h3 ae;exact⟨b,o,ae,ha,hb,hc k ae⟩
theorem jg.keep (h:jg f w B a n xs) (hk:∀b o,b<B->w'.cell? ⟨b,o,none⟩=w.cell? ⟨b,o,none⟩):jg f w' B a n xs:=by obtain⟨h1,h2,h3⟩:=h;refine⟨h1,h2,λhn=>?_⟩;obtain⟨b,o,ha,aU,hc⟩:=h3 hn;exact⟨b,o,ha,aU,λi hi=>(hk b (o+i) aU).trans (hc i hi)⟩
theorem jg.below (h:jg f w B a n xs) (hb:Below B w w'):jg f w' B a n xs:=h.keep λb o aU=>hb.cell (p:=⟨b,o,none⟩) aU
theorem jg.mono (h:jg f w B a n xs) (hB:B<=B'):jg f w B' a n xs:=by obtain⟨h1,h2,h3⟩:=h;refine⟨h1,h2,λhn=>?_⟩;obtain⟨b,o,ha,aU,hc⟩:=h3 hn;exact⟨b,o,ha,ae,hc⟩
theorem jg.on (h:jg f w w.heap.size a n xs) (hb:Below w.heap.size w w'):jg f w' w'.heap.size a n xs:=(h.below hb).mono hb.size
theorem jg.none_ (w:World) (B:Nat) (a:Option Addr):jg f w B a 0 []:=⟨rfl,ae,λh=>absurd rfl h⟩
theorem jg.alloc (h:jg f w w.heap.size a n xs) (o:Obj):jg f (w.alloc o) (w.alloc o).heap.size a n xs:=h.on ((Below.refl _ _).alloc (Nat.le_refl _) o)
theorem jg.take (h:jg f w B a n xs) {k:Nat} (hk:k<=n):jg f w B a k (xs.take k):=by obtain⟨h1,h2,h3⟩:=h;refine⟨by rw[List.length_take];omega,ae,λhn=>?_⟩;obtain⟨b,o,ha,aU,hc⟩:=h3 ae;refine⟨b,o,ha,aU,λi hi=>?_⟩;rw[List.length_take] at hi;rw[List.getElem_take];exact hc i ae
end
theorem jg.at_ {w:World} {B:Nat} {a:Option Addr} {n:Nat} {xs:List UInt8} (h:Bytes w B a n xs) {k:Nat} (hk:k<n):
  ∃b o,∃h':k<xs.length,a=some ⟨b,o,none⟩/\b<B/\w.cell? ⟨b,o+k,none⟩=some (.int .u8 (xs[k].toNat:Int)):=h.QQ hk

def aF (w:World) (g:Nat) (t:TypeId) (cs:Array Value):Prop:=w.heap[g]?=some (.cells cs t (0,0))
section
variable {w w':World} {g:Nat} {t:TypeId} {cs:Array Value}
theorem aF.lt (h:aF w g t cs):g<w.heap.size:=by
 rcases Nat.lt_or_ge g w.heap.size with aU|Fb
 ·exact aU
 ·unfold aF at h;rw[Array.getElem?_eq_none Fb] at h;cases h
theorem aF.cell (h:aF w g t cs) (i:Nat):w.cell? ⟨g,i,none⟩=cs[i]?:=cell_of_row w g i cs t (0,0) h
theorem aF.aj (h:aF w g t cs) {i:Nat} {v:Value} (hv:cs[i]?=some v):w.cell? ⟨g,i,none⟩=some v:=(h.cell i).trans hv
theorem aF.c11 {a0 a1 a2 a3 a4 a5 a6 a7 a8 a9 a10:Value} (h:aF w g t cs) (h0:cs[0]?=some a0:=by exact rfl) (h1:cs[1]?=some a1:=by exact rfl) (h2:cs[2]?=some a2:=by exact rfl) (h3:cs[3]?=some a3:=by exact rfl) (h4:cs[4]?=some a4:=by exact rfl) (h5:cs[5]?=some a5:=by exact rfl) (h6:cs[6]?=some a6:=by exact rfl) (h7:cs[7]?=some a7:=by exact rfl) (h8:cs[8]?=some a8:=by exact rfl) (h9:cs[9]?=some a9:=by exact rfl) (L8:cs[10]?=some a10:=by exact rfl):w.cell? ⟨g,0,none⟩=some a0/\w.cell? ⟨g,1,none⟩=some a1/\w.cell? ⟨g,2,none⟩=some a2/\w.cell? ⟨g,3,none⟩=some a3/\w.cell? ⟨g,4,none⟩=some a4/\w.cell? ⟨g,5,none⟩=some a5/\w.cell? ⟨g,6,none⟩=some a6/\w.cell? ⟨g,7,none⟩=some a7/\w.cell? ⟨g,8,none⟩=some a8/\w.cell? ⟨g,9,none⟩=some a9/\w.cell? ⟨g,10,none⟩=some a10:=⟨h.aj h0,h.aj h1,h.aj h2,h.aj h3,h.aj h4,h.aj h5,h.aj h6,h.aj h7,h.aj h8,h.aj h9,h.aj L8⟩
theorem aF.c6 {a0 a1 a2 a3 a4 a5:Value} (h:aF w g t cs) (h0:cs[0]?=some a0:=by exact rfl) (h1:cs[1]?=some a1:=by exact rfl) (h2:cs[2]?=some a2:=by exact rfl) (h3:cs[3]?=some a3:=by exact rfl) (h4:cs[4]?=some a4:=by exact rfl) (h5:cs[5]?=some a5:=by exact rfl):w.cell? ⟨g,0,none⟩=some a0/\w.cell? ⟨g,1,none⟩=some a1/\w.cell? ⟨g,2,none⟩=some a2/\w.cell? ⟨g,3,none⟩=some a3/\w.cell? ⟨g,4,none⟩=some a4/\w.cell? ⟨g,5,none⟩=some a5:=⟨h.aj h0,h.aj h1,h.aj h2,h.aj h3,h.aj h4,h.aj h5⟩
theorem aF.c4 {a0 a1 a2 a3:Value} (h:aF w g t cs) (h0:cs[0]?=some a0:=by exact rfl) (h1:cs[1]?=some a1:=by exact rfl) (h2:cs[2]?=some a2:=by exact rfl) (h3:cs[3]?=some a3:=by exact rfl):w.cell? ⟨g,0,none⟩=some a0/\w.cell? ⟨g,1,none⟩=some a1/\w.cell? ⟨g,2,none⟩=some a2/\w.cell? ⟨g,3,none⟩=some a3:=⟨h.aj h0,h.aj h1,h.aj h2,h.aj h3⟩
theorem aF.c3 {a0 a1 a2:Value} (h:aF w g t cs) (h0:cs[0]?=some a0:=by exact rfl) (h1:cs[1]?=some a1:=by exact rfl) (h2:cs[2]?=some a2:=by exact rfl):w.cell? ⟨g,0,none⟩=some a0/\w.cell? ⟨g,1,none⟩=some a1/\w.cell? ⟨g,2,none⟩=some a2:=⟨h.aj h0,h.aj h1,h.aj h2⟩
theorem aF.frozen (h:aF w g t cs) (i:Nat):w.frozen? ⟨g,i,none⟩=false:=frozen_of_row w g i cs t h
theorem aF.new (w:World) (t:TypeId) (cs:Array Value):aF (w.alloc (.cells cs t)) w.heap.size t cs:=heap_alloc_new w _
theorem aF.drew (h:aF w g t cs):aF w.drew g t cs:=h
theorem aF.alloc (h:aF w g t cs) (o:Obj):aF (w.alloc o) g t cs:=(Below.heap_alloc w o g h.lt).trans h
theorem aF.set (h:aF w g t cs) (i:Nat) (u:Value):aF (w.setCell ⟨g,i,none⟩ u) g t (cs.setIfInBounds i u):=heap_setCell_same w g i cs t u h
theorem aF.far (h:aF w g t cs) {p:Addr} (hp:g≠p.block) (u:Value):aF (w.setCell p u) g t cs:=(heap_setCell_other w p g u hp).trans h
theorem aF.below {B:Nat} (h:aF w g t cs) (hb:Below B w w') (hg:g<B):aF w' g t cs:=(hb.block g hg).trans h
theorem aF.ah (h:aF w g t cs) (hb:Below w.heap.size w w'):aF w' g t cs:=h.below hb h.lt
theorem aF.grown {row:Option Nat} (h:aF w g t cs) (hb:w.grownBy w' row) (hg:some g≠row):aF w' g t cs:=(hb.block g h.lt hg).trans h
theorem aF.row (h:aF w g t cs) (Zw:Array Value):aF (w.setRow g Zw) g t Zw:=setRow_heap w g cs Zw t _ h
theorem aF.aky (h:aF w g t cs) {g':Nat} (dh:g≠g') (Zw:Array Value):aF (w.setRow g' Zw) g t cs:=(setRow_other w g' g Zw dh).trans h
theorem _root_.Go.RowKit.Below.cO {B:Nat} {a w:World} (h:Below B a w) {g:Nat} (hg:B<=g) (cs:Array Value):Below B a (w.setRow g cs):=
 h.trans ⟨rfl,rfl,rfl,au,λk hk=>setRow_other _ _ _ _ ae⟩
end
theorem Fg {w:World} {p:Addr} (h:(w.cell? p).isSome=true):p.block<w.heap.size:=by obtain⟨v,hv⟩:=Option.isSome_iff_exists.1 h;exact block_lt_of_cell hv
theorem aC {P:Program} {ops:Array Oper} {rest:List Oper} {o:Oper} {a:Act} {w:World} {Q:Exit->Act->World->Prop} (mD:o.guard=none) (au5:o.dst=none) (ty:TypeId) (x y:Operand) (ho:o.op= .store ty x y)
  (g:Nat) (Zw:Array Value) (hx:a.eval x= .pointer (some ⟨g,0,none⟩)) (hy:a.eval y= .agg Zw) (t:TypeId) (cs:Array Value) (hg:aF w g t cs) (hs:cs.size=Zw.size)
  (hi:(P.info? ty).map (·.size)=some Zw.size) (h1:Zw.all (·.oneCell')=true)
  (h:wpList P ops Q rest a (w.setRow g Zw)):wpList P ops Q (o::rest) a w:=
 wpList_store_row mD ty x y ho g Zw hx hy t cs hg hi hs h1 (by rw[au5];exact h)
theorem aO:(∀(ts:Array Value) (ds:List Deferred) (i:Tmp) (v:Value),Act.put ⟨ts,ds⟩ (some i) v=⟨ts.setIfInBounds i v,ds⟩)/\(∀(a:Act) (v:Value),Act.put a none v=a)/\(∀(xs:List Value) (i:Nat) (x:Value),xs.toArray.setIfInBounds i x=(xs.set i x).toArray)/\
  (∀(x y:Value) (xs:List Value),(x::xs).set 0 y=y::xs)/\(∀(x y:Value) (xs:List Value) (n:Nat),(x::xs).set (n+1) y=x::xs.set n y):=
 ⟨λ_ _ _ _=>rfl,λ_ _=>rfl,λ_ _ _=>au,λ_ _ _=>rfl,λ_ _ _ _=>rfl⟩
section
variable {P:Program} {md:Region.Mode} {ops:Array Oper} {Q:Exit->Act->World->Prop} {S:World->Prop} {oi:Oper} {v:Value} {fuel:Nat} {aZ:Array Bool} {a a':Act} {w:World}
theorem AQ (i:Nat) (hi:ops.toList[i]?=some oi) (hs:Region.noSelect ops=true) (hf:Region.free md ops aZ i=true) (hr:(Region.ready md ops aZ).contains i=true)
  (hQ:∀c a w,Q (.panic c) (a.put oi.dst v) w->Q (.panic c) a w) (hw:Region.wanted oi (yielded ops a.tmps)=true) (hv:∀w,S w->(execOp a.eval oi).run P w= .ok (.value v) w) (hS:S w)
  (h:wpAnyH P md ops Q S fuel (aZ.setIfInBounds i true) (a.put oi.dst v) w):wpAnyH P md ops Q S (fuel+1) aZ a w:=
 wpAnyH_take (by rw[<-Array.getElem?_toList];exact hi) hs hf hr hQ (.inl ⟨hw,hv⟩) hS h
theorem akz (i:Nat) (hi:ops.toList[i]?=some oi) (hs:Region.noSelect ops=true) (hf:Region.free md ops aZ i=true) (hr:(Region.ready md ops aZ).contains i=true)
  (hQ:∀c a w,Q (.panic c) (a.put oi.dst undef) w->Q (.panic c) a w) (hw:Region.wanted oi (yielded ops a.tmps)=false) (hS:S w)
  (h:wpAnyH P md ops Q S fuel (aZ.setIfInBounds i true) (a.put oi.dst undef) w):wpAnyH P md ops Q S (fuel+1) aZ a w:=
 wpAnyH_take (by rw[<-Array.getElem?_toList];exact hi) hs hf hr hQ (.inr ⟨hw,rfl⟩) hS h
theorem jy (i:Nat) (v:Value) (hi:ops.toList[i]?=some oi) (hv:∀w,S w->(execOp a.eval oi).run P w= .ok (.value v) w) (h:wpAnyH P md ops Q S fuel (aZ.setIfInBounds i true) a' w) (hs:Region.noSelect ops=true:=by kernel_rfl) (hf:Region.free md ops aZ i=true:=by kernel_rfl) (hr:(Region.ready md ops aZ).contains i=true:=by kernel_rfl) (hQ:∀c a w,Q (.panic c) (a.put oi.dst v) w->Q (.panic c) a w:=by exact λ_ _ _ h=>h) (hw:Region.wanted oi (yielded ops a.tmps)=true:=by rfl) (hS:S w:=by assumption) (ha:a.put oi.dst v=a':=by(try simp only[aO]);exact rfl):wpAnyH P md ops Q S (fuel+1) aZ a w:=AQ i hi hs hf hr hQ hw hv hS (by rw[ha];exact h)
theorem fB (i:Nat) (v:Value) (h:wpAnyH P md ops Q S fuel (aZ.setIfInBounds i true) a' w) (hi:ops.toList[i]?=some oi:=by exact rfl) (hs:Region.noSelect ops=true:=by kernel_rfl) (hf:Region.free md ops aZ i=true:=by kernel_rfl) (hr:(Region.ready md ops aZ).contains i=true:=by kernel_rfl) (hQ:∀c a w,Q (.panic c) (a.put oi.dst v) w->Q (.panic c) a w:=by exact λ_ _ _ h=>h) (hw:Region.wanted oi (yielded ops a.tmps)=true:=by rfl) (hv:∀w,S w->(execOp a.eval oi).run P w= .ok (.value v) w:=by exact λ_ _=>rfl) (hS:S w:=by assumption) (ha:a.put oi.dst v=a':=by(try simp only[aO]);exact rfl):wpAnyH P md ops Q S (fuel+1) aZ a w:=AQ i hi hs hf hr hQ hw hv hS (by rw[ha];exact h)
theorem fE (i:Nat) (v:Value) (h:wpAnyH P md ops Q S fuel (aZ.setIfInBounds i true) a' w) (hi:ops.toList[i]?=some oi:=by exact rfl) (hs:Region.noSelect ops=true:=by kernel_rfl) (hf:Region.free md ops aZ i=true:=by kernel_rfl) (hr:(Region.ready md ops aZ).contains i=true:=by kernel_rfl) (hQ:∀c a w,Q (.panic c) (a.put oi.dst v) w->Q (.panic c) a w:=by exact λ_ _ _ h=>h) (hw:Region.wanted oi (yielded ops a.tmps)=true:=by rfl) (hv:∀w,S w->(execOp a.eval oi).run P w= .ok (.value v) w:=by intro W aI;go_simp) (hS:S w:=by assumption) (ha:a.put oi.dst v=a':=by(try simp only[aO]);exact rfl):wpAnyH P md ops Q S (fuel+1) aZ a w:=AQ i hi hs hf hr hQ hw hv hS (by rw[ha];exact h)
theorem dP (i:Nat) (b d:Nat) (h:wpAnyH P md ops Q S fuel (aZ.setIfInBounds i true) a' w) (hi:ops.toList[i]?=some oi:=by exact rfl) (hs:Region.noSelect ops=true:=by kernel_rfl) (hf:Region.free md ops aZ i=true:=by kernel_rfl) (hr:(Region.ready md ops aZ).contains i=true:=by kernel_rfl) (hQ:∀c a w,Q (.panic c) (a.put oi.dst (.pointer (some ⟨b,d,none⟩))) w->Q (.panic c) a w:=by exact λ_ _ _ h=>h) (hw:Region.wanted oi (yielded ops a.tmps)=true:=by rfl) (hv:∀w,S w->(execOp a.eval oi).run P w= .ok (.value (.pointer (some ⟨b,d,none⟩))) w:=by exact λ_ _=>rfl) (hS:S w:=by assumption) (ha:a.put oi.dst (.pointer (some ⟨b,d,none⟩))=a':=by(try simp only[aO]);exact rfl):wpAnyH P md ops Q S (fuel+1) aZ a w:=AQ i hi hs hf hr hQ hw hv hS (by rw[ha];exact h)
theorem aS (i:Nat) (b d:Nat) (h:wpAnyH P md ops Q S fuel (aZ.setIfInBounds i true) a' w) (hi:ops.toList[i]?=some oi:=by exact rfl) (hs:Region.noSelect ops=true:=by kernel_rfl) (hf:Region.free md ops aZ i=true:=by kernel_rfl) (hr:(Region.ready md ops aZ).contains i=true:=by kernel_rfl) (hQ:∀c a w,Q (.panic c) (a.put oi.dst (.pointer (some ⟨b,d,none⟩))) w->Q (.panic c) a w:=by exact λ_ _ _ h=>h) (hw:Region.wanted oi (yielded ops a.tmps)=true:=by rfl) (hv:∀w,S w->(execOp a.eval oi).run P w= .ok (.value (.pointer (some ⟨b,d,none⟩))) w:=by intro W aI;go_simp) (hS:S w:=by assumption) (ha:a.put oi.dst (.pointer (some ⟨b,d,none⟩))=a':=by(try simp only[aO]);exact rfl):wpAnyH P md ops Q S (fuel+1) aZ a w:=AQ i hi hs hf hr hQ hw hv hS (by rw[ha];exact h)
theorem eF (i:Nat) (n:Int) (h:wpAnyH P md ops Q S fuel (aZ.setIfInBounds i true) a' w) (hi:ops.toList[i]?=some oi:=by exact rfl) (hs:Region.noSelect ops=true:=by kernel_rfl) (hf:Region.free md ops aZ i=true:=by kernel_rfl) (hr:(Region.ready md ops aZ).contains i=true:=by kernel_rfl) (hQ:∀c a w,Q (.panic c) (a.put oi.dst (.int .i64 n)) w->Q (.panic c) a w:=by exact λ_ _ _ h=>h) (hw:Region.wanted oi (yielded ops a.tmps)=true:=by rfl) (hv:∀w,S w->(execOp a.eval oi).run P w= .ok (.value (.int .i64 n)) w:=by exact λ_ _=>rfl) (hS:S w:=by assumption) (ha:a.put oi.dst (.int .i64 n)=a':=by(try simp only[aO]);exact rfl):wpAnyH P md ops Q S (fuel+1) aZ a w:=AQ i hi hs hf hr hQ hw hv hS (by rw[ha];exact h)
theorem ik (i:Nat) (n:Int) (h:wpAnyH P md ops Q S fuel (aZ.setIfInBounds i true) a' w) (hi:ops.toList[i]?=some oi:=by exact rfl) (hs:Region.noSelect ops=true:=by kernel_rfl) (hf:Region.free md ops aZ i=true:=by kernel_rfl) (hr:(Region.ready md ops aZ).contains i=true:=by kernel_rfl) (hQ:∀c a w,Q (.panic c) (a.put oi.dst (.int .i64 n)) w->Q (.panic c) a w:=by exact λ_ _ _ h=>h) (hw:Region.wanted oi (yielded ops a.tmps)=true:=by rfl) (hv:∀w,S w->(execOp a.eval oi).run P w= .ok (.value (.int .i64 n)) w:=by intro W aI;go_simp) (hS:S w:=by assumption) (ha:a.put oi.dst (.int .i64 n)=a':=by(try simp only[aO]);exact rfl):wpAnyH P md ops Q S (fuel+1) aZ a w:=AQ i hi hs hf hr hQ hw hv hS (by rw[ha];exact h)
theorem tC (i:Nat) (v:Value) {R:World->Prop} (hR:∀w,S w->R w) (h:wpAnyH P md ops Q S fuel (aZ.setIfInBounds i true) a' w) (hi:ops.toList[i]?=some oi:=by exact rfl) (hs:Region.noSelect ops=true:=by kernel_rfl) (hf:Region.free md ops aZ i=true:=by kernel_rfl) (hr:(Region.ready md ops aZ).contains i=true:=by kernel_rfl) (hQ:∀c a w,Q (.panic c) (a.put oi.dst v) w->Q (.panic c) a w:=by exact λ_ _ _ h=>h) (hw:Region.wanted oi (yielded ops a.tmps)=true:=by rfl) (hv:∀w,R w->(execOp a.eval oi).run P w= .ok (.value v) w:=by intro W aI;go_simp) (hS:S w:=by assumption) (ha:a.put oi.dst v=a':=by(try simp only[aO]);exact rfl):wpAnyH P md ops Q S (fuel+1) aZ a w:=AQ i hi hs hf hr hQ hw (λw h=>hv w (hR w h)) hS (by rw[ha];exact h)
theorem jH (i:Nat) (n:Int) {R:World->Prop} (hR:∀w,S w->R w) (h:wpAnyH P md ops Q S fuel (aZ.setIfInBounds i true) a' w) (hi:ops.toList[i]?=some oi:=by exact rfl) (hs:Region.noSelect ops=true:=by kernel_rfl) (hf:Region.free md ops aZ i=true:=by kernel_rfl) (hr:(Region.ready md ops aZ).contains i=true:=by kernel_rfl) (hQ:∀c a w,Q (.panic c) (a.put oi.dst (.int .i64 n)) w->Q (.panic c) a w:=by exact λ_ _ _ h=>h) (hw:Region.wanted oi (yielded ops a.tmps)=true:=by rfl) (hv:∀w,R w->(execOp a.eval oi).run P w= .ok (.value (.int .i64 n)) w:=by intro W aI;go_simp) (hS:S w:=by assumption) (ha:a.put oi.dst (.int .i64 n)=a':=by(try simp only[aO]);exact rfl):wpAnyH P md ops Q S (fuel+1) aZ a w:=AQ i hi hs hf hr hQ hw (λw h=>hv w (hR w h)) hS (by rw[ha];exact h)
theorem rM (i:Nat) (h:wpAnyH P md ops Q S fuel (aZ.setIfInBounds i true) a' w) (hi:ops.toList[i]?=some oi:=by exact rfl) (hs:Region.noSelect ops=true:=by kernel_rfl) (hf:Region.free md ops aZ i=true:=by kernel_rfl) (hr:(Region.ready md ops aZ).contains i=true:=by kernel_rfl) (hQ:∀c a w,Q (.panic c) (a.put oi.dst undef) w->Q (.panic c) a w:=by exact λ_ _ _ h=>h) (hw:Region.wanted oi (yielded ops a.tmps)=false:=by rfl) (hS:S w:=by assumption) (ha:a.put oi.dst undef=a':=by(try simp only[aO]);exact rfl):wpAnyH P md ops Q S (fuel+1) aZ a w:=akz i hi hs hf hr hQ hw hS (by rw[ha];exact h)
theorem dm (i:Nat) (h:∀K':Act->World->Prop,Shut (∀a w,S w->(S w->wpAnyH P md ops Q S fuel (aZ.setIfInBounds i true) a w)->K' a w)->if Region.wanted oi (yielded ops a.tmps)=true then Oper.wp P oi a w K' Q else K' (a.put oi.dst undef) w) (ho:ops[i]?=some oi:=by exact rfl) (hr:Region.ready md ops aZ=[i]:=by kernel_rfl):wpAnyH P md ops Q S (fuel+1) aZ a w:=wpAnyH_ready hr au (AllReadyH.cons ho h AllReadyH.nil)
theorem iT {id:Nat} (S:World->Prop) (hS:S w.drew) (h:S w.drew->wpAnyH P .any ops (NoPanic Q) S ops.size (Array.replicate ops.size false) a w.drew) (hm:P.follows .mixedOrders=true:=by kernel_rfl):(Code.region id ops true).wp P Q a w:=wp_region_noPanic (wp_region_held_drew hm hS h)
theorem gB (h:Q .normal a w) (hr:Region.ready md ops aZ=[]:=by kernel_rfl):wpAnyH P md ops (NoPanic Q) S fuel aZ a w:=wpAnyH_done hr (NoPanic.normal h) fuel
end
end
section
open Go.RowKit

def Own {α:Type} (f:α->Value) (e:TypeId) (w:World) (base:Nat) (v:Value) (xs:List α):Prop:=w.ownsRow base e 1 v xs.length (xs.map f)
section
variable {α:Type} {f:α->Value} {e:TypeId} {w w':World} {base:Nat} {v:Value} {xs:List α}
theorem Own.nil (w:World) (base:Nat):Own f e w base (.slice none 0 0) []:=World.ownsRow_nil w base e 1
theorem Own.form (h:Own f e w base v xs):∃a c,v= .slice a xs.length c/\xs.length<=c:=by
 rcases h.2 with⟨hv,hn⟩|⟨g,cap,cur,hv,_,_,hc,_⟩
 ·exact⟨none,0,by rw[hv,hn],ae⟩
 ·exact⟨_,cap,hv,hc⟩
theorem Own.bZ {n:Nat} (h:Own f e w base v xs) (hn:xs.length=n):∃a c,v= .slice a n c/\n<=c:=by subst hn;exact h.form
theorem Own.pY (h:Own f e w base v xs) (hn:0<xs.length):∃g c,v= .slice (some ⟨g,0,none⟩) xs.length c/\xs.length<=c/\base<=g/\g<w.heap.size:=by
 rcases h.2 with⟨_,h0⟩|⟨g,cap,cur,hv,jr,hg,hc,_⟩
 ·omega
 ·refine⟨g,cap,hv,hc,jr,?_⟩;rcases Nat.lt_or_ge g w.heap.size with aU|Fb
  ·exact aU
  ·rw[Array.getElem?_eq_none Fb] at hg;cases hg
theorem Own.arr {a:Option Addr} {n c:Nat} (h:Own f e w base (.slice a n c) xs) (hb:xs.length<=140737488351232):jg f w w.heap.size a n xs:=by
 rcases h.2 with⟨hv,hn⟩|⟨g,cap,cur,hv,_,hg,hc,_,hs,ht⟩
 ·injection hv with h1 h2 h3
  subst h2;have:xs=[]:=List.eq_nil_of_length_eq_zero hn;subst this;exact jg.none_ _ _ _
 ·injection hv with h1 h2 h3
  subst h1;refine⟨h2.symm,ae,λ_=>⟨g,0,rfl,?_,λi hi=>?_⟩⟩
  ·rcases Nat.lt_or_ge g w.heap.size with aU|Fb
   ·exact aU
   ·rw[Array.getElem?_eq_none Fb] at hg;cases hg
  ·rw[cell_of_row w g (0+i) cur e (0,0) hg];have h5:(xs.map f)[i]?=some (f xs[i]):=by rw[List.getElem?_map,List.getElem?_eq_getElem hi];rfl
   rw[<-ht,List.getElem?_take,if_pos ae] at h5;rw[Nat.zero_add,<-h5];simp
theorem Own.below {B:Nat} (h:Own f e w base v xs) (hb:Below B w w') (hB:w.heap.size<=B):Own f e w' base v xs:=by
 refine⟨h.1,?_⟩;rcases h.2 with h2|⟨g,cap,cur,hv,jr,hg,r⟩
 ·exact Or.inl h2
 ·refine Or.inr ⟨g,cap,cur,hv,jr,?_,r⟩;have aU:g<w.heap.size:=by
   rcases Nat.lt_or_ge g w.heap.size with aU|Fb
   ·exact aU
   ·rw[Array.getElem?_eq_none Fb] at hg;cases hg
  exact(hb.block g ae).trans hg
theorem Own.on (h:Own f e w base v xs) (hb:Below w.heap.size w w'):Own f e w' base v xs:=h.below hb (Nat.le_refl _)
theorem Own.alloc (h:Own f e w base v xs) (o:Obj):Own f e (w.alloc o) base v xs:=h.on ((Below.refl _ _).alloc (Nat.le_refl _) o)
theorem Own.drew (h:Own f e w base v xs):Own f e w.drew base v xs:=h
theorem Own.grown {row:Option Nat} (h:Own f e w base v xs) (hg:w.grownBy w' row) (dh:v.ownBlock=none\/v.ownBlock≠row):Own f e w' base v xs:=World.ownsRow.kept h hg dh
theorem Own.mono {base':Nat} (h:Own f e w base v xs) (hb:base'<=base):Own f e w base' v xs:=by
 refine⟨h.1,?_⟩;rcases h.2 with h2|⟨g,cap,cur,hv,jr,r⟩
 ·exact Or.inl h2
 ·exact Or.inr ⟨g,cap,cur,hv,ae,r⟩
theorem Own.aP (h:Own f e w base v xs):∀k,v.ownBlock=some k->base<=k/\k<w.heap.size:=World.ownsRow.lt h
theorem Own.made (cZ:base<=w.heap.size) (hm:xs.length<=maxLen):Own f e (w.alloc (.cells (xs.map f).toArray e)) base (.slice (some ⟨w.heap.size,0,none⟩) xs.length xs.length) xs:=
 ⟨au,.inr ⟨w.heap.size,xs.length,_,rfl,cZ,heap_alloc_new w _,Nat.le_refl _,hm,au,by simp[List.take_of_length_le]⟩⟩
theorem Own.cell {a:Addr} {n c:Nat} (h:Own f e w base (.slice (some a) n c) xs) {k:Nat} (hk:k<xs.length):
  ∃g,a=⟨g,0,none⟩/\base<=g/\g<w.heap.size/\w.cell? ⟨g,k,none⟩=some (f xs[k])/\w.frozen? ⟨g,k,none⟩=false:=by
 rcases h.2 with⟨hv,hn⟩|⟨g,cap,cur,hv,jr,hg,hc,_,hs,ht⟩
 ·cases hv
 ·injection hv with h1 h2 h3
  injection h1 with h1
  refine⟨g,h1,jr,?_,?_,frozen_of_row w g k cur e hg⟩
  ·rcases Nat.lt_or_ge g w.heap.size with aU|Fb
   ·exact aU
   ·rw[Array.getElem?_eq_none Fb] at hg;cases hg
  ·rw[cell_of_row w g k cur e (0,0) hg];have h5:(xs.map f)[k]?=some (f xs[k]):=by rw[List.getElem?_map,List.getElem?_eq_getElem hk];rfl
   rw[<-ht,List.getElem?_take,if_pos ae] at h5;rw[<-h5];simp
theorem Own.addr {a:Option Addr} {n c:Nat} (h:Own f e w base (.slice a n c) xs) (hn:0<xs.length):∃g,a=some ⟨g,0,none⟩/\base<=g/\g<w.heap.size:=by
 obtain⟨g,c',hv,_,h1,h2⟩:=h.pY hn;injection hv with h3
 exact⟨g,h3,h1,h2⟩
theorem Own.iH {g:Nat} {n c:Nat} (h:Own f e w base (.slice (some ⟨g,0,none⟩) n c) xs) {k:Nat} (hk:k<xs.length):
  w.cell? ⟨g,k,none⟩=some (f xs[k])/\w.frozen? ⟨g,k,none⟩=false:=by
 obtain⟨g',h1,_,_,h2,h3⟩:=h.cell hk;injection h1 with h1
 subst h1;exact⟨h2,h3⟩
theorem Own.set {g:Nat} {n c:Nat} (h:Own f e w base (.slice (some ⟨g,0,none⟩) n c) xs) (k:Nat) (x:α):
  Own f e (w.setCell ⟨g,k,none⟩ (f x)) base (.slice (some ⟨g,0,none⟩) n c) (xs.set k x):=by
 refine⟨au,?_⟩;rcases h.2 with⟨hv,hn⟩|⟨g',cap,cur,hv,jr,hg,hc,hm,hs,ht⟩
 ·cases hv
 ·injection hv with h1 h2 h3
  injection h1 with h1
  injection h1 with h1
  subst h1 h3;refine Or.inr ⟨g,c,cur.setIfInBounds k (f x),by rw[h2,List.length_set],jr,heap_setCell_same w g k cur e (f x) hg,by rw[List.length_set];exact hc,hm,by simpa using hs,?_⟩;rw[Array.toList_setIfInBounds,List.length_set,List.take_set,ht,List.map_set]
theorem Own.far (h:Own f e w base v xs) {p:Addr} (hp:v.ownBlock≠some p.block) (u:Value):Own f e (w.setCell p u) base v xs:=by
 refine⟨h.1,?_⟩;rcases h.2 with h2|⟨g,cap,cur,hv,jr,hg,r⟩
 ·exact Or.inl h2
 ·refine Or.inr ⟨g,cap,cur,hv,jr,?_,r⟩;rw[heap_setCell_other w p g u (λe=>hp (by rw[hv];simp[Value.ownBlock,e]))];exact hg
end

section
variable {P:Program} {α:Type} {f:α->Value}
theorem wH (w:World) (base:Nat) (t ty e:TypeId) (i:TypeInfo) (z:Value) (bytes:Nat) (ht:P.underlying t=some (.slice e)) (hi:P.info? e=some i) (hz:i.zero=some z)
  (nC:i.size=1) (Zn:i.bytes=bytes) (Zp:z.cells.size=1) (hf:∀x,(f x).oneCell'=true)
  (v:Value) (xs:List α) (bG:Own f e w base v xs) (B:Nat) (a:Option Addr) (m c:Nat) (ys:List α) (hy:jg f w B a m ys)
  (dW:(xs.length+m)*bytes<=140737488355328) (Zq:xs.length+m<=maxLen) (cZ:base<=w.heap.size):
  ∃v' w',(Builtin.append_ #[t,t] ty #[v,.slice a m c]).run P w= .ok v' w'/\Own f e w' base v' (xs++ys)/\w.grownBy w' v.ownBlock/\(v'.ownBlock=v.ownBlock\/v'.ownBlock=some w.heap.size):=by
 have hlen:=hy.len;by_cases hm:m=0
 ·subst hm;have hn:ys=[]:=List.eq_nil_of_length_eq_zero hlen;subst hn;refine⟨v,w,?_,by simpa using bG,World.grownBy.refl w _,.inl rfl⟩;rcases bG.2 with⟨rfl,hn⟩|⟨g,cap,cur,rfl,_,_,ve,_⟩
  ·cases a<;>simp[Builtin.append_,run_underlying ht,sizeOf,typeInfo,hi,Builtin.lenOf,Builtin.firstCells,loadCells,loadCellsFrom]
  ·cases a<;>simp[Builtin.append_,run_underlying ht,sizeOf,typeInfo,hi,Builtin.lenOf,Builtin.firstCells,loadCells,loadCellsFrom,ve,storeCells]
 ·obtain⟨b,o,rfl,_,hc⟩:=hy.2.2 hm;obtain⟨v',w',bP,h2,h3,_,h5⟩:=run_append_own_at (P:=P) w base t ty e i z 1 bytes ht hi hz nC Zn Zp ae v xs.length (xs.map f) bG ⟨b,o,none⟩ m c (ys.map f) (by simp[hlen])
   (λj u hu=>by
    rw[List.getElem?_map] at hu
    cases hj:ys[j]? with
    |none=>rw[hj] at hu;cases hu
    |some y=>
     rw[hj] at hu;injection hu with hu
     subst hu;obtain⟨uX,hje⟩:=List.getElem?_eq_some_iff.1 hj;rw[Addr.add_mid,hc j uX,hje])
   (λu hu=>by obtain⟨x,_,rfl⟩:=List.mem_map.1 hu;exact hf x) Zq dW cZ
  refine⟨v',w',bP,?_,h3,h5⟩;unfold Own;rw[List.length_append,List.map_append,hlen];exact h2
theorem sH {w:World} {o:Oper} {ac:Act} {K:Act->World->Prop} {Q:Exit->Act->World->Prop} (s x:Operand) (t:TypeId)
  (ho:o.op= .call {callee:= .builtin .append,args:=#[s,x],argTypes:=#[t,t]})
  (base:Nat) (e:TypeId) (i:TypeInfo) (z:Value) (bytes:Nat) (ht:P.underlying t=some (.slice e)) (hi:P.info? e=some i) (hz:i.zero=some z)
  (nC:i.size=1) (Zn:i.bytes=bytes) (Zp:z.cells.size=1) (hf:∀x,(f x).oneCell'=true)
  (v:Value) (xs:List α) (hs:ac.eval s=v) (bG:Own f e w base v xs) (B:Nat) (a:Option Addr) (m c:Nat) (ys:List α) (hx:ac.eval x= .slice a m c) (hy:jg f w B a m ys)
  (dW:(xs.length+m)*bytes<=140737488355328) (Zq:xs.length+m<=maxLen) (cZ:base<=w.heap.size)
  (h:∀v' w',Own f e w' base v' (xs++ys)->w.grownBy w' v.ownBlock->(v'.ownBlock=v.ownBlock\/v'.ownBlock=some w.heap.size)->K (ac.put o.dst v') w'):o.wp P ac w K Q:=by
 obtain⟨v',w',bP,h2,h3,h4⟩:=wH (P:=P) w base t o.type e i z bytes ht hi hz nC Zn Zp hf v xs bG B a m c ys hy dW Zq cZ;unfold Oper.wp execOp;simp only[ho,resolve,invoke,builtin,Sem.run_bind,Sem.run_pure,Result.andThen_ok,List.map_toArray,List.map_cons,List.map_nil,hs,hx,bP];exact h v' w' h2 h3 h4
theorem rH {w:World} {ops:Array Oper} {rest:List Oper} {o:Oper} {ac:Act} {Q:Exit->Act->World->Prop} (mD:o.guard=none) (s x:Operand) (t:TypeId)
  (ho:o.op= .call {callee:= .builtin .append,args:=#[s,x],argTypes:=#[t,t]})
  (base:Nat) (e:TypeId) (i:TypeInfo) (z:Value) (bytes:Nat) (ht:P.underlying t=some (.slice e)) (hi:P.info? e=some i) (hz:i.zero=some z)
  (nC:i.size=1) (Zn:i.bytes=bytes) (Zp:z.cells.size=1) (hf:∀x,(f x).oneCell'=true)
  (v:Value) (xs:List α) (hs:ac.eval s=v) (bG:Own f e w base v xs) (B:Nat) (a:Option Addr) (m c:Nat) (ys:List α) (hx:ac.eval x= .slice a m c) (hy:jg f w B a m ys)
  (dW:(xs.length+m)*bytes<=140737488355328) (Zq:xs.length+m<=maxLen) (cZ:base<=w.heap.size)
  (h:∀v' w',Own f e w' base v' (xs++ys)->w.grownBy w' v.ownBlock->(v'.ownBlock=v.ownBlock\/v'.ownBlock=some w.heap.size)->wpList P ops Q rest (ac.put o.dst v') w'):wpList P ops Q (o::rest) ac w:=
 wpList_plain mD λ_ hK=>sH s x t ho base e i z bytes ht hi hz nC Zn Zp hf v xs hs bG B a m c ys hx hy dW Zq cZ λv' w' h2 h3 h4=>hK _ _ (h v' w' h2 h3 h4)
end
theorem Own.agH {α:Type} {f:α->Value} {e:TypeId} {w:World} {base g n:Nat} {xs:List α} (hg:g=w.heap.size) (hn:xs.length=n) (cZ:base<=w.heap.size) (hm:n<=maxLen):
  Own f e (w.alloc (.cells (xs.map f).toArray e)) base (.slice (some ⟨g,0,none⟩) n n) xs:=by
 subst hg hn;exact Own.made cZ hm
theorem xX (x:UInt8):(aH x).oneCell'=true:=rfl
theorem acS (x:Int):(jL x).oneCell'=true:=rfl
theorem jg.lit {α:Type} {f:α->Value} (w:World) (e:TypeId) (xs:List α) (n:Nat) (hn:xs.length=n) (hb:n<=140737488351232) {cs:Array Value} (jq:cs=(xs.map f).toArray):
  jg f (w.alloc (.cells cs e)) (w.alloc (.cells cs e)).heap.size (some ⟨w.heap.size,0,none⟩) n xs:=by
 subst jq;refine⟨hn,hb,λ_=>⟨w.heap.size,0,rfl,au,λi hi=>?_⟩⟩;rw[cell_of_row _ _ _ _ _ _ (heap_alloc_new w _),Nat.zero_add];simp[hi]

def iL (a:Option Addr) (c l:Nat):Option Addr:=if c=l then a else a.map (·.add l)
theorem jg.drop {α:Type} {f:α->Value} {w:World} {B:Nat} {a:Option Addr} {n c:Nat} {xs:List α} (h:jg f w B a n xs) {l:Nat} (hl:l<=n) (hc:n<=c):jg f w B (iL a c l) (n-l) (xs.drop l):=by
 obtain⟨h1,h2,h3⟩:=h;refine⟨by rw[List.length_drop];omega,ae,λhn=>?_⟩;obtain⟨b,o,ha,aU,LQ⟩:=h3 ae;refine⟨b,o+l,?_,aU,λi hi=>?_⟩
 ·rw[iL,if_neg ae,ha];exact congrArg some (Addr.add_mid b o l)
 ·rw[List.length_drop] at hi;rw[List.getElem_drop,Nat.add_assoc];exact LQ (l+i) ae
section
variable {P:Program} {t e:TypeId} {i:TypeInfo}
theorem Oo (ht:P.underlying t=some (.slice e)) (hi:P.info? e=some i) (hs:i.size=1) (a:Option Addr) (n c l:Nat) (hl:l<=n) (w:World):
  (Instr.slice t (.slice a n c) (some (.int .i64 l)) none none).run P w= .ok (.slice (iL a c l) (n-l) (c-l)) w:=by
 have h0:(0:Int)<=(l:Int):=ae;have h1:(l:Int)<=((n:Nat):Int):=ae;simp[Instr.slice,run_underlying ht,sizeOf,typeInfo,hi,hs,Instr.sliceBounds,go_sem,h0,h1,iL]
theorem He (ht:P.underlying t=some (.slice e)) (hi:P.info? e=some i) (a:Option Addr) (n c h:Nat) (hl:h<=c) (w:World):
  (Instr.slice t (.slice a n c) none (some (.int .i64 h)) none).run P w= .ok (.slice a h c) w:=by
 have h0:(0:Int)<=(h:Int):=ae;have h1:(h:Int)<=((c:Nat):Int):=ae;simp[Instr.slice,run_underlying ht,sizeOf,typeInfo,hi,Instr.sliceBounds,go_sem,h0,h1]
theorem Rh (ht:P.underlying t=some (.slice e)) (hi:P.info? e=some i) (hs:i.size=1) (a:Option Addr) (n c l h:Nat) (hl:l<=h) (hh:h<=c) (w:World):
  (Instr.slice t (.slice a n c) (some (.int .i64 l)) (some (.int .i64 h)) none).run P w= .ok (.slice (iL a c l) (h-l) (c-l)) w:=by
 have h0:(0:Int)<=(l:Int):=ae;have h2:(h:Int)<=((c:Nat):Int):=ae;have h3:(0:Int)<=(h:Int):=ae;simp[Instr.slice,run_underlying ht,sizeOf,typeInfo,hi,hs,Instr.sliceBounds,go_sem,h0,h2,h3,hl,iL]
end
theorem jK {α:Type} {f:α->Value} {e:TypeId} {w0 w w':World} {base:Nat} {v:Value} {xs:List α} (hb:Below base w0 w) (bG:Own f e w base v xs) (hg:w.grownBy w' v.ownBlock) (hB:base<=w.heap.size):Below base w0 w':=
 hb.grown hg hB (λk hk=>(bG.aP k hk).1)
end
end Go.Proofs.YtnieckfelfoopaaGreat

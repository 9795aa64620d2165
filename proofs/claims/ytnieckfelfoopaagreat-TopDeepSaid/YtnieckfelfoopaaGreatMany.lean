import Derived.Test.YtnieckfelfoopaaGreatMem
namespace Go.Proofs.YtnieckfelfoopaaGreat
open Lib (hid)
set_option maxRecDepth 100000
set_option maxHeartbeats 16000000
open Go.RowKit

section
variable {α:Type} {m:Nat} {f:α->List Value}
theorem IU (hf:∀x,(f x).length=m) (xs:List α):(xs.flatMap f).length=xs.length*m:=by
 induction xs with
 |nil=>simp
 |cons x t ih=>rw[List.flatMap_cons,List.length_append,ih,hf,List.length_cons,Nat.succ_mul];omega
theorem YO (hf:∀x,(f x).length=m) {xs:List α} {i j:Nat} (hi:i<xs.length) (hj:j<m):(xs.flatMap f)[i*m+j]?=(f xs[i])[j]?:=by
 induction xs generalizing i with
 |nil=>simp at hi
 |cons x t ih=>
  rw[List.flatMap_cons]
  cases i with
  |zero=>rw[Nat.zero_mul,Nat.zero_add,List.getElem?_append_left (by rw[hf];exact hj)];rfl
  |succ i=>
   have e:(i+1)*m+j=m+(i*m+j):=by rw[Nat.succ_mul];omega
   rw[e,List.getElem?_append_right (by rw[hf];omega),hf,Nat.add_sub_cancel_left,ih (by simpa using hi)];rfl
theorem aeg (hf:∀x,(f x).length=m) {xs:List α} {i j:Nat} {u:Value} {y:α} (hi:i<xs.length) (hj:j<m) (hy:f y=(f xs[i]).set j u):(xs.set i y).flatMap f=(xs.flatMap f).set (i*m+j) u:=by
 induction xs generalizing i with
 |nil=>simp at hi
 |cons x t ih=>
  cases i with
  |zero=>
   rw[List.set_cons_zero,List.flatMap_cons,List.flatMap_cons,Nat.zero_mul,Nat.zero_add,List.set_append_left _ _ (by rw[hf];exact hj),hy];rfl
  |succ i=>
   have e:(i+1)*m+j=m+(i*m+j):=by rw[Nat.succ_mul];omega
   rw[List.set_cons_succ,List.flatMap_cons,List.flatMap_cons,e,List.set_append_right _ _ (by rw[hf];omega),hf,Nat.add_sub_cancel_left,ih (by simpa using hi) hy]
def jv (m:Nat) (f:α->List Value) (w:World) (B:Nat) (a:Option Addr) (n:Nat) (xs:List α):Prop:=
 xs.length=n/\n<=140737488351232/\(n≠0->∃b o,a=some ⟨b,o,none⟩/\b<B/\∀i (h:i<xs.length),w.rangeAt b (o+i*m) (f xs[i]))
variable {w w':World} {B B':Nat} {a:Option Addr} {n:Nat} {xs:List α}
theorem jv.len (h:jv m f w B a n xs):xs.length=n:=h.1
theorem jv.QQ (h:jv m f w B a n xs) {k:Nat} (hk:k<n):∃b o,∃h':k<xs.length,a=some ⟨b,o,none⟩/\b<B/\w.rangeAt b (o+k*m) (f xs[k]):=by obtain⟨h1,_,h3⟩:=h;obtain⟨b,o,ha,hb,hc⟩:=h3 ae;exact⟨b,o,ae,ha,hb,hc k ae⟩
theorem jv.keep (h:jv m f w B a n xs) (hk:∀b o,b<B->w'.cell? ⟨b,o,none⟩=w.cell? ⟨b,o,none⟩):jv m f w' B a n xs:=by obtain⟨h1,h2,h3⟩:=h;refine⟨h1,h2,λhn=>?_⟩;obtain⟨b,o,ha,aU,hc⟩:=h3 hn;exact⟨b,o,ha,aU,λi hi j v hv=>(hk b _ aU).trans (hc i hi j v hv)⟩
theorem jv.below (h:jv m f w B a n xs) (hb:Below B w w'):jv m f w' B a n xs:=h.keep λb o aU=>hb.cell (p:=⟨b,o,none⟩) aU
theorem jv.mono (h:jv m f w B a n xs) (hB:B<=B'):jv m f w B' a n xs:=by obtain⟨h1,h2,h3⟩:=h;refine⟨h1,h2,λhn=>?_⟩;obtain⟨b,o,ha,aU,hc⟩:=h3 hn;exact⟨b,o,ha,ae,hc⟩
theorem jv.on (h:jv m f w w.heap.size a n xs) (hb:Below w.heap.size w w'):jv m f w' w'.heap.size a n xs:=(h.below hb).mono hb.size
def dK (m:Nat) (f:α->List Value) (e:TypeId) (w:World) (base:Nat) (v:Value) (xs:List α):Prop:=(∀x,(f x).length=m)/\w.ownsRow base e m v xs.length (xs.flatMap f)
variable {e:TypeId} {base:Nat} {v:Value}
theorem dK.nil (hf:∀x,(f x).length=m) (w:World) (base:Nat):dK m f e w base (.slice none 0 0) []:=⟨hf,World.ownsRow_nil w base e m⟩
theorem dK.form (h:dK m f e w base v xs):∃a c,v= .slice a xs.length c/\xs.length<=c:=by
 rcases h.2.2 with⟨hv,hn⟩|⟨g,cap,cur,hv,_,_,hc,_⟩
 ·exact⟨none,0,by rw[hv,hn],ae⟩
 ·exact⟨_,cap,hv,hc⟩
theorem dK.bZ {n:Nat} (h:dK m f e w base v xs) (hn:xs.length=n):∃a c,v= .slice a n c/\n<=c:=by subst hn;exact h.form
theorem dK.pY (h:dK m f e w base v xs) (hn:0<xs.length):∃g c,v= .slice (some ⟨g,0,none⟩) xs.length c/\xs.length<=c/\base<=g/\g<w.heap.size:=by
 rcases h.2.2 with⟨_,h0⟩|⟨g,cap,cur,hv,jr,hg,hc,_⟩
 ·omega
 ·refine⟨g,cap,hv,hc,jr,?_⟩;rcases Nat.lt_or_ge g w.heap.size with aU|Fb
  ·exact aU
  ·rw[Array.getElem?_eq_none Fb] at hg;cases hg
theorem dK.iH {g n c:Nat} (h:dK m f e w base (.slice (some ⟨g,0,none⟩) n c) xs) {i j:Nat} (hi:i<xs.length) (hj:j<m):
  w.cell? ⟨g,i*m+j,none⟩=(f xs[i])[j]?/\w.frozen? ⟨g,i*m+j,none⟩=false:=by
 obtain⟨hf,hx⟩:=h;rcases hx.2 with⟨hv,_⟩|⟨g',cap,cur,hv,jr,hg,hc,_,hs,ht⟩
 ·cases hv
 ·injection hv with h1 h2 h3
  injection h1 with h1
  injection h1 with h1
  subst h1;refine⟨?_,frozen_of_row w g _ cur e hg⟩;rw[cell_of_row w g _ cur e (0,0) hg,<-YO hf hi hj,<-ht,List.getElem?_take];have hm:m<=xs.length*m:=Nat.le_mul_of_pos_left _ ae;have h5:i*m+m<=xs.length*m:=by rw[<-Nat.succ_mul];exact Nat.mul_le_mul_right _ ae
  rw[if_pos ae];simp
theorem dK.arr {a:Option Addr} {n c:Nat} (h:dK m f e w base (.slice a n c) xs) (hb:xs.length<=140737488351232):jv m f w w.heap.size a n xs:=by
 obtain⟨a',c',hv,_⟩:=h.form;injection hv with h1 h2 h3
 subst h1 h2 h3;refine⟨rfl,hb,λhn=>?_⟩;obtain⟨g,c',hv,_,_,aU⟩:=h.pY ae;injection hv with h1
 subst h1;refine⟨g,0,rfl,aU,λi hi j u hu=>?_⟩;have hj:j<m:=by rw[<-h.1 xs[i]];exact(List.getElem?_eq_some_iff.1 hu).1
 rw[Nat.zero_add,(h.iH hi hj).1,hu]
theorem dK.below {B:Nat} (h:dK m f e w base v xs) (hb:Below B w w') (hB:w.heap.size<=B):dK m f e w' base v xs:=by
 refine⟨h.1,h.2.1,?_⟩;rcases h.2.2 with h2|⟨g,cap,cur,hv,jr,hg,r⟩
 ·exact Or.inl h2
 ·refine Or.inr ⟨g,cap,cur,hv,jr,?_,r⟩;have aU:g<w.heap.size:=by
   rcases Nat.lt_or_ge g w.heap.size with aU|Fb
   ·exact aU
   ·rw[Array.getElem?_eq_none Fb] at hg;cases hg
  exact(hb.block g ae).trans hg
theorem dK.on (h:dK m f e w base v xs) (hb:Below w.heap.size w w'):dK m f e w' base v xs:=h.below hb (Nat.le_refl _)
theorem dK.alloc (h:dK m f e w base v xs) (o:Obj):dK m f e (w.alloc o) base v xs:=h.on ((Below.refl _ _).alloc (Nat.le_refl _) o)
theorem dK.drew (h:dK m f e w base v xs):dK m f e w.drew base v xs:=h
theorem dK.mono {base':Nat} (h:dK m f e w base v xs) (hb:base'<=base):dK m f e w base' v xs:=by
 refine⟨h.1,h.2.1,?_⟩;rcases h.2.2 with h2|⟨g,cap,cur,hv,jr,r⟩
 ·exact Or.inl h2
 ·exact Or.inr ⟨g,cap,cur,hv,ae,r⟩
theorem dK.aP (h:dK m f e w base v xs):∀k,v.ownBlock=some k->base<=k/\k<w.heap.size:=World.ownsRow.lt h.2
theorem dK.far (h:dK m f e w base v xs) {p:Addr} (hp:v.ownBlock≠some p.block) (u:Value):dK m f e (w.setCell p u) base v xs:=by
 refine⟨h.1,h.2.1,?_⟩;rcases h.2.2 with h2|⟨g,cap,cur,hv,jr,hg,r⟩
 ·exact Or.inl h2
 ·refine Or.inr ⟨g,cap,cur,hv,jr,?_,r⟩;rw[heap_setCell_other w p g u (λe=>hp (by rw[hv];simp[Value.ownBlock,e]))];exact hg
theorem dK.set {g:Nat} {n c:Nat} (h:dK m f e w base (.slice (some ⟨g,0,none⟩) n c) xs) {i j:Nat} (hi:i<xs.length) (hj:j<m) {u:Value} {y:α} (hy:f y=(f xs[i]).set j u):
  dK m f e (w.setCell ⟨g,i*m+j,none⟩ u) base (.slice (some ⟨g,0,none⟩) n c) (xs.set i y):=by
 obtain⟨hf,hx⟩:=h;refine⟨hf,by rw[IU hf,List.length_set],?_⟩;rcases hx.2 with⟨hv,_⟩|⟨g',cap,cur,hv,jr,hg,hc,hm,hs,ht⟩
 ·cases hv
 ·injection hv with h1 h2 h3
  injection h1 with h1
  injection h1 with h1
  subst h1 h3;refine Or.inr ⟨g,c,cur.setIfInBounds (i*m+j) u,by rw[h2,List.length_set],jr,heap_setCell_same w g _ cur e u hg,by rw[List.length_set];exact hc,hm,by simpa using hs,?_⟩;rw[Array.toList_setIfInBounds,List.length_set,List.take_set,ht,aeg hf hi hj hy]
end

section
variable {P:Program} {α:Type} {sz:Nat} {f:α->List Value}
theorem FK (w:World) (base:Nat) (t ty e:TypeId) (i:TypeInfo) (z:Value) (bytes:Nat) (ht:P.underlying t=some (.slice e)) (hi:P.info? e=some i) (hz:i.zero=some z)
  (nC:i.size=sz) (Zn:i.bytes=bytes) (Zp:z.cells.size=sz) (ja:0<sz) (hf:∀x,∀u∈f x,u.oneCell'=true)
  (v:Value) (xs:List α) (bG:dK sz f e w base v xs) (B:Nat) (a:Option Addr) (m c:Nat) (ys:List α) (hy:jv sz f w B a m ys)
  (dW:(xs.length+m)*bytes<=140737488355328) (Zq:xs.length+m<=maxLen) (cZ:base<=w.heap.size):
  ∃v' w',(Builtin.append_ #[t,t] ty #[v,.slice a m c]).run P w= .ok v' w'/\dK sz f e w' base v' (xs++ys)/\w.grownBy w' v.ownBlock/\(v'.ownBlock=v.ownBlock\/v'.ownBlock=some w.heap.size):=by
 have hlen:=hy.len;obtain⟨hfl,zn⟩:=id bG;by_cases hm:m=0
 ·subst hm;have hn:ys=[]:=List.eq_nil_of_length_eq_zero hlen;subst hn;refine⟨v,w,?_,by simpa using bG,World.grownBy.refl w _,.inl rfl⟩;rcases zn.2 with⟨rfl,hn⟩|⟨g,cap,cur,rfl,_,_,ve,_⟩
  ·cases a<;>simp[Builtin.append_,run_underlying ht,sizeOf,typeInfo,hi,Builtin.lenOf,Builtin.firstCells,loadCells,loadCellsFrom]
  ·cases a<;>simp[Builtin.append_,run_underlying ht,sizeOf,typeInfo,hi,Builtin.lenOf,Builtin.firstCells,loadCells,loadCellsFrom,ve,storeCells]
 ·obtain⟨b,o,rfl,_,hc⟩:=hy.2.2 hm;obtain⟨v',w',bP,h2,h3,_,h5⟩:=run_append_own_at (P:=P) w base t ty e i z sz bytes ht hi hz nC Zn Zp ja v xs.length (xs.flatMap f) zn ⟨b,o,none⟩ m c (ys.flatMap f) (by rw[IU hfl,hlen])
   (λj u hu=>by
    have uX:j<m*sz:=by have:=(List.getElem?_eq_some_iff.1 hu).1;rw[IU hfl,hlen] at this;exact this
    have hq:j/sz<ys.length:=by rw[hlen];exact(Nat.div_lt_iff_lt_mul ja).2 uX
    have hr:j%sz<sz:=Nat.mod_lt _ ja;have hj:j/sz*sz+j%sz=j:=by rw[Nat.mul_comm];exact Nat.div_add_mod j sz
    rw[<-hj,YO hfl hq hr] at hu;rw[Addr.add_mid,<-hj,<-Nat.add_assoc];exact hc _ hq _ u hu)
   (λu hu=>by obtain⟨x,_,hx⟩:=List.mem_flatMap.1 hu;exact hf x u hx) Zq dW cZ
  refine⟨v',w',bP,⟨hfl,?_⟩,h3,h5⟩;rw[List.length_append,List.flatMap_append,hlen];exact h2
theorem xe {w:World} {o:Oper} {ac:Act} {K:Act->World->Prop} {Q:Exit->Act->World->Prop} (s x:Operand) (t:TypeId)
  (ho:o.op= .call {callee:= .builtin .append,args:=#[s,x],argTypes:=#[t,t]})
  (base:Nat) (e:TypeId) (i:TypeInfo) (z:Value) (bytes:Nat) (ht:P.underlying t=some (.slice e)) (hi:P.info? e=some i) (hz:i.zero=some z)
  (nC:i.size=sz) (Zn:i.bytes=bytes) (Zp:z.cells.size=sz) (ja:0<sz) (hf:∀x,∀u∈f x,u.oneCell'=true)
  (v:Value) (xs:List α) (hs:ac.eval s=v) (bG:dK sz f e w base v xs) (B:Nat) (a:Option Addr) (m c:Nat) (ys:List α) (hx:ac.eval x= .slice a m c) (hy:jv sz f w B a m ys)
  (dW:(xs.length+m)*bytes<=140737488355328) (Zq:xs.length+m<=maxLen) (cZ:base<=w.heap.size)
  (h:∀v' w',dK sz f e w' base v' (xs++ys)->w.grownBy w' v.ownBlock->(v'.ownBlock=v.ownBlock\/v'.ownBlock=some w.heap.size)->K (ac.put o.dst v') w'):o.wp P ac w K Q:=by
 obtain⟨v',w',bP,h2,h3,h4⟩:=FK (P:=P) w base t o.type e i z bytes ht hi hz nC Zn Zp ja hf v xs bG B a m c ys hy dW Zq cZ;unfold Oper.wp execOp;simp only[ho,resolve,invoke,builtin,Sem.run_bind,Sem.run_pure,Result.andThen_ok,List.map_toArray,List.map_cons,List.map_nil,hs,hx,bP];exact h v' w' h2 h3 h4
theorem zQ {w:World} {ops:Array Oper} {rest:List Oper} {o:Oper} {ac:Act} {Q:Exit->Act->World->Prop} (mD:o.guard=none) (s x:Operand) (t:TypeId)
  (ho:o.op= .call {callee:= .builtin .append,args:=#[s,x],argTypes:=#[t,t]})
  (base:Nat) (e:TypeId) (i:TypeInfo) (z:Value) (bytes:Nat) (ht:P.underlying t=some (.slice e)) (hi:P.info? e=some i) (hz:i.zero=some z)
  (nC:i.size=sz) (Zn:i.bytes=bytes) (Zp:z.cells.size=sz) (ja:0<sz) (hf:∀x,∀u∈f x,u.oneCell'=true)
  (v:Value) (xs:List α) (hs:ac.eval s=v) (bG:dK sz f e w base v xs) (B:Nat) (a:Option Addr) (m c:Nat) (ys:List α) (hx:ac.eval x= .slice a m c) (hy:jv sz f w B a m ys)
  (dW:(xs.length+m)*bytes<=140737488355328) (Zq:xs.length+m<=maxLen) (cZ:base<=w.heap.size)
  (h:∀v' w',dK sz f e w' base v' (xs++ys)->w.grownBy w' v.ownBlock->(v'.ownBlock=v.ownBlock\/v'.ownBlock=some w.heap.size)->wpList P ops Q rest (ac.put o.dst v') w'):wpList P ops Q (o::rest) ac w:=
 wpList_plain mD λ_ hK=>xe s x t ho base e i z bytes ht hi hz nC Zn Zp ja hf v xs hs bG B a m c ys hx hy dW Zq cZ λv' w' h2 h3 h4=>hK _ _ (h v' w' h2 h3 h4)
end
theorem jv.aqN {α:Type} {m:Nat} {f:α->List Value} (w:World) (e:TypeId) (x:α) {cs:Array Value} (jq:cs=(f x).toArray):
  jv m f (w.alloc (.cells cs e)) (w.alloc (.cells cs e)).heap.size (some ⟨w.heap.size,0,none⟩) 1 [x]:=by
 subst jq;refine⟨rfl,ae,λ_=>⟨w.heap.size,0,rfl,au,λi hi j u hu=>?_⟩⟩;obtain rfl:i=0:=by simp at hi;omega
 rw[cell_of_row _ _ _ _ _ _ (heap_alloc_new w _),Nat.zero_mul,Nat.zero_add];have h2:(f x)[j]?=some u:=hu
 simpa using h2
end Go.Proofs.YtnieckfelfoopaaGreat

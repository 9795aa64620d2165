import Derived.Maps.RangeWalk
import Derived.Test.YtnieckfelfoopaaGreatTopAwake
import Derived.Deep.DeepCutAuto
import Derived.Lib.SliceRun
import Derived.Test.YtnieckfelfoopaaGreatBlkOpen
open Go.Proofs.Tryz (prog)
namespace Go.Proofs.YtnieckfelfoopaaGreat
open Lib (hid)
set_option maxRecDepth 100000
set_option maxHeartbeats 16000000
section
open Go.RowKit Go.Maps Go.ChangeMaps Go.MapKept

structure En where
 t:Tg
 d:List UInt8
 b:Nat
 i:Nat
def Vd (b i:Nat):Value:= .agg #[.int .i64 b,.int .i64 i]
theorem wZ (b i:Nat):Vd b i= .agg #[.int .i64 b,.int .i64 i]:=rfl
def kyV (p:Nat):Value:= .int .u32 p
def WR (e:En):Value×Value:=(kyV e.t.p,Vd e.b e.i)
def Bz (l:List En):List (Value×Value):=l.map WR
theorem Tv:Keyed prog 64:=int_keyed Tryz.underlying64
theorem yw {p q:Nat} (h:kyV p=kyV q):p=q:=by
 unfold kyV at h;injection h with _ h
 omega
theorem ad5 {p:Nat} (h:p<4294967296):keyOf prog 64 (kyV p)=some (.int .u32 p):=by
 have hw:(Lit.int .u32 p).wf=true:=by simp[Lit.wf,IntKind.min,IntKind.max,IntKind.bits,IntKind.signed];omega
 simp[keyOf,mapKey,Tryz.underlying64,kyV,hw]
theorem ahV {p:Nat} {kl:Lit} (h:keyOf prog 64 (kyV p)=some kl):p<4294967296:=by
 obtain⟨x,h1,_,h3⟩:=Maps.keyOf_int_inv Tryz.underlying64 h;injection h1 with _ h1
 subst h1;simp[Lit.wf,IntKind.min,IntKind.max,IntKind.bits,IntKind.signed] at h3;omega
theorem pK {α β:Type} {f:α->β} {l:List α} (h:(l.map f).Nodup):l.Nodup:=by unfold List.Nodup at h⊢;rw[List.pairwise_map] at h;exact h.imp λh e=>h (by rw[e])
theorem aar {α β:Type} {f:α->β} {l:List α} (hf:∀a b,f a=f b->a=b) (h:l.Nodup):(l.map f).Nodup:=by unfold List.Nodup at h⊢;rw[List.pairwise_map];exact h.imp λh e=>h (hf _ _ e)
def Uq (l:List En):Prop:=(l.map λe=>e.t.p).Nodup
def aG (l:List En) (p:Nat):Option En:=l.find? λe=>e.t.p==p
def fO (l:List En) (e:En):List En:=if (aG l e.t.p).isSome then l.map (λx=>if x.t.p=e.t.p then e else x) else l++[e]
def jW (l:List En) (p:Nat):List En:=l.filter λx=>x.t.p !=p
theorem IB {l:List En}:((Bz l).map (·.1)).Nodup↔Uq l:=by
 unfold Bz Uq;rw[List.map_map];have e:∀l:List En,l.map ((·.1)∘WR)=(l.map λe=>e.t.p).map kyV:=λl=>by rw[List.map_map];rfl
 rw[e];constructor
 ·intro h;exact pK h
 ·intro h;exact aar (λ_ _=>yw) h
theorem iq {l:List En} {p:Nat} {e:En} (h:aG l p=some e):e∈l/\e.t.p=p:=by unfold aG at h;exact⟨List.mem_of_find?_eq_some h,by have:=List.find?_some h;simpa using this⟩
theorem jM {l:List En} {p:Nat} (h:aG l p=none):∀e∈l,e.t.p≠p:=λe he=>by
 unfold aG at h;have:=(List.find?_eq_none.1 h) e he
 simpa using this
theorem DL {l:List En} (h:Uq l) {x y:En} (hx:x∈l) (hy:y∈l) (e:x.t.p=y.t.p):x=y:=by
 induction l with
 |nil=>cases hx
 |cons z t ih=>
  unfold Uq at h ih;rw[List.map_cons,List.nodup_cons] at h;rcases List.mem_cons.1 hx with rfl|xN<;>rcases List.mem_cons.1 hy with rfl|hy'
  ·rfl
  ·exact absurd (List.mem_map.2 ⟨y,hy',e.symm⟩) h.1
  ·exact absurd (List.mem_map.2 ⟨x,xN,e⟩) h.1
  ·exact ih h.2 xN hy'
theorem Gq {l:List En} (h:Uq l) {e:En} (he:e∈l):aG l e.t.p=some e:=by
 cases hg:aG l e.t.p with
 |none=>exact absurd rfl (jM hg e he)
 |some x=>
  obtain⟨h1,h2⟩:=iq hg;rw[DL h h1 he h2]
theorem qM {l:List En} {p:Nat} (h:∀e∈l,e.t.p≠p):aG l p=none:=by
 unfold aG;rw[List.find?_eq_none];intro x hx
 simpa using h x hx
theorem uQ {l1 l2:List En} {e0:En} (h:Uq (l1++e0::l2)):(∀x∈l1,x.t.p≠e0.t.p)/\∀x∈l2,x.t.p≠e0.t.p:=by unfold Uq at h;rw[List.map_append,List.map_cons,List.nodup_append,List.nodup_cons] at h;obtain⟨_,⟨n2,_⟩,n4⟩:=h;exact⟨λx hx e=>n4 x.t.p (List.mem_map.2 ⟨x,hx,rfl⟩) e0.t.p au e,λx hx e=>n2 (List.mem_map.2 ⟨x,hx,e⟩)⟩
theorem Pq {l1 l2:List En} {e0 e:En} (h:Uq (l1++e0::l2)) (hp:e0.t.p=e.t.p):fO (l1++e0::l2) e=l1++e::l2:=by
 obtain⟨h1,h2⟩:=uQ h;have hg:aG (l1++e0::l2) e.t.p=some e0:=by rw[<-hp];exact Gq h au
 unfold fO;rw[hg,if_pos Option.isSome_some,List.map_append,List.map_cons,if_pos hp];have e1:∀m:List En,(∀x∈m,x.t.p≠e0.t.p)->m.map (λx=>if x.t.p=e.t.p then e else x)=m:=λm hm=>by
  conv=>rhs;rw[<-List.map_id m]
  exact List.map_congr_left λx hx=>if_neg (by rw[<-hp];exact hm x hx)
 rw[e1 l1 h1,e1 l2 h2]
theorem nV {l:List En} {e:En} (h:∀x∈l,x.t.p≠e.t.p):fO l e=l++[e]:=by unfold fO;rw[qM h];rfl
theorem YG {l1 l2:List En} {e0:En} (h:Uq (l1++e0::l2)):jW (l1++e0::l2) e0.t.p=l1++l2:=by obtain⟨h1,h2⟩:=uQ h;unfold jW;rw[List.filter_append,List.filter_cons_of_neg au];rw[List.filter_eq_self.2 (λx hx=>by simpa using h1 x hx),List.filter_eq_self.2 (λx hx=>by simpa using h2 x hx)]
theorem ad6 {l:List En} {p:Nat} (h:∀x∈l,x.t.p≠p):jW l p=l:=List.filter_eq_self.2 λx hx=>by simpa using h x hx
theorem ahW {l:List En} {e:En} {L:List (Value×Value)} (h:Uq l) (hP:qI (Bz l) (kyV e.t.p) (Vd e.b e.i) L):L=Bz (fO l e):=by
 rcases hP with⟨l1,v0,l2,e1,rfl⟩|⟨h1,rfl⟩
 ·unfold Bz at e1;obtain⟨m1,m2,rfl,rfl,e3⟩:=List.map_eq_append_iff.1 e1;obtain⟨e0,m3,rfl,e4,rfl⟩:=List.map_eq_cons_iff.1 e3;have hp:e0.t.p=e.t.p:=yw (congrArg Prod.fst e4);rw[Pq h hp];unfold Bz;rw[List.map_append,List.map_cons];rfl
 ·rw[nV λx hx e1=>h1 (WR x) (List.mem_map.2 ⟨x,hx,rfl⟩) (by rw[<-e1];rfl)];unfold Bz;rw[List.map_append];rfl
theorem ahX {l:List En} {p:Nat} {L:List (Value×Value)} (h:Uq l) (hP:adP (Bz l) (kyV p) L):L=Bz (jW l p):=by
 rcases hP with⟨l1,v0,l2,e1,rfl⟩|⟨h1,rfl⟩
 ·unfold Bz at e1;obtain⟨m1,m2,rfl,rfl,e3⟩:=List.map_eq_append_iff.1 e1;obtain⟨e0,m3,rfl,e4,rfl⟩:=List.map_eq_cons_iff.1 e3;obtain rfl:e0.t.p=p:=yw (congrArg Prod.fst e4);rw[YG h];unfold Bz;rw[List.map_append]
 ·rw[ad6 λx hx e1=>h1 (WR x) (List.mem_map.2 ⟨x,hx,rfl⟩) (by rw[<-e1];rfl)]
theorem Tf (l:List En) (e:En):(fO l e).length=l.length+(if (aG l e.t.p).isSome then 0 else 1):=by
 unfold fO
 split<;>simp
theorem ad7 {l:List En} {e x:En} (h:x∈fO l e):x=e\/x∈l:=by
 unfold fO at h;split at h
 ·obtain⟨y,hy,e1⟩:=List.mem_map.1 h;split at e1
  ·exact .inl e1.symm
  ·exact .inr (e1▸hy)
 ·rcases List.mem_append.1 h with h|h
  ·exact .inr h
  ·exact .inl (by simpa using h)
def dC (w:World) (b:Nat) (l:List En):Prop:=MapAt prog 64 w b (Bz l)
def jE (w:World) (b r:Nat) (l d:List En):Prop:=eP prog 64 w b r (Bz l) (Bz d)/\∀x∈d,x∈l
def plO:Option En->Value
 |none=>Vd 0 0
 |some e=>Vd e.b e.i
theorem al0 (w:World):(zeroValue 247).run prog w= .ok (Vd 0 0) w:=az
section
variable {w w':World} {b r:Nat} {l d:List En}
theorem dC.uq (h:dC w b l):Uq l:=IB.1 (MapAt.nodup h)
theorem dC.lt (h:dC w b l):b<w.heap.size:=MapAt.lt h
theorem dC.on (h:dC w b l) (hb:Below w.heap.size w w'):dC w' b l:=MapAt.on h hb
theorem dC.same (h:dC w b l) (hb:w'.heap[b]?=w.heap[b]?):dC w' b l:=MapAt.same h hb
theorem dC.made (w:World):dC (w.alloc (.map #[] 0)) w.heap.size []:=MapAt.made w
theorem dC.key (h:dC w b l) {e:En} (he:e∈l):e.t.p<4294967296:=by obtain⟨_,_,_,_,_,_,_,h7⟩:=h;obtain⟨kl,hkl⟩:=h7 (WR e) (List.mem_map.2 ⟨e,he,rfl⟩);exact ahV hkl
theorem dC.look (h:dC w b l) {p:Nat} (hp:p<4294967296) (ok:Bool):
  (Instr.lookup 222 (.map (some b)) (.int .u32 p) ok).run prog w= .ok (if ok then .tuple #[plO (aG l p),.bool (aG l p).isSome] else plO (aG l p)) w:=by
 obtain⟨v,f,bP,hv⟩:=MapAt.look h Tv Tryz.underlying222 (al0 w) (ad5 hp) ok;have e:v=plO (aG l p)/\f=(aG l p).isSome:=by
  rcases hv with⟨rfl,hv⟩|⟨rfl,rfl,hv⟩
  ·obtain⟨x,hx,e1⟩:=List.mem_map.1 hv;obtain rfl:x.t.p=p:=yw (congrArg Prod.fst e1);rw[Gq h.uq hx];exact⟨(congrArg Prod.snd e1).symm,rfl⟩
  ·rw[qM λx hx e1=>hv (WR x) (List.mem_map.2 ⟨x,hx,rfl⟩) (by rw[<-e1];rfl)];exact⟨rfl,rfl⟩
 obtain⟨rfl,rfl⟩:=e;exact bP
theorem dC.put (h:dC w b l) (e:En) (hp:e.t.p<4294967296):
  ∃o,(Instr.mapUpdate 222 (.map (some b)) (.int .u32 (e.t.p:Int)) (Vd e.b e.i)).run prog w= .ok () (setBlock w b o)/\dC (setBlock w b o) b (fO l e)/\w.grownBy (setBlock w b o) (some b):=by
 obtain⟨l',o,bP,hP,hm,hg⟩:=MapAt.put h Tv Tryz.underlying222 (ad5 hp) (Vd e.b e.i);refine⟨o,bP,?_,hg⟩;rw[ahW h.uq hP] at hm;exact hm
theorem dC.del (h:dC w b l) {p:Nat} (hp:p<4294967296) (ty:TypeId):
  ∃o,(Builtin.delete_ #[222,64] ty #[.map (some b),.int .u32 p]).run prog w= .ok (.tuple #[]) (setBlock w b o)/\dC (setBlock w b o) b (jW l p)/\w.grownBy (setBlock w b o) (some b):=by
 obtain⟨l',o,bP,hP,hm,hg⟩:=MapAt.del h Tv Tryz.underlying222 (ad5 hp) ty;refine⟨o,bP,?_,hg⟩;rw[ahX h.uq hP] at hm;exact hm
theorem dC.size (h:dC w b l):∃es clock,w.heap[b]?=some (.map es clock)/\es.size=l.length:=by obtain⟨es,clock,h1,h2⟩:=MapAt.size h;exact⟨es,clock,h1,by rw[h2];unfold Bz;rw[List.length_map]⟩
theorem jE.PD (h:jE w b r l d):dC w b l:=h.1.ajm
theorem jE.on (h:jE w b r l d) (hb:Below w.heap.size w w'):jE w' b r l d:=⟨h.1.on hb,h.2⟩
theorem jE.same (h:jE w b r l d) (h1:w'.heap[b]?=w.heap[b]?) (h2:w'.heap[r]?=w.heap[r]?):jE w' b r l d:=⟨h.1.same h1 h2,h.2⟩
theorem jE.ltr (h:jE w b r l d):r<w.heap.size:=h.1.ltr
theorem jE.ltb (h:jE w b r l d):b<w.heap.size:=h.1.ltb
theorem jE.all (h:jE w b r l d) (hp:(Bz d).Perm (Bz l)):d.Perm l:=by
 have hl:=h.PD.uq;have h1:∀{m:List En},(Bz m).Nodup->m.Nodup:=λhm=>pK hm;have n1:=sQ (IB.2 hl);refine(List.perm_ext_iff_of_nodup (h1 (hp.nodup_iff.2 n1)) (h1 n1)).2 λx=>⟨h.2 x,λhx=>?_⟩
 have h2:WR x∈Bz d:=hp.mem_iff.2 (List.mem_map.2 ⟨x,hx,rfl⟩);obtain⟨y,hy,e⟩:=List.mem_map.1 h2;rw[<-DL hl (h.2 y hy) hx (yw (congrArg Prod.fst e))];exact hy
theorem jE.rest (h:jE w b r l d):∃rest:List En,(d++rest).Perm l:=by
 classical
 have h1:∀{m:List En},(Bz m).Nodup->m.Nodup:=λhm=>pK hm;have nl:=h1 (sQ (IB.2 h.PD.uq));have nd:d.Nodup:=by obtain⟨es,clock,since,seen,c0,_,_,_,_,_,_,_,_,_,_,h11,_⟩:=h.1;exact h1 h11
 refine⟨l.filter λx=>decide (x∉d),(List.perm_ext_iff_of_nodup ?_ nl).2 λx=>?_⟩
 ·rw[List.nodup_append];refine⟨nd,nl.filter _,?_⟩;rintro a ha c hc rfl;have:=(List.mem_filter.1 hc).2;simp[ha] at this
 ·rw[List.mem_append,List.mem_filter];constructor
  ·rintro(h2|h2)
   ·exact h.2 x h2
   ·exact h2.1
  ·intro h2;by_cases h3:x∈d
   ·exact .inl h3
   ·exact .inr ⟨h2,by simpa using h3⟩
end
section
variable (w:World) {ops:Array Oper} {rest:List Oper} {o:Oper} {a:Act} {Q:Exit->Act->World->Prop}
theorem jF (hg:o.guard=none) (m:Operand) (uP:o.op=Op.range 222 m) (b:Nat) (l:List En) (hm:a.eval m= .map (some b)) (h:dC w b l)
  (hK:∀w',Hid (jE w' b w.heap.size l [])->Hid (Below w.heap.size w w')->w'.heap.size=w.heap.size+1->wpList prog ops Q rest (a.put o.dst (.pointer (some ⟨w.heap.size,0,none⟩))) w'):
  wpList prog ops Q (o::rest) a w:=
 FH w hg m 222 uP 64 247 Tryz.underlying222 b _ hm h λw' h1 h2 h3=>hK w' (ag ⟨h1.o,au⟩) h2 h3
theorem ku (hg:o.guard=none) (it:Operand) (uP:o.op=Op.next it false) (b r:Nat) (l d:List En) (mJ:a.eval it= .pointer (some ⟨r,0,none⟩)) (h:jE w b r l d)
  (Iz:Hid (d.Perm l)->wpList prog ops Q rest (a.put o.dst (.tuple #[.bool false])) w)
  (IA:∀e w',Hid (e∈l/\e∉d)->Hid (jE w' b r l (d++[e]))->Hid (w.grownBy w' (some r))->w'.heap.size=w.heap.size->Hid (w'.rangeLeft b r<w.rangeLeft b r)->(Instr.entry (.pointer (some ⟨r,0,none⟩))).run prog w'= .ok (.tuple #[.int .u32 (e.t.p:Int),Vd e.b e.i]) w'->wpList prog ops Q rest (a.put o.dst (.tuple #[.bool true,.int .u32 (e.t.p:Int),Vd e.b e.i])) w'):
  wpList prog ops Q (o::rest) a w:=by
 refine Iy w hg it uP 64 b r _ _ mJ h.1 (λh1=>Iz (ag (h.all h1.o))) λp w' h1 h2 h3 h4 h5 h6=>?_;obtain⟨hp,hd⟩:=h1.o;obtain⟨e,he,rfl⟩:=List.mem_map.1 hp;refine IA e w' (ag ⟨he,λh7=>hd (List.mem_map.2 ⟨e,h7,rfl⟩)⟩) (ag ⟨?_,λx hx=>?_⟩) h3 h4 h5 h6
 ·have:=h2.o;unfold Bz at this⊢;rw[List.map_append];exact this
 ·rcases List.mem_append.1 hx with h8|h8
  ·exact h.2 x h8
  ·rw[List.mem_singleton] at h8;subst h8;exact he
end
end
section
open Go.RowKit

def YC:Option (List UInt8)->List UInt8
 |none=>List.replicate 96 255
 |some L=>L
section
variable {NB B C BL:Nat} {S:Nat->Prop} {w:World} {ps:Nat->Nat} {bl:Nat->Pb}
theorem uU (h:eG NB B S w C BL ps bl) {k i:Nat} (hk:k<NB) (hi:i<8):
  Calls prog 223 #[C,.int .i64 k,.int .i64 i] w λe w'=>(∃a c,e= .returned (.tuple #[.slice a 96 c,.int .i64 0])/\96<=c/\Own aH 5 w' w.heap.size (.slice a 96 c) (YC ((bl k).sS i)))/\eG NB B S w' C BL ps bl/\Kq (λq=>q=C) w w':=by
 have HA:=ag (sV h hk hi);obtain⟨si,sk,rd,hC⟩:=h.hC;obtain⟨r1,LJ⟩:=AP (IntKind.i64.wrap (rd+1));have c8:=hC.aj (i:=8) (v:= .int .i64 rd) rfl;have f8:=hC.frozen 8;have h1:=h.awr r1;have iy:Kq (λq=>q=C) w (w.setCell ⟨C,8,none⟩ (.int .i64 r1)):=Kq.one ⟨_,_,none⟩ _;obtain⟨w1,jw⟩:=bu (w.setCell ⟨C,8,none⟩ (.int .i64 r1));rw[<-jw] at h1 iy;have c3:=h1.c3;have b0:=(h1.b0 hk).1;obtain⟨v,p0,_,hv⟩:=h1.page hk hi;have g1:(0:Int)<=(k:Int):=ae;have g2:(k:Int)<(NB:Int):=ae;have g3:(0:Int)<=(i:Int):=ae;have g4:(i:Int)<8:=ae;have HF:=ag (BA h1);have H1:=ag h1;have mF:=ag iy;have HW1:=ag jw
 cases hls:(bl k).sS i with
 |none=>
  rw[hls] at hv;have hv':v= .slice none 0 0:=hv;subst hv';have Ho:=λw=>Lib.run_eql_slice_nil (P:=prog) w 23 5 none 0 0 0 0 Tryz.underlying23;simp only[Option.isNone_none] at Ho;clear h h1 iy jw hv hls hC
  go_in
  go_wp2_with fail;refine(HA.o).mono ?_;rintro e w_ ⟨rfl,rfl⟩;go_upto_region 5 with fail;rw[<-HW1.o];clear c8 f8;go_wp2_with fail;refine HF.o.mono ?_;rintro e w_ ⟨rfl,rfl⟩;go_wp2_with fail;refine(WS 96 w1 ae).mono ?_;rintro e w2 ⟨⟨v2,rfl,ho⟩,aW⟩;obtain⟨a,c,rfl,hc⟩:=ho.bZ (List.length_replicate ..);have HO:=ag (ho.mono mF.o.size);have HC:=ag hc;have H2:=ag (H1.o.on aW);have rD:=ag (mF.o.on aW);clear ho aW hc;go_wp2_with fail;go_ret2;exact⟨⟨a,c,rfl,HC.o,HO.o⟩,H2.o,rD.o⟩
 |some L=>
  rw[hls] at hv;obtain⟨hlen,bG,_⟩:=hv;obtain⟨ga,ca,rfl,hca,_,_⟩:=bG.pY ae;rw[hlen] at p0 hca bG;have Rj:=ag bG;have HLl:=ag hlen;have Ho:=λw=>Lib.run_eql_slice_nil (P:=prog) w 23 5 (some ⟨ga,0,none⟩) 96 ca 0 0 Tryz.underlying23;simp only[Option.isNone_some] at Ho;clear h h1 iy jw hls bG hlen hC
  go_in
  go_wp2_with fail;refine(HA.o).mono ?_;rintro e w_ ⟨rfl,rfl⟩;go_upto_region 5 with fail;rw[<-HW1.o];clear c8 f8;go_wp2_with fail;refine(ig (some ⟨ga,0,none⟩) 96 ca L w1 (Rj.o.arr (by rw[HLl.o];omega))).mono ?_;rintro e w2 ⟨⟨v2,rfl,ho⟩,aW⟩;obtain⟨a,c,rfl,hc⟩:=ho.bZ HLl.o;have HO:=ag (ho.mono mF.o.size);have HC:=ag hc;have H2:=ag (H1.o.on aW);have rD:=ag (mF.o.on aW);clear ho aW hc;go_wp2_with fail;go_ret2;exact⟨⟨a,c,rfl,HC.o,HO.o⟩,H2.o,rD.o⟩
end
end
section
open Go.RowKit Go.Maps Go.ChangeMaps

theorem jg.kq {α:Type} {f:α->Value} {T:Nat->Prop} {w w':World} {B n:Nat} {a:Option Addr} {xs:List α} (h:jg f w B a n xs) (hB:B<=w.heap.size) (hk:Kq T w w') (hT:∀b o,a=some ⟨b,o,none⟩->¬T b):jg f w' B a n xs:=by obtain⟨h1,h2,h3⟩:=h;refine⟨h1,h2,λhn=>?_⟩;obtain⟨b,o,ha,aU,hc⟩:=h3 hn;exact⟨b,o,ha,aU,λi hi=>(World.cell?_of_block (a:=⟨b,_,none⟩) (hk.block b ae (hT b o ha))).trans (hc i hi)⟩
def TxA (w:World) (tv:Value) (tx:List UInt8):Prop:=(∃B,Own aH 5 w B tv tx)\/((∃a n c,tv= .slice a n c/\Bytes w w.heap.size a n tx)/\∀q,tv.ownBlock=some q->q<w.heap.size)
theorem TxA.of {w:World} {B:Nat} {tv:Value} {tx:List UInt8} (h:Own aH 5 w B tv tx):TxA w tv tx:= .inl ⟨B,h⟩
theorem TxA.lt {w:World} {tv:Value} {tx:List UInt8} (h:TxA w tv tx) (q:Nat) (hq:tv.ownBlock=some q):q<w.heap.size:=by
 rcases h with⟨B,h⟩|⟨_,h⟩
 ·exact(h.aP q hq).2
 ·exact h q hq
theorem TxA.kq {T:Nat->Prop} {w w':World} {tv:Value} {tx:List UInt8} (h:TxA w tv tx) (hk:Kq T w w') (hT:∀q,tv.ownBlock=some q->¬T q):TxA w' tv tx:=by
 rcases h with⟨B,h⟩|⟨⟨a,n,c,h1,h2⟩,h3⟩
 ·exact .inl ⟨B,h.kq hk hT⟩
 ·exact .inr ⟨⟨a,n,c,h1,(h2.kq (Nat.le_refl _) hk λb o e=>hT b (by rw[h1,e];rfl)).mono hk.size⟩,λq hq=>Nat.lt_of_lt_of_le (h3 q hq) hk.size⟩
structure Fm where
 F:Nat
 SE:Nat
 NO:Nat
 GO:Nat
 LA:Nat
 g:Mg
 se:List En
 no:List En
 go:List En
 seq:Nat
 ep:Nat
 tv:Value
 tx:List UInt8
 ov:Bool
def Nb (NB:Nat) (f:Fm):Array Value:=#[.pointer (some ⟨f.g.C,0,none⟩),.pointer (some ⟨f.g.M,0,none⟩),.int .i64 f.g.res,.int .i64 f.g.bad,f.tv,.map (some f.SE),.map (some f.NO),.map (some f.GO),.int .u64 (f.seq:Int),.int .u64 (f.ep:Int),.slice (some ⟨f.LA,0,none⟩) NB NB,.bool f.ov]
def Hb (f:Fm) (q:Nat):Prop:=q=f.F\/q=f.SE\/q=f.NO\/q=f.GO\/q=f.LA\/f.tv.ownBlock=some q
structure YH (NB B:Nat) (S:Nat->Prop) (w:World) (f:Fm):Prop where
 hF:aF w f.F 225 (Nb NB f)
 hS:dC w f.SE f.se
 hN:dC w f.NO f.no
 hG:dC w f.GO f.go
 hL:Own pI 4 w 0 (.slice (some ⟨f.LA,0,none⟩) NB NB) (List.replicate NB false)
 hT:TxA w f.tv f.tx
 hg:gu NB B S w f.g
 nd:[f.F,f.SE,f.NO,f.GO,f.LA].Nodup
 nt:∀q,f.tv.ownBlock=some q->q∉[f.F,f.SE,f.NO,f.GO,f.LA]
 ns:∀q,Hb f q->¬Sm f.g S q
 lo:∀q,Hb f q->B<=q
section
variable {NB B:Nat} {S S' T:Nat->Prop} {w w':World} {f:Fm}
theorem YH.hi (h:YH NB B S w f) {q:Nat} (hq:Hb f q):q<w.heap.size:=by
 rcases hq with rfl|rfl|rfl|rfl|rfl|hq
 ·exact h.hF.lt
 ·exact h.hS.lt
 ·exact h.hN.lt
 ·exact h.hG.lt
 ·exact(h.hL.aP _ rfl).2
 ·exact h.hT.lt _ hq
theorem YH.kq (h:YH NB B S w f) (hk:Kq T w w') (hT:∀q,Hb f q\/Sm f.g S q->¬T q):YH NB B S w' f:=by have hb:∀{q},Hb f q->w'.heap[q]?=w.heap[q]?:=λhq=>hk.block _ (h.hi hq) (hT _ (.inl hq));refine⟨h.hF.kq hk (hT _ (.inl (.inl rfl))),h.hS.same (hb (.inr (.inl rfl))),h.hN.same (hb (.inr (.inr (.inl rfl)))),h.hG.same (hb (.inr (.inr (.inr (.inl rfl))))),h.hL.kq hk λq hq=>?_,h.hT.kq hk λq hq=>hT q (.inl (.inr (.inr (.inr (.inr (.inr hq)))))),h.hg.kq hk λq hq=>hT q (.inr hq),h.nd,h.nt,h.ns,h.lo⟩;obtain rfl:=fD _ _ _ _ hq;exact hT _ (.inl (.inr (.inr (.inr (.inr (.inl rfl))))))
theorem YH.mgr {g2:Mg} (h:YH NB B S w f) (hm:gu NB B S' w' g2) (hk:Kq (Sm f.g S) w w') (hS:∀q,S' q->Up S w w' q) (h1:g2.M=f.g.M) (h2:g2.ML=f.g.ML) (h3:g2.C=f.g.C) (h4:g2.res=f.g.res) (h5:g2.bad=f.g.bad):YH NB B S' w' {f with g:=g2}:=by
 have hb:∀{q},Hb f q->w'.heap[q]?=w.heap[q]?:=λhq=>hk.block _ (h.hi hq) (h.ns _ hq);refine⟨?_,h.hS.same (hb (.inr (.inl rfl))),h.hN.same (hb (.inr (.inr (.inl rfl)))),h.hG.same (hb (.inr (.inr (.inr (.inl rfl))))),h.hL.kq hk λq hq=>?_,h.hT.kq hk λq hq=>h.ns q (.inr (.inr (.inr (.inr (.inr hq))))),hm,h.nd,h.nt,λq hq hs=>?_,h.lo⟩
 ·have:=h.hF.kq hk (h.ns _ (.inl rfl));unfold Nb at this⊢;simp only[h1,h3,h4,h5];exact this
 ·obtain rfl:=fD _ _ _ _ hq;exact h.ns _ (.inr (.inr (.inr (.inr (.inl rfl)))))
 ·have aU:=h.hi hq;rcases hs with e|e|e
  ·exact h.ns q hq (.inl (e.trans h1))
  ·exact h.ns q hq (.inr (.inl (e.trans h2)))
  ·exact h.ns q hq (.inr (.inr (ji (hS q e) aU)))
theorem YH.aqy (h:YH NB B S w f) {q:Nat} (hq:Sm f.g S q):q<w.heap.size:=h.hg.hi q hq
end
def dB (NB B:Nat) (R:Nat->Prop) (w:World) (f:Fm):Prop:=∃S,YH NB B S w f/\(∀q,Hb f q\/Sm f.g S q->R q)/\∀q,R q->B<=q/\q<w.heap.size
def uI (NB B:Nat) (R:Nat->Prop) (w w':World) (f:Fm):Prop:=dB NB B (Up R w w') w' f/\Kq R w w'
section
variable {NB B:Nat} {R T:Nat->Prop} {w w' w1 w2:World} {f f1 f2:Fm}
theorem dB.kq (h:dB NB B R w f) (hk:Kq T w w') (hT:∀q,R q->¬T q):dB NB B R w' f:=by obtain⟨S,h1,h2,h3⟩:=h;exact⟨S,h1.kq hk λq hq=>hT q (h2 q hq),h2,λq hq=>⟨(h3 q hq).1,Nat.lt_of_lt_of_le (h3 q hq).2 hk.size⟩⟩
theorem dB.on (h:dB NB B R w f) (hb:Below w.heap.size w w'):dB NB B R w' f:=h.kq (T:=λ_=>False) (Kq.of hb) λ_ _ h=>h
theorem dB.more {R':Nat->Prop} (h:dB NB B R w f) (h1:∀q,R q->R' q) (h2:∀q,R' q->B<=q/\q<w.heap.size):dB NB B R' w f:=by obtain⟨S,a1,a2,_⟩:=h;exact⟨S,a1,λq hq=>h1 q (a2 q hq),h2⟩
theorem dB.bnd (h:dB NB B R w f):∀q,R q->B<=q/\q<w.heap.size:=by obtain⟨S,_,_,h3⟩:=h;exact h3
theorem dB.ghost (h:dB NB B R w f) (P:List UInt8->Prop):dB NB B R w {f with g:={f.g with gh:=P}}:=by obtain⟨S,a,h2,h3⟩:=h;exact⟨S,⟨a.hF,a.hS,a.hN,a.hG,a.hL,a.hT,a.hg.ghost P,a.nd,a.nt,a.ns,a.lo⟩,h2,h3⟩
theorem dB.ltF (h:dB NB B R w f):f.F<w.heap.size:=by obtain⟨S,h1,_⟩:=h;exact h1.hF.lt
theorem dB.base (h:dB NB B R w f):B<=w.heap.size:=by obtain⟨S,h1,_⟩:=h;have:=h1.lo _ (.inl rfl);have:=h1.hF.lt;omega
theorem dB.inF (h:dB NB B R w f):R f.F:=by obtain⟨S,_,h2,_⟩:=h;exact h2 _ (.inl (.inl rfl))
theorem dB.hF (h:dB NB B R w f):aF w f.F 225 (Nb NB f):=by obtain⟨S,h1,_⟩:=h;exact h1.hF
theorem dB.hS (h:dB NB B R w f):dC w f.SE f.se:=by obtain⟨S,h1,_⟩:=h;exact h1.hS
theorem dB.hN (h:dB NB B R w f):dC w f.NO f.no:=by obtain⟨S,h1,_⟩:=h;exact h1.hN
theorem dB.hG (h:dB NB B R w f):dC w f.GO f.go:=by obtain⟨S,h1,_⟩:=h;exact h1.hG
theorem dB.hL (h:dB NB B R w f):Own pI 4 w 0 (.slice (some ⟨f.LA,0,none⟩) NB NB) (List.replicate NB false):=by obtain⟨S,h1,_⟩:=h;exact h1.hL
theorem dB.mg (h:dB NB B R w f):∃S,gu NB B S w f.g/\∀q,Sm f.g S q->R q:=by obtain⟨S,h1,h2,_⟩:=h;exact⟨S,h1.hg,λq hq=>h2 q (.inr hq)⟩
theorem dB.c0 (h:dB NB B R w f):w.cell? ⟨f.F,0,none⟩=some (.pointer (some ⟨f.g.C,0,none⟩)):=h.hF.aj rfl
theorem dB.c1 (h:dB NB B R w f):w.cell? ⟨f.F,1,none⟩=some (.pointer (some ⟨f.g.M,0,none⟩)):=h.hF.aj rfl
theorem dB.c2 (h:dB NB B R w f):w.cell? ⟨f.F,2,none⟩=some (.int .i64 f.g.res):=h.hF.aj rfl
theorem dB.c3 (h:dB NB B R w f):w.cell? ⟨f.F,3,none⟩=some (.int .i64 f.g.bad):=h.hF.aj rfl
theorem dB.c4 (h:dB NB B R w f):w.cell? ⟨f.F,4,none⟩=some f.tv:=h.hF.aj rfl
theorem dB.c5 (h:dB NB B R w f):w.cell? ⟨f.F,5,none⟩=some (.map (some f.SE)):=h.hF.aj rfl
theorem dB.c6 (h:dB NB B R w f):w.cell? ⟨f.F,6,none⟩=some (.map (some f.NO)):=h.hF.aj rfl
theorem dB.c7 (h:dB NB B R w f):w.cell? ⟨f.F,7,none⟩=some (.map (some f.GO)):=h.hF.aj rfl
theorem dB.c8 (h:dB NB B R w f):w.cell? ⟨f.F,8,none⟩=some (.int .u64 (f.seq:Int)):=h.hF.aj rfl
theorem dB.c9 (h:dB NB B R w f):w.cell? ⟨f.F,9,none⟩=some (.int .u64 (f.ep:Int)):=h.hF.aj rfl
theorem dB.c10 (h:dB NB B R w f):w.cell? ⟨f.F,10,none⟩=some (.slice (some ⟨f.LA,0,none⟩) NB NB):=h.hF.aj rfl
theorem dB.c11 (h:dB NB B R w f):w.cell? ⟨f.F,11,none⟩=some (.bool f.ov):=h.hF.aj rfl
theorem dB.frz (h:dB NB B R w f) (i:Nat):w.frozen? ⟨f.F,i,none⟩=false:=h.hF.frozen i
theorem ahY {R:Nat->Prop} {w:World} {q:Nat} (h:Up R w w q):R q:=by rcases h with h|h;exact h;omega
theorem dB.refl (h:dB NB B R w f):uI NB B R w w f:=⟨h.more (λ_ hq=> .inl hq) λq hq=>h.bnd q (ahY hq),Kq.refl _ _⟩
theorem Yw {R:Nat->Prop} {w w1 w2:World} (h1:w.heap.size<=w1.heap.size) (h2:w1.heap.size<=w2.heap.size) {q:Nat} (h:Up (Up R w w1) w1 w2 q):Up R w w2 q:=by
 rcases h with(h|h)|h
 ·exact .inl h
 ·exact .inr ⟨h.1,ae⟩
 ·exact .inr ⟨ae,h.2⟩
theorem uI.ay (h:uI NB B R w w1 f1) (k:uI NB B (Up R w w1) w1 w2 f2):uI NB B R w w2 f2:=by
 have iO:=h.2.size;have mr:=k.2.size;refine⟨k.1.more (λq hq=>Yw iO mr hq) λq hq=>?_,h.2.ay k.2 λq hq=>?_⟩
 ·rcases hq with hq|hq
  ·exact k.1.bnd q (.inl (.inl hq))
  ·rcases Nat.lt_or_ge q w1.heap.size with h1|h1
   ·exact k.1.bnd q (.inl (.inr ⟨hq.1,h1⟩))
   ·exact k.1.bnd q (.inr ⟨h1,hq.2⟩)
 ·rcases hq with h1|h1
  ·exact .inl h1
  ·exact .inr h1.1
theorem uI.on (h:uI NB B R w w1 f) (hb:Below w1.heap.size w1 w2) (hB:B<=w.heap.size):uI NB B R w w2 f:=by
 have hs:=hb.size;refine⟨(h.1.on hb).more (λq hq=>?_) λq hq=>?_,h.2.on hb⟩
 ·rcases hq with h1|h1
  ·exact .inl h1
  ·exact .inr ⟨h1.1,ae⟩
 ·rcases hq with h1|h1
  ·have:=h.1.bnd q (.inl h1);omega
  ·omega
theorem uI.from_ (hb:Below w.heap.size w w1) (h:uI NB B R w1 w2 f) (hB:B<=w.heap.size):uI NB B R w w2 f:=by
 have hs:=hb.size;refine⟨h.1.more (λq hq=>?_) λq hq=>?_,(Kq.of hb).trans h.2⟩
 ·rcases hq with h1|h1
  ·exact .inl h1
  ·exact .inr ⟨ae,h1.2⟩
 ·rcases hq with h1|h1
  ·exact h.1.bnd q (.inl h1)
  ·omega
theorem uI.tail {w3:World} (hb:Below w.heap.size w w1) (h:uI NB B R w1 w2 f) (hB:B<=w.heap.size) (hk:Kq T w2 w3) (hT:∀q,T q->w.heap.size<=q/\q<w1.heap.size/\¬R q):uI NB B R w w3 f:=by
 have hs:=hb.size;have mr:=hk.size;have h1:=h.1.kq hk λq hq ht=>by obtain⟨a1,a2,a3⟩:=hT q ht;exact a3 (ji hq a2)
 refine⟨h1.more (λq hq=>?_) λq hq=>?_,((Kq.of hb).trans h.2).ay hk λq hq=> .inr (hT q hq).1⟩
 ·rcases hq with h1|h1
  ·exact .inl h1
  ·exact .inr ⟨ae,ae⟩
 ·rcases hq with h2|h2
  ·exact h1.bnd q (.inl h2)
  ·omega
theorem dB.aV (h:dB NB B R w f) {q:Nat} (hq:w.heap.size<=q):¬R q:=λh1=>by have:=(h.bnd q h1).2;omega
theorem uI.blk {q:Nat} {t:TypeId} {cs:Array Value} (h:uI NB B R w w1 f) (hb:aF w q t cs) (hq:¬R q):aF w1 q t cs:=hb.kq h.2 hq
theorem uI.far {q:Nat} (_:uI NB B R w w1 f) (hq:¬R q) (hl:q<w.heap.size):¬Up R w w1 q:=λh1=>hq (ji h1 hl)
theorem ad3 {S S':Nat->Prop} {g2:Mg} (a1:YH NB B S w f) (a2:∀q,Hb f q\/Sm f.g S q->R q) (a3:∀q,R q->B<=q/\q<w.heap.size) (b1:gu NB B S' w' g2) (b2:Kq (Sm f.g S) w w') (b3:∀q,S' q->Up S w w' q) (h1:g2.M=f.g.M) (h2:g2.ML=f.g.ML) (h3:g2.C=f.g.C) (h4:g2.res=f.g.res) (h5:g2.bad=f.g.bad):uI NB B R w w' {f with g:=g2}:=by
 have hs:=b2.size;have h0:B<=w.heap.size:=by have:=a1.lo _ (.inl rfl);have:=a1.hF.lt;omega
 refine⟨⟨S',a1.mgr b1 b2 b3 h1 h2 h3 h4 h5,λq hq=>?_,λq hq=>?_⟩,b2.mono λq hq=>a2 q (.inr hq)⟩
 ·rcases hq with hq|hq
  ·exact .inl (a2 q (.inl hq))
  ·rcases hq with e|e|e
   ·exact .inl (a2 q (.inr (.inl (e.trans h1))))
   ·exact .inl (a2 q (.inr (.inr (.inl (e.trans h2)))))
   ·rcases b3 q e with e2|e2
    ·exact .inl (a2 q (.inr (.inr (.inr e2))))
    ·exact .inr e2
 ·rcases hq with hq|hq
  ·have:=a3 q hq;omega
  ·omega
theorem YK {S:Nat->Prop} {g2:Mg} (a1:YH NB B S w f) (a2:∀q,Hb f q\/Sm f.g S q->R q) (a3:∀q,R q->B<=q/\q<w.heap.size) (b1:gu NB B S w' g2) (b2:Kq (Sm f.g S) w w') (h1:g2.M=f.g.M) (h2:g2.ML=f.g.ML) (h3:g2.C=f.g.C) (h4:g2.res=f.g.res) (h5:g2.bad=f.g.bad):dB NB B R w' {f with g:=g2}/\Kq R w w':=by
 refine⟨⟨S,a1.mgr b1 b2 (λ_ h=> .inl h) h1 h2 h3 h4 h5,λq hq=>?_,λq hq=>⟨(a3 q hq).1,Nat.lt_of_lt_of_le (a3 q hq).2 b2.size⟩⟩,b2.mono λq hq=>a2 q (.inr hq)⟩;rcases hq with hq|hq
 ·exact a2 q (.inl hq)
 ·rcases hq with e|e|e
  ·exact a2 q (.inr (.inl (e.trans h1)))
  ·exact a2 q (.inr (.inr (.inl (e.trans h2))))
  ·exact a2 q (.inr (.inr (.inr e)))
theorem dB.alW (h:dB NB B R w f) (i:Nat) (u:Value) (f':Fm) (hA:(Nb NB f).setIfInBounds i u=Nb NB f') (h1:f'.F=f.F) (h2:f'.SE=f.SE) (h3:f'.NO=f.NO) (h4:f'.GO=f.GO) (h5:f'.LA=f.LA) (h6:f'.g=f.g) (h7:f'.se=f.se) (h8:f'.no=f.no) (h9:f'.go=f.go) (L8:f'.tv=f.tv) (h11:f'.tx=f.tx):dB NB B R (w.setCell ⟨f.F,i,none⟩ u) f':=by
 obtain⟨S,a1,a2,a3⟩:=h;have hq:Kq (λq=>q=f.F) w (w.setCell ⟨f.F,i,none⟩ u):=Kq.one ⟨_,_,none⟩ _;have nd:=a1.nd;simp only[List.nodup_cons,List.mem_cons,List.not_mem_nil,or_false,not_or] at nd;obtain⟨⟨n1,n2,n3,n4⟩,_⟩:=nd;have dh:∀q,q≠f.F->(w.setCell ⟨f.F,i,none⟩ u).heap[q]?=w.heap[q]?:=λq hq=>heap_setCell_other _ _ _ _ (by simpa using hq);refine⟨S,⟨?_,?_,?_,?_,?_,?_,?_,?_,?_,?_,?_⟩,?_,λq hq=>by simpa using a3 q hq⟩
 ·rw[h1,<-hA];exact a1.hF.set i u
 ·rw[h2,h7];exact a1.hS.same (dh _ (Ne.symm n1))
 ·rw[h3,h8];exact a1.hN.same (dh _ (Ne.symm n2))
 ·rw[h4,h9];exact a1.hG.same (dh _ (Ne.symm n3))
 ·rw[h5];exact a1.hL.kq hq λq hq=>by obtain rfl:=fD _ _ _ _ hq;exact Ne.symm n4
 ·rw[L8,h11];exact a1.hT.kq hq λq hq e=>a1.nt q hq (by rw[e];simp)
 ·rw[h6];exact a1.hg.kq hq λq hq e=>a1.ns _ (.inl rfl) (e▸hq)
 ·rw[h1,h2,h3,h4,h5];exact a1.nd
 ·rw[h1,h2,h3,h4,h5,L8];exact a1.nt
 ·unfold Hb;rw[h1,h2,h3,h4,h5,h6,L8];exact a1.ns
 ·unfold Hb;rw[h1,h2,h3,h4,h5,L8];exact a1.lo
 ·unfold Hb;rw[h1,h2,h3,h4,h5,h6,L8];exact a2
theorem dB.ahZ (h:dB NB B R w f) {b:Nat} (hg:w.grownBy w' (some b)) (hs:w'.heap.size=w.heap.size) (f':Fm) (hA:Nb NB f'=Nb NB f) (h1:f'.F=f.F) (h2:f'.SE=f.SE) (h3:f'.NO=f.NO) (h4:f'.GO=f.GO) (h5:f'.LA=f.LA) (h6:f'.g=f.g) (L8:f'.tv=f.tv) (h11:f'.tx=f.tx)
  (hb:b=f.SE\/b=f.NO\/b=f.GO) (k1:if b=f.SE then dC w' b f'.se else f'.se=f.se) (k2:if b=f.NO then dC w' b f'.no else f'.no=f.no) (k3:if b=f.GO then dC w' b f'.go else f'.go=f.go):dB NB B R w' f'/\Kq R w w':=by
 obtain⟨S,a1,a2,a3⟩:=h;have hbH:Hb f b:=by
  rcases hb with e|e|e
  ·exact .inr (.inl e)
  ·exact .inr (.inr (.inl e))
  ·exact .inr (.inr (.inr (.inl e)))
 have hq:Kq (λq=>q=b) w w':=(Kq.grown hg).mono λq e=>(Option.some.inj e).symm;have nd:=a1.nd;simp only[List.nodup_cons,List.mem_cons,List.not_mem_nil,or_false,not_or] at nd;obtain⟨⟨n1,n2,n3,n4⟩,⟨n5,n6,n7⟩,⟨n8,n9⟩,n10,_⟩:=nd;have dh:∀q,q<w.heap.size->q≠b->w'.heap[q]?=w.heap[q]?:=λq hl hq=>hg.block q hl λe=>hq (Option.some.inj e);have hbm:b∈[f.SE,f.NO,f.GO]:=by simpa using hb
 refine⟨⟨S,⟨?_,?_,?_,?_,?_,?_,?_,?_,?_,?_,?_⟩,?_,λq hq=>by rw[hs];exact a3 q hq⟩,hq.mono λq e=>e▸a2 b (.inl hbH)⟩
 ·rw[h1,hA];exact a1.hF.kq hq (by rcases hb with e|e|e<;>omega)
 ·rw[h2];by_cases e:b=f.SE
  ·rw[if_pos e] at k1;rw[<-e];exact k1
  ·rw[if_neg e] at k1;rw[k1];exact a1.hS.same (dh _ a1.hS.lt (Ne.symm e))
 ·rw[h3];by_cases e:b=f.NO
  ·rw[if_pos e] at k2;rw[<-e];exact k2
  ·rw[if_neg e] at k2;rw[k2];exact a1.hN.same (dh _ a1.hN.lt (Ne.symm e))
 ·rw[h4];by_cases e:b=f.GO
  ·rw[if_pos e] at k3;rw[<-e];exact k3
  ·rw[if_neg e] at k3;rw[k3];exact a1.hG.same (dh _ a1.hG.lt (Ne.symm e))
 ·rw[h5];exact a1.hL.kq hq λq hq=>by obtain rfl:=fD _ _ _ _ hq;rcases hb with e|e|e<;>omega
 ·rw[L8,h11];exact a1.hT.kq hq λq hq e=>a1.nt q hq (by rw[e];simp only[List.mem_cons,List.not_mem_nil,or_false] at hbm⊢;rcases hbm with e|e|e<;>simp[e])
 ·rw[h6];exact a1.hg.kq hq λq hq e=>a1.ns _ hbH (e▸hq)
 ·rw[h1,h2,h3,h4,h5];exact a1.nd
 ·rw[h1,h2,h3,h4,h5,L8];exact a1.nt
 ·unfold Hb;rw[h1,h2,h3,h4,h5,h6,L8];exact a1.ns
 ·unfold Hb;rw[h1,h2,h3,h4,h5,L8];exact a1.lo
 ·unfold Hb;rw[h1,h2,h3,h4,h5,h6,L8];exact a2
theorem dB.JG (h:dB NB B R w f):f.SE≠f.NO/\f.SE≠f.GO/\f.NO≠f.GO:=by obtain⟨S,a1,_⟩:=h;have nd:=a1.nd;simp only[List.nodup_cons,List.mem_cons,List.not_mem_nil,or_false,not_or] at nd;obtain⟨_,⟨n5,n6,_⟩,⟨n8,_⟩,_⟩:=nd;exact⟨n5,n6,n8⟩
theorem dB.aqH (h:dB NB B R w f) (e:En) (hp:e.t.p<4294967296):∃o,(Instr.mapUpdate 222 (.map (some f.SE)) (.int .u32 (e.t.p:Int)) (Vd e.b e.i)).run prog w= .ok () (setBlock w f.SE o)/\dB NB B R (setBlock w f.SE o) {f with se:=fO f.se e}/\Kq R w (setBlock w f.SE o):=by obtain⟨d1,d2,d3⟩:=h.JG;obtain⟨o,bP,hm,hg⟩:=h.hS.put e hp;obtain⟨a,b⟩:=h.ahZ hg (by simp[setBlock]) {f with se:=fO f.se e} rfl rfl rfl rfl rfl rfl rfl rfl rfl (.inl rfl) (by rw[if_pos rfl];exact hm) (by rw[if_neg d1]) (by rw[if_neg d2]);exact⟨o,bP,a,b⟩
theorem dB.aqI (h:dB NB B R w f) (e:En) (hp:e.t.p<4294967296):∃o,(Instr.mapUpdate 222 (.map (some f.NO)) (.int .u32 (e.t.p:Int)) (Vd e.b e.i)).run prog w= .ok () (setBlock w f.NO o)/\dB NB B R (setBlock w f.NO o) {f with no:=fO f.no e}/\Kq R w (setBlock w f.NO o):=by obtain⟨d1,d2,d3⟩:=h.JG;obtain⟨o,bP,hm,hg⟩:=h.hN.put e hp;obtain⟨a,b⟩:=h.ahZ hg (by simp[setBlock]) {f with no:=fO f.no e} rfl rfl rfl rfl rfl rfl rfl rfl rfl (.inr (.inl rfl)) (by rw[if_neg (Ne.symm d1)]) (by rw[if_pos rfl];exact hm) (by rw[if_neg d3]);exact⟨o,bP,a,b⟩
theorem dB.delS (h:dB NB B R w f) {p:Nat} (hp:p<4294967296) (ty:TypeId):∃o,(Builtin.delete_ #[222,64] ty #[.map (some f.SE),.int .u32 p]).run prog w= .ok (.tuple #[]) (setBlock w f.SE o)/\dB NB B R (setBlock w f.SE o) {f with se:=jW f.se p}/\Kq R w (setBlock w f.SE o):=by obtain⟨d1,d2,d3⟩:=h.JG;obtain⟨o,bP,hm,hg⟩:=h.hS.del hp ty;obtain⟨a,b⟩:=h.ahZ hg (by simp[setBlock]) {f with se:=jW f.se p} rfl rfl rfl rfl rfl rfl rfl rfl rfl (.inl rfl) (by rw[if_pos rfl];exact hm) (by rw[if_neg d1]) (by rw[if_neg d2]);exact⟨o,bP,a,b⟩
theorem dB.al2 (h:dB NB B R w f) {p:Nat} (hp:p<4294967296) (ty:TypeId):∃o,(Builtin.delete_ #[222,64] ty #[.map (some f.GO),.int .u32 p]).run prog w= .ok (.tuple #[]) (setBlock w f.GO o)/\dB NB B R (setBlock w f.GO o) {f with go:=jW f.go p}/\Kq R w (setBlock w f.GO o):=by obtain⟨d1,d2,d3⟩:=h.JG;obtain⟨o,bP,hm,hg⟩:=h.hG.del hp ty;obtain⟨a,b⟩:=h.ahZ hg (by simp[setBlock]) {f with go:=jW f.go p} rfl rfl rfl rfl rfl rfl rfl rfl rfl (.inr (.inr rfl)) (by rw[if_neg (Ne.symm d2)]) (by rw[if_neg (Ne.symm d3)]) (by rw[if_pos rfl];exact hm);exact⟨o,bP,a,b⟩
end
end
end Go.Proofs.YtnieckfelfoopaaGreat

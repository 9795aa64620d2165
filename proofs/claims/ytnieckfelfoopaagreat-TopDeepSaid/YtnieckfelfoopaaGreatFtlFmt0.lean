import Derived.Test.YtnieckfelfoopaaGreatFtlPut2
open Go.Proofs.Tryz (prog)
namespace Go.Proofs.YtnieckfelfoopaaGreat
open Lib (hid)
set_option maxRecDepth 100000
set_option maxHeartbeats 16000000
section
open Go.RowKit

structure Pr (NB B:Nat) (R:Nat->Prop) (w:World) (R':Nat->Prop) (W:World) (f:Fm):Prop where
 ft:dB NB B R' W f
 kq:Kq R w W
 up:∀q,R' q->Up R w W q
 bn:∀q,R q->B<=q/\q<w.heap.size
section
variable {NB B:Nat} {R R' T:Nat->Prop} {w W W':World} {f f':Fm}
theorem Pr.start (h:dB NB B R w f):Pr NB B R w R w f:=⟨h,Kq.refl _ _,λ_ hq=> .inl hq,h.bnd⟩
theorem Pr.up_ {q:Nat} (h:Pr NB B R w R' W f) (hs:W.heap.size<=W'.heap.size) (hq:R' q):Up R w W' q:=by
 rcases h.up q hq with h1|h1
 ·exact .inl h1
 ·exact .inr ⟨h1.1,ae⟩
theorem Pr.on (h:Pr NB B R w R' W f) (hb:Below W.heap.size W W'):Pr NB B R w R' W' f:=⟨h.ft.on hb,h.kq.on hb,λ_ hq=>h.up_ hb.size hq,h.bn⟩
theorem Pr.same (h:Pr NB B R w R' W f) (h1:dB NB B R' W' f') (h2:Kq R' W W'):Pr NB B R w R' W' f':=
 ⟨h1,h.kq.ay h2 λq hq=>by rcases h.up q hq with h3|h3;exact .inl h3;exact .inr h3.1,λ_ hq=>h.up_ h2.size hq,h.bn⟩
theorem Pr.step (h:Pr NB B R w R' W f) (h1:uI NB B R' W W' f'):Pr NB B R w (Up R' W W') W' f':=by
 have hs:=h.kq.size;refine⟨h1.1,h.kq.ay h1.2 λq hq=>by rcases h.up q hq with h3|h3;exact .inl h3;exact .inr h3.1,λq hq=>?_,h.bn⟩;rcases hq with h2|h2
 ·exact h.up_ h1.2.size h2
 ·exact .inr ⟨ae,h2.2⟩
theorem Pr.mine (h:Pr NB B R w R' W f) (hk:Kq T W W') (hT:∀q,T q->w.heap.size<=q/\¬R' q):Pr NB B R w R' W' f:=
 ⟨h.ft.kq hk λq hq ht=>(hT q ht).2 hq,h.kq.ay hk λq hq=> .inr (hT q hq).1,λ_ hq=>h.up_ hk.size hq,h.bn⟩
theorem Pr.fin (h:Pr NB B R w R' W f) (hB:B<=w.heap.size):uI NB B R w W f:=by
 refine⟨h.ft.more h.up λq hq=>?_,h.kq⟩;rcases hq with h1|h1
 ·have:=h.bn q h1;have:=h.kq.size;omega
 ·exact⟨ae,h1.2⟩
end
namespace eX
theorem Bj {l l':List En} (h:l'.map sk=l.map sk) (p:Nat):(aG l' p).map sk=(aG l p).map sk:=by
 unfold aG
 induction l generalizing l' with
 |nil=>
  cases l' with
  |nil=>rfl
  |cons a t=>cases h
 |cons b t ih=>
  cases l' with
  |nil=>cases h
  |cons a s=>
   rw[List.map_cons,List.map_cons] at h;injection h with h1 h2
   have hp:a.t.p=b.t.p:=congrArg (λy=>y.1.p) h1;rw[List.find?_cons,List.find?_cons,hp]
   split
   ·show some (sk a)=some (sk b);rw[h1]
   ·exact ih h2
theorem je {l l':List En} (h:l'.map sk=l.map sk) (p:Nat):(aG l' p).isSome=(aG l p).isSome:=by
 have:=congrArg Option.isSome (Bj h p)
 simpa using this
theorem Na {l l':List En} (h:l'.map (λe=>e.t.p)=l.map λe=>e.t.p) (p:Nat):(aG l' p).isSome=(aG l p).isSome:=by
 unfold aG
 induction l generalizing l' with
 |nil=>
  cases l' with
  |nil=>rfl
  |cons a t=>cases h
 |cons b t ih=>
  cases l' with
  |nil=>cases h
  |cons a s=>
   rw[List.map_cons,List.map_cons] at h;injection h with h1 h2
   have hp:a.t.p=b.t.p:=h1;rw[List.find?_cons,List.find?_cons,hp]
   split
   ·rfl
   ·exact ih h2
theorem mQ {l:List En} {e:En} (hu:Uq l) (q:Nat):aG (fO l e) q=if q=e.t.p then some e else aG l q:=by
 cases hg:aG l e.t.p with
 |some x=>
  obtain⟨hx,hp⟩:=iq hg;obtain⟨l1,l2,rfl⟩:=List.append_of_mem hx;obtain⟨n1,n2⟩:=uQ hu;rw[Pq hu hp];unfold aG;rw[List.find?_append,List.find?_append,List.find?_cons,List.find?_cons];by_cases hq:q=e.t.p
  ·subst hq;rw[if_pos rfl];have:l1.find? (λy=>y.t.p==e.t.p)=none:=List.find?_eq_none.2 λy hy=>by have:=n1 y hy;simp;omega
   rw[this];simp
  ·rw[if_neg hq];have h1:(e.t.p==q)=false:=by rw[beq_eq_false_iff_ne];omega
   have h2:(x.t.p==q)=false:=by rw[beq_eq_false_iff_ne];omega
   rw[h1,h2]
 |none=>
  have hn:=jM hg;rw[nV λx hx=>hn x hx];unfold aG;rw[List.find?_append,List.find?_cons,List.find?_nil];by_cases hq:q=e.t.p
  ·subst hq;rw[if_pos rfl];have:l.find? (λy=>y.t.p==e.t.p)=none:=List.find?_eq_none.2 λy hy=>by have:=hn y hy;simp;omega
   rw[this];simp
  ·rw[if_neg hq];have h1:(e.t.p==q)=false:=by rw[beq_eq_false_iff_ne];omega
   rw[h1]
   cases l.find? (λy=>y.t.p==q)<;>rfl
theorem qh (l:List En) (p q:Nat):aG (jW l p) q=if q=p then none else aG l q:=by
 unfold aG jW;rw[List.find?_filter];by_cases hq:q=p
 ·subst hq;rw[if_pos rfl];exact List.find?_eq_none.2 λy _=>au
 ·rw[if_neg hq]
  congr 1
  funext y
  by_cases h:y.t.p=q
  ·simp[h,hq]
  ·simp[h]
theorem ahM {l:List En} {e:En} (hu:Uq l):Uq (fO l e):=by
 cases hg:aG l e.t.p with
 |some x=>
  obtain⟨hx,hp⟩:=iq hg;unfold Uq;rw[aam (by rw[hg];rfl)];exact hu
 |none=>
  have hn:=jM hg;rw[nV λx hx=>hn x hx];unfold Uq at*;rw[List.map_append,List.nodup_append];refine⟨hu,au,?_⟩;rintro a ha b hb rfl;obtain⟨x,hx,rfl⟩:=List.mem_map.1 ha;simp at hb;exact hn x hx hb
theorem EI {l:List Bk} {k:Nat} (hk:k<l.length) (hs:(Gc.at_ l k).st≠0):Gc.count 0 (l.set k (fP (Gc.at_ l k)))=Gc.count 0 l:=by
 have h1:=Gc.count_set 0 (l:=l) (k:=k) (fP (Gc.at_ l k)) hk;rw[if_neg hs] at h1;have h2:(fP (Gc.at_ l k)).st≠0:=by
  show(if _ then 3 else(Gc.at_ l k).st)≠0
  split
  ·omega
  ·exact hs
 rw[if_neg h2] at h1;omega
section
variable {NB n k:Nat} {x:List Nat} {g:Mg} {E:List En} {e e0:En}
theorem Fi.YE (h:Fi NB n (k::x) g E):(Gc.at_ g.l k).st≠0:=λe=>by have hk:=h.ltx (k:=k) au;have hb:=h.w.bk k hk;have hc:0<(E.map (·.b)++k::x).count k:=List.count_pos_iff.2 au;have:=hb.lv;have:=(hb.fr e).1;omega
theorem Fi.aqs (h:Fi NB n x g E) (hk:k∈x):k<g.l.length:=by rw[h.w.len];exact h.ltx hk
end
theorem Pgd.gp {NB k i:Nat} {g g':Mg} {t:Tg} {pay:List UInt8} (h:Pgd NB g g' k i (Tg.page t pay)):Gp g' ⟨t,pay,k,i⟩:=by
 refine⟨?_,?_,h.i8⟩
 ·show(g'.bl k).sS i=_;rw[h.bl,upd_same];exact upd_same _ _ _
 ·show i<(g'.bl k).nx;rw[h.bl,upd_same];exact Nat.lt_succ_self _
structure Wrd (NB:Nat) (f f':Fm) (p:Nat) (pay:List UInt8):Prop where
 fc:Fc NB f'
 F:f'.F=f.F
 C:f'.g.C=f.g.C
 gh:f'.g.gh=f.g.gh
 ct:Gc.count 0 f.g.l<=Gc.count 0 f'.g.l+1
 tx:f'.tx=f.tx
 se:f'.se.map sk=f.se.map sk
 no:∀q,(aG f'.no q).map sk=if q=p then some (⟨1,p,f.seq,f.ep⟩,pay) else(aG f.no q).map sk
 go:∀q,(aG f'.go q).isSome=if q=p then false else(aG f.go q).isSome
 len:f'.no.length=f.no.length+if (aG f.no p).isSome then 0 else 1
 seq:f'.seq=f.seq+1
 ep:f'.ep=f.ep
theorem wrd {NB k i p m:Nat} {f f1 f':Fm} {pay:List UInt8} (h:Fc NB f) (hS:Same f f1) (hu:Uq f1.no) (Dh:1<=p)
  (zk:Fi NB m [] f'.g (f1.se++fO f1.no ⟨⟨1,p,f.seq,f.ep⟩,pay,k,i⟩)) (hm:m<=100000*f.seq+100000) (sG:Fr f.g f'.g) (nO:(aG f.no p).isSome=true\/(f.se++f.no).length+3<=8*(NB-3))
  (hC:f'.g.C=f.g.C) (hGh:f'.g.gh=f.g.gh) (hF:f'.F=f1.F) (htx:f'.tx=f1.tx) (Dx:f'.se=f1.se) (hno:f'.no=fO f1.no ⟨⟨1,p,f.seq,f.ep⟩,pay,k,i⟩) (hgo:f'.go=jW f1.go p) (Me:f'.seq=f.seq+1) (ZA:f'.ep=f1.ep) (hov:f'.ov=f1.ov):Wrd NB f f' p pay:=by
 have hlen:(fO f1.no ⟨⟨1,p,f.seq,f.ep⟩,pay,k,i⟩).length=f.no.length+if (aG f.no p).isSome then 0 else 1:=by rw[Tf];have h1:=congrArg List.length hS.no;simp only[List.length_map] at h1;rw[h1,je hS.no]
 refine⟨⟨?_,sG.1,?_,by rw[hov,hS.ov];exact h.ov,?_,λx hx=>?_,?_,?_⟩,hF.trans hS.F,hC,hGh,sG.2,htx.trans hS.tx,by rw[Dx];exact hS.se,λq=>?_,λq=>?_,?_,Me,ZA.trans hS.ep⟩
 ·rw[Dx,hno,Me];exact zk.le ae
 ·rw[Dx,hno,List.length_append,hlen];have h1:=congrArg List.length hS.se;simp only[List.length_map] at h1;have h2:=h.cap;rw[List.length_append] at h2 nO;rcases nO with e|e
  ·rw[e,if_pos rfl];omega
  ·split<;>omega
 ·rw[Me,ZA,hS.ep];have:=h.sq;omega
 ·rw[hgo] at hx;rw[Dx,je hS.se];have Ff:x∈f1.go:=(List.mem_filter.1 hx).1;have:x.t.p∈f.go.map λe=>e.t.p:=by rw[<-hS.go];exact List.mem_map.2 ⟨x,Ff,rfl⟩
  obtain⟨y,hy,hyp⟩:=List.mem_map.1 this;rw[<-hyp];exact h.gk y hy
 ·rw[hno,mQ hu,if_neg (show¬0=p by omega)];have:=je hS.no 0;rw[h.n0] at this
  cases hg:aG f1.no 0 with
  |none=>rfl
  |some e=>rw[hg] at this;cases this
 ·rw[hgo,qh,if_neg (show¬0=p by omega)];have:=Na hS.go 0;rw[h.g0] at this
  cases hg:aG f1.go 0 with
  |none=>rfl
  |some e=>rw[hg] at this;cases this
 ·rw[hno,mQ hu];by_cases hq:q=p
  ·rw[if_pos hq,if_pos hq];rfl
  ·rw[if_neg hq,if_neg hq];exact Bj hS.no q
 ·rw[hgo,qh];by_cases hq:q=p
  ·rw[if_pos hq,if_pos hq];rfl
  ·rw[if_neg hq,if_neg hq];exact Na hS.go q
 ·rw[hno];exact hlen
end eX
end
section
open Go.RowKit eX

theorem ahO (u:World):(Instr.makeSlice 23 (.int .i64 8) (.int .i64 64)).run prog u= .ok (.slice (some ⟨u.heap.size,0,none⟩) 8 64) (u.alloc (.cells (Array.replicate 64 (.int .u8 0)) 5)):=az
theorem Own.aiT {α:Type} {f:α->Value} {e:TypeId} {w:World} {base:Nat} {a:Option Addr} {n c:Nat} {xs:List α} (h:Own f e w base (.slice a n c) xs) {k:Nat} (hk:k<=n):Own f e w base (.slice a k c) (xs.take k):=by
 refine⟨au,?_⟩;rcases h.2 with⟨hv,hn⟩|⟨g,cap,cur,hv,jr,hg,hc,hm,hs,ht⟩
 ·injection hv with h1 h2 h3
  subst h1 h2 h3;obtain rfl:k=0:=ae;exact .inl ⟨rfl,au⟩
 ·injection hv with h1 h2 h3
  subst h1 h2 h3;have hl:(xs.take k).length=k:=by rw[List.length_take];omega
  refine .inr ⟨g,c,cur,by rw[hl],jr,hg,by rw[hl];omega,hm,hs,?_⟩;rw[hl,List.map_take,<-ht,List.take_take]
  congr 1
  omega
theorem WL (a:Option Addr) (c:Nat) (tx:List UInt8) (w:World) (hx:Bytes w w.heap.size a 56 tx):
  Calls prog 209 #[.int .i64 2,.int .i64 0,.slice a 56 c] w λe w'=>(∃a' c',e= .returned (.slice a' 64 c')/\Own aH 5 w' w.heap.size (.slice a' 64 c') ([2,0,0,0,0,0,0,0]++tx))/\Below w.heap.size w w':=by
 have uY:=ahO;have hl:=hx.len;have ho:=(nH w w.heap.size 64 (Nat.le_refl _) ae).aiT (k:=8) ae;have hb:=(Below.refl w.heap.size w).alloc (Nat.le_refl _) (.cells (Array.replicate 64 (.int .u8 0)) 5);have HX:=ag (hx.on hb);have ho:Own aH 5 (w.alloc (.cells (Array.replicate 64 (.int .u8 0)) 5)) w.heap.size (.slice (some ⟨w.heap.size,0,none⟩) 8 64) [0,0,0,0,0,0,0,0]:=ho;generalize jw:w.alloc (.cells (Array.replicate 64 (.int .u8 0)) 5)=w1 at*;obtain⟨c0,f0⟩:=ho.iH (k:=0) au;have h0:=ho.set 0 2;obtain⟨c1,f1⟩:=h0.iH (k:=1) au;have h1:=h0.set 1 0;obtain⟨c2,f2⟩:=h1.iH (k:=2) au;have h2:=h1.set 2 0;obtain⟨c3,f3⟩:=h2.iH (k:=3) au;have h3:=h2.set 3 0;have h3:Own aH 5 ((((w1.setCell ⟨w.heap.size,0,none⟩ (.int .u8 2)).setCell ⟨w.heap.size,1,none⟩ (.int .u8 0)).setCell ⟨w.heap.size,2,none⟩ (.int .u8 0)).setCell ⟨w.heap.size,3,none⟩ (.int .u8 0)) w.heap.size (.slice (some ⟨w.heap.size,0,none⟩) 8 64) [2,0,0,0,0,0,0,0]:=h3;have bQ:=(((hb.setCell (p:=⟨w.heap.size,0,none⟩) (Nat.le_refl _) (.int .u8 2)).setCell (p:=⟨w.heap.size,1,none⟩) (Nat.le_refl _) (.int .u8 0)).setCell (p:=⟨w.heap.size,2,none⟩) (Nat.le_refl _) (.int .u8 0)).setCell (p:=⟨w.heap.size,3,none⟩) (Nat.le_refl _) (.int .u8 0);have HO:=ag h3;have HB:=ag bQ;have zZ:=ag (hx.on bQ);have c0:w1.cell? ⟨w.heap.size,0,none⟩=some (.int .u8 0):=c0;have c1:(w1.setCell ⟨w.heap.size,0,none⟩ (.int .u8 2)).cell? ⟨w.heap.size,1,none⟩=some (.int .u8 0):=c1;have f1:(w1.setCell ⟨w.heap.size,0,none⟩ (.int .u8 2)).frozen? ⟨w.heap.size,1,none⟩=false:=f1;have c2:((w1.setCell ⟨w.heap.size,0,none⟩ (.int .u8 2)).setCell ⟨w.heap.size,1,none⟩ (.int .u8 0)).cell? ⟨w.heap.size,2,none⟩=some (.int .u8 0):=c2;have f2:((w1.setCell ⟨w.heap.size,0,none⟩ (.int .u8 2)).setCell ⟨w.heap.size,1,none⟩ (.int .u8 0)).frozen? ⟨w.heap.size,2,none⟩=false:=f2;have c3:(((w1.setCell ⟨w.heap.size,0,none⟩ (.int .u8 2)).setCell ⟨w.heap.size,1,none⟩ (.int .u8 0)).setCell ⟨w.heap.size,2,none⟩ (.int .u8 0)).cell? ⟨w.heap.size,3,none⟩=some (.int .u8 0):=c3;have f3:(((w1.setCell ⟨w.heap.size,0,none⟩ (.int .u8 2)).setCell ⟨w.heap.size,1,none⟩ (.int .u8 0)).setCell ⟨w.heap.size,2,none⟩ (.int .u8 0)).frozen? ⟨w.heap.size,3,none⟩=false:=f3;clear hx hl ho hb h0 h1 h2 h3 bQ HX
 go_in
 go_upto_region 2 with fail;clear jw;go_upto_region 3 with fail;clear c0 c1 c2 c3 f0 f1 f2 f3
 go_wp2_with (at_builtin;refine lU rfl _ _ rfl w.heap.size _ [2,0,0,0,0,0,0,0] rfl HO.o _ a 56 c tx rfl zZ.o au (by have:=HB.o.size;exact this) ?_;intro v4 w4 vJ kL)
 go_ret;obtain⟨a4,c4,rfl,_⟩:=vJ.o.bZ (n:=64) (by rw[List.length_append,zZ.o.len];rfl);exact⟨⟨a4,c4,rfl,vJ.o⟩,HB.o.trans kL.o⟩
end
section
open Go.RowKit

namespace eX
theorem uT {l l':List En} (h:l.Perm l') (hu:Uq l):Uq l':=(h.map (λe:En=>e.t.p)).nodup_iff.1 hu
theorem Pv {l l':List En} (h:Uq (l++l')):Uq l:=by unfold Uq at*;rw[List.map_append,List.nodup_append] at h;exact h.1
theorem yj {d:List En} {e:En} (h:Uq (d++[e])) (q:Nat):aG (d++[e]) q=if q=e.t.p then some e else aG d q:=by have h2:∀x∈d,x.t.p≠e.t.p:=(uQ (l2:=[]) h).1;rw[<-nV (l:=d) (e:=e) h2];exact mQ (Pv h) q
theorem yt {l l':List En} (h:l.Perm l') (hu:Uq l) (q:Nat):aG l q=aG l' q:=by
 have hu':=uT h hu
 cases hg:aG l' q with
 |none=>exact qM λe he=>jM hg e (h.mem_iff.1 he)
 |some x=>
  obtain⟨h1,rfl⟩:=iq hg;exact Gq hu (h.mem_iff.2 h1)
structure YF (NB m:Nat) (f2 f3:Fm) (d:List En):Prop where
 fi:∃rest,(d++rest).Perm f2.no/\Fi NB (m+d.length) [] f3.g (f3.se++rest)
 se:∀q,aG f3.se q=match aG d q with
  |some e=>some e
  |none=>aG f2.se q
 go:∀q,(aG f3.go q).isSome=if (aG d q).isSome then false else(aG f2.go q).isSome
 gos:∀x∈f3.go,x∈f2.go
 fr:Gc.count 0 f2.g.l<=Gc.count 0 f3.g.l
 eq:f3={f2 with g:=f3.g,se:=f3.se,go:=f3.go}
 len:f3.se.length+(f2.no.length-d.length)+(if (aG d 0).isSome=true/\(aG f2.se 0).isSome=true then 1 else 0)<=f2.se.length+f2.no.length
 C:f3.g.C=f2.g.C
 M:f3.g.M=f2.g.M
 ML:f3.g.ML=f2.g.ML
 gh:f3.g.gh=f2.g.gh
theorem aqt {NB m:Nat} {f2:Fm} (h:Fi NB m [] f2.g (f2.se++f2.no)):YF NB m f2 f2 []:=
 ⟨⟨f2.no,List.Perm.refl _,h⟩,λ_=>rfl,λ_=>rfl,λ_ h=>h,Nat.le_refl _,rfl,by rw[if_neg (by rintro⟨e,_⟩;cases e)];simp,rfl,rfl,rfl,rfl⟩
section
variable {NB m:Nat} {f2 f3 f4:Fm} {d:List En} {e e0:En}
theorem YF.not (h:YF NB m f2 f3 d) (hu:Uq f2.no) (he:e∈f2.no) (hd:e∉d):Uq (d++[e])/\aG d e.t.p=none/\∃jS,(d++e::jS).Perm f2.no/\Fi NB (m+d.length) [] f3.g (f3.se++e::jS):=by
 obtain⟨rest,h1,h2⟩:=h.fi;have hm:e∈rest:=by
  rcases List.mem_append.1 (h1.mem_iff.2 he) with h3|h3
  ·exact absurd h3 hd
  ·exact h3
 obtain⟨l1,l2,rfl⟩:=List.append_of_mem hm;have hp:(l1++e::l2).Perm (e::(l1++l2)):=List.perm_middle;have h3:(d++e::(l1++l2)).Perm f2.no:=(hp.symm.append_left d).trans h1;have hu2:Uq (d++[e]):=by
  have:Uq ((d++[e])++(l1++l2)):=by rw[List.append_assoc];exact uT h3.symm hu
  exact Pv this
 exact⟨hu2,qM (uQ (l2:=[]) hu2).1,l1++l2,h3,h2.perm (hp.append_left f3.se)⟩
theorem YF.fin (h:YF NB m f2 f3 d) (hu:Uq f2.no) (hus:Uq f3.se) (he:e∈f2.no) (hd:e∉d) (zk:∀jS,(d++e::jS).Perm f2.no->Fi NB (m+d.length) [] f3.g (f3.se++e::jS)->Fi NB (m+d.length+1) [] f4.g (fO f3.se e++jS)) (sG:Gc.count 0 f2.g.l<=Gc.count 0 f4.g.l)
  (Dx:f4.se=fO f3.se e) (hgo:f4.go=jW f3.go e.t.p) (heq:f4={f3 with g:=f4.g,se:=f4.se,go:=f4.go}) (hC:f4.g.C=f3.g.C) (hM:f4.g.M=f3.g.M) (Qs:f4.g.ML=f3.g.ML) (hGh:f4.g.gh=f3.g.gh):YF NB m f2 f4 (d++[e]):=by
 obtain⟨hu2,hn,jS,h1,h2⟩:=h.not hu he hd;refine⟨⟨jS,by rw[List.append_assoc];exact h1,?_⟩,λq=>?_,λq=>?_,λx hx=>?_,sG,?_,?_,hC.trans h.C,hM.trans h.M,Qs.trans h.ML,hGh.trans h.gh⟩
 ·rw[List.length_append,Dx];exact zk jS h1 h2
 ·rw[Dx,mQ hus,yj hu2];by_cases hq:q=e.t.p
  ·rw[if_pos hq,if_pos hq]
  ·rw[if_neg hq,if_neg hq];exact h.se q
 ·rw[hgo,qh,yj hu2];by_cases hq:q=e.t.p
  ·rw[if_pos hq,if_pos hq];rfl
  ·rw[if_neg hq,if_neg hq];exact h.go q
 ·rw[hgo] at hx;exact h.gos x (List.mem_filter.1 hx).1
 ·rw[heq]
  conv=>lhs;rw[h.eq]
 ·have hlen:=h.len;have hdl:d.length+1<=f2.no.length:=by have:=h1.length_eq;rw[List.length_append,List.length_cons] at this;omega
  have hsp:=h.se e.t.p;rw[hn] at hsp;have hsp:aG f3.se e.t.p=aG f2.se e.t.p:=hsp;rw[Dx,Tf,List.length_append,List.length_singleton,hsp,yj hu2];by_cases h0:0=e.t.p
  ·rw[if_pos h0];rw[<-h0] at hn⊢;simp only[hn,Option.isSome_none,Bool.false_eq_true,false_and,if_false] at hlen;simp only[Option.isSome_some,true_and]
   cases hz:(aG f2.se 0).isSome
   ·simp only[Bool.false_eq_true,if_false];omega
   ·simp only[if_true];omega
  ·rw[if_neg h0]
   split<;>omega
theorem aan {se jS:List En} (hus:Uq se) (QB:e0∈se) (hp:e0.t.p=e.t.p):(e0::(fO se e++jS)).Perm (se++e::jS):=by have h1:=aao hus QB hp;have h2:(e0::(fO se e++jS)).Perm (e::(se++jS)):=h1.append_right jS;exact h2.trans List.perm_middle.symm
structure Sl2 (NB m:Nat) (f3 f4:Fm) (d:List En):Prop where
 fi:Fi NB (m+d.length) [] f4.g f4.se
 se:∀q,aG f4.se q=if (aG d q).isSome then none else aG f3.se q
 fr:Gc.count 0 f3.g.l<=Gc.count 0 f4.g.l
 eq:f4={f3 with g:=f4.g,se:=f4.se}
 C:f4.g.C=f3.g.C
 M:f4.g.M=f3.g.M
 ML:f4.g.ML=f3.g.ML
 gh:f4.g.gh=f3.g.gh
theorem aqu {NB m:Nat} {f3:Fm} (h:Fi NB m [] f3.g f3.se):Sl2 NB m f3 f3 []:=⟨h,λ_=>rfl,Nat.le_refl _,rfl,rfl,rfl,rfl,rfl⟩
theorem aap {l:List En} (hu:Uq l) (he:e∈l):(e::jW l e.t.p).Perm l:=by obtain⟨l1,l2,rfl⟩:=List.append_of_mem he;rw[YG hu];exact List.perm_middle.symm
theorem YF.all (h:YF NB m f2 f3 d) (hp:d.Perm f2.no):Fi NB (m+f2.no.length) [] f3.g f3.se:=by obtain⟨rest,h1,h2⟩:=h.fi;have hl:=hp.length_eq;have hr:rest=[]:=List.eq_nil_of_length_eq_zero (by have:=h1.length_eq;rw[List.length_append] at this;omega);subst hr;rw[List.append_nil,hl] at h2;exact h2
theorem YF.gk (h:YF NB m f2 f3 d) (hg:∀x∈f2.go,(aG f2.se x.t.p).isSome=true):∀x∈f3.go,(aG f3.se x.t.p).isSome=true:=λx hx=>by
 rw[h.se]
 cases hd:aG d x.t.p with
 |none=>exact hg x (h.gos x hx)
 |some e=>rfl
theorem Sl2.old (h:Sl2 NB m f3 f4 d) (hu:Uq f3.go) (hg:∀x∈f3.go,(aG f3.se x.t.p).isSome=true) (hr:∃rest,(d++rest).Perm f3.go) (he:e∈f3.go) (hd:e∉d):Uq (d++[e])/\∃e0,aG f4.se e.t.p=some e0:=by
 obtain⟨rest,h1⟩:=hr;have hm:e∈rest:=by
  rcases List.mem_append.1 (h1.mem_iff.2 he) with h3|h3
  ·exact absurd h3 hd
  ·exact h3
 obtain⟨l1,l2,rfl⟩:=List.append_of_mem hm;have hp:(l1++e::l2).Perm (e::(l1++l2)):=List.perm_middle;have h3:(d++e::(l1++l2)).Perm f3.go:=(hp.symm.append_left d).trans h1;have hu2:Uq (d++[e]):=by
  have:Uq ((d++[e])++(l1++l2)):=by rw[List.append_assoc];exact uT h3.symm hu
  exact Pv this
 refine⟨hu2,?_⟩;have hn:aG d e.t.p=none:=qM (uQ (l2:=[]) hu2).1;have h4:=h.se e.t.p;rw[hn] at h4;have h4:aG f4.se e.t.p=aG f3.se e.t.p:=h4;have h5:=hg e he;rw[<-h4] at h5
 cases hz:aG f4.se e.t.p with
 |none=>rw[hz] at h5;cases h5
 |some x=>exact⟨x,rfl⟩
theorem Sl2.fin {f5:Fm} (h:Sl2 NB m f3 f4 d) (hu:Uq (d++[e])) (zk:Fi NB (m+d.length+1) [] f5.g (jW f4.se e.t.p)) (sG:Gc.count 0 f3.g.l<=Gc.count 0 f5.g.l)
  (Dx:f5.se=jW f4.se e.t.p) (heq:f5={f4 with g:=f5.g,se:=f5.se}) (hC:f5.g.C=f4.g.C) (hM:f5.g.M=f4.g.M) (Qs:f5.g.ML=f4.g.ML) (hGh:f5.g.gh=f4.g.gh):Sl2 NB m f3 f5 (d++[e]):=by
 refine⟨?_,λq=>?_,sG,?_,hC.trans h.C,hM.trans h.M,Qs.trans h.ML,hGh.trans h.gh⟩
 ·rw[List.length_append,Dx];exact zk
 ·rw[Dx,qh,yj hu];by_cases hq:q=e.t.p
  ·rw[if_pos hq,if_pos hq];rfl
  ·rw[if_neg hq,if_neg hq];exact h.se q
 ·rw[heq]
  conv=>lhs;rw[h.eq]
end
end eX
end
section
open Go.RowKit eX

def uj (f:Fm):Tg:=⟨2,0,f.seq,f.ep⟩
def fZ (tx:List UInt8):List UInt8:=[2,0,0,0,0,0,0,0]++tx
structure Sld (NB:Nat) (f f':Fm) (tl:List UInt8):Prop where
 fc:Fc NB f'
 F:f'.F=f.F
 C:f'.g.C=f.g.C
 gh:f'.g.gh=f.g.gh
 ct:Gc.count 0 f.g.l<=Gc.count 0 f'.g.l+1
 no:f'.no=[]
 go:f'.go=[]
 sq:f'.seq=f.seq+1
 ep:f'.ep=f.ep+1
 tx:f'.tx=tl
 se:∀q,(aG f'.se q).map sk=if q=0 then some (uj f,fZ tl) else match (aG f.no q).map sk with
  |some x=>some x
  |none=>if (aG f.go q).isSome then none else(aG f.se q).map sk
namespace eX
theorem uk {α:Type}:∀{l l':List α},l.Nodup->(∀x∈l,x∈l')->l.length<=l'.length
 |[],_,_,_=>Nat.zero_le _
 |x::t,l',hn,hs=>by
  obtain⟨l1,l2,rfl⟩:=List.append_of_mem (hs x au);rw[List.nodup_cons] at hn;have:=uk (l:=t) (l':=l1++l2) hn.2 λy hy=>by
   have h1:=hs y (List.mem_cons_of_mem _ hy);have dh:y≠x:=λe=>hn.1 (e▸hy);rcases List.mem_append.1 h1 with h2|h2
   ·exact List.mem_append_left _ h2
   ·rcases List.mem_cons.1 h2 with h3|h3
    ·exact absurd h3 dh
    ·exact List.mem_append_right _ h3
  rw[List.length_append] at this;rw[List.length_append,List.length_cons,List.length_cons];omega
theorem dZ {l:List En} {p:Nat}:(aG l p).isSome=true↔p∈l.map λe=>e.t.p:=by
 constructor
 ·intro h
  cases hz:aG l p with
  |none=>rw[hz] at h;cases h
  |some x=>obtain⟨h2,h3⟩:=iq hz;exact List.mem_map.2 ⟨x,h2,h3⟩
 ·intro h;obtain⟨e,he,rfl⟩:=List.mem_map.1 h
  cases hz:aG l e.t.p with
  |none=>exact absurd rfl (jM hz e he)
  |some x=>rfl
theorem WM {l l':List En} (hu:Uq l) (h:∀q,(aG l q).isSome=true->(aG l' q).isSome=true):l.length<=l'.length:=by have:=uk (l:=l.map λe:En=>e.t.p) (l':=l'.map λe:En=>e.t.p) hu λp hp=>dZ.1 (h p (dZ.2 hp));rw[List.length_map,List.length_map] at this;exact this
theorem sld {NB m k i:Nat} {f f1 f2 f3 f4 f':Fm} {g':Mg} {d d2:List En} {tx:List UInt8} (h:Fc NB f) (hs:Same f f1)
  (RF:f2=({f1 with g:=g',seq:=f.seq+1,no:=fO f1.no ⟨uj f,fZ tx,k,i⟩}:Fm)) (hm:m=100000*f.seq+17*(NB+1)+1)
  (h1:YF NB m f2 f3 d) (hp:d.Perm f2.no) (h2:Sl2 NB (m+f2.no.length) f3 f4 d2) (iU:d2.Perm f3.go)
  (hu1:Uq f1.no) (hu2:Uq f2.no) (hu3:Uq f3.go) (hu4:Uq f4.se) (oC:NB<=1000) (hFr:Fr f.g g') (hC:g'.C=f.g.C) (hGh:g'.gh=f.g.gh)
  (hcp:(aG f.se 0).isSome=true\/(f.se++f.no).length+3<=8*(NB-3))
  (a1:f'.F=f.F) (a2:f'.g=f4.g) (a3:f'.se=f4.se) (a4:f'.no=[]) (a5:f'.go=[]) (a6:f'.seq=f.seq+1) (a7:f'.ep=f.ep+1) (a8:f'.tx=tx) (a9:f'.ov=f.ov):Sld NB f f' tx:=by
 have hn:∀q,aG d q=aG f2.no q:=yt hp (uT hp.symm hu2);have hno:∀q,aG f2.no q=if q=0 then some ⟨uj f,fZ tx,k,i⟩ else aG f1.no q:=λq=>by rw[RF];exact mQ hu1 q
 have alS:f2.se=f1.se:=by rw[RF]
 have awj:f2.go=f1.go:=by rw[RF]
 have hgo:∀q,(aG f2.go q).isSome=(aG f.go q).isSome:=λq=>by rw[Bool.eq_iff_iff,dZ,dZ,awj,hs.go]
 have Dx:∀q,(aG f2.se q).map sk=(aG f.se q).map sk:=λq=>by rw[alS];exact Bj hs.se q
 have awk:∀q,(aG f1.no q).map sk=(aG f.no q).map sk:=λq=>Bj hs.no q;have hd2:∀q,aG d2 q=aG f3.go q:=yt iU (uT iU.symm hu3);have aqv:f2.no.length=f1.no.length+1:=by
  have h0:aG f1.no 0=none:=by
   have:=je hs.no 0;rw[h.n0] at this
   cases hz:aG f1.no 0 with
   |none=>rfl
   |some x=>rw[hz] at this;cases this
  rw[RF];show(fO f1.no _).length=_;rw[nV λx hx=>jM h0 x hx];simp
 have aDQ:f4.se.length<=f3.se.length:=WM hu4 λq hq=>by
  rw[h2.se] at hq;split at hq
  ·cases hq
  ·exact hq
 have hlg:f3.go.length<=f3.se.length:=WM hu3 λq hq=>by
  rw[h1.go] at hq;split at hq
  ·cases hq
  ·rename_i hz;rw[hgo] at hq;obtain⟨x,hx,e⟩:=List.mem_map.1 (dZ.1 hq);have h5:=h.gk x hx;rw[e,<-je hs.se,<-alS] at h5;rw[h1.se]
   cases aG d q with
   |some y=>rfl
   |none=>exact h5
 have ahQ:=h1.len;rw[hp.length_eq,hn,hno,if_pos rfl,aqv,Nat.sub_self,alS,je hs.se] at ahQ;have hlE:=hs.awl;rw[List.length_append] at hlE;have nO:=h.cap;have aDS:=iU.length_eq;have agw:3<=Gc.count 0 f4.g.l/\Gc.count 0 f.g.l<=Gc.count 0 f4.g.l+1:=by have k1:=h1.fr;have k2:=h2.fr;rw[show f2.g=g' by rw[RF]] at k1;have k3:=hFr.1;have k4:=hFr.2;omega
 refine⟨⟨?_,?_,?_,a9.trans h.ov,?_,?_,?_,?_⟩,a1,?_,?_,?_,a4,a5,a6,a7,a8,λq=>?_⟩
 ·rw[a2,a3,a4,a6,List.append_nil];refine h2.fi.le ?_;split at ahQ<;>omega
 ·rw[a2];have:=agw;omega
 ·rw[a3,a4,List.append_nil];rcases hcp with e|e
  ·rw[if_pos ⟨rfl,e⟩] at ahQ;omega
  ·split at ahQ<;>omega
 ·rw[a6,a7];have:=h.sq;omega
 ·rw[a5];intro x hx;cases hx
 ·rw[a4];rfl
 ·rw[a5];rfl
 ·rw[a2,h2.C,h1.C,RF];exact hC
 ·rw[a2,h2.gh,h1.gh,RF];exact hGh
 ·rw[a2];have:=agw;omega
 ·rw[a3,h2.se,hd2,h1.go,hn,hno,h1.se,hn,hno];by_cases hq:q=0
  ·rw[if_pos hq,if_pos hq];rfl
  ·rw[if_neg hq,if_neg hq];have h6:=awk q;rw[<-h6]
   cases hz:aG f1.no q with
   |some x=>rfl
   |none=>
    show Option.map sk (if (aG f2.go q).isSome=true then none else aG f2.se q)=if (aG f.go q).isSome=true then none else(aG f.se q).map sk
    rw[hgo]
    split
    ·rfl
    ·exact Dx q
end eX
end
section
open Go.RowKit eX

def vw (f:Fm) (q:Nat):Option (Tg×List UInt8):=(lW f q).map sk
namespace eX
variable {NB B p:Nat} {R:Nat->Prop} {w:World} {f f':Fm} {pay tx:List UInt8}
theorem Eu (f:Fm) (q:Nat):vw f q=match (aG f.no q).map sk with
  |some x=>some x
  |none=>if (aG f.go q).isSome then none else(aG f.se q).map sk:=by
 unfold vw lW
 cases hz:aG f.no q with
 |some e=>rfl
 |none=>
  show Option.map sk (if (aG f.go q).isSome=true then none else aG f.se q)=_;simp only[Option.map_none]
  split<;>rfl
theorem Ba {q:Nat} {x:Tg×List UInt8} (h:vw f q=some x):∃e,lW f q=some e/\e.d=x.2/\e.t=x.1:=by
 unfold vw at h
 cases hz:lW f q with
 |none=>rw[hz] at h;cases h
 |some e=>rw[hz] at h;obtain rfl:sk e=x:=Option.some.inj h;exact⟨e,rfl,rfl,rfl⟩
theorem Wrd.vw (h:Wrd NB f f' p pay) (q:Nat):vw f' q=if q=p then some (⟨1,p,f.seq,f.ep⟩,pay) else vw f q:=by
 rw[Eu,Eu,h.no,h.go,Bj h.se];by_cases hq:q=p
 ·simp only[if_pos hq]
 ·simp only[if_neg hq]
theorem Wrd.len_ (h:Wrd NB f f' p pay):(f'.se++f'.no).length=(f.se++f.no).length+if (aG f.no p).isSome then 0 else 1:=by have h1:=congrArg List.length h.se;simp only[List.length_map] at h1;rw[List.length_append,List.length_append,h1,h.len];omega
theorem Wrd.adY (h:Wrd NB f f' p pay) (h0:(aG f.se 0).isSome=true):(aG f'.se 0).isSome=true:=by rw[je h.se];exact h0
theorem _root_.Go.Proofs.YtnieckfelfoopaaGreat.Sld.vw (h:Sld NB f f' tx) (q:Nat):vw f' q=if q=0 then some (uj f,fZ tx) else vw f q:=by
 have e1:(aG f'.no q).map sk=none:=by rw[h.no];rfl
 have e2:(aG f'.go q).isSome=false:=by rw[h.go];rfl
 rw[Eu,Eu,e1,e2,h.se];rfl
theorem _root_.Go.Proofs.YtnieckfelfoopaaGreat.Sld.adY (h:Sld NB f f' tx):(aG f'.se 0).isSome=true:=by
 have:=h.se 0;rw[if_pos rfl] at this
 cases hz:aG f'.se 0 with
 |none=>rw[hz] at this;cases this
 |some e=>rfl
theorem RD {l:List En} {m:Nat} (hu:Uq l) (h:∀q,(aG l q).isSome=true->q<m):l.length<=m:=by have:=uk (l:=l.map λe:En=>e.t.p) (l':=List.range m) hu λp hp=>List.mem_range.2 (h p (dZ.2 hp));rw[List.length_map,List.length_range] at this;exact this
end eX
end
section
open Go.RowKit Go.Maps Go.ChangeMaps

section
variable {NB B:Nat} {R:Nat->Prop} {w w1 w2:World} {f f':Fm}
theorem dB.swap (h:dB NB B R w f) (hb:Below w.heap.size w w1) (hk:Kq (λq=>q=f.F) w1 w2)
  (hF:aF w2 f.F 225 (Nb NB f')) (h1:f'.F=f.F) (h2:f'.SE=f.SE) (h5:f'.LA=f.LA) (h6:f'.g=f.g) (h7:f'.se=f.se)
  (hN:(f'.NO=f.NO/\f'.no=f.no)\/(w.heap.size<=f'.NO/\dC w1 f'.NO f'.no))
  (hG:(f'.GO=f.GO/\f'.go=f.go)\/(w.heap.size<=f'.GO/\dC w1 f'.GO f'.go))
  (hT:(f'.tv=f.tv/\f'.tx=f.tx)\/Own aH 5 w1 w.heap.size f'.tv f'.tx)
  (dh:f'.NO≠f'.GO) (hnt:∀q,f'.tv.ownBlock=some q->q≠f'.NO/\q≠f'.GO):uI NB B R w w2 f':=by
 have hB:=h.base;obtain⟨S,a1,a2,a3⟩:=h;have iO:=hb.size;have mr:=hk.size;have Wi:Kq (λq=>q=f.F) w w2:=(Kq.of hb).trans hk;have nd:=a1.nd;simp only[List.nodup_cons,List.mem_cons,List.not_mem_nil,or_false,not_or] at nd;obtain⟨⟨n1,n2,n3,n4⟩,⟨n5,n6,n7⟩,⟨n8,n9⟩,n10,_⟩:=nd;have aU:∀q,Hb f q->q<w.heap.size:=λq hq=>a1.hi hq;have lF:=aU f.F (.inl rfl);have lS:=aU f.SE (.inr (.inl rfl));have lN:=aU f.NO (.inr (.inr (.inl rfl)));have lG:=aU f.GO (.inr (.inr (.inr (.inl rfl))));have lL:=aU f.LA (.inr (.inr (.inr (.inr (.inl rfl)))));have hold:∀q,q<w.heap.size->q≠f.F->w2.heap[q]?=w.heap[q]?:=λq hq e=>Wi.block q hq e;have hNF:f'.NO≠f.F/\f'.NO≠f.SE/\f'.NO≠f.LA:=by
  rcases hN with⟨e,_⟩|⟨e,_⟩
  ·rw[e];exact⟨Ne.symm n2,Ne.symm n5,n9⟩
  ·omega
 have hGF:f'.GO≠f.F/\f'.GO≠f.SE/\f'.GO≠f.LA:=by
  rcases hG with⟨e,_⟩|⟨e,_⟩
  ·rw[e];exact⟨Ne.symm n3,Ne.symm n6,n10⟩
  ·omega
 have hTF:∀q,f'.tv.ownBlock=some q->(f.tv.ownBlock=some q\/w.heap.size<=q)/\q≠f.F/\q≠f.SE/\q≠f.LA:=λq hq=>by
  rcases hT with⟨e,_⟩|e
  ·rw[e] at hq;have:=a1.nt q hq;simp only[List.mem_cons,List.not_mem_nil,or_false,not_or] at this;exact⟨.inl hq,this.1,this.2.1,this.2.2.2.2⟩
  ·have:=(e.aP q hq).1;exact⟨.inr this,ae⟩
 have hH:∀q,Hb f' q->Hb f q\/w.heap.size<=q:=λq hq=>by
  rcases hq with rfl|rfl|rfl|rfl|rfl|hq
  ·exact .inl (.inl h1)
  ·exact .inl (.inr (.inl h2))
  ·rcases hN with⟨e,_⟩|⟨e,_⟩
   ·exact .inl (.inr (.inr (.inl e)))
   ·exact .inr e
  ·rcases hG with⟨e,_⟩|⟨e,_⟩
   ·exact .inl (.inr (.inr (.inr (.inl e))))
   ·exact .inr e
  ·exact .inl (.inr (.inr (.inr (.inr (.inl h5)))))
  ·rcases(hTF q hq).1 with e|e
   ·exact .inl (.inr (.inr (.inr (.inr (.inr e)))))
   ·exact .inr e
 have hc:YH NB B S w2 f':=by
  refine⟨by rw[h1];exact hF,?_,?_,?_,?_,?_,?_,?_,?_,?_,?_⟩
  ·rw[h2,h7];exact a1.hS.same (hold _ lS (Ne.symm n1))
  ·rcases hN with⟨e,e'⟩|⟨_,e⟩
   ·rw[e,e'];exact a1.hN.same (hold _ lN (Ne.symm n2))
   ·exact e.same (hk.block _ e.lt hNF.1)
  ·rcases hG with⟨e,e'⟩|⟨_,e⟩
   ·rw[e,e'];exact a1.hG.same (hold _ lG (Ne.symm n3))
   ·exact e.same (hk.block _ e.lt hGF.1)
  ·rw[h5];exact a1.hL.kq Wi λq hq=>by obtain rfl:=fD _ _ _ _ hq;exact Ne.symm n4
  ·rcases hT with⟨e,e'⟩|e
   ·rw[e,e'];exact a1.hT.kq Wi λq hq e2=>a1.nt q hq (by rw[e2];simp)
   ·exact .of (e.kq hk λq hq=>(hTF q hq).2.1)
  ·rw[h6];exact a1.hg.kq Wi λq hq e=>a1.ns _ (.inl rfl) (e▸hq)
  ·rw[h1,h2,h5];simp only[List.nodup_cons,List.mem_cons,List.not_mem_nil,or_false,not_or];exact⟨⟨n1,Ne.symm hNF.1,Ne.symm hGF.1,n4⟩,⟨Ne.symm hNF.2.1,Ne.symm hGF.2.1,n7⟩,⟨dh,hNF.2.2⟩,hGF.2.2,au,List.nodup_nil⟩
  ·intro q hq;rw[h1,h2,h5];simp only[List.mem_cons,List.not_mem_nil,or_false,not_or];exact⟨(hTF q hq).2.1,(hTF q hq).2.2.1,(hnt q hq).1,(hnt q hq).2,(hTF q hq).2.2.2⟩
  ·intro q hq hs;rw[h6] at hs;rcases hH q hq with e|e
   ·exact a1.ns q e hs
   ·have:=a1.aqy hs;omega
  ·intro q hq;rcases hH q hq with e|e
   ·exact a1.lo q e
   ·omega
 refine⟨⟨S,hc,λq hq=>?_,λq hq=>?_⟩,Wi.mono λq e=>e▸a2 _ (.inl (.inl rfl))⟩
 ·rcases hq with hq|hq
  ·rcases hH q hq with e|e
   ·exact .inl (a2 q (.inl e))
   ·exact .inr ⟨e,hc.hi hq⟩
  ·rw[h6] at hq;exact .inl (a2 q (.inr hq))
 ·rcases hq with e|e
  ·have:=a3 q e;omega
  ·omega
end
end
section
open Go.RowKit eX

theorem Gg (u:World):(Instr.makeSlice 223 (.int .i64 32) (.int .i64 32)).run prog u= .ok (.slice (some ⟨u.heap.size,0,none⟩) 32 32) (u.alloc (.cells ((List.replicate 32 false).map pI).toArray 4)):=by
 kernel_rfl
theorem adk (u:World):(Instr.makeSlice 116 (.int .i64 32) (.int .i64 32)).run prog u= .ok (.slice (some ⟨u.heap.size,0,none⟩) 32 32) (u.alloc (.cells ((List.replicate 32 0).map ZT).toArray 3)):=by
 kernel_rfl
def wR (k:Nat):List Bool:=List.replicate k true++List.replicate (32-k) false
theorem adf {k:Nat} (h:k<32):(wR k).set k true=wR (k+1):=by unfold wR;rw[List.set_append_right _ _ au,List.length_replicate,Nat.sub_self,show 32-k=(32-(k+1))+1 by omega,List.replicate_succ,List.set_cons_zero,List.replicate_succ',List.append_assoc];rfl
theorem A7 {k:Nat} (h:k<=32):(wR k).length=32:=by unfold wR;simp;omega
def once (k:Nat) (j:Nat):Pb:=if j<k then fresh 1 else fresh 0
theorem adg (k:Nat):upd (once k) k (fresh 1)=once (k+1):=by
 funext j
 unfold upd once;by_cases h:j=k
 ·rw[if_pos h,if_pos ae]
 ·rw[if_neg h];by_cases h2:j<k
  ·rw[if_pos h2,if_pos ae]
  ·rw[if_neg h2,if_neg ae]
theorem ZP:once 0=λ_=>fresh 0:=by
 funext j
 exact if_neg (Nat.not_lt_zero _)
theorem Gh (k:Nat):(once k k).bad=false/\(once k k).aQ=0:=by unfold once;rw[if_neg (Nat.lt_irrefl _)];exact⟨rfl,rfl⟩
theorem RS (k j:Nat):(once k j).bad=false:=by
 unfold once
 split<;>rfl
theorem ZV (k j:Nat):(once k j).aQ<=1:=by
 unfold once
 split
 ·exact Nat.le_refl 1
 ·exact Nat.zero_le 1
theorem WN:bU (once 32) (wR 32) (List.replicate 32 0) 32=List.replicate 32 ⟨0,0,1,0⟩:=by
 apply List.ext_getElem
 ·simp[bU]
 ·intro i h1 h2;have hi:i<32:=by rw[List.length_replicate] at h2;exact h2
  simp only[bU,List.getElem_map,List.getElem_range,List.getElem_replicate];unfold wY once wR;rw[if_pos hi];have e:(List.replicate 32 true++List.replicate (32-32) false).getD i false=true:=by rw[List.getD_eq_getElem?_getD,List.getElem?_append_left (by rw[List.length_replicate];exact hi),List.getElem?_replicate,if_pos hi];rfl
  rw[e];rfl
def ZO (M ML C BL cap:Nat) (ps:Nat->Nat) (P:List UInt8->Prop):Mg:=⟨M,ML,C,BL,cap,ps,once 32,List.replicate 32 ⟨0,0,1,0⟩,-1,2,0,false,P⟩
theorem ak2 {M ML C BL cap:Nat} {ps:Nat->Nat} {P:List UInt8->Prop}:(⟨M,ML,C,BL,cap,ps,once 32,bU (once 32) (wR 32) (List.replicate 32 0) 32,-1,2,0,decide (4<(Gc.greatest (bU (once 32) (wR 32) (List.replicate 32 0) 32):Int)-Gc.least (bU (once 32) (wR 32) (List.replicate 32 0) 32)),P⟩:Mg)=ZO M ML C BL cap ps P:=by rw[WN];rfl
theorem ahR (M ML C BL cap:Nat) (ps:Nat->Nat) (P:List UInt8->Prop):o8.Inv 32 (ZO M ML C BL cap ps P) [] 100000:=by
 have Ti:∀k,k<32->Gc.at_ (List.replicate 32 (⟨0,0,1,0⟩:Bk)) k=⟨0,0,1,0⟩:=λk hk=>by rw[Gc.at_,List.getD_eq_getElem?_getD,List.getElem?_replicate,if_pos hk];rfl
 refine⟨by simp[ZO],λk hk=>?_,λi j hi hj=>?_,.inl rfl,rfl,au,au⟩
 ·unfold ZO;dsimp only;rw[Ti k hk];unfold once;rw[if_pos hk];exact⟨aB,rfl,aB,aB,λe=>(by cases e),λ_=>⟨rfl,rfl⟩,λe=>(by cases e),λe=>(by cases e),rfl,aB,rfl,rfl⟩
 ·unfold ZO;dsimp only;rw[Ti i hi,Ti j hj];omega
def fm0 (F SE NO GO LA:Nat) (g:Mg):Fm:=⟨F,SE,NO,GO,LA,g,[],[],[],1,1,.slice none 0 0,[],false⟩
theorem ak3 (F SE NO GO LA M ML C BL cap:Nat) (ps:Nat->Nat) (P:List UInt8->Prop):Fc 32 (fm0 F SE NO GO LA (ZO M ML C BL cap ps P)):=by
 refine⟨⟨⟨aB,aB⟩,ahR M ML C BL cap ps P,λe h=>(by cases h),λe h=>(by cases h),rfl,rfl,λk i L hk hi h=>?_,λk hk i hi=>?_⟩,?_,(show(0:Nat)+2<=8*(32-3) by decide),rfl,⟨Nat.le_refl _,Nat.le_refl _⟩,λx h=>(by cases h),rfl,rfl⟩
 ·have h1:(once 32 k).sS i=some L:=h;rw[once,if_pos hk] at h1;cases h1
 ·show(once 32 k).sS i=none↔(once 32 k).nx<=i;rw[once,if_pos hk];exact⟨λ_=>Nat.zero_le _,λ_=>rfl⟩
 ·show 3<=Gc.count 0 (List.replicate 32 (⟨0,0,1,0⟩:Bk));decide
structure Fmd (f:Fm) (tx:List UInt8):Prop where
 fc:Fc 32 f
 no:f.no=[]
 go:f.go=[]
 sq:f.seq=2
 ep:f.ep=2
 tv:f.tx=tx
 se:∀q,(aG f.se q).map sk=if q=0 then some ((⟨2,0,1,1⟩:Tg),fZ tx) else none
 ct:31<=Gc.count 0 f.g.l
def gsF (f:Fm) (P:List UInt8->Prop):Fm:={f with g:={f.g with gh:=P}}
theorem eX.Fc.ghost {NB:Nat} {f:Fm} {P:List UInt8->Prop} (h:Fc NB f) (hP:∀L,f.g.gh L->P L):Fc NB (gsF f P):=⟨h.fi.ghost hP,h.fr,h.cap,h.ov,h.sq,h.gk,h.n0,h.g0⟩
theorem Fmd.ghost {f:Fm} {tx:List UInt8} {P:List UInt8->Prop} (h:Fmd f tx) (hP:∀L,f.g.gh L->P L):Fmd (gsF f P) tx:=⟨h.fc.ghost hP,h.no,h.go,h.sq,h.ep,h.tv,h.se,h.ct⟩
theorem fmd {F SE NO GO LA M ML C BL cap:Nat} {ps:Nat->Nat} {P:List UInt8->Prop} {f':Fm} {tx:List UInt8} (h:Sld 32 (fm0 F SE NO GO LA (ZO M ML C BL cap ps P)) f' tx):Fmd f' tx/\f'.F=F/\f'.g.C=C/\f'.g.gh=P:=by
 refine⟨⟨h.fc,h.no,h.go,h.sq,h.ep,h.tx,λq=>?_,?_⟩,h.F,h.C,h.gh⟩
 ·rw[h.se];rfl
 ·have h1:=h.ct;have h2:Gc.count 0 (List.replicate 32 (⟨0,0,1,0⟩:Bk))=32:=aB;have h1:Gc.count 0 (List.replicate 32 (⟨0,0,1,0⟩:Bk))<=Gc.count 0 f'.g.l+1:=h1;omega
section
variable {NB B:Nat} {S T:Nat->Prop} {w:World} {f:Fm}
theorem agU (hF:aF w f.F 225 (Nb NB f)) (hS:dC w f.SE f.se) (hN:dC w f.NO f.no) (hG:dC w f.GO f.go) (hL:Own pI 4 w 0 (.slice (some ⟨f.LA,0,none⟩) NB NB) (List.replicate NB false)) (hv:f.tv= .slice none 0 0) (hx:f.tx=[]) (hg:gu NB B S w f.g)
  (nd:[f.F,f.SE,f.NO,f.GO,f.LA].Nodup) (ns:∀q,q∈[f.F,f.SE,f.NO,f.GO,f.LA]->¬Sm f.g S q/\B<=q/\T q) (hT:∀q,Sm f.g S q->T q) (hb:∀q,T q->B<=q/\q<w.heap.size):dB NB B T w f:=by
 have hq:∀q,Hb f q->q∈[f.F,f.SE,f.NO,f.GO,f.LA]:=λq hq=>by
  rcases hq with e|e|e|e|e|e
  ·rw[e];simp
  ·rw[e];simp
  ·rw[e];simp
  ·rw[e];simp
  ·rw[e];simp
  ·rw[hv] at e;cases e
 refine⟨S,⟨hF,hS,hN,hG,hL,?_,hg,nd,λq e=>?_,λq h=>(ns q (hq q h)).1,λq h=>(ns q (hq q h)).2.1⟩,λq h=>?_,hb⟩
 ·rw[hv,hx];exact .of (B:=0) (Own.nil _ _)
 ·rw[hv] at e;cases e
 ·rcases h with h|h
  ·exact(ns q (hq q h)).2.2
  ·exact hT q h
end
end
end Go.Proofs.YtnieckfelfoopaaGreat

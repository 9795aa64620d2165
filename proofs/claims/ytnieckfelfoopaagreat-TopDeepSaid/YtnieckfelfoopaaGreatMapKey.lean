import Derived.Test.YtnieckfelfoopaaGreatMem
import Derived.Maps.Keyed
import Derived.WideKeyEntry
import Derived.Maps.OwnRows
import Derived.Maps.Range
namespace Go.Proofs.YtnieckfelfoopaaGreat
open Lib (hid)
set_option maxRecDepth 100000
set_option maxHeartbeats 16000000
section
open Go.RowKit Go.Maps Go.ChangeMaps

def MapAt (P:Program) (k:TypeId) (w:World) (b:Nat) (l:List (Value×Value)):Prop:=
 ∃es clock,w.heap[b]?=some (.map es clock)/\es.toList.map (λe=>(e.key,e.val))=l/\(∀x∈es.toList,x.born<clock)/\(es.toList.map (·.born)).Nodup/\(l.map (·.1)).Nodup/\∀p∈l,∃kl,keyOf P k p.1=some kl
def qI (l:List (Value×Value)) (key val:Value) (l':List (Value×Value)):Prop:=
 (∃l1 v0 l2,l=l1++(key,v0)::l2/\l'=l1++(key,val)::l2)\/((∀p∈l,p.1≠key)/\l'=l++[(key,val)])
section
variable {P:Program} {k:TypeId} {w w':World} {b:Nat} {l l':List (Value×Value)} {key val:Value}
theorem MapAt.lt (h:MapAt P k w b l):b<w.heap.size:=by obtain⟨_,_,hb,_⟩:=h;exact(Array.getElem?_eq_some_iff.1 hb).1
theorem MapAt.same (h:MapAt P k w b l) (hb:w'.heap[b]?=w.heap[b]?):MapAt P k w' b l:=by obtain⟨es,clock,h1,h2⟩:=h;exact⟨es,clock,hb.trans h1,h2⟩
theorem MapAt.on (h:MapAt P k w b l) (hb:Below w.heap.size w w'):MapAt P k w' b l:=h.same (hb.block b h.lt)
theorem MapAt.alloc (h:MapAt P k w b l) (o:Obj):MapAt P k (w.alloc o) b l:=h.same (Below.heap_alloc w o b h.lt)
theorem MapAt.made (w:World):MapAt P k (w.alloc (.map #[] 0)) w.heap.size []:=⟨#[],0,(MapKept.heap_alloc w _).1,rfl,au,au,au,au⟩
theorem MapAt.nodup (h:MapAt P k w b l):(l.map (·.1)).Nodup:=by obtain⟨_,_,_,_,_,_,h,_⟩:=h;exact h
theorem MapAt.one (h:MapAt P k w b l) {u v:Value} (h1:(key,u)∈l) (h2:(key,v)∈l):u=v:=by
 have hn:=h.nodup;clear h
 induction l with
 |nil=>cases h1
 |cons p t ih=>
  rw[List.map_cons,List.nodup_cons] at hn;rcases List.mem_cons.1 h1 with e1|e1<;>rcases List.mem_cons.1 h2 with e2|e2
  ·rw[<-e1] at e2;injection e2 with _ e3;exact e3.symm
  ·exact absurd (List.mem_map.2 ⟨_,e2,by rw[<-e1]⟩) hn.1
  ·exact absurd (List.mem_map.2 ⟨_,e1,by rw[<-e2]⟩) hn.1
  ·exact ih e1 e2 hn.2
theorem qI.mem (h:qI l key val l') (hn:(l.map (·.1)).Nodup) (WG v:Value):(WG,v)∈l'↔(WG=key/\v=val)\/(WG≠key/\(WG,v)∈l):=by
 rcases h with⟨l1,v0,l2,rfl,rfl⟩|⟨h1,rfl⟩
 ·rw[List.map_append,List.map_cons,List.nodup_append,List.nodup_cons] at hn;obtain⟨_,⟨n2,_⟩,n4⟩:=hn;have m1:∀v,(key,v)∉l1:=λv hv=>n4 key (List.mem_map.2 ⟨_,hv,rfl⟩) key au rfl;have m2:∀v,(key,v)∉l2:=λv hv=>n2 (List.mem_map.2 ⟨_,hv,rfl⟩);simp only[List.mem_append,List.mem_cons,Prod.mk.injEq];by_cases he:WG=key
  ·subst he;simp[m1,m2]
  ·simp[he]
 ·simp only[List.mem_append,List.mem_singleton,Prod.mk.injEq];by_cases he:WG=key
  ·subst he;have:(WG,v)∉l:=λhv=>h1 _ hv rfl;simp[this]
  ·simp[he]
theorem qI.len (h:qI l key val l'):((∃v,(key,v)∈l)/\l'.length=l.length)\/((∀p∈l,p.1≠key)/\l'.length=l.length+1):=by
 rcases h with⟨l1,v0,l2,rfl,rfl⟩|⟨h1,rfl⟩
 ·exact .inl ⟨⟨v0,au⟩,au⟩
 ·exact .inr ⟨h1,au⟩
theorem qI.keys (h:qI l key val l') (hn:(l.map (·.1)).Nodup):(l'.map (·.1)).Nodup:=by
 rcases h with⟨l1,v0,l2,rfl,rfl⟩|⟨h1,rfl⟩
 ·simpa using hn
 ·rw[List.map_append,List.nodup_append];refine⟨hn,au,?_⟩;rintro a ha c hc rfl;obtain⟨p,hp,rfl⟩:=List.mem_map.1 ha;simp at hc;exact h1 p hp hc

theorem Bh {es:Array MapEntry} {j:Nat} {e0:MapEntry} (h2:es.toList[j]?=some e0) (f:MapEntry->MapEntry):∃s1 s2,es.toList=s1++e0::s2/\(es.modify j f).toList=s1++f e0::s2:=by
 obtain⟨hj,he⟩:=List.getElem?_eq_some_iff.1 h2;refine⟨es.toList.take j,es.toList.drop (j+1),?_,?_⟩
 ·rw[<-he,<-List.drop_eq_getElem_cons hj,List.take_append_drop]
 ·rw[Array.toList_modify,modify_eq_set _ _ _ _ h2,List.set_eq_take_append_cons_drop,if_pos hj]
theorem iM (h:MapAt P k w b l) (o:Obj):w.grownBy (setBlock w b o) (some b):=by obtain⟨_,_,hb,_⟩:=h;exact⟨rfl,rfl,rfl,by simp[setBlock],λi _ hi=>heap_setBlock_other hb _ (λe1=>hi (by rw[e1]))⟩
variable {t e:TypeId} {kl:Lit}
theorem MapAt.look (h:MapAt P k w b l) (K:Keyed P k) (ht:P.underlying t=some (.map k e)) {z:Value} (hz:(zeroValue e).run P w= .ok z w) (iD:keyOf P k key=some kl) (ok:Bool):
  ∃v f,(Instr.lookup t (.map (some b)) key ok).run P w= .ok (if ok then .tuple #[v,.bool f] else v) w/\((f=true/\(key,v)∈l)\/(f=false/\v=z/\∀p∈l,p.1≠key)):=by
 obtain⟨es,clock,hb,rfl,jR,oC,UT,kZ⟩:=h;have hk:∀x∈es.toList,∃l,keyOf P k x.key=some l:=λx hx=>kZ (x.key,x.val) (List.mem_map.2 ⟨x,hx,rfl⟩);rcases K.find w iD es.toList hk with⟨h1,h2⟩|⟨j,e0,h1,h2,h3⟩
 ·refine⟨z,false,?_,.inr ⟨rfl,rfl,?_⟩⟩
  ·simp[Instr.lookup,run_underlying ht,MapKept.run_getObj_map hb,K.check w _ iD,h1,hz,Result.andThen]
  ·intro p hp;obtain⟨x,hx,rfl⟩:=List.mem_map.1 hp;exact h2 x hx
 ·refine⟨e0.val,true,?_,.inl ⟨rfl,?_⟩⟩
  ·simp[Instr.lookup,run_underlying ht,MapKept.run_getObj_map hb,K.check w _ iD,h1,Result.andThen]
  ·exact List.mem_map.2 ⟨e0,List.mem_of_getElem? h2,by rw[h3]⟩
theorem MapAt.put (h:MapAt P k w b l) (K:Keyed P k) (ht:P.underlying t=some (.map k e)) (iD:keyOf P k key=some kl) (val:Value):
  ∃l' o,(Instr.mapUpdate t (.map (some b)) key val).run P w= .ok () (setBlock w b o)/\qI l key val l'/\MapAt P k (setBlock w b o) b l'/\w.grownBy (setBlock w b o) (some b):=by
 have hG:=λo=>iM h o;obtain⟨es,clock,hb,rfl,jR,oC,UT,kZ⟩:=h;have hk:∀x∈es.toList,∃l,keyOf P k x.key=some l:=λx hx=>kZ (x.key,x.val) (List.mem_map.2 ⟨x,hx,rfl⟩);rcases K.find w iD es.toList hk with⟨h1,h2⟩|⟨j,e0,h1,h2,h3⟩
 ·have hP:qI (es.toList.map λe=>(e.key,e.val)) key val ((es.toList.map λe=>(e.key,e.val))++[(key,val)]):= .inr ⟨λp hp=>by obtain⟨x,hx,rfl⟩:=List.mem_map.1 hp;exact h2 x hx,rfl⟩;refine⟨_,.map (es.push ⟨key,val,clock⟩) (clock+1),?_,hP,⟨_,_,heap_setBlock_same hb _,au,?_,?_,hP.keys UT,?_⟩,hG _⟩
  ·simp[Instr.mapUpdate,run_underlying ht,MapKept.run_getObj_map hb,K.check w false iD,h1,MapKept.run_setObj_map _ hb,Result.andThen,setBlock]
  ·intro x hx;simp only[Array.toList_push,List.mem_append,List.mem_singleton] at hx;rcases hx with hx|rfl
   ·have:=jR x hx;omega
   ·show clock<clock+1;omega
  ·rw[Array.toList_push,List.map_append,List.nodup_append];refine⟨oC,au,?_⟩;rintro a ha c hc rfl;obtain⟨x,hx,rfl⟩:=List.mem_map.1 ha;simp at hc;have:=jR x hx;omega
  ·intro p hp;rcases List.mem_append.1 hp with hp|hp
   ·exact kZ p hp
   ·simp at hp;subst hp;exact⟨kl,iD⟩
 ·have hj:es[j]?=some e0:=by simpa using h2
  obtain⟨s1,s2,q1,q2⟩:=Bh h2 (λe'=>{e' with key:=key,val:=val});have hP:qI (es.toList.map λe=>(e.key,e.val)) key val ((s1.map λe=>(e.key,e.val))++(key,val)::(s2.map λe=>(e.key,e.val))):= .inl ⟨_,e0.val,_,by rw[q1,List.map_append,List.map_cons,h3],rfl⟩;refine⟨_,.map (es.modify j (λe'=>{e' with key:=key,val:=val})) clock,?_,hP,⟨_,_,heap_setBlock_same hb _,by rw[q2];simp,?_,?_,hP.keys UT,?_⟩,hG _⟩
  ·simp[Instr.mapUpdate,run_underlying ht,MapKept.run_getObj_map hb,K.check w false iD,h1,hj,h3,K.stays w iD,MapKept.run_setObj_map _ hb,Result.andThen,setBlock]
  ·intro x hx;rw[q2] at hx;rw[q1] at jR;simp only[List.mem_append,List.mem_cons] at hx;rcases hx with hx|rfl|hx
   ·exact jR x (by simp[hx])
   ·exact jR e0 au
   ·exact jR x (by simp[hx])
  ·rw[q2];rw[q1] at oC
   simpa using oC
  ·intro p hp;rw[q1] at kZ;simp only[List.mem_append,List.mem_cons] at hp;rcases hp with hp|rfl|hp
   ·exact kZ p (by simp only[List.map_append,List.map_cons,List.mem_append,List.mem_cons];exact .inl hp)
   ·exact⟨kl,iD⟩
   ·exact kZ p (by simp only[List.map_append,List.map_cons,List.mem_append,List.mem_cons];exact .inr (.inr hp))
theorem MapAt.entry (h:MapAt P k w b l) (K:Keyed P k) (ht:P.underlying t=some (.map k e)) {z:Value} (hz:(zeroValue e).run P w= .ok z w) (iD:keyOf P k key=some kl):
  ∃v st o,(Instr.mapEntry t (.map (some b)) key).run P w= .ok (.tuple #[v,st]) (setBlock w b o)/\((key,v)∈l\/(v=z/\∀p∈l,p.1≠key))/\(setBlock w b o).heap[b]?=some o/\(∃es clock,o= .map es clock)/\w.grownBy (setBlock w b o) (some b)/\
   ∀w2 val,w2.heap[b]?=some o->∃l' o',(Instr.entryStore t (.map (some b)) st val).run P w2= .ok () (setBlock w2 b o')/\qI l key val l'/\MapAt P k (setBlock w2 b o') b l'/\w2.grownBy (setBlock w2 b o') (some b):=by
 have hG:=λo=>iM h o;obtain⟨es,clock,hb,rfl,jR,oC,UT,kZ⟩:=h;have hk:∀x∈es.toList,∃l,keyOf P k x.key=some l:=λx hx=>kZ (x.key,x.val) (List.mem_map.2 ⟨x,hx,rfl⟩);have pR:∀(w2:World) (es:Array MapEntry) (clock:Nat) (o':Obj),w2.heap[b]?=some (.map es clock)->w2.grownBy (setBlock w2 b o') (some b):=λw2 _ _ o' h2=>
  ⟨rfl,rfl,rfl,by simp[setBlock],λi _ hi=>heap_setBlock_other h2 _ (λe1=>hi (by rw[e1]))⟩
 rcases K.find w iD es.toList hk with⟨h1,h2⟩|⟨j,e0,h1,h2,h3⟩
 ·have hP:∀val,qI (es.toList.map λe=>(e.key,e.val)) key val ((es.toList.map λe=>(e.key,e.val))++[(key,val)]):=λval=> .inr ⟨λp hp=>by obtain⟨x,hx,rfl⟩:=List.mem_map.1 hp;exact h2 x hx,rfl⟩;refine⟨z,goInt clock,.map (es.push ⟨key,z,clock⟩) (clock+1),?_,.inr ⟨rfl,λp hp=>by obtain⟨x,hx,rfl⟩:=List.mem_map.1 hp;exact h2 x hx⟩,heap_setBlock_same hb _,⟨_,_,rfl⟩,hG _,?_⟩
  ·simp[Instr.mapEntry,run_underlying ht,MapKept.run_getObj_map hb,K.check w false iD,h1,hz,MapKept.run_setObj_map _ hb,Result.andThen,setBlock]
  ·intro w2 val jP;have ac9:(es.push ⟨key,z,clock⟩).findIdx? (λe=>((e.born:Nat):Int)==((clock:Nat):Int))=some es.size:=by rw[WideElems.findIdx_arr];have:=WideElems.findIdx_born (l:=(es.push ⟨key,z,clock⟩).toList) (j:=es.size) (e0:=⟨key,z,clock⟩) (by simp only[Array.toList_push,List.map_append,List.map_cons,List.map_nil];refine List.nodup_append.2 ⟨oC,au,λa ha c hc e1=>?_⟩;simp only[List.mem_singleton] at hc;obtain⟨x,hx,rfl⟩:=List.mem_map.1 ha;have:=jR x hx;omega) au;exact this
   have aly:(es.push ⟨key,z,clock⟩).modify es.size (λe=>{e with val:=val})=es.push ⟨key,val,clock⟩:=by apply Array.ext';rw[Array.toList_modify,Array.toList_push,Array.toList_push,<-Array.length_toList,WideElems.modify_last]
   refine⟨_,.map (es.push ⟨key,val,clock⟩) (clock+1),?_,hP val,⟨_,_,heap_setBlock_same jP _,au,?_,?_,(hP val).keys UT,?_⟩,pR w2 _ _ _ jP⟩
   ·simp[Instr.entryStore,MapKept.run_getObj_map jP,asInt,asIntOf,goInt,ac9,aly,MapKept.run_setObj_map _ jP,Result.andThen,setBlock]
   ·intro x hx;simp only[Array.toList_push,List.mem_append,List.mem_singleton] at hx;rcases hx with hx|rfl
    ·have:=jR x hx;omega
    ·show clock<clock+1;omega
   ·rw[Array.toList_push,List.map_append,List.nodup_append];refine⟨oC,au,?_⟩;rintro a ha c hc rfl;obtain⟨x,hx,rfl⟩:=List.mem_map.1 ha;simp at hc;have:=jR x hx;omega
   ·intro p hp;rcases List.mem_append.1 hp with hp|hp
    ·exact kZ p hp
    ·simp at hp;subst hp;exact⟨kl,iD⟩
 ·have hj:es[j]?=some e0:=by simpa using h2
  have gQ:es.modify j (λe=>{e with key:=key})=es:=by
   apply Array.ext';rw[Array.toList_modify,modify_eq_set _ _ _ _ h2];have:({e0 with key:=key}:MapEntry)=e0:=by rw[<-h3]
   rw[this];exact WideElems.set_self _ _ _ h2
  refine⟨e0.val,goInt e0.born,.map es clock,?_,.inl (List.mem_map.2 ⟨e0,List.mem_of_getElem? h2,by rw[h3]⟩),heap_setBlock_same hb _,⟨_,_,rfl⟩,hG _,?_⟩
  ·simp[Instr.mapEntry,run_underlying ht,MapKept.run_getObj_map hb,K.check w false iD,h1,hj,h3,K.stays w iD,gQ,MapKept.run_setObj_map _ hb,Result.andThen,setBlock]
  ·intro w2 val jP;obtain⟨s1,s2,q1,q2⟩:=Bh h2 (λe'=>{e' with val:=val});have hP:qI (es.toList.map λe=>(e.key,e.val)) key val ((s1.map λe=>(e.key,e.val))++(key,val)::(s2.map λe=>(e.key,e.val))):= .inl ⟨_,e0.val,_,by rw[q1,List.map_append,List.map_cons,h3],rfl⟩;have ac9:es.findIdx? (λe=>((e.born:Nat):Int)==((e0.born:Nat):Int))=some j:=by rw[WideElems.findIdx_arr];exact WideElems.findIdx_born oC h2
   refine⟨_,.map (es.modify j (λe'=>{e' with val:=val})) clock,?_,hP,⟨_,_,heap_setBlock_same jP _,by rw[q2];simp[h3],?_,?_,hP.keys UT,?_⟩,pR w2 _ _ _ jP⟩
   ·simp[Instr.entryStore,MapKept.run_getObj_map jP,asInt,asIntOf,goInt,ac9,MapKept.run_setObj_map _ jP,Result.andThen,setBlock]
   ·intro x hx;rw[q2] at hx;rw[q1] at jR;simp only[List.mem_append,List.mem_cons] at hx;rcases hx with hx|rfl|hx
    ·exact jR x (by simp[hx])
    ·exact jR e0 au
    ·exact jR x (by simp[hx])
   ·rw[q2];rw[q1] at oC
    simpa using oC
   ·intro p hp;rw[q1] at kZ;simp only[List.mem_append,List.mem_cons] at hp;rcases hp with hp|rfl|hp
    ·exact kZ p (by simp only[List.map_append,List.map_cons,List.mem_append,List.mem_cons];exact .inl hp)
    ·exact⟨kl,iD⟩
    ·exact kZ p (by simp only[List.map_append,List.map_cons,List.mem_append,List.mem_cons];exact .inr (.inr hp))
theorem MapAt.size (h:MapAt P k w b l):∃es clock,w.heap[b]?=some (.map es clock)/\es.size=l.length:=by obtain⟨es,clock,hb,rfl,_⟩:=h;exact⟨es,clock,hb,au⟩
end
section
variable {P:Program} {ρ:Operand->Value} {o:Oper} {w:World} {v:Value}
theorem jd {w':World} (t:TypeId) (m x:Operand) (ho:o.op= .mapEntry t m x) (h:(Instr.mapEntry t (ρ m) (ρ x)).run P w= .ok v w'):(execOp ρ o).run P w= .ok (.value v) w':=by unfold execOp;simp only[ho,Sem.run_bind,h,Result.andThen_ok,Sem.run_pure]
theorem gY {w':World} (t:TypeId) (m s x:Operand) (ho:o.op= .entryStore t m s x) (h:(Instr.entryStore t (ρ m) (ρ s) (ρ x)).run P w= .ok () w'):(execOp ρ o).run P w= .ok .skip w':=by unfold execOp;simp only[ho,Sem.run_bind,h,Result.andThen_ok,Sem.run_pure]
theorem gX {w':World} {ops:Array Oper} {a:Act} {K:Act->World->Prop} {Q:Exit->Act->World->Prop} {E:Prop} (mD:o.guard=none) (bP:(execOp a.eval o).run P w= .ok (.value v) w') (h:K (a.put o.dst v) w'):
  if Region.wanted o (yielded ops a.tmps)=true then Oper.wp P o a w K Q else E:=by
 have hw:Region.wanted o (yielded ops a.tmps)=true:=by simp[Region.wanted,mD]
 rw[if_pos hw];unfold Oper.wp;rw[bP];exact h
theorem step_skip {w':World} {ops:Array Oper} {a:Act} {K:Act->World->Prop} {Q:Exit->Act->World->Prop} {E:Prop} (mD:o.guard=none) (bP:(execOp a.eval o).run P w= .ok .skip w') (h:K (a.put o.dst undef) w'):
  if Region.wanted o (yielded ops a.tmps)=true then Oper.wp P o a w K Q else E:=by
 have hw:Region.wanted o (yielded ops a.tmps)=true:=by simp[Region.wanted,mD]
 rw[if_pos hw];unfold Oper.wp;rw[bP];exact h
theorem kY (t:TypeId) (m x:Operand) (ok:Bool) (ho:o.op= .lookup t m x ok) (h:(Instr.lookup t (ρ m) (ρ x) ok).run P w= .ok v w):(execOp ρ o).run P w= .ok (.value v) w:=by unfold execOp;simp only[ho,Sem.run_bind,h,Result.andThen_ok,Sem.run_pure]
end
end
section
open Go.RowKit Go.Maps Go.ChangeMaps Go.MapKept

def eP (P:Program) (k:TypeId) (w:World) (b r:Nat) (l d:List (Value×Value)):Prop:=
 ∃es clock since seen c0,w.heap[b]?=some (.map es clock)/\es.toList.map (λe=>(e.key,e.val))=l/\w.heap[r]?=some (.mapIter (some b) since seen c0)/\(∀x∈es.toList,x.born<since)/\(es.toList.map (·.born)).Nodup/\(l.map (·.1)).Nodup/\
  since<=c0/\since<=clock/\(∀x∈es.toList,seen.contains x.born=true↔(x.key,x.val)∈d)/\(∀p∈d,p∈l)/\d.Nodup/\∀p∈l,∃kl,keyOf P k p.1=some kl
def adP (l:List (Value×Value)) (key:Value) (l':List (Value×Value)):Prop:=
 (∃l1 v0 l2,l=l1++(key,v0)::l2/\l'=l1++l2)\/((∀p∈l,p.1≠key)/\l'=l)
theorem sQ {l:List (Value×Value)} (h:(l.map (·.1)).Nodup):l.Nodup:=by
 induction l with
 |nil=>simp
 |cons p t ih=>
  rw[List.map_cons,List.nodup_cons] at h;rw[List.nodup_cons];exact⟨λhp=>h.1 (List.mem_map.2 ⟨p,hp,rfl⟩),ih h.2⟩
section
variable {P:Program} {k:TypeId} {w w':World} {b r:Nat} {l d:List (Value×Value)}
theorem eP.ajm (h:eP P k w b r l d):MapAt P k w b l:=by obtain⟨es,clock,since,seen,c0,h1,h2,h3,h4,h5,h6,h7,h8,h9,L8,h11,h12⟩:=h;exact⟨es,clock,h1,h2,λx hx=>Nat.lt_of_lt_of_le (h4 x hx) h8,h5,h6,h12⟩
theorem eP.ltr (h:eP P k w b r l d):r<w.heap.size:=by obtain⟨_,_,_,_,_,_,_,h3,_⟩:=h;exact(Array.getElem?_eq_some_iff.1 h3).1
theorem eP.ltb (h:eP P k w b r l d):b<w.heap.size:=h.ajm.lt
theorem eP.ne (h:eP P k w b r l d):r≠b:=by obtain⟨es,clock,since,seen,c0,h1,h2,h3,_⟩:=h;intro e;rw[e,h1] at h3;cases h3
theorem eP.same (h:eP P k w b r l d) (h1:w'.heap[b]?=w.heap[b]?) (h2:w'.heap[r]?=w.heap[r]?):eP P k w' b r l d:=by obtain⟨es,clock,since,seen,c0,a1,a2,a3,rest⟩:=h;exact⟨es,clock,since,seen,c0,h1.trans a1,a2,h2.trans a3,rest⟩
theorem eP.on (h:eP P k w b r l d) (hb:Below w.heap.size w w'):eP P k w' b r l d:=h.same (hb.block b h.ltb) (hb.block r h.ltr)
theorem qg (h1:w'.heap[b]?=w.heap[b]?) (h2:w'.heap[r]?=w.heap[r]?):w'.rangeLeft b r=w.rangeLeft b r:=by simp only[World.rangeLeft,h1,h2]
theorem eP.yg (h:eP P k w b r l d) (hb:Below w.heap.size w w'):w'.rangeLeft b r=w.rangeLeft b r:=qg (hb.block b h.ltb) (hb.block r h.ltr)
theorem MapAt.range {t e:TypeId} (h:MapAt P k w b l) (ht:P.underlying t=some (.map k e)):
  ∃w',(Instr.range t (.map (some b))).run P w= .ok (.pointer (some ⟨w.heap.size,0,none⟩)) w'/\eP P k w' b w.heap.size l []/\Below w.heap.size w w'/\w'.heap.size=w.heap.size+1:=by
 have aU:=h.lt;obtain⟨es,clock,h1,h2,h3,h4,h5,h6⟩:=h;refine⟨_,run_range_map w t k e b es clock ht h1,⟨es,clock,clock,#[],clock,(Below.heap_alloc w _ b aU).trans h1,h2,heap_alloc_new w _,h3,h4,h5,Nat.le_refl _,Nat.le_refl _,λx _=>au,au,au,h6⟩,(Below.refl _ _).alloc (Nat.le_refl _) _,au⟩
theorem eP.next (h:eP P k w b r l d) (ty:TypeId):
  (d.Perm l/\(Instr.next (.pointer (some ⟨r,0,none⟩)) false ty).run P w= .ok (.tuple #[.bool false]) w)\/
  ∃p w',p∈l/\p∉d/\(Instr.next (.pointer (some ⟨r,0,none⟩)) false ty).run P w= .ok (.tuple #[.bool true,p.1,p.2]) w'/\eP P k w' b r l (d++[p])/\w.grownBy w' (some r)/\w'.heap.size=w.heap.size/\
   w'.rangeLeft b r<w.rangeLeft b r/\(Instr.entry (.pointer (some ⟨r,0,none⟩))).run P w'= .ok (.tuple #[p.1,p.2]) w':=by
 have dh:=h.ne;obtain⟨es,clock,since,seen,c0,h1,h2,h3,h4,h5,h6,h7,h8,h9,L8,h11,h12⟩:=h;rcases run_next_at (P:=P) w ty r b since c0 seen es clock h3 h1 h4 h7 with⟨h0,bP⟩|⟨e,he,w1,pG,bP⟩
 ·refine .inl ⟨(List.perm_ext_iff_of_nodup h11 (sQ h6)).2 λp=>⟨L8 p,λhp=>?_⟩,bP⟩;rw[<-h2] at hp;obtain⟨x,hx,rfl⟩:=List.mem_map.1 hp;exact(h9 x hx).1 (all_seen es seen h0 x hx)
 ·obtain⟨hem,hes⟩:=mem_left he;have LJ:w1.heap[r]?=some (.mapIter (some b) since seen c0):=by rcases pG with rfl|rfl<;>exact h3
  have bK:w1.heap[b]?=some (.map es clock):=by rcases pG with rfl|rfl<;>exact h1
  have Aj:=heap_set (o':= .mapIter (some b) since (seen.push e.born) clock) LJ;have hb':(setBlock w1 r (.mapIter (some b) since (seen.push e.born) clock)).heap[b]?=some (.map es clock):=(Aj.2 b (λe1=>dh e1.symm)).trans bK;have oh:(e.key,e.val)∈l:=by rw[<-h2];exact List.mem_map.2 ⟨e,hem,rfl⟩
  have hpd:(e.key,e.val)∉d:=λhd=>by have:=(h9 e hem).2 hd;rw[hes] at this;cases this
  refine .inr ⟨(e.key,e.val),_,oh,hpd,bP,⟨es,clock,since,seen.push e.born,clock,hb',h2,Aj.1,h4,h5,h6,h8,h8,λx hx=>?_,λp hp=>?_,?_,h12⟩,?_,?_,?_,run_entry_at _ r b since seen es clock e Aj.1 hb' hem h5⟩
  ·rw[contains_push,Bool.or_eq_true,h9 x hx,List.mem_append,List.mem_singleton,beq_iff_eq];constructor
   ·rintro(h|h)
    ·exact .inl h
    ·obtain rfl:=born_inj h5 hx hem h;exact .inr rfl
   ·rintro(h|h)
    ·exact .inl h
    ·have Oi:(x.key,x.val)∈l:=by rw[<-h2];exact List.mem_map.2 ⟨x,hx,rfl⟩
     refine .inr ?_;have hk:x.key=e.key:=congrArg Prod.fst h;rw[<-h2,List.map_map] at h6;have:∀{m:List MapEntry},(m.map ((·.1)∘λe=>(e.key,e.val))).Nodup->x∈m->e∈m->x=e:=by
      intro m
      induction m with
      |nil=>intro _ hx;cases hx
      |cons y t ih=>
       intro hn hx he;rw[List.map_cons,List.nodup_cons] at hn;rcases List.mem_cons.1 hx with rfl|xN<;>rcases List.mem_cons.1 he with rfl|he'
       ·rfl
       ·exact absurd (List.mem_map.2 ⟨e,he',hk.symm⟩) hn.1
       ·exact absurd (List.mem_map.2 ⟨x,xN,hk⟩) hn.1
       ·exact ih hn.2 xN he'
     rw[this h6 hx hem]
  ·rcases List.mem_append.1 hp with hp|hp
   ·exact L8 p hp
   ·rw[List.mem_singleton] at hp;subst hp;exact oh
  ·rw[List.nodup_append];refine⟨h11,au,?_⟩;rintro a ha c hc rfl;rw[List.mem_singleton] at hc;subst hc;exact hpd ha
  ·rcases pG with rfl|rfl<;>exact⟨rfl,rfl,rfl,by simp[setBlock],λi _ hi=>Aj.2 i (λe1=>hi (by rw[e1]))⟩
  ·rcases pG with rfl|rfl<;>simp[setBlock]
  ·have iO:(setBlock w1 r (.mapIter (some b) since (seen.push e.born) clock)).heap[r]?=some (.mapIter (some b) since (seen.push e.born) clock):=Aj.1;unfold World.rangeLeft;rw[h1,h3,hb',iO];exact left_shrinks es seen e he
theorem MapAt.del {t e:TypeId} {key:Value} {kl:Lit} (h:MapAt P k w b l) (K:Keyed P k) (ht:P.underlying t=some (.map k e)) (iD:keyOf P k key=some kl) (ty:TypeId):
  ∃l' o,(Builtin.delete_ #[t,k] ty #[.map (some b),key]).run P w= .ok (.tuple #[]) (setBlock w b o)/\adP l key l'/\MapAt P k (setBlock w b o) b l'/\w.grownBy (setBlock w b o) (some b):=by
 have hG:=λo=>iM h o;obtain⟨es,clock,hb,rfl,jR,oC,UT,kZ⟩:=h;have hk:∀x∈es.toList,∃l,keyOf P k x.key=some l:=λx hx=>kZ (x.key,x.val) (List.mem_map.2 ⟨x,hx,rfl⟩);rcases K.find w iD es.toList hk with⟨h1,h2⟩|⟨j,e0,h1,h2,h3⟩
 ·refine⟨_,.map es clock,?_,.inr ⟨λp hp=>by obtain⟨x,hx,rfl⟩:=List.mem_map.1 hp;exact h2 x hx,rfl⟩,⟨es,clock,heap_setBlock_same hb _,rfl,jR,oC,UT,kZ⟩,hG _⟩;simp[Builtin.delete_,run_underlying ht,MapKept.run_getObj_map hb,K.check w _ iD,h1,MapKept.run_setObj_map _ hb,Result.andThen,setBlock]
 ·have uX:j<es.toList.length:=(List.getElem?_eq_some_iff.1 h2).1;have hjs:j<es.size:=by simpa using uX
  have alz:(es.eraseIdxIfInBounds j).toList=es.toList.eraseIdx j:=by unfold Array.eraseIdxIfInBounds;rw[dif_pos hjs];simp
  have QB:es.toList[j]=e0:=(List.getElem?_eq_some_iff.1 h2).2;have q1:es.toList=es.toList.take j++e0::es.toList.drop (j+1):=by rw[<-QB,<-List.drop_eq_getElem_cons uX,List.take_append_drop]
  have q2:es.toList.eraseIdx j=es.toList.take j++es.toList.drop (j+1):=List.eraseIdx_eq_take_drop_succ ..;have hs:(es.toList.eraseIdx j).Sublist es.toList:=List.eraseIdx_sublist _ _;refine⟨(es.toList.eraseIdx j).map λe=>(e.key,e.val),.map (es.eraseIdxIfInBounds j) clock,?_,.inl ⟨(es.toList.take j).map λe=>(e.key,e.val),e0.val,(es.toList.drop (j+1)).map λe=>(e.key,e.val),?_,?_⟩,⟨_,clock,heap_setBlock_same hb _,by rw[alz],λx hx=>?_,?_,?_,λp hp=>?_⟩,hG _⟩
  ·simp[Builtin.delete_,run_underlying ht,MapKept.run_getObj_map hb,K.check w _ iD,h1,MapKept.run_setObj_map _ hb,Result.andThen,setBlock]
  ·conv=>lhs;rw[q1]
   rw[List.map_append,List.map_cons,h3]
  ·rw[q2,List.map_append]
  ·rw[alz] at hx;exact jR x (hs.subset hx)
  ·rw[alz];exact List.Sublist.nodup (hs.map _) oC
  ·rw[List.map_map];rw[List.map_map] at UT;exact List.Sublist.nodup (hs.map _) UT
  ·obtain⟨x,hx,rfl⟩:=List.mem_map.1 hp;exact hk x (hs.subset hx)
end
section
variable {P:Program} (w:World) {ops:Array Oper} {rest:List Oper} {o:Oper} {a:Act} {Q:Exit->Act->World->Prop}
theorem FH (hg:o.guard=none) (m:Operand) (t:TypeId) (uP:o.op=Op.range t m) (k e:TypeId) (ht:P.underlying t=some (.map k e)) (b:Nat) (l:List (Value×Value)) (hm:a.eval m= .map (some b)) (h:MapAt P k w b l)
  (hK:∀w',Hid (eP P k w' b w.heap.size l [])->Hid (Below w.heap.size w w')->w'.heap.size=w.heap.size+1->wpList P ops Q rest (a.put o.dst (.pointer (some ⟨w.heap.size,0,none⟩))) w'):
  wpList P ops Q (o::rest) a w:=by
 refine wpList_plain hg λK' hK'=>?_;obtain⟨w',bP,r1,r2,r3⟩:=h.range ht;unfold Oper.wp;simp[execOp,uP,hm,bP,Result.andThen];exact hK' _ _ (hK w' (ag r1) (ag r2) r3)
theorem Iy (hg:o.guard=none) (it:Operand) (uP:o.op=Op.next it false) (k:TypeId) (b r:Nat) (l d:List (Value×Value)) (mJ:a.eval it= .pointer (some ⟨r,0,none⟩)) (h:eP P k w b r l d)
  (Iz:Hid (d.Perm l)->wpList P ops Q rest (a.put o.dst (.tuple #[.bool false])) w)
  (IA:∀p w',Hid (p∈l/\p∉d)->Hid (eP P k w' b r l (d++[p]))->Hid (w.grownBy w' (some r))->w'.heap.size=w.heap.size->Hid (w'.rangeLeft b r<w.rangeLeft b r)->(Instr.entry (.pointer (some ⟨r,0,none⟩))).run P w'= .ok (.tuple #[p.1,p.2]) w'->wpList P ops Q rest (a.put o.dst (.tuple #[.bool true,p.1,p.2])) w'):
  wpList P ops Q (o::rest) a w:=by
 refine wpList_plain hg λK' hK'=>?_;unfold Oper.wp;rcases h.next o.type with⟨h0,bP⟩|⟨p,w',h1,h2,bP,h3,h4,h5,h6,h7⟩
 ·simp[execOp,uP,mJ,bP,Result.andThen];exact hK' _ _ (Iz (ag h0))
 ·simp[execOp,uP,mJ,bP,Result.andThen];exact hK' _ _ (IA p w' (ag ⟨h1,h2⟩) (ag h3) (ag h4) h5 (ag h6) h7)
end
end
section
open Go.RowKit Go.Maps Go.ChangeMaps

structure Enc (α:Type) where
 kf:α->Nat
 kv:Nat->Value
 vf:α->Value
 inj:∀p q,kv p=kv q->p=q
namespace Enc
variable {α:Type} (E:Enc α)
def pr (x:α):Value×Value:=(E.kv (E.kf x),E.vf x)
def get (l:List α) (p:Nat):Option α:=l.find? λe=>E.kf e==p
def put (l:List α) (e:α):List α:=if (E.get l (E.kf e)).isSome then l.map (λx=>if E.kf x=E.kf e then e else x) else l++[e]
def del (l:List α) (p:Nat):List α:=l.filter λx=>E.kf x !=p
def Uq (l:List α):Prop:=(l.map E.kf).Nodup
variable {E} {l:List α} {p:Nat} {e:α}
theorem IB:((l.map E.pr).map (·.1)).Nodup↔E.Uq l:=by
 unfold Uq;have h1:(l.map E.pr).map (·.1)=(l.map E.kf).map E.kv:=by rw[List.map_map,List.map_map];rfl
 rw[h1];unfold List.Nodup;rw[List.pairwise_map];exact⟨λh=>h.imp λh e=>h (by rw[e]),λh=>h.imp λh e=>h (E.inj _ _ e)⟩
theorem get_mem (h:E.get l p=some e):e∈l/\E.kf e=p:=by unfold get at h;exact⟨List.mem_of_find?_eq_some h,by have:=List.find?_some h;simpa using this⟩
theorem get_none (h:E.get l p=none):∀e∈l,E.kf e≠p:=λe he=>by
 unfold get at h;have:=(List.find?_eq_none.1 h) e he
 simpa using this
theorem Gf (h:∀e∈l,E.kf e≠p):E.get l p=none:=by
 unfold get;rw[List.find?_eq_none];intro x hx
 simpa using h x hx
theorem DL (h:E.Uq l) {x y:α} (hx:x∈l) (hy:y∈l) (e:E.kf x=E.kf y):x=y:=by
 induction l with
 |nil=>cases hx
 |cons z t ih=>
  unfold Uq at h ih;rw[List.map_cons,List.nodup_cons] at h;rcases List.mem_cons.1 hx with rfl|xN<;>rcases List.mem_cons.1 hy with rfl|hy'
  ·rfl
  ·exact absurd (List.mem_map.2 ⟨y,hy',e.symm⟩) h.1
  ·exact absurd (List.mem_map.2 ⟨x,xN,e⟩) h.1
  ·exact ih h.2 xN hy'
theorem Dv (h:E.Uq l) (he:e∈l):E.get l (E.kf e)=some e:=by
 cases hg:E.get l (E.kf e) with
 |none=>exact absurd rfl (get_none hg e he)
 |some x=>
  obtain⟨h1,h2⟩:=get_mem hg;rw[DL h h1 he h2]
theorem uQ {l1 l2:List α} {e0:α} (h:E.Uq (l1++e0::l2)):(∀x∈l1,E.kf x≠E.kf e0)/\∀x∈l2,E.kf x≠E.kf e0:=by unfold Uq at h;rw[List.map_append,List.map_cons,List.nodup_append,List.nodup_cons] at h;obtain⟨_,⟨n2,_⟩,n4⟩:=h;exact⟨λx hx e=>n4 (E.kf x) (List.mem_map.2 ⟨x,hx,rfl⟩) (E.kf e0) au e,λx hx e=>n2 (List.mem_map.2 ⟨x,hx,e⟩)⟩
theorem alA {l1 l2:List α} {e0:α} (h:E.Uq (l1++e0::l2)) (hp:E.kf e0=E.kf e):E.put (l1++e0::l2) e=l1++e::l2:=by
 obtain⟨h1,h2⟩:=uQ h;have hg:E.get (l1++e0::l2) (E.kf e)=some e0:=by rw[<-hp];exact Dv h au
 unfold put;rw[hg,if_pos Option.isSome_some,List.map_append,List.map_cons,if_pos hp];have e1:∀m:List α,(∀x∈m,E.kf x≠E.kf e0)->m.map (λx=>if E.kf x=E.kf e then e else x)=m:=λm hm=>by
  conv=>rhs;rw[<-List.map_id m]
  exact List.map_congr_left λx hx=>if_neg (by rw[<-hp];exact hm x hx)
 rw[e1 l1 h1,e1 l2 h2]
theorem Yz (h:∀x∈l,E.kf x≠E.kf e):E.put l e=l++[e]:=by unfold put;rw[Gf h];rfl
theorem alB {l1 l2:List α} {e0:α} (h:E.Uq (l1++e0::l2)):E.del (l1++e0::l2) (E.kf e0)=l1++l2:=by obtain⟨h1,h2⟩:=uQ h;unfold del;rw[List.filter_append,List.filter_cons_of_neg au];rw[List.filter_eq_self.2 (λx hx=>by simpa using h1 x hx),List.filter_eq_self.2 (λx hx=>by simpa using h2 x hx)]
theorem ahx (h:∀x∈l,E.kf x≠p):E.del l p=l:=List.filter_eq_self.2 λx hx=>by simpa using h x hx
theorem alC {L:List (Value×Value)} (h:E.Uq l) (hP:qI (l.map E.pr) (E.kv (E.kf e)) (E.vf e) L):L=(E.put l e).map E.pr:=by
 rcases hP with⟨l1,v0,l2,e1,rfl⟩|⟨h1,rfl⟩
 ·obtain⟨m1,m2,rfl,rfl,e3⟩:=List.map_eq_append_iff.1 e1;obtain⟨e0,m3,rfl,e4,rfl⟩:=List.map_eq_cons_iff.1 e3;have hp:E.kf e0=E.kf e:=E.inj _ _ (congrArg Prod.fst e4);rw[alA h hp,List.map_append,List.map_cons];rfl
 ·rw[Yz λx hx e1=>h1 (E.pr x) (List.mem_map.2 ⟨x,hx,rfl⟩) (by rw[<-e1];rfl),List.map_append];rfl
theorem alD {L:List (Value×Value)} (h:E.Uq l) (hP:adP (l.map E.pr) (E.kv p) L):L=(E.del l p).map E.pr:=by
 rcases hP with⟨l1,v0,l2,e1,rfl⟩|⟨h1,rfl⟩
 ·obtain⟨m1,m2,rfl,rfl,e3⟩:=List.map_eq_append_iff.1 e1;obtain⟨e0,m3,rfl,e4,rfl⟩:=List.map_eq_cons_iff.1 e3;obtain rfl:E.kf e0=p:=E.inj _ _ (congrArg Prod.fst e4);rw[alB h,List.map_append]
 ·rw[ahx λx hx e1=>h1 (E.pr x) (List.mem_map.2 ⟨x,hx,rfl⟩) (by rw[<-e1];rfl)]
theorem Gl {x:α} (h:x∈E.put l e):x=e\/x∈l:=by
 unfold put at h;split at h
 ·obtain⟨y,hy,e1⟩:=List.mem_map.1 h;split at e1
  ·exact .inl e1.symm
  ·exact .inr (e1▸hy)
 ·rcases List.mem_append.1 h with h|h
  ·exact .inr h
  ·exact .inl (by simpa using h)
theorem Gm {x:α}:x∈E.del l p↔x∈l/\E.kf x≠p:=by unfold del;rw[List.mem_filter];simp
theorem get_put (q:Nat):E.get (E.put l e) q=if q=E.kf e then some e else E.get l q:=by
 unfold put;by_cases hs:(E.get l (E.kf e)).isSome=true
 ·rw[if_pos hs];have h1:∀m:List α,E.get (m.map λx=>if E.kf x=E.kf e then e else x) q=if q=E.kf e then(if (E.get m q).isSome then some e else none) else E.get m q:=λm=>by
   induction m with
   |nil=>simp[get]
   |cons z t ih=>
    unfold get at ih⊢;rw[List.map_cons,List.find?_cons,List.find?_cons,ih];by_cases hz:E.kf z=E.kf e
    ·rw[if_pos hz];by_cases hq:q=E.kf e
     ·have b1:(E.kf e==q)=true:=by rw[hq];exact beq_self_eq_true _
      have b2:(E.kf z==q)=true:=by rw[hz];exact b1
      rw[b1,b2];simp[hq]
     ·have b1:(E.kf e==q)=false:=beq_eq_false_iff_ne.2 (Ne.symm hq);have b2:(E.kf z==q)=false:=by rw[hz];exact b1
      rw[b1,b2]
    ·rw[if_neg hz];by_cases hq:q=E.kf e
     ·have b2:(E.kf z==q)=false:=beq_eq_false_iff_ne.2 (by rw[hq];exact hz);rw[b2]
     ·simp[hq]
  rw[h1];by_cases hq:q=E.kf e
  ·subst hq;rw[if_pos rfl,if_pos rfl,if_pos hs]
  ·rw[if_neg hq,if_neg hq]
 ·rw[if_neg hs];unfold get at hs⊢;rw[List.find?_append];by_cases hq:q=E.kf e
  ·subst hq;have hn:List.find? (λe_1=>E.kf e_1==E.kf e) l=none:=by
    cases hz:List.find? (λe_1=>E.kf e_1==E.kf e) l with
    |none=>rfl
    |some x=>rw[hz] at hs;exact absurd rfl hs
   rw[hn,if_pos rfl];simp
  ·rw[if_neg hq]
   cases hz:List.find? (λe=>E.kf e==q) l with
   |none=>simp[Ne.symm hq]
   |some x=>rfl
theorem YA (q:Nat):E.get (E.del l p) q=if q=p then none else E.get l q:=by
 unfold del get;rw[List.find?_filter];by_cases hq:q=p
 ·subst hq;rw[if_pos rfl,List.find?_eq_none];intro x _;simp
 ·rw[if_neg hq]
  congr 1
  funext x
  by_cases hx:E.kf x=q
  ·simp[hx,hq]
  ·simp[hx]
end Enc
def bW {α:Type} (E:Enc α) (P:Program) (k:TypeId) (w:World) (b:Nat) (l:List α):Prop:=MapAt P k w b (l.map E.pr)
section
variable {α:Type} {E:Enc α} {P:Program} {k t et:TypeId} {w w':World} {b p:Nat} {l:List α} {e:α}
theorem bW.uq (h:bW E P k w b l):E.Uq l:=Enc.IB.1 (MapAt.nodup h)
theorem bW.lt (h:bW E P k w b l):b<w.heap.size:=MapAt.lt h
theorem bW.on (h:bW E P k w b l) (hb:Below w.heap.size w w'):bW E P k w' b l:=MapAt.on h hb
theorem bW.same (h:bW E P k w b l) (hb:w'.heap[b]?=w.heap[b]?):bW E P k w' b l:=MapAt.same h hb
theorem bW.made (w:World):bW E P k (w.alloc (.map #[] 0)) w.heap.size []:=MapAt.made w
theorem bW.look (h:bW E P k w b l) (K:Keyed P k) (ht:P.underlying t=some (.map k et)) {z:Value} (hz:(zeroValue et).run P w= .ok z w) {kl:Lit} (iD:keyOf P k (E.kv p)=some kl) (ok:Bool):
  (Instr.lookup t (.map (some b)) (E.kv p) ok).run P w= .ok (if ok then .tuple #[(E.get l p).elim z E.vf,.bool (E.get l p).isSome] else(E.get l p).elim z E.vf) w:=by
 obtain⟨v,f,bP,hv⟩:=MapAt.look h K ht hz iD ok;have e:v=(E.get l p).elim z E.vf/\f=(E.get l p).isSome:=by
  rcases hv with⟨rfl,hv⟩|⟨rfl,rfl,hv⟩
  ·obtain⟨x,hx,e1⟩:=List.mem_map.1 hv;obtain rfl:E.kf x=p:=E.inj _ _ (congrArg Prod.fst e1);rw[Enc.Dv h.uq hx];exact⟨(congrArg Prod.snd e1).symm,rfl⟩
  ·rw[Enc.Gf λx hx e1=>hv (E.pr x) (List.mem_map.2 ⟨x,hx,rfl⟩) (by rw[<-e1];rfl)];exact⟨rfl,rfl⟩
 obtain⟨rfl,rfl⟩:=e;exact bP
theorem bW.put (h:bW E P k w b l) (K:Keyed P k) (ht:P.underlying t=some (.map k et)) (e:α) {kl:Lit} (iD:keyOf P k (E.kv (E.kf e))=some kl):
  ∃o,(Instr.mapUpdate t (.map (some b)) (E.kv (E.kf e)) (E.vf e)).run P w= .ok () (setBlock w b o)/\bW E P k (setBlock w b o) b (E.put l e)/\w.grownBy (setBlock w b o) (some b):=by
 obtain⟨l',o,bP,hP,hm,hg⟩:=MapAt.put h K ht iD (E.vf e);refine⟨o,bP,?_,hg⟩;rw[Enc.alC h.uq hP] at hm;exact hm
theorem bW.del (h:bW E P k w b l) (K:Keyed P k) (ht:P.underlying t=some (.map k et)) {kl:Lit} (iD:keyOf P k (E.kv p)=some kl) (ty:TypeId):
  ∃o,(Builtin.delete_ #[t,k] ty #[.map (some b),E.kv p]).run P w= .ok (.tuple #[]) (setBlock w b o)/\bW E P k (setBlock w b o) b (E.del l p)/\w.grownBy (setBlock w b o) (some b):=by
 obtain⟨l',o,bP,hP,hm,hg⟩:=MapAt.del h K ht iD ty;refine⟨o,bP,?_,hg⟩;rw[Enc.alD h.uq hP] at hm;exact hm
theorem bW.size (h:bW E P k w b l):∃es clock,w.heap[b]?=some (.map es clock)/\es.size=l.length:=by obtain⟨es,clock,h1,h2⟩:=MapAt.size h;exact⟨es,clock,h1,by rw[h2,List.length_map]⟩
end
end
end Go.Proofs.YtnieckfelfoopaaGreat

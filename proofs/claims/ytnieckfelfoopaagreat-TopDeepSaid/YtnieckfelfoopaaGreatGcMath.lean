import Derived.Test.YtnieckfelfoopaaGreatMany
namespace Go.Proofs.YtnieckfelfoopaaGreat
open Lib (hid)
set_option maxRecDepth 100000
set_option maxHeartbeats 16000000
open Go.RowKit

structure Bk where
 st:Nat
 live:Nat
 aQ:Nat
 nx:Nat
def DV (x:Bk):Array Value:=#[.int .i64 (x.st:Int),.int .i64 (x.live:Int),.int .i64 (x.aQ:Int),.int .i64 (x.nx:Int)]
def TK (x:Bk):Value:= .agg #[.int .i64 (x.st:Int),.int .i64 (x.live:Int),.int .i64 (x.aQ:Int),.int .i64 (x.nx:Int)]
theorem amw (x:Bk):TK x= .agg #[.int .i64 (x.st:Int),.int .i64 (x.live:Int),.int .i64 (x.aQ:Int),.int .i64 (x.nx:Int)]:=rfl
attribute [go_sem] amw
def PN (x:Bk):List Value:=[.int .i64 (x.st:Int),.int .i64 (x.live:Int),.int .i64 (x.aQ:Int),.int .i64 (x.nx:Int)]
theorem amm (x:Bk):(PN x).length=4:=rfl
theorem aml:∀(x:Bk),∀u∈PN x,u.oneCell'=true:=λx u hu=>by simp only[PN,List.mem_cons,List.not_mem_nil,or_false] at hu;rcases hu with rfl|rfl|rfl|rfl<;>rfl
namespace Gc
def z:Bk:=⟨0,0,0,0⟩
def at_ (l:List Bk) (k:Nat):Bk:=l.getD k z
structure Ok (pages:Nat) (x:Bk):Prop where
 st:x.st<=4
 live:x.live<=pages
 nx:x.nx<=pages
 aQ:x.aQ<=1099511627776
 empty:x.st=0\/x.st=3\/x.st=4->x.live=0
def good (x:Bk):Bool:=(x.st:Int) !=4
def oN (a b:Bk):Bool:=decide (a.aQ<b.aQ)
def more (a b:Bk):Bool:=decide (b.aQ<a.aQ)
theorem lJ {x:Bk}:good x=true↔x.st≠4:=by unfold good;rw[bne_iff_ne];omega
def best (p:Bk->Bool) (lt:Bk->Bk->Bool) (l:List Bk):Nat->Option Nat
 |0=>none
 |n+1=>match best p lt l n with
  |none=>if p (at_ l n) then some n else none
  |some a=>if p (at_ l n)&&lt (at_ l n) (at_ l a) then some n else some a
def oI:Option Nat->Int
 |none=> -1
 |some n=>n
theorem gZ {p:Bk->Bool} {lt:Bk->Bk->Bool} {l:List Bk}:∀{n a:Nat},best p lt l n=some a->a<n/\p (at_ l a)=true:=by
 intro n
 induction n with
 |zero=>intro a h;cases h
 |succ n ih=>
  intro a h;unfold best at h
  cases hb:best p lt l n with
  |none=>
   rw[hb] at h;simp only at h;split at h
   ·cases h;exact⟨ae,akA⟩
   ·cases h
  |some b=>
   rw[hb] at h;simp only at h;split at h
   ·rename_i hc;cases h;rw[Bool.and_eq_true] at hc;exact⟨ae,hc.1⟩
   ·cases h;obtain⟨h1,h2⟩:=ih hb;exact⟨ae,h2⟩
theorem Nq {p:Bk->Bool} {lt:Bk->Bk->Bool} {l:List Bk}:∀{n:Nat},best p lt l n=none->∀i,i<n->p (at_ l i)=false:=by
 intro n
 induction n with
 |zero=>intro _ i hi;omega
 |succ n ih=>
  intro h i hi;unfold best at h
  cases hb:best p lt l n with
  |none=>
   rw[hb] at h;simp only at h;split at h
   ·cases h
   ·rename_i hc;by_cases e:i=n
    ·subst e;simpa using hc
    ·exact ih hb i ae
  |some b=>
   rw[hb] at h;simp only at h;split at h<;>cases h
def Jc (l:List Bk):Option Nat->Nat
 |none=>0
 |some k=>(at_ l k).aQ
def least (l:List Bk):Nat:=Jc l (best good oN l l.length)
def greatest (l:List Bk):Nat:=Jc l (best good more l l.length)
end Gc
end Go.Proofs.YtnieckfelfoopaaGreat

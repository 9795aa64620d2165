import Derived.Test.YtnieckfelfoopaaGreatRows
import Derived.Test.YtnieckfelfoopaaGreatMem
import Derived.ProofKit
import Derived.OpenShut
import Derived.ShutString
import Derived.ChangeOld
import Derived.SizedLaws
import Derived.Lib.SmallJoins
open Go.Proofs.Tryz (prog)
namespace Go.Proofs.YtnieckfelfoopaaGreat
open Lib (hid)
set_option maxRecDepth 100000
set_option maxHeartbeats 16000000
open Go.ChangeShapes Go.WideShapes Go.ChangeAt Go.RowKit
open Go.ChangeMaps (open_string shut_string)

theorem own:ownKnob prog.godebug=none:=az
theorem laidOut:laidOutB prog=true:=az
theorem UR:prog.bytesOf 5=1:=az

theorem aiK {a:Int} (h:(Lit.int .u8 a).wf=true):∃x:UInt8,a=(x.toNat:Int):=by have hb:=bounds_u8 h;refine⟨UInt8.ofNat a.toNat,?_⟩;rw[UInt8.toNat_ofNat'];omega
theorem Lu (zs:List Int) (h:∀n∈zs,(Lit.int .u8 n).wf=true):∃xs:List UInt8,zs=xs.map λx=>(x.toNat:Int):=by
 induction zs with
 |nil=>exact⟨[],rfl⟩
 |cons z zs ih=>
  obtain⟨x,hx⟩:=aiK (h z au);obtain⟨xs,hxs⟩:=ih (λn hn=>h n (by simp[hn]));exact⟨x::xs,by simp[hx,hxs]⟩


theorem open_bytes {H:Type} {enc:TypeId×Value->H} {W:World} {b0:Nat} {hd:Bool} {a:Option Addr} {n c:Nat} {d:DataW H} {p:List MemPlace}
    (h:DataW.Trod enc prog W b0 (λ_=>true) hd 23 (.slice a n c) d p) (ja:∀elems spare,d= .slice elems spare->(elems.length+spare.length)*prog.bytesOf 5<=reachBytes):
    ∃xs:List UInt8,Bytes W W.heap.size a n xs/\n<=c/\c<=140737488351232:=by
  obtain⟨fuel,hf⟩:=h;rcases open_ints Tryz.underlying23 Tryz.underlying5 az hf with⟨jq,_⟩|⟨x,l,c',zs,jq,_,hl,hm,hz,hx,LQ,hwz⟩
  · simp[Value.cells] at jq
    obtain⟨rfl,rfl,rfl⟩:=jq;exact⟨[],⟨rfl,ae,λh=>absurd rfl h⟩,ae,ae⟩
  · simp[Value.cells] at jq
    obtain⟨rfl,rfl,rfl⟩:=jq;obtain⟨xs,rfl⟩:=Lu zs hwz;simp only[Prod.mk.injEq] at hx;have h1:=ja _ _ hx.1;rw[UR] at h1;simp only[List.length_map,if_true] at hz;simp only[lits,List.length_map,List.length_take,List.length_drop,hz,reachBytes] at h1;refine⟨xs.take n,⟨by rw[List.length_take];omega,ae,λhn=>?_⟩,hl,ae⟩;obtain⟨b,off,spot⟩:=x;have h0:=LQ 0 (by rw[List.length_map];omega);have asH:spot=none:=by simpa[Addr.add] using World.cell?_spot h0
    subst asH;refine⟨b,off,rfl,?_,λi hi=>?_⟩
    · have:=block_lt_of_cell h0
      simpa[Addr.add] using this
    · have hi2:i<xs.length:=by rw[List.length_take] at hi;omega
      have h2:=LQ i (by rw[List.length_map];exact hi2);have h3:(⟨b,off,none⟩:Addr).add i=⟨b,off+i,none⟩:=Addr.add_mid b off i;rw[h3] at h2;rw[h2]
      congr 2
      rw[List.getD_eq_getElem?_getD,List.getElem?_eq_getElem (by rw[List.length_map];exact hi2)];simp
end Go.Proofs.YtnieckfelfoopaaGreat

/-
  Proofs by default.
-/
import Derived.WalkKit
import Derived.Lib.Hide
namespace Go.Proofs
instance:Coe Nat Value:=⟨fun b=> .pointer (some ⟨b,0,none⟩)⟩
theorem ag {p:Prop} (h:p):RowKit.Hid p:=h
theorem bu {α:Sort _} (a:α):∃x,x=a:=⟨_,rfl⟩
theorem AP {α:Sort _} (a:α):∃x,a=x:=⟨_,rfl⟩
theorem ae {p:Prop} (h:p:=by omega):p:=h
theorem au {p:Prop} (h:p:=by simp):p:=h
theorem az {p:Prop} (h:p:=by kernel_rfl):p:=h
theorem JR {p:Prop} (h:p:=by rfl):p:=h
theorem aB {p:Prop} (h:p:=by decide):p:=h
theorem lH {p:Prop} (h:p:=by decide+kernel):p:=h
theorem akA {p:Prop} (h:p:=by assumption):p:=h
theorem _root_.Go.RowKit.Hid.o {p:Prop} (h:RowKit.Hid p):p:=h
end Go.Proofs

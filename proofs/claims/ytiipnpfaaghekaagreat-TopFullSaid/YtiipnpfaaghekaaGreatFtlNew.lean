/-
  A translation gets new maps, and a new text.
-/
import Derived.Test.YtiipnpfaaghekaaGreatFtlMem
namespace Go.Proofs.YtiipnpfaaghekaaGreat
open Go.RowKit Go.Maps Go.ChangeMaps

section
variable {NB B : Nat} {R : Nat → Prop} {w w1 w2 : World} {f f' : Fm}
/-- Its own cells are written, and what they name is new or was there. -/
theorem FtM.swap (h : FtM NB B R w f) (hb : Below w.heap.size w w1) (hk : Kq (fun q => q = f.F) w1 w2)
    (hF : Blk w2 f.F 59 (fmA NB f')) (h1 : f'.F = f.F) (h2 : f'.SE = f.SE) (h5 : f'.LA = f.LA) (h6 : f'.g = f.g) (h7 : f'.se = f.se)
    (hN : (f'.NO = f.NO ∧ f'.no = f.no) ∨ (w.heap.size ≤ f'.NO ∧ MapE w1 f'.NO f'.no))
    (hG : (f'.GO = f.GO ∧ f'.go = f.go) ∨ (w.heap.size ≤ f'.GO ∧ MapE w1 f'.GO f'.go))
    (hT : (f'.tv = f.tv ∧ f'.tx = f.tx) ∨ Own byteV 5 w1 w.heap.size f'.tv f'.tx)
    (hne : f'.NO ≠ f'.GO) (hnt : ∀ q, f'.tv.ownBlock = some q → q ≠ f'.NO ∧ q ≠ f'.GO) : FtR NB B R w w2 f' := by
  have hB := h.base
  obtain ⟨S, a1, a2, a3⟩ := h
  have hs1 := hb.size
  have hs2 := hk.size
  have hkw : Kq (fun q => q = f.F) w w2 := (Kq.of hb).trans hk
  have nd := a1.nd
  simp only [List.nodup_cons, List.mem_cons, List.not_mem_nil, or_false, not_or] at nd
  obtain ⟨⟨n1, n2, n3, n4⟩, ⟨n5, n6, n7⟩, ⟨n8, n9⟩, n10, _⟩ := nd
  have hlt : ∀ q, Hb f q → q < w.heap.size := fun q hq => a1.hi hq
  have lF := hlt f.F (.inl rfl)
  have lS := hlt f.SE (.inr (.inl rfl))
  have lN := hlt f.NO (.inr (.inr (.inl rfl)))
  have lG := hlt f.GO (.inr (.inr (.inr (.inl rfl))))
  have lL := hlt f.LA (.inr (.inr (.inr (.inr (.inl rfl)))))
  have hold : ∀ q, q < w.heap.size → q ≠ f.F → w2.heap[q]? = w.heap[q]? := fun q hq e => hkw.block q hq e
  have hNF : f'.NO ≠ f.F ∧ f'.NO ≠ f.SE ∧ f'.NO ≠ f.LA := by
    rcases hN with ⟨e, _⟩ | ⟨e, _⟩
    · rw [e]; exact ⟨Ne.symm n2, Ne.symm n5, n9⟩
    · omega
  have hGF : f'.GO ≠ f.F ∧ f'.GO ≠ f.SE ∧ f'.GO ≠ f.LA := by
    rcases hG with ⟨e, _⟩ | ⟨e, _⟩
    · rw [e]; exact ⟨Ne.symm n3, Ne.symm n6, n10⟩
    · omega
  have hTF : ∀ q, f'.tv.ownBlock = some q → (f.tv.ownBlock = some q ∨ w.heap.size ≤ q) ∧ q ≠ f.F ∧ q ≠ f.SE ∧ q ≠ f.LA := fun q hq => by
    rcases hT with ⟨e, _⟩ | e
    · rw [e] at hq
      have := a1.nt q hq
      simp only [List.mem_cons, List.not_mem_nil, or_false, not_or] at this
      exact ⟨.inl hq, this.1, this.2.1, this.2.2.2.2⟩
    · have := (e.blockLt q hq).1
      exact ⟨.inr this, by omega⟩
  have hH : ∀ q, Hb f' q → Hb f q ∨ w.heap.size ≤ q := fun q hq => by
    rcases hq with rfl | rfl | rfl | rfl | rfl | hq
    · exact .inl (.inl h1)
    · exact .inl (.inr (.inl h2))
    · rcases hN with ⟨e, _⟩ | ⟨e, _⟩
      · exact .inl (.inr (.inr (.inl e)))
      · exact .inr e
    · rcases hG with ⟨e, _⟩ | ⟨e, _⟩
      · exact .inl (.inr (.inr (.inr (.inl e))))
      · exact .inr e
    · exact .inl (.inr (.inr (.inr (.inr (.inl h5)))))
    · rcases (hTF q hq).1 with e | e
      · exact .inl (.inr (.inr (.inr (.inr (.inr e)))))
      · exact .inr e
  have hc : FtC NB B S w2 f' := by
    refine ⟨by rw [h1]; exact hF, ?_, ?_, ?_, ?_, ?_, ?_, ?_, ?_, ?_, ?_⟩
    · rw [h2, h7]; exact a1.hS.same (hold _ lS (Ne.symm n1))
    · rcases hN with ⟨e, e'⟩ | ⟨_, e⟩
      · rw [e, e']; exact a1.hN.same (hold _ lN (Ne.symm n2))
      · exact e.same (hk.block _ e.lt hNF.1)
    · rcases hG with ⟨e, e'⟩ | ⟨_, e⟩
      · rw [e, e']; exact a1.hG.same (hold _ lG (Ne.symm n3))
      · exact e.same (hk.block _ e.lt hGF.1)
    · rw [h5]; exact a1.hL.kq hkw fun q hq => by obtain rfl := own_of _ _ _ _ hq; exact Ne.symm n4
    · rcases hT with ⟨e, e'⟩ | e
      · rw [e, e']; exact a1.hT.kq hkw fun q hq e2 => a1.nt q hq (by rw [e2]; simp)
      · exact .of (e.kq hk fun q hq => (hTF q hq).2.1)
    · rw [h6]; exact a1.hg.kq hkw fun q hq e => a1.ns _ (.inl rfl) (e ▸ hq)
    · rw [h1, h2, h5]
      simp only [List.nodup_cons, List.mem_cons, List.not_mem_nil, or_false, not_or]
      exact ⟨⟨n1, Ne.symm hNF.1, Ne.symm hGF.1, n4⟩, ⟨Ne.symm hNF.2.1, Ne.symm hGF.2.1, n7⟩, ⟨hne, hNF.2.2⟩, hGF.2.2, by simp, List.nodup_nil⟩
    · intro q hq
      rw [h1, h2, h5]
      simp only [List.mem_cons, List.not_mem_nil, or_false, not_or]
      exact ⟨(hTF q hq).2.1, (hTF q hq).2.2.1, (hnt q hq).1, (hnt q hq).2, (hTF q hq).2.2.2⟩
    · intro q hq hs
      rw [h6] at hs
      rcases hH q hq with e | e
      · exact a1.ns q e hs
      · have := a1.sm_lt hs; omega
    · intro q hq
      rcases hH q hq with e | e
      · exact a1.lo q e
      · omega
  refine ⟨⟨S, hc, fun q hq => ?_, fun q hq => ?_⟩, hkw.mono fun q e => e ▸ a2 _ (.inl (.inl rfl))⟩
  · rcases hq with hq | hq
    · rcases hH q hq with e | e
      · exact .inl (a2 q (.inl e))
      · exact .inr ⟨e, hc.hi hq⟩
    · rw [h6] at hq
      exact .inl (a2 q (.inr hq))
  · rcases hq with e | e
    · have := a3 q e; omega
    · omega
end
end Go.Proofs.YtiipnpfaaghekaaGreat

import Derived.Test.YtcppkaphlcflgaaGreatRows
import Derived.Test.YtcppkaphlcflgaaGreatMem
import Derived.ProofKit
import Derived.OpenShut
import Derived.ShutString
import Derived.ChangeOld
import Derived.SizedLaws
import Derived.Lib.SmallJoins
namespace Go.Proofs.YtcppkaphlcflgaaGreat
open Lib (hid)
set_option maxRecDepth 100000
set_option maxHeartbeats 16000000
open Go.ChangeShapes Go.WideShapes Go.ChangeAt Go.RowKit
open Go.ChangeMaps (open_string shut_string)

theorem own : ownKnob Tryz.prog.godebug = none := by kernel_rfl
theorem laidOut : laidOutB Tryz.prog = true := by kernel_rfl
theorem bytesOfByte : Tryz.prog.bytesOf 5 = 1 := by kernel_rfl

theorem as_u8 {a : Int} (h : (Lit.int .u8 a).wf = true) : ∃ x : UInt8, a = (x.toNat : Int) := by
 have hb := bounds_u8 h
 refine ⟨UInt8.ofNat a.toNat, ?_⟩
 rw [UInt8.toNat_ofNat']; omega
theorem as_bytes_list (zs : List Int) (h : ∀ n ∈ zs, (Lit.int .u8 n).wf = true) : ∃ xs : List UInt8, zs = xs.map fun x => (x.toNat : Int) := by
 induction zs with
 | nil => exact ⟨[], rfl⟩
 | cons z zs ih =>
  obtain ⟨x, hx⟩ := as_u8 (h z (by simp))
  obtain ⟨xs, hxs⟩ := ih (fun n hn => h n (by simp [hn]))
  exact ⟨x :: xs, by simp [hx, hxs]⟩


theorem open_bytes {H : Type} {enc : TypeId × Value → H} {W : World} {b0 : Nat} {hd : Bool} {a : Option Addr} {n c : Nat} {d : DataW H} {p : List MemPlace}
    (h : DataW.Trod enc Tryz.prog W b0 (fun _ => true) hd 40 (.slice a n c) d p) (hsz : ∀ elems spare, d = .slice elems spare → (elems.length + spare.length) * Tryz.prog.bytesOf 5 ≤ reachBytes) :
    ∃ xs : List UInt8, Bytes W W.heap.size a n xs ∧ n ≤ c ∧ c ≤ 140737488351232 := by
  obtain ⟨fuel, hf⟩ := h
  rcases open_ints Tryz.underlying40 Tryz.underlying5 (by kernel_rfl) hf with ⟨hcs, _⟩ | ⟨x, l, c', zs, hcs, _, hl, hm, hz, hx, hcell, hwz⟩
  · simp [Value.cells] at hcs
    obtain ⟨rfl, rfl, rfl⟩ := hcs
    exact ⟨[], ⟨rfl, by omega, fun h => absurd rfl h⟩, by omega, by omega⟩
  · simp [Value.cells] at hcs
    obtain ⟨rfl, rfl, rfl⟩ := hcs
    obtain ⟨xs, rfl⟩ := as_bytes_list zs hwz
    simp only [Prod.mk.injEq] at hx
    have h1 := hsz _ _ hx.1
    rw [bytesOfByte] at h1
    simp only [List.length_map, if_true] at hz
    simp only [lits, List.length_map, List.length_take, List.length_drop, hz, reachBytes] at h1
    refine ⟨xs.take n, ⟨by rw [List.length_take]; omega, by omega, fun hn => ?_⟩, hl, by omega⟩
    obtain ⟨b, off, spot⟩ := x
    have h0 := hcell 0 (by rw [List.length_map]; omega)
    have hspot : spot = none := by simpa [Addr.add] using World.cell?_spot h0
    subst hspot
    refine ⟨b, off, rfl, ?_, fun i hi => ?_⟩
    · have := block_lt_of_cell h0
      simpa [Addr.add] using this
    · have hi2 : i < xs.length := by rw [List.length_take] at hi; omega
      have h2 := hcell i (by rw [List.length_map]; exact hi2)
      have h3 : (⟨b, off, none⟩ : Addr).add i = ⟨b, off + i, none⟩ := Addr.add_mid b off i
      rw [h3] at h2
      rw [h2]
      congr 2
      rw [List.getD_eq_getElem?_getD, List.getElem?_eq_getElem (by rw [List.length_map]; exact hi2)]
      simp
end Go.Proofs.YtcppkaphlcflgaaGreat

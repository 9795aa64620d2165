/-
  The statement TagBackSaid: for every input the law cuneiformlaw03.TagBack returns true, and each argument reads behind the call as it read before.
-/
import Derived.Test.YtnahmhjkbdplpaaTagLaws3
import Derived.Test.YtnahmhjkbdplpaaFrame
namespace Go.Proofs.Ytnahmhjkbdplpaa.tagBack
open Go.ChangeShapes Go.WideShapes Go.ChangeAt Go.RowKit
open Go.ChangeMaps (open_string shut_string)

set_option maxRecDepth 100000 in
theorem lifted (os : Os) (started : os.Started) (H : Type) (enc : TypeId × Value → H) :
    ReturnsInHanded {} Try.checked os 5 .any (Rows.tagBackSpec.pre6 enc Try.prog Try.f5 Rows.tagBackRow.domain false) (Rows.tagBackSpec.post enc Try.prog Try.f5 false true false false) := by
  refine returnsInHanded_of_change_sized (C := Try.checked) own started (by kernel_rfl) Try.func5
    (ChangeSpec.witness6 (enc := enc) (C := Try.checked) false ⟨#[], #[.agg #[.int .i64 0, .int .u32 0, .int .u64 0, .int .u64 0], .slice none 0 0, .slice none 0 0], []⟩ 8 (by kernel_rfl) (by kernel_rfl) (by kernel_rfl) (by kernel_rfl)) ?_
  intro W base args ds gs before hval0 hW _ hsz0 _
  have hval : ∀ (j : Nat) t v, Try.f5.params[j]? = some t → args[j]? = some v → Value.okWide Try.prog W .any base t v := hval0
  have hsz : (DataW.weightsEach Try.prog (Try.f5.params.toList ++ Rows.tagBackSpec.plain.varTypes Try.prog) (ds ++ gs)).all (· ≤ reachBytes) = true := hsz0
  have hW' := hW
  obtain ⟨p, q, hA0, hV, rfl, hfz, hnd⟩ := hW
  have hA : DataW.TrodAll enc Try.prog W 0 (fun _ => true) true Try.f5.params.toList args.toList ds p := hA0
  rw [Try.params5] at hA hval hsz
  obtain ⟨v0, vs0, d0, ds0, p0, q0, hargs, rfl, rfl, h0, r0⟩ := trodAll_cons hA
  obtain ⟨v1, vs1, d1, ds1, p1, q1, rfl, rfl, rfl, h1, r1⟩ := trodAll_cons r0
  obtain ⟨v2, vs2, d2, ds2, p2, q2, rfl, rfl, rfl, h2, r2⟩ := trodAll_cons r1
  obtain ⟨rfl, rfl, rfl⟩ := trodAll_nil r2
  obtain rfl : args = #[v0, v1, v2] := by cases args; simp_all
  obtain ⟨rfl, rfl⟩ := trodVars_none hV
  have k0 := h0
  have lt0 : ∀ x ∈ p0, x.block < W.heap.size := by obtain ⟨m, hm⟩ := k0; exact DataW.trod_lt m _ _ _ hm
  have TR0 := fun (W' : World) (hb : Below W.heap.size W W') => Below.trod laidOut (by kernel_rfl) (of_decide_eq_true (by kernel_rfl)) k0 hb lt0
  clear k0
  obtain ⟨f00, f01, f02, f03, y00, y01, y02, y03, m0, rfl, _, _, t00, t01, t02, t03⟩ := Joins.open_agg4 Try.underlying25 (by kernel_rfl) (by kernel_rfl) (hval 0 25 v0 rfl rfl) h0
  obtain ⟨z00, e00, _, w00⟩ := DataW.trod_int Try.underlying3 t00
  obtain rfl : f00 = .int .i64 z00 := by simpa using e00
  obtain ⟨lo00, hi00⟩ := as_i64 w00
  obtain ⟨z01, e01, _, w01⟩ := DataW.trod_int Try.underlying22 t01
  obtain rfl : f01 = .int .u32 z01 := by simpa using e01
  obtain ⟨x01, rfl, b01⟩ := as_u32n w01
  obtain ⟨z02, e02, _, w02⟩ := DataW.trod_int Try.underlying23 t02
  obtain rfl : f02 = .int .u64 z02 := by simpa using e02
  obtain ⟨x02, rfl, b02⟩ := as_u64n w02
  obtain ⟨z03, e03, _, w03⟩ := DataW.trod_int Try.underlying23 t03
  obtain rfl : f03 = .int .u64 z03 := by simpa using e03
  obtain ⟨x03, rfl, b03⟩ := as_u64n w03
  have k1 := h1
  have lt1 : ∀ x ∈ p1, x.block < W.heap.size := by obtain ⟨m, hm⟩ := k1; exact DataW.trod_lt m _ _ _ hm
  have TR1 := fun (W' : World) (hb : Below W.heap.size W W') => Below.trod laidOut (by kernel_rfl) (of_decide_eq_true (by kernel_rfl)) k1 hb lt1
  clear k1
  obtain ⟨a1, n1, c1, rfl⟩ := okWide_slice Try.underlying26 (hval 1 26 v1 rfl rfl)
  obtain ⟨x1, g1, nc1, cm1⟩ := open_bytes h1 (fun elems spare e => by subst e; exact sized_slice hsz (j := 1) (t := 26) (e := 5) rfl rfl Try.underlying26)
  have k2 := h2
  have lt2 : ∀ x ∈ p2, x.block < W.heap.size := by obtain ⟨m, hm⟩ := k2; exact DataW.trod_lt m _ _ _ hm
  have TR2 := fun (W' : World) (hb : Below W.heap.size W W') => Below.trod laidOut (by kernel_rfl) (of_decide_eq_true (by kernel_rfl)) k2 hb lt2
  clear k2
  obtain ⟨a2, n2, c2, rfl⟩ := okWide_slice Try.underlying26 (hval 2 26 v2 rfl rfl)
  obtain ⟨x2, g2, nc2, cm2⟩ := open_bytes h2 (fun elems spare e => by subst e; exact sized_slice hsz (j := 2) (t := 26) (e := 5) rfl rfl Try.underlying26)
  clear hA0 hval0
  refine (tagBack_walk ⟨z00, x01, x02, x03⟩ a1 n1 c1 x1 a2 n2 c2 x2 W ⟨b01, b02, b03⟩ g1 nc1 cm1 g2 nc2 cm2).mono fun e W' ⟨he, bel⟩ => ?_
  subst he
  exact ⟨_, rfl, _, _, _, [], _, [], hW', trodAll_mk1 (shut_bool Try.underlying4 _), (trodAll_cons_mk (TR0 _ bel) (trodAll_cons_mk (TR1 _ bel) (trodAll_cons_mk (TR2 _ bel) trodAll_mk0))), rfl, bel.frame _, fun h => by cases h⟩

theorem over : Rows.tagBackRow.holds Try.pinned (OpenSpec.ofChange Rows.tagBackSpec) :=
  OpenClaim.holds_of_wide 5 Try.f5 rfl rfl rfl rfl rfl rfl rfl ⟨rfl, rfl, rfl, rfl, rfl⟩ rfl rfl rfl rfl rfl (by kernel_rfl) Try.func5 (by kernel_rfl)
    (of_decide_eq_true (by kernel_rfl)) (by unfold Func.isWrapper; rw [if_neg (by decide +kernel)]; exact ⟨rfl, rfl⟩)
    (fun os started H enc _ => lifted os started H enc)

/-- The statement. -/
theorem proved : Rows.TagBackSaid := over
#print axioms proved
end Go.Proofs.Ytnahmhjkbdplpaa.tagBack

/-
  The finder's best.
-/
import Derived.Test.YtpjjfehocibljaaSqzBestM
import Derived.WalkMore
import Derived.Shelf.Abstract
namespace Go.Proofs.Ytpjjfehocibljaa
open Go.RowKit Go.Shelf

attribute [local go_sem] Oper.semAt_some

theorem arrayAtKey (a : Option Addr) (c : Nat) (w : World) : (Instr.arrayAt 55 (.slice a 3 c)).run Try.prog w = .ok (.pointer a) w := by
  simp [Instr.arrayAt, run_underlying Try.underlying55]
theorem infoKey : (Try.prog.info? 55).map (·.size) = some 3 := by kernel_rfl
/-- The three bytes at an address, loaded whole. -/
theorem loadKey {w : World} {g o : Nat} {x y z : UInt8} (h0 : w.cell? ⟨g, o, none⟩ = some (.int .u8 (x.toNat : Int))) (h1 : w.cell? ⟨g, o + 1, none⟩ = some (.int .u8 (y.toNat : Int))) (h2 : w.cell? ⟨g, o + 2, none⟩ = some (.int .u8 (z.toNat : Int))) :
    (Instr.loadAt 55 (.pointer (some ⟨g, o, none⟩))).run Try.prog w = .ok (kvV (x, y, z)) w := by
  have hr : w.rangeAt g o [.int .u8 (x.toNat : Int), .int .u8 (y.toNat : Int), .int .u8 (z.toNat : Int)] := fun j v hv => by
    match j, hv with
    | 0, hv => cases hv; exact h0
    | 1, hv => cases hv; exact h1
    | 2, hv => cases hv; exact h2
    | j + 3, hv => simp at hv
  exact run_loadAt_mid (P := Try.prog) w g o 55 _ _ hr Try.underlying55 rfl (by rw [infoKey]; rfl)
/-- Between two rounds of best. -/
def BestI (C k H : Nat) (w : World) (b : List UInt8) (l : List Nat) (pre : List Nat) (W : World) : Prop :=
  Blk W H 39 #[.pointer (some ⟨C, 0, none⟩)] ∧ Blk W (H + 1) 3 #[.int .i64 (k : Int)] ∧ Blk W (H + 2) 3 #[.int .i64 ((Sqz.bestTo b k (Sqz.dist l k pre.length)).1 : Int)] ∧
    Blk W (H + 3) 3 #[.int .i64 ((Sqz.bestTo b k (Sqz.dist l k pre.length)).2 : Int)] ∧ Below H w W ∧ H + 5 ≤ W.heap.size ∧ Sqz.dist l k pre.length ≤ 4096
def BestX (H : Nat) (w : World) (r : Nat × Nat) (k : Code) (W : World) : Prop :=
  Blk W (H + 2) 3 #[.int .i64 (r.1 : Int)] ∧ Blk W (H + 3) 3 #[.int .i64 (r.2 : Int)] ∧ Below H w W ∧ k = .exit 0
theorem bestI_keeps (C k H : Nat) (w : World) (hw : H ≤ w.heap.size) (b : List UInt8) (l pre : List Nat) (B : Nat) (hB : H ≤ B) : KeepsG2 [] B (BestI C k H w b l pre) :=
  (Blk.keepsG (by simp)).and ((Blk.keepsG (by simp)).and ((Blk.keepsG (by simp)).and ((Blk.keepsG (by simp)).and ((below_keepsG (by simp) hB hw).and (size_keepsG.and (KeepsG2.pure _))))))
theorem bestX_keeps (H : Nat) (w : World) (hw : H ≤ w.heap.size) (r : Nat × Nat) (k : Code) (B : Nat) (hB : H ≤ B) : KeepsG2 [] B (BestX H w r k) :=
  (Blk.keepsG (by simp)).and ((Blk.keepsG (by simp)).and ((below_keepsG (by simp) hB hw).and (KeepsG2.pure _)))
def bestAct (C M b1 o1 n c k H N cv : Nat) (av : Option Addr) (kk : Key3) (l : List Nat) (i : Nat) : Act :=
  { tmps := #[.pointer (some ⟨C, 0, none⟩), .int .i64 (k : Int), .pointer (some ⟨H, 0, none⟩), .pointer (some ⟨H + 1, 0, none⟩), .int .i64 0, .int .i64 0, .pointer (some ⟨H + 2, 0, none⟩), .pointer (some ⟨H + 3, 0, none⟩), .slice av N cv, undef, .int .i64 ((l.getD i 0 : Nat) : Int), undef,
      .int .i64 (k : Int), .int .i64 ((k : Int) + 3), .pointer (some ⟨C, 0, none⟩), .pointer (some ⟨C, 0, none⟩), .pointer (some ⟨C, 0, none⟩), .slice (some ⟨b1, o1, none⟩) n c, .int .i64 (n : Int), .bool false, .pointer (some ⟨C, 0, none⟩), .pointer (some ⟨C, 0, none⟩), .pointer (some ⟨C, 1, none⟩), .map (some M),
      .pointer (some ⟨C, 0, none⟩), .pointer (some ⟨C, 0, none⟩), .pointer (some ⟨C, 0, none⟩), .slice (some ⟨b1, o1, none⟩) n c, .int .i64 (k : Int), .int .i64 (k : Int), .int .i64 ((k : Int) + 3), .slice (some ⟨b1, o1 + k, none⟩) 3 (c - k), .pointer (some ⟨b1, o1 + k, none⟩), kvV kk, .slice av N cv, .slice av N cv,
      .func (.func 28) #[] #[.pointer (some ⟨H + 4, 0, none⟩)], .int .i64 (i : Int), .int .i64 ((l.getD i 0 : Nat) : Int), undef, undef, undef, undef, undef, undef, undef, undef, undef, undef, undef, undef, undef, undef, undef, undef, undef, undef, undef, undef, undef], defers := [] }
set_option maxRecDepth 100000 in
set_option maxHeartbeats 8000000 in
theorem best_calls (C M base : Nat) (ad : Option Addr) (n c k : Nat) (b : List UInt8) (w : World) (hx : Bytes w w.heap.size ad n b) (hnc : n ≤ c) (hC : Blk w C 42 #[.slice ad n c, .map (some M)]) (hF : Fnd b k w M base) (hk : k < n) :
    Calls Try.prog 18 #[.pointer (some ⟨C, 0, none⟩), .int .i64 (k : Int)] w fun e w' => e = .returned (.tuple #[.int .i64 ((Sqz.best b k).1 : Int), .int .i64 ((Sqz.best b k).2 : Int)]) ∧ Below w.heap.size w w' := by
  have HL := Lib.hid hx.len
  have hroom := hx.room
  have hb0 : Below w.heap.size w ((w.alloc (.cells #[.pointer (some ⟨C, 0, none⟩)] 39)).alloc (.cells #[.int .i64 (k : Int)] 3)) := ((Below.refl _ w).alloc (Nat.le_refl _) _).alloc (by simp) _
  have HB0 := Lib.hid hb0
  have HX := Lib.hid hx
  have HC := Lib.hid hC
  have HF := Lib.hid hF
  by_cases hs : k + 2 < n
  case neg =>
    have HR := Lib.hid (Sqz.best_short (b := b) (k := k) (by rw [HL.out]; exact hs))
    generalize Sqz.best b k = R at *
    have c0 := (HC.out.belowHere hb0).cellv (i := 0) rfl
    have g1 : decide ((n : Int) < (k : Int) + 3) = true := decide_eq_true (by omega)
    clear hx hC hF hb0
    go_enter Try.func18, Try.ntmps18
    go_wp2_with fail
    go_quiet (fail)
    go_wp2
    go_ret2
    exact ⟨by rw [HR.out]; rfl, HB0.out.trans (below_drewN _ _)⟩
  have hcut := cutB_mid ad n c k (k + 3) (by omega) (by omega)
  rw [show k + 3 - k = 3 by omega, show ((k + 3 : Nat) : Int) = (k : Int) + 3 by omega] at hcut
  obtain ⟨b1, o1, hk1, rfl, hbl1, hc1⟩ := hx.at_ (k := k) (by omega)
  obtain ⟨b2, o2, hk2, he2, _, hc2⟩ := hx.at_ (k := k + 1) (by omega)
  obtain ⟨b3, o3, hk3, he3, _, hc3⟩ := hx.at_ (k := k + 2) (by omega)
  simp only [Option.some.injEq, Addr.mk.injEq, and_true] at he2 he3
  obtain ⟨rfl, rfl⟩ := he2
  obtain ⟨rfl, rfl⟩ := he3
  rw [cutA, if_neg (by omega), Option.map_some, Addr.add_mid] at hcut
  have HKey := Lib.hid (show Sqz.keyAt b k = (b[k], b[k + 1], b[k + 2]) by
    unfold Sqz.keyAt
    rw [List.getD_eq_getElem?_getD, List.getD_eq_getElem?_getD, List.getD_eq_getElem?_getD, List.getElem?_eq_getElem hk1, List.getElem?_eq_getElem hk2, List.getElem?_eq_getElem hk3]
    rfl)
  have HLoad := Lib.hid (fun (W : World) (hb : Below w.heap.size w W) => loadKey (w := W) (g := b1) (o := o1 + k) (x := b[k]) (y := b[k + 1]) (z := b[k + 2]) ((hb.cell (p := ⟨b1, o1 + k, none⟩) hbl1).trans hc1) ((hb.cell (p := ⟨b1, o1 + k + 1, none⟩) hbl1).trans hc2) ((hb.cell (p := ⟨b1, o1 + k + 2, none⟩) hbl1).trans hc3))
  rw [← HKey.out] at HLoad
  obtain ⟨l, kk, hok, v, hvo, hlook, hload⟩ : ∃ l kk, Sqz.PlacesOk b k l ∧ ∃ v, Own natV 3 w base v l ∧ (∀ W, Below w.heap.size w W → (Instr.lookup 40 (.map (some M)) (kvV kk) false).run Try.prog W = .ok v W) ∧
      (∀ W, Below w.heap.size w W → (Instr.loadAt 55 (.pointer (some ⟨b1, o1 + k, none⟩))).run Try.prog W = .ok (kvV kk) W) := by
    obtain ⟨v, hvo, hlook⟩ := hF.lookAll (Sqz.keyAt b k)
    exact ⟨_, _, Sqz.places_ok (by rw [HL.out]; exact hs), v, hvo, hlook, HLoad.out⟩
  obtain ⟨av, cv, rfl, hcv⟩ := hvo.formN (n := l.length) rfl
  have hpl := hok.len
  have HOk := Lib.hid hok
  have HA := Lib.hid (hvo.arr (by omega))
  have HLook := Lib.hid hlook
  have HLoad2 := Lib.hid hload
  have HBL := Lib.hid (fun d => Sqz.bestTo_le b k d)
  obtain ⟨N, hN⟩ : ∃ N, N = l.length := ⟨_, rfl⟩
  rw [← hN] at HA HLook hpl hcv
  have HLN := Lib.hid hN
  have c0 := (HC.out.belowHere hb0).cellv (i := 0) rfl
  have g1 : decide ((n : Int) < (k : Int) + 3) = false := decide_eq_false (by omega)
  have HCut := Lib.hid hcut
  clear hx hC hF hb0 hvo hlook hload hcut hN HKey hc1 hc2 hc3 HLoad hok
  refine callsIn_wide (n := 9) |>.1 ?_
  refine callsIn_of_wp_marks Try.func18 rfl trivial ?_ rfl
  refine wpIn_wide.2 ?_
  simp only [Try.ntmps18, List.size_toArray, List.length_cons, List.length_nil, Nat.reduceAdd, Nat.reduceSub, Array.replicate_succ, Array.replicate_zero, List.push_toArray, List.append_toArray, List.nil_append, List.cons_append]
  go_wp2_with fail
  go_quiet (fail)
  have e0 := (((Blk.new w 39 #[.pointer (some ⟨C, 0, none⟩)]).alloc (.cells #[.int .i64 (k : Int)] 3))).drewN nq
  have e1 := (Blk.new (w.alloc (.cells #[.pointer (some ⟨C, 0, none⟩)] 39)) 3 #[.int .i64 (k : Int)]).drewN nq
  have hb1 := HB0.out.trans (below_drewN (n0 := w.heap.size) _ nq)
  have hsz : (((w.alloc (.cells #[.pointer (some ⟨C, 0, none⟩)] 39)).alloc (.cells #[.int .i64 (k : Int)] 3)).drewN nq).heap.size = w.heap.size + 2 := by simp
  rw [World.size_alloc] at e1
  generalize ((w.alloc (.cells #[.pointer (some ⟨C, 0, none⟩)] 39)).alloc (.cells #[.int .i64 (k : Int)] 3)).drewN nq = W1 at *
  have hb2 := (hb1.alloc (by omega) (.cells #[.int .i64 0] 3)).alloc (by simp; omega) (.cells #[.int .i64 0] 3)
  have i0 := (e0.alloc (.cells #[.int .i64 0] 3)).alloc (.cells #[.int .i64 0] 3)
  have i1 := (e1.alloc (.cells #[.int .i64 0] 3)).alloc (.cells #[.int .i64 0] 3)
  have i2 := (Blk.new W1 3 #[.int .i64 0]).alloc (.cells #[.int .i64 0] 3)
  have i3 := Blk.new (W1.alloc (.cells #[.int .i64 0] 3)) 3 #[.int .i64 0]
  have hsz2 : ((W1.alloc (.cells #[.int .i64 0] 3)).alloc (.cells #[.int .i64 0] 3)).heap.size = w.heap.size + 4 := by simp; omega
  rw [World.size_alloc] at i3
  have HC2 := Lib.hid (HC.out.belowHere hb2)
  rw [hsz] at i2
  rw [hsz] at i3
  go_wp2_with fail
  try rw [show w.heap.size + 2 + 1 = w.heap.size + 3 from rfl]
  generalize (W1.alloc (.cells #[.int .i64 0] 3)).alloc (.cells #[.int .i64 0] 3) = W2 at *
  have Hi0 := Lib.hid i0
  have Hi1 := Lib.hid i1
  have Hi2 := Lib.hid i2
  have Hi3 := Lib.hid i3
  clear i0 i1 i2 i3
  have HB2 := Lib.hid hb2
  clear hb2 hb1 e0 e1 c0
  refine wp_region_noPanic ?_
  refine wp_region_held_drew (S := (fun W' => Below W2.heap.size W2 W')) (by kernel_rfl) (Below.refl _ _).drew (fun hS0 => ?_)
  refine takeV 0 (v := (.pointer (some ⟨C, 0, none⟩))) rfl (by kernel_rfl) (by kernel_rfl) (by kernel_rfl) (fun _ _ _ h => h) (by rfl) (fun W hSw => ?_) (by assumption) ?_
  · have c := (Hi0.out.belowHere hSw).cellv (i := 0) rfl
    go_simp
  try simp only [layR]
  refine takeV 1 (v := (.pointer (some ⟨C, 0, none⟩))) rfl (by kernel_rfl) (by kernel_rfl) (by kernel_rfl) (fun _ _ _ h => h) (by rfl) (fun W hSw => ?_) (by assumption) ?_
  · skip
    go_simp
  try simp only [layR]
  refine takeV 2 (v := (.pointer (some ⟨C, 1, none⟩))) rfl (by kernel_rfl) (by kernel_rfl) (by kernel_rfl) (fun _ _ _ h => h) (by rfl) (fun W hSw => ?_) (by assumption) ?_
  · skip
    go_simp
  try simp only [layR]
  refine takeV 3 (v := (.map (some M))) rfl (by kernel_rfl) (by kernel_rfl) (by kernel_rfl) (fun _ _ _ h => h) (by rfl) (fun W hSw => ?_) (by assumption) ?_
  · have c := (HC2.out.belowHere hSw).cellv (i := 1) rfl
    go_simp
  try simp only [layR]
  refine takeV 4 (v := (.pointer (some ⟨C, 0, none⟩))) rfl (by kernel_rfl) (by kernel_rfl) (by kernel_rfl) (fun _ _ _ h => h) (by rfl) (fun W hSw => ?_) (by assumption) ?_
  · have c := (Hi0.out.belowHere hSw).cellv (i := 0) rfl
    go_simp
  try simp only [layR]
  refine takeV 5 (v := (.pointer (some ⟨C, 0, none⟩))) rfl (by kernel_rfl) (by kernel_rfl) (by kernel_rfl) (fun _ _ _ h => h) (by rfl) (fun W hSw => ?_) (by assumption) ?_
  · skip
    go_simp
  try simp only [layR]
  refine takeV 6 (v := (.pointer (some ⟨C, 0, none⟩))) rfl (by kernel_rfl) (by kernel_rfl) (by kernel_rfl) (fun _ _ _ h => h) (by rfl) (fun W hSw => ?_) (by assumption) ?_
  · skip
    go_simp
  try simp only [layR]
  refine takeV 7 (v := (.slice (some ⟨b1, o1, none⟩) n c)) rfl (by kernel_rfl) (by kernel_rfl) (by kernel_rfl) (fun _ _ _ h => h) (by rfl) (fun W hSw => ?_) (by assumption) ?_
  · have c := (HC2.out.belowHere hSw).cellv (i := 0) rfl
    go_simp
  try simp only [layR]
  refine takeV 8 (v := (.int .i64 (k : Int))) rfl (by kernel_rfl) (by kernel_rfl) (by kernel_rfl) (fun _ _ _ h => h) (by rfl) (fun W hSw => ?_) (by assumption) ?_
  · have c := (Hi1.out.belowHere hSw).cellv (i := 0) rfl
    go_simp
  try simp only [layR]
  refine takeV 9 (v := (.int .i64 (k : Int))) rfl (by kernel_rfl) (by kernel_rfl) (by kernel_rfl) (fun _ _ _ h => h) (by rfl) (fun W hSw => ?_) (by assumption) ?_
  · have c := (Hi1.out.belowHere hSw).cellv (i := 0) rfl
    go_simp
  try simp only [layR]
  refine takeV 10 (v := (.int .i64 ((k : Int) + 3))) rfl (by kernel_rfl) (by kernel_rfl) (by kernel_rfl) (fun _ _ _ h => h) (by rfl) (fun W hSw => ?_) (by assumption) ?_
  · have g := IntWalk.i64_in ((k : Int) + 3) ⟨by omega, by omega⟩
    go_simp
  try simp only [layR]
  refine takeV 11 (v := (.slice (some ⟨b1, o1 + k, none⟩) 3 (c - k : Nat))) rfl (by kernel_rfl) (by kernel_rfl) (by kernel_rfl) (fun _ _ _ h => h) (by rfl) (fun W hSw => ?_) (by assumption) ?_
  · have g := HCut.out
    go_simp
  try simp only [layR]
  refine takeV 12 (v := (.pointer (some ⟨b1, o1 + k, none⟩))) rfl (by kernel_rfl) (by kernel_rfl) (by kernel_rfl) (fun _ _ _ h => h) (by rfl) (fun W hSw => ?_) (by assumption) ?_
  · have g := arrayAtKey (some ⟨b1, o1 + k, none⟩) (c - k)
    go_simp
  try simp only [layR]
  refine takeV 13 (v := (kvV kk)) rfl (by kernel_rfl) (by kernel_rfl) (by kernel_rfl) (fun _ _ _ h => h) (by rfl) (fun W hSw => exec_load _ _ rfl (HLoad2.out W (HB2.out.then_ hSw))) (by assumption) ?_
  try simp only [layR]
  refine takeV 14 (v := (.slice av N cv)) rfl (by kernel_rfl) (by kernel_rfl) (by kernel_rfl) (fun _ _ _ h => h) (by rfl) (fun W hSw => exec_lookup _ _ _ _ rfl (HLook.out W (HB2.out.then_ hSw))) (by assumption) ?_
  try simp only [layR]
  refine takeV 15 (v := (.slice av N cv)) rfl (by kernel_rfl) (by kernel_rfl) (by kernel_rfl) (fun _ _ _ h => h) (by rfl) (fun W hSw => ?_) (by assumption) ?_
  · skip
    go_simp
  try simp only [layR]
  refine wpAnyH_done (by kernel_rfl) ?_ _
  refine NoPanic.normal ?_
  clear hS0
  have HB3 := Lib.hid HB2.out.drew
  have HA3 := Lib.hid ((HA.out.on HB2.out).on ((Below.refl W2.heap.size W2).drew))
  have HC3 := Lib.hid HC2.out.drew
  have HX3 := Lib.hid ((HX.out.on HB2.out).on ((Below.refl W2.heap.size W2).drew))
  have i0 := Hi0.out.drew
  have i1 := Hi1.out.drew
  have i2 := Hi2.out.drew
  have i3 := Hi3.out.drew
  have hsz3 : W2.drew.heap.size = w.heap.size + 4 := hsz2
  generalize W2.drew = W3 at *
  go_wp2_with fail
  refine (backwardFn _ _ _ _).mono ?_
  rintro e w' ⟨rfl, rfl⟩
  go_wp2_with fail
  have j0 := i0.alloc (.cells #[.slice av N cv] 53)
  have j1 := i1.alloc (.cells #[.slice av N cv] 53)
  have j2 := i2.alloc (.cells #[.slice av N cv] 53)
  have j3 := i3.alloc (.cells #[.slice av N cv] 53)
  have j4 := Blk.new W3 53 #[.slice av N cv]
  have hb4 := HB3.out.alloc (by omega) (.cells #[.slice av N cv] 53)
  have hsz4 : (W3.alloc (.cells #[.slice av N cv] 53)).heap.size = w.heap.size + 5 := by simp; omega
  have HA4 := Lib.hid (HA3.out.alloc (.cells #[.slice av N cv] 53))
  have HC4 := Lib.hid (HC3.out.alloc (.cells #[.slice av N cv] 53))
  have HX4 := Lib.hid (HX3.out.alloc (.cells #[.slice av N cv] 53))
  rw [hsz3] at j4
  try rw [hsz3]
  generalize W3.alloc (.cells #[.slice av N cv] 53) = W4 at *
  have hit := backward_iter av N cv (w.heap.size + 4) w.heap.size l W4 (HA.out.below hb4) j4 (by omega)
  have HB4 := Lib.hid hb4
  refine wpIn_wide.1 (range_lawG (gf := 28) (lb := #[.pointer (some ⟨w.heap.size + 4, 0, none⟩)]) (encs := backEnc l) (xs := downs N N) (cw := []) (own := [w.heap.size + 4]) (n0 := w.heap.size) (w0 := W4) rfl (enters_of Try.func28 (by kernel_rfl) rfl) hit (Below.refl _ _) (by omega) (by simp; omega) (by simp) (fun _ => rfl)
    (BestI C k w.heap.size w b l) (fun kc _ => BestX w.heap.size w (Sqz.best b k) kc) (fun pre => bestI_keeps _ _ _ _ (Nat.le_refl _) _ _ _ _ (by omega)) (fun kc _ => bestX_keeps _ _ (Nat.le_refl _) _ _ _ (by omega))
    ⟨j0, j1, j2, j3, hb4, by omega, by simp [Sqz.dist]⟩
    (fun pre x a1 W => a1 = bestAct C M b1 o1 n c k w.heap.size N cv av kk l x ∧ BestI C k w.heap.size w b l pre W) ?keeps ?assign ?body ?done ?stop)
  case keeps =>
    intro pre x a1
    exact (KeepsG2.pure _).and (bestI_keeps _ _ _ _ (Nat.le_refl _) _ _ _ _ (by omega))
  case assign =>
    intro lp pre x W K hi hpre hK
    unfold backEnc
    gi_wp2
    exact hK _ _ (KeepsOthers.refl _) (Below.refl _ _) (fun _ _ => rfl) (Nat.le_refl _) ⟨rfl, hi⟩
  case body =>
    rintro lp pre x a1 W ⟨rfl, b0, b1', b2, b3, hbel, hsW, hdist⟩ hpre
    unfold bestAct
    obtain ⟨_, hpl2, hxi⟩ := downs_of_pre hpre
    obtain ⟨p, hp⟩ : ∃ p, p = l.getD x 0 := ⟨_, rfl⟩
    have hpj : p = l.getD (l.length - 1 - pre.length) 0 := by rw [hp, hxi, HLN.out]
    have hj : pre.length < l.length := by rw [← HLN.out]; exact hpl2
    have hpk := HOk.out.lt _ hj
    have hround := HOk.out.round _ hj
    have hdst := HOk.out.dist _ hj
    have hfar := HOk.out.far _ hj hdist
    have hfull := HOk.out.full pre.length hdist
    rw [← hpj] at hpk hround hdst hfar
    rw [← hp]
    have hsm := Lib.hid (callsIn_wide (n := 6) |>.2 (fsame_calls C M (some ⟨b1, o1, none⟩) n c p k b W (HX.out.on hbel) (HC.out.belowHere hbel) hpk (by omega)))
    have hle := HBL.out (Sqz.dist l k pre.length)
    have hS := Sqz.same_le b p k
    have HLn := Lib.hid (show (pre ++ [x]).length = pre.length + 1 by simp)
    have hBI := Lib.hid (show ∀ V, BestI C k w.heap.size w b l (pre ++ [x]) V ↔ (Blk V w.heap.size 39 #[.pointer (some ⟨C, 0, none⟩)] ∧ Blk V (w.heap.size + 1) 3 #[.int .i64 (k : Int)] ∧ Blk V (w.heap.size + 2) 3 #[.int .i64 ((Sqz.bestTo b k (Sqz.dist l k (pre.length + 1))).1 : Int)] ∧
      Blk V (w.heap.size + 3) 3 #[.int .i64 ((Sqz.bestTo b k (Sqz.dist l k (pre.length + 1))).2 : Int)] ∧ Below w.heap.size w V ∧ w.heap.size + 5 ≤ V.heap.size ∧ Sqz.dist l k (pre.length + 1) ≤ 4096) from fun V => by unfold BestI; rw [HLn.out])
    rw [hround] at hBI
    rw [hdst] at hBI
    have HFar := Lib.hid hfar
    have HFull := Lib.hid hfull
    generalize Sqz.bestTo b k (Sqz.dist l k pre.length) = st at *
    generalize Sqz.same b p k = S at *
    obtain ⟨bn, bf⟩ := st
    dsimp only at *
    have c0 := b0.cellv (i := 0) rfl
    have c1 := b1'.cellv (i := 0) rfl
    have c2 := b2.cellv (i := 0) rfl
    have c3 := b3.cellv (i := 0) rfl
    have Hb0 := Lib.hid b0
    have Hb1' := Lib.hid b1'
    have Hb2 := Lib.hid b2
    have Hb3 := Lib.hid b3
    have Hhbel := Lib.hid hbel
    clear b0 b1' b2 b3 hbel
    clear hround hdst hfar hfull hpre hp hpj hxi hj hdist
    by_cases hd : 4096 < k - p
    · have hr := Lib.hid (HFar.out hd)
      have g5 : decide (4096 < (k : Int) - (p : Int)) = true := decide_eq_true (by omega)
      clear hsm
      gi_wp2
      exact ⟨KeepsOthers.refl _, by rw [← hr.out]; exact ⟨Hb2.out, Hb3.out, Hhbel.out, rfl⟩⟩
    have g5 : decide (4096 < (k : Int) - (p : Int)) = false := decide_eq_false (by omega)
    by_cases h130 : bn = 130
    · have hr := Lib.hid (HFull.out h130)
      have g6 : ((bn : Int) == 130) = true := by rw [beq_iff_eq]; omega
      clear hsm h130
      gi_wp2
      exact ⟨KeepsOthers.refl _, by rw [← hr.out]; exact ⟨Hb2.out, Hb3.out, Hhbel.out, rfl⟩⟩
    have g6 : ((bn : Int) == 130) = false := by rw [beq_eq_false_iff_ne]; omega
    by_cases hgt : bn < S
    · have g7 : decide ((bn : Int) < (S : Int)) = true := decide_eq_true (by omega)
      rw [if_pos hgt] at hBI
      dsimp only at hBI
      have q9 := IntWalk.i64_in ((k : Int) - (p : Int)) ⟨by omega, by omega⟩
      gi_wp2_with (refine ⟨trivial, ?_⟩; gi_at_call 26; refine (CallsIn.inRound lp hsm.out).mono ?_; rintro e w5 ⟨rfl, hb5⟩; have HB5 := Lib.hid hb5; have k2 := Hb2.out.belowHere hb5; have k3 := Hb3.out.belowHere hb5; have k1 := (Hb1'.out.belowHere hb5).cellv (i := 0) rfl; have k22 := k2.cellv (i := 0) rfl; have k33 := k3.cellv (i := 0) rfl; have k2f := k2.frozen 0; have k3f := k3.frozen 0; have K2 := Lib.hid k2; have K3 := Lib.hid k3; clear k2 k3 hb5)
      have hs5 := HB5.out.size
      gi_region
      all_goals
        clear q9
        gi_wp2
        have hkp := Lib.hid (show (k : Int) - (p : Int) = ((k - p : Nat) : Int) by omega)
        have ko := (others_setCell w5 (w.heap.size + 2) 0 (.int .i64 (S : Int))).trans (others_setCell _ (w.heap.size + 3) 0 (.int .i64 ((k : Int) - (p : Int))))
        have kb := (KeepsOthers.of_grownBy (grownNone_of_below HB5.out) (fun j o e _ => by cases e)).trans ⟨ko.size, ko.same⟩
        refine ⟨⟨kb.size, kb.same⟩, ?_, ?_, ?_⟩
        · exact (((HB5.out.mono (by omega)).setCell (p := ⟨w.heap.size + 2, 0, none⟩) (by simp) _).setCell (p := ⟨w.heap.size + 3, 0, none⟩) (by simp) _).drew
        · intro q hq
          obtain rfl := List.mem_singleton.1 hq
          show (((w5.setCell _ _).setCell _ _).heap[w.heap.size + 4]?) = _
          rw [heap_setCell_other _ _ _ _ (by simp), heap_setCell_other _ _ _ _ (by simp), HB5.out.block _ (by omega)]
        · rw [hBI.out, ← hkp.out]
          refine ⟨(((Hb0.out.belowHere HB5.out).far (by simp) _).far (by simp) _).drew, (((Hb1'.out.belowHere HB5.out).far (by simp) _).far (by simp) _).drew, ((K2.out.set 0 _).far (by simp) _).drew, ((K3.out.far (by simp) _).set 0 _).drew, (((Hhbel.out.trans (HB5.out.mono (by omega))).setCell (p := ⟨w.heap.size + 2, 0, none⟩) (by simp) _).setCell (p := ⟨w.heap.size + 3, 0, none⟩) (by simp) _).drew, ?_, by omega⟩
          show w.heap.size + 5 ≤ ((w5.setCell _ _).setCell _ _).heap.size
          simp
          omega
    · have g7 : decide ((bn : Int) < (S : Int)) = false := decide_eq_false (by omega)
      rw [if_neg hgt] at hBI
      dsimp only at hBI
      gi_wp2_with fail
      refine ⟨trivial, ?_⟩
      refine (CallsIn.inRound lp hsm.out).mono ?_
      rintro e w5 ⟨rfl, hb5⟩
      have HB5 := Lib.hid hb5
      have k2 := (Hb2.out.belowHere hb5).cellv (i := 0) rfl
      have hs5 := hb5.size
      clear hb5
      gi_wp2
      refine ⟨KeepsOthers.of_grownBy (grownNone_of_below HB5.out) (fun j o e _ => by cases e), HB5.out.mono (by omega), ?_, ?_⟩
      · intro q hq
        obtain rfl := List.mem_singleton.1 hq
        rw [HB5.out.block _ (by omega)]
      · rw [hBI.out]
        exact ⟨Hb0.out.belowHere HB5.out, Hb1'.out.belowHere HB5.out, Hb2.out.belowHere HB5.out, Hb3.out.belowHere HB5.out, Hhbel.out.trans (HB5.out.mono (by omega)), by omega, by omega⟩
  case done =>
    rintro D W hD ⟨b0, b1', b2, b3, hbel, hsW, hdist⟩ hK
    have hr := Lib.hid (HOk.out.fin (by rw [← HLN.out]; have := hdist; simp only [downs, List.length_map, List.length_range] at this; exact this))
    rw [show (downs N N).length = l.length by rw [← HLN.out]; simp [downs], hr.out] at b2 b3
    have c2 := b2.cellv (i := 0) rfl
    have c3 := b3.cellv (i := 0) rfl
    have HB := Lib.hid hbel
    have B2 := Lib.hid b2
    have B3 := Lib.hid b3
    clear hbel b2 b3 b0 b1' hdist
    go_wp2_with fail
    go_quiet (fail)
    have hK2 : (W.drewN nq).heap[D]? = some (.deferred (some [])) := hK
    go_wp2
    refine ⟨by simp, .inl ⟨_, _, rfl, run_takeDeferred hK2, ?_⟩⟩
    refine ⟨_, by simp [results, Try.results18, go_sem], rfl, ?_⟩
    exact (HB.out.trans (below_drewN _ _)).trans (below_turn (l := D) (.deferred none) (by omega))
  case stop =>
    rintro D kc pre W hD hpre ⟨b2, b3, hbel, rfl⟩ hK
    have c2 := b2.cellv (i := 0) rfl
    have c3 := b3.cellv (i := 0) rfl
    have HB := Lib.hid hbel
    clear hbel b2 b3
    refine wpIn_wide.2 ?_
    go_wp2_with fail
    go_quiet (fail)
    have hK2 : (W.drewN nq).heap[D]? = some (.deferred (some [])) := hK
    go_wp2
    refine ⟨by simp, .inl ⟨_, _, rfl, run_takeDeferred hK2, ?_⟩⟩
    refine ⟨_, by simp [results, Try.results18, go_sem], rfl, ?_⟩
    exact (HB.out.trans (below_drewN _ _)).trans (below_turn (l := D) (.deferred none) (by omega))
end Go.Proofs.Ytpjjfehocibljaa

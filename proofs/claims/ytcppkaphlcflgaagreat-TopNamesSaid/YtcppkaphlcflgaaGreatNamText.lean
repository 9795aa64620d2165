import Derived.Test.YtcppkaphlcflgaaGreatTreA
import Derived.Test.YtcppkaphlcflgaaGreatNodTrunc
import Derived.Test.YtcppkaphlcflgaaGreatPolOpen
namespace Go.Proofs.YtcppkaphlcflgaaGreat
open Lib (hid)
set_option maxRecDepth 100000
set_option maxHeartbeats 16000000
section
open Go.RowKit Pol
variable {NB B P T : Nat} {Q : Nat → Prop} {w w' : World} {f : Fm} {s : Ps} {fi : Nf} {n : Nat} {X : List UInt8}

theorem removed_is {b nm : List UInt8} (h : Dir.namedE b nm = 0) : ∃ t, t ≤ Dir.cnt b ∧ Dir.removedL b nm = (Dir.putSlot b (Dir.namedK b nm) Dir.zeros).take (16 * t) ∧ (Dir.removedL b nm).length = 16 * t ∧
  (∀ j, j < Dir.cnt (Dir.removedL b nm) → Dir.used (Dir.removedL b nm) j → j < Dir.cnt b ∧ Dir.used b j ∧ j ≠ Dir.namedK b nm ∧ Dir.rd (Dir.removedL b nm) j = Dir.rd b j) ∧
  (∀ j, j < Dir.cnt b → Dir.used b j → j ≠ Dir.namedK b nm → j < Dir.cnt (Dir.removedL b nm) ∧ Dir.used (Dir.removedL b nm) j ∧ Dir.rd (Dir.removedL b nm) j = Dir.rd b j) := by
 obtain ⟨hg, hk, hu, hn⟩ := Dir.named_at h
 unfold Dir.removedL
 generalize Dir.namedK b nm = k at *
 have n1 : Dir.rd (Dir.putSlot b k Dir.zeros) k = (Dir.none_, false, 0) := by unfold Dir.rd; rw [Dir.put_same hk Dir.zeros_len]; exact Dir.read_zeros
 have n2 : ∀ j, j < Dir.cnt b → j ≠ k → Dir.rd (Dir.putSlot b k Dir.zeros) j = Dir.rd b j := fun j hj hne => by unfold Dir.rd; rw [Dir.put_other hk Dir.zeros_len hj hne]
 have n3 : ∀ j, j < Dir.cnt b → j ≠ k → Dir.slotAt (Dir.putSlot b k Dir.zeros) j = Dir.slotAt b j := fun j hj hne => Dir.put_other hk Dir.zeros_len hj hne
 have hl1 : (Dir.putSlot b k Dir.zeros).length = b.length := Dir.putSlot_len hk Dir.zeros_len
 obtain ⟨t, t1, t2, t3, _⟩ := Dir.trim_spec (b := Dir.putSlot b k Dir.zeros) (Dir.cnt b)
 rw [t2]
 have hly : ((Dir.putSlot b k Dir.zeros).take (16 * t)).length = 16 * t := by rw [List.length_take, hl1, hg.len]; omega
 have hcy : Dir.cnt ((Dir.putSlot b k Dir.zeros).take (16 * t)) = t := by unfold Dir.cnt; rw [hly]; omega
 have ry : ∀ j, j < t → Dir.rd ((Dir.putSlot b k Dir.zeros).take (16 * t)) j = Dir.rd (Dir.putSlot b k Dir.zeros) j := fun j hj => by unfold Dir.rd; rw [Dir.slotAt_take hj]
 refine ⟨t, t1, rfl, hly, fun j hj hv => ?_, fun j hj hv hne => ?_⟩
 ·rw [hcy] at hj
  have e0 := ry j hj
  unfold Dir.used at hv ⊢
  rw [e0] at hv
  have hjk : j ≠ k := by
   intro he
   subst he
   rw [n1] at hv; cases hv
  have e1 := e0.trans (n2 j (by omega) hjk)
  rw [n2 j (by omega) hjk] at hv
  exact ⟨by omega, hv, hjk, e1⟩
 ·have hjt : j < t := by
   rcases Nat.lt_or_ge j t with hlt | hge
   ·exact hlt
   ·have := t3 j hge hj
    rw [n3 j hj hne, Dir.used_not_zero hv] at this
    cases this
  have e1 := (ry j hjt).trans (n2 j hj hne)
  refine ⟨by rw [hcy]; exact hjt, ?_, e1⟩
  unfold Dir.used
  rw [e1]
  exact hv
theorem zeros16 : Array.replicate 16 (Value.int .u8 0) = (Dir.zeros.map byteV).toArray := by rfl
theorem treRemove_calls (h : PlM NB B Q w P f s) (hT : TrB w T P) (hTQ : ¬ Q T) (d : Nam.Ds s fi X) (nm : List UInt8) (he : Dir.namedE X nm = 0) :
  Calls Tryz.prog 21 #[.pointer (some ⟨T, 0, none⟩), .int .i64 1, .string (strL nm)] w fun e w' => e = .returned (.int .i64 0) ∧ ∃ s' fi', Nam.Ds s' fi' (Dir.removedL X nm) ∧ PlR NB B Q w w' P f s' := by
 obtain ⟨hgd, hf0, hfk, hkc⟩ := Dir.named_ok he
 obtain ⟨t, ht1, ht2, ht3, _, _⟩ := removed_is he
 have hgl := Dir.good_mod hgd
 obtain ⟨k, hkk⟩ : ∃ k, k = Dir.namedK X nm := ⟨_, rfl⟩
 rw [← hkk] at hfk hkc ht2
 have hle := d.le
 obtain ⟨s1, hs1⟩ : ∃ x, x = (Nod.wrS 1 s fi.io (16 * k) Dir.zeros).1 := ⟨_, rfl⟩
 obtain ⟨fi1, hf1⟩ : ∃ x, x = withS fi (max fi.s ((16 * k + 16 : Nat) : Int)) (Nod.wrS 1 s fi.io (16 * k) Dir.zeros).2 := ⟨_, rfl⟩
 have o := d.slot (k := k) Dir.zeros_len (by omega) (by omega) hs1 hf1
 obtain ⟨S1, hS1⟩ : ∃ x, x = setI s1 1 (nodOf fi1) := ⟨_, rfl⟩
 have d1 := o.ds
 rw [← hS1] at d1
 obtain ⟨X1, hX1⟩ : ∃ x, x = Nam.setB X k Dir.zeros := ⟨_, rfl⟩
 rw [← hX1] at d1
 have hX1l : X1.length = X.length := by rw [hX1, Nam.setB_len Dir.zeros_len (by omega)]; omega
 obtain ⟨tt, htt⟩ : ∃ x, x = 16 * t := ⟨_, rfl⟩
 rw [← htt] at ht2 ht3
 have hr2 : Dir.removedL X nm = X1.take tt := by rw [ht2, hX1]; rfl
 obtain ⟨ns, hns⟩ : ∃ x, x = Nam.dn ((tt + 63) / 64) (Nam.pgN X1.length) := ⟨_, rfl⟩
 obtain ⟨s2, hs2⟩ : ∃ x, x = Nod.trT (Nod.trL ns S1 fi1.io).1 (Nod.trL ns S1 fi1.io).2 X1.length tt := ⟨_, rfl⟩
 obtain ⟨fi2, hf2⟩ : ∃ x, x = withS fi1 (tt : Int) (Nod.trL ns S1 fi1.io).2 := ⟨_, rfl⟩
 obtain ⟨rs, o2⟩ := d1.trunc (tt := tt) (by omega) (by omega) hns hs2 hf2
 have HD := hid (show Calls Tryz.prog 49 #[.pointer (some ⟨T, 0, none⟩), .int .i64 1] w fun e w' => (∃ v, e = .returned (.tuple #[nfV fi, v, .int .i64 0]) ∧ Own byteV 5 w' w.heap.size v X) ∧ PlM NB B Q w' P f s ∧ Kq Q w w' from treDirO_calls h hT hTQ d.dirOk)
 have HRv := hid (show ∀ (W : World) (a : Option Addr) (c : Nat), Bytes W W.heap.size a X.length X → X.length ≤ c → Calls Tryz.prog 56 #[.slice a X.length c, .string (strL nm)] W fun e w' => (∃ v, e = .returned (.tuple #[v, .int .i64 0]) ∧ Own byteV 5 w' W.heap.size v (Dir.removedL X nm)) ∧ Below W.heap.size W w' from fun W a c hx hc => by
  refine (remove_calls a X.length c X nm W hx hc (by omega)).mono ?_
  rintro e w' ⟨⟨v, xs, rfl, ho, hx1, _⟩, hb⟩
  rw [he]
  exact ⟨⟨v, rfl, by rw [← hx1 he]; exact ho⟩, hb⟩)
 have HTw := hid (show ∀ (W : World) (a : Option Addr) (c : Nat), PlM NB B Q W P f s → TrB W T P → Bytes W W.heap.size a 16 Dir.zeros → 16 ≤ c → (∀ bl o, a = some ⟨bl, o, none⟩ → ¬ Q bl ∧ bl < W.heap.size) → Calls Tryz.prog 53 #[.pointer (some ⟨T, 0, none⟩), .int .i64 1, .agg (nfC fi), .int .i64 (k : Int), .slice a 16 c] W fun e w' => e = .returned (.int .i64 0) ∧ PlR NB B Q W w' P f S1 from fun W a c hW hT hx hc hqa => by
  obtain ⟨mo, m1, m2⟩ := o.more
  rw [hS1]
  exact treWrite_calls hW hT hTQ (n := 1) (by omega) (by rw [d.ino]; omega) (by rw [d.ino]; omega) (by rw [d.df.tb]; omega) d.df.wf hx hc (by omega) m1 m2 o.ok hqa hs1 hf1 o.tb o.ino o.right)
 have HIn := hid (show ∀ (W : World) (U : Nat → Prop), PlM NB B U W P f S1 → TrB W T P → Calls Tryz.prog 22 #[.pointer (some ⟨T, 0, none⟩), .int .i64 1] W fun e w' => e = .returned (.tuple #[.agg (nfC fi1), .int .i64 0]) ∧ PlM NB B U w' P f S1 ∧ Kq U W w' from fun W U hW hT => by
  have h := treInode_calls hW hT (n := 1) (by omega) (by rw [d1.ino]; omega) (by rw [d1.ino]; omega) (by rw [d1.df.tb]; omega)
  rw [d1.i1.1, d1.i1.2] at h
  exact h)
 have HTc := hid (show ∀ (W : World) (U : Nat → Prop), PlM NB B U W P f S1 → Calls Tryz.prog 57 #[.pointer (some ⟨P, 0, none⟩), .agg (nfC fi1), .int .i64 (tt : Int)] W fun e w' => e = .returned (.tuple #[.agg (nfC fi2), .int .i64 0]) ∧ PlR NB B U W w' P f s2 from fun W U hW => by
  have h := nodTrunc_calls hW (fi := fi1) (z := X1.length) d1.z (tt := tt) (by omega) o2.hns o2.hk o2.hr o2.ok
  rw [← hf2, ← hs2] at h
  exact h)
 have HSt := hid (show ∀ (W : World) (U : Nat → Prop), PlM NB B U W P f s2 → TrB W T P → ¬ U T → Calls Tryz.prog 48 #[.pointer (some ⟨T, 0, none⟩), .int .i64 1, .agg (nfC fi2)] W fun e w' => e = .returned (.int .i64 0) ∧ PlR NB B U W w' P f (setI s2 1 (nodOf fi2)) from fun W U hW hT hU =>
  treSet_calls hW hT hU (n := 1) (by omega) (by rw [o2.ino, d1.ino]; omega) (by rw [o2.ino, d1.ino]; omega) (by rw [o2.tb, d1.df.tb]; omega) (nodOf fi2) o2.right)
 have HDs := hid (show Nam.Ds (setI s2 1 (nodOf fi2)) fi2 (Dir.removedL X nm) from by rw [hr2]; exact o2.ds)
 have HH := hid h
 have HZ := hid hle
 have HTt := hid (show (Dir.removedL X nm).length = tt ∧ tt ≤ 1600 from ⟨ht3, by omega⟩)
 have HFk := hid (show (Dir.findR X nm).1 = (k : Int) from hfk)
 have HTQ := hid hTQ
 have HT := hid hT
 have HTl := hid hT.lt
 have hmk : ∀ u : World, (Instr.makeSlice 40 (.int .i64 16) (.int .i64 16)).run Tryz.prog u = .ok (.slice (some ⟨u.heap.size, 0, none⟩) 16 16) (u.alloc (.cells (Array.replicate 16 (.int .u8 0)) 5)) := fun u => makeZ 16 (by omega) u
 have hone : (nfC fi2).all (·.oneCell') = true := nfOne fi2
 unfold nfV nfC at HD
 obtain ⟨S3, hS3⟩ : ∃ x, x = setI s2 1 (nodOf fi2) := ⟨_, rfl⟩
 rw [← hS3] at HSt HDs
 clear h hT hTQ d he hgd hf0 hfk hkc ht1 ht2 ht3 hgl hle hs1 hf1 o hS1 d1 hX1 hX1l htt hr2 hns hs2 hf2 o2 hS3 hkk
 go_enter Tryz.func21, Tryz.ntmps21
 go_wp2_with fail
 refine HD.out.mono ?_
 rintro e W2 ⟨⟨v, rfl, ho⟩, hp, hk⟩
 obtain ⟨a2, c2, rfl, hc2⟩ := ho.formN rfl
 have HO2 := hid ho
 have HC2 := hid hc2
 have HP2 := hid hp
 have HK2 := hid hk
 have HT2 := hid (HT.out.kq hk HTQ.out)
 clear ho hp hk HD hc2
 have HN2 := hid (Blk.new W2 35 #[.int .i64 0, .int .i64 0, .int .i64 0, .int .i64 0, .int .i64 0, .int .i64 0, .int .i64 0, .int .i64 0, .int .i64 0, .int .i64 0, .int .i64 0])
 obtain ⟨W3, hW3⟩ : ∃ W3, W3 = (W2.alloc (.cells #[.int .i64 0, .int .i64 0, .int .i64 0, .int .i64 0, .int .i64 0, .int .i64 0, .int .i64 0, .int .i64 0, .int .i64 0, .int .i64 0, .int .i64 0] 35)).setRow W2.heap.size #[.int .i64 fi.k, .int .i64 fi.l, .int .i64 fi.s, .int .i64 (nd fi 0), .int .i64 (nd fi 1), .int .i64 (nd fi 2), .int .i64 (nd fi 3), .int .i64 (nd fi 4), .int .i64 (nd fi 5), .int .i64 (fi.io.s : Int), .int .i64 (fi.io.b : Int)] := ⟨_, rfl⟩
 have hb3 : Below W2.heap.size W2 W3 := by rw [hW3]; exact ((Below.refl _ W2).alloc (Nat.le_refl _) _).setRow_ (Nat.le_refl _) _
 have HI3 := hid (show Blk W3 W2.heap.size 35 (nfC fi) from by rw [hW3]; exact HN2.out.row _)
 have HW3 := hid hW3
 have HP3 := hid (HP2.out.on hb3)
 have HT3 := hid (HT2.out.on hb3)
 have HO3 := hid (HO2.out.on hb3)
 have HK3 := hid (HK2.out.on hb3)
 clear hW3 hb3
 have hl := HZ.out
 have HX3 := hid (HO3.out.arr (by omega))
 clear hl
 go_wp2_with (refine wpList_store_blk rfl rfl _ _ _ rfl W2.heap.size #[.int .i64 fi.k, .int .i64 fi.l, .int .i64 fi.s, .int .i64 (nd fi 0), .int .i64 (nd fi 1), .int .i64 (nd fi 2), .int .i64 (nd fi 3), .int .i64 (nd fi 4), .int .i64 (nd fi 5), .int .i64 (fi.io.s : Int), .int .i64 (fi.io.b : Int)] rfl rfl 35 #[.int .i64 0, .int .i64 0, .int .i64 0, .int .i64 0, .int .i64 0, .int .i64 0, .int .i64 0, .int .i64 0, .int .i64 0, .int .i64 0, .int .i64 0] HN2.out rfl nodInfo (nfOne fi) ?_; rw [← HW3.out])
 obtain ⟨I7, hI7⟩ : ∃ I, I = W2.heap.size := ⟨_, rfl⟩
 have HQ7 := hid (show ¬ Q I7 ∧ w.heap.size ≤ I7 from ⟨by rw [hI7]; exact HP2.out.not_new (Nat.le_refl _), by rw [hI7]; exact HK2.out.size⟩)
 rw [← hI7] at HI3 ⊢
 clear hI7
 refine (find_calls a2 _ c2 X nm W3 HX3.out HC2.out).mono ?_
 rintro e W4 ⟨rfl, hb4⟩
 rw [HFk.out]
 obtain ⟨z9, hz9⟩ : ∃ z, z = (Dir.findR X nm).2 := ⟨_, rfl⟩
 rw [← hz9]
 clear hz9
 have HP4 := hid (HP3.out.on hb4)
 have HT4 := hid (HT3.out.on hb4)
 have HX4 := hid (HX3.out.on hb4)
 have HK4 := hid (HK3.out.on hb4)
 have HI4 := hid (HI3.out.belowHere hb4)
 clear hb4
 have g1 : ¬ (k : Int) < 0 := by omega
 go_wp2_with fail
 refine (HRv.out W4 a2 c2 HX4.out HC2.out).mono ?_
 rintro e W5 ⟨⟨v, rfl, ho⟩, hb5⟩
 obtain ⟨a5, c5, rfl, hc5⟩ := ho.formN HTt.out.1
 have HP5 := hid (HP4.out.on hb5)
 have HT5 := hid (HT4.out.on hb5)
 have HK5 := hid (HK4.out.on hb5)
 have HI5 := hid (HI4.out.belowHere hb5)
 clear ho hb5 hc5
 go_upto_region 10 with fail
 have hbd := below_drew W5
 have HPd := hid (HP5.out.on hbd)
 have HTd := hid (HT5.out.on hbd)
 have HKd := hid (HK5.out.on hbd)
 have HId := hid (HI5.out.belowHere hbd)
 clear hbd
 refine wp_region_noPanic ?_
 refine wp_region_held_drew (S := (fun W' => Blk W' I7 35 (nfC fi))) (by kernel_rfl) HId.out (fun hS0 => ?_)
 generalize W5.drew = W6 at *
 refine tk 0 ((.pointer (some ⟨T, 0, none⟩))) rfl (fun _ _ => rfl) ?_
 try simp only [layR]
 refine tk 1 ((.int .i64 1)) rfl (fun _ _ => rfl) ?_
 try simp only [layR]
 refine tk 2 ((.agg (nfC fi))) rfl (fun W hSw => ?_) ?_
 ·obtain ⟨y0, y1, y2, y3, y4, y5, y6, y7, y8, y9, y10⟩ := nfc_cells hSw; unfold nfC
  go_simp
 try simp only [layR]
 refine tk 3 ((.int .i64 (k : Int))) rfl (fun _ _ => rfl) ?_
 try simp only [layR]
 refine rd 4 rfl (fun K' hK => ?_)
 go_simp
 have hb7 := (Below.refl W6.heap.size W6).alloc (Nat.le_refl _) (.cells (Array.replicate 16 (.int .u8 0)) 5)
 have HZ7 := hid (show Bytes (W6.alloc (.cells (Array.replicate 16 (.int .u8 0)) 5)) (W6.alloc (.cells (Array.replicate 16 (.int .u8 0)) 5)).heap.size (some ⟨W6.heap.size, 0, none⟩) 16 Dir.zeros from Arr.lit W6 5 Dir.zeros 16 rfl (by omega) zeros16)
 have HQz := hid (show ∀ bl o, (some ⟨W6.heap.size, 0, none⟩ : Option Addr) = some ⟨bl, o, none⟩ → ¬ Q bl ∧ bl < (W6.alloc (.cells (Array.replicate 16 (.int .u8 0)) 5)).heap.size from fun bl o e => by
  injection e with e
  injection e with e
  subst e
  exact ⟨HPd.out.not_new (Nat.le_refl _), by simp⟩)
 have HP7 := hid (HPd.out.on hb7)
 have HT7 := hid (HTd.out.on hb7)
 have HK7 := hid (HKd.out.on hb7)
 have HI7 := hid (HId.out.belowHere hb7)
 clear hb7
 refine hK.out _ _ (HI7.out) (fun hS1 => ?_)
 try simp only [layR]
 obtain ⟨z6, hz6⟩ : ∃ z, z = W6.heap.size := ⟨_, rfl⟩
 rw [← hz6] at HZ7 HQz ⊢
 clear hz6
 generalize W6.alloc (.cells (Array.replicate 16 (.int .u8 0)) 5) = W7 at *
 refine rd 5 rfl (fun K' hK => ?_)
 go_simp
 refine (HTw.out W7 _ 16 HP7.out HT7.out HZ7.out (Nat.le_refl _) HQz.out).mono ?_
 rintro e W8 ⟨rfl, hp8⟩
 obtain ⟨U, hU⟩ : ∃ U, U = Up Q W7 W8 := ⟨_, rfl⟩
 have HP8 := hid (show PlM NB B U W8 P f S1 from by rw [hU]; exact hp8.1)
 have HU := hid (show ∀ q, U q → Q q ∨ w.heap.size ≤ q from fun q hq => by
  rw [hU] at hq
  rcases hq with h1 | h1
  ·exact .inl h1
  ·exact .inr (by have := HK7.out.size; omega))
 have HK8 := hid (HK7.out.trans hp8.2)
 have HI8 := hid (HI7.out.kq hp8.2 HQ7.out.1)
 have HU7 := hid (show ¬ U I7 from by rw [hU]; exact fun h => HQ7.out.1 (up_of h HI7.out.lt))
 have HT8 := hid (HT7.out.kq hp8.2 HTQ.out)
 have HUT := hid (show ¬ U T from fun h => by
  rcases HU.out T h with h1 | h1
  ·exact HTQ.out h1
  ·have := HTl.out; omega)
 clear hp8 hU
 refine hK.out _ _ (HI8.out) (fun hS2 => ?_)
 try simp only [layR]
 refine tk 6 ((.int .i64 0)) rfl (fun _ _ => rfl) ?_
 refine wpAnyH_done (by kernel_rfl) ?_ _
 refine NoPanic.normal ?_
 clear hS0 hS1 hS2 hmk g1
 go_wp2_with fail
 refine (HIn.out W8 U HP8.out HT8.out).mono ?_
 rintro e W9 ⟨rfl, hp9, hk9⟩
 have HP9 := hid hp9
 have HT9 := hid (HT8.out.kq hk9 HUT.out)
 have HK9 := hid (HK8.out.then_ hk9 HU.out)
 have HI9 := hid (HI8.out.kq hk9 HU7.out)
 clear hp9 hk9
 obtain ⟨W10, hW10⟩ : ∃ W, W = W9.setRow I7 #[.int .i64 fi1.k, .int .i64 fi1.l, .int .i64 fi1.s, .int .i64 (nd fi1 0), .int .i64 (nd fi1 1), .int .i64 (nd fi1 2), .int .i64 (nd fi1 3), .int .i64 (nd fi1 4), .int .i64 (nd fi1 5), .int .i64 (fi1.io.s : Int), .int .i64 (fi1.io.b : Int)] := ⟨_, rfl⟩
 have hkr := kq_rowOne W9 I7 #[.int .i64 fi1.k, .int .i64 fi1.l, .int .i64 fi1.s, .int .i64 (nd fi1 0), .int .i64 (nd fi1 1), .int .i64 (nd fi1 2), .int .i64 (nd fi1 3), .int .i64 (nd fi1 4), .int .i64 (nd fi1 5), .int .i64 (fi1.io.s : Int), .int .i64 (fi1.io.b : Int)]
 rw [← hW10] at hkr
 have HI10 := hid (show Blk W10 I7 35 (nfC fi1) from by rw [hW10]; exact HI9.out.row _)
 have HP10 := hid (HP9.out.kq hkr fun q hq e => HU7.out (e ▸ hq))
 have HT10 := hid (HT9.out.kq hkr fun e => by have := HTl.out; have := HQ7.out.2; omega)
 have HK10 := hid (HK9.out.then_ hkr fun q e => .inr (by have := HQ7.out.2; omega))
 have HW10 := hid hW10
 clear hkr hW10
 go_upto_region 16 with (refine wpList_store_blk rfl rfl _ _ _ rfl I7 #[.int .i64 fi1.k, .int .i64 fi1.l, .int .i64 fi1.s, .int .i64 (nd fi1 0), .int .i64 (nd fi1 1), .int .i64 (nd fi1 2), .int .i64 (nd fi1 3), .int .i64 (nd fi1 4), .int .i64 (nd fi1 5), .int .i64 (fi1.io.s : Int), .int .i64 (fi1.io.b : Int)] rfl rfl 35 _ HI9.out rfl nodInfo (nfOne fi1) ?_; rw [← HW10.out])
 have hbd := below_drew W10
 have HPe := hid (HP10.out.on hbd)
 have HTe := hid (HT10.out.on hbd)
 have HKe := hid (HK10.out.on hbd)
 have HIe := hid (HI10.out.belowHere hbd)
 clear hbd
 have HSf := hid (fun W (h1 : TrB W T P) (h2 : Blk W I7 35 (nfC fi1)) => (⟨h1.c0, h2⟩ : W.cell? ⟨T, 0, none⟩ = some (.pointer (some ⟨P, 0, none⟩)) ∧ Blk W I7 35 (nfC fi1)))
 refine wp_region_noPanic ?_
 refine wp_region_held_drew (S := (fun W' => W'.cell? ⟨T, 0, none⟩ = some (.pointer (some ⟨P, 0, none⟩)) ∧ Blk W' I7 35 (nfC fi1))) (by kernel_rfl) (HSf.out _ HTe.out HIe.out) (fun hS0 => ?_)
 generalize W10.drew = W0 at *
 refine tk 0 ((.pointer (some ⟨T, 0, none⟩))) rfl (fun _ _ => rfl) ?_
 try simp only [layR]
 refine tk 1 ((.pointer (some ⟨T, 0, none⟩))) rfl (fun W hSw => ?_) ?_
 ·skip
  go_simp
 try simp only [layR]
 refine tk 2 ((.pointer (some ⟨T, 0, none⟩))) rfl (fun W hSw => ?_) ?_
 ·skip
  go_simp
 try simp only [layR]
 refine tk 3 ((.pointer (some ⟨P, 0, none⟩))) rfl (fun W hSw => ?_) ?_
 ·have y0 := hSw.1
  go_simp
 try simp only [layR]
 refine tk 4 ((.agg (nfC fi1))) rfl (fun W hSw => ?_) ?_
 ·obtain ⟨y0, y1, y2, y3, y4, y5, y6, y7, y8, y9, y10⟩ := nfc_cells hSw.2; unfold nfC
  go_simp
 try simp only [layR]
 refine tk 5 ((.slice a5 tt c5)) rfl (fun _ _ => rfl) ?_
 try simp only [layR]
 have q6 := HTt.out.2
 refine tk 6 ((.int .i64 (tt : Int))) rfl (fun W hSw => ?_) ?_
 ·skip
  go_simp
 try simp only [layR]
 clear q6
 refine wpAnyH_ready (rs := [7, 11]) (by kernel_rfl) (by simp) ?_
 refine AllReadyH.cons rfl (fun K' hK => ?_) (AllReadyH.cons rfl (fun K' hK => ?_) (AllReadyH.nil))
 ·go_simp
  refine (HTc.out W0 U HPe.out).mono ?_
  rintro e W11 ⟨rfl, hp2⟩
  have HP11 := hid hp2
  have HT11 := hid (HTe.out.kq hp2.2 HUT.out)
  have HI11 := hid (HIe.out.kq hp2.2 HU7.out)
  clear hp2
  refine hK.out _ _ (HSf.out _ HT11.out HI11.out) (fun hS2 => ?_)
  try simp only [layR]
  refine tk 8 ((.tuple #[.agg (nfC fi2), .int .i64 0])) rfl (fun _ _ => rfl) ?_
  try simp only [layR]
  refine tk 9 ((.agg (nfC fi2))) rfl (fun _ _ => rfl) ?_
  try simp only [layR]
  refine tk 10 ((.int .i64 0)) rfl (fun _ _ => rfl) ?_
  try simp only [layR]
  refine rd 11 rfl (fun K' hK => ?_)
  go_simp
  have hb3 := (Below.refl W11.heap.size W11).alloc (Nat.le_refl _) (.cells #[.int .i64 0, .int .i64 0, .int .i64 0, .int .i64 0, .int .i64 0, .int .i64 0, .int .i64 0, .int .i64 0, .int .i64 0, .int .i64 0, .int .i64 0] 35)
  have HN3 := hid (Blk.new W11 35 #[.int .i64 0, .int .i64 0, .int .i64 0, .int .i64 0, .int .i64 0, .int .i64 0, .int .i64 0, .int .i64 0, .int .i64 0, .int .i64 0, .int .i64 0])
  have HT3 := hid (HT11.out.on hb3)
  have HI3 := hid (HI11.out.belowHere hb3)
  have HB4 := hid (hb3.setRow_ (Nat.le_refl _) (nfC fi2))
  clear hb3
  refine hK.out _ _ (HSf.out _ HT3.out HI3.out) (fun hS3 => ?_)
  try simp only [layR]
  refine rd 12 rfl (fun K' hK => ?_)
  refine step_storeT rfl _ _ _ rfl (W11.heap.size) (nfC fi2) rfl rfl 35 _ HN3.out nfInfo rfl hone ?_
  have HJ4 := hid (HN3.out.row (nfC fi2))
  have HT4 := hid (HT11.out.on HB4.out)
  have HI4 := hid (HI11.out.belowHere HB4.out)
  have HP4 := hid (HP11.out.on HB4.out HPe.out.base)
  generalize (W11.alloc (.cells #[.int .i64 0, .int .i64 0, .int .i64 0, .int .i64 0, .int .i64 0, .int .i64 0, .int .i64 0, .int .i64 0, .int .i64 0, .int .i64 0, .int .i64 0] 35)).setRow W11.heap.size (nfC fi2) = W4 at *
  refine hK.out _ _ (HSf.out _ HT4.out HI4.out) (fun hS4 => ?_)
  try simp only [layR]
  refine tk 13 ((.int .i64 0)) rfl (fun _ _ => rfl) ?_
  refine wpAnyH_done (by kernel_rfl) ?_ _
  refine NoPanic.normal ?_
  clear hS0 hS2 hS3 hS4 hone
  obtain ⟨y0, y1, y2, y3, y4, y5, y6, y7, y8, y9, y10⟩ := nfc_cells HJ4.out
  have HSt2 := hid (HSt.out W4 _ HP4.out.1 HT4.out fun h => HUT.out (up_of h HTe.out.lt))
  unfold nfC at HSt2
  go_wp2_with fail
  refine HSt2.out.mono ?_
  rintro e W5 ⟨rfl, hp5⟩
  have HP5 := hid (HP4.out.then_ hp5)
  clear hp5 y0 y1 y2 y3 y4 y5 y6 y7 y8 y9 y10
  go_wp2
  go_ret
  refine ⟨rfl, S3, fi2, HDs.out, HH.out.fin HP5.out.1 (fun q hq => ?_) (HKe.out.then_ HP5.out.2 HU.out) fun q hq => .inl hq⟩
  rcases hq with h1 | h1
  ·exact HU.out q h1
  ·exact .inr (by have := HKe.out.size; omega)
 ·go_simp
  have hb3 := (Below.refl W0.heap.size W0).alloc (Nat.le_refl _) (.cells #[.int .i64 0, .int .i64 0, .int .i64 0, .int .i64 0, .int .i64 0, .int .i64 0, .int .i64 0, .int .i64 0, .int .i64 0, .int .i64 0, .int .i64 0] 35)
  have HN3 := hid (Blk.new W0 35 #[.int .i64 0, .int .i64 0, .int .i64 0, .int .i64 0, .int .i64 0, .int .i64 0, .int .i64 0, .int .i64 0, .int .i64 0, .int .i64 0, .int .i64 0])
  have HT3 := hid (HTe.out.on hb3)
  have HI3 := hid (HIe.out.belowHere hb3)
  have HP3 := hid (HPe.out.on hb3)
  have HK3 := hid (HKe.out.on hb3)
  have HJQ := hid (HPe.out.not_new (Nat.le_refl _))
  obtain ⟨J, hJ⟩ : ∃ J, J = W0.heap.size := ⟨_, rfl⟩
  have HJw := hid (show w.heap.size ≤ J ∧ I7 ≠ J ∧ T ≠ J from ⟨by rw [hJ]; exact HKe.out.size, fun e => by have := HIe.out.lt; omega, fun e => by have := HTe.out.lt; omega⟩)
  rw [← hJ] at HN3 HJQ
  clear hb3
  refine hK.out _ _ (HSf.out _ HT3.out HI3.out) (fun hS3 => ?_)
  try simp only [layR]
  rw [← hJ]
  clear hJ
  generalize W0.alloc (.cells #[.int .i64 0, .int .i64 0, .int .i64 0, .int .i64 0, .int .i64 0, .int .i64 0, .int .i64 0, .int .i64 0, .int .i64 0, .int .i64 0, .int .i64 0] 35) = W3 at *
  refine rd 7 rfl (fun K' hK => ?_)
  go_simp
  refine (HTc.out W3 U HP3.out).mono ?_
  rintro e W11 ⟨rfl, hp2⟩
  have HP11 := hid hp2
  have HT11 := hid (HT3.out.kq hp2.2 HUT.out)
  have HI11 := hid (HI3.out.kq hp2.2 HU7.out)
  have HN11 := hid (HN3.out.kq hp2.2 HJQ.out)
  have HK11 := hid (HK3.out.then_ hp2.2 HU.out)
  clear hp2
  refine hK.out _ _ (HSf.out _ HT11.out HI11.out) (fun hS2 => ?_)
  try simp only [layR]
  refine tk 8 ((.tuple #[.agg (nfC fi2), .int .i64 0])) rfl (fun _ _ => rfl) ?_
  try simp only [layR]
  refine tk 9 ((.agg (nfC fi2))) rfl (fun _ _ => rfl) ?_
  try simp only [layR]
  refine tk 10 ((.int .i64 0)) rfl (fun _ _ => rfl) ?_
  try simp only [layR]
  refine rd 12 rfl (fun K' hK => ?_)
  refine step_storeT rfl _ _ _ rfl J (nfC fi2) rfl rfl 35 _ HN11.out nfInfo rfl hone ?_
  have hkr := kq_rowOne W11 J (nfC fi2)
  have HJ4 := hid (HN11.out.row (nfC fi2))
  have HT4 := hid (HT11.out.kq hkr HJw.out.2.2)
  have HI4 := hid (show Blk (W11.setRow J (nfC fi2)) I7 35 (nfC fi1) from HI11.out.kq hkr HJw.out.2.1)
  have HP4 := hid (HP11.out.1.kq hkr fun q hq e => by
   subst e
   exact HJQ.out (up_of hq HN3.out.lt))
  have HK4 := hid (HK11.out.then_ hkr fun q e => .inr (by have := HJw.out.1; omega))
  have HU4 := hid (show ∀ q, Up U W3 W11 q → Q q ∨ w.heap.size ≤ q from fun q hq => by
   rcases hq with h1 | h1
   ·exact HU.out q h1
   ·exact .inr (by have := HK3.out.size; omega))
  have HUT4 := hid (show ¬ Up U W3 W11 T from fun h => HUT.out (up_of h HT3.out.lt))
  clear hkr
  generalize Up U W3 W11 = U4 at *
  generalize W11.setRow J (nfC fi2) = W4 at *
  refine hK.out _ _ (HSf.out _ HT4.out HI4.out) (fun hS4 => ?_)
  try simp only [layR]
  refine tk 13 ((.int .i64 0)) rfl (fun _ _ => rfl) ?_
  refine wpAnyH_done (by kernel_rfl) ?_ _
  refine NoPanic.normal ?_
  clear hS0 hS2 hS3 hS4 hone
  obtain ⟨y0, y1, y2, y3, y4, y5, y6, y7, y8, y9, y10⟩ := nfc_cells HJ4.out
  have HSt2 := hid (HSt.out W4 _ HP4.out HT4.out HUT4.out)
  unfold nfC at HSt2
  go_wp2_with fail
  refine HSt2.out.mono ?_
  rintro e W5 ⟨rfl, hp5⟩
  have HP5 := hid hp5
  clear hp5 y0 y1 y2 y3 y4 y5 y6 y7 y8 y9 y10
  go_wp2
  go_ret
  refine ⟨rfl, S3, fi2, HDs.out, HH.out.fin HP5.out.1 (fun q hq => ?_) (HK4.out.then_ HP5.out.2 HU4.out) fun q hq => .inl hq⟩
  rcases hq with h1 | h1
  ·exact HU4.out q h1
  ·exact .inr (by have := HK4.out.size; omega)
end
section
open Pol Spr
open Dir (used nmAt findR)
namespace Nam
def txt (k : Nat) : List UInt8 := if k < 10 then [UInt8.ofNat (48 + k)] else [UInt8.ofNat (48 + k / 10), UInt8.ofNat (48 + k % 10)]
theorem txt_ok : ∀ k, k < 100 → Dir.writeE ⟨2, txt k⟩ = 0 := by decide +kernel
theorem txt_inj : ∀ i, i < 100 → ∀ j, j < 100 → txt i = txt j → i = j := by decide +kernel
theorem dir_room : ∀ n : Nat, n < 101 → Room.dir 64 (n : Int) = (((cnt (pgN (16 * n)) : Nat) : Int), 0) := by decide +kernel
structure Nm (X : List UInt8) (L : List Nat) : Prop where
 good : Dir.Good X
 hun : ∀ i ∈ L, i < 100
 of_ : ∀ j, j < Dir.cnt X → used X j → (∃ i ∈ L, nmAt X j = txt i) ∧ (Dir.rd X j).1.i = 2
 has : ∀ i ∈ L, ∃ j, j < Dir.cnt X ∧ used X j ∧ nmAt X j = txt i
variable {X : List UInt8} {L : List Nat}
theorem Nm.start : Nm [] [] := by
 have h0 : Dir.cnt [] = 0 := rfl
 refine ⟨⟨rfl, fun k hk => ?_, fun j k _ hk => ?_, .inl rfl⟩, fun i h => ?_, fun j hj => ?_, fun i h => ?_⟩
 ·rw [h0] at hk; omega
 ·rw [h0] at hk; omega
 ·cases h
 ·rw [h0] at hj; omega
 ·cases h
theorem Nm.none (h : Nm X L) {i : Nat} (hi : i < 100) (hn : i ∉ L) : ∀ k, k < Dir.cnt X → used X k → nmAt X k ≠ txt i := fun k hk hu e => by
 obtain ⟨⟨j, hj, e2⟩, _⟩ := h.of_ k hk hu
 have := txt_inj i hi j (h.hun j hj) (e.symm.trans e2)
 subst this
 exact hn hj
theorem Nm.addE (h : Nm X L) {i : Nat} (hi : i < 100) (hn : i ∉ L) : Dir.addE X ⟨2, txt i⟩ = 0 := by
 unfold Dir.addE
 rw [if_pos (Dir.good_iff.2 h.good), if_pos (txt_ok i hi), Dir.find_no (nm := txt i) (h.none hi hn)]
 rfl
theorem Nm.add (h : Nm X L) {i : Nat} (hi : i < 100) (hn : i ∉ L) {r : Nat} (hr : Dir.IsRoom X r) : Nm (Dir.addedAt X ⟨2, txt i⟩ r) (L ++ [i]) := by
 have a := Dir.added (h.addE hi hn) hr
 have hnot : r < Dir.cnt X → ¬ used X r := fun hlt => Dir.not_used_room (hr.2.2 hlt)
 refine ⟨a.good, fun j hj => ?_, fun j hj hu => ?_, fun j hj => ?_⟩
 ·rcases List.mem_append.1 hj with h1 | h1
  ·exact h.hun j h1
  ·rw [List.mem_singleton.1 h1]; exact hi
 ·by_cases e : j = r
  ·subst e
   unfold nmAt
   rw [a.new]
   exact ⟨⟨i, by simp, rfl⟩, rfl⟩
  ·have hlt : j < Dir.cnt X := (a.cnt j hj).resolve_right e
   have e2 := a.old j hlt e
   unfold used at hu
   rw [e2] at hu
   obtain ⟨⟨q, hq, h3⟩, h4⟩ := h.of_ j hlt hu
   unfold nmAt at h3 ⊢
   rw [e2]
   exact ⟨⟨q, by simp [hq], h3⟩, h4⟩
 ·rcases List.mem_append.1 hj with h1 | h1
  ·obtain ⟨q, q1, q2, q3⟩ := h.has j h1
   have hne : q ≠ r := fun e => by
    subst e
    exact hnot q1 q2
   have e2 := a.old q q1 hne
   refine ⟨q, Nat.lt_of_lt_of_le q1 a.more, ?_, ?_⟩
   ·unfold used; rw [e2]; exact q2
   ·unfold nmAt; rw [e2]; exact q3
  ·rw [List.mem_singleton.1 h1]
   refine ⟨r, a.here, ?_, ?_⟩
   ·unfold used; rw [a.new]
   ·unfold nmAt; rw [a.new]
theorem Nm.find (h : Nm X L) {i : Nat} (hi : i ∈ L) : ∃ k : Nat, findR X (txt i) = ((k : Int), 2) := by
 obtain ⟨k, k1, k2, k3⟩ := h.has i hi
 refine ⟨k, ?_⟩
 rw [Dir.find_is h.good k1 k2 k3, (h.of_ k k1 k2).2]
theorem Nm.namedE (h : Nm X L) {i : Nat} (hi : i ∈ L) : Dir.namedE X (txt i) = 0 := by
 obtain ⟨k, hk⟩ := h.find hi
 unfold Dir.namedE
 rw [if_pos (Dir.good_iff.2 h.good), hk, if_pos (by show (0 : Int) ≤ (k : Int); omega)]
theorem Nm.del (h : Nm X L) {i : Nat} (hi : i ∈ L) {L' : List Nat} (hL : ∀ j, j ∈ L' ↔ j ∈ L ∧ j ≠ i) : Nm (Dir.removedL X (txt i)) L' := by
 have hn := h.namedE hi
 obtain ⟨hg, hk, hu, hnm⟩ := Dir.named_at hn
 obtain ⟨t, _, _, _, r1, r2⟩ := removed_is hn
 refine ⟨Dir.good_iff.1 (Dir.removed_keeps hn).1, fun j hj => h.hun j ((hL j).1 hj).1, fun j hj hv => ?_, fun j hj => ?_⟩
 ·obtain ⟨a1, a2, a3, a4⟩ := r1 j hj hv
  obtain ⟨⟨q, hq, h3⟩, h4⟩ := h.of_ j a1 a2
  have e : nmAt (Dir.removedL X (txt i)) j = nmAt X j := by unfold nmAt; rw [a4]
  rw [e, a4]
  refine ⟨⟨q, (hL q).2 ⟨hq, fun e2 => ?_⟩, h3⟩, h4⟩
  subst e2
  rcases Nat.lt_or_ge j (Dir.namedK X (txt q)) with hlt | hge
  ·exact hg.apart j _ hlt hk a2 hu (h3.trans hnm.symm)
  ·exact hg.apart _ j (by omega) a1 hu a2 (hnm.trans h3.symm)
 ·obtain ⟨h1, h2⟩ := (hL j).1 hj
  obtain ⟨q, q1, q2, q3⟩ := h.has j h1
  have hne : q ≠ Dir.namedK X (txt i) := fun e => by
   subst e
   exact h2 (txt_inj j (h.hun j h1) i (h.hun i hi) (q3.symm.trans hnm))
  obtain ⟨a1, a2, a3⟩ := r2 q q1 q2 hne
  exact ⟨q, a1, a2, by unfold nmAt; rw [a3]; exact q3⟩
theorem Nm.empty (h : Nm X []) : X = [] := by
 have h0 : Dir.cnt X = 0 := by
  rcases h.good.last with h1 | h1
  ·exact h1
  ·by_cases h2 : Dir.cnt X = 0
   ·exact h2
   ·obtain ⟨⟨i, hi, _⟩, _⟩ := h.of_ _ (by omega) h1
    cases hi
 exact List.eq_nil_of_length_eq_zero (by rw [h.good.len, h0])
theorem room_full {r : Nat} (hr : Dir.IsRoom X r) (hu : ∀ j, j < Dir.cnt X → used X j) : r = Dir.cnt X := by
 rcases Nat.lt_or_ge r (Dir.cnt X) with h1 | h1
 ·exact absurd (hu r h1) (Dir.not_used_room (hr.2.2 h1))
 ·have := hr.2.1
  omega
theorem Nm.full_add (h : Nm X L) {i : Nat} (hi : i < 100) (hn : i ∉ L) {r : Nat} (hr : Dir.IsRoom X r) (hu : ∀ j, j < Dir.cnt X → used X j) :
  (∀ j, j < Dir.cnt (Dir.addedAt X ⟨2, txt i⟩ r) → used (Dir.addedAt X ⟨2, txt i⟩ r) j) ∧ (Dir.addedAt X ⟨2, txt i⟩ r).length = X.length + 16 := by
 have a := Dir.added (h.addE hi hn) hr
 have e := room_full hr hu
 refine ⟨fun j hj => ?_, ?_⟩
 ·by_cases e2 : j = r
  ·subst e2
   unfold used; rw [a.new]
  ·have hlt := (a.cnt j hj).resolve_right e2
   unfold used
   rw [a.old j hlt e2]
   exact hu j hlt
 ·unfold Dir.addedAt
  rw [if_pos e, List.length_append, Dir.slotL_len ⟨2, txt i⟩ (Dir.nameE_len ((Dir.writeE_iff _).1 (txt_ok i hi)).2).2]
theorem perm_del {L R : List Nat} {a : Nat} (p : L.Perm (a :: R)) (hd : L.Nodup) : R.Nodup ∧ ∀ j, j ∈ R ↔ j ∈ L ∧ j ≠ a := by
 have h := List.nodup_cons.1 (p.nodup_iff.1 hd)
 refine ⟨h.2, fun j => ?_⟩
 rw [p.mem_iff, List.mem_cons]
 constructor
 ·intro hj
  exact ⟨.inr hj, fun e => h.1 (e ▸ hj)⟩
 ·rintro ⟨h1 | h1, h2⟩
  ·exact absurd h1 h2
  ·exact h1
theorem swap_mem {L : List Nat} (hd : L.Nodup) {t : Nat} (ht : t < L.length) {a b : Nat} (ha : L[t] = a) (hb : L[L.length - 1]'(by omega) = b) :
  ((L.set t b).take (L.length - 1)).Nodup ∧ ∀ j, j ∈ (L.set t b).take (L.length - 1) ↔ j ∈ L ∧ j ≠ a := by
 rcases List.eq_nil_or_concat L with h | ⟨Y, c, h⟩
 ·subst h; exact absurd ht (Nat.not_lt_zero _)
 ·rw [List.concat_eq_append] at h
  subst h
  have hc : c = b := by
   rw [← hb, List.getElem_append_right (by simp)]
   simp
  subst hc
  have hl : (Y ++ [c]).length - 1 = Y.length := by simp
  by_cases h1 : t < Y.length
  ·have ha2 : Y[t] = a := by rw [← ha, List.getElem_append_left h1]
   have hY : Y = Y.take t ++ a :: Y.drop (t + 1) := by
    conv => lhs; rw [← List.take_append_drop t Y, List.drop_eq_getElem_cons h1, ha2]
   have e : ((Y ++ [c]).set t c).take ((Y ++ [c]).length - 1) = Y.take t ++ c :: Y.drop (t + 1) := by
    rw [hl, List.set_append_left _ _ h1, List.take_left' (by simp), List.set_eq_take_append_cons_drop, if_pos h1]
   rw [e]
   refine perm_del ?_ hd
   have p1 : (Y ++ [c]).Perm (a :: (Y.take t ++ (Y.drop (t + 1) ++ [c]))) := by
    conv => lhs; rw [hY]
    rw [List.append_assoc, List.cons_append]
    exact List.perm_middle
   exact p1.trans ((List.Perm.append_left _ (List.perm_append_singleton c _)).cons a)
  ·have h2 : t = Y.length := by rw [List.length_append, List.length_singleton] at ht; omega
   subst h2
   have hac : c = a := by
    rw [← ha, List.getElem_append_right (Nat.le_refl _)]
    simp
   subst hac
   have e : ((Y ++ [c]).set Y.length c).take ((Y ++ [c]).length - 1) = Y := by
    rw [hl, List.set_append_right _ _ (Nat.le_refl _), List.take_left' rfl]
   rw [e]
   exact perm_del (List.perm_append_singleton c Y) hd
def fi0 : Nf := ⟨2, 0, 0, ⟨[0, 0, 0, 0, 0, 0], 0, 0⟩⟩
theorem zero_tab : (Nod.getN Pol.zeros ((0 : Nat) : Int)).k = 0 ∧ Nod.getE Pol.zeros ((0 : Nat) : Int) = 0 ∧ (Nod.getN Pol.zeros ((1 : Nat) : Int)).k = 0 ∧ Nod.getE Pol.zeros ((1 : Nat) : Int) = 0 := by decide +kernel
theorem Ds.start {f : Fm} (hz : pgF f [] 1 = Pol.zeros) (hok : (Ps.new0 f 2 60 4).Ok) :
  (indE (Ps.new0 f 2 60 4) 1 = 0 ∧ (ind (Ps.new0 f 2 60 4) 1).k = 0) ∧
  (indE (setI (Ps.new0 f 2 60 4) 1 (nodOf fi0)) 1 = 0 ∧ (ind (setI (Ps.new0 f 2 60 4) 1 (nodOf fi0)) 1).k ≠ 0) ∧
  (indE (setI (Ps.new0 f 2 60 4) 1 (nodOf fi0)) 2 = 0 ∧ (ind (setI (Ps.new0 f 2 60 4) 1 (nodOf fi0)) 2).k = 0) ∧
  Ds (setI (setI (Ps.new0 f 2 60 4) 1 (nodOf fi0)) 2 fileN) fi0 [] := by
 obtain ⟨z1, z2, z3, z4⟩ := zero_tab
 have g0 : (Ps.new0 f 2 60 4).g 1 = Pol.zeros := by
  show (if 1 ≤ 1 ∧ 1 ≤ 2 then pgF f [] 1 else []) = _
  rw [if_pos ⟨by omega, by omega⟩, hz]
 obtain ⟨s0, hs0⟩ : ∃ s0, s0 = Ps.new0 f 2 60 4 := ⟨_, rfl⟩
 have htb : s0.tb = 2 := by rw [hs0]; rfl
 have hnp : s0.np = 60 := by rw [hs0]; rfl
 have hus : s0.us = [] := by rw [hs0]; rfl
 have hin : s0.ino = 4 := by rw [hs0]; rfl
 rw [← hs0] at g0 hok ⊢
 clear hs0
 have r1 : Nod.Right (nodOf fi0) := right_new (kd := 2) (.inr rfl)
 have r2 : Nod.Right fileN := right_new (kd := 1) (.inl rfl)
 have g1 : (setI s0 1 (nodOf fi0)).g 1 = Nod.putAt Pol.zeros 0 (nodOf fi0) := by
  rw [← g0]
  show (s0.put 1 (Nod.putAt (s0.g 1) 0 (nodOf fi0))).g 1 = _
  rw [put_g, if_pos rfl]
 have l1 : (Nod.putAt Pol.zeros 0 (nodOf fi0)).length = 64 := by rw [Nod.putAt_len (by rw [Pol.zeros_len]; omega), Pol.zeros_len]
 have i0 := in_two Pol.zeros_len (k := 0) (by omega)
 have i1 := in_two l1 (k := 1) (by omega)
 obtain ⟨a1, a2⟩ := Nod.get_here (i := nodOf fi0) i0 r1
 obtain ⟨b1, b2⟩ := Nod.get_other (t := ((1 : Nat) : Int)) (i := nodOf fi0) i0 (by decide)
 have g2 : (setI (setI s0 1 (nodOf fi0)) 2 fileN).g 1 = Nod.putAt (Nod.putAt Pol.zeros 0 (nodOf fi0)) 1 fileN := by
  rw [← g1]
  show ((setI s0 1 (nodOf fi0)).put 1 (Nod.putAt ((setI s0 1 (nodOf fi0)).g 1) 1 fileN)).g 1 = _
  rw [put_g, if_pos rfl]
 obtain ⟨c1, c2⟩ := Nod.get_here (i := fileN) i1 r2
 obtain ⟨d1, d2⟩ := Nod.get_other (t := ((0 : Nat) : Int)) (i := fileN) i1 (by decide)
 have l2 : (Nod.putAt (Nod.putAt Pol.zeros 0 (nodOf fi0)) 1 fileN).length = 64 := by rw [Nod.putAt_len (by rw [l1]; omega), l1]
 have hth : s0.There 1 := .inl ⟨by omega, by omega⟩
 have ok1 : (setI s0 1 (nodOf fi0)).Ok := hok.put hth (by
  show (Nod.putAt (s0.g 1) 0 (nodOf fi0)).length = 64
  rw [g0]; exact l1)
 have ok2 : (setI (setI s0 1 (nodOf fi0)) 2 fileN).Ok := ok1.put (.inl ⟨by omega, by show 1 ≤ s0.tb; omega⟩) (by
  show (Nod.putAt ((setI s0 1 (nodOf fi0)).g 1) 1 fileN).length = 64
  rw [g1]; exact l2)
 refine ⟨?_, ?_, ?_, ?_⟩
 ·unfold ind indE
  show Nod.getE (s0.g 1) ((0 : Nat) : Int) = 0 ∧ (Nod.getN (s0.g 1) ((0 : Nat) : Int)).k = 0
  rw [g0]
  exact ⟨z2, z1⟩
 ·unfold ind indE
  show Nod.getE ((setI s0 1 (nodOf fi0)).g 1) ((0 : Nat) : Int) = 0 ∧ (Nod.getN ((setI s0 1 (nodOf fi0)).g 1) ((0 : Nat) : Int)).k ≠ 0
  rw [g1]
  refine ⟨a2, ?_⟩
  have e : (Nod.getN (Nod.putAt Pol.zeros 0 (nodOf fi0)) ((0 : Nat) : Int)) = nodOf fi0 := a1
  rw [e]
  decide
 ·unfold ind indE
  show Nod.getE ((setI s0 1 (nodOf fi0)).g 1) ((1 : Nat) : Int) = 0 ∧ (Nod.getN ((setI s0 1 (nodOf fi0)).g 1) ((1 : Nat) : Int)).k = 0
  rw [g1]
  refine ⟨b2.trans z4, ?_⟩
  have e : (Nod.getN (Nod.putAt Pol.zeros 0 (nodOf fi0)) ((1 : Nat) : Int)) = Nod.getN Pol.zeros ((1 : Nat) : Int) := b1
  rw [e]
  exact z3
 ·refine ⟨⟨ok2, htb, hnp, fun p => ?_, by decide, rfl, fun k hk => ?_, rfl, rfl, fun h6 => absurd h6 (by decide), fun j hj => absurd hj (by show ¬ j < 0; omega), rfl⟩, hin, rfl, rfl, rfl, ?_, ?_, rfl, by decide⟩
  ·show p ∈ s0.us ↔ 3 ≤ p ∧ p < 3 + 0
   rw [hus]
   constructor
   ·intro h; cases h
   ·intro h; omega
  ·show fi0.io.d.getD k 0 = if k < 0 then _ else 0
   rw [if_neg (by omega)]
   obtain h | h | h | h | h | h : k = 0 ∨ k = 1 ∨ k = 2 ∨ k = 3 ∨ k = 4 ∨ k = 5 := by omega
   all_goals (subst h; rfl)
  ·unfold ind indE
   show Nod.getN ((setI (setI s0 1 (nodOf fi0)) 2 fileN).g 1) ((0 : Nat) : Int) = nodOf fi0 ∧ Nod.getE ((setI (setI s0 1 (nodOf fi0)) 2 fileN).g 1) ((0 : Nat) : Int) = 0
   rw [g2]
   exact ⟨d1.trans a1, d2.trans a2⟩
  ·unfold ind indE
   show Nod.getN ((setI (setI s0 1 (nodOf fi0)) 2 fileN).g 1) ((1 : Nat) : Int) = fileN ∧ Nod.getE ((setI (setI s0 1 (nodOf fi0)) 2 fileN).g 1) ((1 : Nat) : Int) = 0
   rw [g2]
   exact ⟨c1, c2⟩
end Nam
end
section
open Go.RowKit

theorem infoS : (Tryz.prog.info? 9).map (fun i => (i.zero, i.size, i.bytes)) = some (some (.string ByteArray.empty), 1, 16) := by kernel_rfl
section
variable {w : World} {ops : Array Oper} {rest : List Oper} {o : Oper} {ac : Act} {Q : Exit → Act → World → Prop}
end
theorem cutS_to (a : Option Addr) (n c h : Nat) (hl : h ≤ c) (w : World) : (Instr.slice 55 (.slice a n c) none (some (.int .i64 (h : Int))) none).run Tryz.prog w = .ok (.slice a h c) w := by
 obtain ⟨i0, hi, hz0, hz1, hz2⟩ := info_parts infoS
 exact run_cut_to Tryz.underlying55 hi a n c h hl w
end
section
open Go.RowKit

theorem text1_calls {n : Nat} (h : n < 10) (w : World) : Calls Tryz.prog 18 #[.int .i64 (n : Int)] w fun e w' => e = .returned (.string (strL (Nam.txt n))) ∧ Below w.heap.size w w' := by
 obtain ⟨b, hb⟩ : ∃ b, b = UInt8.ofNat (48 + n) := ⟨_, rfl⟩
 have ht : Nam.txt n = [b] := by rw [hb]; exact if_pos h
 have hcs : #[Value.int .u8 (48 + (n : Int))] = ([b].map byteV).toArray := by
  rw [hb, List.map_cons, List.map_nil, ← byte_low (48 + n) (by omega)]
  rfl
 have hx : Bytes (w.alloc (.cells #[.int .u8 (48 + (n : Int))] 5)) (w.alloc (.cells #[.int .u8 (48 + (n : Int))] 5)).heap.size (some ⟨w.heap.size, 0, none⟩) 1 [b] := Arr.lit w 5 [b] 1 rfl (by omega) hcs
 have hcv := convB (c := 1) hx
 have HB := hid ((Below.refl w.heap.size w).alloc (Nat.le_refl _) (.cells #[.int .u8 (48 + (n : Int))] 5))
 have g1 : (n : Int) < 10 := by omega
 have q1 := IntWalk.i64_in (48 + (n : Int)) ⟨by omega, by omega⟩
 have q2 := IntWalk.u8_in (48 + (n : Int)) ⟨by omega, by omega⟩
 rw [ht]
 clear hx hcs ht h hb
 go_enter Tryz.func18, Tryz.ntmps18
 go_wp2_with fail
 go_ret
 exact ⟨rfl, HB.out⟩
theorem text_calls {n : Nat} (h : n < 100) (w : World) : Calls Tryz.prog 18 #[.int .i64 (n : Int)] w fun e w' => e = .returned (.string (strL (Nam.txt n))) ∧ Below w.heap.size w w' := by
 by_cases h1 : n < 10
 ·exact text1_calls h1 w
 ·have ht : Nam.txt n = Nam.txt (n / 10) ++ Nam.txt (n % 10) := by
   unfold Nam.txt
   rw [if_neg h1, if_pos (by omega), if_pos (by omega)]
   rfl
  rw [ht]
  have HA := hid (fun w : World => text1_calls (n := n / 10) (by omega) w)
  have HC := hid (fun w : World => text1_calls (n := n % 10) (by omega) w)
  have g1 : ¬ (n : Int) < 10 := by omega
  have q1 : IntKind.i64.wrap ((n : Int) / 10) = ((n / 10 : Nat) : Int) := by
   rw [show (n : Int) / 10 = ((n / 10 : Nat) : Int) from by omega]
   exact IntWalk.i64_in _ ⟨by omega, by omega⟩
  have q2 : (n : Int) % 10 = ((n % 10 : Nat) : Int) := by omega
  have l1 : (Nam.txt (n / 10)).length = 1 := by unfold Nam.txt; rw [if_pos (by omega)]; rfl
  have l2 : (Nam.txt (n % 10)).length = 1 := by unfold Nam.txt; rw [if_pos (by omega)]; rfl
  generalize n / 10 = p at *
  generalize n % 10 = q at *
  clear ht h h1
  go_enter Tryz.func18, Tryz.ntmps18
  go_wp2_with fail
  refine (HA.out w).mono ?_
  rintro e w1 ⟨rfl, hb1⟩
  have HB1 := hid hb1
  clear hb1
  go_wp2_with fail
  refine (HC.out w1).mono ?_
  rintro e w2 ⟨rfl, hb2⟩
  have HB2 := hid (HB1.out.then_ hb2)
  clear hb2
  go_wp2_with fail
  go_ret
  exact ⟨rfl, HB2.out⟩
theorem kq_grown {w w' : World} {row : Option Nat} (h : w.grownBy w' row) : Kq (fun q => row = some q) w w' := ⟨h.os, h.tape, h.output, h.size, fun k hk hn => h.block k hk fun e => hn e.symm⟩
theorem wpList_litS2 {w : World} {ops : Array Oper} {rest : List Oper} {o : Oper} {ac : Act} {Q : Exit → Act → World → Prop} {cs : Array Value} (hgd : o.guard = none) (s x : Operand)
  (ho : o.op = .call { callee := .builtin .append, args := #[s, x], argTypes := #[55, 55] }) (base : Nat)
  (v : Value) (xs : List (List UInt8)) (hs : ac.eval s = v) (hown : Own strV 9 w base v xs) (m : Nat) (ys : List (List UInt8)) (hx : ac.eval x = .slice (some ⟨w.heap.size, 0, none⟩) m m) (hm : ys.length = m) (hcs : cs = (ys.map strV).toArray)
  (hbytes : (xs.length + m) * 16 ≤ 140737488351232) (hbase : base ≤ w.heap.size)
  (h : ∀ v' w', Hid (Own strV 9 w' base v' (xs ++ ys)) → Hid (Kq (fun q => v.ownBlock = some q) w w') → Hid (∀ q, v'.ownBlock = some q → v.ownBlock = some q ∨ w.heap.size ≤ q) → wpList Tryz.prog ops Q rest (ac.put o.dst v') w') : wpList Tryz.prog ops Q (o :: rest) ac (w.alloc (.cells cs 9)) := by
 obtain ⟨i0, hi, hz0, hz1, hz2⟩ := info_parts infoS
 refine wpList_append_Own hgd s x 55 ho base 9 i0 _ 16 Tryz.underlying55 hi hz0 hz1 hz2 rfl strV_one v xs hs (hown.alloc _) _ _ m m ys hx (Arr.lit w 9 ys m hm (by omega) hcs) (by omega) (by simp only [maxLen]; omega) (by simp; omega) fun v' w' h1 h2 h3 => h v' w' (hid h1) (hid ?_) (hid fun q hq => ?_)
 ·exact (Kq.of ((Below.refl w.heap.size w).alloc (Nat.le_refl _) _)).trans (kq_grown h2)
 ·rcases h3 with e | e
  ·exact .inl (e ▸ hq)
  ·rw [e] at hq
   injection hq with hq
   exact .inr (by rw [← hq]; simp)
end
end Go.Proofs.YtcppkaphlcflgaaGreat

import Derived.Test.YtcppkaphlcflgaaGreatNodWrite
import Derived.Test.YtcppkaphlcflgaaGreatInoTab2
import Derived.Test.YtcppkaphlcflgaaGreatDirRem
namespace Go.Proofs.YtcppkaphlcflgaaGreat
open Lib (hid)
set_option maxRecDepth 100000
set_option maxHeartbeats 16000000
section
open Go.RowKit Pol
variable {NB B P T : Nat} {Q : Nat → Prop} {w w' : World} {f : Fm} {s : Ps}

def TrB (w : World) (T P : Nat) : Prop := Blk w T 106 #[.pointer (some ⟨P, 0, none⟩)]
theorem TrB.c0 (h : TrB w T P) : w.cell? ⟨T, 0, none⟩ = some (.pointer (some ⟨P, 0, none⟩)) := Blk.cellv h (i := 0) rfl
theorem TrB.on (h : TrB w T P) (hb : Below w.heap.size w w') : TrB w' T P := Blk.belowHere h hb
theorem TrB.kq {U : Nat → Prop} (h : TrB w T P) (hk : Kq U w w') (hT : ¬ U T) : TrB w' T P := Blk.kq h hk hT
theorem TrB.lt (h : TrB w T P) : T < w.heap.size := Blk.lt h
def ind (s : Ps) (n : Nat) : Nod := Nod.getN (s.g (1 + (n - 1) / 2)) (((n - 1) % 2 : Nat) : Int)
def indE (s : Ps) (n : Nat) : Int := Nod.getE (s.g (1 + (n - 1) / 2)) (((n - 1) % 2 : Nat) : Int)
def setI (s : Ps) (n : Nat) (i : Nod) : Ps := s.put (1 + (n - 1) / 2) (Nod.putAt (s.g (1 + (n - 1) / 2)) ((n - 1) % 2) i)
theorem layInfo : (Tryz.prog.info? 32).map (·.size) = some 4 := by kernel_rfl
theorem layF3 (a b c d : Value) : ∀ u : World, (Instr.field 32 (.agg #[a, b, c, d]) 3).run Tryz.prog u = .ok d u := fun u => by kernel_rfl
theorem layOne (a b c d : Int) : (#[.int .i64 a, .int .i64 b, .int .i64 c, .int .i64 d] : Array Value).all (·.oneCell') = true := by simp [Value.oneCell']
theorem polLayout_calls (h : PlM NB B Q w P f s) : Calls Tryz.prog 93 #[.pointer (some ⟨P, 0, none⟩)] w fun e w' => e = .returned (.agg #[.int .i64 (s.tb : Int), .int .i64 ((s.tb : Int) + 1), .int .i64 (s.np : Int), .int .i64 (s.ino : Int)]) ∧ Below w.heap.size w w' := by
 have hb := (Below.refl w.heap.size w).alloc (Nat.le_refl _) (.cells #[.int .i64 0, .int .i64 0, .int .i64 0, .int .i64 0] 32)
 have h1 := h.on hb
 have c1 := h1.c1
 have c2 := h1.c2
 have c3 := h1.c3
 have c4 := h1.c4
 have HB := hid hb
 have HL := hid (Blk.new w 32 #[.int .i64 0, .int .i64 0, .int .i64 0, .int .i64 0])
 clear h hb h1
 go_enter Tryz.func93, Tryz.ntmps93
 go_wp2_with (refine wpList_store_blk rfl rfl _ _ _ rfl w.heap.size #[.int .i64 (s.tb : Int), .int .i64 ((s.tb : Int) + 1), .int .i64 (s.np : Int), .int .i64 (s.ino : Int)] rfl rfl 32 #[.int .i64 0, .int .i64 0, .int .i64 0, .int .i64 0] HL.out rfl layInfo (layOne _ _ _ _) ?_)
 have hr := HL.out.row #[.int .i64 (s.tb : Int), .int .i64 ((s.tb : Int) + 1), .int .i64 (s.np : Int), .int .i64 (s.ino : Int)]
 have z0 := hr.cellv (i := 0) rfl
 have z1 := hr.cellv (i := 1) rfl
 have z2 := hr.cellv (i := 2) rfl
 have z3 := hr.cellv (i := 3) rfl
 refine bodyPost_ret (v := .agg #[.int .i64 (s.tb : Int), .int .i64 ((s.tb : Int) + 1), .int .i64 (s.np : Int), .int .i64 (s.ino : Int)]) (by simp [results, Tryz.results93, go_sem, z0, z1, z2, z3]) rfl ⟨rfl, ?_⟩
 exact below_setRow HB.out (Nat.le_refl _) _
theorem trePlace_calls (h : PlM NB B Q w P f s) (hT : TrB w T P) {n : Nat} (h1 : 1 ≤ n) (h2 : n ≤ s.ino) (h3 : s.ino ≤ 100000) :
  Calls Tryz.prog 50 #[.pointer (some ⟨T, 0, none⟩), .int .i64 (n : Int)] w fun e w' => e = .returned (.tuple #[.int .i64 ((1 + (n - 1) / 2 : Nat) : Int), .int .i64 (((n - 1) % 2 : Nat) : Int), .int .i64 0]) ∧ Below w.heap.size w w' := by
 have HP := hid h
 have HT := hid hT
 have c0 := hT.c0
 have g1 : ¬ (n : Int) < 1 := by omega
 have g2 : ¬ (s.ino : Int) < (n : Int) := by omega
 have HPp := hid (show Ino.perPage 64 = 2 from by decide)
 have q1 := IntWalk.i64_in ((n : Int) - 1) ⟨by omega, by omega⟩
 have q2 : IntKind.i64.wrap (Int.tdiv ((n : Int) - 1) 2) = ((n : Int) - 1) / 2 := by
  rw [Int.tdiv_eq_ediv_of_nonneg (by omega)]
  exact IntWalk.i64_in (((n : Int) - 1) / 2) ⟨by omega, by omega⟩
 have q3 := IntWalk.i64_in (1 + ((n : Int) - 1) / 2) ⟨by omega, by omega⟩
 have q4 : Int.tmod ((n : Int) - 1) 2 = ((n : Int) - 1) % 2 := Int.tmod_eq_emod_of_nonneg (by omega)
 have q5 := IntWalk.i64_in (((n : Int) - 1) % 2) ⟨by omega, by omega⟩
 have qf := layF3 (.int .i64 (s.tb : Int)) (.int .i64 ((s.tb : Int) + 1)) (.int .i64 (s.np : Int)) (.int .i64 (s.ino : Int))
 clear h hT
 go_enter Tryz.func50, Tryz.ntmps50
 go_wp2_with fail
 refine (polLayout_calls HP.out).mono ?_
 rintro e w1 ⟨rfl, hb⟩
 have HB1 := hid hb
 have HP1 := hid (HP.out.on hb)
 have c1 := (HT.out.on hb).c0
 clear hb
 go_wp2_with fail
 refine (polSize_calls HP1.out).mono ?_
 rintro e w_ ⟨rfl, rfl⟩
 go_wp2_with fail
 refine (perPage_calls 64 w1).mono ?_
 rintro e w_ ⟨rfl, rfl⟩
 rw [HPp.out]
 go_wp2_with fail
 refine wp_region_noPanic ?_
 refine wp_region_held_drew (S := (fun _ => True)) (by kernel_rfl) trivial (fun hS0 => ?_)
 refine tk 0 ((.int .i64 (n : Int))) rfl (fun _ _ => rfl) ?_
 try simp only [layR]
 refine tk 1 ((.int .i64 ((n : Int) - 1))) rfl (fun W hSw => ?_) ?_
 ·skip
  go_simp
 try simp only [layR]
 refine tk 2 ((.int .i64 2)) rfl (fun _ _ => rfl) ?_
 try simp only [layR]
 refine tk 3 ((.int .i64 (((n : Int) - 1) / 2))) rfl (fun W hSw => ?_) ?_
 ·skip
  go_simp
 try simp only [layR]
 refine tk 4 ((.int .i64 (1 + ((n : Int) - 1) / 2))) rfl (fun W hSw => ?_) ?_
 ·skip
  go_simp
 try simp only [layR]
 refine tk 5 ((.int .i64 (n : Int))) rfl (fun _ _ => rfl) ?_
 try simp only [layR]
 refine tk 6 ((.int .i64 ((n : Int) - 1))) rfl (fun W hSw => ?_) ?_
 ·skip
  go_simp
 try simp only [layR]
 refine tk 7 ((.int .i64 2)) rfl (fun _ _ => rfl) ?_
 try simp only [layR]
 refine tk 8 ((.int .i64 (((n : Int) - 1) % 2))) rfl (fun W hSw => ?_) ?_
 ·skip
  go_simp
 try simp only [layR]
 refine tk 9 ((.int .i64 (1 + ((n : Int) - 1) / 2))) rfl (fun _ _ => rfl) ?_
 try simp only [layR]
 refine tk 10 ((.int .i64 (((n : Int) - 1) % 2))) rfl (fun _ _ => rfl) ?_
 try simp only [layR]
 refine tk 11 ((.int .i64 0)) rfl (fun _ _ => rfl) ?_
 refine wpAnyH_done (by kernel_rfl) ?_ _
 refine NoPanic.normal ?_
 clear hS0
 go_wp2_with fail
 refine bodyPost_ret (v := .tuple #[.int .i64 (1 + ((n : Int) - 1) / 2), .int .i64 (((n : Int) - 1) % 2), .int .i64 0]) (by simp [results, Tryz.results50, go_sem]) rfl ?_
 rw [show ((1 + (n - 1) / 2 : Nat) : Int) = 1 + ((n : Int) - 1) / 2 from by omega, show (((n - 1) % 2 : Nat) : Int) = ((n : Int) - 1) % 2 from by omega]
 exact ⟨rfl, HB1.out.drew⟩
theorem treInode_calls (h : PlM NB B Q w P f s) (hT : TrB w T P) {n : Nat} (h1 : 1 ≤ n) (h2 : n ≤ s.ino) (h3 : s.ino ≤ 100000) (h4 : (n - 1) / 2 < s.tb) :
  Calls Tryz.prog 22 #[.pointer (some ⟨T, 0, none⟩), .int .i64 (n : Int)] w fun e w' => e = .returned (.tuple #[nodV (ind s n), .int .i64 (indE s n)]) ∧ PlM NB B Q w' P f s ∧ Kq Q w w' := by
 have hth : s.There (1 + (n - 1) / 2) := .inl ⟨by omega, by omega⟩
 have hlen := h.ok.sz _ hth
 have hb := (Below.refl w.heap.size w).alloc (Nat.le_refl _) (.cells #[.int .i64 0, .int .i64 0, .int .i64 0, .int .i64 0, .int .i64 0, .int .i64 0, .int .i64 0, .int .i64 0, .int .i64 0, .int .i64 0, .int .i64 0] 35)
 have HP1 := hid (h.on hb)
 have HT1 := hid (hT.on hb)
 have HL1 := hid (Blk.new w 35 #[.int .i64 0, .int .i64 0, .int .i64 0, .int .i64 0, .int .i64 0, .int .i64 0, .int .i64 0, .int .i64 0, .int .i64 0, .int .i64 0, .int .i64 0])
 have HQn := hid (h.not_new (Nat.le_refl _))
 have HB := hid hb
 have HTh := hid hth
 have HLen := hid hlen
 have HP := hid h
 obtain ⟨pg, hpg⟩ : ∃ pg, pg = 1 + (n - 1) / 2 := ⟨_, rfl⟩
 obtain ⟨k, hk⟩ : ∃ k, k = (n - 1) % 2 := ⟨_, rfl⟩
 have HPl := hid (show ∀ w : World, PlM NB B Q w P f s → TrB w T P → Calls Tryz.prog 50 #[.pointer (some ⟨T, 0, none⟩), .int .i64 (n : Int)] w fun e w' => e = .returned (.tuple #[.int .i64 (pg : Int), .int .i64 (k : Int), .int .i64 0]) ∧ Below w.heap.size w w' from fun w h hT => by
  rw [hpg, hk]
  exact trePlace_calls h hT h1 h2 h3)
 have e1 : ind s n = Nod.getN (s.g pg) (k : Int) := by rw [hpg, hk]; rfl
 have e2 : indE s n = Nod.getE (s.g pg) (k : Int) := by rw [hpg, hk]; rfl
 rw [← hpg] at HTh HLen
 rw [e1, e2]
 clear h hT hb hth hlen hpg hk h1 h2 h3 h4 e1 e2
 go_enter Tryz.func22, Tryz.ntmps22
 go_wp2_with fail
 generalize w.alloc (.cells #[.int .i64 0, .int .i64 0, .int .i64 0, .int .i64 0, .int .i64 0, .int .i64 0, .int .i64 0, .int .i64 0, .int .i64 0, .int .i64 0, .int .i64 0] 35) = W1 at *
 refine (HPl.out W1 HP1.out HT1.out).mono ?_
 rintro e w2 ⟨rfl, hb2⟩
 have HP2 := hid (HP1.out.on hb2)
 have HB2 := hid (HB.out.then_ hb2)
 have c2 := (HT1.out.on hb2).c0
 have HL2 := hid (HL1.out.belowHere hb2)
 clear hb2 HP1
 go_wp2_with fail
 refine (polGet_calls HP2.out HTh.out).mono ?_
 rintro e w3 ⟨⟨v, rfl, ho⟩, hp3, hk3⟩
 obtain ⟨a3, c3, rfl, hc3⟩ := ho.formN HLen.out
 have HP3 := hid hp3
 have HK3 := hid (((Kq.of (T := Q) HB2.out)).trans hk3)
 have HX3 := hid (ho.arr (by rw [HLen.out]; decide))
 have HL3 := hid (HL2.out.kq hk3 HQn.out)
 have HC3 := hid hc3
 clear ho hp3 hk3 hc3 c2
 go_wp2_with fail
 refine (get_calls a3 64 c3 (s.g pg) (k : Int) w3 HX3.out HC3.out).mono ?_
 rintro e w4 ⟨rfl, hb4⟩
 obtain ⟨r, hr⟩ : ∃ r, r = Nod.getN (s.g pg) (k : Int) := ⟨_, rfl⟩
 obtain ⟨er, her⟩ : ∃ er, er = Nod.getE (s.g pg) (k : Int) := ⟨_, rfl⟩
 rw [← hr, ← her]
 have HK4 := hid (HK3.out.on hb4)
 have HP4 := hid (HP3.out.on hb4)
 have HL4 := hid (HL3.out.belowHere hb4)
 have HR1 := hid hr
 have HR2 := hid her
 clear hr her hb4 HK3 HP3 HL3
 go_wp2_with (refine wpList_store_blk rfl rfl _ _ _ rfl w.heap.size #[.int .i64 r.k, .int .i64 r.l, .int .i64 r.s, .int .i64 r.d0, .int .i64 r.d1, .int .i64 r.d2, .int .i64 r.d3, .int .i64 r.d4, .int .i64 r.d5, .int .i64 r.a, .int .i64 r.b] rfl rfl 35 #[.int .i64 0, .int .i64 0, .int .i64 0, .int .i64 0, .int .i64 0, .int .i64 0, .int .i64 0, .int .i64 0, .int .i64 0, .int .i64 0, .int .i64 0] HL4.out rfl nodInfo (nodOne r) ?_)
 have q := HL4.out.row #[.int .i64 r.k, .int .i64 r.l, .int .i64 r.s, .int .i64 r.d0, .int .i64 r.d1, .int .i64 r.d2, .int .i64 r.d3, .int .i64 r.d4, .int .i64 r.d5, .int .i64 r.a, .int .i64 r.b]
 have z0 := q.cellv (i := 0) rfl
 have z1 := q.cellv (i := 1) rfl
 have z2 := q.cellv (i := 2) rfl
 have z3 := q.cellv (i := 3) rfl
 have z4 := q.cellv (i := 4) rfl
 have z5 := q.cellv (i := 5) rfl
 have z6 := q.cellv (i := 6) rfl
 have z7 := q.cellv (i := 7) rfl
 have z8 := q.cellv (i := 8) rfl
 have z9 := q.cellv (i := 9) rfl
 have z10 := q.cellv (i := 10) rfl
 refine bodyPost_ret (v := .tuple #[.agg #[.int .i64 r.k, .int .i64 r.l, .int .i64 r.s, .int .i64 r.d0, .int .i64 r.d1, .int .i64 r.d2, .int .i64 r.d3, .int .i64 r.d4, .int .i64 r.d5, .int .i64 r.a, .int .i64 r.b], .int .i64 er]) (by simp [results, Tryz.results22, go_sem, z0, z1, z2, z3, z4, z5, z6, z7, z8, z9, z10]) rfl ⟨by rw [HR1.out, HR2.out], HP4.out.kq (kq_rowOne w4 w.heap.size #[.int .i64 r.k, .int .i64 r.l, .int .i64 r.s, .int .i64 r.d0, .int .i64 r.d1, .int .i64 r.d2, .int .i64 r.d3, .int .i64 r.d4, .int .i64 r.d5, .int .i64 r.a, .int .i64 r.b]) fun q hq e => HQn.out (e ▸ hq), HK4.out.then_ (kq_rowOne w4 w.heap.size #[.int .i64 r.k, .int .i64 r.l, .int .i64 r.s, .int .i64 r.d0, .int .i64 r.d1, .int .i64 r.d2, .int .i64 r.d3, .int .i64 r.d4, .int .i64 r.d5, .int .i64 r.a, .int .i64 r.b]) fun q e => .inr (by omega)⟩
theorem in_two {x : List UInt8} (hx : x.length = 64) {k : Nat} (hk : k < 2) : Nod.In x.length (k : Int) := by
 rw [hx]
 exact ⟨by omega, by rw [show Ino.perPage ((64 : Nat) : Int) = 2 from by decide]; omega⟩
theorem treSet_calls (h : PlM NB B Q w P f s) (hT : TrB w T P) (hTQ : ¬ Q T) {n : Nat} (h1 : 1 ≤ n) (h2 : n ≤ s.ino) (h3 : s.ino ≤ 100000) (h4 : (n - 1) / 2 < s.tb) (i : Nod) (hr : Nod.Right i) :
  Calls Tryz.prog 48 #[.pointer (some ⟨T, 0, none⟩), .int .i64 (n : Int), nodV i] w fun e w' => e = .returned (.int .i64 0) ∧ PlR NB B Q w w' P f (setI s n i) := by
 have hth : s.There (1 + (n - 1) / 2) := .inl ⟨by omega, by omega⟩
 have hlen := h.ok.sz _ hth
 have hb := (Below.refl w.heap.size w).alloc (Nat.le_refl _) (.cells #[.int .i64 i.k, .int .i64 i.l, .int .i64 i.s, .int .i64 i.d0, .int .i64 i.d1, .int .i64 i.d2, .int .i64 i.d3, .int .i64 i.d4, .int .i64 i.d5, .int .i64 i.a, .int .i64 i.b] 35)
 have HP1 := hid (h.on hb)
 have HT1 := hid (hT.on hb)
 have HL1 := hid (Blk.new w 35 #[.int .i64 i.k, .int .i64 i.l, .int .i64 i.s, .int .i64 i.d0, .int .i64 i.d1, .int .i64 i.d2, .int .i64 i.d3, .int .i64 i.d4, .int .i64 i.d5, .int .i64 i.a, .int .i64 i.b])
 have HQn := hid (h.not_new (Nat.le_refl _))
 have HTQ := hid hTQ
 have HBs := hid h.base
 have HB := hid hb
 have HTh := hid hth
 have HLen := hid hlen
 have HIn := hid (in_two hlen (k := (n - 1) % 2) (by omega))
 have HR := hid hr
 obtain ⟨pg, hpg⟩ : ∃ pg, pg = 1 + (n - 1) / 2 := ⟨_, rfl⟩
 obtain ⟨k, hk⟩ : ∃ k, k = (n - 1) % 2 := ⟨_, rfl⟩
 have HPl := hid (show ∀ w : World, PlM NB B Q w P f s → TrB w T P → Calls Tryz.prog 50 #[.pointer (some ⟨T, 0, none⟩), .int .i64 (n : Int)] w fun e w' => e = .returned (.tuple #[.int .i64 (pg : Int), .int .i64 (k : Int), .int .i64 0]) ∧ Below w.heap.size w w' from fun w h hT => by
  rw [hpg, hk]
  exact trePlace_calls h hT h1 h2 h3)
 have e1 : setI s n i = s.put pg (Nod.putAt (s.g pg) k i) := by rw [hpg, hk]; rfl
 rw [← hpg] at HTh HLen
 rw [← hpg, ← hk] at HIn
 rw [e1]
 clear h hT hb hth hlen hpg hk h1 h2 h3 h4 e1 hTQ hr
 go_enter Tryz.func48, Tryz.ntmps48
 go_wp2_with fail
 generalize w.alloc (.cells #[.int .i64 i.k, .int .i64 i.l, .int .i64 i.s, .int .i64 i.d0, .int .i64 i.d1, .int .i64 i.d2, .int .i64 i.d3, .int .i64 i.d4, .int .i64 i.d5, .int .i64 i.a, .int .i64 i.b] 35) = W1 at *
 refine (HPl.out W1 HP1.out HT1.out).mono ?_
 rintro e w2 ⟨rfl, hb2⟩
 have HP2 := hid (HP1.out.on hb2)
 have HT2 := hid (HT1.out.on hb2)
 have HB2 := hid (HB.out.then_ hb2)
 have c2 := HT2.out.c0
 have HL2 := hid (HL1.out.belowHere hb2)
 clear hb2 HP1
 go_wp2_with fail
 refine (polGet_calls HP2.out HTh.out).mono ?_
 rintro e w3 ⟨⟨v, rfl, ho⟩, hp3, hk3⟩
 obtain ⟨a3, c3, rfl, hc3⟩ := ho.formN HLen.out
 have HP3 := hid hp3
 have HK3 := hid (((Kq.of (T := Q) HB2.out)).trans hk3)
 have HX3 := hid (ho.arr (by rw [HLen.out]; decide))
 have HL3 := hid (HL2.out.kq hk3 HQn.out)
 have HT3 := hid (HT2.out.kq hk3 HTQ.out)
 clear ho hp3 hk3 hc3 c2
 have y0 := HL3.out.cellv (i := 0) rfl
 have y1 := HL3.out.cellv (i := 1) rfl
 have y2 := HL3.out.cellv (i := 2) rfl
 have y3 := HL3.out.cellv (i := 3) rfl
 have y4 := HL3.out.cellv (i := 4) rfl
 have y5 := HL3.out.cellv (i := 5) rfl
 have y6 := HL3.out.cellv (i := 6) rfl
 have y7 := HL3.out.cellv (i := 7) rfl
 have y8 := HL3.out.cellv (i := 8) rfl
 have y9 := HL3.out.cellv (i := 9) rfl
 have y10 := HL3.out.cellv (i := 10) rfl
 go_wp2_with fail
 refine (put_calls2 a3 64 c3 (s.g pg) (k : Int) i w3 HX3.out).mono ?_
 rintro e w4 ⟨v, rfl, ho, hb4⟩
 have e3 : Nod.putE (s.g pg) (k : Int) i = 0 := by unfold Nod.putE; rw [if_pos HIn.out, if_pos HR.out]
 have e4 : Nod.putL (s.g pg) (k : Int) i = Nod.putAt (s.g pg) k i := by unfold Nod.putL; rw [if_pos ⟨HIn.out, HR.out⟩, Int.toNat_natCast]
 rw [e4] at ho
 rw [e3]
 have e5 : (Nod.putAt (s.g pg) k i).length = 64 := by rw [Nod.putAt_len (by rw [HLen.out]; have := Nod.in_bound HIn.out; rw [HLen.out] at this; omega), HLen.out]
 obtain ⟨a4, c4, rfl, _⟩ := ho.formN e5
 have HX4 := hid (ho.arr (by rw [e5]; decide))
 have HP4 := hid (HP3.out.on hb4)
 have HK4 := hid (HK3.out.on hb4)
 have c4' := (HT3.out.on hb4).c0
 clear ho hb4 e3 e4 e5 y0 y1 y2 y3 y4 y5 y6 y7 y8 y9 y10
 go_wp2_with fail
 refine (polPut_calls HP4.out HTh.out a4 c4 _ HX4.out).mono ?_
 rintro e w5 ⟨rfl, hp5⟩
 have HP5 := hid (PlR.behind HK4.out hp5 HBs.out)
 clear hp5 c4'
 go_wp2
 go_ret
 exact ⟨rfl, HP5.out⟩
end
section
open Go.RowKit Pol
variable {NB B P T : Nat} {Q : Nat → Prop} {w w' : World} {f : Fm} {s : Ps}

def nodOf (fi : Nf) : Nod := ⟨fi.k, fi.l, fi.s, nd fi 0, nd fi 1, nd fi 2, nd fi 3, nd fi 4, nd fi 5, (fi.io.s : Int), (fi.io.b : Int)⟩
structure Tdr (NB B : Nat) (Q : Nat → Prop) (W3 : World) (P : Nat) (f : Fm) (s : Ps) (v : Value) (X : List UInt8) (W : World) : Prop where
 p : PlM NB B Q W P f s
 k : Kq Q W3 W
 o : Own byteV 5 W W3.heap.size v X
 q : ∀ q, Q q → q < W3.heap.size
theorem Tdr.on {W3 W W' : World} {v : Value} {X : List UInt8} (h : Tdr NB B Q W3 P f s v X W) (hb : Below W.heap.size W W') : Tdr NB B Q W3 P f s v X W' :=
 ⟨h.p.on hb, h.k.on hb, h.o.on hb, h.q⟩
theorem Tdr.ask {W3 W W' : World} {v : Value} {X : List UInt8} (h : Tdr NB B Q W3 P f s v X W) (hp : PlM NB B Q W' P f s) (hk : Kq Q W W') : Tdr NB B Q W3 P f s v X W' :=
 ⟨hp, h.k.trans hk, h.o.kq hk fun q hq hQ => by have := (h.o.blockLt q hq).1; have := h.q q hQ; omega, h.q⟩
theorem Tdr.app {W3 W W' : World} {v v' : Value} {X X' : List UInt8} (h : Tdr NB B Q W3 P f s v X W) (ho : Own byteV 5 W' W3.heap.size v' X') (hb : Below W3.heap.size W W') : Tdr NB B Q W3 P f s v' X' W' := by
 refine ⟨h.p.kq (T := fun k => W3.heap.size ≤ k) (kq_from hb) fun q hq h3 => by have := h.q q hq; omega, ⟨hb.os.trans h.k.os, hb.tape.trans h.k.tape, hb.output.trans h.k.output, Nat.le_trans h.k.size hb.size, fun k hk hn => (hb.block k hk).trans (h.k.block k hk hn)⟩, ho, h.q⟩
theorem nfc_cells {W : World} {I : Nat} {fi : Nf} (h : Blk W I 35 (nfC fi)) : W.cell? ⟨I, 0, none⟩ = some (.int .i64 fi.k) ∧ W.cell? ⟨I, 1, none⟩ = some (.int .i64 fi.l) ∧ W.cell? ⟨I, 2, none⟩ = some (.int .i64 fi.s) ∧ W.cell? ⟨I, 3, none⟩ = some (.int .i64 (nd fi 0)) ∧ W.cell? ⟨I, 4, none⟩ = some (.int .i64 (nd fi 1)) ∧ W.cell? ⟨I, 5, none⟩ = some (.int .i64 (nd fi 2)) ∧ W.cell? ⟨I, 6, none⟩ = some (.int .i64 (nd fi 3)) ∧ W.cell? ⟨I, 7, none⟩ = some (.int .i64 (nd fi 4)) ∧ W.cell? ⟨I, 8, none⟩ = some (.int .i64 (nd fi 5)) ∧ W.cell? ⟨I, 9, none⟩ = some (.int .i64 (fi.io.s : Int)) ∧ W.cell? ⟨I, 10, none⟩ = some (.int .i64 (fi.io.b : Int)) :=
 ⟨h.cellv (i := 0) rfl, h.cellv (i := 1) rfl, h.cellv (i := 2) rfl, h.cellv (i := 3) rfl, h.cellv (i := 4) rfl, h.cellv (i := 5) rfl, h.cellv (i := 6) rfl, h.cellv (i := 7) rfl, h.cellv (i := 8) rfl, h.cellv (i := 9) rfl, h.cellv (i := 10) rfl⟩
theorem treDir_calls {fi : Nf} {n z : Nat} {X : List UInt8} (h : PlM NB B Q w P f s) (hT : TrB w T P) (hTQ : ¬ Q T) (h1 : 1 ≤ n) (h2 : n ≤ s.ino) (h3 : s.ino ≤ 100000) (h4 : (n - 1) / 2 < s.tb)
  (hi : ind s n = nodOf fi) (he : indE s n = 0) (hk2 : fi.k = 2) (hz : fi.s = (z : Int)) (hz2 : z ≤ 67968) (hw : Nod.Wf s fi.io) (hX : X.length = z) (hrd : ∀ off, off < z → Nod.rdS 20 s fi.io off (off + min 1024 (z - off)) = (X.drop off).take (min 1024 (z - off))) :
  Calls Tryz.prog 49 #[.pointer (some ⟨T, 0, none⟩), .int .i64 (n : Int)] w fun e w' => (∃ v, e = .returned (.tuple #[nfV fi, v, .int .i64 0]) ∧ Own byteV 5 w' w.heap.size v X) ∧ PlM NB B Q w' P f s ∧ Kq Q w w' := by
 have hb := (Below.refl w.heap.size w).alloc (Nat.le_refl _) (.cells #[.int .i64 0, .int .i64 0, .int .i64 0, .int .i64 0, .int .i64 0, .int .i64 0, .int .i64 0, .int .i64 0, .int .i64 0, .int .i64 0, .int .i64 0] 35)
 have HP1 := hid (h.on hb)
 have HT1 := hid (hT.on hb)
 have HL1 := hid (Blk.new w 35 #[.int .i64 0, .int .i64 0, .int .i64 0, .int .i64 0, .int .i64 0, .int .i64 0, .int .i64 0, .int .i64 0, .int .i64 0, .int .i64 0, .int .i64 0])
 have HQn := hid (h.not_new (Nat.le_refl _))
 have HQb := hid h.bnd
 have HTQ := hid hTQ
 have HB := hid hb
 have HI := hid (show ∀ W : World, PlM NB B Q W P f s → TrB W T P → Calls Tryz.prog 22 #[.pointer (some ⟨T, 0, none⟩), .int .i64 (n : Int)] W fun e w' => e = .returned (.tuple #[.agg (nfC fi), .int .i64 0]) ∧ PlM NB B Q w' P f s ∧ Kq Q W w' from fun W hW hT => by
  have h := treInode_calls hW hT h1 h2 h3 h4
  rw [hi, he] at h
  exact h)
 have HRd := hid (show ∀ W : World, ∀ off : Nat, PlM NB B Q W P f s → off < z → Calls Tryz.prog 12 #[.pointer (some ⟨P, 0, none⟩), .agg (nfC fi), .int .i64 (off : Int), .int .i64 1024] W (NodGot NB B Q P f s ((X.drop off).take (min 1024 (z - off))) W) from fun W off hW ho => by
  have h := nodRead_calls (n := 1024) (off := off) hW hw (by omega) hz hz2 (by omega)
  rw [hrd off ho] at h
  exact h)
 have HX := hid hX
 have HZ := hid hz
 have HK2 := hid hk2
 clear h hT hTQ hb hi he hrd hX hz hk2 hw h1 h2 h3 h4
 go_enter Tryz.func49, Tryz.ntmps49
 go_wp2_with fail
 generalize w.alloc (.cells #[.int .i64 0, .int .i64 0, .int .i64 0, .int .i64 0, .int .i64 0, .int .i64 0, .int .i64 0, .int .i64 0, .int .i64 0, .int .i64 0, .int .i64 0] 35) = W1 at *
 refine (HI.out W1 HP1.out HT1.out).mono ?_
 rintro e W2 ⟨rfl, hp2, hk2⟩
 have HP2 := hid hp2
 have HT2 := hid (HT1.out.kq hk2 HTQ.out)
 have HL2 := hid (HL1.out.kq hk2 HQn.out)
 have HKw := hid ((Kq.of (T := Q) HB.out).trans hk2)
 have HSz := hid (show w.heap.size < W2.heap.size from HL2.out.lt)
 clear hp2 hk2
 have HN2 := hid (Blk.new W2 35 #[.int .i64 0, .int .i64 0, .int .i64 0, .int .i64 0, .int .i64 0, .int .i64 0, .int .i64 0, .int .i64 0, .int .i64 0, .int .i64 0, .int .i64 0])
 obtain ⟨W3, hW3⟩ : ∃ W3, W3 = (W2.alloc (.cells #[.int .i64 0, .int .i64 0, .int .i64 0, .int .i64 0, .int .i64 0, .int .i64 0, .int .i64 0, .int .i64 0, .int .i64 0, .int .i64 0, .int .i64 0] 35)).setRow W2.heap.size (nfC fi) := ⟨_, rfl⟩
 have hb3 : Below W2.heap.size W2 W3 := by rw [hW3]; exact ((Below.refl _ W2).alloc (Nat.le_refl _) _).setRow_ (Nat.le_refl _) _
 have hi3 : Blk W3 W2.heap.size 35 (nfC fi) := by rw [hW3]; exact HN2.out.row _
 have HW3 := hid hW3
 have HP3 := hid (HP2.out.on hb3)
 have HT3 := hid (HT2.out.on hb3)
 have HL3 := hid (HL2.out.belowHere hb3)
 have HK3 := hid (HKw.out.on hb3)
 have HI3 := hid hi3
 have HB3 := hid hb3
 have y0 := hi3.cellv (i := 0) (v := .int .i64 fi.k) rfl
 have y2 := hi3.cellv (i := 2) (v := .int .i64 fi.s) rfl
 rw [HK2.out] at y0
 rw [HZ.out] at y2
 obtain ⟨I7, hI7⟩ : ∃ I, I = W2.heap.size := ⟨_, rfl⟩
 clear hW3 hb3 hi3
 go_wp2_with (refine wpList_store_blk rfl rfl _ _ _ rfl W2.heap.size (nfC fi) rfl rfl 35 #[.int .i64 0, .int .i64 0, .int .i64 0, .int .i64 0, .int .i64 0, .int .i64 0, .int .i64 0, .int .i64 0, .int .i64 0, .int .i64 0, .int .i64 0] HN2.out rfl nodInfo (nfOne fi) ?_; rw [← HW3.out])
 rw [← hI7]
 have HI7 := hid hI7
 have HTd := hid (show Tdr NB B Q W3 P f s (.slice none 0 0) (X.take 0) W3 from ⟨HP3.out, Kq.refl _ _, Own.nil _ _, fun q hq => (HP3.out.bnd q hq).2⟩)
 have HTf := hid (show ∀ W, Kq Q W3 W → TrB W T P from fun W hW => HT3.out.kq hW HTQ.out)
 have HIf := hid (show ∀ W, Kq Q W3 W → Blk W I7 35 (nfC fi) from fun W hW => by
  rw [hI7]
  exact HI3.out.kq hW (HP2.out.not_new (Nat.le_refl _)))
 have HLf := hid (show ∀ W, Kq Q W3 W → Blk W w.heap.size 35 #[.int .i64 0, .int .i64 0, .int .i64 0, .int .i64 0, .int .i64 0, .int .i64 0, .int .i64 0, .int .i64 0, .int .i64 0, .int .i64 0, .int .i64 0] from fun W hW => HL3.out.kq hW HQn.out)
 have HSz3 := hid (show w.heap.size ≤ W3.heap.size from HK3.out.size)
 clear y0 y2 hI7
 go_loopw [9, 10, 11, 12] (fun v9 v10 _ _ wr => ∃ off : Nat, v10 = .int .i64 (off : Int) ∧ off ≤ z ∧ Hid (Tdr NB B Q W3 P f s v9 (X.take off) wr)) (fun _ v10 _ _ _ => z - (intOf v10).toNat)
 case atStart => exact ⟨0, rfl, Nat.zero_le _, HTd⟩
 case round =>
  obtain ⟨off, rfl, hoff, HD⟩ := hrel
  clear HTd
  have y2 := (HIf.out wr HD.out.k).cellv (i := 2) (v := .int .i64 fi.s) rfl
  rw [HZ.out] at y2
  have hxl := HX.out
  have HTl := hid (show (X.take off).length = off from by rw [List.length_take]; omega)
  clear hxl
  by_cases hlt : off < z
  ·have g1 : (off : Int) < (z : Int) := by omega
   go_upto_region 10 with fail
   obtain ⟨a9, c9, hv9, _⟩ := HD.out.o.formN HTl.out
   subst hv9
   have HDd := hid (HD.out.on (below_drew wr))
   refine wp_region_noPanic ?_
   refine wp_region_held_drew (S := (fun W' => W'.cell? ⟨T, 0, none⟩ = some (.pointer (some ⟨P, 0, none⟩)) ∧ Blk W' I7 35 (nfC fi))) (by kernel_rfl) ⟨(HTf.out _ HDd.out.k).c0, HIf.out _ HDd.out.k⟩ (fun hS0 => ?_)
   generalize wr.drew = W4 at *
   refine tk 0 ((.pointer (some ⟨T, 0, none⟩))) rfl (fun _ _ => rfl) ?_
   try simp only [layR]
   refine tk 1 ((.pointer (some ⟨T, 0, none⟩))) rfl (fun W hSw => ?_) ?_
   ·skip
    go_simp
   try simp only [layR]
   refine tk 2 ((.pointer (some ⟨T, 0, none⟩))) rfl (fun W hSw => ?_) ?_
   ·skip
    go_simp
   try simp only [layR]
   refine tk 3 ((.pointer (some ⟨P, 0, none⟩))) rfl (fun W hSw => ?_) ?_
   ·have y0 := hSw.1
    go_simp
   try simp only [layR]
   refine tk 4 ((.agg (nfC fi))) rfl (fun W hSw => ?_) ?_
   ·obtain ⟨y0, y1, y2, y3, y4, y5, y6, y7, y8, y9, y10⟩ := nfc_cells hSw.2; unfold nfC
    go_simp
   try simp only [layR]
   refine tk 5 ((.int .i64 (off : Int))) rfl (fun _ _ => rfl) ?_
   try simp only [layR]
   refine rd 6 rfl (fun K' hK => ?_)
   go_simp
   refine (HRd.out W4 off HDd.out.p hlt).mono ?_
   rintro e W5 ⟨⟨v, rfl, ho⟩, hp5, hk5⟩
   obtain ⟨m, hm⟩ : ∃ m, m = min 1024 (z - off) := ⟨_, rfl⟩
   rw [← hm] at ho
   have hml : ((X.drop off).take m).length = m := by rw [List.length_take, List.length_drop, HX.out]; omega
   obtain ⟨a5, c5, rfl, _⟩ := ho.formN hml
   have HO5 := hid (ho.arr (by rw [hml]; omega))
   have HD5 := hid (HDd.out.ask hp5 hk5)
   have HM := hid (show 0 < m ∧ off + m ≤ z from by omega)
   have HCat := hid (show X.take off ++ (X.drop off).take m = X.take (off + m) from by rw [List.take_add])
   clear ho hp5 hk5 hm hml
   refine hK.out _ _ (⟨(HTf.out _ HD5.out.k).c0, HIf.out _ HD5.out.k⟩) (fun hS5 => ?_)
   try simp only [layR]
   refine tk 7 ((.tuple #[.slice a5 m c5, .int .i64 0])) rfl (fun _ _ => rfl) ?_
   try simp only [layR]
   refine tk 8 ((.slice a5 m c5)) rfl (fun _ _ => rfl) ?_
   try simp only [layR]
   refine tk 9 ((.int .i64 0)) rfl (fun _ _ => rfl) ?_
   try simp only [layR]
   refine tk 10 ((.slice a5 m c5)) rfl (fun _ _ => rfl) ?_
   try simp only [layR]
   refine tk 11 ((.int .i64 0)) rfl (fun _ _ => rfl) ?_
   try simp only [layR]
   refine wpAnyH_done (by kernel_rfl) ?_ _
   refine NoPanic.normal ?_
   clear hS0 hS5
   have hm2 := HM.out
   obtain ⟨off2, ho2⟩ : ∃ x, x = off + m := ⟨_, rfl⟩
   have HO2 := hid (show off2 ≤ z ∧ off < off2 from by omega)
   have HCat2 := hid (HCat.out.trans (by rw [ho2]) : X.take off ++ (X.drop off).take m = X.take off2)
   have HL2 := hid (show (X.take off2).length = off2 from by rw [List.length_take, HX.out]; omega)
   have hk5 := HD5.out.k.size
   clear ho2 hm2
   go_wp2_with (at_builtin; refine wpList_ontoB rfl _ _ rfl W3.heap.size _ (X.take off) rfl HD5.out.o _ a5 m c5 _ rfl HO5.out (by have := HM.out; rw [HTl.out]; omega) hk5 ?_; intro v6 W6 HO6 HB6; have ho6 := HO6.out; rw [HCat2.out] at ho6; obtain ⟨a6, c6, hv6, _⟩ := ho6.formN HL2.out; subst hv6; have HD6 := hid (HD5.out.app ho6 HB6.out); clear ho6)
   go_roundw
   case rel => exact ⟨off2, rfl, HO2.out.1, HD6⟩
   case measure => have := HO2.out; simp [intOf]; omega
  ·have g1 : ¬ (off : Int) < (z : Int) := by omega
   obtain rfl : off = z := by omega
   have HO := hid HD.out.o
   have HXt := hid (show X.take off = X from List.take_of_length_le (by rw [HX.out]; omega))
   have y := HIf.out wr HD.out.k
   obtain ⟨y0, y1, y2', y3, y4, y5, y6, y7, y8, y9, y10⟩ := nfc_cells y
   rw [HZ.out] at y2'
   have HLr := hid (HLf.out wr HD.out.k)
   clear y2
   go_wp2_with (refine wpList_store_blk rfl rfl _ _ _ rfl w.heap.size #[.int .i64 fi.k, .int .i64 fi.l, .int .i64 (off : Int), .int .i64 (nd fi 0), .int .i64 (nd fi 1), .int .i64 (nd fi 2), .int .i64 (nd fi 3), .int .i64 (nd fi 4), .int .i64 (nd fi 5), .int .i64 (fi.io.s : Int), .int .i64 (fi.io.b : Int)] rfl rfl 35 #[.int .i64 0, .int .i64 0, .int .i64 0, .int .i64 0, .int .i64 0, .int .i64 0, .int .i64 0, .int .i64 0, .int .i64 0, .int .i64 0, .int .i64 0] HLr.out rfl nodInfo (nodOne ⟨fi.k, fi.l, (off : Int), nd fi 0, nd fi 1, nd fi 2, nd fi 3, nd fi 4, nd fi 5, (fi.io.s : Int), (fi.io.b : Int)⟩) ?_)
   have q := HLr.out.row #[.int .i64 fi.k, .int .i64 fi.l, .int .i64 (off : Int), .int .i64 (nd fi 0), .int .i64 (nd fi 1), .int .i64 (nd fi 2), .int .i64 (nd fi 3), .int .i64 (nd fi 4), .int .i64 (nd fi 5), .int .i64 (fi.io.s : Int), .int .i64 (fi.io.b : Int)]
   have z0 := q.cellv (i := 0) rfl
   have z1 := q.cellv (i := 1) rfl
   have z2 := q.cellv (i := 2) rfl
   have z3 := q.cellv (i := 3) rfl
   have z4 := q.cellv (i := 4) rfl
   have z5 := q.cellv (i := 5) rfl
   have z6 := q.cellv (i := 6) rfl
   have z7 := q.cellv (i := 7) rfl
   have z8 := q.cellv (i := 8) rfl
   have z9 := q.cellv (i := 9) rfl
   have z10 := q.cellv (i := 10) rfl
   have hkr := kq_rowOne wr w.heap.size #[.int .i64 fi.k, .int .i64 fi.l, .int .i64 (off : Int), .int .i64 (nd fi 0), .int .i64 (nd fi 1), .int .i64 (nd fi 2), .int .i64 (nd fi 3), .int .i64 (nd fi 4), .int .i64 (nd fi 5), .int .i64 (fi.io.s : Int), .int .i64 (fi.io.b : Int)]
   refine bodyPost_ret (v := .tuple #[.agg #[.int .i64 fi.k, .int .i64 fi.l, .int .i64 (off : Int), .int .i64 (nd fi 0), .int .i64 (nd fi 1), .int .i64 (nd fi 2), .int .i64 (nd fi 3), .int .i64 (nd fi 4), .int .i64 (nd fi 5), .int .i64 (fi.io.s : Int), .int .i64 (fi.io.b : Int)], u9, .int .i64 0]) (by simp [results, Tryz.results49, go_sem, z0, z1, z2, z3, z4, z5, z6, z7, z8, z9, z10]) rfl ⟨⟨u9, by unfold nfV nfC; rw [HZ.out], ?_⟩, HD.out.p.kq hkr fun q hq e => HQn.out (e ▸ hq), (HK3.out.trans HD.out.k).then_ hkr fun q e => .inr (by omega)⟩
   have ho := HO.out
   rw [HXt.out] at ho
   exact (ho.kq hkr fun q hq e => by have := (ho.blockLt q hq).1; have := HB3.out.size; have := HSz.out; omega).mono HSz3.out
end
end Go.Proofs.YtcppkaphlcflgaaGreat

/-
  Quote: of the program (a strings.Builder) and of the reference.
-/
import Derived.Test.YtlnjfnpoabcllaaGlbBld
import Derived.Test.YtlnjfnpoabcllaaGlbMk
namespace Go.Proofs.Ytlnjfnpoabcllaa
open Go.RowKit

def Glb.quo (c : UInt8) : List UInt8 := if c = 63 ∨ c = 42 ∨ c = 91 then [91, c, 93] else [c]
def Glb.quote (l : List UInt8) : List UInt8 := l.flatMap Glb.quo
theorem Glb.quo_len (c : UInt8) : (Glb.quo c).length ≤ 3 := by unfold Glb.quo; split <;> simp
theorem Glb.quote_snoc (l : List UInt8) (c : UInt8) : Glb.quote (l ++ [c]) = Glb.quote l ++ Glb.quo c := by simp [Glb.quote]
theorem Glb.quote_len : ∀ l : List UInt8, (Glb.quote l).length ≤ 3 * l.length
  | [] => by simp [Glb.quote]
  | c :: r => by
    have := Glb.quote_len r
    have := Glb.quo_len c
    simp only [Glb.quote, List.flatMap_cons, List.length_append, List.length_cons] at *
    omega
theorem Glb.quote_take (l : List UInt8) (k : Nat) (c : UInt8) (h : l[k]? = some c) : Glb.quote (l.take (k + 1)) = Glb.quote (l.take k) ++ Glb.quo c := by
  rw [List.take_add_one, h]; exact Glb.quote_snoc _ _
theorem quo_cells (bs : List UInt8) (c : UInt8) (h : Glb.quo c = [c]) : Lib.byteCells bs ++ [Value.int .u8 (c.toNat : Int)] = Lib.byteCells (bs ++ Glb.quo c) := by
  rw [h, Lib.byteCells_append]; rfl
theorem quo_cells3 (bs : List UInt8) (c : UInt8) (h : Glb.quo c = [91, c, 93]) : Lib.byteCells bs ++ Lib.strCells (strL [91, c, 93]) = Lib.byteCells (bs ++ Glb.quo c) := by
  rw [h, Lib.byteCells_append]; rfl
theorem strL_lit1 (x : UInt8) : (⟨#[x]⟩ : ByteArray) = strL [x] := rfl
theorem lit3_eq (x : UInt8) : (⟨#[91]⟩ : ByteArray) ++ strL [x] ++ ⟨#[93]⟩ = strL [91, x, 93] := by
  show strL [91] ++ strL [x] ++ strL [93] = _
  rw [strL_append, strL_append]; rfl
theorem drop_one (l : List UInt8) (k : Nat) (c : UInt8) (h : l[k]? = some c) : (l.drop k).take 1 = [c] := by
  rw [List.take_one, List.head?_drop, h]; rfl
attribute [local go_sem] strL_cut
set_option maxRecDepth 100000 in
set_option maxHeartbeats 8000000 in
theorem quote_calls (l : List UInt8) (w : World) (hl : l.length ≤ 100000) :
    Calls Try.prog 22 #[.string (strL l)] w fun e w' => e = .returned (.string (strL (Glb.quote l))) ∧ Below w.heap.size w w' := by
  go_enter Try.func22, Try.ntmps22
  go_wp2
  go_loopw [7] (fun i wr => ∃ k : Nat, k ≤ l.length ∧ i = .int .i64 k ∧ Lib.IsBuilder 63 5 w.heap.size w.heap.size (Lib.byteCells (Glb.quote (l.take k))) wr ∧ Below w.heap.size w wr) (fun i _ => l.length - (intOf i).toNat)
  case atStart =>
    refine ⟨0, Nat.zero_le _, rfl, ?_, (Below.refl _ _).alloc (Nat.le_refl _) _⟩
    exact .inl ⟨Nat.le_refl _, .slice none 0 0, heap_alloc_new _ _, ⟨rfl, .inl ⟨rfl, rfl⟩⟩, by simp [Value.ownBlock]⟩
  case round =>
    obtain ⟨k, hk, rfl, hbd, hb⟩ := hrel
    have HI := Lib.hid hbd
    have HB := Lib.hid hb
    have hsz := hb.size
    clear hbd hb
    have hq := Glb.quote_len (l.take k)
    have hq2 : (Lib.byteCells (Glb.quote (l.take k))).length ≤ 300000 := by rw [Lib.byteCells_length]; have := List.length_take_le k l; omega
    by_cases hlt : k < l.length
    · obtain ⟨c, hc⟩ : ∃ c, l[k]? = some c := ⟨_, List.getElem?_eq_getElem hlt⟩
      have hc2 : l[k] = c := by rw [List.getElem?_eq_getElem hlt] at hc; exact Option.some.inj hc
      have HT := Lib.hid (Glb.quote_take l k c hc)
      have hd := drop_one l k c hc
      have g1 : decide ((k : Int) < l.length) = true := decide_eq_true (by omega)
      clear hc
      by_cases hm : c = 63 ∨ c = 42 ∨ c = 91
      · have HQ := Lib.hid (show Glb.quo c = [91, c, 93] from if_pos hm)
        have go : ∀ x : UInt8, c = x → ((c.toNat : Int) == (x.toNat : Int)) = true := by rintro _ rfl; simp
        rcases hm with rfl | rfl | rfl
        all_goals
          go_wp2_with fail
          rw [lit3_eq]
          refine (writeString_calls w.heap.size w.heap.size _ (strL _) wr HI.out (by rw [strL_size]; simp only [List.length_cons, List.length_nil]; omega) (by omega)).mono ?_
          rintro e w1 ⟨rfl, h1, h2⟩
          have h3 : Lib.IsBuilder 63 5 w.heap.size w.heap.size (Lib.byteCells (Glb.quote (l.take (k + 1)))) w1 := by
            rw [HT.out, ← quo_cells3 _ _ HQ.out]
            exact .inr h1
          have HI1 := Lib.hid h3
          have HB1 := Lib.hid (HB.out.trans h2)
          clear h1 h2 h3
          go_wp2
          exact ⟨⟨k + 1, by omega, rfl, HI1.out, HB1.out⟩, by simp only [intOf]; omega⟩
      · have HQ := Lib.hid (show Glb.quo c = [c] from if_neg hm)
        have f1 := u8_ne (c := c) (n := 63) (by decide) (fun e => hm (.inl e))
        have f2 := u8_ne (c := c) (n := 42) (by decide) (fun e => hm (.inr (.inl e)))
        have f3 := u8_ne (c := c) (n := 91) (by decide) (fun e => hm (.inr (.inr e)))
        go_wp2_with fail
        refine (writeByte_calls w.heap.size w.heap.size _ c.toNat wr HI.out (by omega) (by omega)).mono ?_
        rintro e w1 ⟨rfl, h1, h2⟩
        have h3 : Lib.IsBuilder 63 5 w.heap.size w.heap.size (Lib.byteCells (Glb.quote (l.take (k + 1)))) w1 := by
          rw [HT.out, ← quo_cells _ c HQ.out]
          exact .inr h1
        have HI1 := Lib.hid h3
        have HB1 := Lib.hid (HB.out.trans h2)
        clear h1 h2 h3
        go_wp2
        exact ⟨⟨k + 1, by omega, rfl, HI1.out, HB1.out⟩, by simp only [intOf]; omega⟩
    · obtain rfl : k = l.length := by omega
      go_wp2_with fail
      refine (Try.Builder_String_any w.heap.size w.heap.size _ _ HI.out (by omega)).mono ?_
      rintro e w1 ⟨rfl, h_⟩
      have HB1 := Lib.hid (HB.out.trans h_)
      clear h_
      go_wp2
      go_ret
      refine ⟨?_, HB1.out⟩
      rfl
set_option maxRecDepth 100000 in
set_option maxHeartbeats 8000000 in
theorem refQuote_calls (l : List UInt8) (w : World) (hl : l.length ≤ 100000) :
    Calls Try.prog 23 #[.string (strL l)] w fun e w' => e = .returned (.string (strL (Glb.quote l))) ∧ w = w' := by
  go_enter Try.func23, Try.ntmps23
  go_wp2
  go_loop [3, 4] (fun o i => ∃ k : Nat, k ≤ l.length ∧ i = .int .i64 k ∧ o = .string (strL (Glb.quote (l.take k)))) (fun _ i => l.length - (intOf i).toNat)
  case atStart => exact ⟨0, Nat.zero_le _, rfl, rfl⟩
  case round =>
    obtain ⟨k, hk, rfl, rfl⟩ := hrel
    have hq := Glb.quote_len (l.take k)
    have hq2 : (Glb.quote (l.take k)).length ≤ 300000 := by have := List.length_take_le k l; omega
    clear hq
    by_cases hlt : k < l.length
    · obtain ⟨c, hc⟩ : ∃ c, l[k]? = some c := ⟨_, List.getElem?_eq_getElem hlt⟩
      have hc2 : l[k] = c := by rw [List.getElem?_eq_getElem hlt] at hc; exact Option.some.inj hc
      have HT := Lib.hid (Glb.quote_take l k c hc)
      have hd := drop_one l k c hc
      have g1 : decide ((k : Int) < l.length) = true := decide_eq_true (by omega)
      clear hc
      generalize Glb.quote (l.take k) = Q at *
      by_cases hm : c = 63 ∨ c = 42 ∨ c = 91
      · have HQ := Lib.hid (show Glb.quo c = [91, c, 93] from if_pos hm)
        rcases hm with rfl | rfl | rfl
        all_goals
          go_wp2
          refine ⟨⟨k + 1, by omega, rfl, ?_⟩, by simp only [intOf]; omega⟩
          rw [HT.out, HQ.out, lit3_eq, strL_append]
      · have HQ := Lib.hid (show Glb.quo c = [c] from if_neg hm)
        have f1 : ([c] == [63]) = false := by simpa using fun e => hm (.inl e)
        have f2 : ([c] == [42]) = false := by simpa using fun e => hm (.inr (.inl e))
        have f3 : ([c] == [91]) = false := by simpa using fun e => hm (.inr (.inr e))
        go_wp2
        refine ⟨⟨k + 1, by omega, rfl, ?_⟩, by simp only [intOf]; omega⟩
        rw [HT.out, HQ.out]
    · obtain rfl : k = l.length := by omega
      go_wp2
      go_ret
      refine ⟨?_, rfl⟩
      rfl
end Go.Proofs.Ytlnjfnpoabcllaa

/- number.Print; conditions: as each theorem states. -/
import Derived.Test.YtihbdacmgojapaaRs
namespace Go.Proofs.Ytihbdacmgojapaa
open Go.RowKit

def digit (m : Nat) : UInt8 := UInt8.ofNat (48 + m % 10)
/-- The digits of m ahead of acc, at most so many. -/
def dgs : Nat → Nat → List UInt8 → List UInt8
  | 0, _, acc => acc
  | f + 1, m, acc => if m / 10 = 0 then digit m :: acc else dgs f (m / 10) (digit m :: acc)
theorem digit_toNat (m : Nat) : (48 : Int) + (m : Int) % 10 = ((digit m).toNat : Int) := by
  unfold digit
  simp
  omega
theorem slice20 (b a : Nat) (w : World) (ha : a < 20) : (Instr.sliceAt 79 (.pointer (some ⟨b, 0, none⟩)) (some (.int .i64 (a : Int))) none none).run Try.prog w = .ok (.slice (some ⟨b, a, none⟩) (20 - a) (20 - a)) w := by
  have hu : Try.prog.underlying 79 = some (.array (Try.prog.arrayLen 79) (Try.prog.elem 79)) := by kernel_rfl
  have hl : Try.prog.arrayLen 79 = 20 := by kernel_rfl
  rw [run_sliceAt_array_l w 79 ⟨b, 0, none⟩ hu .i64 a (by omega) (by rw [hl]; omega), hl]
  have hs : (sizeOf (Try.prog.elem 79)).run Try.prog w = .ok 1 w := by
    have := @Try.sizeOf5 w
    have e : Try.prog.elem 79 = 5 := by kernel_rfl
    rw [e]; exact this
  rw [hs]
  have h20 : ¬ 20 = a := by omega
  simp [slicedAt, Addr.add, h20, Result.andThen]
  omega
theorem strDigits (w : World) (g a : Nat) (m : Nat) (ds : List UInt8) (cs : Array Value) (ha : a < 20) (hcs : cs.size = 20) (hhp : w.heap[g]? = some (.cells cs 79 (0, 0))) (hds : cs.toList.drop (a + 1) = Lib.byteCells ds) :
    (convert 23 9 (.slice (some ⟨g, a, none⟩) (20 - a) (20 - a))).run Try.prog (w.setCell ⟨g, a, none⟩ (.int .u8 (digit m).toNat)) = .ok (.string ⟨(digit m :: ds).toArray⟩) (w.setCell ⟨g, a, none⟩ (.int .u8 (digit m).toNat)) := by
  have hl : (digit m :: ds).length = 20 - a := by
    have := congrArg List.length hds
    simp [Lib.byteCells, hcs] at this
    simp
    omega
  have := run_convert_bytes_back (w.setCell ⟨g, a, none⟩ (.int .u8 (digit m).toNat)) 23 9 5 ⟨g, a, none⟩ (20 - a) (digit m :: ds) Try.underlying23 Try.underlying5 Try.underlying9 ?_
  · rw [hl] at this; exact this
  · intro j hj
    have hgl : g < w.heap.size := by
      rcases Nat.lt_or_ge g w.heap.size with h | h
      · exact h
      · simp [Array.getElem?_eq_none h] at hhp
    have hh : (w.setCell ⟨g, a, none⟩ (.int .u8 (digit m).toNat)).heap[g]? = some (.cells (cs.setIfInBounds a (.int .u8 (digit m).toNat)) 79 (0, 0)) := by
      simp [World.setCell, Array.getElem?_modify, hhp]
    rw [show Addr.add ⟨g, a, none⟩ j = ⟨g, a + j, none⟩ by simp [Addr.add], Lib.cell_of_heap hh]
    match j, hj with
    | 0, hj => simp [hcs, ha]
    | j + 1, hj =>
      rw [Array.getElem?_setIfInBounds_ne (by omega)]
      have h1 : cs.toList[a + 1 + j]? = (Lib.byteCells ds)[j]? := by rw [← hds, List.getElem?_drop]
      have hj' : j < ds.length := by simpa using hj
      rw [show a + (j + 1) = a + 1 + j by omega, ← Array.getElem?_toList, h1]
      simp [Lib.byteCells, hj']

set_option maxRecDepth 100000 in
set_option maxHeartbeats 2000000 in
theorem print_pos (n : Nat) (w : World) (hn : n < 9223372036854775808) :
    Calls Try.prog 22 #[.int .i64 n] w fun e w' => e = .returned (.string ⟨(dgs 20 n []).toArray⟩) ∧ Below w.heap.size w w' := by
  go_enter Try.func22, Try.ntmps22
  go_wp2_with fail
  go_loopw [3, 5] (fun s3 s5 wr => ∃ (a m : Nat) (ds : List UInt8) (cs : Array Value), s3 = .int .u64 m ∧ s5 = .int .i64 ((a : Int) + 1) ∧ a < 20 ∧ m < 10 ^ (a + 1) ∧ Hid (wr.heap[w.heap.size]? = some (.cells cs 79 (0, 0))) ∧ cs.size = 20 ∧ Hid (cs.toList.drop (a + 1) = Lib.byteCells ds) ∧ Hid (dgs 20 n [] = dgs (a + 1) m ds) ∧ Hid (Below w.heap.size w wr) ∧ m < 9223372036854775808) (fun _ s5 _ => (intOf s5).toNat)
  case atStart =>
    refine ⟨19, n, [], _, rfl, rfl, by decide, by omega, heap_alloc_new w _, rfl, ?_, ?_, ?_, hn⟩
    · show _ = _
      rfl
    · show _ = _
      rfl
    · exact (Below.refl _ _).alloc (Nat.le_refl _) _
  case round =>
    obtain ⟨a, m, ds, cs, rfl, rfl, ha, hm, hhp, hcs, hds, hd, hb, hm1⟩ := hrel
    have hc := fun i => Lib.cell_of_heap hhp.out i
    have hf := fun i => Lib.frozen_of_heap hhp.out i
    have hca : cs[a]? = some cs[a] := Array.getElem?_eq_getElem (by omega)
    have hcell := (hc a).trans hca
    have hfr := hf a
    have hdig := digit_toNat m
    have hsl := fun w => slice20 w.heap.size a w ha
    clear hc hf
    by_cases h10 : m / 10 = 0
    · have g : ((m : Int) / 10 == 0) = true := by rw [beq_iff_eq]; omega
      have hcv := strDigits wr w.heap.size a m ds cs ha hcs hhp.out hds.out
      have hsl := slice20 w.heap.size a (wr.setCell ⟨w.heap.size, a, none⟩ (.int .u8 (digit m).toNat)) ha
      go_wp2_with fail
      go_ret
      refine ⟨?_, hb.out.setCell (p := ⟨w.heap.size, a, none⟩) (Nat.le_refl _) _⟩
      rw [hd.out]
      simp [dgs, h10]
    · have g : ((m : Int) / 10 == 0) = false := by rw [beq_eq_false_iff_ne]; omega
      go_wp2_with fail
      go_round
      case rel =>
        have ha1 : 1 ≤ a := by
          rcases Nat.eq_zero_or_pos a with h | h
          · subst h; omega
          · exact h
        obtain ⟨b, rfl⟩ : ∃ b, a = b + 1 := ⟨a - 1, by omega⟩
        have hgl : w.heap.size < wr.heap.size := by
          rcases Nat.lt_or_ge w.heap.size wr.heap.size with h | h
          · exact h
          · have := hhp.out; simp [Array.getElem?_eq_none h] at this
        refine ⟨b, m / 10, digit m :: ds, cs.setIfInBounds (b + 1) (.int .u8 (digit m).toNat), by simp, by simp, by omega, ?_, ?_, by simpa using hcs, ?_, ?_, hb.out.setCell (p := ⟨w.heap.size, b + 1, none⟩) (Nat.le_refl _) _, by omega⟩
        · rw [Nat.pow_succ] at hm; omega
        · show _ = _
          simp [World.setCell, Array.getElem?_modify, hhp.out]
        · show _ = _
          have h1 : cs.toList.drop (b + 1 + 1) = Lib.byteCells ds := hds.out
          rw [Array.toList_setIfInBounds, List.drop_eq_getElem_cons (by simp; omega)]
          simp only [List.getElem_set_self]
          rw [List.drop_set_of_lt (by omega), h1]
          simp [Lib.byteCells]
        · show _ = _
          rw [hd.out, dgs, if_neg h10]
      case measure => simp [intOf]
end Go.Proofs.Ytihbdacmgojapaa

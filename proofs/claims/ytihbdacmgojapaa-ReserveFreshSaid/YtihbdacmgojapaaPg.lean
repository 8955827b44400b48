/- number.Print of a number below 0; conditions: as each theorem states. -/
import Derived.Test.YtihbdacmgojapaaPr
namespace Go.Proofs.Ytihbdacmgojapaa
open Go.RowKit

theorem wrapneg (n : Nat) (hn : n ≤ 9223372036854775808) (h1 : 1 ≤ n) : IntKind.u64.wrap (-IntKind.u64.wrap (-(n : Int))) = n := by
  have hw : ∀ z : Int, IntKind.u64.wrap z = z % 18446744073709551616 := by
    intro z
    unfold IntKind.wrap
    simp [IntKind.bits, IntKind.signed]
  rw [hw, hw]
  omega

theorem copy1 (w : World) (g b l : Nat) (v : Value) (hl : 1 ≤ l) (hc : w.cell? ⟨g, b, none⟩ = some v) (hf : w.frozen? ⟨g, b, none⟩ = false) :
    (Builtin.copy_ #[23, 9] 3 #[.slice (some ⟨g, b, none⟩) l l, .string ⟨#[45]⟩]).run Try.prog w = .ok (.int .i64 1) (w.setCell ⟨g, b, none⟩ (.int .u8 45)) := by
  have hst : (storeCells ⟨g, b, none⟩ [.int .u8 45] 0).run Try.prog w = .ok () (w.setCells g (b + 0) [.int .u8 45]) := by
    refine run_storeCells_cells (P := Try.prog) g b [.int .u8 45] 0 w ?_ ?_ (by simp [Value.oneCell'])
    · intro j hj
      have e : j = 0 := by simpa using hj
      subst e
      simp [hc]
    · intro j hj
      have e : j = 0 := by simpa using hj
      subst e
      simpa using hf
  have hz : (⟨#[45]⟩ : ByteArray).size = 1 := rfl
  have hm : Nat.min 1 l = 1 := Nat.min_eq_left hl
  have hs := @Try.sizeOf5 w
  simp [Builtin.copy_, run_underlying Try.underlying23, Builtin.lenOf, Builtin.firstCells, hz, hm, hs, hst, goInt, World.setCells]

theorem strDigits1 (w : World) (g b : Nat) (m : Nat) (ds : List UInt8) (cs : Array Value) (ha : b + 1 < 20) (hcs : cs.size = 20) (hhp : w.heap[g]? = some (.cells cs 79 (0, 0))) (hds : cs.toList.drop (b + 1 + 1) = Lib.byteCells ds) :
    (convert 23 9 (.slice (some ⟨g, b, none⟩) (20 - b) (20 - b))).run Try.prog ((w.setCell ⟨g, b + 1, none⟩ (.int .u8 (digit m).toNat)).setCell ⟨g, b, none⟩ (.int .u8 45)) = .ok (.string ⟨(45 :: digit m :: ds).toArray⟩) ((w.setCell ⟨g, b + 1, none⟩ (.int .u8 (digit m).toNat)).setCell ⟨g, b, none⟩ (.int .u8 45)) := by
  have hl : (45 :: digit m :: ds).length = 20 - b := by
    have := congrArg List.length hds
    simp [Lib.byteCells, hcs] at this
    simp
    omega
  have := run_convert_bytes_back ((w.setCell ⟨g, b + 1, none⟩ (.int .u8 (digit m).toNat)).setCell ⟨g, b, none⟩ (.int .u8 45)) 23 9 5 ⟨g, b, none⟩ (20 - b) (45 :: digit m :: ds) Try.underlying23 Try.underlying5 Try.underlying9 ?_
  · rw [hl] at this; exact this
  · intro j hj
    have hh : ((w.setCell ⟨g, b + 1, none⟩ (.int .u8 (digit m).toNat)).setCell ⟨g, b, none⟩ (.int .u8 45)).heap[g]? = some (.cells ((cs.setIfInBounds (b + 1) (.int .u8 (digit m).toNat)).setIfInBounds b (.int .u8 45)) 79 (0, 0)) := by
      simp [World.setCell, Array.getElem?_modify, hhp]
    rw [show Addr.add ⟨g, b, none⟩ j = ⟨g, b + j, none⟩ by simp [Addr.add], Lib.cell_of_heap hh]
    match j, hj with
    | 0, hj =>
      have hb : b < (cs.setIfInBounds (b + 1) (Value.int .u8 (digit m).toNat)).size := by simp [hcs]; omega
      have hb1 : b < cs.size := by omega
      simp [hb1]
    | 1, hj =>
      rw [Array.getElem?_setIfInBounds_ne (by omega), Array.getElem?_setIfInBounds_self_of_lt (by omega)]
      rfl
    | j + 2, hj =>
      rw [Array.getElem?_setIfInBounds_ne (by omega), Array.getElem?_setIfInBounds_ne (by omega)]
      have h1 : cs.toList[b + 1 + 1 + j]? = (Lib.byteCells ds)[j]? := by rw [← hds, List.getElem?_drop]
      have hj' : j < ds.length := by simpa using hj
      rw [show b + (j + 2) = b + 1 + 1 + j by omega, ← Array.getElem?_toList, h1]
      simp [Lib.byteCells, hj']

set_option maxRecDepth 100000 in
set_option maxHeartbeats 2000000 in
theorem print_neg (n : Nat) (w : World) (hn : n ≤ 9223372036854775808) (h1 : 1 ≤ n) :
    Calls Try.prog 22 #[.int .i64 (-(n : Int))] w fun e w' => e = .returned (.string ⟨(45 :: dgs 20 n []).toArray⟩) ∧ Below w.heap.size w w' := by
  have hneg : (-(n : Int)) < 0 := by omega
  have hwn := wrapneg n hn h1
  go_enter Try.func22, Try.ntmps22
  go_wp2_with fail
  go_loopw [3, 5] (fun s3 s5 wr => ∃ (a m : Nat) (ds : List UInt8) (cs : Array Value), s3 = .int .u64 m ∧ s5 = .int .i64 ((a : Int) + 1) ∧ a < 20 ∧ m < 10 ^ a ∧ Hid (wr.heap[w.heap.size]? = some (.cells cs 79 (0, 0))) ∧ cs.size = 20 ∧ Hid (cs.toList.drop (a + 1) = Lib.byteCells ds) ∧ Hid (dgs 20 n [] = dgs (a + 1) m ds) ∧ Hid (Below w.heap.size w wr) ∧ m ≤ 9223372036854775808 ∧ 1 ≤ m) (fun _ s5 _ => (intOf s5).toNat)
  case atStart =>
    refine ⟨19, n, [], _, by simp, rfl, by decide, by omega, heap_alloc_new w _, rfl, ?_, ?_, ?_, hn, h1⟩
    · show _ = _
      rfl
    · show _ = _
      rfl
    · exact (Below.refl _ _).alloc (Nat.le_refl _) _
  case round =>
    obtain ⟨a, m, ds, cs, rfl, rfl, ha, hm, hhp, hcs, hds, hd, hb, hm1, hm2⟩ := hrel
    have ha1 : 1 ≤ a := by
      rcases Nat.eq_zero_or_pos a with h | h
      · subst h; omega
      · exact h
    obtain ⟨b, rfl⟩ : ∃ b, a = b + 1 := ⟨a - 1, by omega⟩
    have hc := fun i => Lib.cell_of_heap hhp.out i
    have hf := fun i => Lib.frozen_of_heap hhp.out i
    have hca : cs[b + 1]? = some cs[b + 1] := Array.getElem?_eq_getElem (by omega)
    have hcell := (hc (b + 1)).trans hca
    have hfr := hf (b + 1)
    have hca0 : cs[b]? = some cs[b] := Array.getElem?_eq_getElem (by omega)
    have hcell0 := (hc b).trans hca0
    have hfr0 := hf b
    have hdig := digit_toNat m
    clear hc hf
    by_cases h10 : m / 10 = 0
    · have g : ((m : Int) / 10 == 0) = true := by rw [beq_iff_eq]; omega
      have hsl := slice20 w.heap.size b (wr.setCell ⟨w.heap.size, b + 1, none⟩ (.int .u8 (digit m).toNat)) (by omega)
      have hcp := copy1 (wr.setCell ⟨w.heap.size, b + 1, none⟩ (.int .u8 (digit m).toNat)) w.heap.size b (20 - b) cs[b] (by omega) (by rw [World.cell?_setCell_other _ _ _ _ (by simp)]; exact hcell0) (by simpa using hfr0)
      have hcv := strDigits1 wr w.heap.size b m ds cs ha hcs hhp.out hds.out
      have hsl2 := slice20 w.heap.size b ((wr.setCell ⟨w.heap.size, b + 1, none⟩ (.int .u8 (digit m).toNat)).setCell ⟨w.heap.size, b, none⟩ (.int .u8 45)) (by omega)
      go_wp2_with fail
      go_ret
      refine ⟨?_, (hb.out.setCell (p := ⟨w.heap.size, b + 1, none⟩) (Nat.le_refl _) _).setCell (p := ⟨w.heap.size, b, none⟩) (Nat.le_refl _) _⟩
      rw [hd.out]
      simp [dgs, h10]
    · have g : ((m : Int) / 10 == 0) = false := by rw [beq_eq_false_iff_ne]; omega
      go_wp2_with fail
      go_round
      case rel =>
        have hgl : w.heap.size < wr.heap.size := by
          rcases Nat.lt_or_ge w.heap.size wr.heap.size with h | h
          · exact h
          · have := hhp.out; simp [Array.getElem?_eq_none h] at this
        refine ⟨b, m / 10, digit m :: ds, cs.setIfInBounds (b + 1) (.int .u8 (digit m).toNat), by simp, by simp, by omega, ?_, ?_, by simpa using hcs, ?_, ?_, hb.out.setCell (p := ⟨w.heap.size, b + 1, none⟩) (Nat.le_refl _) _, by omega, by omega⟩
        · rw [Nat.pow_succ] at hm; omega
        · show _ = _
          simp [World.setCell, Array.getElem?_modify, hhp.out]
        · show _ = _
          have h1 : cs.toList.drop (b + 1 + 1) = Lib.byteCells ds := hds.out
          rw [Array.toList_setIfInBounds, List.drop_eq_getElem_cons (by simp; omega)]
          simp only [List.getElem_set_self]
          rw [List.drop_set_of_lt (by omega), h1]
          simp [Lib.byteCells]
        · show _ = _
          rw [hd.out, dgs, if_neg h10]
      case measure => simp [intOf]; omega
end Go.Proofs.Ytihbdacmgojapaa

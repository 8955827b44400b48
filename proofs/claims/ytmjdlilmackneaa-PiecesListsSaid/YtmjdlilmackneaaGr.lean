/- glob.lengths: the iterator's contract; conditions: as each theorem states. -/
import Derived.RangeFuncNested
import Derived.RangeFuncBound
import Derived.RangeFuncCalls
import Derived.RangeFuncLeaves
import Derived.RangeFuncBox
import Derived.Shelf.Abstract
import Derived.Shelf.RegionOpen
import Derived.WalkKit
import Derived.OwnWalkIn
import Derived.TacticsInMore
import Derived.LoopNIn
import Derived.LoopIn
import Derived.Test.YtmjdlilmackneaaGc
namespace Go.Proofs.Ytmjdlilmackneaa
open Go.RowKit Go.Shelf
attribute [local go_sem] Oper.semAt_some

abbrev LenA (N : Nat) := {x : Nat // x ≤ N}
def lenA (N : Nat) (lg : Bool) (j : Nat) : LenA N := ⟨min N (ix N lg j), Nat.min_le_left _ _⟩
theorem lenA_val {N : Nat} {lg : Bool} {j : Nat} (h : j ≤ N) : (lenA N lg j).1 = ix N lg j := by
  show min N (ix N lg j) = _
  cases lg <;> simp [ix] <;> omega
/-- What has come when k rounds are over. -/
def uptoA {α : Type} (f : Nat → α) (k : Nat) : List α := (List.range k).map f
theorem uptoA_succ {α : Type} (f : Nat → α) (k : Nat) : uptoA f (k + 1) = uptoA f k ++ [f k] := by simp [uptoA, List.range_succ]
theorem uptoA_length {α : Type} (f : Nat → α) (k : Nat) : (uptoA f k).length = k := by simp [uptoA]
theorem uptoA_mem {α : Type} {f : Nat → α} {k j : Nat} (h : j < k) : f j ∈ uptoA f k := List.mem_map.2 ⟨j, List.mem_range.2 h, rfl⟩

set_option maxRecDepth 100000 in
set_option maxHeartbeats 2000000 in
theorem lens_stops (n : Nat) (hn : 1 ≤ n) (bn bl n₀ N : Nat) (lg : Bool) (hN : N ≤ 4611686018427387904) (w : World) (hbn : bn < n₀) (hbl : bl < n₀) (hn₀ : n₀ ≤ w.heap.size) (h1 : w.cell? ⟨bn, 0, none⟩ = some (.int .i64 (N : Int))) (h2 : w.cell? ⟨bl, 0, none⟩ = some (.bool lg)) :
    SeqStopsK Fence.wide n Try.prog 42 #[.pointer (some ⟨bn, 0, none⟩), .pointer (some ⟨bl, 0, none⟩)] (fun x : LenA N => #[Value.int .i64 (x.1 : Int)]) (Below n₀) (fun ys => ys = uptoA (lenA N lg) (N + 1)) (fun pre => ∃ k, k ≤ N + 1 ∧ pre = uptoA (lenA N lg) k) (N + 1) w := fun l J Jx W hW _ _ hY h0 => by
  have e1 := (hW.cell (p := ⟨bn, 0, none⟩) (by show bn < _; omega)).trans h1
  have e2 := (hW.cell (p := ⟨bl, 0, none⟩) (by show bl < _; omega)).trans h2
  clear h1 h2
  refine callsIn_of_wp Try.func42 rfl trivial ?_ rfl
  simp only [Try.ntmps42, List.size_toArray, List.length_cons, List.length_nil, Nat.reduceAdd, Nat.reduceSub, Array.replicate_succ, Array.replicate_zero, List.push_toArray, List.append_toArray, List.nil_append, List.cons_append]
  gi_wp2
  gi_loopw [8] (fun i wr => ∃ k : Nat, k ≤ N + 1 ∧ i = .int .i64 k ∧ J (uptoA (lenA N lg) k) wr ∧ Below n₀ W wr) (fun i _ => N + 1 - (intOf i).toNat)
  case atStart => exact ⟨0, Nat.zero_le _, rfl, h0, Below.refl _ _⟩
  case round =>
    obtain ⟨k, hk, rfl, hJs, hnx⟩ := hrel
    have d1 := (hnx.cell (p := ⟨bn, 0, none⟩) hbn).trans e1
    have d2 := (hnx.cell (p := ⟨bl, 0, none⟩) hbl).trans e2
    by_cases hlt : k < N + 1
    · obtain ⟨fn, tmps, assign, body, hy, hR⟩ := hY _ (lenA N lg k) wr hJs (by rw [uptoA_length]; exact hlt)
      rw [lenA_val (by omega)] at hy
      have HJ := Lib.hid hJs
      clear hJs
      cases lg
      · have hy' : (Instr.yield l #[Value.int .i64 (k : Int)]).run Try.prog wr = .ok (.round l fn tmps assign body) wr := hy
        clear hy
        gi_wp2
        refine hR.mono ?_
        rintro e W3 (⟨rfl, hJ3, hk3⟩ | ⟨rfl, hJx3⟩)
        · gi_wp2
          go_roundw
          case rel => exact ⟨k + 1, by omega, by simp, by rw [uptoA_succ]; exact hJ3, hnx.trans hk3⟩
          case measure => simp [intOf]; omega
        · gi_wp2
          refine bodyPost_ret (results_none rfl _ _ _) rfl ?_
          exact ⟨⟨_, rfl⟩, .inr ⟨_, ⟨k + 1, by omega, (uptoA_succ _ _).symm⟩, hJx3⟩⟩
      · have hy' : (Instr.yield l #[Value.int .i64 ((N : Int) - (k : Int))]).run Try.prog wr = .ok (.round l fn tmps assign body) wr := by
          have e : ((ix N true k : Nat) : Int) = (N : Int) - (k : Int) := by simp [ix]; omega
          rw [e] at hy
          exact hy
        clear hy
        gi_wp2
        refine hR.mono ?_
        rintro e W3 (⟨rfl, hJ3, hk3⟩ | ⟨rfl, hJx3⟩)
        · gi_wp2
          go_roundw
          case rel => exact ⟨k + 1, by omega, by simp, by rw [uptoA_succ]; exact hJ3, hnx.trans hk3⟩
          case measure => simp [intOf]; omega
        · gi_wp2
          refine bodyPost_ret (results_none rfl _ _ _) rfl ?_
          exact ⟨⟨_, rfl⟩, .inr ⟨_, ⟨k + 1, by omega, (uptoA_succ _ _).symm⟩, hJx3⟩⟩
    · obtain rfl : k = N + 1 := by omega
      gi_wp2
      go_end0
      exact ⟨⟨_, rfl⟩, .inl ⟨_, rfl, hJs⟩⟩

set_option maxRecDepth 100000 in
set_option maxHeartbeats 1000000 in
theorem lens_any (n : Nat) (N : Nat) (lg : Bool) (w : World) :
    CallsIn Fence.wide n Try.prog 31 #[.int .i64 (N : Int), .bool lg] w fun e w' => e = .returned (.func (.func 42) #[] #[.pointer (some ⟨w.heap.size, 0, none⟩), .pointer (some ⟨w.heap.size + 1, 0, none⟩)]) ∧ w' = (w.alloc (.cells #[.int .i64 (N : Int)] 3)).alloc (.cells #[.bool lg] 4) := by
  refine callsIn_of_wp Try.func31 rfl trivial ?_ rfl
  simp only [Try.ntmps31, List.size_toArray, List.length_cons, List.length_nil, Nat.reduceAdd, Nat.reduceSub, Array.replicate_succ, Array.replicate_zero, List.push_toArray, List.append_toArray, List.nil_append, List.cons_append]
  gi_wp2
  go_ret
  exact ⟨rfl, rfl⟩
end Go.Proofs.Ytmjdlilmackneaa

/- The walk of cowrielaw22.FdsPipes over the calls of a pipe. Conditions: as each theorem states. -/
import Derived.Test.YtnpjiceibcfblaaPn
import Derived.Test.YtnpjiceibcfblaaFdsB
import Derived.Outline
import Derived.LoopTactic
import Derived.Lib.Hide
namespace Go.Proofs.Ytnpjiceibcfblaa
open Go.Conc Go.RowKit

/-- The values that are put, in order. -/
def allS (f : Nat → ByteArray) (len : Nat) : List Value := (List.range len).map fun i => .string (f i)
theorem allS_length (f : Nat → ByteArray) (len : Nat) : (allS f len).length = len := by simp [allS]
theorem allS_get (f : Nat → ByteArray) (len k : Nat) (h : k < len) : (allS f len)[k]'(by simpa [allS] using h) = .string (f k) := by simp [allS]
theorem put_snoc (f : Nat → ByteArray) (len n k : Nat) (h : k < len) (hn : k < n) : (allS f len).take (min k n) ++ [.string (f k)] = (allS f len).take (min (k + 1) n) := by
  rw [Nat.min_eq_left (by omega), Nat.min_eq_left (by omega), List.take_succ_eq_append_getElem (by simpa [allS] using h), allS_get f len k h]
theorem put_same (f : Nat → ByteArray) (len n k : Nat) (hn : n ≤ k) : (allS f len).take (min k n) = (allS f len).take (min (k + 1) n) := by
  rw [Nat.min_eq_right hn, Nat.min_eq_right (by omega)]
theorem put_len (f : Nat → ByteArray) (len n k : Nat) (h : k ≤ len) : ((allS f len).take (min k n)).length = min k n := by simp [allS]; omega
theorem take_cons (f : Nat → ByteArray) (len n k : Nat) (h : k < len) (hn : k < n) : ((allS f len).take n).drop k = .string (f k) :: ((allS f len).take n).drop (k + 1) := by
  rw [List.drop_eq_getElem_cons (by simp [allS]; omega)]
  simp [allS]
theorem take_end (f : Nat → ByteArray) (len n k : Nat) (h : len ≤ k ∨ n ≤ k) : ((allS f len).take n).drop k = [] := by
  apply List.drop_eq_nil_of_le; simp [allS]; omega
theorem take_all (f : Nat → ByteArray) (len n : Nat) : (allS f len).take (min len n) = (allS f len).take n := by
  rw [List.take_eq_take_iff]; simp [allS, Nat.min_comm]

set_option maxRecDepth 100000 in
set_option maxHeartbeats 1000000 in
theorem pipes_yes (size : Int) (n : Nat) (oa : Option Addr) (len cap : Nat) (f : Nat → ByteArray) (w : World) (hlen : len ≤ 9223372036854775807) (hn1 : 1 ≤ n) (hn : size.tmod 40 % 40 - 3 = n)
    (hcell : ∀ i, i < len → ∃ b off, oa = some ⟨b, off, none⟩ ∧ b < w.heap.size ∧ w.cell? ⟨b, off + i, none⟩ = some (.string (f i))) :
    Calls Try.prog 6 #[.int .i64 size, .slice oa len cap] w fun e w' => e = .returned (.bool true) ∧ Below w.heap.size w w' := by
  have Hcell := Lib.hid hcell
  clear hcell
  have b1 : -40 < size.tmod 40 := Int.lt_tmod_of_pos size (by omega)
  have b2 : size.tmod 40 < 40 := Int.tmod_lt_of_pos size (by omega)
  have hn2 : n ≤ 40 := by omega
  have HN := Lib.hid hn
  have hge : 1 ≤ size.tmod 40 % 40 - 3 := by omega
  clear hn
  go_enter Try.func6, Try.ntmps6
  go_wp2_with (first | (go_at_call 8; (with_reducible refine (alive_any _).mono ?_); rintro e w' ⟨rfl, hb⟩; have hz := hb.size; have HB := Lib.hid hb; clear hb) | (go_at_call 15; (with_reducible refine (newS_any _ n (by omega) hn1 (Or.inl HN.out) _).mono ?_); rintro e w9 ⟨rfl, rfl⟩))
  generalize hW0 : ((w'.alloc (.chan n #[] false 0 0 false)).alloc (.cells #[.chan (some w'.heap.size)] 58)) = W0
  have hP0 : Pip W0 w'.heap.size (w'.heap.size + 1) w'.heap.size n [] W0 := by
    subst hW0
    exact ⟨by go_simp, ⟨0, 0, by rw [Below.heap_alloc _ _ _ (by simp)]; exact heap_alloc_new _ _⟩, by omega, Nat.le_refl _, Below.refl _ _⟩
  have hb0 : Below w.heap.size w W0 := by subst hW0; exact ((HB.out).alloc (by omega) _).alloc (by simp; omega) _
  have HB0 := Lib.hid hb0
  have HP0 := Lib.hid hP0
  clear hW0 hb0 hP0 HB
  rw [HN.out]
  clear hge
  go_loopw [7] (fun i wr => ∃ k : Nat, k ≤ len ∧ i = .int .i64 k ∧ Hid (Pip W0 w'.heap.size (w'.heap.size + 1) w'.heap.size n ((allS f len).take (min k n)) wr)) (fun i _ => len - (intOf i).toNat)
  case atStart => exact ⟨0, Nat.zero_le _, rfl, by simpa using HP0⟩
  case round =>
    obtain ⟨k, hk, rfl, hPk⟩ := hrel
    by_cases hlt : k < len
    · obtain ⟨b, off, rfl, hbw, hc⟩ := Hcell.out k hlt
      have hx : wr.cell? ⟨b, off + k, none⟩ = some (.string (f k)) := (hPk.out.below.cell (by simp; omega)).trans ((HB0.out.cell hbw).trans hc)
      by_cases hn : k < n
      · go_wp2_with fail
        refine (pip_putS_room hPk.out _ (by rw [put_len _ _ _ _ hk]; omega)).mono ?_
        rintro e w2 ⟨rfl, hP2, _⟩
        rw [put_snoc f len n k hlt hn] at hP2
        have HP2 := Lib.hid hP2
        clear hP2
        go_wp2_with fail
        go_roundw
        case rel => exact ⟨k + 1, by omega, by go_num, HP2⟩
        case measure => simp [intOf]; omega
      · go_wp2_with fail
        refine (pip_putS_full hPk.out _ (by rw [put_len _ _ _ _ hk]; omega)).mono ?_
        rintro e w9 ⟨rfl, rfl⟩
        go_wp2_with fail
        go_roundw
        case rel => exact ⟨k + 1, by omega, by go_num, by rw [← put_same f len n k (by omega)]; exact hPk⟩
        case measure => simp [intOf]; omega
    · obtain rfl : k = len := by omega
      rw [take_all] at hPk
      go_wp2_with fail
      go_loopw [8] (fun i wx => ∃ j : Nat, j ≤ k ∧ j ≤ n ∧ i = .int .i64 j ∧ Hid (Pip W0 w'.heap.size (w'.heap.size + 1) w'.heap.size n (((allS f k).take n).drop j) wx)) (fun i _ => k - (intOf i).toNat)
      case atStart => exact ⟨0, Nat.zero_le _, Nat.zero_le _, rfl, by simpa using hPk⟩
      case round =>
        obtain ⟨j, hj, hj2, rfl, hPj⟩ := hrel
        by_cases hlt2 : j < k
        · by_cases hn : j < n
          · obtain ⟨b, off, rfl, hbw, hc⟩ := Hcell.out j hlt2
            rw [take_cons f k n j hlt2 hn] at hPj
            have hHX : ∀ buf w2, Hid (Pip W0 w'.heap.size (w'.heap.size + 1) w'.heap.size n buf w2) → w2.cell? ⟨b, off + j, none⟩ = some (.string (f j)) := fun buf w2 h => (h.out.below.cell (by simp; omega)).trans ((HB0.out.cell hbw).trans hc)
            go_wp2_with fail
            refine (pip_takeS_some hPj.out).mono ?_
            rintro e w3 ⟨rfl, hP3, _⟩
            have HP3 := Lib.hid hP3
            have hx3 := hHX _ _ HP3
            clear hP3
            go_wp2_with fail
            go_roundw
            case rel => exact ⟨j + 1, by omega, by omega, by go_num, HP3⟩
            case measure => simp [intOf]; omega
          · rw [take_end f k n j (by omega)] at hPj
            go_wp2_with fail
            refine (pip_takeS_none hPj.out).mono ?_
            rintro e w9 ⟨rfl, rfl⟩
            go_wp2_with fail
            go_ret
            exact ⟨rfl, HB0.out.trans (hPj.out.below.mono (by omega))⟩
        · rw [take_end f k n j (by omega)] at hPj
          go_wp2_with fail
          refine (pip_takeS_none hPj.out).mono ?_
          rintro e w9 ⟨rfl, rfl⟩
          go_wp2_with fail
          go_ret
          exact ⟨rfl, HB0.out.trans (hPj.out.below.mono (by omega))⟩
set_option maxRecDepth 100000 in
set_option maxHeartbeats 1000000 in
theorem pipes_no (size : Int) (oa : Option Addr) (len cap : Nat) (f : Nat → ByteArray) (w : World) (hlen : len ≤ 9223372036854775807) (hn : size.tmod 40 % 40 - 3 < 1)
    (hcell : ∀ i, i < len → ∃ b off, oa = some ⟨b, off, none⟩ ∧ b < w.heap.size ∧ w.cell? ⟨b, off + i, none⟩ = some (.string (f i))) :
    Calls Try.prog 6 #[.int .i64 size, .slice oa len cap] w fun e w' => e = .returned (.bool true) ∧ Below w.heap.size w w' := by
  have Hcell := Lib.hid hcell
  clear hcell
  have b1 : -40 < size.tmod 40 := Int.lt_tmod_of_pos size (by omega)
  have b2 : size.tmod 40 < 40 := Int.tmod_lt_of_pos size (by omega)
  go_enter Try.func6, Try.ntmps6
  go_wp2_with (first | (go_at_call 8; (with_reducible refine (alive_any _).mono ?_); rintro e w' ⟨rfl, hb⟩; have hz := hb.size; have HB := Lib.hid hb; clear hb) | (go_at_call 15; (with_reducible refine (newS_any _ 1 (by omega) (by omega) (Or.inr ⟨hn, rfl⟩) _).mono ?_); rintro e w9 ⟨rfl, rfl⟩))
  generalize hW0 : ((w'.alloc (.chan 1 #[] false 0 0 false)).alloc (.cells #[.chan (some w'.heap.size)] 58)) = W0
  have hP0 : Pip W0 w'.heap.size (w'.heap.size + 1) w'.heap.size 1 [] W0 := by
    subst hW0
    exact ⟨by go_simp, ⟨0, 0, by rw [Below.heap_alloc _ _ _ (by simp)]; exact heap_alloc_new _ _⟩, by omega, Nat.le_refl _, Below.refl _ _⟩
  have hb0 : Below w.heap.size w W0 := by subst hW0; exact ((HB.out).alloc (by omega) _).alloc (by simp; omega) _
  have HB0 := Lib.hid hb0
  have HP0 := Lib.hid hP0
  clear hW0 hb0 hP0 HB
  clear hn
  go_loopw [7] (fun i wr => ∃ k : Nat, k ≤ len ∧ i = .int .i64 k ∧ Hid (Pip W0 w'.heap.size (w'.heap.size + 1) w'.heap.size 1 ((allS f len).take (min k 1)) wr)) (fun i _ => len - (intOf i).toNat)
  case atStart => exact ⟨0, Nat.zero_le _, rfl, by simpa using HP0⟩
  case round =>
    obtain ⟨k, hk, rfl, hPk⟩ := hrel
    by_cases hlt : k < len
    · obtain ⟨b, off, rfl, hbw, hc⟩ := Hcell.out k hlt
      have hx : wr.cell? ⟨b, off + k, none⟩ = some (.string (f k)) := (hPk.out.below.cell (by simp; omega)).trans ((HB0.out.cell hbw).trans hc)
      by_cases hn : k < 1
      · obtain rfl : k = 0 := by omega
        have hx0 : wr.cell? ⟨b, off, none⟩ = some (.string (f 0)) := hx
        clear hn hx
        go_wp2_with fail
        refine (pip_putS_room hPk.out _ (by rw [put_len _ _ _ _ hk]; omega)).mono ?_
        rintro e w2 ⟨rfl, hP2, _⟩
        rw [put_snoc f len 1 0 hlt (by omega)] at hP2
        have HP2 := Lib.hid hP2
        clear hP2
        go_wp2_with fail
        go_roundw
        case rel => exact ⟨1, by omega, by go_num, HP2⟩
        case measure => simp [intOf]; omega
      · go_wp2_with fail
        refine (pip_putS_full hPk.out _ (by rw [put_len _ _ _ _ hk]; omega)).mono ?_
        rintro e w9 ⟨rfl, rfl⟩
        go_wp2_with fail
        go_roundw
        case rel => exact ⟨k + 1, by omega, by go_num, by rw [← put_same f len 1 k (by omega)]; exact hPk⟩
        case measure => simp [intOf]; omega
    · obtain rfl : k = len := by omega
      rw [take_all] at hPk
      go_wp2_with fail
      go_loopw [8] (fun i wx => ∃ j : Nat, j ≤ k ∧ j ≤ 1 ∧ i = .int .i64 j ∧ Hid (Pip W0 w'.heap.size (w'.heap.size + 1) w'.heap.size 1 (((allS f k).take 1).drop j) wx)) (fun i _ => k - (intOf i).toNat)
      case atStart => exact ⟨0, Nat.zero_le _, Nat.zero_le _, rfl, by simpa using hPk⟩
      case round =>
        obtain ⟨j, hj, hj2, rfl, hPj⟩ := hrel
        by_cases hlt2 : j < k
        · by_cases hn : j < 1
          · obtain ⟨b, off, rfl, hbw, hc⟩ := Hcell.out j hlt2
            rw [take_cons f k 1 j hlt2 hn] at hPj
            have hHX : ∀ buf w2, Hid (Pip W0 w'.heap.size (w'.heap.size + 1) w'.heap.size 1 buf w2) → w2.cell? ⟨b, off + j, none⟩ = some (.string (f j)) := fun buf w2 h => (h.out.below.cell (by simp; omega)).trans ((HB0.out.cell hbw).trans hc)
            go_wp2_with fail
            refine (pip_takeS_some hPj.out).mono ?_
            rintro e w3 ⟨rfl, hP3, _⟩
            have HP3 := Lib.hid hP3
            have hx3 := hHX _ _ HP3
            clear hP3
            go_wp2_with fail
            go_roundw
            case rel => exact ⟨j + 1, by omega, by omega, by go_num, HP3⟩
            case measure => simp [intOf]; omega
          · rw [take_end f k 1 j (by omega)] at hPj
            go_wp2_with fail
            refine (pip_takeS_none hPj.out).mono ?_
            rintro e w9 ⟨rfl, rfl⟩
            go_wp2_with fail
            go_ret
            exact ⟨rfl, HB0.out.trans (hPj.out.below.mono (by omega))⟩
        · rw [take_end f k 1 j (by omega)] at hPj
          go_wp2_with fail
          refine (pip_takeS_none hPj.out).mono ?_
          rintro e w9 ⟨rfl, rfl⟩
          go_wp2_with fail
          go_ret
          exact ⟨rfl, HB0.out.trans (hPj.out.below.mono (by omega))⟩

theorem pipes_law (size : Int) (oa : Option Addr) (len cap : Nat) (f : Nat → ByteArray) (w : World) (hlen : len ≤ 9223372036854775807)
    (hcell : ∀ i, i < len → ∃ b off, oa = some ⟨b, off, none⟩ ∧ b < w.heap.size ∧ w.cell? ⟨b, off + i, none⟩ = some (.string (f i))) :
    Calls Try.prog 6 #[.int .i64 size, .slice oa len cap] w fun e w' => e = .returned (.bool true) ∧ Below w.heap.size w w' := by
  by_cases h : size.tmod 40 % 40 - 3 < 1
  · exact pipes_no size oa len cap f w hlen h hcell
  · obtain ⟨n, hn⟩ := Int.eq_ofNat_of_zero_le (a := size.tmod 40 % 40 - 3) (by omega)
    exact pipes_yes size n oa len cap f w hlen (by omega) hn hcell
end Go.Proofs.Ytnpjiceibcfblaa

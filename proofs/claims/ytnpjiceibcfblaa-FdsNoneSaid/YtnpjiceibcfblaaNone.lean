/- The walk of cowrielaw22.FdsNone over the calls of a pipe. Conditions: as each theorem states. -/
import Derived.Test.YtnpjiceibcfblaaPn
import Derived.Test.YtnpjiceibcfblaaFdsB
import Derived.Outline
import Derived.LoopTactic
import Derived.Lib.Hide
namespace Go.Proofs.Ytnpjiceibcfblaa
open Go.Conc Go.RowKit

set_option maxRecDepth 100000 in
set_option maxHeartbeats 1000000 in
theorem none_law (oa : Option Addr) (len cap : Nat) (f : Nat → Int) (w : World) (hlen : len ≤ 9223372036854775807)
    (hcell : ∀ i, i < len → ∃ b off, oa = some ⟨b, off, none⟩ ∧ b < w.heap.size ∧ w.cell? ⟨b, off + i, none⟩ = some (.int .i64 (f i))) :
    Calls Try.prog 7 #[.slice oa len cap] w fun e w' => e = .returned (.bool true) ∧ Below w.heap.size w w' := by
  have Hcell := Lib.hid hcell
  clear hcell
  go_enter Try.func7, Try.ntmps7
  go_wp2_with (first | (go_at_call 8; (with_reducible refine (alive_any _).mono ?_); rintro e w' ⟨rfl, hb⟩; have hz := hb.size; have HB := Lib.hid hb; clear hb) | (go_at_call 18; (with_reducible refine (newI_any 1 1 (by omega) (by omega) (Or.inl rfl) _).mono ?_); rintro e w9 ⟨rfl, rfl⟩))
  generalize hW0 : (((w'.alloc (.cells #[.chan none] 50)).alloc (.chan 1 #[] false 0 0 false)).alloc (.cells #[.chan (some (w'.heap.size + 1))] 50)) = W0
  have hP0 : Pip W0 (w'.heap.size + 1) (w'.heap.size + 1 + 1) (w'.heap.size + 1) 1 [] W0 := by
    subst hW0
    exact ⟨by go_simp, ⟨0, 0, by rw [Below.heap_alloc _ _ _ (by simp)]; have := heap_alloc_new (w'.alloc (.cells #[.chan none] 50)) (.chan 1 #[] false 0 0 false); simpa using this⟩, by omega, Nat.le_refl _, Below.refl _ _⟩
  have hz0 : W0.cell? ⟨w'.heap.size, 0, none⟩ = some (.chan none) := by subst hW0; go_simp
  have hb0 : Below w.heap.size w W0 := by subst hW0; exact (((HB.out).alloc (by omega) _).alloc (by simp; omega) _).alloc (by simp; omega) _
  have HB0 := Lib.hid hb0
  have HP0 := Lib.hid hP0
  have HZ0 := Lib.hid hz0
  clear hW0 hb0 hP0 hz0 HB
  go_loopw [6] (fun i wr => ∃ k : Nat, k ≤ len ∧ i = .int .i64 k ∧ Hid (Pip W0 (w'.heap.size + 1) (w'.heap.size + 1 + 1) (w'.heap.size + 1) 1 [] wr)) (fun i _ => len - (intOf i).toNat)
  case atStart => exact ⟨0, Nat.zero_le _, rfl, HP0⟩
  case round =>
    obtain ⟨k, hk, rfl, hPk⟩ := hrel
    have hP := hPk.out
    have hzc : wr.cell? ⟨w'.heap.size, 0, none⟩ = some (.chan none) := (hP.below.cell (by simp)).trans HZ0.out
    by_cases hlt : k < len
    · obtain ⟨b, off, rfl, hbw, hc⟩ := Hcell.out k hlt
      have HX : ∀ buf w2, Hid (Pip W0 (w'.heap.size + 1) (w'.heap.size + 1 + 1) (w'.heap.size + 1) 1 buf w2) → w2.cell? ⟨b, off + k, none⟩ = some (.int .i64 (f k)) := fun buf w2 h =>
        (h.out.below.cell (by simp; omega)).trans ((HB0.out.cell hbw).trans hc)
      have hx := HX _ _ hPk
      clear hP
      go_wp2_with fail
      refine (putI_nil _ _).mono ?_
      rintro e w9 ⟨rfl, rfl⟩
      go_wp2_with fail
      refine (putI_zero _ _ _ hzc).mono ?_
      rintro e w9 ⟨rfl, rfl⟩
      go_wp2_with fail
      refine (pip_putI_room hPk.out _ (by simp)).mono ?_
      rintro e w2 ⟨rfl, hP2, _⟩
      have HP2 := Lib.hid hP2
      have hx2 := HX _ _ HP2
      clear hP2
      go_wp2_with fail
      refine (pip_putI_full HP2.out _ (by simp)).mono ?_
      rintro e w9 ⟨rfl, rfl⟩
      go_wp2_with fail
      refine (pip_takeI_some HP2.out).mono ?_
      rintro e w3 ⟨rfl, hP3, _⟩
      have HP3 := Lib.hid hP3
      have hx3 := HX _ _ HP3
      clear hP3
      go_wp2_with fail
      go_roundw
      case rel => exact ⟨k + 1, by omega, by go_num, HP3⟩
      case measure => simp [intOf]; omega
    · clear hP
      go_wp2_with fail
      refine (takeI_nil _).mono ?_
      rintro e w9 ⟨rfl, rfl⟩
      go_wp2_with fail
      refine (takeI_zero _ _ hzc).mono ?_
      rintro e w9 ⟨rfl, rfl⟩
      go_wp2_with fail
      go_ret
      exact ⟨rfl, HB0.out.trans (hPk.out.below.mono (by omega))⟩
end Go.Proofs.Ytnpjiceibcfblaa

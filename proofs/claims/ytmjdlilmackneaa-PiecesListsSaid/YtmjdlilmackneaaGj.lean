/- pieces.Substring; alive of the pieces; conditions: as each theorem states. -/
import Derived.Test.YtmjdlilmackneaaGi
namespace Go.Proofs.Ytmjdlilmackneaa
open Go.RowKit

set_option maxRecDepth 100000 in
set_option maxHeartbeats 1000000 in
theorem sub_from (s : ByteArray) (k : Nat) (w : World) (_hs : s.size ≤ 4611686018427387000) (hk : k ≤ s.size) :
    Calls Try.prog 21 #[.string s, .int .i64 (k : Int), .int .i64 0, .bool false] w fun e w' => e = .returned (.string (s.extract k s.size)) ∧ w = w' := by
  have h0 : (0 : Int) ≤ (k : Int) := Int.natCast_nonneg _
  have h1 : (k : Int) ≤ (s.size : Int) := by omega
  have h2 : decide ((k : Int) < 0) = false := decide_eq_false (by omega)
  have h3 : decide ((s.size : Int) < (k : Int)) = false := decide_eq_false (by omega)
  go_enter Try.func21, Try.ntmps21
  go_wp2
  go_ret
  exact ⟨rfl, rfl⟩

set_option maxRecDepth 100000 in
set_option maxHeartbeats 1000000 in
theorem sub_back (s : ByteArray) (k : Nat) (w : World) (hs : s.size ≤ 4611686018427387000) (hk : k < s.size) :
    Calls Try.prog 21 #[.string s, .int .i64 ((k : Int) - (s.size : Int)), .int .i64 0, .bool false] w fun e w' => e = .returned (.string (s.extract k s.size)) ∧ w = w' := by
  have h0 : (0 : Int) ≤ (k : Int) := Int.natCast_nonneg _
  have h1 : (k : Int) ≤ (s.size : Int) := by omega
  have h2 : decide ((k : Int) - (s.size : Int) < 0) = true := decide_eq_true (by omega)
  have h3 : decide ((s.size : Int) < (k : Int)) = false := decide_eq_false (by omega)
  have h4 : decide ((k : Int) < 0) = false := decide_eq_false (by omega)
  go_enter Try.func21, Try.ntmps21
  go_wp2
  go_ret
  exact ⟨rfl, rfl⟩

set_option maxRecDepth 100000 in
set_option maxHeartbeats 1000000 in
theorem sub_sized (s : ByteArray) (k : Nat) (w : World) (_hs : s.size ≤ 4611686018427387000) (hk : k ≤ s.size) :
    Calls Try.prog 21 #[.string s, .int .i64 0, .int .i64 (k : Int), .bool true] w fun e w' => e = .returned (.string (s.extract 0 k)) ∧ w = w' := by
  have h0 : (0 : Int) ≤ (k : Int) := Int.natCast_nonneg _
  have h1 : (k : Int) ≤ (s.size : Int) := by omega
  have h3 : decide ((s.size : Int) < (k : Int)) = false := decide_eq_false (by omega)
  have h4 : decide ((0 : Int) ≤ (k : Int)) = true := by simp
  go_enter Try.func21, Try.ntmps21
  go_wp2
  go_ret
  exact ⟨rfl, rfl⟩

set_option maxRecDepth 100000 in
set_option maxHeartbeats 2000000 in
theorem alive19_any (w : World) : Calls Try.prog 20 #[] w fun e w' => e = .returned (.bool true) ∧ Below w.heap.size w w' := by
  have h1 : Hid (∀ V : World, Calls Try.prog 21 #[.string ⟨#[97, 98, 99, 100, 101, 102]⟩, .int .i64 (-2), .int .i64 0, .bool false] V fun e w' => e = .returned (.string ⟨#[101, 102]⟩) ∧ V = w') := fun V => by
    have := sub_back ⟨#[97, 98, 99, 100, 101, 102]⟩ 4 V (by show 6 ≤ _; decide) (by show 4 < 6; decide)
    exact this
  have h2 : Hid (∀ V : World, Calls Try.prog 22 #[.string ⟨#[97, 98, 97]⟩, .slice (some ⟨V.heap.size, 0, none⟩) 1 1, .string ⟨#[120]⟩, .bool true] (V.alloc (.cells #[.int .u8 97, .bool true] 25)) fun e w' => e = .returned (.string ⟨#[120, 98, 120]⟩) ∧ Below V.heap.size V w') := fun V => by
    have hp : PatOf [(97, true)] (.slice (some ⟨V.heap.size, 0, none⟩) 1 1) (V.alloc (.cells #[.int .u8 97, .bool true] 25)) := by
      refine ⟨some ⟨V.heap.size, 0, none⟩, V.heap.size, 0, 1, rfl, by decide, fun _ => rfl, fun _ => by simp, ?_⟩
      intro j hj
      rw [World.cell?_alloc_new, World.cell?_alloc_new]
      match j, hj with
      | 0, _ => exact ⟨rfl, rfl⟩
    have := replace_any [(97, true)] _ ⟨#[97, 98, 97]⟩ ⟨#[120]⟩ _ hp (by decide) (by show 3 ≤ _; decide) (by show 1 ≤ _; decide)
    rw [show (⟨#[97, 98, 97]⟩ : ByteArray).data.toList = [97, 98, 97] from rfl, show (⟨#[120]⟩ : ByteArray).data.toList = [120] from rfl, alive_rep] at this
    refine this.mono ?_
    rintro e w' ⟨rfl, hb⟩
    exact ⟨rfl, ((Below.refl _ _).alloc (Nat.le_refl _) _).trans (hb.mono (by simp))⟩
  go_enter Try.func20, Try.ntmps20
  go_wp2_with fail
  refine (h1.out _).mono ?_
  rintro e w1 ⟨rfl, rfl⟩
  go_wp2_with fail
  refine (h2.out _).mono ?_
  rintro e w2 ⟨rfl, hb⟩
  have HB := Lib.hid hb
  clear hb
  go_wp2_with fail
  go_ret
  exact ⟨rfl, HB.out⟩
end Go.Proofs.Ytmjdlilmackneaa

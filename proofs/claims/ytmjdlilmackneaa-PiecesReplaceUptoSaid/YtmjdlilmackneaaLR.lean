/- The walk of PiecesReplace; conditions: as the theorem states. -/
import Derived.Test.YtmjdlilmackneaaGj
namespace Go.Proofs.Ytmjdlilmackneaa
open Go.RowKit

set_option maxRecDepth 100000 in
set_option maxHeartbeats 2000000 in
theorem rep_walk (s t : ByteArray) (w : World) (hs : s.size ≤ 1048576) (ht : t.size ≤ 1048576) :
    Calls Try.prog 9 #[.string s, .string t] w fun e w' => e = .returned (.bool true) ∧ Below w.heap.size w w' := by
  have hl : (plain true t.data.toList).length ≤ 4194304 := by rw [plain_length]; omega
  have H1 : Hid (∀ v V, PatOf (plain true t.data.toList) v V → Calls Try.prog 22 #[.string s, v, .string t, .bool true] V fun e w' => e = .returned (.string s) ∧ Below V.heap.size V w') := fun v V hV => by
    have := replace_any _ v s t V hV hl hs ht
    rw [els_quoted, show rep (t.data.toList.map fun c => El.test (c == ·)) t.data.toList s.data.toList = s.data.toList from rep_same _ _ _ (Nat.le_refl _)] at this
    exact this
  obtain ⟨z, hz⟩ : ∃ z : ByteArray, z = ⟨(rep (t.data.toList.map fun c => El.test (c == ·)) [] s.data.toList).toArray⟩ := ⟨_, rfl⟩
  have H2 : Hid (∀ v V, PatOf (plain true t.data.toList) v V → Calls Try.prog 22 #[.string s, v, .string ⟨#[]⟩, .bool true] V fun e w' => e = .returned (.string z) ∧ Below V.heap.size V w') := fun v V hV => by
    have := replace_any _ v s ⟨#[]⟩ V hV hl hs (by show 0 ≤ _; decide)
    rw [els_quoted, show (⟨#[]⟩ : ByteArray).data.toList = [] from rfl, ← hz] at this
    exact this
  obtain ⟨q, hq⟩ := rep_gone t.data.toList s.data.toList.length s.data.toList (Nat.le_refl _)
  have hq' : s.size = z.size + q * t.size := by
    rw [hz]
    show s.data.toList.length = (rep _ [] s.data.toList).toArray.size + q * t.data.toList.length
    rw [List.size_toArray]
    exact hq
  have hzz : t.size = 0 → z = s := fun h => by
    have ht0 : t.data.toList = [] := List.length_eq_zero_iff.1 h
    rw [hz, ht0]
    have := rep_same [] s.data.toList.length s.data.toList (Nat.le_refl _)
    unfold rep
    rw [this]
  have HZZ := Lib.hid hzz
  have hle : z.size ≤ s.size := by
    rw [hq']
    exact Nat.le_add_right _ _
  have hmod : (((s.size : Int) - (z.size : Int)) % (t.size : Int) == 0) = true := by
    rw [beq_iff_eq, hq', show ((z.size + q * t.size : Nat) : Int) - (z.size : Int) = (q : Int) * (t.size : Int) by rw [Int.natCast_add, Int.natCast_mul]; omega]
    exact Int.mul_emod_left _ _
  have q3 : (s.toList == s.toList) = true := by simp
  have HL := Lib.hid hl
  clear hl hz hq hq' hzz
  go_enter Try.func9, Try.ntmps9
  go_wp2_with fail
  refine (alive19_any _).mono ?_
  rintro e w1 ⟨rfl, hb⟩
  have HB := Lib.hid hb
  clear hb
  go_wp2_with fail
  refine (rplain_any t true _ (by omega)).mono ?_
  rintro e w2 ⟨v, rfl, ho, hb⟩
  have hp : PatOf (plain true t.data.toList) v w2 := by
    refine PatOf.of_row (base := w1.heap.size) ?_
    rw [plain_length]
    exact ho
  have HP := Lib.hid hp
  have HB2 := Lib.hid (HB.out.trans (hb.mono HB.out.size))
  clear hb ho hp
  go_wp2_with fail
  refine (H1.out v _ HP.out).mono ?_
  rintro e w3 ⟨rfl, hb⟩
  have HP3 := Lib.hid (HP.out.below hb)
  have HB3 := Lib.hid (HB2.out.trans (hb.mono HB2.out.size))
  clear hb
  go_wp2_with fail
  refine (H2.out v _ HP3.out).mono ?_
  rintro e w4 ⟨rfl, hb⟩
  have HB4 := Lib.hid (HB3.out.trans (hb.mono HB3.out.size))
  clear hb
  have hle' : (z.size : Int) ≤ (s.size : Int) := by omega
  by_cases h0 : t.size = 0
  · obtain rfl := HZZ.out h0
    have he : t.toList.isEmpty = true := by
      rw [ByteArray.toList_eq, List.isEmpty_iff, ← List.length_eq_zero_iff]
      exact h0
    clear h0 hmod
    go_wp2_with fail
    go_ret
    exact ⟨rfl, HB4.out⟩
  · have he : t.toList.isEmpty = false := by
      rw [ByteArray.toList_eq, List.isEmpty_eq_false_iff]
      intro h
      exact h0 (congrArg List.length h)
    have ht1 : (1 : Int) ≤ (t.size : Int) := by omega
    have hd0 : (0 : Int) ≤ (s.size : Int) - (z.size : Int) := by omega
    go_wp2_with fail
    go_ret
    exact ⟨rfl, HB4.out⟩
end Go.Proofs.Ytmjdlilmackneaa

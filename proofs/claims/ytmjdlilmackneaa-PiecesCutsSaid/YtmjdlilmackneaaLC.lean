/- The walk of PiecesCuts; conditions: as the theorem states. -/
import Derived.Test.YtmjdlilmackneaaGj
namespace Go.Proofs.Ytmjdlilmackneaa
open Go.RowKit

theorem cut_join (s : ByteArray) (k : Nat) : s.extract 0 k ++ s.extract k s.size = s := by
  apply ByteArray.ext
  rw [ByteArray.data_append]
  apply Array.ext'
  rw [Array.toList_append, Lib.extract_data, Lib.extract_data, List.drop_zero, Nat.sub_zero]
  rw [List.take_of_length_le (l := s.data.toList.drop k) (by rw [List.length_drop]; exact Nat.le_refl _), List.take_append_drop]

set_option maxRecDepth 100000 in
set_option maxHeartbeats 2000000 in
theorem cuts_walk (s : ByteArray) (a : Int) (w : World) (hs : s.size ≤ 140737488351232) :
    Calls Try.prog 8 #[.string s, .int .i64 a] w fun e w' => e = .returned (.bool true) ∧ Below w.heap.size w w' := by
  have t1 : -((s.size : Int)) ≤ a.tmod ((s.size : Int) + 1) := by
    have := Int.lt_tmod_of_pos a (show (0 : Int) < (s.size : Int) + 1 by omega)
    omega
  have t2 : a.tmod ((s.size : Int) + 1) ≤ (s.size : Int) := by
    have := Int.tmod_lt_of_pos a (show (0 : Int) < (s.size : Int) + 1 by omega)
    omega
  obtain ⟨k, hk⟩ : ∃ k : Nat, (a.tmod ((s.size : Int) + 1) + (s.size : Int) + 1) % ((s.size : Int) + 1) = (k : Int) := by
    have := Int.emod_nonneg (a.tmod ((s.size : Int) + 1) + (s.size : Int) + 1) (show ((s.size : Int) + 1) ≠ 0 by omega)
    exact ⟨_, (Int.toNat_of_nonneg this).symm⟩
  have hkn : k ≤ s.size := by
    have := Int.emod_lt_of_pos (a.tmod ((s.size : Int) + 1) + (s.size : Int) + 1) (show (0 : Int) < (s.size : Int) + 1 by omega)
    omega
  have HJ := Lib.hid (cut_join s k)
  have hz : (s.extract 0 k).size = k := by rw [ByteArray.size_extract]; omega
  obtain ⟨x, hx⟩ : ∃ x, x = s.extract 0 k := ⟨_, rfl⟩
  obtain ⟨y, hy⟩ : ∃ y, y = s.extract k s.size := ⟨_, rfl⟩
  have h1 : Hid (∀ V, Calls Try.prog 21 #[.string s, .int .i64 0, .int .i64 (k : Int), .bool true] V fun e w' => e = .returned (.string x) ∧ V = w') := fun V => by
    rw [hx]
    exact sub_sized s k V (by omega) hkn
  have h2 : Hid (∀ V, Calls Try.prog 21 #[.string s, .int .i64 (k : Int), .int .i64 0, .bool false] V fun e w' => e = .returned (.string y) ∧ V = w') := fun V => by
    rw [hy]
    exact sub_from s k V (by omega) hkn
  have hxy : Hid (x ++ y = s) := by
    show _ = _
    rw [hx, hy]
    exact HJ.out
  have hzx : x.size = k := by
    rw [hx]
    exact hz
  have hzs : x.size + y.size ≤ s.size := by
    have := congrArg ByteArray.size hxy.out
    rw [ByteArray.size_append] at this
    omega
  have q1 : ((x.size : Int) == (k : Int)) = true := by rw [beq_iff_eq]; omega
  have q2 : ((x ++ y).toList == s.toList) = true := by rw [hxy.out]; simp
  have HZX := Lib.hid hzx
  go_enter Try.func8, Try.ntmps8
  go_wp2_with fail
  refine (alive19_any _).mono ?_
  rintro e w1 ⟨rfl, hb⟩
  have HB := Lib.hid hb
  clear hb
  clear HJ hz hzx
  by_cases hlt : k < s.size
  · have h3 : Hid (∀ V, Calls Try.prog 21 #[.string s, .int .i64 ((k : Int) - (s.size : Int)), .int .i64 0, .bool false] V fun e w' => e = .returned (.string y) ∧ V = w') := fun V => by
      rw [hy]
      exact sub_back s k V (by omega) hlt
    clear hx hy
    have hne : ((k : Int) == (s.size : Int)) = false := by rw [beq_eq_false_iff_ne]; omega
    go_wp2_with (first | (go_at_call 21; ((with_reducible refine (h1.out _).mono ?_); rintro e w2 ⟨rfl, rfl⟩)) | (go_at_call 21; ((with_reducible refine (h2.out _).mono ?_); rintro e w2 ⟨rfl, rfl⟩)) | (go_at_call 21; ((with_reducible refine (h3.out _).mono ?_); rintro e w2 ⟨rfl, rfl⟩)))
    go_ret
    exact ⟨rfl, HB.out⟩
  · have hke : k = s.size := by omega
    have h3 : Hid (∀ V, Calls Try.prog 21 #[.string s, .int .i64 ((k : Int) - (s.size : Int)), .int .i64 0, .bool false] V fun e w' => e = .returned (.string s) ∧ V = w') := fun V => by
      have := sub_from s 0 V (by omega) (Nat.zero_le _)
      rw [show (k : Int) - (s.size : Int) = ((0 : Nat) : Int) by omega]
      rw [show s.extract 0 s.size = s from by
        apply ByteArray.ext
        apply Array.ext'
        rw [Lib.extract_data, List.drop_zero, Nat.sub_zero]
        exact List.take_of_length_le (Nat.le_refl _)] at this
      exact this
    clear hx hy
    have hne : ((k : Int) == (s.size : Int)) = true := by rw [beq_iff_eq]; omega
    have q3 : (s.toList == s.toList) = true := by simp
    clear hke
    go_wp2_with (first | (go_at_call 21; ((with_reducible refine (h1.out _).mono ?_); rintro e w2 ⟨rfl, rfl⟩)) | (go_at_call 21; ((with_reducible refine (h2.out _).mono ?_); rintro e w2 ⟨rfl, rfl⟩)) | (go_at_call 21; ((with_reducible refine (h3.out _).mono ?_); rintro e w2 ⟨rfl, rfl⟩)))
    go_ret
    exact ⟨rfl, HB.out⟩
end Go.Proofs.Ytmjdlilmackneaa

/- number.Print, whole; reserve.Fresh; the walk of ReserveFresh; conditions: as each theorem states. -/
import Derived.Test.YtihbdacmgojapaaPg
namespace Go.Proofs.Ytihbdacmgojapaa
open Go.RowKit

def printed (n : Int) : List UInt8 := if n < 0 then 45 :: dgs 20 n.natAbs [] else dgs 20 n.natAbs []
theorem dgs_length : ∀ (f m : Nat) (acc : List UInt8), (dgs f m acc).length ≤ f + acc.length
  | 0, m, acc => by simp [dgs]
  | f + 1, m, acc => by
    rw [dgs]
    split
    · simp; omega
    · have := dgs_length f (m / 10) (digit m :: acc)
      simp at this
      omega
theorem printed_length (n : Int) : (printed n).length ≤ 21 := by
  unfold printed
  have := dgs_length 20 n.natAbs []
  split <;> simp at this ⊢ <;> omega
def vf (v : Nat) (l : List UInt8) : Nat := l.foldl (fun v c => v * 10 + (c.toNat - 48)) v
theorem digit_nat (m : Nat) : (digit m).toNat - 48 = m % 10 := by
  have := digit_toNat m
  omega
theorem vf_dgs : ∀ (f m : Nat) (acc : List UInt8), m < 10 ^ (f + 1) → vf 0 (dgs (f + 1) m acc) = vf m acc
  | f, m, acc, h => by
    rw [dgs]
    split
    · rename_i h0
      simp only [vf, List.foldl_cons, digit_nat]
      congr 1
      omega
    · rename_i h0
      match f, h with
      | 0, h => omega
      | f + 1, h =>
        rw [vf_dgs f (m / 10) (digit m :: acc) (by rw [Nat.pow_succ] at h; omega)]
        simp only [vf, List.foldl_cons, digit_nat]
        congr 1
        omega
theorem dgs_ge : ∀ (f m : Nat) (acc : List UInt8), (∀ c ∈ acc, c ≠ 45) → ∀ c ∈ dgs f m acc, c ≠ 45
  | 0, m, acc, h => by simpa [dgs] using h
  | f + 1, m, acc, h => by
    have hd : ∀ c ∈ digit m :: acc, c ≠ 45 := by
      intro c hc
      rcases List.mem_cons.1 hc with rfl | hc
      · intro e
        have := digit_toNat m
        rw [e] at this
        have h45 : ((45 : UInt8).toNat : Int) = 45 := rfl
        omega
      · exact h c hc
    rw [dgs]
    split
    · exact hd
    · exact dgs_ge f (m / 10) _ hd
theorem dgs_inj (a b : Nat) (ha : a < 10 ^ 20) (hb : b < 10 ^ 20) (h : dgs 20 a [] = dgs 20 b []) : a = b := by
  have h1 := vf_dgs 19 a [] ha
  have h2 := vf_dgs 19 b [] hb
  rw [h] at h1
  exact h1.symm.trans h2
theorem printed_inj (a b : Int) (ha : -9223372036854775808 ≤ a ∧ a ≤ 9223372036854775807) (hb : -9223372036854775808 ≤ b ∧ b ≤ 9223372036854775807) (h : printed a = printed b) : a = b := by
  have ha' : a.natAbs < 10 ^ 20 := by omega
  have hb' : b.natAbs < 10 ^ 20 := by omega
  unfold printed at h
  split at h <;> split at h
  · have := dgs_inj _ _ ha' hb' (List.cons.inj h).2
    omega
  · exact absurd rfl (dgs_ge 20 b.natAbs [] (by simp) 45 (by rw [← h]; simp))
  · exact absurd rfl (dgs_ge 20 a.natAbs [] (by simp) 45 (by rw [h]; simp))
  · have := dgs_inj _ _ ha' hb' h
    omega

theorem print_any (n : Int) (w : World) (hn : -9223372036854775808 ≤ n ∧ n ≤ 9223372036854775807) :
    Calls Try.prog 22 #[.int .i64 n] w fun e w' => e = .returned (.string ⟨(printed n).toArray⟩) ∧ Below w.heap.size w w' := by
  unfold printed
  by_cases h : n < 0
  · rw [if_pos h]
    have := print_neg n.natAbs w (by omega) (by omega)
    rw [show (-(n.natAbs : Int)) = n by omega] at this
    exact this
  · rw [if_neg h]
    have := print_pos n.natAbs w (by omega)
    rw [show ((n.natAbs : Int)) = n by omega] at this
    exact this

set_option maxRecDepth 100000 in
set_option maxHeartbeats 2000000 in
theorem fresh_is (n : Int) (T : ByteArray) (w : World) (hn : -9223372036854775808 ≤ n ∧ n ≤ 9223372036854775807) (hT : Hid (mangled ⟨#[116]⟩ ⟨(printed n).toArray⟩ = T)) :
    Calls Try.prog 12 #[.int .i64 n] w fun e w' => e = .returned (.string T) ∧ Below w.heap.size w w' := by
  have hl : Hid ((⟨(printed n).toArray⟩ : ByteArray).size ≤ 140737488355296) := by
    show (printed n).toArray.size ≤ _
    have := printed_length n
    rw [List.size_toArray]
    omega
  go_enter Try.func12, Try.ntmps12
  go_wp2_with fail
  refine (print_any _ _ hn).mono ?_
  rintro e w1 ⟨rfl, hb⟩
  have HB := Lib.hid hb
  clear hb
  go_wp2_with fail
  refine (mangle_is _ _ _ _ (Nat.le_of_lt (by show 1 < 16; decide)) hl.out hT).mono ?_
  rintro e w2 ⟨rfl, hb⟩
  have HB2 := Lib.hid (HB.out.trans (hb.mono HB.out.size))
  clear hb
  go_wp2
  go_ret
  exact ⟨rfl, HB2.out⟩

set_option maxRecDepth 100000 in
set_option maxHeartbeats 2000000 in
theorem fresh_t (a b : Int) (P Q : ByteArray) (w : World) (ha : -9223372036854775808 ≤ a ∧ a ≤ 9223372036854775807) (hB : -9223372036854775808 ≤ b ∧ b ≤ 9223372036854775807)
    (hP : Hid (mangled ⟨#[116]⟩ ⟨(printed a).toArray⟩ = P)) (hQ : Hid (mangled ⟨#[116]⟩ ⟨(printed b).toArray⟩ = Q)) (hpq : (P.toList == Q.toList) = (a == b)) (hPr : Hid (Lib.hasPrefix P.data.toList pre = true)) :
    Calls Try.prog 5 #[.int .i64 a, .int .i64 b] w fun e w' => e = .returned (.bool true) ∧ Below w.heap.size w w' := by
  go_enter Try.func5, Try.ntmps5
  go_wp2_with fail
  refine (alive_any _).mono ?_
  rintro e w1 ⟨rfl, hb⟩
  have HB := Lib.hid hb
  clear hb
  go_wp2_with fail
  refine (fresh_is _ _ _ ha hP).mono ?_
  rintro e w2 ⟨rfl, hb⟩
  have HB2 := Lib.hid (HB.out.trans (hb.mono HB.out.size))
  clear hb
  go_wp2_with fail
  refine (fresh_is _ _ _ hB hQ).mono ?_
  rintro e w3 ⟨rfl, hb⟩
  have HB3 := Lib.hid (HB2.out.trans (hb.mono HB2.out.size))
  clear hb
  go_wp2_with fail
  refine (fresh_is _ _ _ ha hP).mono ?_
  rintro e w4 ⟨rfl, hb⟩
  have HB4 := Lib.hid (HB3.out.trans (hb.mono HB3.out.size))
  clear hb
  go_wp2_with fail
  refine (reserved_is _ _ _ hPr).mono ?_
  rintro e w5 ⟨rfl, rfl⟩
  go_wp2
  go_ret
  exact ⟨by simp, HB4.out⟩

theorem fresh_law (a b : Int) (w : World) (ha : -9223372036854775808 ≤ a ∧ a ≤ 9223372036854775807) (hB : -9223372036854775808 ≤ b ∧ b ≤ 9223372036854775807) :
    Calls Try.prog 5 #[.int .i64 a, .int .i64 b] w fun e w' => e = .returned (.bool true) ∧ Below w.heap.size w w' := by
  refine fresh_t a b _ _ w ha hB rfl rfl ?_ (mangled_begins _ _)
  rw [Bool.eq_iff_iff]
  simp only [ByteArray.toList_eq, beq_iff_eq]
  show mangledL [116] (printed a) = mangledL [116] (printed b) ↔ _
  simp only [mangledL, List.append_cancel_left_eq]
  exact ⟨printed_inj a b ha hB, fun h => by rw [h]⟩

theorem int_of {n : Int} (h : (Lit.int .i64 n).wf = true) : -9223372036854775808 ≤ n ∧ n ≤ 9223372036854775807 := by
  have h' : IntKind.i64.min ≤ n ∧ n ≤ IntKind.i64.max := by simpa [Lit.wf] using h
  simp [IntKind.min, IntKind.max, IntKind.bits, IntKind.signed] at h'
  omega
end Go.Proofs.Ytihbdacmgojapaa

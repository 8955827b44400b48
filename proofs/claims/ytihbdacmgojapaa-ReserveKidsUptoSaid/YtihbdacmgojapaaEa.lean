/- octets.letter, digit, every, Name: that they tell something of a text alone; conditions: as each theorem states. -/
import Derived.Test.YtihbdacmgojapaaDl
namespace Go.Proofs.Ytihbdacmgojapaa
open Go.RowKit

theorem ret_b {a b : Bool} (h : a = b) : Ending.returned (.bool a) = .returned (.bool b) := by rw [h]
theorem ret_i {a b : Int} (h : a = b) : Ending.returned (.int .i64 a) = .returned (.int .i64 b) := by rw [h]
set_option maxRecDepth 100000 in
set_option maxHeartbeats 2000000 in
theorem digit_ex (c : UInt8) : ∃ r : Bool, ∀ w : World, Calls Try.prog 56 #[.int .u8 c.toNat] w fun e w' => e = .returned (.bool r) ∧ w' = w := by
  refine ⟨decide ((48 : Int) ≤ (c.toNat : Int)) && decide ((c.toNat : Int) ≤ 57), fun w => ?_⟩
  by_cases h1 : (48 : Int) ≤ (c.toNat : Int)
  · by_cases h2 : (c.toNat : Int) ≤ 57
    all_goals
      go_enter Try.func56, Try.ntmps56
      go_wp2_with fail
      go_ret
      exact ⟨by simp [h1, h2], rfl⟩
  · have h1' : decide ((48 : Int) ≤ (c.toNat : Int)) = false := decide_eq_false h1
    go_enter Try.func56, Try.ntmps56
    go_wp2_with fail
    go_ret
    exact ⟨by first | (simp; done) | (simp; omega), rfl⟩
set_option maxRecDepth 100000 in
set_option maxHeartbeats 2000000 in
theorem letter_ex (c : UInt8) : ∃ r : Bool, ∀ w : World, Calls Try.prog 55 #[.int .u8 c.toNat] w fun e w' => e = .returned (.bool r) ∧ w' = w := by
  refine ⟨(decide ((97 : Int) ≤ bits BinOp.or .u8 (c.toNat : Int) 32) && decide (bits BinOp.or .u8 (c.toNat : Int) 32 ≤ 122) && decide ((c.toNat : Int) < 128)) || ((c.toNat : Int) == 95), fun w => ?_⟩
  obtain ⟨E, hE⟩ : ∃ E, E = bits BinOp.or .u8 (c.toNat : Int) 32 := ⟨_, rfl⟩
  rw [← hE]
  have h2 := hE.symm
  clear hE
  go_enter Try.func55, Try.ntmps55
  go_wp2_with fail
  all_goals
    go_ret
    refine ⟨ret_b ?_, rfl⟩
    first
      | rfl
      | (simp; done)
      | (rw [Bool.eq_iff_iff]; simp; done)
      | (rw [Bool.eq_iff_iff]; simp; omega)
      | (simp; omega)
/-- Some Bool that hangs on an octet alone. -/
noncomputable def digF (c : UInt8) : Bool := (digit_ex c).choose
theorem digit_any (c : UInt8) (w : World) : Calls Try.prog 56 #[.int .u8 c.toNat] w fun e w' => e = .returned (.bool (digF c)) ∧ w' = w := (digit_ex c).choose_spec w
noncomputable def letF (c : UInt8) : Bool := (letter_ex c).choose
theorem letter_any (c : UInt8) (w : World) : Calls Try.prog 55 #[.int .u8 c.toNat] w fun e w' => e = .returned (.bool (letF c)) ∧ w' = w := (letter_ex c).choose_spec w
set_option maxRecDepth 100000 in
set_option maxHeartbeats 2000000 in
theorem name1_any (c : UInt8) (w : World) : Calls Try.prog 54 #[.int .u8 c.toNat] w fun e w' => e = .returned (.bool (letF c || digF c)) ∧ w' = w := by
  have H1 : Hid (∀ w, Calls Try.prog 55 #[.int .u8 c.toNat] w fun e w' => e = .returned (.bool (letF c)) ∧ w' = w) := letter_any c
  have H2 : Hid (∀ w, Calls Try.prog 56 #[.int .u8 c.toNat] w fun e w' => e = .returned (.bool (digF c)) ∧ w' = w) := digit_any c
  obtain ⟨r1, hr1⟩ : ∃ r, r = letF c := ⟨_, rfl⟩
  obtain ⟨r2, hr2⟩ : ∃ r, r = digF c := ⟨_, rfl⟩
  rw [← hr1] at H1 ⊢
  rw [← hr2] at H2 ⊢
  clear hr1 hr2
  cases r1
  · go_enter Try.func54, Try.ntmps54
    go_wp2_with fail
    refine (H1.out _).mono ?_
    rintro e w1 ⟨rfl, rfl⟩
    go_wp2_with fail
    refine (H2.out _).mono ?_
    rintro e w1 ⟨rfl, rfl⟩
    go_wp2_with fail
    go_ret
    exact ⟨by simp, rfl⟩
  · go_enter Try.func54, Try.ntmps54
    go_wp2_with fail
    refine (H1.out _).mono ?_
    rintro e w1 ⟨rfl, rfl⟩
    go_wp2_with fail
    go_ret
    exact ⟨by simp, rfl⟩
noncomputable def okF (c : UInt8) : Bool := letF c || digF c
set_option maxRecDepth 100000 in
set_option maxHeartbeats 2000000 in
theorem every1_any (c : UInt8) (b : Nat) (w : World) (h : w.cell? ⟨b, 0, none⟩ = some (.func (.func 54) #[] #[])) : Calls Try.prog 67 #[.int .u8 c.toNat, .pointer (some ⟨b, 0, none⟩)] w fun e w' => e = .returned (.bool (!okF c)) ∧ w' = w := by
  have H1 : Hid (∀ w, Calls Try.prog 54 #[.int .u8 c.toNat] w fun e w' => e = .returned (.bool (okF c)) ∧ w' = w) := name1_any c
  obtain ⟨r1, hr1⟩ : ∃ r, r = okF c := ⟨_, rfl⟩
  rw [← hr1] at H1 ⊢
  clear hr1
  go_enter Try.func67, Try.ntmps67
  go_wp2_with fail
  refine (H1.out _).mono ?_
  rintro e w1 ⟨rfl, rfl⟩
  go_wp2_with fail
  go_ret
  exact ⟨by simp, rfl⟩
/-- The first octet that will not do; none: -1. -/
noncomputable def badI (s : List UInt8) : Int := match s.findIdx? (fun c => !okF c) with
  | some n => (n : Int)
  | none => -1
theorem badI_hit {p : List UInt8} {k : Nat} (h : k < p.length) (hk : okF p[k] = false) (hb : ∀ j (_ : j < p.length), j < k → okF p[j] = true) : badI p = k := by
  have : p.findIdx? (fun c => !okF c) = some k := by
    rw [List.findIdx?_eq_some_iff_getElem]
    exact ⟨h, by simp [hk], fun j hj => by simp [hb j (by omega) hj]⟩
  unfold badI
  rw [this]
theorem badI_miss {p : List UInt8} (hb : ∀ j (_ : j < p.length), okF p[j] = true) : badI p = -1 := by
  have : p.findIdx? (fun c => !okF c) = none := by
    rw [List.findIdx?_eq_none_iff]
    intro x hx
    obtain ⟨j, hj, rfl⟩ := List.mem_iff_getElem.1 hx
    simp [hb j hj]
  unfold badI
  rw [this]
set_option maxRecDepth 100000 in
set_option maxHeartbeats 2000000 in
theorem ifbyte_any (g b cap : Nat) (p : List UInt8) (w : World) (hg : g < w.heap.size) (hb : b < w.heap.size) (hc : ∀ j (h : j < p.length), w.cell? ⟨g, j, none⟩ = some (.int .u8 p[j].toNat)) (hf : w.cell? ⟨b, 0, none⟩ = some (.func (.func 54) #[] #[])) (hm : p.length ≤ 4611686018427387904) :
    Calls Try.prog 70 #[.slice (some ⟨g, 0, none⟩) p.length cap, .func (.func 67) #[] #[.pointer (some ⟨b, 0, none⟩)]] w fun e w' => e = .returned (.int .i64 (badI p)) ∧ w' = w := by
  obtain ⟨m, hmm⟩ : ∃ m, m = p.length := ⟨_, rfl⟩
  rw [← hmm] at hm ⊢
  have HM := Lib.hid hmm
  have HC := Lib.hid hc
  have HF := Lib.hid hf
  clear hmm hc hf
  go_enter Try.func70, Try.ntmps70
  go_wp2_with fail
  go_loopw [8] (fun i wr => ∃ k : Nat, k ≤ m ∧ i = .int .i64 k ∧ Hid (∀ j (_ : j < p.length), j < k → okF p[j] = true) ∧ wr = w) (fun i _ => m - (intOf i).toNat)
  case atStart => exact ⟨0, Nat.zero_le _, rfl, fun j _ h => by omega, rfl⟩
  case round =>
    obtain ⟨k, hk, rfl, hz, rfl⟩ := hrel
    by_cases hlt : k < m
    · have hkl : k < p.length := by rw [← HM.out]; exact hlt
      have d0 := HC.out k hkl
      obtain ⟨c, hc⟩ : ∃ c, c = p[k] := ⟨_, rfl⟩
      have HCC := Lib.hid hc
      rw [← hc] at d0
      clear hc
      have H1 : Hid (∀ w, w.cell? ⟨b, 0, none⟩ = some (.func (.func 54) #[] #[]) → Calls Try.prog 67 #[.int .u8 c.toNat, .pointer (some ⟨b, 0, none⟩)] w fun e w' => e = .returned (.bool (!okF c)) ∧ w' = w) := every1_any c b
      obtain ⟨r1, hr1⟩ : ∃ r, r = okF c := ⟨_, rfl⟩
      rw [← hr1] at H1
      have HR := Lib.hid hr1
      clear hr1
      cases r1
      · go_wp2_with fail
        refine (H1.out _ HF.out).mono ?_
        rintro e w1 ⟨rfl, rfl⟩
        go_wp2_with fail
        go_ret
        exact ⟨ret_i (badI_hit hkl (by rw [← HCC.out]; exact HR.out.symm) hz.out).symm, rfl⟩
      · go_wp2_with fail
        refine (H1.out _ HF.out).mono ?_
        rintro e w1 ⟨rfl, rfl⟩
        go_wp2_with fail
        go_round
        case rel =>
          refine ⟨k + 1, by omega, by go_num, fun j hj hjk => ?_, by first | rfl | trivial⟩
          by_cases e' : j = k
          · subst e'
            rw [← HCC.out]
            exact HR.out.symm
          · exact hz.out j hj (by omega)
        case measure => simp [intOf]; omega
    · go_wp2_with fail
      go_ret
      exact ⟨ret_i (badI_miss fun j hj => hz.out j hj (by rw [HM.out] at hlt; omega)).symm, rfl⟩
set_option maxRecDepth 100000 in
set_option maxHeartbeats 2000000 in
theorem cfbyte_any (g b cap : Nat) (p : List UInt8) (w : World) (hg : g < w.heap.size) (hb : b < w.heap.size) (hc : ∀ j (h : j < p.length), w.cell? ⟨g, j, none⟩ = some (.int .u8 p[j].toNat)) (hf : w.cell? ⟨b, 0, none⟩ = some (.func (.func 54) #[] #[])) (hm : p.length ≤ 4611686018427387904) :
    Calls Try.prog 66 #[.slice (some ⟨g, 0, none⟩) p.length cap, .func (.func 67) #[] #[.pointer (some ⟨b, 0, none⟩)]] w fun e w' => e = .returned (.bool (decide (0 ≤ badI p))) ∧ w' = w := by
  have H1 := Lib.hid (ifbyte_any g b cap p w hg hb hc hf hm)
  obtain ⟨r, hr⟩ : ∃ r, r = badI p := ⟨_, rfl⟩
  obtain ⟨m, hmm⟩ : ∃ m, m = p.length := ⟨_, rfl⟩
  rw [← hr, ← hmm] at H1
  rw [← hr, ← hmm]
  clear hr hc hm hmm
  go_enter Try.func66, Try.ntmps66
  go_wp2_with fail
  refine H1.out.mono ?_
  rintro e w1 ⟨rfl, rfl⟩
  go_wp2_with fail
  go_ret
  exact ⟨rfl, rfl⟩
end Go.Proofs.Ytihbdacmgojapaa

/- cowrieref03.Prefix, Suffix: what they tell; conditions: as each theorem states. -/
import Derived.Test.YtmjdlilmackneaaDoorKp
import Derived.Test.YtmjdlilmackneaaDoorGf
namespace Go.Proofs.YtmjdlilmackneaaDoor
open Go.RowKit

/-- The place told behind k lengths. -/
def outF (P : Nat → Bool) (lg : Bool) : Nat → Int
  | 0 => -1
  | k + 1 => if (decide (outF P lg k < 0) || lg) && P k then (k : Int) else outF P lg k
theorem outF_char (P : Nat → Bool) (lg : Bool) : ∀ k, (outF P lg k = -1 ∧ ∀ j, j < k → P j = false) ∨ ∃ m, m < k ∧ outF P lg k = (m : Int) ∧ P m = true ∧ ∀ j, j < k → P j = true → (if lg then j ≤ m else m ≤ j)
  | 0 => Or.inl ⟨rfl, fun j h => by omega⟩
  | k + 1 => by
    rw [outF]
    rcases outF_char P lg k with ⟨h1, h2⟩ | ⟨m, h1, h2, h3, h4⟩
    · rw [h1]
      cases hp : P k
      · left
        refine ⟨by simp, fun j hj => ?_⟩
        by_cases e : j = k
        · subst e; exact hp
        · exact h2 j (by omega)
      · right
        refine ⟨k, by omega, by simp, hp, fun j hj hpj => ?_⟩
        by_cases e : j = k
        · subst e; split <;> omega
        · rw [h2 j (by omega)] at hpj; cases hpj
    · rw [h2]
      have hm : decide ((m : Int) < 0) = false := by simp
      rw [hm, Bool.false_or]
      right
      cases hl : lg
      · refine ⟨m, by omega, by simp, h3, fun j hj hpj => ?_⟩
        by_cases e : j = k
        · subst e; simp; omega
        · have := h4 j (by omega) hpj; rw [hl] at this; exact this
      · cases hp : P k
        · refine ⟨m, by omega, by simp, h3, fun j hj hpj => ?_⟩
          by_cases e : j = k
          · subst e; rw [hp] at hpj; cases hpj
          · have := h4 j (by omega) hpj; rw [hl] at this; exact this
        · exact ⟨k, by omega, by simp, hp, fun j hj _ => by simp; omega⟩
theorem outF_bd (P : Nat → Bool) (lg : Bool) (k : Nat) : -1 ≤ outF P lg k ∧ outF P lg k < k := by
  rcases outF_char P lg k with ⟨h1, _⟩ | ⟨m, h1, h2, _⟩ <;> omega
theorem outF_first (n : Nat) (P : Nat → Bool) (lg : Bool) : outF P lg (n + 1) = firstL n P lg := by
  rcases outF_char P lg (n + 1) with ⟨h1, h2⟩ | ⟨m, h1, h2, h3, h4⟩
  · rcases firstL_cases n P lg with ⟨g1, _⟩ | ⟨k, g1, _, g3, _⟩
    · rw [h1, g1]
    · rw [h2 k (by omega)] at g3; cases g3
  · rcases firstL_cases n P lg with ⟨_, g2⟩ | ⟨k, g1, g2, g3, g4⟩
    · rw [g2 m (by omega)] at h3; cases h3
    · have a1 := h4 k (by omega) g3
      have a2 := g4 m (by omega) h3
      rw [h2, g2]
      cases lg <;> simp at a1 a2 <;> omega

set_option maxRecDepth 100000 in
set_option maxHeartbeats 2000000 in
theorem rprefix_any (p : List Ch) (v : Value) (s : ByteArray) (lg : Bool) (w : World) (hp : PatOf p v w) (hm : p.length ≤ 4194304) (hs : s.size ≤ 4611686018427387000) :
    Calls Tryd.prog 23 #[v, .string s, .bool lg] w fun e w' => e = .returned (.int .i64 (preI (els p) s.data.toList lg)) ∧ Below w.heap.size w w' := by
  have HP := Lib.hid hp
  obtain ⟨P, hP⟩ : ∃ P : Nat → Bool, P = fun k => Mt (els p) (s.data.toList.take k) := ⟨_, rfl⟩
  have HMT : Hid (∀ (k : Nat) V, k ≤ s.size → PatOf p v V → Calls Tryd.prog 18 #[v, .string (s.extract 0 k)] V fun e w' => e = .returned (.bool (P k)) ∧ Below V.heap.size V w') := fun k V hk hV => by
    have := rmatch_any p v (s.extract 0 k) V hV hm (by rw [ByteArray.size_extract]; omega)
    rw [hP]
    have e : (s.extract 0 k).data.toList = s.data.toList.take k := by
      rw [Lib.extract_data, List.drop_zero, Nat.sub_zero]
    rw [e] at this
    exact this
  have HRES : Hid (outF P lg (s.size + 1) = preI (els p) s.data.toList lg) := by
    show _ = _
    rw [outF_first, hP]
    rfl
  clear hP hp hm
  go_enter Tryd.func23, Tryd.ntmps23
  go_wp2_with fail
  go_loopw [7, 8] (fun ov i wr => ∃ k : Nat, k ≤ s.size + 1 ∧ i = .int .i64 k ∧ ov = .int .i64 (outF P lg k) ∧ Hid (Below w.heap.size w wr)) (fun _ i _ => s.size + 1 - (intOf i).toNat)
  case atStart => exact ⟨0, Nat.zero_le _, rfl, rfl, Below.refl _ _⟩
  case round =>
    obtain ⟨k, hk, rfl, rfl, hb⟩ := hrel
    obtain ⟨o1, o2⟩ := outF_bd P lg k
    obtain ⟨o, ho⟩ : ∃ o, o = outF P lg k := ⟨_, rfl⟩
    rw [← ho] at o1 o2 ⊢
    by_cases hlt : k ≤ s.size
    · obtain ⟨r, hr⟩ : ∃ r, r = P k := ⟨_, rfl⟩
      have HO : Hid (outF P lg (k + 1) = if (decide (o < 0) || lg) && r then (k : Int) else o) := by
        show _ = _
        rw [ho, hr]
        rfl
      obtain ⟨z, hz⟩ : ∃ z, z = s.extract 0 k := ⟨_, rfl⟩
      have HC : Hid (∀ V, PatOf p v V → Calls Tryd.prog 18 #[v, .string z] V fun e w' => e = .returned (.bool r) ∧ Below V.heap.size V w') := fun V hV => by
        rw [hr, hz]
        exact HMT.out k V hlt hV
      have HPr := Lib.hid (HP.out.below hb.out)
      have k0 : (0 : Int) ≤ (k : Int) := Int.natCast_nonneg _
      have k1 : (k : Int) ≤ (s.size : Int) := by omega
      have hsl : ∀ w, (Instr.slice 9 (.string s) none (some (.int .i64 (k : Int))) none).run Tryd.prog w = .ok (.string z) w := fun w => by
        rw [run_slice_string_h (P := Tryd.prog) w 9 s Tryd.underlying9 .i64 _ k0 k1, hz, Int.toNat_natCast]
      clear ho hr hz
      by_cases hg : (decide (o < 0) || lg) = true
      · have HG := Lib.hid hg
        cases lg
        · have hg' : o < 0 := by simpa using hg
          clear hg
          go_wp2_with fail
          refine (HC.out _ HPr.out).mono ?_
          rintro e w1 ⟨rfl, hb1⟩
          have HB1 := Lib.hid (hb.out.trans (hb1.mono hb.out.size))
          clear hb1
          cases r
          all_goals
            go_wp2_with fail
            go_roundw
            case rel =>
              refine ⟨k + 1, by omega, by go_num, ?_, HB1.out⟩
              rw [HO.out, HG.out]
              rfl
            case measure => simp [intOf]; omega
        · clear hg
          by_cases hg' : o < 0
          all_goals
            go_wp2_with fail
            refine (HC.out _ HPr.out).mono ?_
            rintro e w1 ⟨rfl, hb1⟩
            have HB1 := Lib.hid (hb.out.trans (hb1.mono hb.out.size))
            clear hb1
            cases r
            all_goals
              go_wp2_with fail
              go_roundw
              case rel =>
                refine ⟨k + 1, by omega, by go_num, ?_, HB1.out⟩
                rw [HO.out, HG.out]
                rfl
              case measure => simp [intOf]; omega
      · have HG : Hid ((decide (o < 0) || lg) = false)  := eq_false_of_ne_true hg
        have hl : lg = false := by cases lg <;> simp_all
        subst hl
        have hg' : ¬ o < 0 := by simpa using hg
        have hg2 : decide (o < 0) = false := decide_eq_false hg'
        clear hg
        go_wp2_with fail
        go_roundw
        case rel =>
          refine ⟨k + 1, by omega, by go_num, ?_, hb.out⟩
          rw [HO.out, HG.out]
          rfl
        case measure => simp [intOf]; omega
    · have hke : k = s.size + 1 := by omega
      have HO := Lib.hid ho
      clear ho
      go_wp2_with fail
      go_ret
      exact ⟨ret_i (by rw [HO.out, hke, HRES.out]), hb.out⟩

set_option maxRecDepth 100000 in
set_option maxHeartbeats 2000000 in
theorem rsuffix_any (p : List Ch) (v : Value) (s : ByteArray) (lg : Bool) (w : World) (hp : PatOf p v w) (hm : p.length ≤ 4194304) (hs : s.size ≤ 4611686018427387000) :
    Calls Tryd.prog 24 #[v, .string s, .bool lg] w fun e w' => e = .returned (.int .i64 (sufI (els p) s.data.toList lg)) ∧ Below w.heap.size w w' := by
  have HP := Lib.hid hp
  obtain ⟨P, hP⟩ : ∃ P : Nat → Bool, P = fun k => Mt (els p) (s.data.toList.drop (s.data.toList.length - k)) := ⟨_, rfl⟩
  have HMT : Hid (∀ (k : Nat) V, k ≤ s.size → PatOf p v V → Calls Tryd.prog 18 #[v, .string (s.extract (s.size - k) s.size)] V fun e w' => e = .returned (.bool (P k)) ∧ Below V.heap.size V w') := fun k V hk hV => by
    have := rmatch_any p v (s.extract (s.size - k) s.size) V hV hm (by rw [ByteArray.size_extract]; omega)
    rw [hP]
    have e : (s.extract (s.size - k) s.size).data.toList = s.data.toList.drop (s.data.toList.length - k) := by
      rw [Lib.extract_data]
      exact List.take_of_length_le (by rw [List.length_drop]; exact Nat.le_refl _)
    rw [e] at this
    exact this
  have HRES : Hid (outF P lg (s.size + 1) = sufI (els p) s.data.toList lg) := by
    show _ = _
    rw [outF_first, hP]
    rfl
  clear hP hp hm
  go_enter Tryd.func24, Tryd.ntmps24
  go_wp2_with fail
  go_loopw [7, 8] (fun ov i wr => ∃ k : Nat, k ≤ s.size + 1 ∧ i = .int .i64 k ∧ ov = .int .i64 (outF P lg k) ∧ Hid (Below w.heap.size w wr)) (fun _ i _ => s.size + 1 - (intOf i).toNat)
  case atStart => exact ⟨0, Nat.zero_le _, rfl, rfl, Below.refl _ _⟩
  case round =>
    obtain ⟨k, hk, rfl, rfl, hb⟩ := hrel
    obtain ⟨o1, o2⟩ := outF_bd P lg k
    obtain ⟨o, ho⟩ : ∃ o, o = outF P lg k := ⟨_, rfl⟩
    rw [← ho] at o1 o2 ⊢
    by_cases hlt : k ≤ s.size
    · obtain ⟨r, hr⟩ : ∃ r, r = P k := ⟨_, rfl⟩
      have HO : Hid (outF P lg (k + 1) = if (decide (o < 0) || lg) && r then (k : Int) else o) := by
        show _ = _
        rw [ho, hr]
        rfl
      obtain ⟨z, hz⟩ : ∃ z, z = s.extract (s.size - k) s.size := ⟨_, rfl⟩
      have HC : Hid (∀ V, PatOf p v V → Calls Tryd.prog 18 #[v, .string z] V fun e w' => e = .returned (.bool r) ∧ Below V.heap.size V w') := fun V hV => by
        rw [hr, hz]
        exact HMT.out k V hlt hV
      have HPr := Lib.hid (HP.out.below hb.out)
      have k0 : (0 : Int) ≤ (k : Int) := Int.natCast_nonneg _
      have k1 : (k : Int) ≤ (s.size : Int) := by omega
      have hsl : ∀ w, (Instr.slice 9 (.string s) (some (.int .i64 ((s.size : Int) - (k : Int)))) none none).run Tryd.prog w = .ok (.string z) w := fun w => by
        rw [run_slice_string_l (P := Tryd.prog) w 9 s Tryd.underlying9 .i64 _ (by omega) (by omega), hz]
        rw [show ((s.size : Int) - (k : Int)).toNat = s.size - k by omega]
      clear ho hr hz
      by_cases hg : (decide (o < 0) || lg) = true
      · have HG := Lib.hid hg
        cases lg
        · have hg' : o < 0 := by simpa using hg
          clear hg
          go_wp2_with fail
          refine (HC.out _ HPr.out).mono ?_
          rintro e w1 ⟨rfl, hb1⟩
          have HB1 := Lib.hid (hb.out.trans (hb1.mono hb.out.size))
          clear hb1
          cases r
          all_goals
            go_wp2_with fail
            go_roundw
            case rel =>
              refine ⟨k + 1, by omega, by go_num, ?_, HB1.out⟩
              rw [HO.out, HG.out]
              rfl
            case measure => simp [intOf]; omega
        · clear hg
          by_cases hg' : o < 0
          all_goals
            go_wp2_with fail
            refine (HC.out _ HPr.out).mono ?_
            rintro e w1 ⟨rfl, hb1⟩
            have HB1 := Lib.hid (hb.out.trans (hb1.mono hb.out.size))
            clear hb1
            cases r
            all_goals
              go_wp2_with fail
              go_roundw
              case rel =>
                refine ⟨k + 1, by omega, by go_num, ?_, HB1.out⟩
                rw [HO.out, HG.out]
                rfl
              case measure => simp [intOf]; omega
      · have HG : Hid ((decide (o < 0) || lg) = false)  := eq_false_of_ne_true hg
        have hl : lg = false := by cases lg <;> simp_all
        subst hl
        have hg' : ¬ o < 0 := by simpa using hg
        have hg2 : decide (o < 0) = false := decide_eq_false hg'
        clear hg
        go_wp2_with fail
        go_roundw
        case rel =>
          refine ⟨k + 1, by omega, by go_num, ?_, hb.out⟩
          rw [HO.out, HG.out]
          rfl
        case measure => simp [intOf]; omega
    · have hke : k = s.size + 1 := by omega
      have HO := Lib.hid ho
      clear ho
      go_wp2_with fail
      go_ret
      exact ⟨ret_i (by rw [HO.out, hke, HRES.out]), hb.out⟩
end Go.Proofs.YtmjdlilmackneaaDoor

/- Contracts of ansi.digits at (3, 8) and at (2, 16), over the seat's program; conditions: as each theorem states. -/
import Derived.Test.YtadjeaefnfkogaaShelf
import Derived.Test.YtadjeaefnfkogaaPl
import Derived.WalkKit
import Derived.WalkSpells
import Derived.WalkLawsBesides
import Derived.Outline
import Derived.LoopTactic
import Derived.Lib.Hide
namespace Go.Proofs.Ytadjeaefnfkogaa
open Go.RowKit
open Go.Lib (indexByte indexByte_ge)

theorem or32 (c : UInt8) : (bits BinOp.or IntKind.u8 (c.toNat : Int) 32).toNat.toUInt8 = c ||| 32 :=
  all_octets (p := fun c => (bits BinOp.or IntKind.u8 (c.toNat : Int) 32).toNat.toUInt8 = c ||| 32) (by decide +kernel) c
theorem own8 (c : UInt8) : (c.toNat : Int).toNat.toUInt8 = c := by simp

theorem digs_go (base m : Nat) (l : List UInt8) (j : Nat) (a : Int) (h : j < l.length) (hm : j < m) (hd : 0 ≤ dv base l[j]) :
    digs base (m - j) (l.drop j) a j = digs base (m - (j + 1)) (l.drop (j + 1)) (a * base + dv base l[j]) (j + 1) := by
  rw [List.drop_eq_getElem_cons h, show m - j = (m - (j + 1)) + 1 from by omega, digs, if_neg (by omega)]
theorem digs_stop (base m : Nat) (l : List UInt8) (j : Nat) (a : Int) (h : j < l.length) (hm : j < m) (hd : dv base l[j] < 0) :
    digs base (m - j) (l.drop j) a j = (a, j) := by
  rw [List.drop_eq_getElem_cons h, show m - j = (m - (j + 1)) + 1 from by omega, digs, if_pos hd]
theorem digs_out (base m : Nat) (l : List UInt8) (j : Nat) (a : Int) (h : l.length ≤ j ∨ m ≤ j) : digs base (m - j) (l.drop j) a j = (a, j) := by
  rcases h with h | h
  · rw [List.drop_eq_nil_of_le h]; cases m - j <;> rfl
  · rw [show m - j = 0 from by omega]; rfl
theorem ret_pair {p : Int × Nat} {a : Int} {j : Nat} (h : p = (a, j)) : Ending.returned (.tuple #[.int .i64 a, .int .i64 (j : Int)]) = .returned (.tuple #[.int .i64 p.1, .int .i64 p.2]) := by rw [h]
theorem pow_step (b : Int) (j : Nat) (a d : Int) (ha : a < b ^ j) (hb : 0 < b) (hd : d < b) : a * b + d < b ^ (j + 1) := by
  rw [Int.pow_succ]
  have h1 : a * b ≤ (b ^ j - 1) * b := Int.mul_le_mul_of_nonneg_right (by omega) (by omega)
  rw [Int.sub_mul] at h1
  omega

theorem pow8 (j : Nat) (hj : j ≤ 3) (a : Int) (h : a < 8 ^ j) : a ≤ 512 := by
  match j, hj with
  | 0, _ => simp at h; omega
  | 1, _ => simp at h; omega
  | 2, _ => simp at h; omega
  | 3, _ => simp at h; omega

theorem idx8 (x : Int) (c : UInt8) (d : Int) (w : World) (hc : x.toNat.toUInt8 = c) (hd : Hid (d = indexByte (hexs.take 8) c)) :
    Calls Try.prog 19 #[.string (({ data := #[48, 49, 50, 51, 52, 53, 54, 55, 56, 57, 97, 98, 99, 100, 101, 102] } : ByteArray).extract 0 8), .int .u8 x] w fun e w' => e = .returned (.int .i64 d) ∧ w' = w := by
  refine (Try.strings_IndexByte _ x w).mono ?_
  rintro e w' ⟨rfl, rfl⟩
  refine ⟨?_, rfl⟩
  rw [hd.out, hc]
  rfl

set_option maxRecDepth 100000 in
set_option maxHeartbeats 1000000 in
theorem digits_8 (s : ByteArray) (w : World) (hs : s.size ≤ 9223372036854775807) :
    Calls Try.prog 20 #[.string s, .int .i64 3, .int .i64 8] w fun e w' => e = .returned (.tuple #[.int .i64 (digs 8 3 s.data.toList 0 0).1, .int .i64 (digs 8 3 s.data.toList 0 0).2]) ∧ w' = w := by
  have hsl : s.data.toList.length = s.size := by simp
  go_enter Try.func20, Try.ntmps20
  go_wp2_with fail
  go_loop [8, 9] (fun n k => ∃ (a : Int) (j : Nat), j ≤ 3 ∧ j ≤ s.size ∧ n = .int .i64 a ∧ k = .int .i64 j ∧ 0 ≤ a ∧ a ≤ 512 ∧ Hid (a < 8 ^ j) ∧ Hid (digs 8 3 s.data.toList 0 0 = digs 8 (3 - j) (s.data.toList.drop j) a j)) (fun _ k => 3 - (intOf k).toNat)
  case atStart => exact ⟨0, 0, by omega, by omega, rfl, rfl, by omega, by omega, (by decide : (0 : Int) < 8 ^ 0), rfl⟩
  case round =>
    obtain ⟨a, j, hj3, hjs, rfl, rfl, ha0, ha1, hb, hd⟩ := hrel
    by_cases h1 : j < s.size
    · by_cases h2 : j < 3
      · have hjl : j < s.data.toList.length := by omega
        have hc : s[j] = s.data.toList[j] := rfl
        obtain ⟨d, HD0⟩ : ∃ d, d = dv 8 s.data.toList[j] := ⟨_, rfl⟩
        have hdl : d < 8 := by rw [HD0]; exact dv_lt 8 _
        have HD := Lib.hid HD0
        have HC := Lib.hid hc
        clear HD0 hc hsl
        by_cases h3 : 65 ≤ (s[j].toNat : Int)
        · by_cases h4 : (s[j].toNat : Int) ≤ 70
          · have HD2 : Hid (d = indexByte (hexs.take 8) (s.data.toList[j] ||| 32)) := by
              unfold Hid; rw [HD.out]; unfold dv; rw [if_pos ⟨by rw [UInt8.le_iff_toNat_le, ← HC.out]; exact Int.ofNat_le.1 h3, by rw [UInt8.le_iff_toNat_le, ← HC.out]; exact Int.ofNat_le.1 h4⟩]
            by_cases h5 : d < 0
            · go_wp2_with fail
              refine (idx8 _ _ d _ (by rw [HC.out]; exact or32 _) HD2).mono ?_
              rintro e w9 ⟨rfl, rfl⟩
              go_wp2_with fail
              go_ret2
              exact ⟨ret_pair (hd.out.trans (digs_stop 8 3 s.data.toList j a hjl h2 (by have := HD.out; omega))), rfl⟩
            · have h6 : 0 ≤ d := by omega
              have HP : Hid (a * 8 + d < 8 ^ (j + 1)) := pow_step 8 j a d hb.out (by omega) hdl
              go_wp2_with fail
              refine (idx8 _ _ d _ (by rw [HC.out]; exact or32 _) HD2).mono ?_
              rintro e w9 ⟨rfl, rfl⟩
              go_wp2_with fail
              go_round
              case rel => exact ⟨a * 8 + d, j + 1, by omega, by omega, rfl, by go_num, by omega, pow8 (j + 1) (by omega) _ HP, HP, by show Hid (_ = _); unfold Hid; rw [hd.out, digs_go 8 3 s.data.toList j a hjl h2 (by have := HD.out; omega), HD.out]; rfl⟩
              case measure => simp [intOf]; omega
          · have HD2 : Hid (d = indexByte (hexs.take 8) (s.data.toList[j])) := by
              unfold Hid; rw [HD.out]; unfold dv; rw [if_neg (fun h => h4 (by have := h.2; rw [UInt8.le_iff_toNat_le, ← HC.out] at this; exact Int.ofNat_le.2 this))]
            by_cases h5 : d < 0
            · go_wp2_with fail
              refine (idx8 _ _ d _ (by rw [HC.out]; exact own8 _) HD2).mono ?_
              rintro e w9 ⟨rfl, rfl⟩
              go_wp2_with fail
              go_ret2
              exact ⟨ret_pair (hd.out.trans (digs_stop 8 3 s.data.toList j a hjl h2 (by have := HD.out; omega))), rfl⟩
            · have h6 : 0 ≤ d := by omega
              have HP : Hid (a * 8 + d < 8 ^ (j + 1)) := pow_step 8 j a d hb.out (by omega) hdl
              go_wp2_with fail
              refine (idx8 _ _ d _ (by rw [HC.out]; exact own8 _) HD2).mono ?_
              rintro e w9 ⟨rfl, rfl⟩
              go_wp2_with fail
              go_round
              case rel => exact ⟨a * 8 + d, j + 1, by omega, by omega, rfl, by go_num, by omega, pow8 (j + 1) (by omega) _ HP, HP, by show Hid (_ = _); unfold Hid; rw [hd.out, digs_go 8 3 s.data.toList j a hjl h2 (by have := HD.out; omega), HD.out]; rfl⟩
              case measure => simp [intOf]; omega
        · have HD2 : Hid (d = indexByte (hexs.take 8) (s.data.toList[j])) := by
            unfold Hid; rw [HD.out]; unfold dv; rw [if_neg (fun h => h3 (by have := h.1; rw [UInt8.le_iff_toNat_le, ← HC.out] at this; exact Int.ofNat_le.2 this))]
          by_cases h5 : d < 0
          · go_wp2_with fail
            refine (idx8 _ _ d _ (by rw [HC.out]; exact own8 _) HD2).mono ?_
            rintro e w9 ⟨rfl, rfl⟩
            go_wp2_with fail
            go_ret2
            exact ⟨ret_pair (hd.out.trans (digs_stop 8 3 s.data.toList j a hjl h2 (by have := HD.out; omega))), rfl⟩
          · have h6 : 0 ≤ d := by omega
            have HP : Hid (a * 8 + d < 8 ^ (j + 1)) := pow_step 8 j a d hb.out (by omega) hdl
            go_wp2_with fail
            refine (idx8 _ _ d _ (by rw [HC.out]; exact own8 _) HD2).mono ?_
            rintro e w9 ⟨rfl, rfl⟩
            go_wp2_with fail
            go_round
            case rel => exact ⟨a * 8 + d, j + 1, by omega, by omega, rfl, by go_num, by omega, pow8 (j + 1) (by omega) _ HP, HP, by show Hid (_ = _); unfold Hid; rw [hd.out, digs_go 8 3 s.data.toList j a hjl h2 (by have := HD.out; omega), HD.out]; rfl⟩
            case measure => simp [intOf]; omega
      · go_wp2_with fail
        go_ret2
        exact ⟨ret_pair (hd.out.trans (digs_out 8 3 s.data.toList j a (Or.inr (by omega)))), rfl⟩
    · go_wp2_with fail
      go_ret2
      exact ⟨ret_pair (hd.out.trans (digs_out 8 3 s.data.toList j a (Or.inl (by omega)))), rfl⟩

theorem pow16 (j : Nat) (hj : j ≤ 2) (a : Int) (h : a < 16 ^ j) : a ≤ 256 := by
  match j, hj with
  | 0, _ => simp at h; omega
  | 1, _ => simp at h; omega
  | 2, _ => simp at h; omega

theorem idx16 (x : Int) (c : UInt8) (d : Int) (w : World) (hc : x.toNat.toUInt8 = c) (hd : Hid (d = indexByte (hexs.take 16) c)) :
    Calls Try.prog 19 #[.string (({ data := #[48, 49, 50, 51, 52, 53, 54, 55, 56, 57, 97, 98, 99, 100, 101, 102] } : ByteArray).extract 0 16), .int .u8 x] w fun e w' => e = .returned (.int .i64 d) ∧ w' = w := by
  refine (Try.strings_IndexByte _ x w).mono ?_
  rintro e w' ⟨rfl, rfl⟩
  refine ⟨?_, rfl⟩
  rw [hd.out, hc]
  rfl

set_option maxRecDepth 100000 in
set_option maxHeartbeats 1000000 in
theorem digits_16 (s : ByteArray) (w : World) (hs : s.size ≤ 9223372036854775807) :
    Calls Try.prog 20 #[.string s, .int .i64 2, .int .i64 16] w fun e w' => e = .returned (.tuple #[.int .i64 (digs 16 2 s.data.toList 0 0).1, .int .i64 (digs 16 2 s.data.toList 0 0).2]) ∧ w' = w := by
  have hsl : s.data.toList.length = s.size := by simp
  go_enter Try.func20, Try.ntmps20
  go_wp2_with fail
  go_loop [8, 9] (fun n k => ∃ (a : Int) (j : Nat), j ≤ 2 ∧ j ≤ s.size ∧ n = .int .i64 a ∧ k = .int .i64 j ∧ 0 ≤ a ∧ a ≤ 256 ∧ Hid (a < 16 ^ j) ∧ Hid (digs 16 2 s.data.toList 0 0 = digs 16 (2 - j) (s.data.toList.drop j) a j)) (fun _ k => 2 - (intOf k).toNat)
  case atStart => exact ⟨0, 0, by omega, by omega, rfl, rfl, by omega, by omega, (by decide : (0 : Int) < 16 ^ 0), rfl⟩
  case round =>
    obtain ⟨a, j, hj3, hjs, rfl, rfl, ha0, ha1, hb, hd⟩ := hrel
    by_cases h1 : j < s.size
    · by_cases h2 : j < 2
      · have hjl : j < s.data.toList.length := by omega
        have hc : s[j] = s.data.toList[j] := rfl
        obtain ⟨d, HD0⟩ : ∃ d, d = dv 16 s.data.toList[j] := ⟨_, rfl⟩
        have hdl : d < 16 := by rw [HD0]; exact dv_lt 16 _
        have HD := Lib.hid HD0
        have HC := Lib.hid hc
        clear HD0 hc hsl
        by_cases h3 : 65 ≤ (s[j].toNat : Int)
        · by_cases h4 : (s[j].toNat : Int) ≤ 70
          · have HD2 : Hid (d = indexByte (hexs.take 16) (s.data.toList[j] ||| 32)) := by
              unfold Hid; rw [HD.out]; unfold dv; rw [if_pos ⟨by rw [UInt8.le_iff_toNat_le, ← HC.out]; exact Int.ofNat_le.1 h3, by rw [UInt8.le_iff_toNat_le, ← HC.out]; exact Int.ofNat_le.1 h4⟩]
            by_cases h5 : d < 0
            · go_wp2_with fail
              refine (idx16 _ _ d _ (by rw [HC.out]; exact or32 _) HD2).mono ?_
              rintro e w9 ⟨rfl, rfl⟩
              go_wp2_with fail
              go_ret2
              exact ⟨ret_pair (hd.out.trans (digs_stop 16 2 s.data.toList j a hjl h2 (by have := HD.out; omega))), rfl⟩
            · have h6 : 0 ≤ d := by omega
              have HP : Hid (a * 16 + d < 16 ^ (j + 1)) := pow_step 16 j a d hb.out (by omega) hdl
              go_wp2_with fail
              refine (idx16 _ _ d _ (by rw [HC.out]; exact or32 _) HD2).mono ?_
              rintro e w9 ⟨rfl, rfl⟩
              go_wp2_with fail
              go_round
              case rel => exact ⟨a * 16 + d, j + 1, by omega, by omega, rfl, by go_num, by omega, pow16 (j + 1) (by omega) _ HP, HP, by show Hid (_ = _); unfold Hid; rw [hd.out, digs_go 16 2 s.data.toList j a hjl h2 (by have := HD.out; omega), HD.out]; rfl⟩
              case measure => simp [intOf]; omega
          · have HD2 : Hid (d = indexByte (hexs.take 16) (s.data.toList[j])) := by
              unfold Hid; rw [HD.out]; unfold dv; rw [if_neg (fun h => h4 (by have := h.2; rw [UInt8.le_iff_toNat_le, ← HC.out] at this; exact Int.ofNat_le.2 this))]
            by_cases h5 : d < 0
            · go_wp2_with fail
              refine (idx16 _ _ d _ (by rw [HC.out]; exact own8 _) HD2).mono ?_
              rintro e w9 ⟨rfl, rfl⟩
              go_wp2_with fail
              go_ret2
              exact ⟨ret_pair (hd.out.trans (digs_stop 16 2 s.data.toList j a hjl h2 (by have := HD.out; omega))), rfl⟩
            · have h6 : 0 ≤ d := by omega
              have HP : Hid (a * 16 + d < 16 ^ (j + 1)) := pow_step 16 j a d hb.out (by omega) hdl
              go_wp2_with fail
              refine (idx16 _ _ d _ (by rw [HC.out]; exact own8 _) HD2).mono ?_
              rintro e w9 ⟨rfl, rfl⟩
              go_wp2_with fail
              go_round
              case rel => exact ⟨a * 16 + d, j + 1, by omega, by omega, rfl, by go_num, by omega, pow16 (j + 1) (by omega) _ HP, HP, by show Hid (_ = _); unfold Hid; rw [hd.out, digs_go 16 2 s.data.toList j a hjl h2 (by have := HD.out; omega), HD.out]; rfl⟩
              case measure => simp [intOf]; omega
        · have HD2 : Hid (d = indexByte (hexs.take 16) (s.data.toList[j])) := by
            unfold Hid; rw [HD.out]; unfold dv; rw [if_neg (fun h => h3 (by have := h.1; rw [UInt8.le_iff_toNat_le, ← HC.out] at this; exact Int.ofNat_le.2 this))]
          by_cases h5 : d < 0
          · go_wp2_with fail
            refine (idx16 _ _ d _ (by rw [HC.out]; exact own8 _) HD2).mono ?_
            rintro e w9 ⟨rfl, rfl⟩
            go_wp2_with fail
            go_ret2
            exact ⟨ret_pair (hd.out.trans (digs_stop 16 2 s.data.toList j a hjl h2 (by have := HD.out; omega))), rfl⟩
          · have h6 : 0 ≤ d := by omega
            have HP : Hid (a * 16 + d < 16 ^ (j + 1)) := pow_step 16 j a d hb.out (by omega) hdl
            go_wp2_with fail
            refine (idx16 _ _ d _ (by rw [HC.out]; exact own8 _) HD2).mono ?_
            rintro e w9 ⟨rfl, rfl⟩
            go_wp2_with fail
            go_round
            case rel => exact ⟨a * 16 + d, j + 1, by omega, by omega, rfl, by go_num, by omega, pow16 (j + 1) (by omega) _ HP, HP, by show Hid (_ = _); unfold Hid; rw [hd.out, digs_go 16 2 s.data.toList j a hjl h2 (by have := HD.out; omega), HD.out]; rfl⟩
            case measure => simp [intOf]; omega
      · go_wp2_with fail
        go_ret2
        exact ⟨ret_pair (hd.out.trans (digs_out 16 2 s.data.toList j a (Or.inr (by omega)))), rfl⟩
    · go_wp2_with fail
      go_ret2
      exact ⟨ret_pair (hd.out.trans (digs_out 16 2 s.data.toList j a (Or.inl (by omega)))), rfl⟩

end Go.Proofs.Ytadjeaefnfkogaa

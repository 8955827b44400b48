/- octets.Check, cowrieref01.Check, ansi.octet, ansi.Scan, ansi.Encode: what they tell, by the plain law; conditions: as each theorem states. -/
import Derived.Test.YtadjeaefnfkogaaBu
import Derived.Test.YtadjeaefnfkogaaPl
import Derived.WalkSpells
import Derived.WalkLawsBesides
import Derived.LoopTactic
import Derived.Lib.Hide
import Derived.Laws.IdiomStrings
namespace Go.Proofs.Ytadjeaefnfkogaa
open Go.RowKit
open Go.Lib (indexByte indexByte_ge)

theorem ret_i {a b : Int} (h : a = b) : Ending.returned (.int .i64 a) = .returned (.int .i64 b) := by rw [h]
/-- What Check tells. -/
def chk (l : List UInt8) : Int := if 0 ≤ indexByte l 0 then 61 else if 16384 < (l.length : Int) then 5 else 0

set_option maxRecDepth 100000 in
set_option maxHeartbeats 2000000 in
theorem check_any (s : ByteArray) (w : World) (hs : s.size ≤ 9223372036854775807) : Calls Try.prog 15 #[.string s] w fun e w' => e = .returned (.int .i64 (chk s.data.toList)) ∧ w' = w := by
  obtain ⟨d, hd⟩ : ∃ d, d = indexByte s.data.toList 0 := ⟨_, rfl⟩
  have HD := Lib.hid hd
  have hl : Hid (s.data.toList.length = s.size) := by unfold Hid; simp
  have hidx : ∀ w, Calls Try.prog 19 #[.string s, .int .u8 0] w fun e w' => e = .returned (.int .i64 d) ∧ w' = w := by
    intro w
    have := Try.strings_IndexByte s 0 w
    rw [HD.out]; exact this
  have HI := Lib.hid hidx
  clear hd hidx
  by_cases h0 : 0 ≤ d
  · go_enter Try.func15, Try.ntmps15
    go_wp2_with fail
    refine (HI.out _).mono ?_
    rintro e w9 ⟨rfl, rfl⟩
    go_wp2
    go_ret
    exact ⟨ret_i (by unfold chk; rw [if_pos (by rw [← HD.out]; omega)]), rfl⟩
  · by_cases h1 : 16384 < (s.size : Int)
    all_goals
      go_enter Try.func15, Try.ntmps15
      go_wp2_with fail
      refine (HI.out _).mono ?_
      rintro e w9 ⟨rfl, rfl⟩
      go_wp2
      go_ret
      refine ⟨ret_i ?_, rfl⟩
      unfold chk
      rw [if_neg (by rw [← HD.out]; omega), hl.out]
      first | rw [if_pos (by omega)] | rw [if_neg (by omega)]

theorem indexByte_zero : ∀ l : List UInt8, (0 ≤ indexByte l 0) ↔ ∃ k, ∃ h : k < l.length, l[k] = 0
  | [] => by simp [indexByte]
  | c :: l => by
    have ih := indexByte_zero l
    have hge := indexByte_ge l 0
    unfold indexByte
    by_cases hc : c = 0
    · subst hc
      simp only [beq_self_eq_true, if_true]
      exact ⟨fun _ => ⟨0, by simp, rfl⟩, fun _ => Int.le_refl 0⟩
    · rw [if_neg (by simpa using hc)]
      constructor
      · intro h
        have h0 : 0 ≤ indexByte l 0 := by
          split at h
          · omega
          · rename_i hne; simp at hne; omega
        obtain ⟨k, hk, e⟩ := ih.1 h0
        exact ⟨k + 1, by simpa using hk, by simpa using e⟩
      · rintro ⟨k, hk, e⟩
        cases k with
        | zero => exact absurd e hc
        | succ k =>
          have h0 := ih.2 ⟨k, by simpa using hk, by simpa using e⟩
          rw [if_neg (by simp; omega)]
          omega

set_option maxRecDepth 100000 in
set_option maxHeartbeats 2000000 in
theorem refcheck_any (s : ByteArray) (w : World) (hs : s.size ≤ 9223372036854775807) : Calls Try.prog 11 #[.string s] w fun e w' => e = .returned (.int .i64 (chk s.data.toList)) ∧ w' = w := by
  have hl : Hid (s.data.toList.length = s.size) := by unfold Hid; simp
  go_enter Try.func11, Try.ntmps11
  go_wp2_with fail
  go_loop [3] (fun i => ∃ k : Nat, k ≤ s.size ∧ i = .int .i64 k ∧ Hid (∀ j (h : j < s.data.toList.length), j < k → s.data.toList[j] ≠ 0)) (fun i => s.size - (intOf i).toNat)
  case atStart => exact ⟨0, Nat.zero_le _, rfl, fun j _ h => by omega⟩
  case round =>
    obtain ⟨k, hk, rfl, hz⟩ := hrel
    by_cases hlt : k < s.size
    · have hkl : k < s.data.toList.length := by rw [hl.out]; exact hlt
      have hc : Hid (s[k] = s.data.toList[k]) := rfl
      by_cases h0 : s.data.toList[k] = 0
      · have g : ((s[k].toNat : Int) == 0) = true := by rw [hc.out, h0]; rfl
        have H0 := Lib.hid h0
        clear h0
        go_wp2
        go_ret
        exact ⟨ret_i (by unfold chk; rw [if_pos ((indexByte_zero _).2 ⟨k, hkl, H0.out⟩)]), rfl⟩
      · have g : ((s[k].toNat : Int) == 0) = false := by
          rw [hc.out, beq_eq_false_iff_ne]; exact fun e => h0 (UInt8.toNat_inj.1 (by simpa using Int.ofNat.inj e))
        have H0 := Lib.hid h0
        clear h0
        go_wp2
        go_round
        case rel =>
          refine ⟨k + 1, by omega, by go_num, fun j hj hjk => ?_⟩
          by_cases e : j = k
          · subst e; exact H0.out
          · exact hz.out j hj (by omega)
        case measure => simp [intOf]; omega
    · have hz' : ¬ 0 ≤ indexByte s.data.toList 0 := by
        rw [indexByte_zero]; rintro ⟨j, hj, e⟩; exact hz.out j hj (by have := hl.out; omega) e
      have HZ : Hid (¬ 0 ≤ indexByte s.data.toList 0) := hz'
      clear hz'
      by_cases h1 : 16384 < (s.size : Int)
      all_goals
        go_wp2
        go_ret
        refine ⟨ret_i ?_, rfl⟩
        unfold chk
        have HZ2 := Int.not_le.2 HZ.out
        rw [if_neg HZ2, hl.out]
        first | rw [if_pos (by omega)] | rw [if_neg (by omega)]

/-! ### octet -/
theorem conv1 (w : World) (c : UInt8) : (convert 37 9 (.slice (some ⟨w.heap.size, 0, none⟩) 1 1)).run Try.prog (w.alloc (.cells #[.int .u8 c.toNat] 5)) = .ok (.string ⟨#[c]⟩) (w.alloc (.cells #[.int .u8 c.toNat] 5)) := by
  refine run_convert_bytes_back _ 37 9 5 ⟨w.heap.size, 0, none⟩ 1 [c] Try.underlying37 Try.underlying5 Try.underlying9 fun j hj => ?_
  match j, hj with
  | 0, _ => simp [Addr.add]
theorem conv3 (w : World) (x y z : Int) (c d e : UInt8) (hx : x = c.toNat) (hy : y = d.toNat) (hz : z = e.toNat) : (convert 37 9 (.slice (some ⟨w.heap.size, 0, none⟩) 3 3)).run Try.prog (w.alloc (.cells #[.int .u8 x, .int .u8 y, .int .u8 z] 5)) = .ok (.string ⟨#[c, d, e]⟩) (w.alloc (.cells #[.int .u8 x, .int .u8 y, .int .u8 z] 5)) := by
  subst hx; subst hy; subst hz
  refine run_convert_bytes_back _ 37 9 5 ⟨w.heap.size, 0, none⟩ 3 [c, d, e] Try.underlying37 Try.underlying5 Try.underlying9 fun j hj => ?_
  match j, hj with
  | 0, _ => simp [Addr.add]
  | 1, _ => simp [Addr.add]
  | 2, _ => simp [Addr.add]
def octs (c : UInt8) : Bool := decide ((48 + (c.toNat : Int) / 64 = ((48 : UInt8) + (c >>> 6)).toNat)) && decide ((48 + (c.toNat : Int) / 8 % 8 = ((48 : UInt8) + ((c >>> 3) &&& 7)).toNat)) && decide ((48 + (c.toNat : Int) % 8 = ((48 : UInt8) + (c &&& 7)).toNat))
theorem octs_all : ∀ n, n < 256 → octs (UInt8.ofNat n) = true := by decide +kernel

set_option maxRecDepth 100000 in
set_option maxHeartbeats 2000000 in
theorem octet_bs (c : UInt8) (w : World) (h92 : ((c.toNat : Int) == 92) = true) :
    Calls Try.prog 17 #[.int .u8 c.toNat] w fun e w' => e = .returned (.string (⟨#[92]⟩ ++ ⟨#[c]⟩)) ∧ Below w.heap.size w w' := by
  have hcv := conv1 w c
  go_enter Try.func17, Try.ntmps17
  go_wp2
  go_ret
  refine ⟨rfl, ?_⟩
  repeat (first | (with_reducible exact Below.refl _ _) | (with_reducible refine Below.alloc ?_ (by first | omega | (simp <;> omega)) _))

set_option maxRecDepth 100000 in
set_option maxHeartbeats 2000000 in
theorem octet_qu (c : UInt8) (w : World) (h92 : ((c.toNat : Int) == 92) = false) (h39 : ((c.toNat : Int) == 39) = true) :
    Calls Try.prog 17 #[.int .u8 c.toNat] w fun e w' => e = .returned (.string (⟨#[92]⟩ ++ ⟨#[c]⟩)) ∧ Below w.heap.size w w' := by
  have hcv := conv1 w c
  go_enter Try.func17, Try.ntmps17
  go_wp2
  go_ret
  refine ⟨rfl, ?_⟩
  repeat (first | (with_reducible exact Below.refl _ _) | (with_reducible refine Below.alloc ?_ (by first | omega | (simp <;> omega)) _))

set_option maxRecDepth 100000 in
set_option maxHeartbeats 2000000 in
theorem octet_nl (c : UInt8) (w : World) (h92 : ((c.toNat : Int) == 92) = false) (h39 : ((c.toNat : Int) == 39) = false) (h10 : ((c.toNat : Int) == 10) = true) :
    Calls Try.prog 17 #[.int .u8 c.toNat] w fun e w' => e = .returned (.string ⟨#[92, 110]⟩) ∧ Below w.heap.size w w' := by
  go_enter Try.func17, Try.ntmps17
  go_wp2
  go_ret
  refine ⟨rfl, ?_⟩
  repeat (first | (with_reducible exact Below.refl _ _) | (with_reducible refine Below.alloc ?_ (by first | omega | (simp <;> omega)) _))

set_option maxRecDepth 100000 in
set_option maxHeartbeats 2000000 in
theorem octet_tab (c : UInt8) (w : World) (h92 : ((c.toNat : Int) == 92) = false) (h39 : ((c.toNat : Int) == 39) = false) (h10 : ((c.toNat : Int) == 10) = false) (h9 : ((c.toNat : Int) == 9) = true) :
    Calls Try.prog 17 #[.int .u8 c.toNat] w fun e w' => e = .returned (.string ⟨#[92, 116]⟩) ∧ Below w.heap.size w w' := by
  go_enter Try.func17, Try.ntmps17
  go_wp2
  go_ret
  refine ⟨rfl, ?_⟩
  repeat (first | (with_reducible exact Below.refl _ _) | (with_reducible refine Below.alloc ?_ (by first | omega | (simp <;> omega)) _))

set_option maxRecDepth 100000 in
set_option maxHeartbeats 2000000 in
theorem octet_cr (c : UInt8) (w : World) (h92 : ((c.toNat : Int) == 92) = false) (h39 : ((c.toNat : Int) == 39) = false) (h10 : ((c.toNat : Int) == 10) = false) (h9 : ((c.toNat : Int) == 9) = false) (h13 : ((c.toNat : Int) == 13) = true) :
    Calls Try.prog 17 #[.int .u8 c.toNat] w fun e w' => e = .returned (.string ⟨#[92, 114]⟩) ∧ Below w.heap.size w w' := by
  go_enter Try.func17, Try.ntmps17
  go_wp2
  go_ret
  refine ⟨rfl, ?_⟩
  repeat (first | (with_reducible exact Below.refl _ _) | (with_reducible refine Below.alloc ?_ (by first | omega | (simp <;> omega)) _))

set_option maxRecDepth 100000 in
set_option maxHeartbeats 2000000 in
theorem octet_lo (c : UInt8) (w : World) (h92 : ((c.toNat : Int) == 92) = false) (h39 : ((c.toNat : Int) == 39) = false) (h10 : ((c.toNat : Int) == 10) = false) (h9 : ((c.toNat : Int) == 9) = false) (h13 : ((c.toNat : Int) == 13) = false) (hlo : (c.toNat : Int) < 32) :
    Calls Try.prog 17 #[.int .u8 c.toNat] w fun e w' => e = .returned (.string (⟨#[92]⟩ ++ ⟨#[(48 : UInt8) + (c >>> 6), (48 : UInt8) + ((c >>> 3) &&& 7), (48 : UInt8) + (c &&& 7)]⟩)) ∧ Below w.heap.size w w' := by
  have h255 : (c.toNat : Int) ≤ 255 := by have := c.toNat_lt; omega
  have hoct := all_octets (p := fun c => octs c = true) octs_all c
  simp only [octs, Bool.and_eq_true, decide_eq_true_eq] at hoct
  have hx : (48 : Int) + (c.toNat : Int) / (64 : Int) = ((48 : UInt8) + (c >>> 6)).toNat := by have := hoct.1.1; simpa using this
  have hy : (48 : Int) + (c.toNat : Int) / (8 : Int) % (8 : Int) = ((48 : UInt8) + ((c >>> 3) &&& 7)).toNat := by have := hoct.1.2; simpa using this
  have hz : (48 : Int) + (c.toNat : Int) % (8 : Int) = ((48 : UInt8) + (c &&& 7)).toNat := by have := hoct.2; simpa using this
  have hcv := conv3 w _ _ _ _ _ _ hx hy hz
  clear hx hy hz
  clear hoct
  go_enter Try.func17, Try.ntmps17
  go_wp2
  go_ret
  refine ⟨rfl, ?_⟩
  repeat (first | (with_reducible exact Below.refl _ _) | (with_reducible refine Below.alloc ?_ (by first | omega | (simp <;> omega)) _))

set_option maxRecDepth 100000 in
set_option maxHeartbeats 2000000 in
theorem octet_hi (c : UInt8) (w : World) (h92 : ((c.toNat : Int) == 92) = false) (h39 : ((c.toNat : Int) == 39) = false) (h10 : ((c.toNat : Int) == 10) = false) (h9 : ((c.toNat : Int) == 9) = false) (h13 : ((c.toNat : Int) == 13) = false) (hlo : ¬ (c.toNat : Int) < 32) (hhi : 126 < (c.toNat : Int)) :
    Calls Try.prog 17 #[.int .u8 c.toNat] w fun e w' => e = .returned (.string (⟨#[92]⟩ ++ ⟨#[(48 : UInt8) + (c >>> 6), (48 : UInt8) + ((c >>> 3) &&& 7), (48 : UInt8) + (c &&& 7)]⟩)) ∧ Below w.heap.size w w' := by
  have h255 : (c.toNat : Int) ≤ 255 := by have := c.toNat_lt; omega
  have hoct := all_octets (p := fun c => octs c = true) octs_all c
  simp only [octs, Bool.and_eq_true, decide_eq_true_eq] at hoct
  have hx : (48 : Int) + (c.toNat : Int) / (64 : Int) = ((48 : UInt8) + (c >>> 6)).toNat := by have := hoct.1.1; simpa using this
  have hy : (48 : Int) + (c.toNat : Int) / (8 : Int) % (8 : Int) = ((48 : UInt8) + ((c >>> 3) &&& 7)).toNat := by have := hoct.1.2; simpa using this
  have hz : (48 : Int) + (c.toNat : Int) % (8 : Int) = ((48 : UInt8) + (c &&& 7)).toNat := by have := hoct.2; simpa using this
  have hcv := conv3 w _ _ _ _ _ _ hx hy hz
  clear hx hy hz
  clear hoct
  go_enter Try.func17, Try.ntmps17
  go_wp2
  go_ret
  refine ⟨rfl, ?_⟩
  repeat (first | (with_reducible exact Below.refl _ _) | (with_reducible refine Below.alloc ?_ (by first | omega | (simp <;> omega)) _))

set_option maxRecDepth 100000 in
set_option maxHeartbeats 2000000 in
theorem octet_own (c : UInt8) (w : World) (h92 : ((c.toNat : Int) == 92) = false) (h39 : ((c.toNat : Int) == 39) = false) (h10 : ((c.toNat : Int) == 10) = false) (h9 : ((c.toNat : Int) == 9) = false) (h13 : ((c.toNat : Int) == 13) = false) (hlo : ¬ (c.toNat : Int) < 32) (hhi : ¬ 126 < (c.toNat : Int)) :
    Calls Try.prog 17 #[.int .u8 c.toNat] w fun e w' => e = .returned (.string ⟨#[c]⟩) ∧ Below w.heap.size w w' := by
  have hcv := conv1 w c
  go_enter Try.func17, Try.ntmps17
  go_wp2
  go_ret
  refine ⟨rfl, ?_⟩
  repeat (first | (with_reducible exact Below.refl _ _) | (with_reducible refine Below.alloc ?_ (by first | omega | (simp <;> omega)) _))

end Go.Proofs.Ytadjeaefnfkogaa

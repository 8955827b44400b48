/- The example of the page, and the walks of AnsiFaults and AnsiParts over Decode's contract; conditions: as each theorem states. -/
import Derived.Test.YtadjeaefnfkogaaDe
namespace Go.Proofs.Ytadjeaefnfkogaa
open Go.RowKit

theorem decode_is (s T : ByteArray) (n er : Int) (w : World) (hs : s.size ≤ 140737488355328) (h : Hid (told s.data.toList = (T.data.toList, n, er))) :
    Calls Try.prog 8 #[.string s] w fun e w' => e = .returned (.tuple #[.string T, .int .i64 n, .int .i64 er]) ∧ Below w.heap.size w w' := by
  have := decode_any s w hs
  rw [h.out] at this
  simpa using this

theorem told_example : told [97, 92, 110] = ([97, 10], 3, 0) := by
  have h1 : dec [97, 92, 110] = .ok [97, 10] := by
    rw [dec_plain 97 _ (by decide) (by decide), dec_some [110] 10 2 (esc_name _ _ _ (by decide) (by decide))]
    simp [dec_nil, ahead]
  unfold told; rw [h1]; rfl

set_option maxRecDepth 100000 in
set_option maxHeartbeats 4000000 in
theorem alive_any (w : World) : Calls Try.prog 7 #[] w fun e w' => e = .returned (.bool true) ∧ Below w.heap.size w w' := by
  have HT : Hid (told ({ data := #[97, 92, 110] } : ByteArray).data.toList = (({ data := #[97, 10] } : ByteArray).data.toList, 3, 0)) := told_example
  go_enter Try.func7, Try.ntmps7
  go_wp2_with fail
  refine (decode_is _ ⟨#[97, 10]⟩ 3 0 _ (by decide) HT).mono ?_
  rintro e w' ⟨rfl, hb⟩
  have HB := Lib.hid hb
  clear hb
  go_wp2
  go_ret
  exact ⟨by simp, HB.out⟩

theorem told_bad {l : List UInt8} {j : Nat} {e : Int} (h : dec l = .error (j, e)) : told l = ([], (j : Int), e) := by unfold told; rw [h]
theorem told_good {l u : List UInt8} (h : dec l = .ok u) : told l = (u, (l.length : Int), 0) := by unfold told; rw [h]

set_option maxRecDepth 100000 in
set_option maxHeartbeats 4000000 in
theorem faults_error (s : ByteArray) (j : Nat) (er : Int) (w : World) (hs : s.size ≤ 140737488355328) (hj : j < s.size) (he : (er == 0) = false) (h : Hid (told s.data.toList = ([], (j : Int), er))) :
    Calls Try.prog 4 #[.string s] w fun e w' => e = .returned (.bool true) ∧ Below w.heap.size w w' := by
  have HT : Hid (told s.data.toList = ((⟨#[]⟩ : ByteArray).data.toList, (j : Int), er)) := h.out
  go_enter Try.func4, Try.ntmps4
  go_wp2_with fail
  refine (alive_any _).mono ?_
  rintro e w1 ⟨rfl, hb⟩
  have HB := Lib.hid hb
  clear hb
  go_wp2_with fail
  refine (decode_is _ ⟨#[]⟩ j er _ hs HT).mono ?_
  rintro e w2 ⟨rfl, hb⟩
  have HB2 := Lib.hid hb
  clear hb
  go_wp2
  go_ret
  exact ⟨by simp, HB.out.trans (HB2.out.mono HB.out.size)⟩

set_option maxRecDepth 100000 in
set_option maxHeartbeats 4000000 in
theorem faults_ok (s T : ByteArray) (w : World) (hs : s.size ≤ 140737488355328) (hT : T.size ≤ s.size) (hnz : Hid (∀ k (hk : k < T.size), ((T[k].toNat : Int) == 0) = false)) (h : Hid (told s.data.toList = (T.data.toList, (s.size : Int), 0))) :
    Calls Try.prog 4 #[.string s] w fun e w' => e = .returned (.bool true) ∧ Below w.heap.size w w' := by
  go_enter Try.func4, Try.ntmps4
  go_wp2_with fail
  refine (alive_any _).mono ?_
  rintro e w1 ⟨rfl, hb⟩
  have HB := Lib.hid hb
  clear hb
  go_wp2_with fail
  refine (decode_is _ _ s.size 0 _ hs h).mono ?_
  rintro e w2 ⟨rfl, hb⟩
  have HB2 := Lib.hid (HB.out.trans (hb.mono HB.out.size))
  clear hb
  go_wp2_with (go_at_call 9; go_in)
  go_loop [6] (fun i => ∃ k : Nat, k ≤ T.size ∧ i = .int .i64 k) (fun i => T.size - (intOf i).toNat)
  case atStart => exact ⟨0, Nat.zero_le _, rfl⟩
  case round =>
    obtain ⟨k, hk, rfl⟩ := hrel
    by_cases hlt : k < T.size
    · have hz := hnz.out k hlt
      go_wp2
      go_round
      case rel => exact ⟨k + 1, by omega, by go_num⟩
      case measure => simp [intOf]; omega
    · go_wp2
      go_ret
      exact ⟨by simp; try omega, HB2.out⟩

theorem faults_law (s : ByteArray) (w : World) (hs : s.size ≤ 140737488355328) : Calls Try.prog 4 #[.string s] w fun e w' => e = .returned (.bool true) ∧ Below w.heap.size w w' := by
  cases hd : dec s.data.toList with
  | error x =>
    obtain ⟨j, er⟩ := x
    have := dec_error _ s.data.toList (Nat.le_refl _) j er hd
    refine faults_error s j er w hs (by simpa using this.1) ?_ (told_bad hd)
    rcases this.2 with rfl | rfl <;> rfl
  | ok u =>
    have := dec_ok _ s.data.toList (Nat.le_refl _) u hd
    refine faults_ok s ⟨u.toArray⟩ w hs (by show u.toArray.size ≤ s.size; rw [List.size_toArray, ← size_of s]; exact this.2) ?_ (by show _ = _; rw [told_good hd, size_of])
    intro k hk
    have hk' : k < u.length := by have hh : k < u.toArray.size := hk; rw [List.size_toArray] at hh; exact hh
    have hz := this.1 u[k] (List.getElem_mem hk')
    have e : (⟨u.toArray⟩ : ByteArray)[k] = u[k] := by simp [ByteArray.getElem_eq_getElem_data]
    rw [e]
    exact u8_ne u[k] 0 hz

end Go.Proofs.Ytadjeaefnfkogaa

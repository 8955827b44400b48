/- The walks of AnsiBack and AnsiPlain; conditions: as each theorem states. -/
import Derived.Test.YtadjeaefnfkogaaEc
import Derived.Test.YtadjeaefnfkogaaLa
namespace Go.Proofs.Ytadjeaefnfkogaa
open Go.RowKit
open Go.Lib (indexByte)

def coded (l : List UInt8) : List UInt8 × Int := if chk l = 0 then (l.flatMap enc, 0) else ([], chk l)
theorem chk_le (l : List UInt8) (h : chk l = 0) : l.length ≤ 16384 ∧ ∀ c ∈ l, c ≠ 0 := by
  unfold chk at h
  split at h
  · exact absurd h (by decide)
  · rename_i h0
    split at h
    · exact absurd h (by decide)
    · refine ⟨by omega, fun c hc e => h0 ?_⟩
      obtain ⟨k, hk, e'⟩ := List.mem_iff_getElem.1 hc
      exact (indexByte_zero l).2 ⟨k, hk, e'.trans e⟩

theorem encode_is (s T : ByteArray) (er : Int) (w : World) (hs : s.size ≤ 140737488355328) (h : Hid (coded s.data.toList = (T.data.toList, er))) :
    Calls Try.prog 10 #[.string s] w fun e w' => e = .returned (.tuple #[.string T, .int .i64 er]) ∧ Below w.heap.size w w' := by
  have h := h.out
  unfold coded at h
  by_cases h0 : chk s.data.toList = 0
  · rw [if_pos h0] at h
    obtain ⟨h1, h2⟩ := Prod.mk.inj h
    have := encode_ok s w (by have := (chk_le _ h0).1; simpa using this) h0
    rw [h1, h2] at this
    simpa using this
  · rw [if_neg h0] at h
    obtain ⟨h1, h2⟩ := Prod.mk.inj h
    have := encode_bad s w (by omega) (by simpa using h0)
    rw [h2] at this
    have e : T = ⟨#[]⟩ := by
      obtain ⟨⟨l⟩⟩ := T
      simp at h1
      subst h1
      rfl
    rw [e]
    exact this.mono fun e w' ⟨h, k⟩ => ⟨h, k ▸ Below.refl _ _⟩

theorem scan_is (s : ByteArray) (n er : Int) (w : World) (hs : s.size ≤ 140737488355328) (h : Hid (scanned s.data.toList = (n, er))) :
    Calls Try.prog 12 #[.string s, .int .i64 0] w fun e w' => e = .returned (.tuple #[.int .i64 n, .int .i64 er]) ∧ w' = w := by
  have := scan_any s w (by omega)
  rw [h.out] at this
  exact this
theorem refcheck_is (s : ByteArray) (er : Int) (w : World) (hs : s.size ≤ 140737488355328) (h : Hid (chk s.data.toList = er)) :
    Calls Try.prog 11 #[.string s] w fun e w' => e = .returned (.int .i64 er) ∧ w' = w := by
  have := refcheck_any s w (by omega)
  rw [h.out] at this
  exact this

set_option maxRecDepth 100000 in
set_option maxHeartbeats 4000000 in
theorem back_bad (s : ByteArray) (er : Int) (w : World) (hs : s.size ≤ 140737488355328) (he : (er == 0) = false) (hc : Hid (coded s.data.toList = ((⟨#[]⟩ : ByteArray).data.toList, er))) (hk : Hid (chk s.data.toList = er)) :
    Calls Try.prog 5 #[.string s] w fun e w' => e = .returned (.bool true) ∧ Below w.heap.size w w' := by
  go_enter Try.func5, Try.ntmps5
  go_wp2_with fail
  refine (alive_any _).mono ?_
  rintro e w1 ⟨rfl, hb⟩
  have HB := Lib.hid hb
  clear hb
  go_wp2_with fail
  refine (encode_is _ ⟨#[]⟩ er _ hs hc).mono ?_
  rintro e w2 ⟨rfl, hb⟩
  have HB2 := Lib.hid (HB.out.trans (hb.mono HB.out.size))
  clear hb
  go_wp2_with (go_at_call 9; go_in)
  refine (refcheck_is _ _ _ hs hk).mono ?_
  rintro e w3 ⟨rfl, rfl⟩
  go_wp2_with (go_at_call 9; go_in)
  go_ret
  exact ⟨by simp, HB2.out⟩

set_option maxRecDepth 100000 in
set_option maxHeartbeats 4000000 in
theorem back_ok (s T : ByteArray) (w : World) (hs : s.size ≤ 140737488355328) (hT : T.size ≤ 140737488355328) (hc : Hid (coded s.data.toList = (T.data.toList, 0))) (hk : Hid (told T.data.toList = (s.data.toList, (T.size : Int), 0))) :
    Calls Try.prog 5 #[.string s] w fun e w' => e = .returned (.bool true) ∧ Below w.heap.size w w' := by
  go_enter Try.func5, Try.ntmps5
  go_wp2_with fail
  refine (alive_any _).mono ?_
  rintro e w1 ⟨rfl, hb⟩
  have HB := Lib.hid hb
  clear hb
  go_wp2_with fail
  refine (encode_is _ _ _ _ hs hc).mono ?_
  rintro e w2 ⟨rfl, hb⟩
  have HB2 := Lib.hid (HB.out.trans (hb.mono HB.out.size))
  clear hb
  go_wp2_with (go_at_call 9; go_in)
  refine (decode_is _ _ _ _ _ hT hk).mono ?_
  rintro e w3 ⟨rfl, hb⟩
  have HB3 := Lib.hid (HB2.out.trans (hb.mono HB2.out.size))
  clear hb
  go_wp2_with (go_at_call 9; go_in)
  go_ret
  exact ⟨by simp, HB3.out⟩

theorem back_law (s : ByteArray) (w : World) (hs : s.size ≤ 140737488355328) :
    Calls Try.prog 5 #[.string s] w fun e w' => e = .returned (.bool true) ∧ Below w.heap.size w w' := by
  by_cases h0 : chk s.data.toList = 0
  · obtain ⟨h1, h2⟩ := chk_le _ h0
    have h3 := encs_length s.data.toList
    have h1' : s.size ≤ 16384 := by simpa using h1
    refine back_ok s ⟨(s.data.toList.flatMap enc).toArray⟩ w hs ?_ (by show coded _ = _; unfold coded; rw [if_pos h0]) ?_
    · show (s.data.toList.flatMap enc).toArray.size ≤ _
      rw [List.size_toArray]
      omega
    · show told _ = _
      rw [told_good (dec_back _ h2)]
      rfl
  · refine back_bad s _ w hs (by simpa using h0) (by show coded _ = _; unfold coded; rw [if_neg h0]) rfl

set_option maxRecDepth 100000 in
set_option maxHeartbeats 4000000 in
theorem plain_walk (s T : ByteArray) (er : Int) (w : World) (hs : s.size ≤ 140737488355328) (hT : T.size ≤ 65536) (hc : Hid (coded s.data.toList = (T.data.toList, er)))
    (hp : Hid (∀ k (h : k < T.size), 32 ≤ (T[k].toNat : Int) ∧ (T[k].toNat : Int) ≤ 126)) (h1 : Hid (scanned T.data.toList = ((T.size : Int), 8))) (h2 : Hid (scanned (T ++ ⟨#[39]⟩).data.toList = ((T.size : Int), 0))) :
    Calls Try.prog 6 #[.string s] w fun e w' => e = .returned (.bool true) ∧ Below w.heap.size w w' := by
  have hT2 : Hid ((T ++ (⟨#[39]⟩ : ByteArray)).size ≤ 140737488355328) := by
    show _ ≤ _
    rw [ByteArray.size_append]
    have : (⟨#[39]⟩ : ByteArray).size = 1 := rfl
    omega
  go_enter Try.func6, Try.ntmps6
  go_wp2_with fail
  refine (alive_any _).mono ?_
  rintro e w1 ⟨rfl, hb⟩
  have HB := Lib.hid hb
  clear hb
  go_wp2_with fail
  refine (encode_is _ _ _ _ hs hc).mono ?_
  rintro e w2 ⟨rfl, hb⟩
  have HB2 := Lib.hid (HB.out.trans (hb.mono HB.out.size))
  clear hb
  go_wp2_with fail
  go_loop [5] (fun i => ∃ k : Nat, k ≤ T.size ∧ i = .int .i64 k) (fun i => T.size - (intOf i).toNat)
  case atStart => exact ⟨0, Nat.zero_le _, rfl⟩
  case round =>
    obtain ⟨k, hk, rfl⟩ := hrel
    by_cases hlt : k < T.size
    · obtain ⟨g1, g2⟩ := hp.out k hlt
      go_wp2
      go_round
      case rel => exact ⟨k + 1, by omega, by go_num⟩
      case measure => simp [intOf]; omega
    · go_wp2_with fail
      refine (scan_is _ _ _ _ (by omega) h1).mono ?_
      rintro e w3 ⟨rfl, rfl⟩
      go_wp2_with fail
      refine (scan_is _ _ _ _ hT2.out h2).mono ?_
      rintro e w4 ⟨rfl, rfl⟩
      by_cases he : er = 0
      · subst he
        go_wp2_with (go_at_call 9; go_in)
        go_ret
        exact ⟨by simp, HB2.out⟩
      · have g : (er == 0) = false := by simpa using he
        go_wp2_with (go_at_call 9; go_in)
        go_ret
        exact ⟨by simp, HB2.out⟩

theorem plain_law (s : ByteArray) (w : World) (hs : s.size ≤ 140737488355328) :
    Calls Try.prog 6 #[.string s] w fun e w' => e = .returned (.bool true) ∧ Below w.heap.size w w' := by
  have key : ∀ l : List UInt8, scan l = none → scan (l ++ [39]) = some l.length → (∀ c ∈ l, 32 ≤ c ∧ c ≤ 126) → l.length ≤ 65536 → ∀ er, coded s.data.toList = (l, er) →
      Calls Try.prog 6 #[.string s] w fun e w' => e = .returned (.bool true) ∧ Below w.heap.size w w' := by
    intro l hn hq hp hle er hc
    refine plain_walk s ⟨l.toArray⟩ er w hs (by show l.toArray.size ≤ _; rw [List.size_toArray]; exact hle) hc ?_ ?_ ?_
    · intro k hk
      have hk' : k < l.length := by have hh : k < l.toArray.size := hk; rw [List.size_toArray] at hh; exact hh
      have e : (⟨l.toArray⟩ : ByteArray)[k] = l[k] := by simp [ByteArray.getElem_eq_getElem_data]
      obtain ⟨g1, g2⟩ := hp l[k] (List.getElem_mem hk')
      rw [e]
      rw [UInt8.le_iff_toNat_le] at g1 g2
      exact ⟨Int.ofNat_le.2 g1, Int.ofNat_le.2 g2⟩
    · show scanned l = _
      unfold scanned
      rw [hn]
      rfl
    · show scanned _ = _
      have e : ((⟨l.toArray⟩ : ByteArray) ++ (⟨#[39]⟩ : ByteArray)).data.toList = l ++ [39] := by simp
      rw [e]
      unfold scanned
      rw [hq]
      rfl
  by_cases h0 : chk s.data.toList = 0
  · obtain ⟨h1, h2⟩ := chk_le _ h0
    have h3 := encs_length s.data.toList
    refine key (s.data.toList.flatMap enc) (scan_none _) (scan_some _) ?_ (by omega) 0 (by unfold coded; rw [if_pos h0])
    intro c hc
    obtain ⟨x, _, hx⟩ := List.mem_flatMap.1 hc
    exact enc_plain x c hx
  · exact key [] rfl rfl (by simp) (by simp) _ (by unfold coded; rw [if_neg h0])
end Go.Proofs.Ytadjeaefnfkogaa

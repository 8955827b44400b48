/- The walk of GlobParts; conditions: as each theorem states. -/
import Derived.Test.YtmjdlilmackneaaGd
import Derived.Test.YtmjdlilmackneaaGg
namespace Go.Proofs.Ytmjdlilmackneaa
open Go.RowKit

theorem parts_pl (N : Nat) (P : Nat → Bool) : (∀ n, n ≤ N → P n = true → firstL N P false ≤ n ∧ (n : Int) ≤ firstL N P true) ∧ (∀ n, n ≤ N → P n = false → (n : Int) ≠ firstL N P false ∧ (n : Int) ≠ firstL N P true) ∧ (firstL N P false < 0 ↔ firstL N P true < 0) := by
  rcases firstL_cases N P false with ⟨h1, h2⟩ | ⟨k, h1, h2, h3, h4⟩
  · rcases firstL_cases N P true with ⟨g1, g2⟩ | ⟨j, g1, g2, g3, g4⟩
    · refine ⟨fun n hn hp => ?_, fun n hn hp => ?_, ?_⟩
      · rw [h2 n hn] at hp
        cases hp
      · omega
      · omega
    · rw [h2 j g1] at g3
      cases g3
  · rcases firstL_cases N P true with ⟨g1, g2⟩ | ⟨j, g1, g2, g3, g4⟩
    · rw [g2 k h1] at h3
      cases h3
    · refine ⟨fun n hn hp => ?_, fun n hn hp => ?_, by omega⟩
      · have e1 := h4 n hn hp
        have e2 := g4 n hn hp
        simp at e1 e2
        omega
      · constructor
        · intro e
          have : n = k := by omega
          rw [this, h3] at hp
          cases hp
        · intro e
          have : n = j := by omega
          rw [this, g3] at hp
          cases hp

set_option maxRecDepth 100000 in
set_option maxHeartbeats 4000000 in
theorem parts_walk (v : Value) (p : List Ch) (s : ByteArray) (w : World) (hp : PatOf p v w) (hm : p.length ≤ 1048576) (hs : s.size ≤ 1048576) :
    Calls Try.prog 7 #[v, .string s] w fun e w' => e = .returned (.bool true) ∧ Below w.heap.size w w' := by
  obtain ⟨PP, hPP⟩ : ∃ PP : Nat → Bool, PP = fun k => Mt (els p) (s.data.toList.take k) := ⟨_, rfl⟩
  obtain ⟨SS, hSS⟩ : ∃ SS : Nat → Bool, SS = fun k => Mt (els p) (s.data.toList.drop (s.data.toList.length - k)) := ⟨_, rfl⟩
  obtain ⟨a, ha⟩ : ∃ a, a = firstL s.size PP false := ⟨_, rfl⟩
  obtain ⟨b, hb⟩ : ∃ b, b = firstL s.size PP true := ⟨_, rfl⟩
  obtain ⟨c, hc⟩ : ∃ c, c = firstL s.size SS false := ⟨_, rfl⟩
  obtain ⟨d, hd⟩ : ∃ d, d = firstL s.size SS true := ⟨_, rfl⟩
  have hab := parts_pl s.size PP
  have hcd := parts_pl s.size SS
  rw [← ha, ← hb] at hab
  rw [← hc, ← hd] at hcd
  have HPF : Hid (∀ V, PatOf p v V → Calls Try.prog 18 #[v, .string s, .bool false] V fun e w' => e = .returned (.int .i64 a) ∧ Below V.heap.size V w') := fun V hV => by
    have := prefix_any p v s false V hV (by omega) (by omega)
    rw [ha, hPP]
    exact this
  have HPT : Hid (∀ V, PatOf p v V → Calls Try.prog 18 #[v, .string s, .bool true] V fun e w' => e = .returned (.int .i64 b) ∧ Below V.heap.size V w') := fun V hV => by
    have := prefix_any p v s true V hV (by omega) (by omega)
    rw [hb, hPP]
    exact this
  have HSF : Hid (∀ V, PatOf p v V → Calls Try.prog 19 #[v, .string s, .bool false] V fun e w' => e = .returned (.int .i64 c) ∧ Below V.heap.size V w') := fun V hV => by
    have := suffix_any p v s false V hV (by omega) (by omega)
    rw [hc, hSS]
    exact this
  have HST : Hid (∀ V, PatOf p v V → Calls Try.prog 19 #[v, .string s, .bool true] V fun e w' => e = .returned (.int .i64 d) ∧ Below V.heap.size V w') := fun V hV => by
    have := suffix_any p v s true V hV (by omega) (by omega)
    rw [hd, hSS]
    exact this
  have HMX : Hid (∀ (n : Nat) V, n ≤ s.size → PatOf p v V → Calls Try.prog 13 #[v, .string (s.extract 0 n)] V fun e w' => e = .returned (.bool (PP n)) ∧ Below V.heap.size V w') := fun n V hn hV => by
    have := Match_any p v (s.extract 0 n) V hV (by omega) (by rw [ByteArray.size_extract]; omega)
    rw [Lib.extract_data, List.drop_zero, Nat.sub_zero] at this
    rw [hPP]
    exact this
  have HMY : Hid (∀ (n : Nat) V, n ≤ s.size → PatOf p v V → Calls Try.prog 13 #[v, .string (s.extract (s.size - n) s.size)] V fun e w' => e = .returned (.bool (SS n)) ∧ Below V.heap.size V w') := fun n V hn hV => by
    have := Match_any p v (s.extract (s.size - n) s.size) V hV (by omega) (by rw [ByteArray.size_extract]; omega)
    have e : (s.extract (s.size - n) s.size).data.toList = s.data.toList.drop (s.data.toList.length - n) := by
      rw [Lib.extract_data]
      exact List.take_of_length_le (by rw [List.length_drop]; exact Nat.le_refl _)
    rw [e] at this
    rw [hSS]
    exact this
  have HAB := Lib.hid hab
  have HCD := Lib.hid hcd
  have HP := Lib.hid hp
  clear hab hcd ha hb hc hd hPP hSS hp
  go_enter Try.func7, Try.ntmps7
  go_wp2_with fail
  refine (alive_any _).mono ?_
  rintro e w1 ⟨rfl, hb1⟩
  have HP1 := Lib.hid (HP.out.below hb1)
  have HB1 := Lib.hid hb1
  clear hb1
  go_wp2_with fail
  refine (HPF.out _ HP1.out).mono ?_
  rintro e w2 ⟨rfl, hb2⟩
  have HP2 := Lib.hid (HP1.out.below hb2)
  have HB2 := Lib.hid (HB1.out.trans (hb2.mono HB1.out.size))
  clear hb2
  go_wp2_with fail
  refine (HPT.out _ HP2.out).mono ?_
  rintro e w3 ⟨rfl, hb3⟩
  have HP3 := Lib.hid (HP2.out.below hb3)
  have HB3 := Lib.hid (HB2.out.trans (hb3.mono HB2.out.size))
  clear hb3
  go_wp2_with fail
  refine (HSF.out _ HP3.out).mono ?_
  rintro e w4 ⟨rfl, hb4⟩
  have HP4 := Lib.hid (HP3.out.below hb4)
  have HB4 := Lib.hid (HB3.out.trans (hb4.mono HB3.out.size))
  clear hb4
  go_wp2_with fail
  refine (HST.out _ HP4.out).mono ?_
  rintro e w5 ⟨rfl, hb5⟩
  have HP5 := Lib.hid (HP4.out.below hb5)
  have HB5 := Lib.hid (HB4.out.trans (hb5.mono HB4.out.size))
  clear hb5 HP1 HP2 HP3 HP4 HB1 HB2 HB3 HB4 HPF HPT HSF HST
  go_wp2_with fail
  go_loopw [9] (fun i wr => ∃ n : Nat, n ≤ s.size + 1 ∧ i = .int .i64 n ∧ Hid (PatOf p v wr) ∧ Hid (Below w.heap.size w wr)) (fun i _ => s.size + 1 - (intOf i).toNat)
  case atStart => exact ⟨0, Nat.zero_le _, rfl, HP5.out, HB5.out⟩
  case round =>
    obtain ⟨n, hn, rfl, hpr, hbr⟩ := hrel
    by_cases hlt : n ≤ s.size
    · obtain ⟨x, hx⟩ : ∃ x, x = PP n := ⟨_, rfl⟩
      obtain ⟨y, hy⟩ : ∃ y, y = SS n := ⟨_, rfl⟩
      have HX : Hid (∀ V, Below wr.heap.size wr V → Calls Try.prog 13 #[v, .string (s.extract 0 n)] V fun e w' => e = .returned (.bool x) ∧ Below V.heap.size V w') := fun V hV => hx ▸ HMX.out n V hlt (hpr.out.below hV)
      have HY : Hid (∀ V, Below wr.heap.size wr V → Calls Try.prog 13 #[v, .string (s.extract (s.size - n) s.size)] V fun e w' => e = .returned (.bool y) ∧ Below V.heap.size V w') := fun V hV => hy ▸ HMY.out n V hlt (hpr.out.below hV)
      have q1 := HAB.out.1 n hlt
      have q2 := HAB.out.2.1 n hlt
      have q3 := HCD.out.1 n hlt
      have q4 := HCD.out.2.1 n hlt
      rw [← hx] at q1 q2
      rw [← hy] at q3 q4
      have Q1 := Lib.hid q1
      have Q2 := Lib.hid q2
      have Q3 := Lib.hid q3
      have Q4 := Lib.hid q4
      clear q1 q2 q3 q4 hx hy
      have hbd : Below wr.heap.size wr wr.drew := (Below.refl _ _).drew
      have i0 : (0 : Int) ≤ (n : Int) := Int.natCast_nonneg _
      have i1 : (n : Int) ≤ (s.size : Int) := by omega
      go_upto_region 8 with fail
      go_cut [10, 11] (fun s10 s11 wx => s10 = .bool x ∧ s11 = .bool y ∧ Hid (Below wr.heap.size wr wx))
      case first =>
        have i2 : (0 : Int) ≤ (s.size : Int) - (n : Int) := by omega
        have i3 : (s.size : Int) - (n : Int) ≤ (s.size : Int) := by omega
        have hsl : ∀ w, (Instr.slice 9 (.string s) (some (.int .i64 ((s.size : Int) - (n : Int)))) none none).run Try.prog w = .ok (.string (s.extract (s.size - n) s.size)) w := fun w => by
          rw [run_slice_string_l (P := Try.prog) w 9 s Try.underlying9 .i64 _ i2 i3]
          rw [show ((s.size : Int) - (n : Int)).toNat = s.size - n by omega]
        have hwr : IntKind.i64.wrap ((s.size : Int) - (n : Int)) = (s.size : Int) - (n : Int) := IntWalk.i64_in _ (by omega)
        go_region_with (first | (go_at_call 13; ((with_reducible refine (HX.out _ (by assumption)).mono ?_); rintro e wx ⟨rfl, hbx⟩; have hbx2 := (show Below wr.heap.size wr _ by assumption).trans (hbx.mono (show Below wr.heap.size wr _ by assumption).size); clear hbx)) | (go_at_call 13; ((with_reducible refine (HY.out _ (by assumption)).mono ?_); rintro e wy ⟨rfl, hby⟩; have hby2 := (show Below wr.heap.size wr _ by assumption).trans (hby.mono (show Below wr.heap.size wr _ by assumption).size); clear hby)))
        all_goals
          clear hwr hsl
          go_wp2_with fail
          go_meet
          exact ⟨rfl, rfl, by assumption⟩
      case rest =>
        obtain ⟨rfl, rfl, hbx⟩ := hcut
        have HPX := Lib.hid (hpr.out.below hbx.out)
        have HBX := Lib.hid (hbr.out.trans (hbx.out.mono hbr.out.size))
        clear hbx hbd
        cases x with
        | false =>
          cases y with
          | false =>
            have q := Q2.out rfl
            have ga1 : ((n : Int) == a) = false := by simpa using q.1
            have ga2 : ((n : Int) == b) = false := by simpa using q.2
            clear q
            have q := Q4.out rfl
            have gc1 : ((n : Int) == c) = false := by simpa using q.1
            have gc2 : ((n : Int) == d) = false := by simpa using q.2
            clear q
            go_wp2_with fail
            go_roundw
            case rel => first | exact ⟨n + 1, by omega, by go_num, HPX.out, HBX.out⟩ | ((repeat apply Exists.intro); exact ⟨⟨n + 1, by omega, by go_num, HPX.out, HBX.out⟩, rfl⟩)
            case measure => simp [intOf]; omega
          | true =>
            have q := Q2.out rfl
            have ga1 : ((n : Int) == a) = false := by simpa using q.1
            have ga2 : ((n : Int) == b) = false := by simpa using q.2
            clear q
            have q := Q3.out rfl
            have gc1 : decide ((n : Int) < c) = false := by simpa using q.1
            have gc2 : decide (d < (n : Int)) = false := by simpa using q.2
            clear q
            go_wp2_with fail
            go_roundw
            case rel => first | exact ⟨n + 1, by omega, by go_num, HPX.out, HBX.out⟩ | ((repeat apply Exists.intro); exact ⟨⟨n + 1, by omega, by go_num, HPX.out, HBX.out⟩, rfl⟩)
            case measure => simp [intOf]; omega
        | true =>
          cases y with
          | false =>
            have q := Q1.out rfl
            have ga1 : decide ((n : Int) < a) = false := by simpa using q.1
            have ga2 : decide (b < (n : Int)) = false := by simpa using q.2
            clear q
            have q := Q4.out rfl
            have gc1 : ((n : Int) == c) = false := by simpa using q.1
            have gc2 : ((n : Int) == d) = false := by simpa using q.2
            clear q
            go_wp2_with fail
            go_roundw
            case rel => first | exact ⟨n + 1, by omega, by go_num, HPX.out, HBX.out⟩ | ((repeat apply Exists.intro); exact ⟨⟨n + 1, by omega, by go_num, HPX.out, HBX.out⟩, rfl⟩)
            case measure => simp [intOf]; omega
          | true =>
            have q := Q1.out rfl
            have ga1 : decide ((n : Int) < a) = false := by simpa using q.1
            have ga2 : decide (b < (n : Int)) = false := by simpa using q.2
            clear q
            have q := Q3.out rfl
            have gc1 : decide ((n : Int) < c) = false := by simpa using q.1
            have gc2 : decide (d < (n : Int)) = false := by simpa using q.2
            clear q
            go_wp2_with fail
            go_roundw
            case rel => first | exact ⟨n + 1, by omega, by go_num, HPX.out, HBX.out⟩ | ((repeat apply Exists.intro); exact ⟨⟨n + 1, by omega, by go_num, HPX.out, HBX.out⟩, rfl⟩)
            case measure => simp [intOf]; omega
    · have hab0 := HAB.out.2.2
      have hcd0 := HCD.out.2.2
      have hA : decide (a < 0) = decide (b < 0) := decide_eq_decide.2 hab0
      have hC : decide (c < 0) = decide (d < 0) := decide_eq_decide.2 hcd0
      clear hab0 hcd0
      obtain ⟨r1, hr1⟩ : ∃ r, r = decide (b < 0) := ⟨_, rfl⟩
      obtain ⟨r2, hr2⟩ : ∃ r, r = decide (d < 0) := ⟨_, rfl⟩
      rw [← hr1] at hA
      rw [← hr2] at hC
      have hr1' := hr1.symm
      have hr2' := hr2.symm
      clear hr1 hr2
      have hge : ¬ n ≤ s.size := hlt
      cases r1 <;> cases r2
      all_goals
        go_wp2_with fail
        go_ret
        exact ⟨rfl, hbr.out⟩
end Go.Proofs.Ytmjdlilmackneaa

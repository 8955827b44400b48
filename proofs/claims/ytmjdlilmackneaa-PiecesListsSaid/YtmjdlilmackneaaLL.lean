/- The walk of PiecesLists; conditions: as the theorem states. -/
import Derived.Test.YtmjdlilmackneaaGk
namespace Go.Proofs.Ytmjdlilmackneaa
open Go.RowKit

set_option maxRecDepth 100000 in
set_option maxHeartbeats 1000000 in
theorem num19_any (e0 : Int) (w : World) : Calls Try.prog 24 #[.int .i64 e0] w fun e w' => e = .returned (.int .i64 e0) ∧ w = w' := by
  go_enter Try.func24, Try.ntmps24
  go_wp2
  go_ret
  exact ⟨rfl, rfl⟩

set_option maxRecDepth 100000 in
set_option maxHeartbeats 1000000 in
theorem lists_fail (v : Value) (s : ByteArray) (k er : Int) (w : World) (her : er ≠ 0) (hP : ∀ V, Calls Try.prog 23 #[v, .int .i64 k, .string s] V fun e w' => e = .returned (.tuple #[.slice none 0 0, .int .i64 er]) ∧ V = w') :
    Calls Try.prog 10 #[v, .int .i64 k, .string s] w fun e w' => e = .returned (.bool true) ∧ Below w.heap.size w w' := by
  have HP := Lib.hid hP
  clear hP
  have h0 : (er == 0) = false := by rw [beq_eq_false_iff_ne]; exact her
  clear her
  go_enter Try.func10, Try.ntmps10
  go_wp2_with fail
  refine (alive19_any _).mono ?_
  rintro e w1 ⟨rfl, hb⟩
  have HB := Lib.hid hb
  clear hb
  go_wp2_with fail
  refine (HP.out _).mono ?_
  rintro e w2 ⟨rfl, rfl⟩
  go_wp2_with fail
  refine (num19_any _ _).mono ?_
  rintro e w3 ⟨rfl, rfl⟩
  go_wp2_with fail
  go_ret
  exact ⟨rfl, HB.out⟩

set_option maxRecDepth 100000 in
set_option maxHeartbeats 2000000 in
theorem lists_put (v : Value) (b o n cap : Nat) (f : Nat → ByteArray) (s : ByteArray) (k : Nat) (w : World) (hv : (v = .slice none 0 0 ∧ n = 0) ∨ ∃ ad, v = .slice (some ad) n cap ∧ (0 < n → ad = ⟨b, o, none⟩)) (hf : Texts b o n f w) (hb : 0 < n → b < w.heap.size) (hn : n ≤ 8796093021952) (hk : k ≤ n) (hfull : ¬ (k = n ∧ 1024 ≤ n)) :
    Calls Try.prog 10 #[v, .int .i64 (k : Int), .string s] w fun e w' => e = .returned (.bool true) ∧ Below w.heap.size w w' := by
  have HPUT : Hid (∀ V, Below w.heap.size w V → Calls Try.prog 23 #[v, .int .i64 (k : Int), .string s] V fun e w' => PutPost n k f s V e w') := fun V hV =>
    put_any v b o n cap f s k V hv (fun j hj => (hV.cell (p := ⟨b, o + j, none⟩) (hb (by omega))).trans (hf j hj)) (fun h => Nat.lt_of_lt_of_le (hb h) hV.size) hn hk hfull
  have hform : ∃ ao c, v = .slice ao n c ∧ (0 < n → ao = some ⟨b, o, none⟩) := by
    rcases hv with ⟨rfl, rfl⟩ | ⟨ad, rfl, had⟩
    · exact ⟨_, _, rfl, fun h => by omega⟩
    · exact ⟨_, _, rfl, fun h => by rw [had h]⟩
  obtain ⟨ao, c, rfl, hao⟩ := hform
  have HF := Lib.hid hf
  clear hv hf hfull
  go_enter Try.func10, Try.ntmps10
  go_wp2_with fail
  refine (alive19_any _).mono ?_
  rintro e w1 ⟨rfl, hb1⟩
  have HB := Lib.hid hb1
  clear hb1
  go_wp2_with fail
  refine (HPUT.out _ HB.out).mono ?_
  rintro e w2 ⟨g, cap2, m, hm, rfl, ht, hg, hb2⟩
  have HB2 := Lib.hid (HB.out.trans (hb2.mono HB.out.size))
  have HT := Lib.hid ht
  have HMM := Lib.hid hm
  have hmn : n ≤ m := by omega
  have hkm : k < m := by omega
  have hm2 : m ≤ 8796093021953 := by omega
  clear ht hb2 hm
  go_wp2_with fail
  refine (num19_any _ _).mono ?_
  rintro e w3 ⟨rfl, rfl⟩
  have hck := HT.out k hkm
  have hckv : (fun j => if j = k then s else f j) k = s := if_pos rfl
  rw [hckv] at hck
  clear hckv
  have HEK : Hid (Calls Try.prog 25 #[.slice (some ⟨g, 0, none⟩) m cap2, .int .i64 (k : Int)] w2 fun e w' => e = .returned (.tuple #[.string s, .int .i64 0]) ∧ w2 = w') :=
    element_in (some ⟨g, 0, none⟩) g 0 m cap2 (fun _ => s) k w2 rfl hck hkm
  clear hck
  go_wp2_with fail
  refine HEK.out.mono ?_
  rintro e w4 ⟨rfl, rfl⟩
  go_wp2_with fail
  go_loop [11] (fun i => ∃ j : Nat, j ≤ n ∧ i = .int .i64 j) (fun i => n - (intOf i).toNat)
  case atStart => exact ⟨0, Nat.zero_le _, rfl⟩
  case round =>
    obtain ⟨j, hj, rfl⟩ := hrel
    by_cases hlt : j < n
    · obtain rfl := hao (by omega)
      have hcj := HT.out j (by omega)
      have hlj := (HB2.out.cell (p := ⟨b, o + j, none⟩) (hb (by omega))).trans (HF.out j hlt)
      have j0 : (0 : Int) ≤ (j : Int) := Int.natCast_nonneg _
      have j1 : (j : Int) < (n : Int) := by omega
      by_cases hjk : j = k
      · have hcv : (fun j => if j = k then s else f j) j = s := if_pos hjk
        rw [hcv] at hcj
        have HEJ : Hid (Calls Try.prog 25 #[.slice (some ⟨g, 0, none⟩) m cap2, .int .i64 (j : Int)] w2 fun e w' => e = .returned (.tuple #[.string s, .int .i64 0]) ∧ w2 = w') :=
          element_in (some ⟨g, 0, none⟩) g 0 m cap2 (fun _ => s) j w2 rfl hcj (by omega)
        have q1 : ((j : Int) == (k : Int)) = true := by rw [beq_iff_eq]; omega
        have q2 : ((j : Int) != (k : Int)) = false := by rw [bne, q1]; rfl
        clear hcj hcv hjk
        go_wp2_with fail
        refine HEJ.out.mono ?_
        rintro e w4 ⟨rfl, rfl⟩
        go_wp2_with fail
        go_round
        case rel => exact ⟨j + 1, by omega, by go_num⟩
        case measure => simp [intOf]; omega
      · have hcv : (fun j => if j = k then s else f j) j = f j := if_neg hjk
        rw [hcv] at hcj
        obtain ⟨u, hu⟩ : ∃ u, u = f j := ⟨_, rfl⟩
        rw [← hu] at hcj hlj
        have HEJ : Hid (Calls Try.prog 25 #[.slice (some ⟨g, 0, none⟩) m cap2, .int .i64 (j : Int)] w2 fun e w' => e = .returned (.tuple #[.string u, .int .i64 0]) ∧ w2 = w') :=
          element_in (some ⟨g, 0, none⟩) g 0 m cap2 (fun _ => u) j w2 rfl hcj (by omega)
        have q1 : ((j : Int) == (k : Int)) = false := by rw [beq_eq_false_iff_ne]; omega
        have q2 : ((j : Int) != (k : Int)) = true := by rw [bne, q1]; rfl
        clear hcj hcv hjk hu
        go_wp2_with fail
        refine HEJ.out.mono ?_
        rintro e w4 ⟨rfl, rfl⟩
        go_wp2_with fail
        refine (num19_any _ _).mono ?_
        rintro e w5 ⟨rfl, rfl⟩
        go_wp2_with fail
        go_round
        case rel => exact ⟨j + 1, by omega, by go_num⟩
        case measure => simp [intOf]; omega
    · go_wp2_with fail
      refine (num19_any _ _).mono ?_
      rintro e w5 ⟨rfl, rfl⟩
      have hmm := HMM.out
      rcases Nat.lt_or_ge k n with h1 | h1
      · obtain rfl : m = n := by omega
        have q1 : ¬ (m : Int) < (k : Int) + 1 := by omega
        clear hmm
        go_wp2_with fail
        go_ret
        exact ⟨rfl, HB2.out⟩
      · obtain rfl : k = n := by omega
        obtain rfl : m = k + 1 := by omega
        have q1 : (k : Int) < (k : Int) + 1 := by omega
        clear hmm
        go_wp2_with fail
        go_ret
        exact ⟨rfl, HB2.out⟩

theorem lists_walk (v : Value) (b o n cap : Nat) (f : Nat → ByteArray) (s : ByteArray) (k : Int) (w : World) (hv : (v = .slice none 0 0 ∧ n = 0) ∨ ∃ ad, v = .slice (some ad) n cap ∧ (0 < n → ad = ⟨b, o, none⟩)) (hf : Texts b o n f w) (hb : 0 < n → b < w.heap.size) (hn : n ≤ 8796093021952) :
    Calls Try.prog 10 #[v, .int .i64 k, .string s] w fun e w' => e = .returned (.bool true) ∧ Below w.heap.size w w' := by
  have hform : ∃ ao c, v = .slice ao n c := by
    rcases hv with ⟨rfl, rfl⟩ | ⟨ad, rfl, had⟩
    · exact ⟨_, _, rfl⟩
    · exact ⟨_, _, rfl⟩
  by_cases h1 : k < 0
  · obtain ⟨ao, c, hv'⟩ := hform
    exact lists_fail v s k 4 w (by decide) fun V => put_low v s k V ⟨_, _, _, hv'⟩ h1
  · by_cases h2 : (n : Int) < k
    · obtain ⟨ao, c, rfl⟩ := hform
      exact lists_fail _ s k 4 w (by decide) fun V => put_high ao n c s k V h2
    · obtain ⟨j, rfl⟩ : ∃ j : Nat, k = j := ⟨k.toNat, by omega⟩
      by_cases h3 : j = n ∧ 1024 ≤ n
      · obtain ⟨ao, c, rfl⟩ := hform
        obtain ⟨rfl, h4⟩ := h3
        exact lists_fail _ s _ 17 w (by decide) fun V => put_full ao j c s V h4
      · exact lists_put v b o n cap f s j w hv hf hb hn (by omega) h3
end Go.Proofs.Ytmjdlilmackneaa

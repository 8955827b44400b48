/- octets.every, Name: that they tell something of a text alone; conditions: as each theorem states. -/
import Derived.Test.YtihbdacmgojapaaEa
import Derived.Lib.ConvBytes
namespace Go.Proofs.Ytihbdacmgojapaa
open Go.RowKit

theorem bytes_below (w : World) (e : TypeId) (s : ByteArray) : Below w.heap.size w (Lib.bytesWorld w e s) :=
  ⟨rfl, rfl, rfl, by rw [Lib.bytesWorld_size]; omega, fun k hk => Lib.bytesWorld_at_old w e s k hk⟩
noncomputable def evF (s : ByteArray) : Bool := !s.toList.isEmpty && !(decide (0 ≤ badI s.data.toList))
set_option maxRecDepth 100000 in
set_option maxHeartbeats 2000000 in
theorem every_any (s : ByteArray) (w : World) (hs : s.size ≤ 4611686018427387904) : Calls Try.prog 53 #[.string s, .func (.func 54) #[] #[]] w fun e w' => e = .returned (.bool (evF s)) ∧ Below w.heap.size w w' := by
  by_cases h0 : s.toList.isEmpty = true
  · have hne : (!s.toList.isEmpty) = false := by rw [h0]; rfl
    have hr : evF s = false := by unfold evF; rw [h0]; rfl
    rw [hr]
    clear hr
    go_enter Try.func53, Try.ntmps53
    go_wp2_with fail
    go_ret
    exact ⟨by simp, (Below.refl _ _).alloc (Nat.le_refl _) _⟩
  · have h0' : s.toList.isEmpty = false := eq_false_of_ne_true h0
    obtain ⟨r, hr⟩ : ∃ r, r = decide (0 ≤ badI s.data.toList) := ⟨_, rfl⟩
    have he : evF s = !r := by unfold evF; rw [h0', hr]; rfl
    rw [he]
    obtain ⟨V, hV⟩ : ∃ V, V = w.alloc (.cells #[.func (.func 54) #[] #[]] 111) := ⟨_, rfl⟩
    have hbV : Below w.heap.size w V := hV ▸ (Below.refl _ _).alloc (Nat.le_refl _) _
    have hVs : V.heap.size = w.heap.size + 1 := by rw [hV]; simp
    have hcv := Lib.run_convert_string_bytes (P := Try.prog) V 9 23 5 s Try.underlying9 Try.underlying23 Try.underlying5
    obtain ⟨X, hX⟩ : ∃ X, X = Lib.bytesWorld V 5 s := ⟨_, rfl⟩
    obtain ⟨cp, hcp⟩ : ∃ c, c = grownCap V s.size 0 5 := ⟨_, rfl⟩
    have hbX : Below V.heap.size V X := hX ▸ bytes_below V 5 s
    have H1 : Hid (Calls Try.prog 66 #[.slice (some ⟨V.heap.size, 0, none⟩) s.size cp, .func (.func 67) #[] #[.pointer (some ⟨w.heap.size, 0, none⟩)]] X fun e w' => e = .returned (.bool r) ∧ w' = X) := by
      have := cfbyte_any V.heap.size w.heap.size cp s.data.toList X (by rw [hX, Lib.bytesWorld_size]; omega) (by rw [hX, Lib.bytesWorld_size]; omega) (fun j hj => ?_) ?_ (by simpa using hs)
      · rw [← hr] at this
        exact this
      · rw [hX, Lib.bytesWorld_cell V 5 s j (by simpa using hj), List.getD_eq_getElem?_getD, List.getElem?_eq_getElem hj]
        rfl
      · rw [hX, Lib.bytesWorld_old V 5 s _ (by show w.heap.size < _; omega), hV]
        exact World.cell?_alloc_new _ _ _ _
    rw [← hX, ← hcp] at hcv
    have HB : Hid (Below w.heap.size w X) := hbV.trans (hbX.mono (by omega))
    rw [hVs] at hcv H1
    have hcv' := hcv
    rw [hV] at hcv'
    clear hcv hX hcp hbX hbV hr he h0 hV hVs
    go_enter Try.func53, Try.ntmps53
    go_wp2_with fail
    refine H1.out.mono ?_
    rintro e w1 ⟨rfl, rfl⟩
    go_wp2_with fail
    go_ret
    exact ⟨by simp, HB.out⟩
noncomputable def nameF (s : ByteArray) : Bool := if h : 0 < s.size then decide (s.size ≤ 64) && (evF s && !digF s[0]) else false
set_option maxRecDepth 100000 in
set_option maxHeartbeats 2000000 in
theorem oname_any (s : ByteArray) (w : World) (hs : s.size ≤ 4611686018427387904) : Calls Try.prog 42 #[.string s] w fun e w' => e = .returned (.bool (nameF s)) ∧ Below w.heap.size w w' := by
  have H1 : Hid (∀ V : World, Calls Try.prog 53 #[.string s, .func (.func 54) #[] #[]] V fun e w' => e = .returned (.bool (evF s)) ∧ Below V.heap.size V w') := fun V => every_any s V hs
  obtain ⟨r, hr⟩ : ∃ r, r = evF s := ⟨_, rfl⟩
  by_cases hp : 0 < s.size
  · have H2 : Hid (∀ w, Calls Try.prog 56 #[.int .u8 s[0].toNat] w fun e w' => e = .returned (.bool (digF s[0])) ∧ w' = w) := digit_any s[0]
    obtain ⟨q, hq⟩ : ∃ q, q = digF s[0] := ⟨_, rfl⟩
    have he : nameF s = (decide (s.size ≤ 64) && (r && !q)) := by unfold nameF; rw [dif_pos hp, hr, hq]
    rw [he]
    rw [← hr] at H1
    rw [← hq] at H2
    have hpi : (0 : Int) < (s.size : Int) := by omega
    clear hr hq he
    by_cases h64 : s.size ≤ 64
    · have h64' : (s.size : Int) ≤ 64 := by omega
      have h65 : decide (s.size ≤ 64) = true := decide_eq_true h64
      rw [h65]
      clear h64 h65
      cases r
      · go_enter Try.func42, Try.ntmps42
        go_wp2_with fail
        refine (H1.out _).mono ?_
        rintro e w1 ⟨rfl, hb1⟩
        have HB1 := Lib.hid hb1
        clear hb1
        go_wp2_with fail
        go_ret
        exact ⟨by simp, HB1.out⟩
      · go_enter Try.func42, Try.ntmps42
        go_wp2_with fail
        refine (H1.out _).mono ?_
        rintro e w1 ⟨rfl, hb1⟩
        have HB1 := Lib.hid hb1
        clear hb1
        go_wp2_with fail
        refine (H2.out _).mono ?_
        rintro e w2 ⟨rfl, rfl⟩
        go_wp2_with fail
        go_ret
        exact ⟨by simp, HB1.out⟩
    · have h65 : decide (s.size ≤ 64) = false := decide_eq_false h64
      have h66 : decide ((s.size : Int) ≤ 64) = false := decide_eq_false (by omega)
      rw [h65]
      clear h65 h64
      go_enter Try.func42, Try.ntmps42
      go_wp2_with fail
      go_ret
      exact ⟨by simp, Below.refl _ _⟩
  · have h0 : s.size = 0 := by omega
    have he : nameF s = false := by unfold nameF; rw [dif_neg hp]
    have hev : evF s = false := by
      unfold evF
      have : s.toList.isEmpty = true := by
        rw [ByteArray.toList_eq, List.isEmpty_iff]
        exact List.length_eq_zero_iff.1 h0
      rw [this]
      rfl
    rw [hev] at H1
    rw [he]
    have h64' : (s.size : Int) ≤ 64 := by omega
    clear hr hev he hp h0
    go_enter Try.func42, Try.ntmps42
    go_wp2_with fail
    refine (H1.out _).mono ?_
    rintro e w1 ⟨rfl, hb1⟩
    have HB1 := Lib.hid hb1
    clear hb1
    go_wp2_with fail
    go_ret
    exact ⟨by simp, HB1.out⟩
end Go.Proofs.Ytihbdacmgojapaa

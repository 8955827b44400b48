/- The walk of ParamsParts; conditions: as the theorem states. -/
import Derived.Test.YtmjdlilmackneaaDoorKc
import Derived.Test.YtmjdlilmackneaaDoorKp
namespace Go.Proofs.YtmjdlilmackneaaDoor
open Go.RowKit

theorem fl_mono (n : Nat) (P : Nat → Bool) : (firstL n P false).toNat ≤ (firstL n P true).toNat := by
  rcases firstL_cases n P false with ⟨h, _⟩ | ⟨k, h1, h2, h3, _⟩
  · rw [h]
    exact Nat.zero_le _
  · rcases firstL_cases n P true with ⟨_, h'⟩ | ⟨k', _, g2, _, g4⟩
    · rw [h' k h1] at h3
      cases h3
    · have := g4 k h1 h3
      rw [if_pos rfl] at this
      rw [h2, g2]
      omega
theorem fl_hit (n : Nat) (P : Nat → Bool) (l : Bool) (h : (firstL n P l).toNat ≠ 0) : P (firstL n P l).toNat = true := by
  rcases firstL_cases n P l with ⟨h', _⟩ | ⟨k, h1, h2, h3, _⟩
  · rw [h'] at h
    exact absurd rfl h
  · rw [h2]
    exact h3
theorem pl_mono (es : List El) (s : List UInt8) : pl es s false ≤ pl es s true := fl_mono _ _
theorem sl_mono (es : List El) (s : List UInt8) : sl es s false ≤ sl es s true := fl_mono _ _
theorem pl_hit (es : List El) (s : List UInt8) (l : Bool) (h : pl es s l ≠ 0) : Mt es (s.take (pl es s l)) = true := fl_hit s.length (fun k => Mt es (s.take k)) l h
theorem sl_hit (es : List El) (s : List UInt8) (l : Bool) (h : sl es s l ≠ 0) : Mt es (s.drop (s.length - sl es s l)) = true := fl_hit s.length (fun k => Mt es (s.drop (s.length - k))) l h
theorem ext_size (s : ByteArray) (a b : Nat) (h : a ≤ b) (h2 : b ≤ s.size) : (s.extract a b).size = b - a := by
  rw [ByteArray.size_extract]
  omega
theorem pre_list (s : ByteArray) (k : Nat) (_ : k ≤ s.size) : (s.extract 0 k).data.toList = s.data.toList.take k := by
  rw [Lib.extract_data, List.drop_zero, Nat.sub_zero]
theorem suf_list (s : ByteArray) (k : Nat) (_ : k ≤ s.size) : (s.extract k s.size).data.toList = s.data.toList.drop k := by
  rw [Lib.extract_data]
  exact List.take_of_length_le (by rw [List.length_drop]; exact Nat.le_refl _)
theorem empty_of_size (s : ByteArray) (h : s.size = 0) : s.toList.isEmpty = true := by
  rw [ByteArray.toList_eq, List.isEmpty_iff]
  exact List.length_eq_zero_iff.1 h

set_option maxRecDepth 100000 in
set_option maxHeartbeats 4000000 in
theorem parts_walk (s : ByteArray) (p : List Ch) (v : Value) (w : World) (ht : Tab w) (hp : PatOf p v w) (hm : p.length ≤ 4194304) (hs : s.size ≤ 1048576) :
    Calls Tryd.prog 5 #[.string s, v] w fun e w' => e = .returned (.bool true) ∧ Below w.heap.size w w' := by
  have HAl : Hid (Calls Tryd.prog 8 #[] w fun e w' => e = .returned (.bool true) ∧ Below w.heap.size w w') := alive18_any w ht
  obtain ⟨A, hA⟩ : ∃ A, A = pl (els p) s.data.toList false := ⟨_, rfl⟩
  obtain ⟨B, hB⟩ : ∃ A, A = pl (els p) s.data.toList true := ⟨_, rfl⟩
  obtain ⟨C, hC⟩ : ∃ A, A = sl (els p) s.data.toList false := ⟨_, rfl⟩
  obtain ⟨D, hD⟩ : ∃ A, A = sl (els p) s.data.toList true := ⟨_, rfl⟩
  have hAB : A ≤ B := by rw [hA, hB]; exact pl_mono _ _
  have hCD : C ≤ D := by rw [hC, hD]; exact sl_mono _ _
  have hBN : B ≤ s.size := by rw [hB]; exact pl_le _ _ _
  have hDN : D ≤ s.size := by rw [hD]; exact sl_le _ _ _
  have hMB : B ≠ 0 → Mt (els p) (s.data.toList.take B) = true := by rw [hB]; exact pl_hit _ _ _
  have hMD : D ≠ 0 → Mt (els p) (s.data.toList.drop (s.size - D)) = true := by rw [hD]; exact sl_hit _ _ _
  obtain ⟨a, ha⟩ : ∃ a, a = s.extract A s.size := ⟨_, rfl⟩
  obtain ⟨b, hb⟩ : ∃ a, a = s.extract B s.size := ⟨_, rfl⟩
  obtain ⟨c, hc⟩ : ∃ a, a = s.extract 0 (s.size - C) := ⟨_, rfl⟩
  obtain ⟨d, hd⟩ : ∃ a, a = s.extract 0 (s.size - D) := ⟨_, rfl⟩
  obtain ⟨x, hx⟩ : ∃ a, a = s.extract 0 B := ⟨_, rfl⟩
  obtain ⟨y, hy⟩ : ∃ a, a = s.extract (s.size - D) s.size := ⟨_, rfl⟩
  have za : a.size = s.size - A := by rw [ha]; exact ext_size _ _ _ (by omega) (Nat.le_refl _)
  have zb : b.size = s.size - B := by rw [hb]; exact ext_size _ _ _ (by omega) (Nat.le_refl _)
  have zc : c.size = s.size - C := by rw [hc]; exact ext_size _ _ _ (by omega) (by omega)
  have zd : d.size = s.size - D := by rw [hd]; exact ext_size _ _ _ (by omega) (by omega)
  have zx : x.size = B := by rw [hx]; exact ext_size _ _ _ (by omega) (by omega)
  have zy : y.size = D := by rw [hy, ext_size _ _ _ (by omega) (Nat.le_refl _)]; omega
  have R1 : Hid (∀ V, PatOf p v V → Calls Tryd.prog 10 #[.string s, .string ⟨#[35]⟩, v] V fun e w' => e = .returned (.tuple #[.string a, .int .i64 0]) ∧ Below V.heap.size V w') := fun V hV => by
    rw [ha, hA]; exact remove_pre false p v s V hV hm (by omega)
  have R2 : Hid (∀ V, PatOf p v V → Calls Tryd.prog 10 #[.string s, .string ⟨#[35, 35]⟩, v] V fun e w' => e = .returned (.tuple #[.string b, .int .i64 0]) ∧ Below V.heap.size V w') := fun V hV => by
    rw [hb, hB]; exact remove_pre true p v s V hV hm (by omega)
  have R3 : Hid (∀ V, PatOf p v V → Calls Tryd.prog 10 #[.string s, .string ⟨#[37]⟩, v] V fun e w' => e = .returned (.tuple #[.string c, .int .i64 0]) ∧ Below V.heap.size V w') := fun V hV => by
    rw [hc, hC]; exact remove_suf false p v s V hV hm (by omega)
  have R4 : Hid (∀ V, PatOf p v V → Calls Tryd.prog 10 #[.string s, .string ⟨#[37, 37]⟩, v] V fun e w' => e = .returned (.tuple #[.string d, .int .i64 0]) ∧ Below V.heap.size V w') := fun V hV => by
    rw [hd, hD]; exact remove_suf true p v s V hV hm (by omega)
  have M1 : Hid (x.toList.isEmpty = false → ∀ V, PatOf p v V → Calls Tryd.prog 18 #[v, .string x] V fun e w' => e = .returned (.bool true) ∧ Below V.heap.size V w') := fun hne V hV => by
    have h0 : B ≠ 0 := fun h => by
      rw [empty_of_size x (by omega)] at hne
      cases hne
    have := rmatch_any p v x V hV hm (by omega)
    rw [hx, pre_list s B hBN, hMB h0, ← hx] at this
    exact this
  have M2 : Hid (y.toList.isEmpty = false → ∀ V, PatOf p v V → Calls Tryd.prog 18 #[v, .string y] V fun e w' => e = .returned (.bool true) ∧ Below V.heap.size V w') := fun hne V hV => by
    have h0 : D ≠ 0 := fun h => by
      rw [empty_of_size y (by omega)] at hne
      cases hne
    have := rmatch_any p v y V hV hm (by omega)
    rw [hy, suf_list s _ (by omega), hMD h0, ← hy] at this
    exact this
  have lo : ∀ (k : Nat) (z : ByteArray) (i : Int), i = (k : Int) → k ≤ s.size → z = s.extract k s.size → ∀ w, (Instr.slice 9 (.string s) (some (.int .i64 i)) none none).run Tryd.prog w = .ok (.string z) w := fun k z i hi hk hz w => by
    rw [run_slice_string_l (P := Tryd.prog) w 9 s Tryd.underlying9 .i64 _ (by omega) (by omega), hz, hi, Int.toNat_natCast]
  have hi : ∀ (k : Nat) (z : ByteArray) (i : Int), i = (k : Int) → k ≤ s.size → z = s.extract 0 k → ∀ w, (Instr.slice 9 (.string s) none (some (.int .i64 i)) none).run Tryd.prog w = .ok (.string z) w := fun k z i hi hk hz w => by
    rw [run_slice_string_h (P := Tryd.prog) w 9 s Tryd.underlying9 .i64 _ (by omega) (by omega), hz, hi, Int.toNat_natCast]
  have s1 := lo A a ((s.size : Int) - (a.size : Int)) (by omega) (by omega) ha
  have s2 := lo B b ((s.size : Int) - (b.size : Int)) (by omega) (by omega) hb
  have s3 := hi (s.size - C) c (c.size : Int) (by omega) (by omega) hc
  have s4 := hi (s.size - D) d (d.size : Int) (by omega) (by omega) hd
  have s5 := hi B x ((s.size : Int) - (b.size : Int)) (by omega) (by omega) hx
  have s6 := lo (s.size - D) y (d.size : Int) (by omega) (by omega) hy
  have b1 : ¬ (a.size : Int) < (b.size : Int) := by omega
  have b2 : ¬ (c.size : Int) < (d.size : Int) := by omega
  have b3 : (b.size : Int) ≤ (s.size : Int) := by omega
  have b4 : (a.size : Int) ≤ (s.size : Int) := by omega
  have b5 : (c.size : Int) ≤ (s.size : Int) := by omega
  have b6 : (d.size : Int) ≤ (s.size : Int) := by omega
  have HP := Lib.hid hp
  clear lo hi hA hB hC hD hAB hCD hBN hDN hMB hMD ha hb hc hd hx hy za zb zc zd zx zy ht hp hm
  go_enter Tryd.func5, Tryd.ntmps5
  go_wp2_with fail
  refine HAl.out.mono ?_
  rintro e w1 ⟨rfl, hb1⟩
  have HP1 := Lib.hid (HP.out.below hb1)
  have HB1 := Lib.hid hb1
  clear hb1
  go_wp2_with fail
  refine (R1.out _ HP1.out).mono ?_
  rintro e w2 ⟨rfl, hb2⟩
  have HP2 := Lib.hid (HP1.out.below hb2)
  have HB2 := Lib.hid (HB1.out.trans (hb2.mono HB1.out.size))
  clear hb2
  go_wp2_with fail
  refine (R2.out _ HP2.out).mono ?_
  rintro e w3 ⟨rfl, hb3⟩
  have HP3 := Lib.hid (HP2.out.below hb3)
  have HB3 := Lib.hid (HB2.out.trans (hb3.mono HB2.out.size))
  clear hb3
  go_wp2_with fail
  refine (R3.out _ HP3.out).mono ?_
  rintro e w4 ⟨rfl, hb4⟩
  have HP4 := Lib.hid (HP3.out.below hb4)
  have HB4 := Lib.hid (HB3.out.trans (hb4.mono HB3.out.size))
  clear hb4
  go_wp2_with fail
  refine (R4.out _ HP4.out).mono ?_
  rintro e w5 ⟨rfl, hb5⟩
  have HP5 := Lib.hid (HP4.out.below hb5)
  have HB5 := Lib.hid (HB4.out.trans (hb5.mono HB4.out.size))
  clear hb5
  go_wp2_with (go_at_call 12; ((with_reducible refine (num18_any _ _).mono ?_); rintro e w6 ⟨rfl, rfl⟩))
  go_quiet (fail)
  obtain ⟨W, hW⟩ : ∃ W, W = w5.drewN nq := ⟨_, rfl⟩
  have HPW : Hid (PatOf p v W) := hW ▸ HP5.out.below (below_drewN (Below.refl _ _) _)
  have HBW : Hid (Below w.heap.size w W) := hW ▸ below_drewN HB5.out _
  rw [← hW]
  clear hW
  obtain ⟨zx, hzx⟩ : ∃ z, z = x.toList.isEmpty := ⟨_, rfl⟩
  obtain ⟨zy, hzy⟩ : ∃ z, z = y.toList.isEmpty := ⟨_, rfl⟩
  rw [← hzx] at M1
  rw [← hzy] at M2
  have hzx' := hzx.symm
  have hzy' := hzy.symm
  clear hzx hzy
  cases zx
  · have N1 : Hid (∀ V, PatOf p v V → Calls Tryd.prog 18 #[v, .string x] V fun e w' => e = .returned (.bool true) ∧ Below V.heap.size V w') := M1.out rfl
    clear M1
    cases zy
    · have N2 : Hid (∀ V, PatOf p v V → Calls Tryd.prog 18 #[v, .string y] V fun e w' => e = .returned (.bool true) ∧ Below V.heap.size V w') := M2.out rfl
      clear M2
      go_wp2_with fail
      refine (N1.out _ HPW.out).mono ?_
      rintro e x1 ⟨rfl, hx1⟩
      have HPX := Lib.hid (HPW.out.below hx1)
      have HBX := Lib.hid (HBW.out.trans (hx1.mono HBW.out.size))
      clear hx1
      go_wp2_with fail
      refine (N2.out _ HPX.out).mono ?_
      rintro e x2 ⟨rfl, hx2⟩
      have HBY := Lib.hid (HBX.out.trans (hx2.mono HBX.out.size))
      clear hx2
      go_wp2_with fail
      go_ret
      exact ⟨by simp, HBY.out⟩
    · clear M2
      go_wp2_with fail
      refine (N1.out _ HPW.out).mono ?_
      rintro e x1 ⟨rfl, hx1⟩
      have HBX := Lib.hid (HBW.out.trans (hx1.mono HBW.out.size))
      clear hx1
      go_wp2_with fail
      go_ret
      exact ⟨by simp, HBX.out⟩
  · clear M1
    cases zy
    · have N2 : Hid (∀ V, PatOf p v V → Calls Tryd.prog 18 #[v, .string y] V fun e w' => e = .returned (.bool true) ∧ Below V.heap.size V w') := M2.out rfl
      clear M2
      go_wp2_with fail
      refine (N2.out _ HPW.out).mono ?_
      rintro e x1 ⟨rfl, hx1⟩
      have HBX := Lib.hid (HBW.out.trans (hx1.mono HBW.out.size))
      clear hx1
      go_wp2_with fail
      go_ret
      exact ⟨by simp, HBX.out⟩
    · clear M2
      go_wp2_with fail
      go_ret
      exact ⟨by simp, HBW.out⟩
end Go.Proofs.YtmjdlilmackneaaDoor

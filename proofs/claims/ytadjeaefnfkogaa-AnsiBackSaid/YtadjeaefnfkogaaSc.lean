/- ansi.octet and ansi.Scan by the plain law's enc and scan; conditions: as each theorem states. -/
import Derived.Test.YtadjeaefnfkogaaEn
import Derived.Test.YtadjeaefnfkogaaDe0
namespace Go.Proofs.Ytadjeaefnfkogaa
open Go.RowKit
open Go.Lib (indexByte)

theorem i_eq (c : UInt8) (d : UInt8) (h : c = d) : ((c.toNat : Int) == (d.toNat : Int)) = true := by subst h; simp
theorem i_ne (c : UInt8) (d : UInt8) (h : ¬ c = d) : ((c.toNat : Int) == (d.toNat : Int)) = false := by
  rw [beq_eq_false_iff_ne]; exact fun e => h (UInt8.toNat_inj.1 (Int.ofNat.inj e))

theorem octet_any (c : UInt8) (w : World) : Calls Try.prog 17 #[.int .u8 c.toNat] w fun e w' => e = .returned (.string ⟨(enc c).toArray⟩) ∧ Below w.heap.size w w' := by
  by_cases h92 : c = 92
  · rw [show enc c = [92, c] from if_pos (Or.inl h92)]
    exact octet_bs c w (i_eq c 92 h92)
  by_cases h39 : c = 39
  · rw [show enc c = [92, c] from if_pos (Or.inr h39)]
    exact octet_qu c w (i_ne c 92 h92) (i_eq c 39 h39)
  by_cases h10 : c = 10
  · subst h10
    exact octet_nl 10 w (i_ne _ 92 h92) (i_ne _ 39 h39) (i_eq _ 10 rfl)
  by_cases h9 : c = 9
  · subst h9
    exact octet_tab 9 w (i_ne _ 92 h92) (i_ne _ 39 h39) (i_ne _ 10 h10) (i_eq _ 9 rfl)
  by_cases h13 : c = 13
  · subst h13
    exact octet_cr 13 w (i_ne _ 92 h92) (i_ne _ 39 h39) (i_ne _ 10 h10) (i_ne _ 9 h9) (i_eq _ 13 rfl)
  have hc : ∀ d : UInt8, c < d ↔ (c.toNat : Int) < d.toNat := fun d => by rw [UInt8.lt_iff_toNat_lt]; omega
  have hc' : ∀ d : UInt8, d < c ↔ (d.toNat : Int) < c.toNat := fun d => by rw [UInt8.lt_iff_toNat_lt]; omega
  by_cases hlo : c < 32
  · rw [show enc c = ([92, (48 : UInt8) + (c >>> 6), (48 : UInt8) + ((c >>> 3) &&& 7), (48 : UInt8) + (c &&& 7)] : List UInt8) by simp [enc, h92, h39, h10, h9, h13, hlo]]
    exact octet_lo c w (i_ne _ 92 h92) (i_ne _ 39 h39) (i_ne _ 10 h10) (i_ne _ 9 h9) (i_ne _ 13 h13) ((hc 32).1 hlo)
  by_cases hhi : 126 < c
  · rw [show enc c = ([92, (48 : UInt8) + (c >>> 6), (48 : UInt8) + ((c >>> 3) &&& 7), (48 : UInt8) + (c &&& 7)] : List UInt8) by simp [enc, h92, h39, h10, h9, h13, hhi]]
    exact octet_hi c w (i_ne _ 92 h92) (i_ne _ 39 h39) (i_ne _ 10 h10) (i_ne _ 9 h9) (i_ne _ 13 h13) (fun h => hlo ((hc 32).2 h)) ((hc' 126).1 hhi)
  · rw [show enc c = [c] by simp [enc, h92, h39, h10, h9, h13, hhi, hlo]]
    exact octet_own c w (i_ne _ 92 h92) (i_ne _ 39 h39) (i_ne _ 10 h10) (i_ne _ 9 h9) (i_ne _ 13 h13) (fun h => hlo ((hc 32).2 h)) (fun h => hhi ((hc' 126).2 h))

/-- What Scan tells from 0. -/
def scanned (l : List UInt8) : Int × Int := match scan l with | some n => ((n : Int), 0) | none => ((l.length : Int), 8)
theorem scan_at39 (l : List UInt8) (k : Nat) (h : k < l.length) (e : l[k] = 39) : scan (l.drop k) = some 0 := by
  rw [List.drop_eq_getElem_cons h, e, scan_quote]
theorem scan_at92 (l : List UInt8) (k : Nat) (h : k < l.length) (e : l[k] = 92) : scan (l.drop k) = (scan (l.drop (k + 2))).map (· + 2) := by
  rw [List.drop_eq_getElem_cons h, e]
  by_cases h' : k + 1 < l.length
  · rw [List.drop_eq_getElem_cons h', scan_skip]
  · rw [List.drop_eq_nil_of_le (by omega : l.length ≤ k + 1), List.drop_eq_nil_of_le (by omega : l.length ≤ k + 2)]
    rfl
theorem scan_else (l : List UInt8) (k : Nat) (h : k < l.length) (e : l[k] ≠ 39) (e' : l[k] ≠ 92) : scan (l.drop k) = (scan (l.drop (k + 1))).map (· + 1) := by
  rw [List.drop_eq_getElem_cons h, scan_next _ _ e e']
theorem scan_out (l : List UInt8) (k : Nat) (h : l.length ≤ k) : scan (l.drop k) = none := by rw [List.drop_eq_nil_of_le h]; rfl
theorem scan_le : ∀ (N : Nat) (l : List UInt8), l.length ≤ N → ∀ n, scan l = some n → n < l.length := by
  intro N
  induction N with
  | zero =>
    intro l hl n h
    have e : l = [] := List.eq_nil_of_length_eq_zero (by omega)
    subst e
    cases h
  | succ N ih =>
    intro l hl n h
    match l, hl, h with
    | [], _, h => cases h
    | c :: t, hl, h =>
      by_cases h39 : c = 39
      · subst h39
        rw [scan_quote] at h
        cases h
        simp
      by_cases h92 : c = 92
      · subst h92
        match t, hl, h with
        | [], _, h => cases h
        | d :: t, hl, h =>
          rw [scan_skip] at h
          obtain ⟨m, hm, rfl⟩ := Option.map_eq_some_iff.1 h
          have := ih t (by simp at hl; omega) m hm
          simp
          omega
      · rw [scan_next _ _ h39 h92] at h
        obtain ⟨m, hm, rfl⟩ := Option.map_eq_some_iff.1 h
        have := ih t (by simp at hl; omega) m hm
        simp
        omega

set_option maxRecDepth 100000 in
set_option maxHeartbeats 2000000 in
theorem scan_any (s : ByteArray) (w : World) (hs : s.size ≤ 4611686018427387904) :
    Calls Try.prog 12 #[.string s, .int .i64 0] w fun e w' => e = .returned (.tuple #[.int .i64 (scanned s.data.toList).1, .int .i64 (scanned s.data.toList).2]) ∧ w' = w := by
  have hl : Hid (s.data.toList.length = s.size) := by unfold Hid; simp
  go_enter Try.func12, Try.ntmps12
  go_wp2_with fail
  go_loop [6] (fun i => ∃ k : Nat, k ≤ s.size + 1 ∧ i = .int .i64 k ∧ Hid (scan s.data.toList = (scan (s.data.toList.drop k)).map (· + k))) (fun i => s.size + 1 - (intOf i).toNat)
  case atStart =>
    refine ⟨0, Nat.zero_le _, rfl, ?_⟩
    show _ = _
    rw [List.drop_zero]
    cases scan s.data.toList <;> rfl
  case round =>
    obtain ⟨k, hk, rfl, hz⟩ := hrel
    by_cases hlt : k < s.size
    · have hkl : k < s.data.toList.length := by rw [hl.out]; exact hlt
      have hc : Hid (s[k] = s.data.toList[k]) := rfl
      by_cases h39 : s.data.toList[k] = 39
      · have g : ((s[k].toNat : Int) == 39) = true := i_eq _ 39 (hc.out.trans h39)
        have H39 := Lib.hid h39
        clear h39
        go_wp2
        go_ret2
        refine ⟨?_, rfl⟩
        have hh := hz.out
        rw [scan_at39 _ _ hkl H39.out] at hh
        unfold scanned
        rw [hh]
        simp
      · by_cases h92 : s.data.toList[k] = 92
        · have g : ((s[k].toNat : Int) == 39) = false := i_ne _ 39 (show ¬ s[k] = 39 from fun e => h39 (hc.out.symm.trans e))
          have g' : ((s[k].toNat : Int) == 92) = true := i_eq _ 92 (hc.out.trans h92)
          have H92 := Lib.hid h92
          clear h92 h39
          go_wp2
          go_round
          case rel =>
            refine ⟨k + 2, by omega, by go_num, ?_⟩
            show _ = _
            rw [hz.out, scan_at92 _ _ hkl H92.out, Option.map_map]
            congr 1; funext x; simp; omega
          case measure => simp [intOf]; omega
        · have g : ((s[k].toNat : Int) == 39) = false := i_ne _ 39 (show ¬ s[k] = 39 from fun e => h39 (hc.out.symm.trans e))
          have g' : ((s[k].toNat : Int) == 92) = false := i_ne _ 92 (show ¬ s[k] = 92 from fun e => h92 (hc.out.symm.trans e))
          have H92 := Lib.hid h92
          have H39 := Lib.hid h39
          clear h92 h39
          go_wp2
          go_round
          case rel =>
            refine ⟨k + 1, by omega, by go_num, ?_⟩
            show _ = _
            rw [hz.out, scan_else _ _ hkl H39.out H92.out, Option.map_map]
            congr 1; funext x; simp; omega
          case measure => simp [intOf]; omega
    · go_wp2
      go_ret2
      refine ⟨?_, rfl⟩
      have hh := hz.out
      rw [scan_out _ _ (by rw [hl.out]; omega)] at hh
      unfold scanned
      rw [hh]
      simp
end Go.Proofs.Ytadjeaefnfkogaa

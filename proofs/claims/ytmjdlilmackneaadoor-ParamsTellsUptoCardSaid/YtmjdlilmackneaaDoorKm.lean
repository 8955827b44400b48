/- cowrieref03.end, in: what they tell; conditions: as each theorem states. -/
import Derived.Test.YtmjdlilmackneaaDoorKl
namespace Go.Proofs.YtmjdlilmackneaaDoor
open Go.RowKit

set_option maxRecDepth 100000 in
set_option maxHeartbeats 2000000 in
theorem end_any (p : List Ch) (v : Value) (k : Nat) (w : World) (hp : PatOf p v w) (hm : p.length ≤ 4194304) (hk : k ≤ 4194304) :
    Calls Tryd.prog 44 #[v, .int .i64 (k : Int)] w fun e w' => e = .returned (.int .i64 (endI p k)) ∧ Below w.heap.size w w' := by
  obtain ⟨ng, hng⟩ : ∃ r, r = ngd p k := ⟨_, rfl⟩
  obtain ⟨f, hf⟩ : ∃ f : Nat, f = k + fro p k := ⟨_, rfl⟩
  have hfn : f = k + (if ng then 2 else 1) := by rw [hf, hng]; rfl
  have HN : Hid (Calls Tryd.prog 45 #[v, .int .i64 (k : Int)] w fun e w' => e = .returned (.bool ng) ∧ Below w.heap.size w w') := hng ▸ neg_any p v k w hp hm hk
  have HIS : Hid (∀ (j : Nat) V, j ≤ 4611686018427387904 → PatOf p v V → Calls Tryd.prog 33 #[v, .int .i64 (j : Int), .int .u8 93] V fun e w' => e = .returned (.bool (isAt p j 93)) ∧ Below V.heap.size V w') := fun j V hj hV => is_any p v j 93 V hV hm hj
  have HP := Lib.hid hp
  obtain ⟨ao, b, o, cap, rfl, _⟩ := hp
  obtain ⟨m, hmm⟩ : ∃ m, m = p.length := ⟨_, rfl⟩
  have hm' : m ≤ 4194304 := by omega
  rw [← hmm] at HP HN HIS ⊢
  have HM := Lib.hid hmm
  have HF := Lib.hid hf
  have HFN := Lib.hid hfn
  clear hmm hng hf hfn hm
  go_enter Tryd.func44, Tryd.ntmps44
  go_wp2_with fail
  refine HN.out.mono ?_
  rintro e w1 ⟨rfl, hb1⟩
  have HB1 := Lib.hid hb1
  clear hb1
  cases ng
  all_goals
    have hfe := HFN.out
    simp only [Bool.false_eq_true, if_false, if_true] at hfe
    have hfl : f ≤ 4194306 := by omega
    have HFE := Lib.hid hfe
    clear hfe
    go_wp2_with fail
    go_loopw [6] (fun i wr => ∃ j : Nat, i = .int .i64 j ∧ Hid (f + 1 ≤ j) ∧ j ≤ 8388608 ∧ Hid (∀ i', f + 1 ≤ i' → i' < j → isAt p i' 93 = false) ∧ Hid (Below w.heap.size w wr)) (fun i _ => m - (intOf i).toNat)
    case atStart => exact ⟨f + 1, by rw [HFE.out]; go_num, Nat.le_refl _, by omega, fun i' h1 h2 => by omega, HB1.out⟩
    case round =>
      obtain ⟨j, rfl, hj1, hj2, hz, hb⟩ := hrel
      have HPr := Lib.hid (HP.out.below hb.out)
      by_cases hlt : j < m
      · obtain ⟨r, hr⟩ : ∃ r, r = isAt p j 93 := ⟨_, rfl⟩
        have HC : Hid (∀ V, PatOf p (.slice ao m cap) V → Calls Tryd.prog 33 #[.slice ao m cap, .int .i64 (j : Int), .int .u8 93] V fun e w' => e = .returned (.bool r) ∧ Below V.heap.size V w') := fun V hV => hr ▸ HIS.out j V (by omega) hV
        have HR := Lib.hid hr
        clear hr
        go_wp2_with fail
        refine (HC.out _ HPr.out).mono ?_
        rintro e w2 ⟨rfl, hb2⟩
        have HB2 := Lib.hid (hb.out.trans (hb2.mono hb.out.size))
        clear hb2
        cases r
        · go_wp2_with fail
          go_roundw
          case rel =>
            refine ⟨j + 1, by go_num, Nat.le_succ_of_le hj1.out, by omega, fun i' h1 h2 => ?_, HB2.out⟩
            by_cases e' : i' = j
            · subst e'; exact HR.out.symm
            · exact hz.out i' h1 (by omega)
          case measure => simp [intOf]; omega
        · go_wp2_with fail
          go_ret
          refine ⟨ret_i (endI_hit p k j (by rw [← HM.out]; exact hlt) (by rw [← HF.out]; exact hj1.out) HR.out.symm (by rw [← HF.out]; exact hz.out)).symm, HB2.out⟩
      · go_wp2_with fail
        go_ret
        refine ⟨ret_i (endI_miss p k (fun i' h1 h2 => hz.out i' (by rw [HF.out]; exact h1) (by rw [← HM.out] at h2; omega))).symm, hb.out⟩

set_option maxRecDepth 100000 in
set_option maxHeartbeats 2000000 in
theorem in_any (p : List Ch) (v : Value) (fr t : Nat) (c : UInt8) (w : World) (hp : PatOf p v w) (hm : p.length ≤ 4194304) (ht : t ≤ p.length) (hft : fr ≤ t) :
    Calls Tryd.prog 46 #[v, .int .i64 (fr : Int), .int .i64 (t : Int), .int .u8 c.toNat] w fun e w' => e = .returned (.bool (spn c ((p.take t).drop fr))) ∧ Below w.heap.size w w' := by
  have HIS : Hid (∀ (j : Nat) V, j ≤ 4611686018427387904 → PatOf p v V → Calls Tryd.prog 33 #[v, .int .i64 (j : Int), .int .u8 45] V fun e w' => e = .returned (.bool (isAt p j 45)) ∧ Below V.heap.size V w') := fun j V hj hV => is_any p v j 45 V hV hm hj
  have HP := Lib.hid hp
  obtain ⟨ao, b, o, cap, rfl, hcap, ha, hg, hl⟩ := hp
  obtain ⟨L, hL⟩ : ∃ L, L = p.take t := ⟨_, rfl⟩
  have hLl : L.length = t := by rw [hL, List.length_take]; omega
  have hLg : ∀ j (h : j < L.length) (h' : j < p.length), L[j] = p[j] := fun j h h' => by subst hL; rw [List.getElem_take]
  have hIs : ∀ j (h : j < L.length), isAt p j 45 = opn L[j] 45 := fun j h => by rw [isAt_in p j 45 (by omega), hLg j h (by omega)]
  have hl' : Reads b o L w := hL ▸ hl.take t
  rw [← hL]
  obtain ⟨m, hmm⟩ : ∃ m, m = p.length := ⟨_, rfl⟩
  rw [← hmm] at ha hg hcap HP HIS ⊢
  have HLL := Lib.hid hLl
  have HLG := Lib.hid hIs
  have hm' : m ≤ 4194304 := by omega
  have ht' : t ≤ m := by omega
  have HL := Lib.hid hl'
  clear hmm hm ht hl hl' hLl hLg hIs hL
  go_enter Tryd.func46, Tryd.ntmps46
  go_wp2_with fail
  go_loopw [9] (fun i wr => ∃ k : Nat, i = .int .i64 k ∧ k ≤ t + 2 ∧ Hid (spn c (L.drop k) = spn c (L.drop fr)) ∧ Hid (Below w.heap.size w wr)) (fun i _ => t + 3 - (intOf i).toNat)
  case atStart => exact ⟨fr, rfl, by omega, rfl, Below.refl _ _⟩
  case round =>
    obtain ⟨k, rfl, hk, hz, hb⟩ := hrel
    have HPr := Lib.hid (HP.out.below hb.out)
    have HLr : Hid (∀ j (h : j < L.length), wr.cell? ⟨b, o + j * 2, none⟩ = some (.int .u8 L[j].1.toNat)) := fun j h => (hb.out.cell (p := ⟨b, o + j * 2, none⟩) (hg (by have := HLL.out; omega))).trans (HL.out j h).1
    by_cases hlt : k < t
    · have hkl : k < L.length := by rw [HLL.out]; exact hlt
      have hkm : k < m := by omega
      obtain rfl := ha (by omega)
      have hbw : b < wr.heap.size := Nat.lt_of_lt_of_le (hg (by omega)) hb.out.size
      have d0 := HLr.out k hkl
      obtain ⟨x, hx⟩ : ∃ x, x = L[k].1 := ⟨_, rfl⟩
      have HX := Lib.hid hx
      rw [← hx] at d0
      clear hx
      by_cases h2 : k + 2 < t
      · have hk1 : k + 1 < L.length := by rw [HLL.out]; omega
        have hk2 : k + 2 < L.length := by rw [HLL.out]; omega
        have hkm2 : k + 2 < m := by omega
        have d3 := HLr.out (k + 2) hk2
        obtain ⟨z, hz'⟩ : ∃ z, z = L[k + 2].1 := ⟨_, rfl⟩
        rw [← hz'] at d3
        have HZ := Lib.hid hz'
        clear hz'
        obtain ⟨r, hr⟩ : ∃ r, r = isAt p (k + 1) 45 := ⟨_, rfl⟩
        have HOC : Hid (∀ V, PatOf p (.slice (some ⟨b, o, none⟩) m cap) V → Calls Tryd.prog 33 #[.slice (some ⟨b, o, none⟩) m cap, .int .i64 ((k : Int) + 1), .int .u8 45] V fun e w' => e = .returned (.bool r) ∧ Below V.heap.size V w') := fun V hV => hr ▸ HIS.out (k + 1) V (by omega) hV
        have HO : Hid (opn L[k + 1] 45 = r) := by
          show _ = _
          rw [hr, HLG.out (k + 1) hk1]
        have HD0 := Lib.hid d0
        have HD3 := Lib.hid d3
        clear hr d0 d3
        go_wp2_with fail
        refine (HOC.out _ HPr.out).mono ?_
        rintro e w1 ⟨rfl, hb1⟩
        have g0 := (hb1.cell (p := ⟨b, o + k * 2, none⟩) hbw).trans HD0.out
        have g3 := (hb1.cell (p := ⟨b, o + (k + 2) * 2, none⟩) hbw).trans HD3.out
        have HB1 := Lib.hid (hb.out.trans (hb1.mono hb.out.size))
        clear hb1
        cases r with
        | true =>
          have HS := Lib.hid (spn_range c L k hk2 HO.out)
          by_cases e1 : (x.toNat : Int) ≤ (c.toNat : Int)
          · by_cases e2 : (c.toNat : Int) ≤ (z.toNat : Int)
            · go_wp2_with fail
              go_ret
              refine ⟨ret_b ?_, HB1.out⟩
              rw [← hz.out, HS.out, ← HX.out, ← HZ.out, decide_eq_true ((le_nat _ _).2 e1), decide_eq_true ((le_nat _ _).2 e2)]
              rfl
            · have e2' : decide ((c.toNat : Int) ≤ (z.toNat : Int)) = false := by simpa using e2
              go_wp2_with fail
              go_roundw
              case rel =>
                refine ⟨k + 3, by go_num, by omega, ?_, HB1.out⟩
                show _ = _
                rw [← hz.out, HS.out, ← HX.out, ← HZ.out, decide_eq_false (show ¬ c ≤ z from fun h => by have := (le_nat _ _).1 h; omega), Bool.and_false, Bool.false_or]
              case measure => simp [intOf]; omega
          · have e1' : decide ((x.toNat : Int) ≤ (c.toNat : Int)) = false := by simpa using e1
            go_wp2_with fail
            go_roundw
            case rel =>
              refine ⟨k + 3, by go_num, by omega, ?_, HB1.out⟩
              show _ = _
              rw [← hz.out, HS.out, ← HX.out, decide_eq_false (show ¬ x ≤ c from fun h => by have := (le_nat _ _).1 h; omega), Bool.false_and, Bool.false_or]
            case measure => simp [intOf]; omega
        | false =>
          have HS := Lib.hid (spn_lit c L k hkl (fun _ => HO.out))
          by_cases e1 : ((x.toNat : Int) == (c.toNat : Int)) = true
          · go_wp2_with fail
            go_ret
            refine ⟨ret_b ?_, HB1.out⟩
            have : (x == c) = true := by
              rw [beq_iff_eq] at e1 ⊢
              exact UInt8.toNat_inj.1 (Int.ofNat.inj e1)
            rw [← hz.out, HS.out, ← HX.out, this]
            rfl
          · have e1' : ((x.toNat : Int) == (c.toNat : Int)) = false := by simpa using e1
            have e3 : Hid ((x == c) = false) := by
              show _ = _
              rw [beq_eq_false_iff_ne]
              rintro rfl
              simp at e1
            clear e1
            go_wp2_with fail
            go_roundw
            case rel =>
              refine ⟨k + 1, by go_num, by omega, ?_, HB1.out⟩
              show _ = _
              rw [← hz.out, HS.out, ← HX.out, e3.out, Bool.false_or]
            case measure => simp [intOf]; omega
      · have HS := Lib.hid (spn_lit c L k hkl (fun h => by rw [HLL.out] at h; omega))
        have h2' : decide ((k : Int) + 2 < (t : Int)) = false := by simp; omega
        by_cases e1 : ((x.toNat : Int) == (c.toNat : Int)) = true
        · go_wp2_with fail
          go_ret
          refine ⟨ret_b ?_, hb.out⟩
          have : (x == c) = true := by
            rw [beq_iff_eq] at e1 ⊢
            exact UInt8.toNat_inj.1 (Int.ofNat.inj e1)
          rw [← hz.out, HS.out, ← HX.out, this]
          rfl
        · have e1' : ((x.toNat : Int) == (c.toNat : Int)) = false := by simpa using e1
          have e3 : Hid ((x == c) = false) := by
            show _ = _
            rw [beq_eq_false_iff_ne]
            rintro rfl
            simp at e1
          clear e1
          go_wp2_with fail
          go_roundw
          case rel =>
            refine ⟨k + 1, by go_num, by omega, ?_, hb.out⟩
            show _ = _
            rw [← hz.out, HS.out, ← HX.out, e3.out, Bool.false_or]
          case measure => simp [intOf]; omega
    · go_wp2_with fail
      go_ret
      refine ⟨ret_b ?_, hb.out⟩
      rw [← hz.out, List.drop_eq_nil_of_le (by rw [HLL.out]; omega)]
      rfl

end Go.Proofs.YtmjdlilmackneaaDoor

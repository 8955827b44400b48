/- cowrieref03.in, step: what they tell; conditions: as each theorem states. -/
import Derived.Test.YtmjdlilmackneaaDoorKk
namespace Go.Proofs.YtmjdlilmackneaaDoor
open Go.RowKit

theorem fst_q (p : List Ch) (k : Nat) (h : k < p.length) (hs : stA p k = false) (hq : isAt p k 63 = true) : fstAt p k = (.test fun _ => true, 1) := by
  rw [stA_is p k h, isAt_in p k 42 h] at hs
  rw [isAt_in p k 63 h] at hq
  rw [fstAt_is p k h]
  unfold fstD
  rw [if_neg (by simp [hs]), if_pos hq]
theorem fst_lit (p : List Ch) (k : Nat) (h : k < p.length) (hs : stA p k = false) (hq : isAt p k 63 = false) (hb : isAt p k 91 = false ∨ endI p k = -1) : fstAt p k = (.test (p[k].1 == ·), 1) := by
  rw [stA_is p k h, isAt_in p k 42 h] at hs
  rw [isAt_in p k 63 h] at hq
  rw [isAt_in p k 91 h] at hb
  rw [fstAt_is p k h]
  unfold fstD
  rw [if_neg (by simp [hs]), if_neg (by simp [hq])]
  split
  · rename_i h3
    rcases hb with hb | hb
    · rw [hb] at h3
      cases h3
    · have hsd : setD (p[k] :: p.drop (k + 1)) = none := by
        rw [← List.drop_eq_getElem_cons h]
        unfold setD
        rw [frm_at p k h, List.drop_drop]
        split
        · rfl
        · unfold endI at hb
          rw [show k + (fro p k + 1) = k + fro p k + 1 by omega]
          split at hb
          · omega
          · rename_i he
            rw [he]
      rw [hsd]
  · rfl
theorem fst_set (p : List Ch) (k e : Nat) (h : k < p.length) (hs : stA p k = false) (hq : isAt p k 63 = false) (hb : isAt p k 91 = true) (he : endI p k = (e : Int)) :
    fstAt p k = (.test fun c => spn c ((p.take e).drop (k + fro p k)) != ngd p k, e + 1 - k) := by
  rw [stA_is p k h, isAt_in p k 42 h] at hs
  rw [isAt_in p k 63 h] at hq
  rw [isAt_in p k 91 h] at hb
  rw [fstAt_is p k h]
  unfold fstD
  rw [if_neg (by simp [hs]), if_neg (by simp [hq]), if_pos hb]
  have hsd : setD (p[k] :: p.drop (k + 1)) = some (fun c => spn c ((p.take e).drop (k + fro p k)) != ngd p k, e + 1 - k) := by
    rw [← List.drop_eq_getElem_cons h]
    have hbd := (endI_bd p k)
    rw [he] at hbd
    unfold endI at he
    split at he
    · rename_i n hn
      have hn' : e = k + fro p k + 1 + n := by omega
      have hlt := ends_lt hn
      rw [List.length_drop] at hlt
      have hle : ¬ (p.drop k).length ≤ frm (p.drop k) := by
        rw [frm_at p k h, List.length_drop]
        omega
      unfold setD
      rw [if_neg hle, frm_at p k h, List.drop_drop, show k + (fro p k + 1) = k + fro p k + 1 by omega, hn]
      simp only [Option.some.injEq, Prod.mk.injEq]
      refine ⟨?_, by omega⟩
      funext c
      rw [ngd_at p k h, List.take_drop, List.drop_drop, show k + (fro p k + 1 + n) = e by omega]
    · omega
  rw [hsd]

/-! PROGRAM -/
end Go.Proofs.YtmjdlilmackneaaDoor

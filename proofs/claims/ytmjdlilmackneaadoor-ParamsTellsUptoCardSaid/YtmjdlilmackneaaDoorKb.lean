/- params.Kind: what it tells; conditions: as each theorem states. -/
import Derived.Test.YtmjdlilmackneaaDoorKa
namespace Go.Proofs.YtmjdlilmackneaaDoor
open Go.RowKit

/-- What an operator does, by the lists of the kinds. -/
def kindI (op : ByteArray) : Int := match (List.range 7).find? (isK op ·) with
  | some i => (i : Int) + 1
  | none => 0
theorem kindI_hit {op : ByteArray} {k : Nat} (hk : k < 7) (h : isK op k = true) (hb : ∀ j, j < k → isK op j = false) : kindI op = (k : Int) + 1 := by
  have : (List.range 7).find? (isK op ·) = some k := by
    rw [List.find?_range_eq_some]
    exact ⟨h, by simp; omega, fun j hj => by simp [hb j hj]⟩
  unfold kindI
  rw [this]
theorem kindI_miss {op : ByteArray} (hb : ∀ j, j < 7 → isK op j = false) : kindI op = 0 := by
  have : (List.range 7).find? (isK op ·) = none := by
    rw [List.find?_range_eq_none]
    intro j hj
    simp [hb j hj]
  unfold kindI
  rw [this]
theorem kindI_bd (op : ByteArray) : 0 ≤ kindI op ∧ kindI op ≤ 7 := by
  unfold kindI
  split
  · rename_i i h
    have := List.mem_of_find?_eq_some h
    rw [List.mem_range] at this
    omega
  · omega

set_option maxRecDepth 100000 in
set_option maxHeartbeats 2000000 in
theorem ifstr_any (op : ByteArray) (g bo : Nat) (w : World) (ht : Tab w) (ho : w.cell? ⟨bo, 0, none⟩ = some (.string op)) (hc : ∀ j, j < 7 → w.cell? ⟨g, 0 + j, none⟩ = some (.string (kstr j))) :
    Calls Tryd.prog 25 #[.slice (some ⟨g, 0, none⟩) 7 7, .func (.func 27) #[] #[.pointer (some ⟨bo, 0, none⟩)]] w fun e w' => e = .returned (.int .i64 (kindI op - 1)) ∧ Below w.heap.size w w' := by
  have hob := World.block_lt_of_cell? w _ ho
  have hgb := World.block_lt_of_cell? w _ (hc 0 (by decide))
  have HT := Lib.hid ht
  have HO := Lib.hid ho
  have HC := Lib.hid hc
  clear ht ho hc
  go_enter Tryd.func25, Tryd.ntmps25
  go_wp2_with fail
  go_loopw [8] (fun i wr => ∃ k : Nat, k ≤ 7 ∧ i = .int .i64 k ∧ Hid (∀ j, j < k → isK op j = false) ∧ Hid (Below w.heap.size w wr)) (fun i _ => 7 - (intOf i).toNat)
  case atStart => exact ⟨0, by decide, rfl, fun j h => by omega, Below.refl _ _⟩
  case round =>
    obtain ⟨k, hk, rfl, hz, hb⟩ := hrel
    by_cases hlt : k < 7
    · have d0 := (hb.out.cell (p := ⟨g, 0 + k, none⟩) hgb).trans (HC.out k hlt)
      rw [Nat.zero_add] at d0
      obtain ⟨r, hr⟩ : ∃ r, r = isK op k := ⟨_, rfl⟩
      have HK : Hid (Calls Tryd.prog 27 #[.string (kstr k), .pointer (some ⟨bo, 0, none⟩)] wr fun e w' => e = .returned (.bool r) ∧ Below wr.heap.size wr w') := hr ▸ kclos_any op bo k wr hlt (HT.out.below hb.out) ((hb.out.cell (p := ⟨bo, 0, none⟩) hob).trans HO.out)
      have HR := Lib.hid hr
      clear hr
      obtain ⟨s, hs⟩ : ∃ s, s = kstr k := ⟨_, rfl⟩
      rw [← hs] at d0 HK
      clear hs
      have k0 : (0 : Int) ≤ (k : Int) := Int.natCast_nonneg _
      have k1 : (k : Int) < 7 := by omega
      go_wp2_with fail
      refine HK.out.mono ?_
      rintro e w1 ⟨rfl, hb1⟩
      have HB1 := Lib.hid (hb.out.trans (hb1.mono hb.out.size))
      clear hb1
      cases r
      · go_wp2_with fail
        go_round
        case rel =>
          refine ⟨k + 1, by omega, by go_num, fun j hj => ?_, HB1.out⟩
          by_cases e' : j = k
          · subst e'
            exact HR.out.symm
          · exact hz.out j (by omega)
        case measure => simp [intOf]; omega
      · go_wp2_with fail
        go_ret
        refine ⟨ret_i ?_, HB1.out⟩
        rw [kindI_hit hlt HR.out.symm hz.out]
        omega
    · go_wp2_with fail
      go_ret
      obtain rfl : k = 7 := by omega
      refine ⟨ret_i ?_, hb.out⟩
      rw [kindI_miss hz.out]
      rfl

set_option maxRecDepth 100000 in
set_option maxHeartbeats 2000000 in
theorem kind_any (op : ByteArray) (w : World) (ht : Tab w) :
    Calls Tryd.prog 15 #[.string op] w fun e w' => e = .returned (.int .i64 (kindI op)) ∧ Below w.heap.size w w' := by
  obtain ⟨W, hW⟩ : ∃ W, W = (w.alloc (.cells #[.string op] 9)).alloc (.cells #[.string (kstr 0), .string (kstr 1), .string (kstr 2), .string (kstr 3), .string (kstr 4), .string (kstr 5), .string (kstr 6)] 9) := ⟨_, rfl⟩
  have hb : Below w.heap.size w W := by
    rw [hW]
    exact ((Below.refl _ _).alloc (Nat.le_refl _) _).alloc (by simp) _
  have hI : Hid (Calls Tryd.prog 25 #[.slice (some ⟨w.heap.size + 1, 0, none⟩) 7 7, .func (.func 27) #[] #[.pointer (some ⟨w.heap.size, 0, none⟩)]] W fun e w' => e = .returned (.int .i64 (kindI op - 1)) ∧ Below W.heap.size W w') := by
    refine ifstr_any op (w.heap.size + 1) w.heap.size W (ht.below hb) ?_ ?_
    · rw [hW]
      exact World.cell?_alloc2_first (w := w) #[.string op] 9 _ 0
    · intro j hj
      rw [hW, Nat.zero_add, World.cell?_alloc2_new]
      match j, hj with
      | 0, _ => rfl
      | 1, _ => rfl
      | 2, _ => rfl
      | 3, _ => rfl
      | 4, _ => rfl
      | 5, _ => rfl
      | 6, _ => rfl
  have HB := Lib.hid hb
  have hbd := kindI_bd op
  obtain ⟨r, hr⟩ : ∃ r, r = kindI op := ⟨_, rfl⟩
  rw [← hr] at hI hbd ⊢
  obtain ⟨b1, b2⟩ := hbd
  simp only [kstr] at hW
  clear hr hb ht
  go_enter Tryd.func15, Tryd.ntmps15
  go_wp2_with (go_at_call 26; go_in)
  rw [← hW]
  clear hW
  refine hI.out.mono ?_
  rintro e w1 ⟨rfl, hb1⟩
  have HB1 := Lib.hid (HB.out.trans (hb1.mono HB.out.size))
  clear hb1
  go_wp2_with fail
  go_ret
  refine ⟨ret_i ?_, HB1.out⟩
  omega
end Go.Proofs.YtmjdlilmackneaaDoor

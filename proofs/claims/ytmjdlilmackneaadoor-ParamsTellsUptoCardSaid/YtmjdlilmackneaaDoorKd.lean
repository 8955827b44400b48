/- params.Absent; the walk of ParamsAbsent; conditions: as each theorem states. -/
import Derived.Test.YtmjdlilmackneaaDoorKc
namespace Go.Proofs.YtmjdlilmackneaaDoor
open Go.RowKit

set_option maxRecDepth 100000 in
set_option maxHeartbeats 1000000 in
theorem absent_no (op s : ByteArray) (set : Bool) (w : World) (ht : Tab w) (hk : ¬ (1 ≤ kindI op ∧ kindI op ≤ 4)) :
    Calls Tryd.prog 13 #[.string op, .bool set, .string s] w fun e w' => e = .returned (.bool false) ∧ Below w.heap.size w w' := by
  have hbd := kindI_bd op
  obtain ⟨r, hr⟩ : ∃ r, r = kindI op := ⟨_, rfl⟩
  have HK : Hid (Calls Tryd.prog 15 #[.string op] w fun e w' => e = .returned (.int .i64 r) ∧ Below w.heap.size w w') := hr ▸ kind_any op w ht
  rw [← hr] at hk hbd
  clear hr ht
  by_cases h1 : r < 1
  · have g1 : decide (r < 1) = true := decide_eq_true h1
    clear hk hbd
    go_enter Tryd.func13, Tryd.ntmps13
    go_wp2_with fail
    refine HK.out.mono ?_
    rintro e w1 ⟨rfl, hb⟩
    have HB := Lib.hid hb
    clear hb
    go_wp2_with fail
    go_ret
    exact ⟨rfl, HB.out⟩
  · have g1 : decide (r < 1) = false := decide_eq_false h1
    have g2 : decide (4 < r) = true := decide_eq_true (by omega)
    clear hk hbd h1
    go_enter Tryd.func13, Tryd.ntmps13
    go_wp2_with fail
    refine HK.out.mono ?_
    rintro e w1 ⟨rfl, hb⟩
    have HB := Lib.hid hb
    clear hb
    go_wp2_with fail
    go_ret
    exact ⟨rfl, HB.out⟩

set_option maxRecDepth 100000 in
set_option maxHeartbeats 1000000 in
theorem absent_yes (op s : ByteArray) (set : Bool) (w : World) (ht : Tab w) (hk : 1 ≤ kindI op ∧ kindI op ≤ 4) (h0 : 0 < op.size) :
    Calls Tryd.prog 13 #[.string op, .bool set, .string s] w fun e w' => e = .returned (.bool (!set || ((op[0] == 58) && s.toList.isEmpty))) ∧ Below w.heap.size w w' := by
  obtain ⟨r, hr⟩ : ∃ r, r = kindI op := ⟨_, rfl⟩
  have HK : Hid (Calls Tryd.prog 15 #[.string op] w fun e w' => e = .returned (.int .i64 r) ∧ Below w.heap.size w w') := hr ▸ kind_any op w ht
  rw [← hr] at hk
  clear hr ht
  obtain ⟨k1, k2⟩ := hk
  have g1 : decide (r < 1) = false := decide_eq_false (by omega)
  have g2 : decide (4 < r) = false := decide_eq_false (by omega)
  have i1 : (0 : Int) < (op.size : Int) := by omega
  have hx : ((op[0].toNat : Int) == 58) = (op[0] == 58) := by
    rw [Bool.eq_iff_iff, beq_iff_eq, beq_iff_eq]
    exact ⟨fun e => UInt8.toNat_inj.1 (by show op[0].toNat = 58; omega), fun e => by rw [e]; rfl⟩
  obtain ⟨q, hq⟩ : ∃ q, q = (op[0] == 58) := ⟨_, rfl⟩
  rw [← hq] at hx ⊢
  obtain ⟨z, hz⟩ : ∃ z, z = s.toList.isEmpty := ⟨_, rfl⟩
  have hz' := hz.symm
  rw [← hz]
  clear hq hz
  cases set <;> cases q <;> cases z
  all_goals
    go_enter Tryd.func13, Tryd.ntmps13
    go_wp2_with fail
    refine HK.out.mono ?_
    rintro e w1 ⟨rfl, hb⟩
    have HB := Lib.hid hb
    clear hb
    go_wp2_with fail
    go_ret
    exact ⟨rfl, HB.out⟩

def opk : Nat → ByteArray
  | 0 => ⟨#[45]⟩
  | 1 => ⟨#[61]⟩
  | 2 => ⟨#[63]⟩
  | _ => ⟨#[43]⟩
def opc : Nat → ByteArray
  | 0 => ⟨#[58, 45]⟩
  | 1 => ⟨#[58, 61]⟩
  | 2 => ⟨#[58, 63]⟩
  | _ => ⟨#[58, 43]⟩
theorem opc_is (j : Nat) (h : j < 4) : (⟨#[58]⟩ : ByteArray) ++ opk j = opc j := by
  match j, h with
  | 0, _ => rfl
  | 1, _ => rfl
  | 2, _ => rfl
  | 3, _ => rfl
theorem opk_kind (j : Nat) (h : j < 4) : kindI (opk j) = (j : Int) + 1 ∧ kindI (opc j) = (j : Int) + 1 := by
  match j, h with
  | 0, _ => decide
  | 1, _ => decide
  | 2, _ => decide
  | 3, _ => decide

set_option maxRecDepth 100000 in
set_option maxHeartbeats 2000000 in
theorem absent_walk (s : ByteArray) (set : Bool) (w : World) (ht : Tab w) :
    Calls Tryd.prog 7 #[.string s, .bool set] w fun e w' => e = .returned (.bool true) ∧ Below w.heap.size w w' := by
  have HA1 : Hid (∀ j V, j < 4 → Tab V → Calls Tryd.prog 13 #[.string (opk j), .bool set, .string s] V fun e w' => e = .returned (.bool !set) ∧ Below V.heap.size V w') := fun j V hj hV => by
    have h1 := (opk_kind j hj).1
    have hsz : 0 < (opk j).size := by match j, hj with | 0, _ => decide | 1, _ => decide | 2, _ => decide | 3, _ => decide
    have := absent_yes (opk j) s set V hV (by rw [h1]; omega) hsz
    have h2 : ((opk j)[0] == 58) = false := by match j, hj with | 0, _ => rfl | 1, _ => rfl | 2, _ => rfl | 3, _ => rfl
    rw [h2, Bool.false_and, Bool.or_false] at this
    exact this
  have HA2 : Hid (∀ j V, j < 4 → Tab V → Calls Tryd.prog 13 #[.string (opc j), .bool set, .string s] V fun e w' => e = .returned (.bool (!set || s.toList.isEmpty)) ∧ Below V.heap.size V w') := fun j V hj hV => by
    have h1 := (opk_kind j hj).2
    have := absent_yes (opc j) s set V hV (by rw [h1]; omega) (by match j, hj with | 0, _ => decide | 1, _ => decide | 2, _ => decide | 3, _ => decide)
    match j, hj with
    | 0, _ => exact this
    | 1, _ => exact this
    | 2, _ => exact this
    | 3, _ => exact this
  have HK1 : Hid (∀ j V, j < 4 → Tab V → Calls Tryd.prog 15 #[.string (opk j)] V fun e w' => e = .returned (.int .i64 ((j : Int) + 1)) ∧ Below V.heap.size V w') := fun j V hj hV => by
    rw [← (opk_kind j hj).1]
    exact kind_any _ V hV
  have HK2 : Hid (∀ j V, j < 4 → Tab V → Calls Tryd.prog 15 #[.string (opc j)] V fun e w' => e = .returned (.int .i64 ((j : Int) + 1)) ∧ Below V.heap.size V w') := fun j V hj hV => by
    rw [← (opk_kind j hj).2]
    exact kind_any _ V hV
  have HOP : Hid (∀ j, j < 4 → (⟨#[58]⟩ : ByteArray) ++ opk j = opc j) := opc_is
  have HT := Lib.hid ht
  clear ht
  go_enter Tryd.func7, Tryd.ntmps7
  go_wp2_with fail
  refine (alive18_any _ HT.out).mono ?_
  rintro e w1 ⟨rfl, hb⟩
  have HT1 := Lib.hid (HT.out.below hb)
  have HB := Lib.hid hb
  clear hb
  go_wp2_with fail
  obtain ⟨W4, hW4⟩ : ∃ W4, W4 = w1.alloc (.cells #[.string ⟨#[45]⟩, .string ⟨#[61]⟩, .string ⟨#[63]⟩, .string ⟨#[43]⟩] 9) := ⟨_, rfl⟩
  have hb4 : Below w1.heap.size w1 W4 := by rw [hW4]; exact (Below.refl _ _).alloc (Nat.le_refl _) _
  have hz4 : w1.heap.size < W4.heap.size := by rw [hW4]; simp
  have hcs : Hid (∀ j, j < 4 → W4.cell? ⟨w1.heap.size, j, none⟩ = some (.string (opk j))) := fun j hj => by
    rw [hW4, World.cell?_alloc_new]
    match j, hj with
    | 0, _ => rfl
    | 1, _ => rfl
    | 2, _ => rfl
    | 3, _ => rfl
  have HT4 := Lib.hid (HT1.out.below hb4)
  have HB4 := Lib.hid (HB.out.trans (hb4.mono HB.out.size))
  rw [← hW4]
  clear hW4 hb4
  go_loopw [6] (fun i wr => ∃ j : Nat, j ≤ 4 ∧ i = .int .i64 j ∧ Hid (Below W4.heap.size W4 wr)) (fun i _ => 4 - (intOf i).toNat)
  case atStart => exact ⟨0, by decide, rfl, Below.refl _ _⟩
  case round =>
    obtain ⟨j, hj, rfl, hb⟩ := hrel
    have hbw := Lib.hid (HB4.out.trans (hb.out.mono HB4.out.size))
    by_cases hlt : j < 4
    · have d0 := (hb.out.cell (p := ⟨w1.heap.size, j, none⟩) hz4).trans (hcs.out j hlt)
      obtain ⟨o, ho⟩ : ∃ o, o = opk j := ⟨_, rfl⟩
      obtain ⟨c, hc⟩ : ∃ c, c = opc j := ⟨_, rfl⟩
      have hoc : (⟨#[58]⟩ : ByteArray) ++ o = c := by rw [ho, hc]; exact HOP.out j hlt
      have hol : o.size ≤ 8 := by rw [ho]; match j, hlt with | 0, _ => decide | 1, _ => decide | 2, _ => decide | 3, _ => decide
      have A1 : Hid (∀ V, Tab V → Calls Tryd.prog 13 #[.string o, .bool set, .string s] V fun e w' => e = .returned (.bool !set) ∧ Below V.heap.size V w') := fun V hV => ho ▸ HA1.out j V hlt hV
      have A2 : Hid (∀ V, Tab V → Calls Tryd.prog 13 #[.string c, .bool set, .string s] V fun e w' => e = .returned (.bool (!set || s.toList.isEmpty)) ∧ Below V.heap.size V w') := fun V hV => hc ▸ HA2.out j V hlt hV
      have A3 : Hid (∀ V, Tab V → Calls Tryd.prog 15 #[.string o] V fun e w' => e = .returned (.int .i64 ((j : Int) + 1)) ∧ Below V.heap.size V w') := fun V hV => ho ▸ HK1.out j V hlt hV
      have A4 : Hid (∀ V, Tab V → Calls Tryd.prog 15 #[.string c] V fun e w' => e = .returned (.int .i64 ((j : Int) + 1)) ∧ Below V.heap.size V w') := fun V hV => hc ▸ HK2.out j V hlt hV
      rw [← ho] at d0
      have d1 := d0
      have HD0 := Lib.hid d0
      have hzr : w1.heap.size < wr.heap.size := Nat.lt_of_lt_of_le hz4 hb.out.size
      have j0 : (0 : Int) ≤ (j : Int) := Int.natCast_nonneg _
      have j1 : (j : Int) < 4 := by omega
      clear ho hc d1
      have HTr := Lib.hid (HT4.out.below hb.out)
      obtain ⟨z, hz⟩ : ∃ z, z = s.toList.isEmpty := ⟨_, rfl⟩
      have hz' := hz.symm
      rw [← hz] at A2
      clear hz
      have hn1 : (((j : Int) + 1) != ((j : Int) + 1)) = false := by simp
      cases set <;> cases z
      all_goals
        go_wp2_with fail
        refine (A1.out _ HTr.out).mono ?_
        rintro e x1 ⟨rfl, hx1⟩
        have E1 := (hx1.cell (p := ⟨w1.heap.size, j, none⟩) hzr).trans HD0.out
        have HE1 := Lib.hid E1
        have HT1' := Lib.hid (HTr.out.below hx1)
        have HX1 := Lib.hid (hb.out.trans (hx1.mono hb.out.size))
        have hz1 : w1.heap.size < x1.heap.size := Nat.lt_of_lt_of_le hzr hx1.size
        clear hx1
        go_wp2_with fail
        refine (A2.out _ HT1'.out).mono ?_
        rintro e x2 ⟨rfl, hx2⟩
        have E2 := (hx2.cell (p := ⟨w1.heap.size, j, none⟩) hz1).trans HE1.out
        have HE2 := Lib.hid E2
        have HT2' := Lib.hid (HT1'.out.below hx2)
        have HX2 := Lib.hid (HX1.out.trans (hx2.mono HX1.out.size))
        have hz2 : w1.heap.size < x2.heap.size := Nat.lt_of_lt_of_le hz1 hx2.size
        clear hx2
        go_wp2_with fail
        refine (A3.out _ HT2'.out).mono ?_
        rintro e x3 ⟨rfl, hx3⟩
        have E3 := (hx3.cell (p := ⟨w1.heap.size, j, none⟩) hz2).trans HE2.out
        have HT3' := Lib.hid (HT2'.out.below hx3)
        have HX3 := Lib.hid (HX2.out.trans (hx3.mono HX2.out.size))
        clear hx3
        go_wp2_with fail
        refine (A4.out _ HT3'.out).mono ?_
        rintro e x4 ⟨rfl, hx4⟩
        have HX4 := Lib.hid (HX3.out.trans (hx4.mono HX3.out.size))
        clear hx4
        go_wp2_with fail
        go_round
        case rel => exact ⟨j + 1, by omega, by go_num, HX4.out⟩
        case measure => simp [intOf]; omega
    · go_wp2_with fail
      go_ret
      exact ⟨rfl, hbw.out⟩
end Go.Proofs.YtmjdlilmackneaaDoor

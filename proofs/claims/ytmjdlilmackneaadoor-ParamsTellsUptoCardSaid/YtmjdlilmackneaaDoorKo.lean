/- cowrieref03.start, reach: what they tell; conditions: as each theorem states. -/
import Derived.Test.YtmjdlilmackneaaDoorKn
import Derived.Deep.OwnRows
namespace Go.Proofs.YtmjdlilmackneaaDoor
open Go.RowKit

/-- A row of truths. -/
abbrev Trs (w : World) (g n : Nat) (f : Nat → Bool) : Prop := w.rowIs g 4 (n + 1) (fun j => .bool (f j))
theorem Trs.below {w w' : World} {g n : Nat} {f : Nat → Bool} (h : Trs w g n f) (hb : Below w.heap.size w w') : Trs w' g n f :=
  World.rowIs.of_block h (hb.block g h.lt)
theorem Trs.setTrue {w : World} {g n : Nat} {f : Nat → Bool} (h : Trs w g n f) (k : Nat) : Trs (w.setCell ⟨g, k, none⟩ (.bool true)) g n (upd f k) :=
  (World.rowIs.set h k (.bool true)).congr fun j _ => by unfold upd; split <;> rfl
set_option maxRecDepth 100000 in
theorem info_bool : (Tryd.prog.info? 4).map (fun i => (i.zero, i.size, i.bytes)) = some (some (.bool false), 1, 1) := by kernel_rfl
theorem made_false {w : World} {n : Nat} : Trs (w.alloc (.cells (madeCells #[.bool false] (n + 1)) 4)) w.heap.size n (fun _ => false) := World.rowIs_made w (.bool false) (n + 1) 4

set_option maxRecDepth 100000 in
set_option maxHeartbeats 2000000 in
theorem start_any (ao : Option Addr) (m cap : Nat) (w : World) (hm : m ≤ 4194304) :
    Calls Tryd.prog 32 #[.slice ao m cap] w fun e w' => e = .returned (.slice (some ⟨w.heap.size, 0, none⟩) (m + 1) (m + 1)) ∧ Trs w' w.heap.size m start0 ∧ Below w.heap.size w w' := by
  have hmk := run_make_row' (P := Tryd.prog) 50 4 (.bool false) 1 Tryd.underlying50 info_bool rfl .i64 .i64 (m + 1) (by omega) (by omega)
  push_cast at hmk
  obtain ⟨W, hW⟩ : ∃ W, W = w.alloc (.cells (madeCells #[.bool false] (m + 1)) 4) := ⟨_, rfl⟩
  have hr : Trs W w.heap.size m (fun _ => false) := hW ▸ made_false
  have hc0 : W.cell? ⟨w.heap.size, 0, none⟩ = some (.bool false) := hr.cell (by omega)
  have hf0 : W.frozen? ⟨w.heap.size, 0, none⟩ = false := hr.frozen 0
  have hmk' := hmk w
  rw [← hW] at hmk'
  have HR := Lib.hid hr
  have HB : Hid (Below w.heap.size w W) := hW ▸ (Below.refl _ _).alloc (Nat.le_refl _) _
  clear hmk hr hW
  go_enter Tryd.func32, Tryd.ntmps32
  go_wp2_with fail
  go_ret
  refine ⟨by simp, (HR.out.setTrue 0).congr fun j _ => ?_, HB.out.setCell (p := ⟨w.heap.size, 0, none⟩) (Nat.le_refl _) _⟩
  unfold upd start0
  by_cases h : j = 0
  · simp [h]
  · simp [h]

set_option maxRecDepth 100000 in
set_option maxHeartbeats 2000000 in
theorem reach_any (p : List Ch) (v : Value) (g : Nat) (l : Nat → Bool) (w0 w : World) (hp : PatOf p v w0) (hb : Below w0.heap.size w0 w) (hg : w0.heap.size ≤ g) (hr : Trs w g p.length l) (hm : p.length ≤ 4194304) :
    Calls Tryd.prog 31 #[v, .slice (some ⟨g, 0, none⟩) (p.length + 1) (p.length + 1)] w fun e w' => e = .returned (.slice (some ⟨g, 0, none⟩) (p.length + 1) (p.length + 1)) ∧ Trs w' g p.length (rcF p l p.length) ∧ Below w0.heap.size w0 w' := by
  have HIS : Hid (∀ (j : Nat) V, j < p.length → PatOf p v V → Calls Tryd.prog 33 #[v, .int .i64 (j : Int), .int .u8 42] V fun e w' => e = .returned (.bool (stA p j)) ∧ Below V.heap.size V w') := fun j V hj hV => by
    rw [stA_is p j hj]
    exact is_any p v j 42 V hV hm (by omega)
  have HP := Lib.hid hp
  obtain ⟨ao, b, o, cap, rfl, _⟩ := hp
  obtain ⟨m, hmm⟩ : ∃ m, m = p.length := ⟨_, rfl⟩
  have hm' : m ≤ 4194304 := by omega
  rw [← hmm] at HP HIS hr ⊢
  have HB := Lib.hid hb
  have HR := Lib.hid hr
  have HM := Lib.hid hmm
  clear hb hr hmm hm
  go_enter Tryd.func31, Tryd.ntmps31
  go_wp2_with fail
  go_loopw [5] (fun i wr => ∃ k : Nat, k ≤ m ∧ i = .int .i64 k ∧ Hid (Trs wr g m (rcF p l k)) ∧ Hid (Below w0.heap.size w0 wr)) (fun i _ => m - (intOf i).toNat)
  case atStart => exact ⟨0, Nat.zero_le _, rfl, HR.out, HB.out⟩
  case round =>
    obtain ⟨k, hk, rfl, ht, hb⟩ := hrel
    have HPr := Lib.hid (HP.out.below hb.out)
    by_cases hlt : k < m
    · have d0 := ht.out.cell (i := k) (by omega)
      have d1 := ht.out.cell (i := k + 1) (by omega)
      have f1 := ht.out.frozen (k + 1)
      have hgz : g < wr.heap.size := ht.out.lt
      obtain ⟨a, ha⟩ : ∃ a, a = rcF p l k k := ⟨_, rfl⟩
      rw [← ha] at d0
      obtain ⟨a1, ha1⟩ : ∃ a, a = rcF p l k (k + 1) := ⟨_, rfl⟩
      rw [← ha1] at d1
      obtain ⟨r, hr⟩ : ∃ r, r = stA p k := ⟨_, rfl⟩
      have HC : Hid (∀ V, PatOf p (.slice ao m cap) V → Calls Tryd.prog 33 #[.slice ao m cap, .int .i64 (k : Int), .int .u8 42] V fun e w' => e = .returned (.bool r) ∧ Below V.heap.size V w') := fun V hV => hr ▸ HIS.out k V hlt hV
      have HS : Hid (rcF p l (k + 1) = if a && r then upd (rcF p l k) (k + 1) else rcF p l k) := by
        show _ = _
        rw [ha, hr]
        rfl
      have hn1 : (k : Int) + 1 < (m : Int) + 1 := by omega
      clear ha ha1 hr
      cases a
      · go_wp2_with fail
        go_roundw
        case rel => exact ⟨k + 1, by omega, by go_num, HS.out ▸ ht.out, hb.out⟩
        case measure => simp [intOf]; omega
      · have HD1 := Lib.hid d1
        have HF1 := Lib.hid f1
        clear d1 f1
        go_wp2_with fail
        refine (HC.out _ HPr.out).mono ?_
        rintro e w1 ⟨rfl, hb1⟩
        have e1 := (hb1.cell (p := ⟨g, k + 1, none⟩) hgz).trans HD1.out
        have e2 := (hb1.frozen (p := ⟨g, k + 1, none⟩) hgz).trans HF1.out
        have HT1 := Lib.hid (ht.out.below hb1)
        have HB1 := Lib.hid (hb.out.trans (hb1.mono hb.out.size))
        clear hb1
        cases r
        · go_wp2_with fail
          go_roundw
          case rel => exact ⟨k + 1, by omega, by go_num, HS.out ▸ HT1.out, HB1.out⟩
          case measure => simp [intOf]; omega
        · go_wp2_with fail
          go_roundw
          case rel => exact ⟨k + 1, by omega, by go_num, HS.out ▸ HT1.out.setTrue (k + 1), HB1.out.setCell (p := ⟨g, k + 1, none⟩) hg _⟩
          case measure => simp [intOf]; omega
    · go_wp2_with fail
      go_ret
      obtain rfl : k = m := by omega
      exact ⟨by simp, ht.out, hb.out⟩
end Go.Proofs.YtmjdlilmackneaaDoor

/- Contracts of the functions of package fds (struct values, boxes in memory) over the seat, stated with exact worlds or with Below; no conditions beyond what each theorem states. -/
import Derived.Test.YtnpjiceibcfblaaFdsB
import Derived.Lib.Hide
import Derived.Deep.DeepCutAuto
import Derived.Deep.CutBlock
import Derived.Deep.Light
import Derived.Deep.RegionWith
namespace Go.Proofs.Ytnpjiceibcfblaa
open Go.RowKit


theorem with_cell {B : Nat} {W w2 : World} (k : Nat) (hb : Below B W w2) {G : Prop} (h : k < B)
    (g : (∀ o, w2.cell? ⟨k, o, none⟩ = W.cell? ⟨k, o, none⟩) → (∀ o, w2.frozen? ⟨k, o, none⟩ = W.frozen? ⟨k, o, none⟩) → G) : G :=
  g (fun o => hb.cell (p := ⟨k, o, none⟩) h) (fun o => hb.frozen (p := ⟨k, o, none⟩) h)


theorem fars {g n : Nat} (h : g < n) : g < n ∧ (∀ a0 : Nat, g < n + a0) ∧ (∀ a0 a1 : Nat, g < n + a0 + a1) ∧ (∀ a0 a1 a2 : Nat, g < n + a0 + a1 + a2) ∧ (∀ a0 a1 a2 a3 : Nat, g < n + a0 + a1 + a2 + a3) ∧ (∀ a0 a1 a2 a3 a4 : Nat, g < n + a0 + a1 + a2 + a3 + a4) ∧ (∀ a0 a1 a2 a3 a4 a5 : Nat, g < n + a0 + a1 + a2 + a3 + a4 + a5) ∧ (∀ a0 a1 a2 a3 a4 a5 a6 : Nat, g < n + a0 + a1 + a2 + a3 + a4 + a5 + a6) ∧ (∀ a0 a1 a2 a3 a4 a5 a6 a7 : Nat, g < n + a0 + a1 + a2 + a3 + a4 + a5 + a6 + a7) ∧ (∀ a0 a1 a2 a3 a4 a5 a6 a7 a8 : Nat, g < n + a0 + a1 + a2 + a3 + a4 + a5 + a6 + a7 + a8) ∧ (∀ a0 a1 a2 a3 a4 a5 a6 a7 a8 a9 : Nat, g < n + a0 + a1 + a2 + a3 + a4 + a5 + a6 + a7 + a8 + a9) ∧ (∀ a0 a1 a2 a3 a4 a5 a6 a7 a8 a9 a10 : Nat, g < n + a0 + a1 + a2 + a3 + a4 + a5 + a6 + a7 + a8 + a9 + a10) ∧ (∀ a0 a1 a2 a3 a4 a5 a6 a7 a8 a9 a10 a11 : Nat, g < n + a0 + a1 + a2 + a3 + a4 + a5 + a6 + a7 + a8 + a9 + a10 + a11) ∧ (∀ a0 a1 a2 a3 a4 a5 a6 a7 a8 a9 a10 a11 a12 : Nat, g < n + a0 + a1 + a2 + a3 + a4 + a5 + a6 + a7 + a8 + a9 + a10 + a11 + a12) ∧ (∀ a0 a1 a2 a3 a4 a5 a6 a7 a8 a9 a10 a11 a12 a13 : Nat, g < n + a0 + a1 + a2 + a3 + a4 + a5 + a6 + a7 + a8 + a9 + a10 + a11 + a12 + a13) := by
  refine ⟨h, ?_, ?_, ?_, ?_, ?_, ?_, ?_, ?_, ?_, ?_, ?_, ?_, ?_, ?_⟩ <;> intros <;> omega

set_option maxRecDepth 100000 in
set_option maxHeartbeats 4000000 in
theorem both_law (s : ByteArray) (n : Int) (w : World) : Calls Try.prog 4 #[.string s, .int .i64 n] w fun e w' => e = .returned (.bool true) ∧ Below w.heap.size w w' := by
  have hfl : ∀ (i o : Int) (p : ByteArray) (e : Int) (q : ByteArray) (w : World), (Instr.field 26 (.agg #[.int .i64 i, .int .i64 o, .string p, .int .i64 e, .string q]) 2).run Try.prog w = .ok (.agg #[.int .i64 e, .string q]) w := fun _ _ _ _ _ _ => by kernel_rfl
  have hfm : ∀ (e : Int) (q : ByteArray) (w : World), (Instr.field 24 (.agg #[.int .i64 e, .string q]) 0).run Try.prog w = .ok (.int .i64 e) w := fun _ _ _ => by kernel_rfl
  go_enter Try.func4, Try.ntmps4
  go_upto_region 4 with (first | (go_at_call 8; (with_reducible refine (alive_any _).mono ?_); rintro e w' ⟨rfl, hb⟩; have hz := hb.size; have HB := Lib.hid hb; clear hb) | (go_at_call 10; ((with_reducible refine (first_any _).mono ?_); rintro e w' ⟨rfl, rfl⟩)))
  go_cut [6] (fun s6 wx => ∃ g : Nat, s6 = .pointer (some ⟨g, 0, none⟩) ∧ g < wx.heap.size ∧ w'.heap.size < g ∧ Below w.heap.size w wx ∧ wx.cell? ⟨w'.heap.size, 0, none⟩ = some (.int .i64 n) ∧ wx.cell? ⟨w'.heap.size, 1, none⟩ = some (.string s) ∧
    wx.cell? ⟨g, 0, none⟩ = some (.int .i64 0) ∧ wx.cell? ⟨g, 1, none⟩ = some (.int .i64 n) ∧ wx.cell? ⟨g, 2, none⟩ = some (.string s) ∧ wx.cell? ⟨g, 3, none⟩ = some (.int .i64 n) ∧ wx.cell? ⟨g, 4, none⟩ = some (.string s))
  case first =>
    go_region_with (first | (go_at_call 10; ((with_reducible refine (first_any _).mono ?_); rintro e w' ⟨rfl, rfl⟩)) | (go_at_call 13; (with_reducible refine (both_tab _ _ _ _ _ _ _ _).mono ?_); rintro e w2 ⟨rfl, hb2⟩; (first | (refine with_cell (w'.heap.size) hb2 ?_ ?_; (focus (first | (simp; done) | (simp; omega))); intro hk0 hf0) | skip); (first | (refine with_cell (w'.heap.size + 1) hb2 ?_ ?_; (focus (first | (simp; done) | (simp; omega))); intro hk1 hf1) | skip); (first | (refine with_cell (w'.heap.size + 1 + 1) hb2 ?_ ?_; (focus (first | (simp; done) | (simp; omega))); intro hk2 hf2) | skip); have hz2 := hb2.size; simp at hz2; have hz3 : w'.heap.size < w2.heap.size := (by omega); have HB2 := Lib.hid hb2; clear hb2))
    all_goals
      go_wp2_with fail
      go_meet
      refine ⟨_, rfl, ?_, ?_, ?_, ?_, ?_, ?_, ?_, ?_, ?_, ?_⟩
      go_light
      all_goals (first | (simp; done) | (simp; omega) | omega | (go_simp; done) | (repeat (first | exact HB.out | (refine Below.setCell ?_ (by first | omega | (simp <;> omega)) _) | (refine Below.alloc ?_ (by first | omega | (simp <;> omega)) _) | refine Below.drew ?_ | refine Below.trans ?_ (HB2.out.mono (by first | omega | (simp <;> omega))))))
  case rest =>
    obtain ⟨g, rfl, hg, hg2, hbx, h0, h1, c0, c1, c2, c3, c4⟩ := hcut
    have hzx := hbx.size
    have HBX := Lib.hid hbx
    have hF := fars hg
    have hG := fars (Nat.lt_trans hg2 hg)
    clear hbx
    go_wp2_with (first | (go_at_call 11; first | ((with_reducible refine (copy_11 _ _ _ _ _ _).mono ?_); rintro e w' ⟨rfl, rfl⟩) | ((with_reducible refine (copy_12 _ _ _ _ _ _).mono ?_); rintro e w' ⟨rfl, rfl⟩) | ((with_reducible refine (copy_21 _ _ _ _ _ _).mono ?_); rintro e w' ⟨rfl, rfl⟩) | ((with_reducible refine (copy_22 _ _ _ _ _ _).mono ?_); rintro e w' ⟨rfl, rfl⟩) | ((with_reducible refine (copy_10 _ _ _ _ _ _ _ (by assumption) (by assumption)).mono ?_); rintro e w' ⟨rfl, rfl⟩) | ((with_reducible refine (copy_20 _ _ _ _ _ _ _ (by assumption) (by assumption)).mono ?_); rintro e w' ⟨rfl, rfl⟩) | ((with_reducible refine (copy_01 _ _ _ _ _ _ _ (by assumption) (by assumption)).mono ?_); rintro e w' ⟨rfl, rfl⟩) | ((with_reducible refine (copy_02 _ _ _ _ _ _ _ (by assumption) (by assumption)).mono ?_); rintro e w' ⟨rfl, rfl⟩) | ((with_reducible refine (copy_00 _ _ _ _ _ _ _ _ (by assumption) (by assumption) (by assumption) (by assumption)).mono ?_); rintro e w' ⟨rfl, rfl⟩)))
    go_ret
    refine ⟨by simp, ?_⟩
    repeat (first | exact HBX.out | (refine Below.setCell ?_ (by first | omega | (simp <;> omega)) _) | (refine Below.alloc ?_ (by first | omega | (simp <;> omega)) _) | refine Below.drew ?_)
end Go.Proofs.Ytnpjiceibcfblaa

/- Contracts of the functions of package fds (struct values, boxes in memory) over the seat, stated with exact worlds or with Below; no conditions beyond what each theorem states. -/
import Derived.Test.YtnpjiceibcfblaaFdsB
import Derived.Lib.Hide
import Derived.Deep.DeepCutAuto
import Derived.Deep.CutBlock
import Derived.Deep.Light
import Derived.Deep.RegionWith
namespace Go.Proofs.Ytnpjiceibcfblaa
open Go.RowKit


theorem fars {g n : Nat} (h : g < n) : g < n ∧ (∀ a0 : Nat, g < n + a0) ∧ (∀ a0 a1 : Nat, g < n + a0 + a1) ∧ (∀ a0 a1 a2 : Nat, g < n + a0 + a1 + a2) ∧ (∀ a0 a1 a2 a3 : Nat, g < n + a0 + a1 + a2 + a3) ∧ (∀ a0 a1 a2 a3 a4 : Nat, g < n + a0 + a1 + a2 + a3 + a4) ∧ (∀ a0 a1 a2 a3 a4 a5 : Nat, g < n + a0 + a1 + a2 + a3 + a4 + a5) ∧ (∀ a0 a1 a2 a3 a4 a5 a6 : Nat, g < n + a0 + a1 + a2 + a3 + a4 + a5 + a6) ∧ (∀ a0 a1 a2 a3 a4 a5 a6 a7 : Nat, g < n + a0 + a1 + a2 + a3 + a4 + a5 + a6 + a7) ∧ (∀ a0 a1 a2 a3 a4 a5 a6 a7 a8 : Nat, g < n + a0 + a1 + a2 + a3 + a4 + a5 + a6 + a7 + a8) ∧ (∀ a0 a1 a2 a3 a4 a5 a6 a7 a8 a9 : Nat, g < n + a0 + a1 + a2 + a3 + a4 + a5 + a6 + a7 + a8 + a9) ∧ (∀ a0 a1 a2 a3 a4 a5 a6 a7 a8 a9 a10 : Nat, g < n + a0 + a1 + a2 + a3 + a4 + a5 + a6 + a7 + a8 + a9 + a10) ∧ (∀ a0 a1 a2 a3 a4 a5 a6 a7 a8 a9 a10 a11 : Nat, g < n + a0 + a1 + a2 + a3 + a4 + a5 + a6 + a7 + a8 + a9 + a10 + a11) ∧ (∀ a0 a1 a2 a3 a4 a5 a6 a7 a8 a9 a10 a11 a12 : Nat, g < n + a0 + a1 + a2 + a3 + a4 + a5 + a6 + a7 + a8 + a9 + a10 + a11 + a12) ∧ (∀ a0 a1 a2 a3 a4 a5 a6 a7 a8 a9 a10 a11 a12 a13 : Nat, g < n + a0 + a1 + a2 + a3 + a4 + a5 + a6 + a7 + a8 + a9 + a10 + a11 + a12 + a13) := by
  refine ⟨h, ?_, ?_, ?_, ?_, ?_, ?_, ?_, ?_, ?_, ?_, ?_, ?_, ?_, ?_⟩ <;> intros <;> omega

set_option maxRecDepth 100000 in
set_option maxHeartbeats 4000000 in
theorem writes_1 (s : ByteArray) (n st : Int) (w : World) : Calls Try.prog 5 #[.int .i64 1, .string s, .int .i64 n, .int .i64 st] w fun e w' => e = .returned (.bool true) ∧ Below w.heap.size w w' := by
  have hfl : ∀ (i o : Int) (p : ByteArray) (e : Int) (q : ByteArray) (w : World), (Instr.field 26 (.agg #[.int .i64 i, .int .i64 o, .string p, .int .i64 e, .string q]) 2).run Try.prog w = .ok (.agg #[.int .i64 e, .string q]) w := fun _ _ _ _ _ _ => by kernel_rfl
  have hfm : ∀ (e : Int) (q : ByteArray) (w : World), (Instr.field 24 (.agg #[.int .i64 e, .string q]) 0).run Try.prog w = .ok (.int .i64 e) w := fun _ _ _ => by kernel_rfl
  go_enter Try.func5, Try.ntmps5
  go_upto_region 4 with (first | (go_at_call 8; (with_reducible refine (alive_any _).mono ?_); rintro e w' ⟨rfl, hb⟩; have hz := hb.size; have HB := Lib.hid hb; clear hb) | (go_at_call 10; ((with_reducible refine (first_any _).mono ?_); rintro e w' ⟨rfl, rfl⟩)))
  go_cut [10] (fun s6 wx => ∃ g : Nat, s6 = .pointer (some ⟨g, 0, none⟩) ∧ g < wx.heap.size ∧ w'.heap.size < g ∧ Below w.heap.size w wx ∧ wx.cell? ⟨w'.heap.size, 0, none⟩ = some (.int .i64 n) ∧ wx.cell? ⟨w'.heap.size, 1, none⟩ = some (.string s) ∧
    wx.cell? ⟨g, 0, none⟩ = some (.int .i64 st) ∧ wx.cell? ⟨g, 1, none⟩ = some (.int .i64 n) ∧ wx.cell? ⟨g, 2, none⟩ = some (.string s) ∧ wx.cell? ⟨g, 3, none⟩ = some (.int .i64 1) ∧ wx.cell? ⟨g, 4, none⟩ = some (.string em))
  case first =>
    go_region_with (first | (go_at_call 10; ((with_reducible refine (first_any _).mono ?_); rintro e w' ⟨rfl, rfl⟩)) | (go_at_call 14; ((with_reducible refine (read_any _ _ _ _ _ _ _).mono ?_); rintro e w' ⟨rfl, rfl⟩)) | (go_at_call 9; first | ((with_reducible refine (write_1 _ _ _ _ _ _ _ _).mono ?_); rintro e w' ⟨rfl, rfl⟩) | ((with_reducible refine (write_2 _ _ _ _ _ _ _ _).mono ?_); rintro e w' ⟨rfl, rfl⟩) | ((with_reducible refine (write_0 _ _ _ _ _ _ _ _ _ (by assumption) (by assumption)).mono ?_); rintro e w' ⟨rfl, rfl⟩)))
    all_goals
      go_wp2_with fail
      go_meet
      refine ⟨_, rfl, ?_, ?_, ?_, ?_, ?_, ?_, ?_, ?_, ?_, ?_⟩
      go_light
      all_goals (first | (simp; done) | omega | (simp; omega) | (go_simp; done) | (repeat (first | (with_reducible exact HB.out) | (with_reducible refine Below.alloc ?_ (by first | omega | (simp <;> omega)) _) | (with_reducible refine Below.setCell ?_ (by first | omega | (simp <;> omega)) _) | (with_reducible refine Below.drew ?_))))
  case rest =>
    obtain ⟨g, rfl, hg, hg2, hbx, h0, h1, c0, c1, c2, c3, c4⟩ := hcut
    have hzx := hbx.size
    have HBX := Lib.hid hbx
    have hF := fars hg
    have hG := fars (Nat.lt_trans hg2 hg)
    clear hbx
    go_wp2_with (first | (go_at_call 12; first | ((with_reducible refine (of_1 _ _ _ _ _ _).mono ?_); rintro e w' ⟨rfl, rfl⟩) | ((with_reducible refine (of_2 _ _ _ _ _ _).mono ?_); rintro e w' ⟨rfl, rfl⟩) | ((with_reducible refine (of_0 _ _ _ _ _ _ _ (by first | assumption | decide) (by first | assumption | decide)).mono ?_); rintro e w' ⟨rfl, rfl⟩)))
    go_ret
    refine ⟨by simp, ?_⟩
    (repeat (first | (with_reducible exact HBX.out) | (with_reducible refine Below.alloc ?_ (by first | omega | (simp <;> omega)) _) | (with_reducible refine Below.setCell ?_ (by first | omega | (simp <;> omega)) _) | (with_reducible refine Below.drew ?_)))

set_option maxRecDepth 100000 in
set_option maxHeartbeats 4000000 in
theorem writes_2 (s : ByteArray) (n st : Int) (w : World) : Calls Try.prog 5 #[.int .i64 2, .string s, .int .i64 n, .int .i64 st] w fun e w' => e = .returned (.bool true) ∧ Below w.heap.size w w' := by
  have hfl : ∀ (i o : Int) (p : ByteArray) (e : Int) (q : ByteArray) (w : World), (Instr.field 26 (.agg #[.int .i64 i, .int .i64 o, .string p, .int .i64 e, .string q]) 2).run Try.prog w = .ok (.agg #[.int .i64 e, .string q]) w := fun _ _ _ _ _ _ => by kernel_rfl
  have hfm : ∀ (e : Int) (q : ByteArray) (w : World), (Instr.field 24 (.agg #[.int .i64 e, .string q]) 0).run Try.prog w = .ok (.int .i64 e) w := fun _ _ _ => by kernel_rfl
  go_enter Try.func5, Try.ntmps5
  go_upto_region 4 with (first | (go_at_call 8; (with_reducible refine (alive_any _).mono ?_); rintro e w' ⟨rfl, hb⟩; have hz := hb.size; have HB := Lib.hid hb; clear hb) | (go_at_call 10; ((with_reducible refine (first_any _).mono ?_); rintro e w' ⟨rfl, rfl⟩)))
  go_cut [10] (fun s6 wx => ∃ g : Nat, s6 = .pointer (some ⟨g, 0, none⟩) ∧ g < wx.heap.size ∧ w'.heap.size < g ∧ Below w.heap.size w wx ∧ wx.cell? ⟨w'.heap.size, 0, none⟩ = some (.int .i64 n) ∧ wx.cell? ⟨w'.heap.size, 1, none⟩ = some (.string s) ∧
    wx.cell? ⟨g, 0, none⟩ = some (.int .i64 st) ∧ wx.cell? ⟨g, 1, none⟩ = some (.int .i64 0) ∧ wx.cell? ⟨g, 2, none⟩ = some (.string em) ∧ wx.cell? ⟨g, 3, none⟩ = some (.int .i64 n) ∧ wx.cell? ⟨g, 4, none⟩ = some (.string s))
  case first =>
    go_region_with (first | (go_at_call 10; ((with_reducible refine (first_any _).mono ?_); rintro e w' ⟨rfl, rfl⟩)) | (go_at_call 14; ((with_reducible refine (read_any _ _ _ _ _ _ _).mono ?_); rintro e w' ⟨rfl, rfl⟩)) | (go_at_call 9; first | ((with_reducible refine (write_1 _ _ _ _ _ _ _ _).mono ?_); rintro e w' ⟨rfl, rfl⟩) | ((with_reducible refine (write_2 _ _ _ _ _ _ _ _).mono ?_); rintro e w' ⟨rfl, rfl⟩) | ((with_reducible refine (write_0 _ _ _ _ _ _ _ _ _ (by assumption) (by assumption)).mono ?_); rintro e w' ⟨rfl, rfl⟩)))
    all_goals
      go_wp2_with fail
      go_meet
      refine ⟨_, rfl, ?_, ?_, ?_, ?_, ?_, ?_, ?_, ?_, ?_, ?_⟩
      go_light
      all_goals (first | (simp; done) | omega | (simp; omega) | (go_simp; done) | (repeat (first | (with_reducible exact HB.out) | (with_reducible refine Below.alloc ?_ (by first | omega | (simp <;> omega)) _) | (with_reducible refine Below.setCell ?_ (by first | omega | (simp <;> omega)) _) | (with_reducible refine Below.drew ?_))))
  case rest =>
    obtain ⟨g, rfl, hg, hg2, hbx, h0, h1, c0, c1, c2, c3, c4⟩ := hcut
    have hzx := hbx.size
    have HBX := Lib.hid hbx
    have hF := fars hg
    have hG := fars (Nat.lt_trans hg2 hg)
    clear hbx
    go_wp2_with (first | (go_at_call 12; first | ((with_reducible refine (of_1 _ _ _ _ _ _).mono ?_); rintro e w' ⟨rfl, rfl⟩) | ((with_reducible refine (of_2 _ _ _ _ _ _).mono ?_); rintro e w' ⟨rfl, rfl⟩) | ((with_reducible refine (of_0 _ _ _ _ _ _ _ (by first | assumption | decide) (by first | assumption | decide)).mono ?_); rintro e w' ⟨rfl, rfl⟩)))
    go_ret
    refine ⟨by simp, ?_⟩
    (repeat (first | (with_reducible exact HBX.out) | (with_reducible refine Below.alloc ?_ (by first | omega | (simp <;> omega)) _) | (with_reducible refine Below.setCell ?_ (by first | omega | (simp <;> omega)) _) | (with_reducible refine Below.drew ?_)))

set_option maxRecDepth 100000 in
set_option maxHeartbeats 4000000 in
theorem writes_0 (fd : Int) (s : ByteArray) (n st : Int) (w : World) (_q1 : fd ≠ 1) (_q2 : fd ≠ 2) : Calls Try.prog 5 #[.int .i64 fd, .string s, .int .i64 n, .int .i64 st] w fun e w' => e = .returned (.bool true) ∧ Below w.heap.size w w' := by
  have hfl : ∀ (i o : Int) (p : ByteArray) (e : Int) (q : ByteArray) (w : World), (Instr.field 26 (.agg #[.int .i64 i, .int .i64 o, .string p, .int .i64 e, .string q]) 2).run Try.prog w = .ok (.agg #[.int .i64 e, .string q]) w := fun _ _ _ _ _ _ => by kernel_rfl
  have hfm : ∀ (e : Int) (q : ByteArray) (w : World), (Instr.field 24 (.agg #[.int .i64 e, .string q]) 0).run Try.prog w = .ok (.int .i64 e) w := fun _ _ _ => by kernel_rfl
  have h1 : (fd == 1) = false := by simp; omega
  have h2 : (fd == 2) = false := by simp; omega
  go_enter Try.func5, Try.ntmps5
  go_upto_region 4 with (first | (go_at_call 8; (with_reducible refine (alive_any _).mono ?_); rintro e w' ⟨rfl, hb⟩; have hz := hb.size; have HB := Lib.hid hb; clear hb) | (go_at_call 10; ((with_reducible refine (first_any _).mono ?_); rintro e w' ⟨rfl, rfl⟩)))
  go_cut [10] (fun s6 wx => ∃ g : Nat, s6 = .pointer (some ⟨g, 0, none⟩) ∧ g < wx.heap.size ∧ w'.heap.size < g ∧ Below w.heap.size w wx ∧ wx.cell? ⟨w'.heap.size, 0, none⟩ = some (.int .i64 n) ∧ wx.cell? ⟨w'.heap.size, 1, none⟩ = some (.string s) ∧
    wx.cell? ⟨g, 0, none⟩ = some (.int .i64 st) ∧ wx.cell? ⟨g, 1, none⟩ = some (.int .i64 0) ∧ wx.cell? ⟨g, 2, none⟩ = some (.string em) ∧ wx.cell? ⟨g, 3, none⟩ = some (.int .i64 1) ∧ wx.cell? ⟨g, 4, none⟩ = some (.string em))
  case first =>
    go_region_with (first | (go_at_call 10; ((with_reducible refine (first_any _).mono ?_); rintro e w' ⟨rfl, rfl⟩)) | (go_at_call 14; ((with_reducible refine (read_any _ _ _ _ _ _ _).mono ?_); rintro e w' ⟨rfl, rfl⟩)) | (go_at_call 9; first | ((with_reducible refine (write_1 _ _ _ _ _ _ _ _).mono ?_); rintro e w' ⟨rfl, rfl⟩) | ((with_reducible refine (write_2 _ _ _ _ _ _ _ _).mono ?_); rintro e w' ⟨rfl, rfl⟩) | ((with_reducible refine (write_0 _ _ _ _ _ _ _ _ _ (by assumption) (by assumption)).mono ?_); rintro e w' ⟨rfl, rfl⟩)))
    all_goals
      go_wp2_with fail
      go_meet
      refine ⟨_, rfl, ?_, ?_, ?_, ?_, ?_, ?_, ?_, ?_, ?_, ?_⟩
      go_light
      all_goals (first | (simp; done) | omega | (simp; omega) | (go_simp; done) | (repeat (first | (with_reducible exact HB.out) | (with_reducible refine Below.alloc ?_ (by first | omega | (simp <;> omega)) _) | (with_reducible refine Below.setCell ?_ (by first | omega | (simp <;> omega)) _) | (with_reducible refine Below.drew ?_))))
  case rest =>
    obtain ⟨g, rfl, hg, hg2, hbx, h0, h1, c0, c1, c2, c3, c4⟩ := hcut
    have hzx := hbx.size
    have HBX := Lib.hid hbx
    have hF := fars hg
    have hG := fars (Nat.lt_trans hg2 hg)
    clear hbx
    go_wp2_with (first | (go_at_call 12; first | ((with_reducible refine (of_1 _ _ _ _ _ _).mono ?_); rintro e w' ⟨rfl, rfl⟩) | ((with_reducible refine (of_2 _ _ _ _ _ _).mono ?_); rintro e w' ⟨rfl, rfl⟩) | ((with_reducible refine (of_0 _ _ _ _ _ _ _ (by first | assumption | decide) (by first | assumption | decide)).mono ?_); rintro e w' ⟨rfl, rfl⟩)))
    go_ret
    refine ⟨by simp, ?_⟩
    (repeat (first | (with_reducible exact HBX.out) | (with_reducible refine Below.alloc ?_ (by first | omega | (simp <;> omega)) _) | (with_reducible refine Below.setCell ?_ (by first | omega | (simp <;> omega)) _) | (with_reducible refine Below.drew ?_)))

theorem writes_law (fd : Int) (s : ByteArray) (n st : Int) (w : World) : Calls Try.prog 5 #[.int .i64 fd, .string s, .int .i64 n, .int .i64 st] w fun e w' => e = .returned (.bool true) ∧ Below w.heap.size w w' := by
  by_cases f1 : fd = 1
  · subst f1; exact writes_1 s n st w
  · by_cases f2 : fd = 2
    · subst f2; exact writes_2 s n st w
    · exact writes_0 fd s n st w f1 f2
end Go.Proofs.Ytnpjiceibcfblaa

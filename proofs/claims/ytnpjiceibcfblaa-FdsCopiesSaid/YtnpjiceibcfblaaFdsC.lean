/- Contracts of the functions of package fds (struct values, boxes in memory) over the seat, stated with exact worlds or with Below; no conditions beyond what each theorem states. -/
import Derived.Test.YtnpjiceibcfblaaFdsB
import Derived.Lib.Hide
namespace Go.Proofs.Ytnpjiceibcfblaa
open Go.RowKit

set_option maxRecDepth 100000 in
set_option maxHeartbeats 4000000 in
theorem copies_11  (a b : ByteArray) (w : World) : Calls Try.prog 3 #[.int .i64 1, .int .i64 1, .string a, .string b] w fun e w' => e = .returned (.bool true) ∧ Below w.heap.size w w' := by
  have hfl : ∀ (i o : Int) (p : ByteArray) (e : Int) (q : ByteArray) (w : World), (Instr.field 26 (.agg #[.int .i64 i, .int .i64 o, .string p, .int .i64 e, .string q]) 2).run Try.prog w = .ok (.agg #[.int .i64 e, .string q]) w := fun _ _ _ _ _ _ => by kernel_rfl
  have hfm : ∀ (e : Int) (q : ByteArray) (w : World), (Instr.field 24 (.agg #[.int .i64 e, .string q]) 0).run Try.prog w = .ok (.int .i64 e) w := fun _ _ _ => by kernel_rfl
  go_enter Try.func3, Try.ntmps3
  go_wp2_with (first | (go_at_call 8; (with_reducible refine (alive_any _).mono ?_); rintro e w' ⟨rfl, hb⟩; have hz := hb.size; have HB := Lib.hid hb; clear hb) | (go_at_call 10; ((with_reducible refine (first_any _).mono ?_); rintro e w' ⟨rfl, rfl⟩)) | (go_at_call 9; first | ((with_reducible refine (write_1 _ _ _ _ _ _ _ _).mono ?_); rintro e w' ⟨rfl, rfl⟩) | ((with_reducible refine (write_2 _ _ _ _ _ _ _ _).mono ?_); rintro e w' ⟨rfl, rfl⟩) | ((with_reducible refine (write_0 _ _ _ _ _ _ _ _ _ (by assumption) (by assumption)).mono ?_); rintro e w' ⟨rfl, rfl⟩)) | (go_at_call 11; first | ((with_reducible refine (copy_11 _ _ _ _ _ _).mono ?_); rintro e w' ⟨rfl, rfl⟩) | ((with_reducible refine (copy_12 _ _ _ _ _ _).mono ?_); rintro e w' ⟨rfl, rfl⟩) | ((with_reducible refine (copy_21 _ _ _ _ _ _).mono ?_); rintro e w' ⟨rfl, rfl⟩) | ((with_reducible refine (copy_22 _ _ _ _ _ _).mono ?_); rintro e w' ⟨rfl, rfl⟩) | ((with_reducible refine (copy_10 _ _ _ _ _ _ _ (by assumption) (by assumption)).mono ?_); rintro e w' ⟨rfl, rfl⟩) | ((with_reducible refine (copy_20 _ _ _ _ _ _ _ (by assumption) (by assumption)).mono ?_); rintro e w' ⟨rfl, rfl⟩) | ((with_reducible refine (copy_01 _ _ _ _ _ _ _ (by assumption) (by assumption)).mono ?_); rintro e w' ⟨rfl, rfl⟩) | ((with_reducible refine (copy_02 _ _ _ _ _ _ _ (by assumption) (by assumption)).mono ?_); rintro e w' ⟨rfl, rfl⟩) | ((with_reducible refine (copy_00 _ _ _ _ _ _ _ _ (by assumption) (by assumption) (by assumption) (by assumption)).mono ?_); rintro e w' ⟨rfl, rfl⟩)) | (go_at_call 12; first | ((with_reducible refine (of_1 _ _ _ _ _ _).mono ?_); rintro e w' ⟨rfl, rfl⟩) | ((with_reducible refine (of_2 _ _ _ _ _ _).mono ?_); rintro e w' ⟨rfl, rfl⟩) | ((with_reducible refine (of_0 _ _ _ _ _ _ _ (by assumption) (by assumption)).mono ?_); rintro e w' ⟨rfl, rfl⟩)))
  go_ret
  refine ⟨by simp, ?_⟩
  (repeat (first | (with_reducible exact HB.out) | (with_reducible refine Below.alloc ?_ (by first | omega | (simp <;> omega)) _) | (with_reducible refine Below.setCell ?_ (by first | omega | (simp <;> omega)) _) | (with_reducible refine Below.drew ?_)))

set_option maxRecDepth 100000 in
set_option maxHeartbeats 4000000 in
theorem copies_12  (a b : ByteArray) (w : World) : Calls Try.prog 3 #[.int .i64 1, .int .i64 2, .string a, .string b] w fun e w' => e = .returned (.bool true) ∧ Below w.heap.size w w' := by
  have hfl : ∀ (i o : Int) (p : ByteArray) (e : Int) (q : ByteArray) (w : World), (Instr.field 26 (.agg #[.int .i64 i, .int .i64 o, .string p, .int .i64 e, .string q]) 2).run Try.prog w = .ok (.agg #[.int .i64 e, .string q]) w := fun _ _ _ _ _ _ => by kernel_rfl
  have hfm : ∀ (e : Int) (q : ByteArray) (w : World), (Instr.field 24 (.agg #[.int .i64 e, .string q]) 0).run Try.prog w = .ok (.int .i64 e) w := fun _ _ _ => by kernel_rfl
  go_enter Try.func3, Try.ntmps3
  go_wp2_with (first | (go_at_call 8; (with_reducible refine (alive_any _).mono ?_); rintro e w' ⟨rfl, hb⟩; have hz := hb.size; have HB := Lib.hid hb; clear hb) | (go_at_call 10; ((with_reducible refine (first_any _).mono ?_); rintro e w' ⟨rfl, rfl⟩)) | (go_at_call 9; first | ((with_reducible refine (write_1 _ _ _ _ _ _ _ _).mono ?_); rintro e w' ⟨rfl, rfl⟩) | ((with_reducible refine (write_2 _ _ _ _ _ _ _ _).mono ?_); rintro e w' ⟨rfl, rfl⟩) | ((with_reducible refine (write_0 _ _ _ _ _ _ _ _ _ (by assumption) (by assumption)).mono ?_); rintro e w' ⟨rfl, rfl⟩)) | (go_at_call 11; first | ((with_reducible refine (copy_11 _ _ _ _ _ _).mono ?_); rintro e w' ⟨rfl, rfl⟩) | ((with_reducible refine (copy_12 _ _ _ _ _ _).mono ?_); rintro e w' ⟨rfl, rfl⟩) | ((with_reducible refine (copy_21 _ _ _ _ _ _).mono ?_); rintro e w' ⟨rfl, rfl⟩) | ((with_reducible refine (copy_22 _ _ _ _ _ _).mono ?_); rintro e w' ⟨rfl, rfl⟩) | ((with_reducible refine (copy_10 _ _ _ _ _ _ _ (by assumption) (by assumption)).mono ?_); rintro e w' ⟨rfl, rfl⟩) | ((with_reducible refine (copy_20 _ _ _ _ _ _ _ (by assumption) (by assumption)).mono ?_); rintro e w' ⟨rfl, rfl⟩) | ((with_reducible refine (copy_01 _ _ _ _ _ _ _ (by assumption) (by assumption)).mono ?_); rintro e w' ⟨rfl, rfl⟩) | ((with_reducible refine (copy_02 _ _ _ _ _ _ _ (by assumption) (by assumption)).mono ?_); rintro e w' ⟨rfl, rfl⟩) | ((with_reducible refine (copy_00 _ _ _ _ _ _ _ _ (by assumption) (by assumption) (by assumption) (by assumption)).mono ?_); rintro e w' ⟨rfl, rfl⟩)) | (go_at_call 12; first | ((with_reducible refine (of_1 _ _ _ _ _ _).mono ?_); rintro e w' ⟨rfl, rfl⟩) | ((with_reducible refine (of_2 _ _ _ _ _ _).mono ?_); rintro e w' ⟨rfl, rfl⟩) | ((with_reducible refine (of_0 _ _ _ _ _ _ _ (by assumption) (by assumption)).mono ?_); rintro e w' ⟨rfl, rfl⟩)))
  go_ret
  refine ⟨by simp, ?_⟩
  (repeat (first | (with_reducible exact HB.out) | (with_reducible refine Below.alloc ?_ (by first | omega | (simp <;> omega)) _) | (with_reducible refine Below.setCell ?_ (by first | omega | (simp <;> omega)) _) | (with_reducible refine Below.drew ?_)))

set_option maxRecDepth 100000 in
set_option maxHeartbeats 4000000 in
theorem copies_21  (a b : ByteArray) (w : World) : Calls Try.prog 3 #[.int .i64 2, .int .i64 1, .string a, .string b] w fun e w' => e = .returned (.bool true) ∧ Below w.heap.size w w' := by
  have hfl : ∀ (i o : Int) (p : ByteArray) (e : Int) (q : ByteArray) (w : World), (Instr.field 26 (.agg #[.int .i64 i, .int .i64 o, .string p, .int .i64 e, .string q]) 2).run Try.prog w = .ok (.agg #[.int .i64 e, .string q]) w := fun _ _ _ _ _ _ => by kernel_rfl
  have hfm : ∀ (e : Int) (q : ByteArray) (w : World), (Instr.field 24 (.agg #[.int .i64 e, .string q]) 0).run Try.prog w = .ok (.int .i64 e) w := fun _ _ _ => by kernel_rfl
  go_enter Try.func3, Try.ntmps3
  go_wp2_with (first | (go_at_call 8; (with_reducible refine (alive_any _).mono ?_); rintro e w' ⟨rfl, hb⟩; have hz := hb.size; have HB := Lib.hid hb; clear hb) | (go_at_call 10; ((with_reducible refine (first_any _).mono ?_); rintro e w' ⟨rfl, rfl⟩)) | (go_at_call 9; first | ((with_reducible refine (write_1 _ _ _ _ _ _ _ _).mono ?_); rintro e w' ⟨rfl, rfl⟩) | ((with_reducible refine (write_2 _ _ _ _ _ _ _ _).mono ?_); rintro e w' ⟨rfl, rfl⟩) | ((with_reducible refine (write_0 _ _ _ _ _ _ _ _ _ (by assumption) (by assumption)).mono ?_); rintro e w' ⟨rfl, rfl⟩)) | (go_at_call 11; first | ((with_reducible refine (copy_11 _ _ _ _ _ _).mono ?_); rintro e w' ⟨rfl, rfl⟩) | ((with_reducible refine (copy_12 _ _ _ _ _ _).mono ?_); rintro e w' ⟨rfl, rfl⟩) | ((with_reducible refine (copy_21 _ _ _ _ _ _).mono ?_); rintro e w' ⟨rfl, rfl⟩) | ((with_reducible refine (copy_22 _ _ _ _ _ _).mono ?_); rintro e w' ⟨rfl, rfl⟩) | ((with_reducible refine (copy_10 _ _ _ _ _ _ _ (by assumption) (by assumption)).mono ?_); rintro e w' ⟨rfl, rfl⟩) | ((with_reducible refine (copy_20 _ _ _ _ _ _ _ (by assumption) (by assumption)).mono ?_); rintro e w' ⟨rfl, rfl⟩) | ((with_reducible refine (copy_01 _ _ _ _ _ _ _ (by assumption) (by assumption)).mono ?_); rintro e w' ⟨rfl, rfl⟩) | ((with_reducible refine (copy_02 _ _ _ _ _ _ _ (by assumption) (by assumption)).mono ?_); rintro e w' ⟨rfl, rfl⟩) | ((with_reducible refine (copy_00 _ _ _ _ _ _ _ _ (by assumption) (by assumption) (by assumption) (by assumption)).mono ?_); rintro e w' ⟨rfl, rfl⟩)) | (go_at_call 12; first | ((with_reducible refine (of_1 _ _ _ _ _ _).mono ?_); rintro e w' ⟨rfl, rfl⟩) | ((with_reducible refine (of_2 _ _ _ _ _ _).mono ?_); rintro e w' ⟨rfl, rfl⟩) | ((with_reducible refine (of_0 _ _ _ _ _ _ _ (by assumption) (by assumption)).mono ?_); rintro e w' ⟨rfl, rfl⟩)))
  go_ret
  refine ⟨by simp, ?_⟩
  (repeat (first | (with_reducible exact HB.out) | (with_reducible refine Below.alloc ?_ (by first | omega | (simp <;> omega)) _) | (with_reducible refine Below.setCell ?_ (by first | omega | (simp <;> omega)) _) | (with_reducible refine Below.drew ?_)))

set_option maxRecDepth 100000 in
set_option maxHeartbeats 4000000 in
theorem copies_22  (a b : ByteArray) (w : World) : Calls Try.prog 3 #[.int .i64 2, .int .i64 2, .string a, .string b] w fun e w' => e = .returned (.bool true) ∧ Below w.heap.size w w' := by
  have hfl : ∀ (i o : Int) (p : ByteArray) (e : Int) (q : ByteArray) (w : World), (Instr.field 26 (.agg #[.int .i64 i, .int .i64 o, .string p, .int .i64 e, .string q]) 2).run Try.prog w = .ok (.agg #[.int .i64 e, .string q]) w := fun _ _ _ _ _ _ => by kernel_rfl
  have hfm : ∀ (e : Int) (q : ByteArray) (w : World), (Instr.field 24 (.agg #[.int .i64 e, .string q]) 0).run Try.prog w = .ok (.int .i64 e) w := fun _ _ _ => by kernel_rfl
  go_enter Try.func3, Try.ntmps3
  go_wp2_with (first | (go_at_call 8; (with_reducible refine (alive_any _).mono ?_); rintro e w' ⟨rfl, hb⟩; have hz := hb.size; have HB := Lib.hid hb; clear hb) | (go_at_call 10; ((with_reducible refine (first_any _).mono ?_); rintro e w' ⟨rfl, rfl⟩)) | (go_at_call 9; first | ((with_reducible refine (write_1 _ _ _ _ _ _ _ _).mono ?_); rintro e w' ⟨rfl, rfl⟩) | ((with_reducible refine (write_2 _ _ _ _ _ _ _ _).mono ?_); rintro e w' ⟨rfl, rfl⟩) | ((with_reducible refine (write_0 _ _ _ _ _ _ _ _ _ (by assumption) (by assumption)).mono ?_); rintro e w' ⟨rfl, rfl⟩)) | (go_at_call 11; first | ((with_reducible refine (copy_11 _ _ _ _ _ _).mono ?_); rintro e w' ⟨rfl, rfl⟩) | ((with_reducible refine (copy_12 _ _ _ _ _ _).mono ?_); rintro e w' ⟨rfl, rfl⟩) | ((with_reducible refine (copy_21 _ _ _ _ _ _).mono ?_); rintro e w' ⟨rfl, rfl⟩) | ((with_reducible refine (copy_22 _ _ _ _ _ _).mono ?_); rintro e w' ⟨rfl, rfl⟩) | ((with_reducible refine (copy_10 _ _ _ _ _ _ _ (by assumption) (by assumption)).mono ?_); rintro e w' ⟨rfl, rfl⟩) | ((with_reducible refine (copy_20 _ _ _ _ _ _ _ (by assumption) (by assumption)).mono ?_); rintro e w' ⟨rfl, rfl⟩) | ((with_reducible refine (copy_01 _ _ _ _ _ _ _ (by assumption) (by assumption)).mono ?_); rintro e w' ⟨rfl, rfl⟩) | ((with_reducible refine (copy_02 _ _ _ _ _ _ _ (by assumption) (by assumption)).mono ?_); rintro e w' ⟨rfl, rfl⟩) | ((with_reducible refine (copy_00 _ _ _ _ _ _ _ _ (by assumption) (by assumption) (by assumption) (by assumption)).mono ?_); rintro e w' ⟨rfl, rfl⟩)) | (go_at_call 12; first | ((with_reducible refine (of_1 _ _ _ _ _ _).mono ?_); rintro e w' ⟨rfl, rfl⟩) | ((with_reducible refine (of_2 _ _ _ _ _ _).mono ?_); rintro e w' ⟨rfl, rfl⟩) | ((with_reducible refine (of_0 _ _ _ _ _ _ _ (by assumption) (by assumption)).mono ?_); rintro e w' ⟨rfl, rfl⟩)))
  go_ret
  refine ⟨by simp, ?_⟩
  (repeat (first | (with_reducible exact HB.out) | (with_reducible refine Below.alloc ?_ (by first | omega | (simp <;> omega)) _) | (with_reducible refine Below.setCell ?_ (by first | omega | (simp <;> omega)) _) | (with_reducible refine Below.drew ?_)))

set_option maxRecDepth 100000 in
set_option maxHeartbeats 4000000 in
theorem copies_1l (fr : Int) (a b : ByteArray) (w : World) (_r : fr < 1) : Calls Try.prog 3 #[.int .i64 1, .int .i64 fr, .string a, .string b] w fun e w' => e = .returned (.bool true) ∧ Below w.heap.size w w' := by
  have hfl : ∀ (i o : Int) (p : ByteArray) (e : Int) (q : ByteArray) (w : World), (Instr.field 26 (.agg #[.int .i64 i, .int .i64 o, .string p, .int .i64 e, .string q]) 2).run Try.prog w = .ok (.agg #[.int .i64 e, .string q]) w := fun _ _ _ _ _ _ => by kernel_rfl
  have hfm : ∀ (e : Int) (q : ByteArray) (w : World), (Instr.field 24 (.agg #[.int .i64 e, .string q]) 0).run Try.prog w = .ok (.int .i64 e) w := fun _ _ _ => by kernel_rfl
  have h3 : (fr == 1) = false := by simp; omega
  have h4 : (fr == 2) = false := by simp; omega
  go_enter Try.func3, Try.ntmps3
  go_wp2_with (first | (go_at_call 8; (with_reducible refine (alive_any _).mono ?_); rintro e w' ⟨rfl, hb⟩; have hz := hb.size; have HB := Lib.hid hb; clear hb) | (go_at_call 10; ((with_reducible refine (first_any _).mono ?_); rintro e w' ⟨rfl, rfl⟩)) | (go_at_call 9; first | ((with_reducible refine (write_1 _ _ _ _ _ _ _ _).mono ?_); rintro e w' ⟨rfl, rfl⟩) | ((with_reducible refine (write_2 _ _ _ _ _ _ _ _).mono ?_); rintro e w' ⟨rfl, rfl⟩) | ((with_reducible refine (write_0 _ _ _ _ _ _ _ _ _ (by assumption) (by assumption)).mono ?_); rintro e w' ⟨rfl, rfl⟩)) | (go_at_call 11; first | ((with_reducible refine (copy_11 _ _ _ _ _ _).mono ?_); rintro e w' ⟨rfl, rfl⟩) | ((with_reducible refine (copy_12 _ _ _ _ _ _).mono ?_); rintro e w' ⟨rfl, rfl⟩) | ((with_reducible refine (copy_21 _ _ _ _ _ _).mono ?_); rintro e w' ⟨rfl, rfl⟩) | ((with_reducible refine (copy_22 _ _ _ _ _ _).mono ?_); rintro e w' ⟨rfl, rfl⟩) | ((with_reducible refine (copy_10 _ _ _ _ _ _ _ (by assumption) (by assumption)).mono ?_); rintro e w' ⟨rfl, rfl⟩) | ((with_reducible refine (copy_20 _ _ _ _ _ _ _ (by assumption) (by assumption)).mono ?_); rintro e w' ⟨rfl, rfl⟩) | ((with_reducible refine (copy_01 _ _ _ _ _ _ _ (by assumption) (by assumption)).mono ?_); rintro e w' ⟨rfl, rfl⟩) | ((with_reducible refine (copy_02 _ _ _ _ _ _ _ (by assumption) (by assumption)).mono ?_); rintro e w' ⟨rfl, rfl⟩) | ((with_reducible refine (copy_00 _ _ _ _ _ _ _ _ (by assumption) (by assumption) (by assumption) (by assumption)).mono ?_); rintro e w' ⟨rfl, rfl⟩)) | (go_at_call 12; first | ((with_reducible refine (of_1 _ _ _ _ _ _).mono ?_); rintro e w' ⟨rfl, rfl⟩) | ((with_reducible refine (of_2 _ _ _ _ _ _).mono ?_); rintro e w' ⟨rfl, rfl⟩) | ((with_reducible refine (of_0 _ _ _ _ _ _ _ (by assumption) (by assumption)).mono ?_); rintro e w' ⟨rfl, rfl⟩)))
  go_ret
  refine ⟨by simp, ?_⟩
  (repeat (first | (with_reducible exact HB.out) | (with_reducible refine Below.alloc ?_ (by first | omega | (simp <;> omega)) _) | (with_reducible refine Below.setCell ?_ (by first | omega | (simp <;> omega)) _) | (with_reducible refine Below.drew ?_)))

set_option maxRecDepth 100000 in
set_option maxHeartbeats 4000000 in
theorem copies_1g (fr : Int) (a b : ByteArray) (w : World) (_r : 2 < fr) : Calls Try.prog 3 #[.int .i64 1, .int .i64 fr, .string a, .string b] w fun e w' => e = .returned (.bool true) ∧ Below w.heap.size w w' := by
  have hfl : ∀ (i o : Int) (p : ByteArray) (e : Int) (q : ByteArray) (w : World), (Instr.field 26 (.agg #[.int .i64 i, .int .i64 o, .string p, .int .i64 e, .string q]) 2).run Try.prog w = .ok (.agg #[.int .i64 e, .string q]) w := fun _ _ _ _ _ _ => by kernel_rfl
  have hfm : ∀ (e : Int) (q : ByteArray) (w : World), (Instr.field 24 (.agg #[.int .i64 e, .string q]) 0).run Try.prog w = .ok (.int .i64 e) w := fun _ _ _ => by kernel_rfl
  have h3 : (fr == 1) = false := by simp; omega
  have h4 : (fr == 2) = false := by simp; omega
  go_enter Try.func3, Try.ntmps3
  go_wp2_with (first | (go_at_call 8; (with_reducible refine (alive_any _).mono ?_); rintro e w' ⟨rfl, hb⟩; have hz := hb.size; have HB := Lib.hid hb; clear hb) | (go_at_call 10; ((with_reducible refine (first_any _).mono ?_); rintro e w' ⟨rfl, rfl⟩)) | (go_at_call 9; first | ((with_reducible refine (write_1 _ _ _ _ _ _ _ _).mono ?_); rintro e w' ⟨rfl, rfl⟩) | ((with_reducible refine (write_2 _ _ _ _ _ _ _ _).mono ?_); rintro e w' ⟨rfl, rfl⟩) | ((with_reducible refine (write_0 _ _ _ _ _ _ _ _ _ (by assumption) (by assumption)).mono ?_); rintro e w' ⟨rfl, rfl⟩)) | (go_at_call 11; first | ((with_reducible refine (copy_11 _ _ _ _ _ _).mono ?_); rintro e w' ⟨rfl, rfl⟩) | ((with_reducible refine (copy_12 _ _ _ _ _ _).mono ?_); rintro e w' ⟨rfl, rfl⟩) | ((with_reducible refine (copy_21 _ _ _ _ _ _).mono ?_); rintro e w' ⟨rfl, rfl⟩) | ((with_reducible refine (copy_22 _ _ _ _ _ _).mono ?_); rintro e w' ⟨rfl, rfl⟩) | ((with_reducible refine (copy_10 _ _ _ _ _ _ _ (by assumption) (by assumption)).mono ?_); rintro e w' ⟨rfl, rfl⟩) | ((with_reducible refine (copy_20 _ _ _ _ _ _ _ (by assumption) (by assumption)).mono ?_); rintro e w' ⟨rfl, rfl⟩) | ((with_reducible refine (copy_01 _ _ _ _ _ _ _ (by assumption) (by assumption)).mono ?_); rintro e w' ⟨rfl, rfl⟩) | ((with_reducible refine (copy_02 _ _ _ _ _ _ _ (by assumption) (by assumption)).mono ?_); rintro e w' ⟨rfl, rfl⟩) | ((with_reducible refine (copy_00 _ _ _ _ _ _ _ _ (by assumption) (by assumption) (by assumption) (by assumption)).mono ?_); rintro e w' ⟨rfl, rfl⟩)) | (go_at_call 12; first | ((with_reducible refine (of_1 _ _ _ _ _ _).mono ?_); rintro e w' ⟨rfl, rfl⟩) | ((with_reducible refine (of_2 _ _ _ _ _ _).mono ?_); rintro e w' ⟨rfl, rfl⟩) | ((with_reducible refine (of_0 _ _ _ _ _ _ _ (by assumption) (by assumption)).mono ?_); rintro e w' ⟨rfl, rfl⟩)))
  go_ret
  refine ⟨by simp, ?_⟩
  (repeat (first | (with_reducible exact HB.out) | (with_reducible refine Below.alloc ?_ (by first | omega | (simp <;> omega)) _) | (with_reducible refine Below.setCell ?_ (by first | omega | (simp <;> omega)) _) | (with_reducible refine Below.drew ?_)))

set_option maxRecDepth 100000 in
set_option maxHeartbeats 4000000 in
theorem copies_2l (fr : Int) (a b : ByteArray) (w : World) (_r : fr < 1) : Calls Try.prog 3 #[.int .i64 2, .int .i64 fr, .string a, .string b] w fun e w' => e = .returned (.bool true) ∧ Below w.heap.size w w' := by
  have hfl : ∀ (i o : Int) (p : ByteArray) (e : Int) (q : ByteArray) (w : World), (Instr.field 26 (.agg #[.int .i64 i, .int .i64 o, .string p, .int .i64 e, .string q]) 2).run Try.prog w = .ok (.agg #[.int .i64 e, .string q]) w := fun _ _ _ _ _ _ => by kernel_rfl
  have hfm : ∀ (e : Int) (q : ByteArray) (w : World), (Instr.field 24 (.agg #[.int .i64 e, .string q]) 0).run Try.prog w = .ok (.int .i64 e) w := fun _ _ _ => by kernel_rfl
  have h3 : (fr == 1) = false := by simp; omega
  have h4 : (fr == 2) = false := by simp; omega
  go_enter Try.func3, Try.ntmps3
  go_wp2_with (first | (go_at_call 8; (with_reducible refine (alive_any _).mono ?_); rintro e w' ⟨rfl, hb⟩; have hz := hb.size; have HB := Lib.hid hb; clear hb) | (go_at_call 10; ((with_reducible refine (first_any _).mono ?_); rintro e w' ⟨rfl, rfl⟩)) | (go_at_call 9; first | ((with_reducible refine (write_1 _ _ _ _ _ _ _ _).mono ?_); rintro e w' ⟨rfl, rfl⟩) | ((with_reducible refine (write_2 _ _ _ _ _ _ _ _).mono ?_); rintro e w' ⟨rfl, rfl⟩) | ((with_reducible refine (write_0 _ _ _ _ _ _ _ _ _ (by assumption) (by assumption)).mono ?_); rintro e w' ⟨rfl, rfl⟩)) | (go_at_call 11; first | ((with_reducible refine (copy_11 _ _ _ _ _ _).mono ?_); rintro e w' ⟨rfl, rfl⟩) | ((with_reducible refine (copy_12 _ _ _ _ _ _).mono ?_); rintro e w' ⟨rfl, rfl⟩) | ((with_reducible refine (copy_21 _ _ _ _ _ _).mono ?_); rintro e w' ⟨rfl, rfl⟩) | ((with_reducible refine (copy_22 _ _ _ _ _ _).mono ?_); rintro e w' ⟨rfl, rfl⟩) | ((with_reducible refine (copy_10 _ _ _ _ _ _ _ (by assumption) (by assumption)).mono ?_); rintro e w' ⟨rfl, rfl⟩) | ((with_reducible refine (copy_20 _ _ _ _ _ _ _ (by assumption) (by assumption)).mono ?_); rintro e w' ⟨rfl, rfl⟩) | ((with_reducible refine (copy_01 _ _ _ _ _ _ _ (by assumption) (by assumption)).mono ?_); rintro e w' ⟨rfl, rfl⟩) | ((with_reducible refine (copy_02 _ _ _ _ _ _ _ (by assumption) (by assumption)).mono ?_); rintro e w' ⟨rfl, rfl⟩) | ((with_reducible refine (copy_00 _ _ _ _ _ _ _ _ (by assumption) (by assumption) (by assumption) (by assumption)).mono ?_); rintro e w' ⟨rfl, rfl⟩)) | (go_at_call 12; first | ((with_reducible refine (of_1 _ _ _ _ _ _).mono ?_); rintro e w' ⟨rfl, rfl⟩) | ((with_reducible refine (of_2 _ _ _ _ _ _).mono ?_); rintro e w' ⟨rfl, rfl⟩) | ((with_reducible refine (of_0 _ _ _ _ _ _ _ (by assumption) (by assumption)).mono ?_); rintro e w' ⟨rfl, rfl⟩)))
  go_ret
  refine ⟨by simp, ?_⟩
  (repeat (first | (with_reducible exact HB.out) | (with_reducible refine Below.alloc ?_ (by first | omega | (simp <;> omega)) _) | (with_reducible refine Below.setCell ?_ (by first | omega | (simp <;> omega)) _) | (with_reducible refine Below.drew ?_)))

set_option maxRecDepth 100000 in
set_option maxHeartbeats 4000000 in
theorem copies_2g (fr : Int) (a b : ByteArray) (w : World) (_r : 2 < fr) : Calls Try.prog 3 #[.int .i64 2, .int .i64 fr, .string a, .string b] w fun e w' => e = .returned (.bool true) ∧ Below w.heap.size w w' := by
  have hfl : ∀ (i o : Int) (p : ByteArray) (e : Int) (q : ByteArray) (w : World), (Instr.field 26 (.agg #[.int .i64 i, .int .i64 o, .string p, .int .i64 e, .string q]) 2).run Try.prog w = .ok (.agg #[.int .i64 e, .string q]) w := fun _ _ _ _ _ _ => by kernel_rfl
  have hfm : ∀ (e : Int) (q : ByteArray) (w : World), (Instr.field 24 (.agg #[.int .i64 e, .string q]) 0).run Try.prog w = .ok (.int .i64 e) w := fun _ _ _ => by kernel_rfl
  have h3 : (fr == 1) = false := by simp; omega
  have h4 : (fr == 2) = false := by simp; omega
  go_enter Try.func3, Try.ntmps3
  go_wp2_with (first | (go_at_call 8; (with_reducible refine (alive_any _).mono ?_); rintro e w' ⟨rfl, hb⟩; have hz := hb.size; have HB := Lib.hid hb; clear hb) | (go_at_call 10; ((with_reducible refine (first_any _).mono ?_); rintro e w' ⟨rfl, rfl⟩)) | (go_at_call 9; first | ((with_reducible refine (write_1 _ _ _ _ _ _ _ _).mono ?_); rintro e w' ⟨rfl, rfl⟩) | ((with_reducible refine (write_2 _ _ _ _ _ _ _ _).mono ?_); rintro e w' ⟨rfl, rfl⟩) | ((with_reducible refine (write_0 _ _ _ _ _ _ _ _ _ (by assumption) (by assumption)).mono ?_); rintro e w' ⟨rfl, rfl⟩)) | (go_at_call 11; first | ((with_reducible refine (copy_11 _ _ _ _ _ _).mono ?_); rintro e w' ⟨rfl, rfl⟩) | ((with_reducible refine (copy_12 _ _ _ _ _ _).mono ?_); rintro e w' ⟨rfl, rfl⟩) | ((with_reducible refine (copy_21 _ _ _ _ _ _).mono ?_); rintro e w' ⟨rfl, rfl⟩) | ((with_reducible refine (copy_22 _ _ _ _ _ _).mono ?_); rintro e w' ⟨rfl, rfl⟩) | ((with_reducible refine (copy_10 _ _ _ _ _ _ _ (by assumption) (by assumption)).mono ?_); rintro e w' ⟨rfl, rfl⟩) | ((with_reducible refine (copy_20 _ _ _ _ _ _ _ (by assumption) (by assumption)).mono ?_); rintro e w' ⟨rfl, rfl⟩) | ((with_reducible refine (copy_01 _ _ _ _ _ _ _ (by assumption) (by assumption)).mono ?_); rintro e w' ⟨rfl, rfl⟩) | ((with_reducible refine (copy_02 _ _ _ _ _ _ _ (by assumption) (by assumption)).mono ?_); rintro e w' ⟨rfl, rfl⟩) | ((with_reducible refine (copy_00 _ _ _ _ _ _ _ _ (by assumption) (by assumption) (by assumption) (by assumption)).mono ?_); rintro e w' ⟨rfl, rfl⟩)) | (go_at_call 12; first | ((with_reducible refine (of_1 _ _ _ _ _ _).mono ?_); rintro e w' ⟨rfl, rfl⟩) | ((with_reducible refine (of_2 _ _ _ _ _ _).mono ?_); rintro e w' ⟨rfl, rfl⟩) | ((with_reducible refine (of_0 _ _ _ _ _ _ _ (by assumption) (by assumption)).mono ?_); rintro e w' ⟨rfl, rfl⟩)))
  go_ret
  refine ⟨by simp, ?_⟩
  (repeat (first | (with_reducible exact HB.out) | (with_reducible refine Below.alloc ?_ (by first | omega | (simp <;> omega)) _) | (with_reducible refine Below.setCell ?_ (by first | omega | (simp <;> omega)) _) | (with_reducible refine Below.drew ?_)))

set_option maxRecDepth 100000 in
set_option maxHeartbeats 4000000 in
theorem copies_l1 (fd : Int) (a b : ByteArray) (w : World) (_q : fd < 1) : Calls Try.prog 3 #[.int .i64 fd, .int .i64 1, .string a, .string b] w fun e w' => e = .returned (.bool true) ∧ Below w.heap.size w w' := by
  have hfl : ∀ (i o : Int) (p : ByteArray) (e : Int) (q : ByteArray) (w : World), (Instr.field 26 (.agg #[.int .i64 i, .int .i64 o, .string p, .int .i64 e, .string q]) 2).run Try.prog w = .ok (.agg #[.int .i64 e, .string q]) w := fun _ _ _ _ _ _ => by kernel_rfl
  have hfm : ∀ (e : Int) (q : ByteArray) (w : World), (Instr.field 24 (.agg #[.int .i64 e, .string q]) 0).run Try.prog w = .ok (.int .i64 e) w := fun _ _ _ => by kernel_rfl
  have h1 : (fd == 1) = false := by simp; omega
  have h2 : (fd == 2) = false := by simp; omega
  go_enter Try.func3, Try.ntmps3
  go_wp2_with (first | (go_at_call 8; (with_reducible refine (alive_any _).mono ?_); rintro e w' ⟨rfl, hb⟩; have hz := hb.size; have HB := Lib.hid hb; clear hb) | (go_at_call 10; ((with_reducible refine (first_any _).mono ?_); rintro e w' ⟨rfl, rfl⟩)) | (go_at_call 9; first | ((with_reducible refine (write_1 _ _ _ _ _ _ _ _).mono ?_); rintro e w' ⟨rfl, rfl⟩) | ((with_reducible refine (write_2 _ _ _ _ _ _ _ _).mono ?_); rintro e w' ⟨rfl, rfl⟩) | ((with_reducible refine (write_0 _ _ _ _ _ _ _ _ _ (by assumption) (by assumption)).mono ?_); rintro e w' ⟨rfl, rfl⟩)) | (go_at_call 11; first | ((with_reducible refine (copy_11 _ _ _ _ _ _).mono ?_); rintro e w' ⟨rfl, rfl⟩) | ((with_reducible refine (copy_12 _ _ _ _ _ _).mono ?_); rintro e w' ⟨rfl, rfl⟩) | ((with_reducible refine (copy_21 _ _ _ _ _ _).mono ?_); rintro e w' ⟨rfl, rfl⟩) | ((with_reducible refine (copy_22 _ _ _ _ _ _).mono ?_); rintro e w' ⟨rfl, rfl⟩) | ((with_reducible refine (copy_10 _ _ _ _ _ _ _ (by assumption) (by assumption)).mono ?_); rintro e w' ⟨rfl, rfl⟩) | ((with_reducible refine (copy_20 _ _ _ _ _ _ _ (by assumption) (by assumption)).mono ?_); rintro e w' ⟨rfl, rfl⟩) | ((with_reducible refine (copy_01 _ _ _ _ _ _ _ (by assumption) (by assumption)).mono ?_); rintro e w' ⟨rfl, rfl⟩) | ((with_reducible refine (copy_02 _ _ _ _ _ _ _ (by assumption) (by assumption)).mono ?_); rintro e w' ⟨rfl, rfl⟩) | ((with_reducible refine (copy_00 _ _ _ _ _ _ _ _ (by assumption) (by assumption) (by assumption) (by assumption)).mono ?_); rintro e w' ⟨rfl, rfl⟩)) | (go_at_call 12; first | ((with_reducible refine (of_1 _ _ _ _ _ _).mono ?_); rintro e w' ⟨rfl, rfl⟩) | ((with_reducible refine (of_2 _ _ _ _ _ _).mono ?_); rintro e w' ⟨rfl, rfl⟩) | ((with_reducible refine (of_0 _ _ _ _ _ _ _ (by assumption) (by assumption)).mono ?_); rintro e w' ⟨rfl, rfl⟩)))
  go_ret
  refine ⟨by simp, ?_⟩
  (repeat (first | (with_reducible exact HB.out) | (with_reducible refine Below.alloc ?_ (by first | omega | (simp <;> omega)) _) | (with_reducible refine Below.setCell ?_ (by first | omega | (simp <;> omega)) _) | (with_reducible refine Below.drew ?_)))

set_option maxRecDepth 100000 in
set_option maxHeartbeats 4000000 in
theorem copies_l2 (fd : Int) (a b : ByteArray) (w : World) (_q : fd < 1) : Calls Try.prog 3 #[.int .i64 fd, .int .i64 2, .string a, .string b] w fun e w' => e = .returned (.bool true) ∧ Below w.heap.size w w' := by
  have hfl : ∀ (i o : Int) (p : ByteArray) (e : Int) (q : ByteArray) (w : World), (Instr.field 26 (.agg #[.int .i64 i, .int .i64 o, .string p, .int .i64 e, .string q]) 2).run Try.prog w = .ok (.agg #[.int .i64 e, .string q]) w := fun _ _ _ _ _ _ => by kernel_rfl
  have hfm : ∀ (e : Int) (q : ByteArray) (w : World), (Instr.field 24 (.agg #[.int .i64 e, .string q]) 0).run Try.prog w = .ok (.int .i64 e) w := fun _ _ _ => by kernel_rfl
  have h1 : (fd == 1) = false := by simp; omega
  have h2 : (fd == 2) = false := by simp; omega
  go_enter Try.func3, Try.ntmps3
  go_wp2_with (first | (go_at_call 8; (with_reducible refine (alive_any _).mono ?_); rintro e w' ⟨rfl, hb⟩; have hz := hb.size; have HB := Lib.hid hb; clear hb) | (go_at_call 10; ((with_reducible refine (first_any _).mono ?_); rintro e w' ⟨rfl, rfl⟩)) | (go_at_call 9; first | ((with_reducible refine (write_1 _ _ _ _ _ _ _ _).mono ?_); rintro e w' ⟨rfl, rfl⟩) | ((with_reducible refine (write_2 _ _ _ _ _ _ _ _).mono ?_); rintro e w' ⟨rfl, rfl⟩) | ((with_reducible refine (write_0 _ _ _ _ _ _ _ _ _ (by assumption) (by assumption)).mono ?_); rintro e w' ⟨rfl, rfl⟩)) | (go_at_call 11; first | ((with_reducible refine (copy_11 _ _ _ _ _ _).mono ?_); rintro e w' ⟨rfl, rfl⟩) | ((with_reducible refine (copy_12 _ _ _ _ _ _).mono ?_); rintro e w' ⟨rfl, rfl⟩) | ((with_reducible refine (copy_21 _ _ _ _ _ _).mono ?_); rintro e w' ⟨rfl, rfl⟩) | ((with_reducible refine (copy_22 _ _ _ _ _ _).mono ?_); rintro e w' ⟨rfl, rfl⟩) | ((with_reducible refine (copy_10 _ _ _ _ _ _ _ (by assumption) (by assumption)).mono ?_); rintro e w' ⟨rfl, rfl⟩) | ((with_reducible refine (copy_20 _ _ _ _ _ _ _ (by assumption) (by assumption)).mono ?_); rintro e w' ⟨rfl, rfl⟩) | ((with_reducible refine (copy_01 _ _ _ _ _ _ _ (by assumption) (by assumption)).mono ?_); rintro e w' ⟨rfl, rfl⟩) | ((with_reducible refine (copy_02 _ _ _ _ _ _ _ (by assumption) (by assumption)).mono ?_); rintro e w' ⟨rfl, rfl⟩) | ((with_reducible refine (copy_00 _ _ _ _ _ _ _ _ (by assumption) (by assumption) (by assumption) (by assumption)).mono ?_); rintro e w' ⟨rfl, rfl⟩)) | (go_at_call 12; first | ((with_reducible refine (of_1 _ _ _ _ _ _).mono ?_); rintro e w' ⟨rfl, rfl⟩) | ((with_reducible refine (of_2 _ _ _ _ _ _).mono ?_); rintro e w' ⟨rfl, rfl⟩) | ((with_reducible refine (of_0 _ _ _ _ _ _ _ (by assumption) (by assumption)).mono ?_); rintro e w' ⟨rfl, rfl⟩)))
  go_ret
  refine ⟨by simp, ?_⟩
  (repeat (first | (with_reducible exact HB.out) | (with_reducible refine Below.alloc ?_ (by first | omega | (simp <;> omega)) _) | (with_reducible refine Below.setCell ?_ (by first | omega | (simp <;> omega)) _) | (with_reducible refine Below.drew ?_)))

set_option maxRecDepth 100000 in
set_option maxHeartbeats 4000000 in
theorem copies_l0 (fd : Int) (fr : Int) (a b : ByteArray) (w : World) (_q : fd < 1) (_q1 : fr ≠ 1) (_q2 : fr ≠ 2) : Calls Try.prog 3 #[.int .i64 fd, .int .i64 fr, .string a, .string b] w fun e w' => e = .returned (.bool true) ∧ Below w.heap.size w w' := by
  have hfl : ∀ (i o : Int) (p : ByteArray) (e : Int) (q : ByteArray) (w : World), (Instr.field 26 (.agg #[.int .i64 i, .int .i64 o, .string p, .int .i64 e, .string q]) 2).run Try.prog w = .ok (.agg #[.int .i64 e, .string q]) w := fun _ _ _ _ _ _ => by kernel_rfl
  have hfm : ∀ (e : Int) (q : ByteArray) (w : World), (Instr.field 24 (.agg #[.int .i64 e, .string q]) 0).run Try.prog w = .ok (.int .i64 e) w := fun _ _ _ => by kernel_rfl
  have h1 : (fd == 1) = false := by simp; omega
  have h2 : (fd == 2) = false := by simp; omega
  have h3 : (fr == 1) = false := by simp; omega
  have h4 : (fr == 2) = false := by simp; omega
  go_enter Try.func3, Try.ntmps3
  go_wp2_with (first | (go_at_call 8; (with_reducible refine (alive_any _).mono ?_); rintro e w' ⟨rfl, hb⟩; have hz := hb.size; have HB := Lib.hid hb; clear hb) | (go_at_call 10; ((with_reducible refine (first_any _).mono ?_); rintro e w' ⟨rfl, rfl⟩)) | (go_at_call 9; first | ((with_reducible refine (write_1 _ _ _ _ _ _ _ _).mono ?_); rintro e w' ⟨rfl, rfl⟩) | ((with_reducible refine (write_2 _ _ _ _ _ _ _ _).mono ?_); rintro e w' ⟨rfl, rfl⟩) | ((with_reducible refine (write_0 _ _ _ _ _ _ _ _ _ (by assumption) (by assumption)).mono ?_); rintro e w' ⟨rfl, rfl⟩)) | (go_at_call 11; first | ((with_reducible refine (copy_11 _ _ _ _ _ _).mono ?_); rintro e w' ⟨rfl, rfl⟩) | ((with_reducible refine (copy_12 _ _ _ _ _ _).mono ?_); rintro e w' ⟨rfl, rfl⟩) | ((with_reducible refine (copy_21 _ _ _ _ _ _).mono ?_); rintro e w' ⟨rfl, rfl⟩) | ((with_reducible refine (copy_22 _ _ _ _ _ _).mono ?_); rintro e w' ⟨rfl, rfl⟩) | ((with_reducible refine (copy_10 _ _ _ _ _ _ _ (by assumption) (by assumption)).mono ?_); rintro e w' ⟨rfl, rfl⟩) | ((with_reducible refine (copy_20 _ _ _ _ _ _ _ (by assumption) (by assumption)).mono ?_); rintro e w' ⟨rfl, rfl⟩) | ((with_reducible refine (copy_01 _ _ _ _ _ _ _ (by assumption) (by assumption)).mono ?_); rintro e w' ⟨rfl, rfl⟩) | ((with_reducible refine (copy_02 _ _ _ _ _ _ _ (by assumption) (by assumption)).mono ?_); rintro e w' ⟨rfl, rfl⟩) | ((with_reducible refine (copy_00 _ _ _ _ _ _ _ _ (by assumption) (by assumption) (by assumption) (by assumption)).mono ?_); rintro e w' ⟨rfl, rfl⟩)) | (go_at_call 12; first | ((with_reducible refine (of_1 _ _ _ _ _ _).mono ?_); rintro e w' ⟨rfl, rfl⟩) | ((with_reducible refine (of_2 _ _ _ _ _ _).mono ?_); rintro e w' ⟨rfl, rfl⟩) | ((with_reducible refine (of_0 _ _ _ _ _ _ _ (by assumption) (by assumption)).mono ?_); rintro e w' ⟨rfl, rfl⟩)))
  go_ret
  refine ⟨by simp, ?_⟩
  (repeat (first | (with_reducible exact HB.out) | (with_reducible refine Below.alloc ?_ (by first | omega | (simp <;> omega)) _) | (with_reducible refine Below.setCell ?_ (by first | omega | (simp <;> omega)) _) | (with_reducible refine Below.drew ?_)))

set_option maxRecDepth 100000 in
set_option maxHeartbeats 4000000 in
theorem copies_g1 (fd : Int) (a b : ByteArray) (w : World) (_q : 2 < fd) : Calls Try.prog 3 #[.int .i64 fd, .int .i64 1, .string a, .string b] w fun e w' => e = .returned (.bool true) ∧ Below w.heap.size w w' := by
  have hfl : ∀ (i o : Int) (p : ByteArray) (e : Int) (q : ByteArray) (w : World), (Instr.field 26 (.agg #[.int .i64 i, .int .i64 o, .string p, .int .i64 e, .string q]) 2).run Try.prog w = .ok (.agg #[.int .i64 e, .string q]) w := fun _ _ _ _ _ _ => by kernel_rfl
  have hfm : ∀ (e : Int) (q : ByteArray) (w : World), (Instr.field 24 (.agg #[.int .i64 e, .string q]) 0).run Try.prog w = .ok (.int .i64 e) w := fun _ _ _ => by kernel_rfl
  have h1 : (fd == 1) = false := by simp; omega
  have h2 : (fd == 2) = false := by simp; omega
  go_enter Try.func3, Try.ntmps3
  go_wp2_with (first | (go_at_call 8; (with_reducible refine (alive_any _).mono ?_); rintro e w' ⟨rfl, hb⟩; have hz := hb.size; have HB := Lib.hid hb; clear hb) | (go_at_call 10; ((with_reducible refine (first_any _).mono ?_); rintro e w' ⟨rfl, rfl⟩)) | (go_at_call 9; first | ((with_reducible refine (write_1 _ _ _ _ _ _ _ _).mono ?_); rintro e w' ⟨rfl, rfl⟩) | ((with_reducible refine (write_2 _ _ _ _ _ _ _ _).mono ?_); rintro e w' ⟨rfl, rfl⟩) | ((with_reducible refine (write_0 _ _ _ _ _ _ _ _ _ (by assumption) (by assumption)).mono ?_); rintro e w' ⟨rfl, rfl⟩)) | (go_at_call 11; first | ((with_reducible refine (copy_11 _ _ _ _ _ _).mono ?_); rintro e w' ⟨rfl, rfl⟩) | ((with_reducible refine (copy_12 _ _ _ _ _ _).mono ?_); rintro e w' ⟨rfl, rfl⟩) | ((with_reducible refine (copy_21 _ _ _ _ _ _).mono ?_); rintro e w' ⟨rfl, rfl⟩) | ((with_reducible refine (copy_22 _ _ _ _ _ _).mono ?_); rintro e w' ⟨rfl, rfl⟩) | ((with_reducible refine (copy_10 _ _ _ _ _ _ _ (by assumption) (by assumption)).mono ?_); rintro e w' ⟨rfl, rfl⟩) | ((with_reducible refine (copy_20 _ _ _ _ _ _ _ (by assumption) (by assumption)).mono ?_); rintro e w' ⟨rfl, rfl⟩) | ((with_reducible refine (copy_01 _ _ _ _ _ _ _ (by assumption) (by assumption)).mono ?_); rintro e w' ⟨rfl, rfl⟩) | ((with_reducible refine (copy_02 _ _ _ _ _ _ _ (by assumption) (by assumption)).mono ?_); rintro e w' ⟨rfl, rfl⟩) | ((with_reducible refine (copy_00 _ _ _ _ _ _ _ _ (by assumption) (by assumption) (by assumption) (by assumption)).mono ?_); rintro e w' ⟨rfl, rfl⟩)) | (go_at_call 12; first | ((with_reducible refine (of_1 _ _ _ _ _ _).mono ?_); rintro e w' ⟨rfl, rfl⟩) | ((with_reducible refine (of_2 _ _ _ _ _ _).mono ?_); rintro e w' ⟨rfl, rfl⟩) | ((with_reducible refine (of_0 _ _ _ _ _ _ _ (by assumption) (by assumption)).mono ?_); rintro e w' ⟨rfl, rfl⟩)))
  go_ret
  refine ⟨by simp, ?_⟩
  (repeat (first | (with_reducible exact HB.out) | (with_reducible refine Below.alloc ?_ (by first | omega | (simp <;> omega)) _) | (with_reducible refine Below.setCell ?_ (by first | omega | (simp <;> omega)) _) | (with_reducible refine Below.drew ?_)))

set_option maxRecDepth 100000 in
set_option maxHeartbeats 4000000 in
theorem copies_g2 (fd : Int) (a b : ByteArray) (w : World) (_q : 2 < fd) : Calls Try.prog 3 #[.int .i64 fd, .int .i64 2, .string a, .string b] w fun e w' => e = .returned (.bool true) ∧ Below w.heap.size w w' := by
  have hfl : ∀ (i o : Int) (p : ByteArray) (e : Int) (q : ByteArray) (w : World), (Instr.field 26 (.agg #[.int .i64 i, .int .i64 o, .string p, .int .i64 e, .string q]) 2).run Try.prog w = .ok (.agg #[.int .i64 e, .string q]) w := fun _ _ _ _ _ _ => by kernel_rfl
  have hfm : ∀ (e : Int) (q : ByteArray) (w : World), (Instr.field 24 (.agg #[.int .i64 e, .string q]) 0).run Try.prog w = .ok (.int .i64 e) w := fun _ _ _ => by kernel_rfl
  have h1 : (fd == 1) = false := by simp; omega
  have h2 : (fd == 2) = false := by simp; omega
  go_enter Try.func3, Try.ntmps3
  go_wp2_with (first | (go_at_call 8; (with_reducible refine (alive_any _).mono ?_); rintro e w' ⟨rfl, hb⟩; have hz := hb.size; have HB := Lib.hid hb; clear hb) | (go_at_call 10; ((with_reducible refine (first_any _).mono ?_); rintro e w' ⟨rfl, rfl⟩)) | (go_at_call 9; first | ((with_reducible refine (write_1 _ _ _ _ _ _ _ _).mono ?_); rintro e w' ⟨rfl, rfl⟩) | ((with_reducible refine (write_2 _ _ _ _ _ _ _ _).mono ?_); rintro e w' ⟨rfl, rfl⟩) | ((with_reducible refine (write_0 _ _ _ _ _ _ _ _ _ (by assumption) (by assumption)).mono ?_); rintro e w' ⟨rfl, rfl⟩)) | (go_at_call 11; first | ((with_reducible refine (copy_11 _ _ _ _ _ _).mono ?_); rintro e w' ⟨rfl, rfl⟩) | ((with_reducible refine (copy_12 _ _ _ _ _ _).mono ?_); rintro e w' ⟨rfl, rfl⟩) | ((with_reducible refine (copy_21 _ _ _ _ _ _).mono ?_); rintro e w' ⟨rfl, rfl⟩) | ((with_reducible refine (copy_22 _ _ _ _ _ _).mono ?_); rintro e w' ⟨rfl, rfl⟩) | ((with_reducible refine (copy_10 _ _ _ _ _ _ _ (by assumption) (by assumption)).mono ?_); rintro e w' ⟨rfl, rfl⟩) | ((with_reducible refine (copy_20 _ _ _ _ _ _ _ (by assumption) (by assumption)).mono ?_); rintro e w' ⟨rfl, rfl⟩) | ((with_reducible refine (copy_01 _ _ _ _ _ _ _ (by assumption) (by assumption)).mono ?_); rintro e w' ⟨rfl, rfl⟩) | ((with_reducible refine (copy_02 _ _ _ _ _ _ _ (by assumption) (by assumption)).mono ?_); rintro e w' ⟨rfl, rfl⟩) | ((with_reducible refine (copy_00 _ _ _ _ _ _ _ _ (by assumption) (by assumption) (by assumption) (by assumption)).mono ?_); rintro e w' ⟨rfl, rfl⟩)) | (go_at_call 12; first | ((with_reducible refine (of_1 _ _ _ _ _ _).mono ?_); rintro e w' ⟨rfl, rfl⟩) | ((with_reducible refine (of_2 _ _ _ _ _ _).mono ?_); rintro e w' ⟨rfl, rfl⟩) | ((with_reducible refine (of_0 _ _ _ _ _ _ _ (by assumption) (by assumption)).mono ?_); rintro e w' ⟨rfl, rfl⟩)))
  go_ret
  refine ⟨by simp, ?_⟩
  (repeat (first | (with_reducible exact HB.out) | (with_reducible refine Below.alloc ?_ (by first | omega | (simp <;> omega)) _) | (with_reducible refine Below.setCell ?_ (by first | omega | (simp <;> omega)) _) | (with_reducible refine Below.drew ?_)))

set_option maxRecDepth 100000 in
set_option maxHeartbeats 4000000 in
theorem copies_g0 (fd : Int) (fr : Int) (a b : ByteArray) (w : World) (_q : 2 < fd) (_q1 : fr ≠ 1) (_q2 : fr ≠ 2) : Calls Try.prog 3 #[.int .i64 fd, .int .i64 fr, .string a, .string b] w fun e w' => e = .returned (.bool true) ∧ Below w.heap.size w w' := by
  have hfl : ∀ (i o : Int) (p : ByteArray) (e : Int) (q : ByteArray) (w : World), (Instr.field 26 (.agg #[.int .i64 i, .int .i64 o, .string p, .int .i64 e, .string q]) 2).run Try.prog w = .ok (.agg #[.int .i64 e, .string q]) w := fun _ _ _ _ _ _ => by kernel_rfl
  have hfm : ∀ (e : Int) (q : ByteArray) (w : World), (Instr.field 24 (.agg #[.int .i64 e, .string q]) 0).run Try.prog w = .ok (.int .i64 e) w := fun _ _ _ => by kernel_rfl
  have h1 : (fd == 1) = false := by simp; omega
  have h2 : (fd == 2) = false := by simp; omega
  have h3 : (fr == 1) = false := by simp; omega
  have h4 : (fr == 2) = false := by simp; omega
  go_enter Try.func3, Try.ntmps3
  go_wp2_with (first | (go_at_call 8; (with_reducible refine (alive_any _).mono ?_); rintro e w' ⟨rfl, hb⟩; have hz := hb.size; have HB := Lib.hid hb; clear hb) | (go_at_call 10; ((with_reducible refine (first_any _).mono ?_); rintro e w' ⟨rfl, rfl⟩)) | (go_at_call 9; first | ((with_reducible refine (write_1 _ _ _ _ _ _ _ _).mono ?_); rintro e w' ⟨rfl, rfl⟩) | ((with_reducible refine (write_2 _ _ _ _ _ _ _ _).mono ?_); rintro e w' ⟨rfl, rfl⟩) | ((with_reducible refine (write_0 _ _ _ _ _ _ _ _ _ (by assumption) (by assumption)).mono ?_); rintro e w' ⟨rfl, rfl⟩)) | (go_at_call 11; first | ((with_reducible refine (copy_11 _ _ _ _ _ _).mono ?_); rintro e w' ⟨rfl, rfl⟩) | ((with_reducible refine (copy_12 _ _ _ _ _ _).mono ?_); rintro e w' ⟨rfl, rfl⟩) | ((with_reducible refine (copy_21 _ _ _ _ _ _).mono ?_); rintro e w' ⟨rfl, rfl⟩) | ((with_reducible refine (copy_22 _ _ _ _ _ _).mono ?_); rintro e w' ⟨rfl, rfl⟩) | ((with_reducible refine (copy_10 _ _ _ _ _ _ _ (by assumption) (by assumption)).mono ?_); rintro e w' ⟨rfl, rfl⟩) | ((with_reducible refine (copy_20 _ _ _ _ _ _ _ (by assumption) (by assumption)).mono ?_); rintro e w' ⟨rfl, rfl⟩) | ((with_reducible refine (copy_01 _ _ _ _ _ _ _ (by assumption) (by assumption)).mono ?_); rintro e w' ⟨rfl, rfl⟩) | ((with_reducible refine (copy_02 _ _ _ _ _ _ _ (by assumption) (by assumption)).mono ?_); rintro e w' ⟨rfl, rfl⟩) | ((with_reducible refine (copy_00 _ _ _ _ _ _ _ _ (by assumption) (by assumption) (by assumption) (by assumption)).mono ?_); rintro e w' ⟨rfl, rfl⟩)) | (go_at_call 12; first | ((with_reducible refine (of_1 _ _ _ _ _ _).mono ?_); rintro e w' ⟨rfl, rfl⟩) | ((with_reducible refine (of_2 _ _ _ _ _ _).mono ?_); rintro e w' ⟨rfl, rfl⟩) | ((with_reducible refine (of_0 _ _ _ _ _ _ _ (by assumption) (by assumption)).mono ?_); rintro e w' ⟨rfl, rfl⟩)))
  go_ret
  refine ⟨by simp, ?_⟩
  (repeat (first | (with_reducible exact HB.out) | (with_reducible refine Below.alloc ?_ (by first | omega | (simp <;> omega)) _) | (with_reducible refine Below.setCell ?_ (by first | omega | (simp <;> omega)) _) | (with_reducible refine Below.drew ?_)))

theorem copies_law (fd fr : Int) (a b : ByteArray) (w : World) : Calls Try.prog 3 #[.int .i64 fd, .int .i64 fr, .string a, .string b] w fun e w' => e = .returned (.bool true) ∧ Below w.heap.size w w' := by
  by_cases f1 : fd = 1
  · subst f1
    by_cases r1 : fr = 1
    · subst r1; exact copies_11 a b w
    · by_cases r2 : fr = 2
      · subst r2; exact copies_12 a b w
      · by_cases r3 : fr < 1
        · exact copies_1l fr a b w r3
        · exact copies_1g fr a b w (by omega)
  · by_cases f2 : fd = 2
    · subst f2
      by_cases r1 : fr = 1
      · subst r1; exact copies_21 a b w
      · by_cases r2 : fr = 2
        · subst r2; exact copies_22 a b w
        · by_cases r3 : fr < 1
          · exact copies_2l fr a b w r3
          · exact copies_2g fr a b w (by omega)
    · by_cases f3 : fd < 1
      · by_cases r1 : fr = 1
        · subst r1; exact copies_l1 fd a b w f3
        · by_cases r2 : fr = 2
          · subst r2; exact copies_l2 fd a b w f3
          · exact copies_l0 fd fr a b w f3 r1 r2
      · by_cases r1 : fr = 1
        · subst r1; exact copies_g1 fd a b w (by omega)
        · by_cases r2 : fr = 2
          · subst r2; exact copies_g2 fd a b w (by omega)
          · exact copies_g0 fd fr a b w (by omega) r1 r2
end Go.Proofs.Ytnpjiceibcfblaa

/- Contracts of the functions of package fds (struct values, boxes in memory) over the seat, stated with exact worlds or with Below; no conditions beyond what each theorem states. -/
import Derived.Test.YtnpjiceibcfblaaFds
import Derived.Lib.Hide
import Derived.Deep.RegionWith
namespace Go.Proofs.Ytnpjiceibcfblaa
open Go.RowKit

set_option maxRecDepth 100000 in
set_option maxHeartbeats 4000000 in
theorem alive_any (w : World) : Calls Try.prog 8 #[] w fun e w' => e = .returned (.bool true) ∧ Below w.heap.size w w' := by
  have hfl : ∀ (i o : Int) (p : ByteArray) (e : Int) (q : ByteArray) (w : World), (Instr.field 26 (.agg #[.int .i64 i, .int .i64 o, .string p, .int .i64 e, .string q]) 2).run Try.prog w = .ok (.agg #[.int .i64 e, .string q]) w := fun _ _ _ _ _ _ => by kernel_rfl
  have hfm : ∀ (e : Int) (q : ByteArray) (w : World), (Instr.field 24 (.agg #[.int .i64 e, .string q]) 0).run Try.prog w = .ok (.int .i64 e) w := fun _ _ _ => by kernel_rfl
  go_enter Try.func8, Try.ntmps8
  go_wp2_with (first | (go_at_call 10; ((with_reducible refine (first_any _).mono ?_); rintro e w' ⟨rfl, rfl⟩)) | (go_at_call 11; first | ((with_reducible refine (copy_11 _ _ _ _ _ _).mono ?_); rintro e w' ⟨rfl, rfl⟩) | ((with_reducible refine (copy_12 _ _ _ _ _ _).mono ?_); rintro e w' ⟨rfl, rfl⟩) | ((with_reducible refine (copy_21 _ _ _ _ _ _).mono ?_); rintro e w' ⟨rfl, rfl⟩) | ((with_reducible refine (copy_22 _ _ _ _ _ _).mono ?_); rintro e w' ⟨rfl, rfl⟩) | ((with_reducible refine (copy_10 _ _ _ _ _ _ _ (by assumption) (by assumption)).mono ?_); rintro e w' ⟨rfl, rfl⟩) | ((with_reducible refine (copy_20 _ _ _ _ _ _ _ (by assumption) (by assumption)).mono ?_); rintro e w' ⟨rfl, rfl⟩) | ((with_reducible refine (copy_01 _ _ _ _ _ _ _ (by assumption) (by assumption)).mono ?_); rintro e w' ⟨rfl, rfl⟩) | ((with_reducible refine (copy_02 _ _ _ _ _ _ _ (by assumption) (by assumption)).mono ?_); rintro e w' ⟨rfl, rfl⟩) | ((with_reducible refine (copy_00 _ _ _ _ _ _ _ _ (by assumption) (by assumption) (by assumption) (by assumption)).mono ?_); rintro e w' ⟨rfl, rfl⟩)))
  go_ret
  refine ⟨rfl, ?_⟩
  repeat (first | exact Below.refl _ _ | (refine Below.setCell ?_ (by simp; try omega) _) | (refine Below.alloc ?_ (by simp; try omega) _) | refine Below.drew ?_)

set_option maxRecDepth 100000 in
set_option maxHeartbeats 4000000 in
theorem both_tab (i o : Int) (p : ByteArray) (e : Int) (q : ByteArray) (n : Int) (s : ByteArray) (w : World) :
    Calls Try.prog 13 #[.agg #[.int .i64 i, .int .i64 o, .string p, .int .i64 e, .string q], .agg #[.int .i64 n, .string s]] w fun en w' => en = .returned (.agg #[.int .i64 i, .int .i64 n, .string s, .int .i64 n, .string s]) ∧ Below w.heap.size w w' := by
  go_enter Try.func13, Try.ntmps13
  go_wp2_with fail
  go_region_with (go_at_call 9; first | ((with_reducible refine (write_1 _ _ _ _ _ _ _ _).mono ?_); rintro e w' ⟨rfl, rfl⟩) | ((with_reducible refine (write_2 _ _ _ _ _ _ _ _).mono ?_); rintro e w' ⟨rfl, rfl⟩))
  all_goals
    go_wp2
    refine bodyPost_ret (v := .agg #[.int .i64 i, .int .i64 n, .string s, .int .i64 n, .string s]) (by simp [results, Try.results13, go_sem]) rfl ⟨rfl, ?_⟩
    repeat (first | exact Below.refl _ _ | (refine Below.setCell ?_ (by simp; try omega) _) | (refine Below.alloc ?_ (by simp; try omega) _) | refine Below.drew ?_ | refine below_drewN ?_ _)

end Go.Proofs.Ytnpjiceibcfblaa

/- Contracts of the functions of package fds (struct values, boxes in memory) over the seat, stated with exact worlds or with Below; no conditions beyond what each theorem states. -/
import Derived.Test.YtnpjiceibcfblaaProg
import Derived.WalkKit
import Derived.WalkSpells
import Derived.WalkLawsBesides
import Derived.Outline
import Derived.Below
namespace Go.Proofs.Ytnpjiceibcfblaa
open Go.RowKit

abbrev em : ByteArray := ⟨#[]⟩

set_option maxRecDepth 100000 in
set_option maxHeartbeats 4000000 in
theorem first_any (w : World) :
    Calls Try.prog 10 #[] w fun en w' => en = .returned (.agg #[.int .i64 0, .int .i64 0, .string em, .int .i64 1, .string em]) ∧ w' = w.alloc (.cells #[.int .i64 0, .int .i64 0, .string em, .int .i64 1, .string em] 26) := by
  go_enter Try.func10, Try.ntmps10
  go_wp2
  exact bodyPost_ret (v := .agg #[.int .i64 0, .int .i64 0, .string em, .int .i64 1, .string em]) (by simp [results, Try.results10, go_sem]) rfl ⟨rfl, rfl⟩

set_option maxRecDepth 100000 in
set_option maxHeartbeats 4000000 in
theorem write_1 (i o : Int) (p : ByteArray) (e : Int) (q : ByteArray) (n : Int) (s : ByteArray) (w : World) :
    Calls Try.prog 9 #[.agg #[.int .i64 i, .int .i64 o, .string p, .int .i64 e, .string q], .int .i64 1, .agg #[.int .i64 n, .string s]] w fun en w' => en = .returned (.agg #[.int .i64 i, .int .i64 n, .string s, .int .i64 e, .string q]) ∧ w' = (((w.alloc (.cells #[.int .i64 i, .int .i64 n, .string s, .int .i64 e, .string q] 26)).alloc (.cells #[.int .i64 n, .string s] 24)).alloc (.cells #[.int .i64 i, .int .i64 n, .string s, .int .i64 e, .string q] 26)) := by
  go_enter Try.func9, Try.ntmps9
  go_wp2
  exact bodyPost_ret (v := .agg #[.int .i64 i, .int .i64 n, .string s, .int .i64 e, .string q]) (by simp [results, Try.results9, go_sem]) rfl ⟨rfl, rfl⟩

set_option maxRecDepth 100000 in
set_option maxHeartbeats 4000000 in
theorem write_2 (i o : Int) (p : ByteArray) (e : Int) (q : ByteArray) (n : Int) (s : ByteArray) (w : World) :
    Calls Try.prog 9 #[.agg #[.int .i64 i, .int .i64 o, .string p, .int .i64 e, .string q], .int .i64 2, .agg #[.int .i64 n, .string s]] w fun en w' => en = .returned (.agg #[.int .i64 i, .int .i64 o, .string p, .int .i64 n, .string s]) ∧ w' = (((w.alloc (.cells #[.int .i64 i, .int .i64 o, .string p, .int .i64 n, .string s] 26)).alloc (.cells #[.int .i64 n, .string s] 24)).alloc (.cells #[.int .i64 i, .int .i64 o, .string p, .int .i64 n, .string s] 26)) := by
  go_enter Try.func9, Try.ntmps9
  go_wp2
  exact bodyPost_ret (v := .agg #[.int .i64 i, .int .i64 o, .string p, .int .i64 n, .string s]) (by simp [results, Try.results9, go_sem]) rfl ⟨rfl, rfl⟩

set_option maxRecDepth 100000 in
set_option maxHeartbeats 4000000 in
theorem write_0 (i o : Int) (p : ByteArray) (e : Int) (q : ByteArray) (fd : Int) (n : Int) (s : ByteArray) (w : World) (h1 : (fd == 1) = false) (h2 : (fd == 2) = false) :
    Calls Try.prog 9 #[.agg #[.int .i64 i, .int .i64 o, .string p, .int .i64 e, .string q], .int .i64 fd, .agg #[.int .i64 n, .string s]] w fun en w' => en = .returned (.agg #[.int .i64 i, .int .i64 o, .string p, .int .i64 e, .string q]) ∧ w' = (((w.alloc (.cells #[.int .i64 i, .int .i64 o, .string p, .int .i64 e, .string q] 26)).alloc (.cells #[.int .i64 n, .string s] 24)).alloc (.cells #[.int .i64 i, .int .i64 o, .string p, .int .i64 e, .string q] 26)) := by
  go_enter Try.func9, Try.ntmps9
  go_wp2
  exact bodyPost_ret (v := .agg #[.int .i64 i, .int .i64 o, .string p, .int .i64 e, .string q]) (by simp [results, Try.results9, go_sem]) rfl ⟨rfl, rfl⟩

set_option maxRecDepth 100000 in
set_option maxHeartbeats 4000000 in
theorem read_any (i o : Int) (p : ByteArray) (e : Int) (q : ByteArray) (n : Int) (w : World) :
    Calls Try.prog 14 #[.agg #[.int .i64 i, .int .i64 o, .string p, .int .i64 e, .string q], .int .i64 n] w fun en w' => en = .returned (.agg #[.int .i64 n, .int .i64 o, .string p, .int .i64 e, .string q]) ∧ w' = ((w.alloc (.cells #[.int .i64 n, .int .i64 o, .string p, .int .i64 e, .string q] 26)).alloc (.cells #[.int .i64 n, .int .i64 o, .string p, .int .i64 e, .string q] 26)) := by
  go_enter Try.func14, Try.ntmps14
  go_wp2
  exact bodyPost_ret (v := .agg #[.int .i64 n, .int .i64 o, .string p, .int .i64 e, .string q]) (by simp [results, Try.results14, go_sem]) rfl ⟨rfl, rfl⟩

set_option maxRecDepth 100000 in
set_option maxHeartbeats 4000000 in
theorem of_1 (i o : Int) (p : ByteArray) (e : Int) (q : ByteArray) (w : World) :
    Calls Try.prog 12 #[.agg #[.int .i64 i, .int .i64 o, .string p, .int .i64 e, .string q], .int .i64 1] w fun en w' => en = .returned (.tuple #[.agg #[.int .i64 o, .string p], .bool true]) ∧ w' = ((w.alloc (.cells #[.int .i64 i, .int .i64 o, .string p, .int .i64 e, .string q] 26)).alloc (.cells #[.int .i64 o, .string p] 24)) := by
  go_enter Try.func12, Try.ntmps12
  go_wp2
  exact bodyPost_ret (v := .tuple #[.agg #[.int .i64 o, .string p], .bool true]) (by simp [results, Try.results12, go_sem]) rfl ⟨rfl, rfl⟩

set_option maxRecDepth 100000 in
set_option maxHeartbeats 4000000 in
theorem of_2 (i o : Int) (p : ByteArray) (e : Int) (q : ByteArray) (w : World) :
    Calls Try.prog 12 #[.agg #[.int .i64 i, .int .i64 o, .string p, .int .i64 e, .string q], .int .i64 2] w fun en w' => en = .returned (.tuple #[.agg #[.int .i64 e, .string q], .bool true]) ∧ w' = ((w.alloc (.cells #[.int .i64 i, .int .i64 o, .string p, .int .i64 e, .string q] 26)).alloc (.cells #[.int .i64 e, .string q] 24)) := by
  go_enter Try.func12, Try.ntmps12
  go_wp2
  exact bodyPost_ret (v := .tuple #[.agg #[.int .i64 e, .string q], .bool true]) (by simp [results, Try.results12, go_sem]) rfl ⟨rfl, rfl⟩

set_option maxRecDepth 100000 in
set_option maxHeartbeats 4000000 in
theorem of_0 (i o : Int) (p : ByteArray) (e : Int) (q : ByteArray) (fd : Int) (w : World) (h1 : (fd == 1) = false) (h2 : (fd == 2) = false) :
    Calls Try.prog 12 #[.agg #[.int .i64 i, .int .i64 o, .string p, .int .i64 e, .string q], .int .i64 fd] w fun en w' => en = .returned (.tuple #[.agg #[.int .i64 0, .string em], .bool false]) ∧ w' = ((w.alloc (.cells #[.int .i64 i, .int .i64 o, .string p, .int .i64 e, .string q] 26)).alloc (.cells #[.int .i64 0, .string em] 24)) := by
  go_enter Try.func12, Try.ntmps12
  go_wp2
  exact bodyPost_ret (v := .tuple #[.agg #[.int .i64 0, .string em], .bool false]) (by simp [results, Try.results12, go_sem]) rfl ⟨rfl, rfl⟩

set_option maxRecDepth 100000 in
set_option maxHeartbeats 4000000 in
theorem copy_11 (i o : Int) (p : ByteArray) (e : Int) (q : ByteArray) (w : World) :
    Calls Try.prog 11 #[.agg #[.int .i64 i, .int .i64 o, .string p, .int .i64 e, .string q], .int .i64 1, .int .i64 1] w fun en w' => en = .returned (.tuple #[.agg #[.int .i64 i, .int .i64 o, .string p, .int .i64 e, .string q], .int .i64 0]) ∧ w' = (((((((((((w.alloc (Obj.cells #[Value.int IntKind.i64 i, Value.int IntKind.i64 o, Value.string p, Value.int IntKind.i64 e, Value.string q] 26)).alloc (Obj.cells #[Value.int IntKind.i64 i, Value.int IntKind.i64 o, Value.string p, Value.int IntKind.i64 e, Value.string q] 26)).alloc (Obj.cells #[Value.int IntKind.i64 i, Value.int IntKind.i64 o, Value.string p, Value.int IntKind.i64 e, Value.string q] 26)).alloc (Obj.cells #[Value.int IntKind.i64 o, Value.string p] 24)).alloc (Obj.cells #[Value.int IntKind.i64 o, Value.string p] 24)).alloc (Obj.cells #[Value.int IntKind.i64 i, Value.int IntKind.i64 o, Value.string p, Value.int IntKind.i64 e, Value.string q] 26)).alloc (Obj.cells #[Value.int IntKind.i64 o, Value.string p] 24)).alloc (Obj.cells #[Value.int IntKind.i64 o, Value.string p] 24)).alloc (Obj.cells #[Value.int IntKind.i64 i, Value.int IntKind.i64 o, Value.string p, Value.int IntKind.i64 e, Value.string q] 26)).alloc (Obj.cells #[Value.int IntKind.i64 o, Value.string p] 24)).alloc (Obj.cells #[Value.int IntKind.i64 i, Value.int IntKind.i64 o, Value.string p, Value.int IntKind.i64 e, Value.string q] 26)) := by
  go_enter Try.func11, Try.ntmps11
  go_wp2_with (first | (go_at_call 12; first | ((with_reducible refine (of_1 _ _ _ _ _ _).mono ?_); rintro e w' ⟨rfl, rfl⟩) | ((with_reducible refine (of_2 _ _ _ _ _ _).mono ?_); rintro e w' ⟨rfl, rfl⟩) | ((with_reducible refine (of_0 _ _ _ _ _ _ _ (by assumption) (by assumption)).mono ?_); rintro e w' ⟨rfl, rfl⟩)) | (go_at_call 9; first | ((with_reducible refine (write_1 _ _ _ _ _ _ _ _).mono ?_); rintro e w' ⟨rfl, rfl⟩) | ((with_reducible refine (write_2 _ _ _ _ _ _ _ _).mono ?_); rintro e w' ⟨rfl, rfl⟩)))
  exact bodyPost_ret (v := .tuple #[.agg #[.int .i64 i, .int .i64 o, .string p, .int .i64 e, .string q], .int .i64 0]) (by simp [results, Try.results11, go_sem]) rfl ⟨rfl, rfl⟩

set_option maxRecDepth 100000 in
set_option maxHeartbeats 4000000 in
theorem copy_12 (i o : Int) (p : ByteArray) (e : Int) (q : ByteArray) (w : World) :
    Calls Try.prog 11 #[.agg #[.int .i64 i, .int .i64 o, .string p, .int .i64 e, .string q], .int .i64 1, .int .i64 2] w fun en w' => en = .returned (.tuple #[.agg #[.int .i64 i, .int .i64 e, .string q, .int .i64 e, .string q], .int .i64 0]) ∧ w' = (((((((((((w.alloc (Obj.cells #[Value.int IntKind.i64 i, Value.int IntKind.i64 o, Value.string p, Value.int IntKind.i64 e, Value.string q] 26)).alloc (Obj.cells #[Value.int IntKind.i64 i, Value.int IntKind.i64 e, Value.string q, Value.int IntKind.i64 e, Value.string q] 26)).alloc (Obj.cells #[Value.int IntKind.i64 i, Value.int IntKind.i64 o, Value.string p, Value.int IntKind.i64 e, Value.string q] 26)).alloc (Obj.cells #[Value.int IntKind.i64 o, Value.string p] 24)).alloc (Obj.cells #[Value.int IntKind.i64 o, Value.string p] 24)).alloc (Obj.cells #[Value.int IntKind.i64 i, Value.int IntKind.i64 o, Value.string p, Value.int IntKind.i64 e, Value.string q] 26)).alloc (Obj.cells #[Value.int IntKind.i64 e, Value.string q] 24)).alloc (Obj.cells #[Value.int IntKind.i64 e, Value.string q] 24)).alloc (Obj.cells #[Value.int IntKind.i64 i, Value.int IntKind.i64 e, Value.string q, Value.int IntKind.i64 e, Value.string q] 26)).alloc (Obj.cells #[Value.int IntKind.i64 e, Value.string q] 24)).alloc (Obj.cells #[Value.int IntKind.i64 i, Value.int IntKind.i64 e, Value.string q, Value.int IntKind.i64 e, Value.string q] 26)) := by
  go_enter Try.func11, Try.ntmps11
  go_wp2_with (first | (go_at_call 12; first | ((with_reducible refine (of_1 _ _ _ _ _ _).mono ?_); rintro e w' ⟨rfl, rfl⟩) | ((with_reducible refine (of_2 _ _ _ _ _ _).mono ?_); rintro e w' ⟨rfl, rfl⟩) | ((with_reducible refine (of_0 _ _ _ _ _ _ _ (by assumption) (by assumption)).mono ?_); rintro e w' ⟨rfl, rfl⟩)) | (go_at_call 9; first | ((with_reducible refine (write_1 _ _ _ _ _ _ _ _).mono ?_); rintro e w' ⟨rfl, rfl⟩) | ((with_reducible refine (write_2 _ _ _ _ _ _ _ _).mono ?_); rintro e w' ⟨rfl, rfl⟩)))
  exact bodyPost_ret (v := .tuple #[.agg #[.int .i64 i, .int .i64 e, .string q, .int .i64 e, .string q], .int .i64 0]) (by simp [results, Try.results11, go_sem]) rfl ⟨rfl, rfl⟩

set_option maxRecDepth 100000 in
set_option maxHeartbeats 4000000 in
theorem copy_10 (i o : Int) (p : ByteArray) (e : Int) (q : ByteArray) (fr : Int) (w : World) (h3 : (fr == 1) = false) (h4 : (fr == 2) = false) :
    Calls Try.prog 11 #[.agg #[.int .i64 i, .int .i64 o, .string p, .int .i64 e, .string q], .int .i64 1, .int .i64 fr] w fun en w' => en = .returned (.tuple #[.agg #[.int .i64 0, .int .i64 0, .string em, .int .i64 0, .string em], .int .i64 4]) ∧ w' = ((((((((w.alloc (Obj.cells #[Value.int IntKind.i64 i, Value.int IntKind.i64 o, Value.string p, Value.int IntKind.i64 e, Value.string q] 26)).alloc (Obj.cells #[Value.int IntKind.i64 0, Value.int IntKind.i64 0, Value.string { data := #[] }, Value.int IntKind.i64 0, Value.string { data := #[] }] 26)).alloc (Obj.cells #[Value.int IntKind.i64 i, Value.int IntKind.i64 o, Value.string p, Value.int IntKind.i64 e, Value.string q] 26)).alloc (Obj.cells #[Value.int IntKind.i64 o, Value.string p] 24)).alloc (Obj.cells #[Value.int IntKind.i64 o, Value.string p] 24)).alloc (Obj.cells #[Value.int IntKind.i64 i, Value.int IntKind.i64 o, Value.string p, Value.int IntKind.i64 e, Value.string q] 26)).alloc (Obj.cells #[Value.int IntKind.i64 0, Value.string em] 24)).alloc (Obj.cells #[Value.int IntKind.i64 0, Value.string em] 24)) := by
  go_enter Try.func11, Try.ntmps11
  go_wp2_with (first | (go_at_call 12; first | ((with_reducible refine (of_1 _ _ _ _ _ _).mono ?_); rintro e w' ⟨rfl, rfl⟩) | ((with_reducible refine (of_2 _ _ _ _ _ _).mono ?_); rintro e w' ⟨rfl, rfl⟩) | ((with_reducible refine (of_0 _ _ _ _ _ _ _ (by assumption) (by assumption)).mono ?_); rintro e w' ⟨rfl, rfl⟩)) | (go_at_call 9; first | ((with_reducible refine (write_1 _ _ _ _ _ _ _ _).mono ?_); rintro e w' ⟨rfl, rfl⟩) | ((with_reducible refine (write_2 _ _ _ _ _ _ _ _).mono ?_); rintro e w' ⟨rfl, rfl⟩)))
  exact bodyPost_ret (v := .tuple #[.agg #[.int .i64 0, .int .i64 0, .string em, .int .i64 0, .string em], .int .i64 4]) (by simp [results, Try.results11, go_sem]) rfl ⟨rfl, rfl⟩

set_option maxRecDepth 100000 in
set_option maxHeartbeats 4000000 in
theorem copy_21 (i o : Int) (p : ByteArray) (e : Int) (q : ByteArray) (w : World) :
    Calls Try.prog 11 #[.agg #[.int .i64 i, .int .i64 o, .string p, .int .i64 e, .string q], .int .i64 2, .int .i64 1] w fun en w' => en = .returned (.tuple #[.agg #[.int .i64 i, .int .i64 o, .string p, .int .i64 o, .string p], .int .i64 0]) ∧ w' = (((((((((((w.alloc (Obj.cells #[Value.int IntKind.i64 i, Value.int IntKind.i64 o, Value.string p, Value.int IntKind.i64 e, Value.string q] 26)).alloc (Obj.cells #[Value.int IntKind.i64 i, Value.int IntKind.i64 o, Value.string p, Value.int IntKind.i64 o, Value.string p] 26)).alloc (Obj.cells #[Value.int IntKind.i64 i, Value.int IntKind.i64 o, Value.string p, Value.int IntKind.i64 e, Value.string q] 26)).alloc (Obj.cells #[Value.int IntKind.i64 e, Value.string q] 24)).alloc (Obj.cells #[Value.int IntKind.i64 e, Value.string q] 24)).alloc (Obj.cells #[Value.int IntKind.i64 i, Value.int IntKind.i64 o, Value.string p, Value.int IntKind.i64 e, Value.string q] 26)).alloc (Obj.cells #[Value.int IntKind.i64 o, Value.string p] 24)).alloc (Obj.cells #[Value.int IntKind.i64 o, Value.string p] 24)).alloc (Obj.cells #[Value.int IntKind.i64 i, Value.int IntKind.i64 o, Value.string p, Value.int IntKind.i64 o, Value.string p] 26)).alloc (Obj.cells #[Value.int IntKind.i64 o, Value.string p] 24)).alloc (Obj.cells #[Value.int IntKind.i64 i, Value.int IntKind.i64 o, Value.string p, Value.int IntKind.i64 o, Value.string p] 26)) := by
  go_enter Try.func11, Try.ntmps11
  go_wp2_with (first | (go_at_call 12; first | ((with_reducible refine (of_1 _ _ _ _ _ _).mono ?_); rintro e w' ⟨rfl, rfl⟩) | ((with_reducible refine (of_2 _ _ _ _ _ _).mono ?_); rintro e w' ⟨rfl, rfl⟩) | ((with_reducible refine (of_0 _ _ _ _ _ _ _ (by assumption) (by assumption)).mono ?_); rintro e w' ⟨rfl, rfl⟩)) | (go_at_call 9; first | ((with_reducible refine (write_1 _ _ _ _ _ _ _ _).mono ?_); rintro e w' ⟨rfl, rfl⟩) | ((with_reducible refine (write_2 _ _ _ _ _ _ _ _).mono ?_); rintro e w' ⟨rfl, rfl⟩)))
  exact bodyPost_ret (v := .tuple #[.agg #[.int .i64 i, .int .i64 o, .string p, .int .i64 o, .string p], .int .i64 0]) (by simp [results, Try.results11, go_sem]) rfl ⟨rfl, rfl⟩

set_option maxRecDepth 100000 in
set_option maxHeartbeats 4000000 in
theorem copy_22 (i o : Int) (p : ByteArray) (e : Int) (q : ByteArray) (w : World) :
    Calls Try.prog 11 #[.agg #[.int .i64 i, .int .i64 o, .string p, .int .i64 e, .string q], .int .i64 2, .int .i64 2] w fun en w' => en = .returned (.tuple #[.agg #[.int .i64 i, .int .i64 o, .string p, .int .i64 e, .string q], .int .i64 0]) ∧ w' = (((((((((((w.alloc (Obj.cells #[Value.int IntKind.i64 i, Value.int IntKind.i64 o, Value.string p, Value.int IntKind.i64 e, Value.string q] 26)).alloc (Obj.cells #[Value.int IntKind.i64 i, Value.int IntKind.i64 o, Value.string p, Value.int IntKind.i64 e, Value.string q] 26)).alloc (Obj.cells #[Value.int IntKind.i64 i, Value.int IntKind.i64 o, Value.string p, Value.int IntKind.i64 e, Value.string q] 26)).alloc (Obj.cells #[Value.int IntKind.i64 e, Value.string q] 24)).alloc (Obj.cells #[Value.int IntKind.i64 e, Value.string q] 24)).alloc (Obj.cells #[Value.int IntKind.i64 i, Value.int IntKind.i64 o, Value.string p, Value.int IntKind.i64 e, Value.string q] 26)).alloc (Obj.cells #[Value.int IntKind.i64 e, Value.string q] 24)).alloc (Obj.cells #[Value.int IntKind.i64 e, Value.string q] 24)).alloc (Obj.cells #[Value.int IntKind.i64 i, Value.int IntKind.i64 o, Value.string p, Value.int IntKind.i64 e, Value.string q] 26)).alloc (Obj.cells #[Value.int IntKind.i64 e, Value.string q] 24)).alloc (Obj.cells #[Value.int IntKind.i64 i, Value.int IntKind.i64 o, Value.string p, Value.int IntKind.i64 e, Value.string q] 26)) := by
  go_enter Try.func11, Try.ntmps11
  go_wp2_with (first | (go_at_call 12; first | ((with_reducible refine (of_1 _ _ _ _ _ _).mono ?_); rintro e w' ⟨rfl, rfl⟩) | ((with_reducible refine (of_2 _ _ _ _ _ _).mono ?_); rintro e w' ⟨rfl, rfl⟩) | ((with_reducible refine (of_0 _ _ _ _ _ _ _ (by assumption) (by assumption)).mono ?_); rintro e w' ⟨rfl, rfl⟩)) | (go_at_call 9; first | ((with_reducible refine (write_1 _ _ _ _ _ _ _ _).mono ?_); rintro e w' ⟨rfl, rfl⟩) | ((with_reducible refine (write_2 _ _ _ _ _ _ _ _).mono ?_); rintro e w' ⟨rfl, rfl⟩)))
  exact bodyPost_ret (v := .tuple #[.agg #[.int .i64 i, .int .i64 o, .string p, .int .i64 e, .string q], .int .i64 0]) (by simp [results, Try.results11, go_sem]) rfl ⟨rfl, rfl⟩

set_option maxRecDepth 100000 in
set_option maxHeartbeats 4000000 in
theorem copy_20 (i o : Int) (p : ByteArray) (e : Int) (q : ByteArray) (fr : Int) (w : World) (h3 : (fr == 1) = false) (h4 : (fr == 2) = false) :
    Calls Try.prog 11 #[.agg #[.int .i64 i, .int .i64 o, .string p, .int .i64 e, .string q], .int .i64 2, .int .i64 fr] w fun en w' => en = .returned (.tuple #[.agg #[.int .i64 0, .int .i64 0, .string em, .int .i64 0, .string em], .int .i64 4]) ∧ w' = ((((((((w.alloc (Obj.cells #[Value.int IntKind.i64 i, Value.int IntKind.i64 o, Value.string p, Value.int IntKind.i64 e, Value.string q] 26)).alloc (Obj.cells #[Value.int IntKind.i64 0, Value.int IntKind.i64 0, Value.string { data := #[] }, Value.int IntKind.i64 0, Value.string { data := #[] }] 26)).alloc (Obj.cells #[Value.int IntKind.i64 i, Value.int IntKind.i64 o, Value.string p, Value.int IntKind.i64 e, Value.string q] 26)).alloc (Obj.cells #[Value.int IntKind.i64 e, Value.string q] 24)).alloc (Obj.cells #[Value.int IntKind.i64 e, Value.string q] 24)).alloc (Obj.cells #[Value.int IntKind.i64 i, Value.int IntKind.i64 o, Value.string p, Value.int IntKind.i64 e, Value.string q] 26)).alloc (Obj.cells #[Value.int IntKind.i64 0, Value.string em] 24)).alloc (Obj.cells #[Value.int IntKind.i64 0, Value.string em] 24)) := by
  go_enter Try.func11, Try.ntmps11
  go_wp2_with (first | (go_at_call 12; first | ((with_reducible refine (of_1 _ _ _ _ _ _).mono ?_); rintro e w' ⟨rfl, rfl⟩) | ((with_reducible refine (of_2 _ _ _ _ _ _).mono ?_); rintro e w' ⟨rfl, rfl⟩) | ((with_reducible refine (of_0 _ _ _ _ _ _ _ (by assumption) (by assumption)).mono ?_); rintro e w' ⟨rfl, rfl⟩)) | (go_at_call 9; first | ((with_reducible refine (write_1 _ _ _ _ _ _ _ _).mono ?_); rintro e w' ⟨rfl, rfl⟩) | ((with_reducible refine (write_2 _ _ _ _ _ _ _ _).mono ?_); rintro e w' ⟨rfl, rfl⟩)))
  exact bodyPost_ret (v := .tuple #[.agg #[.int .i64 0, .int .i64 0, .string em, .int .i64 0, .string em], .int .i64 4]) (by simp [results, Try.results11, go_sem]) rfl ⟨rfl, rfl⟩

set_option maxRecDepth 100000 in
set_option maxHeartbeats 4000000 in
theorem copy_01 (i o : Int) (p : ByteArray) (e : Int) (q : ByteArray) (fd : Int) (w : World) (h1 : (fd == 1) = false) (h2 : (fd == 2) = false) :
    Calls Try.prog 11 #[.agg #[.int .i64 i, .int .i64 o, .string p, .int .i64 e, .string q], .int .i64 fd, .int .i64 1] w fun en w' => en = .returned (.tuple #[.agg #[.int .i64 0, .int .i64 0, .string em, .int .i64 0, .string em], .int .i64 4]) ∧ w' = ((((((((w.alloc (Obj.cells #[Value.int IntKind.i64 i, Value.int IntKind.i64 o, Value.string p, Value.int IntKind.i64 e, Value.string q] 26)).alloc (Obj.cells #[Value.int IntKind.i64 0, Value.int IntKind.i64 0, Value.string { data := #[] }, Value.int IntKind.i64 0, Value.string { data := #[] }] 26)).alloc (Obj.cells #[Value.int IntKind.i64 i, Value.int IntKind.i64 o, Value.string p, Value.int IntKind.i64 e, Value.string q] 26)).alloc (Obj.cells #[Value.int IntKind.i64 0, Value.string em] 24)).alloc (Obj.cells #[Value.int IntKind.i64 0, Value.string em] 24)).alloc (Obj.cells #[Value.int IntKind.i64 i, Value.int IntKind.i64 o, Value.string p, Value.int IntKind.i64 e, Value.string q] 26)).alloc (Obj.cells #[Value.int IntKind.i64 o, Value.string p] 24)).alloc (Obj.cells #[Value.int IntKind.i64 o, Value.string p] 24)) := by
  go_enter Try.func11, Try.ntmps11
  go_wp2_with (first | (go_at_call 12; first | ((with_reducible refine (of_1 _ _ _ _ _ _).mono ?_); rintro e w' ⟨rfl, rfl⟩) | ((with_reducible refine (of_2 _ _ _ _ _ _).mono ?_); rintro e w' ⟨rfl, rfl⟩) | ((with_reducible refine (of_0 _ _ _ _ _ _ _ (by assumption) (by assumption)).mono ?_); rintro e w' ⟨rfl, rfl⟩)) | (go_at_call 9; first | ((with_reducible refine (write_1 _ _ _ _ _ _ _ _).mono ?_); rintro e w' ⟨rfl, rfl⟩) | ((with_reducible refine (write_2 _ _ _ _ _ _ _ _).mono ?_); rintro e w' ⟨rfl, rfl⟩)))
  exact bodyPost_ret (v := .tuple #[.agg #[.int .i64 0, .int .i64 0, .string em, .int .i64 0, .string em], .int .i64 4]) (by simp [results, Try.results11, go_sem]) rfl ⟨rfl, rfl⟩

set_option maxRecDepth 100000 in
set_option maxHeartbeats 4000000 in
theorem copy_02 (i o : Int) (p : ByteArray) (e : Int) (q : ByteArray) (fd : Int) (w : World) (h1 : (fd == 1) = false) (h2 : (fd == 2) = false) :
    Calls Try.prog 11 #[.agg #[.int .i64 i, .int .i64 o, .string p, .int .i64 e, .string q], .int .i64 fd, .int .i64 2] w fun en w' => en = .returned (.tuple #[.agg #[.int .i64 0, .int .i64 0, .string em, .int .i64 0, .string em], .int .i64 4]) ∧ w' = ((((((((w.alloc (Obj.cells #[Value.int IntKind.i64 i, Value.int IntKind.i64 o, Value.string p, Value.int IntKind.i64 e, Value.string q] 26)).alloc (Obj.cells #[Value.int IntKind.i64 0, Value.int IntKind.i64 0, Value.string { data := #[] }, Value.int IntKind.i64 0, Value.string { data := #[] }] 26)).alloc (Obj.cells #[Value.int IntKind.i64 i, Value.int IntKind.i64 o, Value.string p, Value.int IntKind.i64 e, Value.string q] 26)).alloc (Obj.cells #[Value.int IntKind.i64 0, Value.string em] 24)).alloc (Obj.cells #[Value.int IntKind.i64 0, Value.string em] 24)).alloc (Obj.cells #[Value.int IntKind.i64 i, Value.int IntKind.i64 o, Value.string p, Value.int IntKind.i64 e, Value.string q] 26)).alloc (Obj.cells #[Value.int IntKind.i64 e, Value.string q] 24)).alloc (Obj.cells #[Value.int IntKind.i64 e, Value.string q] 24)) := by
  go_enter Try.func11, Try.ntmps11
  go_wp2_with (first | (go_at_call 12; first | ((with_reducible refine (of_1 _ _ _ _ _ _).mono ?_); rintro e w' ⟨rfl, rfl⟩) | ((with_reducible refine (of_2 _ _ _ _ _ _).mono ?_); rintro e w' ⟨rfl, rfl⟩) | ((with_reducible refine (of_0 _ _ _ _ _ _ _ (by assumption) (by assumption)).mono ?_); rintro e w' ⟨rfl, rfl⟩)) | (go_at_call 9; first | ((with_reducible refine (write_1 _ _ _ _ _ _ _ _).mono ?_); rintro e w' ⟨rfl, rfl⟩) | ((with_reducible refine (write_2 _ _ _ _ _ _ _ _).mono ?_); rintro e w' ⟨rfl, rfl⟩)))
  exact bodyPost_ret (v := .tuple #[.agg #[.int .i64 0, .int .i64 0, .string em, .int .i64 0, .string em], .int .i64 4]) (by simp [results, Try.results11, go_sem]) rfl ⟨rfl, rfl⟩

set_option maxRecDepth 100000 in
set_option maxHeartbeats 4000000 in
theorem copy_00 (i o : Int) (p : ByteArray) (e : Int) (q : ByteArray) (fd : Int) (fr : Int) (w : World) (h1 : (fd == 1) = false) (h2 : (fd == 2) = false) (h3 : (fr == 1) = false) (h4 : (fr == 2) = false) :
    Calls Try.prog 11 #[.agg #[.int .i64 i, .int .i64 o, .string p, .int .i64 e, .string q], .int .i64 fd, .int .i64 fr] w fun en w' => en = .returned (.tuple #[.agg #[.int .i64 0, .int .i64 0, .string em, .int .i64 0, .string em], .int .i64 4]) ∧ w' = ((((((((w.alloc (Obj.cells #[Value.int IntKind.i64 i, Value.int IntKind.i64 o, Value.string p, Value.int IntKind.i64 e, Value.string q] 26)).alloc (Obj.cells #[Value.int IntKind.i64 0, Value.int IntKind.i64 0, Value.string { data := #[] }, Value.int IntKind.i64 0, Value.string { data := #[] }] 26)).alloc (Obj.cells #[Value.int IntKind.i64 i, Value.int IntKind.i64 o, Value.string p, Value.int IntKind.i64 e, Value.string q] 26)).alloc (Obj.cells #[Value.int IntKind.i64 0, Value.string em] 24)).alloc (Obj.cells #[Value.int IntKind.i64 0, Value.string em] 24)).alloc (Obj.cells #[Value.int IntKind.i64 i, Value.int IntKind.i64 o, Value.string p, Value.int IntKind.i64 e, Value.string q] 26)).alloc (Obj.cells #[Value.int IntKind.i64 0, Value.string em] 24)).alloc (Obj.cells #[Value.int IntKind.i64 0, Value.string em] 24)) := by
  go_enter Try.func11, Try.ntmps11
  go_wp2_with (first | (go_at_call 12; first | ((with_reducible refine (of_1 _ _ _ _ _ _).mono ?_); rintro e w' ⟨rfl, rfl⟩) | ((with_reducible refine (of_2 _ _ _ _ _ _).mono ?_); rintro e w' ⟨rfl, rfl⟩) | ((with_reducible refine (of_0 _ _ _ _ _ _ _ (by assumption) (by assumption)).mono ?_); rintro e w' ⟨rfl, rfl⟩)) | (go_at_call 9; first | ((with_reducible refine (write_1 _ _ _ _ _ _ _ _).mono ?_); rintro e w' ⟨rfl, rfl⟩) | ((with_reducible refine (write_2 _ _ _ _ _ _ _ _).mono ?_); rintro e w' ⟨rfl, rfl⟩)))
  exact bodyPost_ret (v := .tuple #[.agg #[.int .i64 0, .int .i64 0, .string em, .int .i64 0, .string em], .int .i64 4]) (by simp [results, Try.results11, go_sem]) rfl ⟨rfl, rfl⟩

end Go.Proofs.Ytnpjiceibcfblaa

/- The deferred closure of ansi.Decode: of a frame that panics with a fault it lays the fault into the results; of one that returns it turns nothing; conditions: as each theorem states. -/
import Derived.Test.YtadjeaefnfkogaaEs
import Derived.Test.YtadjeaefnfkogaaRc
import Derived.RegionTactic
import Derived.BigRegion
namespace Go.Proofs.Ytadjeaefnfkogaa
open Go.RowKit

theorem assert_fault (p er : Int) (w : World) : (Instr.typeAssert (.iface 35 (.agg #[.int .i64 p, .int .i64 er])) 20 35 true).run Try.prog w = .ok (.tuple #[.agg #[.int .i64 p, .int .i64 er], .bool true]) w := by kernel_rfl
theorem assert_none (w : World) : (Instr.typeAssert .nilIface 20 35 true).run Try.prog w = .ok (.tuple #[.agg #[.int .i64 0, .int .i64 0], .bool false]) w := by kernel_rfl

set_option maxRecDepth 100000 in
set_option maxHeartbeats 2000000 in
theorem catch_panicking (t a e : Nat) (p er : Int) (older : List PanicEntry) (w : World) (tv : ByteArray) (av ev : Int)
    (ht : w.cell? ⟨t, 0, none⟩ = some (.string tv)) (ha : w.cell? ⟨a, 0, none⟩ = some (.int .i64 av)) (he : w.cell? ⟨e, 0, none⟩ = some (.int .i64 ev))
    (ft : w.frozen? ⟨t, 0, none⟩ = false) (fa : w.frozen? ⟨a, 0, none⟩ = false) (fe : w.frozen? ⟨e, 0, none⟩ = false) (hta : t < a) (hae : a < e) (hew : e < w.heap.size) (B : Nat) (hB : B ≤ t) :
    CallsD Try.prog 13 #[.pointer (some ⟨t, 0, none⟩), .pointer (some ⟨a, 0, none⟩), .pointer (some ⟨e, 0, none⟩)] (.panicking ({ v := .iface 35 (.agg #[.int .i64 p, .int .i64 er]), recovered := false } :: older)) w fun en u' w' =>
      en = .returned (.tuple #[]) ∧ u' = .panicking ({ v := .iface 35 (.agg #[.int .i64 p, .int .i64 er]), recovered := true } :: older) ∧
      w'.cell? ⟨t, 0, none⟩ = some (.string ⟨#[]⟩) ∧ w'.cell? ⟨a, 0, none⟩ = some (.int .i64 p) ∧ w'.cell? ⟨e, 0, none⟩ = some (.int .i64 er) ∧ Below B w w' := by
  have has := assert_fault p er
  refine callsD_of_wpS Try.func13 rfl fun c₀ cs hu => ?_
  apply wpS_seq
  apply wpS_list
  simp only [Try.ntmps13, List.size_toArray, List.length_cons, List.length_nil, Nat.reduceAdd, Nat.reduceSub, Array.replicate_succ, Array.replicate_zero, List.push_toArray, List.append_toArray, List.nil_append, List.cons_append]
  refine opsL_recover rfl (w' := w) (v := .iface 35 (.agg #[.int .i64 p, .int .i64 er])) (cs' := { c₀ with mode := .panicking ({ v := .iface 35 (.agg #[.int .i64 p, .int .i64 er]), recovered := true } :: older) } :: cs) ?_ ?_ ?_
  · go_simp
  · simp only [recoverD, hu]
  simp only [Act.put, List.setIfInBounds_toArray, List.set_cons_succ, List.set_cons_zero]
  refine opsL_value rfl (v := .tuple #[.agg #[.int .i64 p, .int .i64 er], .bool true]) (w' := w) ?_ ?_
  · go_simp
  simp only [Act.put, List.setIfInBounds_toArray, List.set_cons_succ, List.set_cons_zero]
  refine opsL_value rfl (v := .tuple #[.agg #[.int .i64 p, .int .i64 er], .bool true]) (w' := w) ?_ ?_
  · go_simp
  simp only [Act.put, List.setIfInBounds_toArray, List.set_cons_succ, List.set_cons_zero]
  refine opsL_value rfl (v := .agg #[.int .i64 p, .int .i64 er]) (w' := w) ?_ ?_
  · go_simp
  simp only [Act.put, List.setIfInBounds_toArray, List.set_cons_succ, List.set_cons_zero]
  refine opsL_value rfl (v := .bool true) (w' := w) ?_ ?_
  · go_simp
  simp only [Act.put, List.setIfInBounds_toArray, List.set_cons_succ, List.set_cons_zero]
  refine opsL_value rfl (v := .pointer (some ⟨w.heap.size, 0, none⟩)) (w' := w.alloc (.cells #[.int .i64 0, .int .i64 0] 35)) ?_ ?_
  · go_simp
  simp only [Act.put, List.setIfInBounds_toArray, List.set_cons_succ, List.set_cons_zero]
  refine opsL_skip rfl (w' := w.alloc (.cells #[.int .i64 p, .int .i64 er] 35)) ?_ ?_
  · go_simp
  simp only [Act.put]
  refine opsL_value rfl (v := .bool true) (w' := w.alloc (.cells #[.int .i64 p, .int .i64 er] 35)) ?_ ?_
  · go_simp
  simp only [Act.put, List.setIfInBounds_toArray, List.set_cons_succ, List.set_cons_zero]
  refine wpS_of_wp ?_
  clear hu
  go_wp2
  have hta' : t ≠ a := by omega
  have hte' : t ≠ e := by omega
  have hae' : a ≠ e := by omega
  have ct : (w.alloc (.cells #[.int .i64 p, .int .i64 er] 35)).cell? ⟨t, 0, none⟩ = some (.string tv) := (World.cell?_alloc_past _ t 0 (by omega)).trans ht
  have ca : (w.alloc (.cells #[.int .i64 p, .int .i64 er] 35)).cell? ⟨a, 0, none⟩ = some (.int .i64 av) := (World.cell?_alloc_past _ a 0 (by omega)).trans ha
  have ce : (w.alloc (.cells #[.int .i64 p, .int .i64 er] 35)).cell? ⟨e, 0, none⟩ = some (.int .i64 ev) := (World.cell?_alloc_past _ e 0 (by omega)).trans he
  have gt : (w.alloc (.cells #[.int .i64 p, .int .i64 er] 35)).frozen? ⟨t, 0, none⟩ = false := (World.frozen?_alloc_old _ _ _ (by show t ≠ _; omega)).trans ft
  have ga : (w.alloc (.cells #[.int .i64 p, .int .i64 er] 35)).frozen? ⟨a, 0, none⟩ = false := (World.frozen?_alloc_old _ _ _ (by show a ≠ _; omega)).trans fa
  have ge : (w.alloc (.cells #[.int .i64 p, .int .i64 er] 35)).frozen? ⟨e, 0, none⟩ = false := (World.frozen?_alloc_old _ _ _ (by show e ≠ _; omega)).trans fe
  go_region
  refine ⟨rfl, _, rfl, .tuple #[], by simp [results, Try.results13, go_sem], rfl, rfl, ?_, ?_, ?_, ?_⟩
  · go_simp
  · go_simp
  · go_simp
  · repeat (first | (with_reducible exact Below.refl _ _) | (with_reducible refine Below.setCell ?_ (by first | omega | (simp <;> omega)) _) | (with_reducible refine Below.drew ?_) | (with_reducible refine Below.alloc ?_ (by first | omega | (simp <;> omega)) _))

set_option maxRecDepth 100000 in
set_option maxHeartbeats 2000000 in
theorem catch_idle (t a e : Nat) (w : World) :
    CallsD Try.prog 13 #[.pointer (some ⟨t, 0, none⟩), .pointer (some ⟨a, 0, none⟩), .pointer (some ⟨e, 0, none⟩)] .returning w fun en u' w' => en = .returned (.tuple #[]) ∧ u' = .returning ∧ w' = w.alloc (.cells #[.int .i64 0, .int .i64 0] 35) := by
  have has := assert_none
  refine callsD_of_wpS Try.func13 rfl fun c₀ cs hu => ?_
  apply wpS_seq
  apply wpS_list
  simp only [Try.ntmps13, List.size_toArray, List.length_cons, List.length_nil, Nat.reduceAdd, Nat.reduceSub, Array.replicate_succ, Array.replicate_zero, List.push_toArray, List.append_toArray, List.nil_append, List.cons_append]
  refine opsL_idle rfl (w' := w) ?_ ?_ ?_
  · go_simp
  · simp only [recoverD, hu]
  simp only [Act.put, List.setIfInBounds_toArray, List.set_cons_succ, List.set_cons_zero]
  refine opsL_value rfl (v := .tuple #[.agg #[.int .i64 0, .int .i64 0], .bool false]) (w' := w) ?_ ?_
  · go_simp
  simp only [Act.put, List.setIfInBounds_toArray, List.set_cons_succ, List.set_cons_zero]
  refine opsL_value rfl (v := .tuple #[.agg #[.int .i64 0, .int .i64 0], .bool false]) (w' := w) ?_ ?_
  · go_simp
  simp only [Act.put, List.setIfInBounds_toArray, List.set_cons_succ, List.set_cons_zero]
  refine opsL_value rfl (v := .agg #[.int .i64 0, .int .i64 0]) (w' := w) ?_ ?_
  · go_simp
  simp only [Act.put, List.setIfInBounds_toArray, List.set_cons_succ, List.set_cons_zero]
  refine opsL_value rfl (v := .bool false) (w' := w) ?_ ?_
  · go_simp
  simp only [Act.put, List.setIfInBounds_toArray, List.set_cons_succ, List.set_cons_zero]
  refine opsL_value rfl (v := .pointer (some ⟨w.heap.size, 0, none⟩)) (w' := w.alloc (.cells #[.int .i64 0, .int .i64 0] 35)) ?_ ?_
  · go_simp
  simp only [Act.put, List.setIfInBounds_toArray, List.set_cons_succ, List.set_cons_zero]
  refine opsL_skip rfl (w' := w.alloc (.cells #[.int .i64 0, .int .i64 0] 35)) ?_ ?_
  · go_simp
  simp only [Act.put]
  refine opsL_value rfl (v := .bool false) (w' := w.alloc (.cells #[.int .i64 0, .int .i64 0] 35)) ?_ ?_
  · go_simp
  simp only [Act.put, List.setIfInBounds_toArray, List.set_cons_succ, List.set_cons_zero]
  refine wpS_of_wp ?_
  go_wp2
  refine ⟨rfl, _, ?_, .tuple #[], by simp [results, Try.results13, go_sem], rfl, rfl, rfl⟩
  cases c₀; simp_all
end Go.Proofs.Ytadjeaefnfkogaa

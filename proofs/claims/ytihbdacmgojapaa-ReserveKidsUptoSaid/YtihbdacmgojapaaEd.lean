/- The set of names: (*dialect.set).add; conditions: as each theorem states. -/
import Derived.Test.YtihbdacmgojapaaEc
import Derived.Test.YtihbdacmgojapaaShelf
import Derived.Test.YtihbdacmgojapaaRs
import Derived.RangeFuncBox
namespace Go.Proofs.Ytihbdacmgojapaa
open Go.RowKit

def res (s : ByteArray) : Bool := Lib.hasPrefix s.data.toList pre
/-- Texts in a row of the call's own, told by a variable's box. -/
structure SetAt (n0 : Nat) (t : TypeId) (w : World) (bx : Nat) (v : Value) (xs : List ByteArray) : Prop where
  box : Boxed w bx t v
  row : w.ownsRow n0 9 1 v xs.length (xs.map Value.string)
  le : n0 ≤ bx
/-- What a step on such a set leaves: all else as it was. -/
structure Chg (bx : Nat) (v v' : Value) (w w' : World) : Prop where
  os : w'.os = w.os
  tape : w'.tape = w.tape
  output : w'.output = w.output
  size : w.heap.size ≤ w'.heap.size
  block : ∀ k, k < w.heap.size → k ≠ bx → some k ≠ v.ownBlock → w'.heap[k]? = w.heap[k]?
  row : v'.ownBlock = v.ownBlock ∨ ∃ n, v'.ownBlock = some n ∧ w.heap.size ≤ n
theorem Chg.refl (bx : Nat) (v : Value) (w : World) : Chg bx v v w w := ⟨rfl, rfl, rfl, Nat.le_refl _, fun _ _ _ _ => rfl, .inl rfl⟩
theorem Chg.trans {bx : Nat} {v v' v'' : Value} {a b c : World} (h : Chg bx v v' a b) (k : Chg bx v' v'' b c) : Chg bx v v'' a c := by
  refine ⟨k.os.trans h.os, k.tape.trans h.tape, k.output.trans h.output, Nat.le_trans h.size k.size, fun i hi h1 h2 => ?_, ?_⟩
  · refine (k.block i (Nat.lt_of_lt_of_le hi h.size) h1 ?_).trans (h.block i hi h1 h2)
    rcases h.row with e | ⟨n, e, hn⟩
    · rw [e]; exact h2
    · rw [e]; intro e'; injection e' with e'; omega
  · rcases k.row with e | ⟨n, e, hn⟩
    · rw [e]; exact h.row
    · exact .inr ⟨n, e, Nat.le_trans h.size hn⟩
theorem Chg.of_below {bx : Nat} {v : Value} {w w' : World} (h : Below w.heap.size w w') : Chg bx v v w w' := ⟨h.os, h.tape, h.output, h.size, fun k hk _ _ => h.block k hk, .inl rfl⟩
theorem Chg.below {n0 bx : Nat} {t : TypeId} {v v' : Value} {xs : List ByteArray} {w w' : World} (h : Chg bx v v' w w') (hs : SetAt n0 t w bx v xs) : Below n0 w w' := by
  refine ⟨h.os, h.tape, h.output, h.size, fun k hk => ?_⟩
  have hl := hs.le
  have hb := hs.box.lt
  refine h.block k (by omega) (by omega) (fun e => ?_)
  have := (hs.row.lt k e.symm).1
  omega
theorem SetAt.below {n0 : Nat} {t : TypeId} {w w' : World} {bx : Nat} {v : Value} {xs : List ByteArray} (h : SetAt n0 t w bx v xs) (hb : Below w.heap.size w w') : SetAt n0 t w' bx v xs :=
  ⟨(hb.block bx h.box.lt).trans h.box, ownsRow_below h.row hb, h.le⟩
theorem strs_oneCell (s : ByteArray) : ∀ c ∈ [[Value.string s]], ∀ u ∈ c, u.oneCell' = true := by
  intro c hc u hu
  simp only [List.mem_cons, List.not_mem_nil, or_false] at hc
  subst hc
  simp only [List.mem_cons, List.not_mem_nil, or_false] at hu
  subst hu
  rfl
theorem any_in {xs : List ByteArray} {s : ByteArray} (h : s ∈ xs) : (xs.any res || res s) = xs.any res := by
  cases hr : res s
  · rw [Bool.or_false]
  · rw [Bool.or_true]
    exact (List.any_eq_true.2 ⟨s, h, hr⟩).symm
/-- Does the set hold a text? -/
theorem has_any (n0 : Nat) (v : Value) (xs : List ByteArray) (s : ByteArray) (w : World) (h : w.ownsRow n0 9 1 v xs.length (xs.map Value.string)) (hm : xs.length ≤ 9223372036854775807) :
    ∃ r : Bool, (r = true ↔ s ∈ xs) ∧ Calls Try.prog 49 #[v, .string s] w fun e w' => e = .returned (.bool r) ∧ w' = w := by
  rcases h.2 with ⟨rfl, h2⟩ | ⟨g, cap, cur, hv, h1, h2, h3, h4⟩
  · have : xs = [] := List.length_eq_zero_iff.1 h2
    subst this
    exact ⟨false, by simp, Try.slices_Contains_string_empty none 0 s w⟩
  · subst hv
    refine ⟨Lib.containsS xs s, Lib.containsS_iff _ _, ?_⟩
    have := Try.slices_Contains_string g 0 xs.length cap xs s w (Nat.le_refl _) hm (fun j hj => by rw [Nat.zero_add, h.cellAt j (by omega)]; simp [hj])
    rw [List.take_length] at this
    exact this
set_option maxRecDepth 100000 in
set_option maxHeartbeats 2000000 in
theorem add_any (n0 bx : Nat) (v : Value) (xs : List ByteArray) (s : ByteArray) (w : World) (h : SetAt n0 82 w bx v xs) (hm : xs.length + 1 ≤ 8796093022208) :
    Calls Try.prog 40 #[.pointer (some ⟨bx, 0, none⟩), .string s] w fun e w' => e = .returned (.tuple #[]) ∧ ∃ v' xs', SetAt n0 82 w' bx v' xs' ∧ xs'.any res = (xs.any res || res s) ∧ xs'.length ≤ xs.length + 1 ∧ Chg bx v v' w w' := by
  obtain ⟨i0, hi0, hz0, hz1, hz2⟩ := info_parts inf_str
  obtain ⟨r, hr, hC⟩ := has_any n0 v xs s w h.row (by omega)
  have HC := Lib.hid hC
  have d0 := h.box.cell
  have hbz := h.box.lt
  have HR := Lib.hid hr
  clear hC hr
  cases r
  · have f0 := h.box.frozen
    have hnz : n0 ≤ w.heap.size := by have := h.le; omega
    have n1 : Hid (xs.length + 1 ≤ maxLen) := by show _ ≤ _; unfold maxLen; omega
    have n2 : Hid ((xs.length + 1) * 16 ≤ 140737488355328) := by show _ ≤ _; omega
    have HNE : Hid (some bx ≠ v.ownBlock) := h.box.not_row (by decide) h.row
    have HS : Hid (SlA (w.alloc (.cells #[.string s] 9)) 1 (.slice (some ⟨w.heap.size, 0, none⟩) 1 1) [[.string s]]) := sla_new w 9 [.string s]
    have H := Lib.hid h
    clear h
    go_enter Try.func40, Try.ntmps40
    go_wp2_with fail
    refine HC.out.mono ?_
    rintro e w1 ⟨rfl, rfl⟩
    go_wp2_with (at_builtin; refine wpList_append_sla _ rfl (.tmp 15) (.tmp 17) 28 rfl n0 9 i0 _ 1 16 Try.underlying28 hi0 hz0 hz1 hz2 rfl (by decide) v xs.length (xs.map Value.string) rfl (H.out.row.alloc _) _ [[.string s]] 1 rfl rfl HS.out (strs_oneCell s) n1.out n2.out (by simp; omega) (w1.heap.size + 1) (by simp) ?_; intro ao1 cap1 w2 hown1 hgrow1 hat1; have e0 := (hgrow1.cell_far ⟨bx, 0, none⟩ (by simp; omega) HNE.out).trans ((World.cell?_alloc_lt _ _ _ hbz).trans d0); have e1 := (hgrow1.frozen_far ⟨bx, 0, none⟩ (by simp; omega) HNE.out).trans ((World.frozen?_alloc_past _ _ _ (by simpa using hbz)).trans f0))
    go_end0
    have hb2 : Boxed (w2.setCell ⟨bx, 0, none⟩ (.slice ao1 (xs.length + 1) cap1)) bx 82 (.slice ao1 (xs.length + 1) cap1) := ((H.out.box.alloc _).kept hgrow1 HNE.out).set _
    have hne := far_of hat1 HNE.out (show bx < w1.heap.size + 1 by omega)
    have hrow : (w2.setCell ⟨bx, 0, none⟩ (.slice ao1 (xs.length + 1) cap1)).ownsRow n0 9 1 (.slice ao1 (xs.length + 1) cap1) (xs ++ [s]).length ((xs ++ [s]).map Value.string) := by
      rw [List.length_append, List.map_append]
      exact ownsRow_keep hown1 fun k hk => (grownBy_setCell' w2 bx _).block k (hown1.lt k hk).2 fun e => hne (by rw [hk]; exact e.symm)
    have g1 := grownBy_setCell' w2 bx (.slice ao1 (xs.length + 1) cap1)
    refine ⟨rfl, _, xs ++ [s], ⟨hb2, hrow, H.out.le⟩, by rw [List.any_append]; simp, by simp, ⟨hgrow1.os, hgrow1.tape, hgrow1.output, ?_, fun k hk h1 h2 => ?_, ?_⟩⟩
    · have := g1.size
      have := hgrow1.size
      simp at this
      omega
    · have hk2 : k < w2.heap.size := by have := hgrow1.size; simp at this; omega
      rw [g1.block k hk2 (fun e => h1 (by injection e)), hgrow1.block k (by simp; omega) h2]
      exact Below.heap_alloc _ _ _ hk
    · rcases hat1 with h | h
      · exact .inl h
      · exact .inr ⟨_, h, by omega⟩
  · clear d0
    have H := Lib.hid h
    clear h
    have d0 := H.out.box.cell
    go_enter Try.func40, Try.ntmps40
    go_wp2_with fail
    refine HC.out.mono ?_
    rintro e w1 ⟨rfl, rfl⟩
    go_wp2_with fail
    go_end0
    exact ⟨rfl, v, xs, H.out, (any_in (HR.out.1 (by trivial))).symm, Nat.le_succ _, Chg.refl _ _ _⟩
end Go.Proofs.Ytihbdacmgojapaa

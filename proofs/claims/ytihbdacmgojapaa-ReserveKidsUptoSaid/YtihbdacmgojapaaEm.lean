/- dialect.(*set).own: laws; conditions: as each theorem states. -/
import Derived.Test.YtihbdacmgojapaaEl
namespace Go.Proofs.Ytihbdacmgojapaa
open Go.RowKit Go.Shelf

/-- The types that a set, and its texts, are of. -/
def T1 (t : TypeId) : Bool := t == 9 || t == 82
theorem SetAt.rowcells {n0 bx : Nat} {v : Value} {xs : List ByteArray} {w : World} (hs : SetAt n0 82 w bx v xs) : ∀ k, v.ownBlock = some k → ∃ cur, w.heap[k]? = some (Obj.cells cur 9 (0, 0)) := by
  intro k hk
  rcases hs.row.2 with ⟨e, _⟩ | ⟨g, cap, cur, e, _, hgb, _⟩
  · rw [e] at hk
    simp [Value.ownBlock] at hk
  · rw [e] at hk
    have : g = k := by simpa [Value.ownBlock] using hk
    subst this
    exact ⟨cur, hgb⟩
theorem After.kt {n0 bx : Nat} {v : Value} {xs : List ByteArray} {w w' : World} {r : Bool} {c : Nat} (h : After n0 82 bx v xs w r c w') (hs : SetAt n0 82 w bx v xs) : KT T1 n0 w w' ∧ KeepsOthers w w' := by
  obtain ⟨v', xs', h1, h2, h3, h4⟩ := h
  have hrow := hs.rowcells
  have hbx : w.heap[bx]? = some (Obj.cells #[v] 82 (0, 0)) := hs.box
  refine ⟨⟨h4.below hs, fun k cs t fr hk ht => h4.block k (Array.getElem?_eq_some_iff.1 hk).1 (fun e => ?_) (fun e => ?_)⟩, ⟨h4.size, fun k o hk ho => (h4.block k (Array.getElem?_eq_some_iff.1 hk).1 (fun e => ?_) (fun e => ?_)).trans hk⟩⟩
  · subst e
    rw [hbx] at hk
    injection hk with hk
    injection hk with _ hk _
    subst hk
    exact absurd ht (by decide)
  · obtain ⟨cur, h1⟩ := hrow k e.symm
    rw [h1] at hk
    injection hk with hk
    injection hk with _ hk _
    subst hk
    exact absurd ht (by decide)
  · subst e
    rw [hbx] at hk
    injection hk with hk
    rw [← hk] at ho
    cases ho
  · obtain ⟨cur, h1⟩ := hrow k e.symm
    rw [h1] at hk
    injection hk with hk
    rw [← hk] at ho
    cases ho
theorem after_own {β : Type} (n0 B bx : Nat) (v : Value) (xs : List ByteArray) (w : World) (hB : w.heap.size ≤ B) (f : β → Bool) (g : β → Nat) : OwnFrom B (fun s W => After n0 82 bx v xs w (f s) (g s) W) := by
  rintro s X Y row ⟨v', xs', h1, h2, h3, h4⟩ hg hr
  refine ⟨v', xs', ⟨h1.box.kept hg (fun e => ?_), ownsRow_keep h1.row (fun k hk => hg.block k (h1.row.lt k hk).2 (fun e => ?_)), h1.le⟩, h2, h3, ⟨hg.os.trans h4.os, hg.tape.trans h4.tape, hg.output.trans h4.output, Nat.le_trans h4.size hg.size, fun k hk a b => (hg.block k (Nat.lt_of_lt_of_le hk h4.size) (fun e => ?_)).trans (h4.block k hk a b), h4.row⟩⟩
  · obtain ⟨_, o, ho, hc⟩ := hr bx e.symm
    rw [show X.heap[bx]? = _ from h1.box] at ho
    cases ho
    cases hc
  · obtain ⟨_, o, ho, hc⟩ := hr k e.symm
    obtain ⟨cur, h1⟩ := h1.rowcells k hk
    rw [h1] at ho
    cases ho
    cases hc
  · have := (hr k e.symm).1
    omega
theorem After.cell {n0 : Nat} {t : TypeId} {bo : Nat} {v : Value} {xs : List ByteArray} {w w' : World} {r : Bool} {c : Nat} (h : After n0 t bo v xs w r c w') (k : Nat) (hk : k < w.heap.size) (h1 : k ≠ bo) (h2 : some k ≠ v.ownBlock) (i : Nat) : w'.cell? ⟨k, i, none⟩ = w.cell? ⟨k, i, none⟩ := by
  obtain ⟨v', xs', _, _, _, h4⟩ := h
  exact World.cell?_of_block (h4.block k hk h1 h2)
theorem After.size {n0 : Nat} {t : TypeId} {bo : Nat} {v : Value} {xs : List ByteArray} {w w' : World} {r : Bool} {c : Nat} (h : After n0 t bo v xs w r c w') : w.heap.size ≤ w'.heap.size := by
  obtain ⟨v', xs', _, _, _, h4⟩ := h
  exact h4.size
/-- A step behind a step. -/
theorem After.and {n0 : Nat} {t : TypeId} {bo : Nat} {v : Value} {xs : List ByteArray} {w w1 : World} {r : Bool} {c : Nat} (h : After n0 t bo v xs w r c w1) : ∃ v1 xs1, SetAt n0 t w1 bo v1 xs1 ∧ xs1.length ≤ xs.length + c ∧ ∀ r2 c2 w', After n0 t bo v1 xs1 w1 r2 c2 w' → After n0 t bo v xs w (r || r2) (c + c2) w' := by
  obtain ⟨v', xs', h1, h2, h3, h4⟩ := h
  exact ⟨v', xs', h1, h3, fun r2 c2 w' h => After.then_ h2 h3 h4 h⟩
theorem SetAt.far {n0 : Nat} {t : TypeId} {w : World} {bx : Nat} {v : Value} {xs : List ByteArray} (h : SetAt n0 t w bx v xs) (k : Nat) (hk : w.heap.size ≤ k) : k ≠ bx ∧ some k ≠ v.ownBlock := by
  have h1 := h.box.lt
  refine ⟨by omega, fun e => ?_⟩
  have := (h.row.lt k e.symm).2
  omega
theorem part_subs {W : World} {p : Nd} (h : Wf W .part p) : (∀ y ∈ p.sub 0, Wf W .part y) ∧ (∀ y ∈ p.sub 1, Wf W .part y) ∧ ∀ y ∈ p.sub 2, Wf W .sum y := by
  cases h with
  | part a0 a1 a2 a3 a4 a5 l5 a6 l6 a7 l7 a8 l8 a9 h5 q5 h6 q6 h7 q7 h8 q8 => exact ⟨q5, q6, q7⟩
theorem pp_wf {W : World} (p : Nd) (h : Wf W .part p) : ∀ y ∈ pp p, Wf W .part y := by
  intro y hy
  obtain ⟨h0, h1, _⟩ := part_subs h
  rw [pp_is, List.mem_cons, List.mem_append, List.mem_flatMap, List.mem_flatMap] at hy
  rcases hy with rfl | ⟨z, hz, hy⟩ | ⟨z, hz, hy⟩
  · exact h
  · exact pp_wf z (h0 z hz) y hy
  · exact pp_wf z (h1 z hz) y hy
termination_by wt p
decreasing_by all_goals exact wt_sub hz (by omega)
theorem oparts_wf {W : World} {x : Nd} (h : Wf W .cmd x) : ∀ y ∈ oparts x, Wf W .part y := by
  intro y hy
  unfold oparts at hy
  obtain ⟨z, hz, hy⟩ := List.mem_flatMap.1 hy
  unfold wparts at hy
  obtain ⟨u, hu, hy⟩ := List.mem_flatMap.1 hy
  have hzw := words_wf h z hz
  refine pp_wf u ?_ y hy
  cases hzw with
  | word b0 k0 g0 r0 => exact r0 u hu
theorem osums_wf {W : World} {x : Nd} (h : Wf W .cmd x) : ∀ y ∈ osums x, Wf W .sum y := by
  intro y hy
  have hp := oparts_wf h
  unfold osums at hy
  rw [List.mem_append, List.mem_append, List.mem_flatMap, List.mem_flatMap] at hy
  rcases hy with (hy | ⟨z, hz, hy⟩) | ⟨z, hz, hy⟩
  · cases h with
    | cmd a0 a1 a2 l2 a3 l3 a4 l4 a5 l5 a6 l6 a7 l7 a8 l8 a9 h2 q2 h3 q3 h4 q4 h5 q5 h6 q6 h7 q7 h8 q8 => exact q8 y hy
  · cases h with
    | cmd a0 a1 a2 l2 a3 l3 a4 l4 a5 l5 a6 l6 a7 l7 a8 l8 a9 h2 q2 h3 q3 h4 q4 h5 q5 h6 q6 h7 q7 h8 q8 =>
      have := q3 z hz
      cases this with
      | assign b0 b1 b2 m2 b3 m3 b4 b5 m5 g2 r2 g3 r3 g5 r5 => exact r3 y hy
  · exact (part_subs (hp z hz)).2.2 y hy
theorem pp_sums (x : Nd) : Wl ((pp x).flatMap (·.sub 2)) ≤ wt x := by
  have e : Wl ((pp x).flatMap (·.sub 2)) = ((pp x).map fun y => Wl (y.sub 2)).sum := sum_flatMap wt _ _
  have h := seven x
  have h0 : Wl (((x.sub 0).flatMap pp).flatMap (·.sub 2)) ≤ Wl (x.sub 0) := by
    rw [List.flatMap_assoc]
    have e2 : Wl ((x.sub 0).flatMap fun y => (pp y).flatMap (·.sub 2)) = ((x.sub 0).map fun y => Wl ((pp y).flatMap (·.sub 2))).sum := sum_flatMap wt _ _
    rw [e2]
    exact sum_le _ _ _ fun y hy => pp_sums y
  have h1 : Wl (((x.sub 1).flatMap pp).flatMap (·.sub 2)) ≤ Wl (x.sub 1) := by
    rw [List.flatMap_assoc]
    have e2 : Wl ((x.sub 1).flatMap fun y => (pp y).flatMap (·.sub 2)) = ((x.sub 1).map fun y => Wl ((pp y).flatMap (·.sub 2))).sum := sum_flatMap wt _ _
    rw [e2]
    exact sum_le _ _ _ fun y hy => pp_sums y
  rw [pp_is, List.flatMap_cons, List.flatMap_append, Wl_append, Wl_append]
  omega
termination_by wt x
decreasing_by all_goals exact wt_sub hy (by omega)
theorem osums_le (x : Nd) : Wl (osums x) ≤ 2 * wt x := by
  unfold osums
  rw [Wl_append, Wl_append]
  have h := seven x
  have h1 : Wl ((x.sub 1).flatMap (·.sub 1)) ≤ Wl (x.sub 1) := by
    have e : Wl ((x.sub 1).flatMap (·.sub 1)) = ((x.sub 1).map fun y => Wl (y.sub 1)).sum := sum_flatMap wt _ _
    rw [e]
    exact sum_le _ _ _ fun y _ => by have := seven y; omega
  have h2 : Wl ((oparts x).flatMap (·.sub 2)) ≤ wt x := by
    unfold oparts
    rw [List.flatMap_assoc]
    have e : Wl ((words x).flatMap fun y => (wparts y).flatMap (·.sub 2)) = ((words x).map fun y => Wl ((wparts y).flatMap (·.sub 2))).sum := sum_flatMap wt _ _
    rw [e]
    have h3 : ((words x).map fun y => Wl ((wparts y).flatMap (·.sub 2))).sum ≤ Pw (words x) := sum_le _ _ _ fun y _ => by
      unfold wparts
      rw [List.flatMap_assoc]
      have e : Wl ((y.sub 0).flatMap fun z => (pp z).flatMap (·.sub 2)) = ((y.sub 0).map fun z => Wl ((pp z).flatMap (·.sub 2))).sum := sum_flatMap wt _ _
      rw [e]
      exact sum_le _ _ _ fun z _ => pp_sums z
    have h4 := words_le x
    unfold Qw at h4
    omega
  omega
/-- Texts in a row of one's own, told cell for cell. -/
theorem strs_block {w : World} {base : Nat} {v : Value} {xs : List ByteArray} (h : w.ownsRow base 9 1 v xs.length (xs.map Value.string)) (hb : base ≤ w.heap.size) : ∃ g ao cap, v = .slice ao xs.length cap ∧ base ≤ g ∧ (0 < xs.length → ao = some ⟨g, 0, none⟩ ∧ g < w.heap.size) ∧ xs.length ≤ cap ∧
    ∀ j (h : j < xs.length), w.cell? ⟨g, j, none⟩ = some (.string xs[j]) := by
  have hlt := h.lt
  rcases h.2 with ⟨h1, h2⟩ | ⟨g, cap, cur, hv, h1, h2, h3, h4⟩
  · have : xs = [] := List.length_eq_zero_iff.1 h2
    subst this
    exact ⟨w.heap.size, none, 0, h1, hb, fun h => by simp at h, Nat.le_refl _, fun j hj => by simp at hj⟩
  · subst hv
    refine ⟨g, some ⟨g, 0, none⟩, cap, rfl, h1, fun _ => ⟨rfl, (hlt g rfl).2⟩, h3, fun j hj => ?_⟩
    rw [h.cellAt j (by omega)]
    simp [hj]
/-- What a command's own step tells. -/
def kR (x : Nd) : Bool := (kdOf x == 12 && res (strOf x 1)) || (kdOf x == 14 && res (strOf x 1 ++ ⟨#[40, 41]⟩))
def aR (a : Nd) : Bool := res (strOf a 0)
noncomputable def pR (p : Nd) : Bool := (kdOf p == 2) && (nameF (strOf p 2) && res (strOf p 2))
noncomputable def ores (x : Nd) : Bool := (((kR x || (x.sub 1).any aR) || (oparts x).any pR) || (osums x).any sr) || namedR x
end Go.Proofs.Ytihbdacmgojapaa

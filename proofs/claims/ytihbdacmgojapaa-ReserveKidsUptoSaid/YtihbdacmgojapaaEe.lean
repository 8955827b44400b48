/- arith.Names: whether it tells a reserved one; conditions: as each theorem states. -/
import Derived.Test.YtihbdacmgojapaaEd
namespace Go.Proofs.Ytihbdacmgojapaa
open Go.RowKit

/-- Behind a step on a set: what was told, or r; at most c more. -/
def After (n0 : Nat) (t : TypeId) (bo : Nat) (v : Value) (xs : List ByteArray) (w : World) (r : Bool) (c : Nat) (w' : World) : Prop :=
  ∃ v' xs', SetAt n0 t w' bo v' xs' ∧ xs'.any res = (xs.any res || r) ∧ xs'.length ≤ xs.length + c ∧ Chg bo v v' w w'
theorem After.quiet {n0 : Nat} {t : TypeId} {bo : Nat} {v : Value} {xs : List ByteArray} {w w' : World} (h : SetAt n0 t w bo v xs) (hb : Below w.heap.size w w') : After n0 t bo v xs w false 0 w' :=
  ⟨v, xs, h.below hb, by simp, Nat.le_refl _, Chg.of_below hb⟩
theorem After.le {n0 : Nat} {t : TypeId} {bo : Nat} {v : Value} {xs : List ByteArray} {w w' : World} {r : Bool} {c c' : Nat} (h : After n0 t bo v xs w r c w') (hc : c ≤ c') : After n0 t bo v xs w r c' w' := by
  obtain ⟨v', xs', h1, h2, h3, h4⟩ := h
  exact ⟨v', xs', h1, h2, by omega, h4⟩
theorem After.from_ {n0 : Nat} {t : TypeId} {bo : Nat} {v : Value} {xs : List ByteArray} {w w1 w' : World} {r : Bool} {c : Nat} (hb : Below w.heap.size w w1) (h : After n0 t bo v xs w1 r c w') : After n0 t bo v xs w r c w' := by
  obtain ⟨v', xs', h1, h2, h3, h4⟩ := h
  exact ⟨v', xs', h1, h2, h3, (Chg.of_below hb).trans h4⟩
theorem After.then_ {n0 : Nat} {t : TypeId} {bo : Nat} {v v1 : Value} {xs xs1 : List ByteArray} {w w1 w' : World} {r r1 : Bool} {c c1 : Nat} (ha : xs1.any res = (xs.any res || r1)) (hl : xs1.length ≤ xs.length + c1) (hc : Chg bo v v1 w w1) (h : After n0 t bo v1 xs1 w1 r c w') : After n0 t bo v xs w (r1 || r) (c1 + c) w' := by
  obtain ⟨v', xs', h1, h2, h3, h4⟩ := h
  exact ⟨v', xs', h1, by rw [h2, ha, Bool.or_assoc], by omega, hc.trans h4⟩
theorem push_step {n0 : Nat} {t : TypeId} {bo : Nat} {v : Value} {xs : List ByteArray} {s : ByteArray} {V w2 : World} {o : Obj} {ao1 : Option Addr} {cap1 : Nat} (H : SetAt n0 t V bo v xs) (ht : t ≠ 9)
    (hown1 : w2.ownsRow n0 9 1 (.slice ao1 (xs.length + 1) cap1) (xs.length + 1) (xs.map Value.string ++ [[Value.string s]].flatten)) (hgrow1 : (V.alloc o).grownBy w2 v.ownBlock)
    (hat1 : (Value.slice ao1 (xs.length + 1) cap1).ownBlock = v.ownBlock ∨ (Value.slice ao1 (xs.length + 1) cap1).ownBlock = some (V.heap.size + 1)) :
    After n0 t bo v xs V (res s) 1 (w2.setCell ⟨bo, 0, none⟩ (.slice ao1 (xs.length + 1) cap1)) := by
  have hbz := H.box.lt
  have HNE : some bo ≠ v.ownBlock := H.box.not_row ht H.row
  have hb2 : Boxed (w2.setCell ⟨bo, 0, none⟩ (.slice ao1 (xs.length + 1) cap1)) bo t (.slice ao1 (xs.length + 1) cap1) := ((H.box.alloc _).kept hgrow1 HNE).set _
  have hne := far_of hat1 HNE (show bo < V.heap.size + 1 by omega)
  have hrow : (w2.setCell ⟨bo, 0, none⟩ (.slice ao1 (xs.length + 1) cap1)).ownsRow n0 9 1 (.slice ao1 (xs.length + 1) cap1) (xs ++ [s]).length ((xs ++ [s]).map Value.string) := by
    rw [List.length_append, List.map_append]
    exact ownsRow_keep hown1 fun k hk => (grownBy_setCell' w2 bo _).block k (hown1.lt k hk).2 fun e => hne (by rw [hk]; exact e.symm)
  have g1 := grownBy_setCell' w2 bo (.slice ao1 (xs.length + 1) cap1)
  refine ⟨_, xs ++ [s], ⟨hb2, hrow, H.le⟩, by rw [List.any_append]; simp, by simp, ⟨hgrow1.os, hgrow1.tape, hgrow1.output, ?_, fun k hk h1 h2 => ?_, ?_⟩⟩
  · have := g1.size
    have := hgrow1.size
    simp at this
    omega
  · have hk2 : k < w2.heap.size := by have := hgrow1.size; simp at this; omega
    rw [g1.block k hk2 (fun e => h1 (by injection e)), hgrow1.block k (by simp; omega) h2]
    exact Below.heap_alloc _ _ _ hk
  · rcases hat1 with h | h
    · exact .inl h
    · exact .inr ⟨_, h, by omega⟩
/-- Has a sum a reserved name? -/
def sr (x : Nd) : Bool := res (strOf x 1) || (x.sub 0).attach.any fun y => sr y.1
termination_by wt x
decreasing_by exact wt_sub y.2 (by omega)
theorem sr_is (x : Nd) : sr x = (res (strOf x 1) || (x.sub 0).any sr) := by rw [sr]; simp
theorem res_empty {s : ByteArray} (h : s.toList.isEmpty = true) : res s = false := by
  rw [ByteArray.toList_eq, List.isEmpty_iff] at h
  unfold res
  rw [h]
  rfl
abbrev NM (bo : Nat) : Value := .func (.func 59) #[] #[.pointer (some ⟨bo, 0, none⟩)]

set_option maxRecDepth 100000 in
set_option maxHeartbeats 2000000 in
theorem names1_any (n0 bo : Nat) (v : Value) (xs : List ByteArray) (op nm : ByteArray) (nn : Int) (ka : Option Addr) (kl kc : Nat) (w : World) (h : SetAt n0 28 w bo v xs) (hm : xs.length + 1 ≤ 8796093022208) :
    Calls Try.prog 59 #[.agg #[.string op, .string nm, .int .i64 nn, .slice ka kl kc], .pointer (some ⟨bo, 0, none⟩)] w fun e w' => e = .returned (.bool false) ∧ After n0 28 bo v xs w (res nm) 1 w' := by
  obtain ⟨i0, hi0, hz0, hz1, hz2⟩ := info_parts inf_str
  obtain ⟨V, hV⟩ : ∃ V, V = w.alloc (.cells #[.string op, .string nm, .int .i64 nn, .slice ka kl kc] 100) := ⟨_, rfl⟩
  have hbV : Below w.heap.size w V := hV ▸ (Below.refl _ _).alloc (Nat.le_refl _) _
  have hh := h.below hbV
  have c1 : V.cell? ⟨w.heap.size, 1, none⟩ = some (.string nm) := by rw [hV]; go_simp
  have hVs : V.heap.size = w.heap.size + 1 := by rw [hV]; simp
  have HBV := Lib.hid hbV
  by_cases h0 : nm.toList.isEmpty = true
  · have hne : (!nm.toList.isEmpty) = false := by rw [h0]; rfl
    have HR := Lib.hid (res_empty h0)
    have HH := Lib.hid h
    clear h hh
    go_enter Try.func59, Try.ntmps59
    go_wp2_with fail
    go_ret
    rw [← hV]
    exact ⟨by simp, by rw [HR.out]; exact (After.quiet HH.out HBV.out).le (Nat.zero_le _)⟩
  · have h0' : nm.toList.isEmpty = false := eq_false_of_ne_true h0
    have hne : (!nm.toList.isEmpty) = true := by rw [h0']; rfl
    obtain ⟨r, hr, hC⟩ := has_any n0 v xs nm V hh.row (by omega)
    have HC := Lib.hid hC
    have HR := Lib.hid hr
    have d0 := hh.box.cell
    have hbz := hh.box.lt
    have f0 := hh.box.frozen
    have hnz : n0 ≤ V.heap.size := by have := hh.le; omega
    have n1 : Hid (xs.length + 1 ≤ maxLen) := by show _ ≤ _; unfold maxLen; omega
    have n2 : Hid ((xs.length + 1) * 16 ≤ 140737488355328) := by show _ ≤ _; omega
    have HNE : Hid (some bo ≠ v.ownBlock) := hh.box.not_row (by decide) hh.row
    have HS : Hid (SlA (V.alloc (.cells #[.string nm] 9)) 1 (.slice (some ⟨V.heap.size, 0, none⟩) 1 1) [[.string nm]]) := sla_new V 9 [.string nm]
    rw [hVs] at HS
    have H := Lib.hid hh
    have HH := Lib.hid h
    clear h hh hC hr hbV h0
    have hd0 := d0
    rw [hV] at hd0
    cases r
    · go_enter Try.func59, Try.ntmps59
      go_wp2_with fail
      rw [← hV]
      clear hV hd0
      refine HC.out.mono ?_
      rintro e w1 ⟨rfl, rfl⟩
      go_wp2_with (at_builtin; refine wpList_append_sla _ rfl (.tmp 14) (.tmp 17) 28 rfl n0 9 i0 _ 1 16 Try.underlying28 hi0 hz0 hz1 hz2 rfl (by decide) v xs.length (xs.map Value.string) rfl (H.out.row.alloc _) _ [[.string nm]] 1 rfl rfl HS.out (strs_oneCell nm) n1.out n2.out (by simp; omega) (w1.heap.size + 1) (by simp) ?_; intro ao1 cap1 w2 hown1 hgrow1 hat1; have e0 := (hgrow1.cell_far ⟨bo, 0, none⟩ (by simp; omega) HNE.out).trans ((World.cell?_alloc_lt _ _ _ hbz).trans d0); have e1 := (hgrow1.frozen_far ⟨bo, 0, none⟩ (by simp; omega) HNE.out).trans ((World.frozen?_alloc_past _ _ _ (by simpa using hbz)).trans f0))
      go_ret
      exact ⟨by simp, After.from_ HBV.out (push_step H.out (by decide) hown1 hgrow1 hat1)⟩
    · go_enter Try.func59, Try.ntmps59
      go_wp2_with fail
      rw [← hV]
      clear hV hd0
      refine HC.out.mono ?_
      rintro e w1 ⟨rfl, rfl⟩
      go_wp2_with fail
      go_ret
      exact ⟨by simp, v, xs, H.out, (any_in (HR.out.1 (by trivial))).symm, Nat.le_succ _, Chg.of_below HBV.out⟩
end Go.Proofs.Ytihbdacmgojapaa

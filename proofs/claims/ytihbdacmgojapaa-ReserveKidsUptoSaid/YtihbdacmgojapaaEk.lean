/- dialect.sums; conditions: as each theorem states. -/
import Derived.Test.YtihbdacmgojapaaEj
namespace Go.Proofs.Ytihbdacmgojapaa
open Go.RowKit Go.Shelf
attribute [local go_sem] Oper.semAt_some

theorem pp_len (x : Nd) : (pp x).length ≤ wt x := by
  rw [pp_is, List.length_cons, List.length_append, List.length_flatMap, List.length_flatMap]
  have h := seven x
  have h0 : ((x.sub 0).map fun y => (pp y).length).sum ≤ Wl (x.sub 0) := sum_le _ _ _ fun y hy => pp_len y
  have h1 : ((x.sub 1).map fun y => (pp y).length).sum ≤ Wl (x.sub 1) := sum_le _ _ _ fun y hy => pp_len y
  omega
termination_by wt x
decreasing_by all_goals exact wt_sub hy (by omega)
theorem oparts_len (x : Nd) : (oparts x).length ≤ wt x := by
  unfold oparts
  rw [List.length_flatMap]
  have h := words_le x
  have h1 : ((words x).map fun w => (wparts w).length).sum ≤ Pw (words x) := sum_le _ _ _ fun w _ => by
    unfold wparts
    rw [List.length_flatMap]
    exact sum_le _ _ _ fun y _ => pp_len y
  unfold Qw at h
  omega
theorem asums_len (l : List Nd) : (l.flatMap (·.sub 1)).length ≤ Wl l := by
  rw [List.length_flatMap]
  exact sum_le _ _ _ fun x _ => by
    have h := seven x
    have h1 := length_le (x.sub 1)
    omega
theorem psums_len {W0 : World} {M : Nat} (l : List (PartA W0 M)) : ((l.map (·.1)).flatMap (·.sub 2)).length ≤ l.length * M := by
  rw [List.length_flatMap, List.map_map]
  induction l with
  | nil => simp
  | cons y l ih =>
    have h := seven y.1
    have h1 := length_le (y.1.sub 2)
    have h2 := y.2.2
    simp only [List.map_cons, List.sum_cons, Function.comp_def, List.length_cons, Nat.add_mul] at ih ⊢
    omega
/-- The variable's list, told as it grows. -/
def BoxL (n0 : Nat) (Wb : World) (bl : Nat) (L : List Nd) (W : World) : Prop := ∃ v, Boxed W bl 46 v ∧ Own W n0 100 4 v L ∧ Below n0 Wb W
theorem boxl_own {β : Type} (n0 B : Nat) (hB : n0 ≤ B) (Wb : World) (hz : n0 ≤ Wb.heap.size) (bl : Nat) (f : β → List Nd) : OwnFrom B (fun s W => BoxL n0 Wb bl (f s) W) := by
  rintro s X Y row ⟨v, h1, h2, h3⟩ hg hr
  refine ⟨v, h1.kept hg (fun e => ?_), ownsRow_keep h2 (fun k hk => hg.block k (h2.lt k hk).2 (fun e => ?_)), h3.grown hg (Nat.le_trans hz h3.size) (fun k hk => Nat.le_trans hB (hr k hk).1)⟩
  · obtain ⟨_, o, ho, hc⟩ := hr bl e.symm
    rw [show X.heap[bl]? = _ from h1] at ho
    cases ho
    cases hc
  · obtain ⟨_, o, ho, hc⟩ := hr k e.symm
    rcases h2.2 with ⟨rfl, _⟩ | ⟨g, cap, cur, rfl, _, hgb, _⟩
    · simp [Value.ownBlock] at hk
    · have : g = k := by simpa [Value.ownBlock] using hk
      subst this
      rw [hgb] at ho
      cases ho
      cases hc

set_option maxRecDepth 100000 in
set_option maxHeartbeats 8000000 in
theorem sums_any (W0 : World) (x : Nd) (w : World) (hw : Wf W0 .cmd x) (hm : wt x ≤ 1048576) (hb : Below W0.heap.size W0 w) :
    Calls Try.prog 43 #[.agg x.c.toArray] w fun e w' => ∃ v', e = .returned v' ∧ Own w' w.heap.size 100 4 v' (osums x) ∧ Below w.heap.size w w' := by
  obtain ⟨i0, hi0, hz0, hz1, hz2⟩ := info_parts inf_sum
  have hw0 := hw
  have hol := oparts_len x
  have HOS : Hid (osums x = x.sub 6 ++ (x.sub 1).flatMap (·.sub 1) ++ (oparts x).flatMap (·.sub 2)) := rfl
  have HSTOP : Hid (∀ d bc (V : World), Below W0.heap.size W0 V → w.heap.size + 1 ≤ V.heap.size → (∀ i (hi : i < x.c.length), V.cell? ⟨bc, i, none⟩ = some x.c[i]) → bc < V.heap.size →
      SeqStopsK Fence.wide d Try.prog 50 #[.pointer (some ⟨bc, 0, none⟩)] (fun y : PartA W0 (wt x) => #[Value.agg y.1.c.toArray]) (KT TS (w.heap.size + 1)) (fun ys => ys.map (·.1) = oparts x) (fun pre => pre.map (·.1) <+: oparts x) (oparts x).length V) := fun d bc V h1 h2 h3 h4 =>
    own_stops W0 TS rfl rfl (w.heap.size + 1) (Nat.le_succ_of_le hb.size) (wt x) hm d x hw0 (Nat.le_refl _) bc V h1 h2 h3 h4
  obtain ⟨OP, hOP⟩ : ∃ L, L = oparts x := ⟨_, rfl⟩
  obtain ⟨OS, hOS⟩ : ∃ L, L = osums x := ⟨_, rfl⟩
  obtain ⟨M, hM⟩ : ∃ M, M = wt x := ⟨_, rfl⟩
  rw [← hOP] at HOS HSTOP hol
  rw [← hOS] at HOS ⊢
  rw [← hM] at HSTOP hol
  clear hOP hOS
  cases hw with
  | cmd a0 a1 a2 l2 a3 l3 a4 l4 a5 l5 a6 l6 a7 l7 a8 l8 a9 h2 q2 h3 q3 h4 q4 h5 q5 h6 q6 h7 q7 h8 q8 =>
    obtain ⟨oa2, cp2, rfl⟩ := h2.form
    obtain ⟨oa3, cp3, rfl⟩ := h3.form
    obtain ⟨oa4, cp4, rfl⟩ := h4.form
    obtain ⟨oa5, cp5, rfl⟩ := h5.form
    obtain ⟨oa6, cp6, rfl⟩ := h6.form
    obtain ⟨oa7, cp7, rfl⟩ := h7.form
    obtain ⟨oa8, cp8, rfl⟩ := h8.form
    have hsev := seven (.mk [.int .i64 a0, .string a1, .slice oa2 l2.length cp2, .slice oa3 l3.length cp3, .slice oa4 l4.length cp4, .slice oa5 l5.length cp5, .slice oa6 l6.length cp6, .slice oa7 l7.length cp7, .slice oa8 l8.length cp8, .int .i64 a9] [l2, l3, l4, l5, l6, l7, l8])
    simp only [Nd.sub, Nd.s, List.getD_cons_zero, List.getD_cons_succ] at hsev
    rw [← hM] at hsev hm
    have HOS' : Hid (OS = l8 ++ l3.flatMap (·.sub 1) ++ OP.flatMap (·.sub 2)) := HOS.out
    rw [show (Nd.mk [.int .i64 a0, .string a1, .slice oa2 l2.length cp2, .slice oa3 l3.length cp3, .slice oa4 l4.length cp4, .slice oa5 l5.length cp5, .slice oa6 l6.length cp6, .slice oa7 l7.length cp7, .slice oa8 l8.length cp8, .int .i64 a9] [l2, l3, l4, l5, l6, l7, l8]).c = [.int .i64 a0, .string a1, .slice oa2 l2.length cp2, .slice oa3 l3.length cp3, .slice oa4 l4.length cp4, .slice oa5 l5.length cp5, .slice oa6 l6.length cp6, .slice oa7 l7.length cp7, .slice oa8 l8.length cp8, .int .i64 a9] from rfl] at HSTOP ⊢
    have hl8 := length_le l8
    have has := asums_len l3
    have HCL : Hid (∀ V : World, Below W0.heap.size W0 V → Calls Try.prog 57 #[.slice oa8 l8.length cp8] V fun e w' => ∃ v', e = .returned v' ∧ Own w' V.heap.size 100 4 v' l8 ∧ Below V.heap.size V w') := fun V hV => clone_sums l8 _ V (h8.below (Nat.le_refl _) hV) (fun y hy => (one_sum (q8 y hy)).2) (by omega)
    have hn3 : l3.length ≤ 1048576 := by have := length_le l3; omega
    have HA8 : Hid (l8.length + (l3.flatMap (·.sub 1)).length ≤ 2097152) := by show _ ≤ _; omega
    obtain ⟨ao3, bb3, of3, ca3, hv3, hf3, hg3, hc3, hat3⟩ := h3.at
    obtain ⟨m3, hmm3⟩ : ∃ m, m = l3.length := ⟨_, rfl⟩
    rw [← hmm3] at hv3 hf3 hg3 hc3 hn3 HSTOP ⊢
    have HM3 := Lib.hid hmm3
    obtain ⟨rfl, rfl⟩ : oa3 = ao3 ∧ cp3 = ca3 := by simp only [Value.slice.injEq] at hv3; exact ⟨hv3.1, hv3.2.2⟩
    have HAT3 := Lib.hid hat3
    have HQ3 := Lib.hid q3
    have HML := Lib.hid hm
    clear hmm3 hv3 hat3 h3 q3 hsev HOS hM h2 h4 h5 h6 h7 h8 q2 q4 q5 q6 q7 q8 hl8 has hw0 hm
    obtain ⟨Wb, hWb⟩ : ∃ W, W = w.alloc (.cells #[.int .i64 a0, .string a1, .slice oa2 l2.length cp2, .slice oa3 m3 cp3, .slice oa4 l4.length cp4, .slice oa5 l5.length cp5, .slice oa6 l6.length cp6, .slice oa7 l7.length cp7, .slice oa8 l8.length cp8, .int .i64 a9] 48) := ⟨_, rfl⟩
    have hbWb : Below w.heap.size w Wb := hWb ▸ (Below.refl _ _).alloc (Nat.le_refl _) _
    have hWs : Wb.heap.size = w.heap.size + 1 := by rw [hWb]; simp
    have HbW := Lib.hid hbWb
    have HB : Hid (Below W0.heap.size W0 Wb) := hb.trans (hbWb.mono hb.size)
    have HCC : Hid (∀ i, Wb.cell? ⟨w.heap.size, i, none⟩ = (#[.int .i64 a0, .string a1, .slice oa2 l2.length cp2, .slice oa3 m3 cp3, .slice oa4 l4.length cp4, .slice oa5 l5.length cp5, .slice oa6 l6.length cp6, .slice oa7 l7.length cp7, .slice oa8 l8.length cp8, .int .i64 a9] : Array Value)[i]?) := fun i => by rw [hWb, World.cell?_alloc_new]
    have e8x : Wb.cell? ⟨w.heap.size, 8, none⟩ = some (.slice oa8 l8.length cp8) := HCC.out 8
    clear hb hbWb
    refine (callsIn_wide (n := 5)).1 ?_
    refine callsIn_of_wp_marks Try.func43 rfl trivial ?_ rfl
    simp only [Try.ntmps43, List.size_toArray, List.length_cons, List.length_nil, Nat.reduceAdd, Nat.reduceSub, Array.replicate_succ, Array.replicate_zero, List.push_toArray, List.append_toArray, List.nil_append, List.cons_append]
    gi_wp2
    rw [← hWb]
    refine ⟨trivial, ?_⟩
    refine (callsIn_wide.2 (HCL.out Wb HB.out)).mono ?_
    rintro e w1 ⟨v1, rfl, ho1, hb1⟩
    obtain ⟨bl, hbl⟩ : ∃ bl, bl = w1.heap.size := ⟨_, rfl⟩
    obtain ⟨W1, hW1⟩ : ∃ W, W = w1.alloc (.cells #[v1] 46) := ⟨_, rfl⟩
    have hbW1 : Below w1.heap.size w1 W1 := hW1 ▸ (Below.refl _ _).alloc (Nat.le_refl _) _
    have HBX1 : Hid (BoxL (w.heap.size + 1) Wb bl l8 W1) := by
      refine ⟨v1, ?_, ?_, ?_⟩
      · rw [hW1, hbl]; exact Boxed.new w1 46 v1
      · rw [← hWs]; exact ownsRow_below ho1 hbW1
      · rw [← hWs]; exact hb1.trans (hbW1.mono hb1.size)
    have hblz : w.heap.size + 1 ≤ bl := by rw [hbl, ← hWs]; exact hb1.size
    have e3x : W1.cell? ⟨w.heap.size, 3, none⟩ = some (.slice oa3 m3 cp3) := (hbW1.cell (p := ⟨w.heap.size, 3, none⟩) (by show w.heap.size < _; omega)).trans ((hb1.cell (p := ⟨w.heap.size, 3, none⟩) (by show w.heap.size < _; omega)).trans (HCC.out 3))
    obtain ⟨ao1, cap1, rfl⟩ := ho1.form
    have e3y := e3x
    rw [hW1] at e3y
    clear ho1 hb1 hWb hbW1
    gi_wp2
    rw [← hW1]
    rw [← hbl]
    clear hW1 e3y hbl e8x
    gi_loopw [13] (fun i wr => ∃ k : Nat, k ≤ m3 ∧ i = .int .i64 k ∧ Hid (BoxL (w.heap.size + 1) Wb bl (l8 ++ (l3.take k).flatMap (·.sub 1)) wr)) (fun i _ => m3 - (intOf i).toNat)
    case atStart => exact ⟨0, Nat.zero_le _, rfl, by show BoxL _ _ _ _ _; rw [List.take_zero, List.flatMap_nil, List.append_nil]; exact HBX1.out⟩
    case round =>
      obtain ⟨k, hk, rfl, hbx⟩ := hrel
      by_cases hlt : k < m3
      · have hkl : k < l3.length := by rw [← HM3.out]; exact hlt
        obtain rfl := hf3 (by omega)
        have hgb := hg3 (by omega)
        have hwf := HQ3.out l3[k] (List.getElem_mem hkl)
        have hat := HAT3.out k hkl
        have hsn := fm_snoc (·.sub 1) l3 k hkl
        have hpl := fm_take_len (·.sub 1) l3 (k + 1)
        obtain ⟨v, hbv, ho, hbb⟩ := hbx.out
        have hbW : Below W0.heap.size W0 wr := HB.out.trans (hbb.mono (hWs ▸ HB.out.size))
        have hbz := hbv.lt
        have hne := hbv.not_row (by decide) ho
        obtain ⟨L, hL⟩ : ∃ L, L = l8 ++ (l3.take k).flatMap (·.sub 1) := ⟨_, rfl⟩
        rw [← hL] at ho
        have HL := Lib.hid hL
        obtain ⟨y, hy⟩ : ∃ y, y = l3[k] := ⟨_, rfl⟩
        rw [← hy] at hwf hat hsn
        clear hy hL
        cases hwf with
        | assign ya0 ya1 ya2 yl2 ya3 yl3 ya4 ya5 yl5 yh2 yq2 yh3 yq3 yh5 yq5 =>
          obtain ⟨yo2, yc2, rfl⟩ := yh2.form
          obtain ⟨yo3, yc3, rfl⟩ := yh3.form
          obtain ⟨yo5, yc5, rfl⟩ := yh5.form
          have hys : (Nd.mk [.string ya0, .string ya1, .slice yo2 yl2.length yc2, .slice yo3 yl3.length yc3, .bool ya4, .slice yo5 yl5.length yc5] [yl2, yl3, yl5]).sub 1 = yl3 := rfl
          rw [hys] at hsn
          have hn : L.length + yl3.length ≤ 2097152 := by
            have h1 := HA8.out
            have h2 := hpl
            rw [hsn] at h2
            rw [HL.out]
            simp only [List.length_append] at h2 ⊢
            omega
          have d0 : wr.cell? ⟨bb3, of3 + k * 6 + 0, none⟩ = some (.string ya0) := (hbW.cell (p := ⟨bb3, of3 + k * 6 + 0, none⟩) hgb).trans (hat 0 (by decide))
          have d1 : wr.cell? ⟨bb3, of3 + k * 6 + 1, none⟩ = some (.string ya1) := (hbW.cell (p := ⟨bb3, of3 + k * 6 + 1, none⟩) hgb).trans (hat 1 (by decide))
          have d2 : wr.cell? ⟨bb3, of3 + k * 6 + 2, none⟩ = some (.slice yo2 yl2.length yc2) := (hbW.cell (p := ⟨bb3, of3 + k * 6 + 2, none⟩) hgb).trans (hat 2 (by decide))
          have d3 : wr.cell? ⟨bb3, of3 + k * 6 + 3, none⟩ = some (.slice yo3 yl3.length yc3) := (hbW.cell (p := ⟨bb3, of3 + k * 6 + 3, none⟩) hgb).trans (hat 3 (by decide))
          have d4 : wr.cell? ⟨bb3, of3 + k * 6 + 4, none⟩ = some (.bool ya4) := (hbW.cell (p := ⟨bb3, of3 + k * 6 + 4, none⟩) hgb).trans (hat 4 (by decide))
          have d5 : wr.cell? ⟨bb3, of3 + k * 6 + 5, none⟩ = some (.slice yo5 yl5.length yc5) := (hbW.cell (p := ⟨bb3, of3 + k * 6 + 5, none⟩) hgb).trans (hat 5 (by decide))
          simp only [Nat.add_zero] at d0
          have n1 : Hid (L.length + yl3.length ≤ maxLen) := by show _ ≤ _; simp only [maxLen]; omega
          have n2 : Hid ((L.length + yl3.length) * 64 ≤ 140737488355328) := by show _ ≤ _; omega
          have HS : Hid (SlA wr 4 (.slice yo3 yl3.length yc3) (yl3.map Nd.c)) := yh3.below (Nat.le_refl _) hbW
          have HONE : Hid (∀ c ∈ yl3.map Nd.c, ∀ u ∈ c, u.oneCell' = true) := one_all fun y hy => (one_sum (yq3 y hy)).2
          obtain ⟨ao2, cap2, rfl⟩ := ho.form
          have HO := Lib.hid ho
          have HNE := Lib.hid hne
          have HBV := Lib.hid hbv
          have HBB := Lib.hid hbb
          have HSN := Lib.hid hsn
          have d9 := hbv.cell
          have f9 := hbv.frozen
          obtain ⟨V, hV⟩ : ∃ V, V = wr.alloc (.cells #[.string ya0, .string ya1, .slice yo2 yl2.length yc2, .slice yo3 yl3.length yc3, .bool ya4, .slice yo5 yl5.length yc5] 87) := ⟨_, rfl⟩
          clear hat hsn hpl hbW hne hbv hbb ho yh2 yh3 yh5 yq2 yq3 yq5 hbx hn hys
          gi_wp2_with (gi_at_builtin; refine wpListIn_append_sla _ rfl (.tmp 17) (.tmp 19) 46 rfl (w.heap.size + 1) 100 i0 _ 4 64 Try.underlying46 hi0 hz0 hz1 hz2 rfl (by decide) (.slice ao2 L.length cap2) L.length (L.map Nd.c).flatten rfl (HO.out.alloc _) (.slice yo3 yl3.length yc3) (yl3.map Nd.c) yl3.length (by rw [List.length_map]) rfl (HS.out.below (Nat.le_refl _) ((Below.refl _ _).alloc (Nat.le_refl _) _)) HONE.out n1.out n2.out (by simp; omega) _ rfl ?_; intro ao1 cap1 w2 hown1 hgrow1 hat1; have e0 := (hgrow1.cell_far ⟨bl, 0, none⟩ (by simp; omega) HNE.out).trans ((World.cell?_alloc_lt _ _ _ hbz).trans d9); have e1 := (hgrow1.frozen_far ⟨bl, 0, none⟩ (by simp; omega) HNE.out).trans ((World.frozen?_alloc_past _ _ _ (by simpa using hbz)).trans f9))
          have hwz : w.heap.size + 1 ≤ wr.heap.size := hWs ▸ HBB.out.size
          have HP := boxl_push (HBV.out.alloc _) (HO.out.alloc _) hblz hown1 hgrow1 hat1
          refine ⟨⟨k + 1, by omega, by go_num, ?_⟩, by simp [intOf]; omega⟩
          show BoxL _ _ _ _ _
          rw [HSN.out, ← List.append_assoc, ← HL.out]
          exact ⟨_, HP.1, HP.2.1, HBB.out.trans (((Below.refl _ wr).alloc hwz _).trans HP.2.2.1.below)⟩
      · obtain rfl : m3 = k := by omega
        have HBXk : Hid (BoxL (w.heap.size + 1) Wb bl (l8 ++ l3.flatMap (·.sub 1)) wr) := by
          have h := hbx.out
          rw [List.take_of_length_le (by rw [HM3.out]; exact Nat.le_refl _)] at h
          exact h
        obtain ⟨v, hv, ho, hbb⟩ := hbx.out
        have HBW : Hid (Below W0.heap.size W0 wr) := HB.out.trans (hbb.mono (hWs ▸ HB.out.size))
        have hwz : w.heap.size + 1 ≤ wr.heap.size := hWs ▸ hbb.size
        have HCD : Hid (∀ i, wr.cell? ⟨w.heap.size, i, none⟩ = (#[.int .i64 a0, .string a1, .slice oa2 l2.length cp2, .slice oa3 m3 cp3, .slice oa4 l4.length cp4, .slice oa5 l5.length cp5, .slice oa6 l6.length cp6, .slice oa7 l7.length cp7, .slice oa8 l8.length cp8, .int .i64 a9] : Array Value)[i]?) := fun i => (hbb.cell (p := ⟨w.heap.size, i, none⟩) (by show w.heap.size < _; omega)).trans (HCC.out i)
        have d0 : wr.cell? ⟨w.heap.size, 0, none⟩ = some (.int .i64 a0) := HCD.out 0
        have d1 : wr.cell? ⟨w.heap.size, 1, none⟩ = some (.string a1) := HCD.out 1
        have d2 : wr.cell? ⟨w.heap.size, 2, none⟩ = some (.slice oa2 l2.length cp2) := HCD.out 2
        have d3 : wr.cell? ⟨w.heap.size, 3, none⟩ = some (.slice oa3 m3 cp3) := HCD.out 3
        have d4 : wr.cell? ⟨w.heap.size, 4, none⟩ = some (.slice oa4 l4.length cp4) := HCD.out 4
        have d5 : wr.cell? ⟨w.heap.size, 5, none⟩ = some (.slice oa5 l5.length cp5) := HCD.out 5
        have d6 : wr.cell? ⟨w.heap.size, 6, none⟩ = some (.slice oa6 l6.length cp6) := HCD.out 6
        have d7 : wr.cell? ⟨w.heap.size, 7, none⟩ = some (.slice oa7 l7.length cp7) := HCD.out 7
        have d8 : wr.cell? ⟨w.heap.size, 8, none⟩ = some (.slice oa8 l8.length cp8) := HCD.out 8
        have d9 : wr.cell? ⟨w.heap.size, 9, none⟩ = some (.int .i64 a9) := HCD.out 9
        clear hv ho hbb hbx
        gi_wp2
        refine ⟨trivial, ?_⟩
        refine (ownc_any _ _ _ ⟨_, _, _, _, _, _, _, _, _, _, rfl⟩).mono ?_
        rintro e w3 ⟨rfl, rfl⟩
        obtain ⟨V, hV⟩ : ∃ V, V = wr.alloc (.cells #[.int .i64 a0, .string a1, .slice oa2 l2.length cp2, .slice oa3 m3 cp3, .slice oa4 l4.length cp4, .slice oa5 l5.length cp5, .slice oa6 l6.length cp6, .slice oa7 l7.length cp7, .slice oa8 l8.length cp8, .int .i64 a9] 48) := ⟨_, rfl⟩
        have hbV : Below wr.heap.size wr V := hV ▸ (Below.refl _ _).alloc (Nat.le_refl _) _
        have hVz : V.heap.size = wr.heap.size + 1 := by rw [hV]; simp
        have hVc : ∀ i, V.cell? ⟨wr.heap.size, i, none⟩ = (#[.int .i64 a0, .string a1, .slice oa2 l2.length cp2, .slice oa3 m3 cp3, .slice oa4 l4.length cp4, .slice oa5 l5.length cp5, .slice oa6 l6.length cp6, .slice oa7 l7.length cp7, .slice oa8 l8.length cp8, .int .i64 a9] : Array Value)[i]? := fun i => by rw [hV, World.cell?_alloc_new]
        have HBV : Hid (Below W0.heap.size W0 V) := HBW.out.trans (hbV.mono HBW.out.size)
        have HBXV : Hid (BoxL (w.heap.size + 1) Wb bl (l8 ++ l3.flatMap (·.sub 1)) V) := by
          rw [hV]
          exact (boxl_own (w.heap.size + 1) (w.heap.size + 1) (Nat.le_refl _) Wb (by rw [hWs]; exact Nat.le_refl _) bl (fun s : List Nd => s)).alloc _ HBXk.out
        rw [← hV]
        clear hV d0 d1 d2 d3 d4 d5 d6 d7 d8 d9
        obtain ⟨L1, hL1⟩ : ∃ L, L = l8 ++ l3.flatMap (·.sub 1) := ⟨_, rfl⟩
        rw [← hL1] at HBXV HBXk HOS'
        have HL1 : Hid (L1.length ≤ 2097152) := by
          show _ ≤ _
          have := HA8.out
          rw [hL1, List.length_append]
          exact this
        have hHS := HSTOP.out 4 wr.heap.size V HBV.out (by omega) (fun i hi => by
          rw [hVc i]
          simp only [List.getElem?_toArray]
          exact List.getElem?_eq_getElem hi) (by omega)
        have HVc := Lib.hid hVc
        clear hVc hL1
        have hVb : w.heap.size + 1 ≤ V.heap.size := by omega
        gi_wp2
        refine wpIn_rangeFunc_ownH rfl (by decide) (gf := 50) (lb := #[.pointer (some ⟨wr.heap.size, 0, none⟩)]) rfl trivial (enters_of Try.func50 (by kernel_rfl) rfl)
          hHS KT.trans (fun W l o o' h1 h2 h3 _ => KT.putObj W l o o' (by omega) h2 h3) (Below.refl _ _) (fun _ => rfl)
          (fun pre W => BoxL (w.heap.size + 1) Wb bl (L1 ++ (pre.map (·.1)).flatMap (·.sub 2)) W)
          (fun _ _ _ => False)
          (boxl_own (w.heap.size + 1) V.heap.size hVb Wb (by rw [hWs]; exact Nat.le_refl _) bl (fun pre : List (PartA W0 M) => L1 ++ (pre.map (·.1)).flatMap (·.sub 2)))
          (fun _ _ _ _ _ hs _ _ => hs)
          (by rw [List.map_nil, List.flatMap_nil, List.append_nil]; exact HBXV.out)
          (fun x a' W => ∃ Bx, W.heap[Bx]? = some (.cells x.1.c.toArray 92 (0, 0)) ∧ a' = { tmps := #[.agg #[.int .i64 a0, .string a1, .slice oa2 l2.length cp2, .slice oa3 m3 cp3, .slice oa4 l4.length cp4, .slice oa5 l5.length cp5, .slice oa6 l6.length cp6, .slice oa7 l7.length cp7, .slice oa8 l8.length cp8, .int .i64 a9], .pointer (some ⟨w.heap.size, 0, none⟩), .slice none 0 0, .pointer (some ⟨bl, 0, none⟩), undef, u5, .pointer (some ⟨Bx, 0, none⟩), .pointer (some ⟨w.heap.size, 8, none⟩), .slice oa8 l8.length cp8, .slice ao1 l8.length cap1, .pointer (some ⟨w.heap.size, 3, none⟩), .slice oa3 m3 cp3, .int .i64 m3, .int .i64 m3, .bool false, u15, u16, u17, u18, u19, u20, u21, .agg #[.int .i64 a0, .string a1, .slice oa2 l2.length cp2, .slice oa3 m3 cp3, .slice oa4 l4.length cp4, .slice oa5 l5.length cp5, .slice oa6 l6.length cp6, .slice oa7 l7.length cp7, .slice oa8 l8.length cp8, .int .i64 a9], .func (.func 50) #[] #[.pointer (some ⟨wr.heap.size, 0, none⟩)], .agg x.1.c.toArray, undef, undef, undef, undef, undef], defers := [] })
          (fun x a' _ X Y row hs hg hr => by
            obtain ⟨Bx, h1, h2⟩ := hs
            refine ⟨Bx, (hg.block Bx (Array.getElem?_eq_some_iff.1 h1).1 (fun e => ?_)).trans h1, h2⟩
            obtain ⟨_, o, ho, hc⟩ := hr Bx e.symm
            rw [h1] at ho
            cases ho
            cases hc)
          ?asg ?bdy ?dne ?stp
        case asg =>
          rintro l pre ⟨x, hx1, hx2⟩ W K hI hK
          cases hx1 with
          | part za0 za1 za2 za3 za4 za5 zl5 za6 zl6 za7 zl7 za8 zl8 za9 zh5 zq5 zh6 zq6 zh7 zq7 zh8 zq8 =>
            obtain ⟨zo5, zc5, rfl⟩ := zh5.form
            obtain ⟨zo6, zc6, rfl⟩ := zh6.form
            obtain ⟨zo7, zc7, rfl⟩ := zh7.form
            obtain ⟨zo8, zc8, rfl⟩ := zh8.form
            obtain ⟨v, hv, ho, hbb⟩ := hI
            have hz : w.heap.size + 1 ≤ W.heap.size := hWs ▸ hbb.size
            dsimp only [Nd.c] at hK ⊢
            gi_wp2
            exact hK _ _ ((KeepsOthers.alloc _ _).from _) (KT.quiet hz ((Below.refl _ _).alloc (Nat.le_refl _) _)) ⟨v, hv.alloc _, ho.alloc _, hbb.alloc hz _⟩ ⟨W.heap.size, World.alloc_heap_new _ _, rfl⟩
        case bdy =>
          rintro l pre ⟨x, hx1, hx2⟩ a' W hl ⟨r, hr⟩ hI ⟨Bx, hBx, rfl⟩ hlt
          have hsev := seven x
          have hl7 := length_le (x.sub 2)
          obtain ⟨v, hbv, ho, hbb⟩ := hI
          have hbW : Below W0.heap.size W0 W := HB.out.trans (hbb.mono (hWs ▸ HB.out.size))
          have hps := psums_len pre
          have hpm : pre.length * M ≤ 1048576 * 1048576 := Nat.mul_le_mul (by have := HML.out; omega) HML.out
          obtain ⟨L, hL⟩ : ∃ L, L = L1 ++ (pre.map (·.1)).flatMap (·.sub 2) := ⟨_, rfl⟩
          rw [← hL] at ho
          have hLn : L.length + (x.sub 2).length ≤ 1099514773504 := by
            have h1 := HL1.out
            have h2 := HML.out
            rw [hL, List.length_append]
            omega
          have hsn : L1 ++ ((pre ++ [(⟨x, hx1, hx2⟩ : PartA W0 M)]).map (·.1)).flatMap (·.sub 2) = L ++ x.sub 2 := by
            rw [hL, List.map_append, List.flatMap_append, List.append_assoc]
            simp
          have hwz : w.heap.size + 1 ≤ W.heap.size := hWs ▸ hbb.size
          have hbz := hbv.lt
          have HNE := Lib.hid (hbv.not_row (by decide) ho)
          have HBB := Lib.hid hbb
          have HSN := Lib.hid hsn
          clear hsn hL
          cases hx1 with
          | part za0 za1 za2 za3 za4 za5 zl5 za6 zl6 za7 zl7 za8 zl8 za9 zh5 zq5 zh6 zq6 zh7 zq7 zh8 zq8 =>
            obtain ⟨zo5, zc5, rfl⟩ := zh5.form
            obtain ⟨zo6, zc6, rfl⟩ := zh6.form
            obtain ⟨zo7, zc7, rfl⟩ := zh7.form
            obtain ⟨zo8, zc8, rfl⟩ := zh8.form
            have hys : (Nd.mk [.int .i64 za0, .string za1, .string za2, .string za3, .bool za4, .slice zo5 zl5.length zc5, .slice zo6 zl6.length zc6, .slice zo7 zl7.length zc7, .slice zo8 zl8.length zc8, .int .i64 za9] [zl5, zl6, zl7, zl8]).sub 2 = zl7 := rfl
            rw [hys] at hLn HSN
            have d7 : W.cell? ⟨Bx, 7, none⟩ = some (.slice zo7 zl7.length zc7) := by simp [World.cell?, hBx, Nd.c]
            have d9 := hbv.cell
            have f9 := hbv.frozen
            have HS : Hid (SlA W 4 (.slice zo7 zl7.length zc7) (zl7.map Nd.c)) := zh7.below (Nat.le_refl _) hbW
            have HONE : Hid (∀ c ∈ zl7.map Nd.c, ∀ u ∈ c, u.oneCell' = true) := one_all fun y hy => (one_sum (zq7 y hy)).2
            have n1 : Hid (L.length + zl7.length ≤ maxLen) := by show _ ≤ _; simp only [maxLen]; omega
            have n2 : Hid ((L.length + zl7.length) * 64 ≤ 140737488355328) := by show _ ≤ _; omega
            obtain ⟨ao2, cap2, rfl⟩ := ho.form
            have HO := Lib.hid ho
            have HBV := Lib.hid hbv
            clear hBx ho hbv hbb hbW hsev hl7 hps hpm hLn hys
            gi_wp2_with (gi_at_builtin; refine wpListIn_append_sla _ rfl (.tmp 25) (.tmp 27) 46 rfl (w.heap.size + 1) 100 i0 _ 4 64 Try.underlying46 hi0 hz0 hz1 hz2 rfl (by decide) (.slice ao2 L.length cap2) L.length (L.map Nd.c).flatten rfl HO.out (.slice zo7 zl7.length zc7) (zl7.map Nd.c) zl7.length (by rw [List.length_map]) rfl HS.out HONE.out n1.out n2.out hwz _ rfl ?_; intro ao1 cap1 w2 hown1 hgrow1 hat1; have e0 := (hgrow1.cell_far ⟨bl, 0, none⟩ hbz HNE.out).trans d9; have e1 := (hgrow1.frozen_far ⟨bl, 0, none⟩ hbz HNE.out).trans f9)
            have HP := boxl_push HBV.out HO.out hblz hown1 hgrow1 hat1
            refine ⟨HP.2.2.2.from _, HP.2.2.1, ?_⟩
            show BoxL _ _ _ _ _
            rw [HSN.out]
            exact ⟨_, HP.1, HP.2.1, HBB.out.trans HP.2.2.1.below⟩
        case dne =>
          rintro D zs W hD hS hI hK
          obtain ⟨v, hv, ho, hbb⟩ := hI
          have cB := hv.cell
          rw [hS] at ho
          have HOS2 : Hid (OS = L1 ++ OP.flatMap (·.sub 2)) := HOS'.out
          obtain ⟨L2, hL2⟩ : ∃ L, L = L1 ++ OP.flatMap (·.sub 2) := ⟨_, rfl⟩
          rw [← hL2] at HOS2 ho
          clear hL2
          obtain ⟨ao9, cap9, rfl⟩ := ho.form
          have HO := Lib.hid ho
          have HBB := Lib.hid hbb
          clear ho hbb
          gi_wp2
          refine ⟨by simp, .inl ⟨_, _, rfl, run_takeDeferred hK, ?_⟩⟩
          refine ⟨_, results_tmp rfl _ _ _, _, rfl, ?_, ?_⟩
          · rw [HOS2.out]
            exact ownsRow_putObj (ownsRow_base HO.out (Nat.le_succ _)) _ hK rfl
          · exact HbW.out.trans ((HBB.out.mono (Nat.le_succ _)).trans (belowK_b (w := w) (Nat.le_refl _) W D _ _ (by omega) hK rfl rfl))
        case stp =>
          rintro D c pre W _ _ h _
          exact h.elim
end Go.Proofs.Ytihbdacmgojapaa

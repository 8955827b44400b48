/- cowrieref14.Words; conditions: as each theorem states. -/
import Derived.Test.YtihbdacmgojapaaDi
namespace Go.Proofs.Ytihbdacmgojapaa
open Go.RowKit

set_option maxRecDepth 100000 in
set_option maxHeartbeats 8000000 in
theorem rwords_any (W0 : World) (x : Nd) (w : World) (hx : Wf W0 .cmd x) (hm : wt x ≤ 1048576) (hb : Below W0.heap.size W0 w) :
    Calls Try.prog 25 #[.agg x.c.toArray] w fun e w' => ∃ v', e = .returned v' ∧ Own w' w.heap.size 67 1 v' (words x) ∧ Below w.heap.size w w' := by
  obtain ⟨i0, hi0, hz0, hz1, hz2⟩ := info_parts inf_word
  have hwl := words_len x
  have hwm := words_le x
  cases hx with
  | cmd a0 a1 a2 l2 a3 l3 a4 l4 a5 l5 a6 l6 a7 l7 a8 l8 a9 h2 q2 h3 q3 h4 q4 h5 q5 h6 q6 h7 q7 h8 q8 =>
    obtain ⟨oa2, cp2, rfl⟩ := h2.form
    obtain ⟨oa3, cp3, rfl⟩ := h3.form
    obtain ⟨oa4, cp4, rfl⟩ := h4.form
    obtain ⟨oa5, cp5, rfl⟩ := h5.form
    obtain ⟨oa6, cp6, rfl⟩ := h6.form
    obtain ⟨oa7, cp7, rfl⟩ := h7.form
    obtain ⟨oa8, cp8, rfl⟩ := h8.form
    have hsev := seven (.mk [.int .i64 a0, .string a1, .slice oa2 l2.length cp2, .slice oa3 l3.length cp3, .slice oa4 l4.length cp4, .slice oa5 l5.length cp5, .slice oa6 l6.length cp6, .slice oa7 l7.length cp7, .slice oa8 l8.length cp8, .int .i64 a9] [l2, l3, l4, l5, l6, l7, l8])
    simp only [Nd.sub, Nd.s, List.getD_cons_zero, List.getD_cons_succ] at hsev
    have hWD : words (.mk [.int .i64 a0, .string a1, .slice oa2 l2.length cp2, .slice oa3 l3.length cp3, .slice oa4 l4.length cp4, .slice oa5 l5.length cp5, .slice oa6 l6.length cp6, .slice oa7 l7.length cp7, .slice oa8 l8.length cp8, .int .i64 a9] [l2, l3, l4, l5, l6, l7, l8]) = l2 ++ l3.flatMap awords ++ l4.map rword ++ l6.flatMap (·.sub 0) ++ l7.flatMap cw := rfl
    rw [hWD] at hwl ⊢
    rw [show (Nd.mk [.int .i64 a0, .string a1, .slice oa2 l2.length cp2, .slice oa3 l3.length cp3, .slice oa4 l4.length cp4, .slice oa5 l5.length cp5, .slice oa6 l6.length cp6, .slice oa7 l7.length cp7, .slice oa8 l8.length cp8, .int .i64 a9] [l2, l3, l4, l5, l6, l7, l8]).c.toArray = #[.int .i64 a0, .string a1, .slice oa2 l2.length cp2, .slice oa3 l3.length cp3, .slice oa4 l4.length cp4, .slice oa5 l5.length cp5, .slice oa6 l6.length cp6, .slice oa7 l7.length cp7, .slice oa8 l8.length cp8, .int .i64 a9] from rfl]
    have hlen : l2.length + (l3.flatMap awords).length + l4.length + (l6.flatMap (·.sub 0)).length + (l7.flatMap cw).length ≤ 1048576 := by
      simp only [List.length_append, List.length_map] at hwl
      omega
    have HLEN := Lib.hid hlen
    clear hwl hwm hWD hlen
    have HCW : Hid (∀ V : World, Below W0.heap.size W0 V → Calls Try.prog 35 #[.slice oa7 l7.length cp7] V fun e w' => ∃ v', e = .returned v' ∧ Own w' V.heap.size 67 1 v' (l7.flatMap cw) ∧ Below V.heap.size V w') := fun V hV => conds_any W0 _ l7 _ V (Nat.le_refl _) q7 h7 hV (by omega)
    have HCO : Hid (∀ y ∈ l7.flatMap cw, Wf W0 .word y) := fun y hy => by
      obtain ⟨z, hz, hy⟩ := List.mem_flatMap.1 hy
      exact cond_words _ z (Nat.le_refl _) (q7 z hz) y hy
    have hn3 : l3.length ≤ 1048576 := by have := length_le l3; omega
    obtain ⟨ao3, bb3, of3, ca3, hv3, hf3, hg3, hc3, hat3⟩ := h3.at
    obtain ⟨m3, hmm3⟩ : ∃ m, m = l3.length := ⟨_, rfl⟩
    rw [← hmm3] at hv3 hf3 hg3 hc3 hn3 ⊢
    have HM3 := Lib.hid hmm3
    obtain ⟨rfl, rfl⟩ : oa3 = ao3 ∧ cp3 = ca3 := by simp only [Value.slice.injEq] at hv3; exact ⟨hv3.1, hv3.2.2⟩
    have HAT3 := Lib.hid hat3
    have HQ3 := Lib.hid q3
    clear hmm3 hv3 hat3 h3 q3
    have hn4 : l4.length ≤ 1048576 := by have := length_le l4; omega
    obtain ⟨ao4, bb4, of4, ca4, hv4, hf4, hg4, hc4, hat4⟩ := h4.at
    obtain ⟨m4, hmm4⟩ : ∃ m, m = l4.length := ⟨_, rfl⟩
    rw [← hmm4] at hv4 hf4 hg4 hc4 hn4 ⊢
    have HM4 := Lib.hid hmm4
    obtain ⟨rfl, rfl⟩ : oa4 = ao4 ∧ cp4 = ca4 := by simp only [Value.slice.injEq] at hv4; exact ⟨hv4.1, hv4.2.2⟩
    have HAT4 := Lib.hid hat4
    have HQ4 := Lib.hid q4
    clear hmm4 hv4 hat4 h4 q4
    have hn6 : l6.length ≤ 1048576 := by have := length_le l6; omega
    obtain ⟨ao6, bb6, of6, ca6, hv6, hf6, hg6, hc6, hat6⟩ := h6.at
    obtain ⟨m6, hmm6⟩ : ∃ m, m = l6.length := ⟨_, rfl⟩
    rw [← hmm6] at hv6 hf6 hg6 hc6 hn6 ⊢
    have HM6 := Lib.hid hmm6
    obtain ⟨rfl, rfl⟩ : oa6 = ao6 ∧ cp6 = ca6 := by simp only [Value.slice.injEq] at hv6; exact ⟨hv6.1, hv6.2.2⟩
    have HAT6 := Lib.hid hat6
    have HQ6 := Lib.hid q6
    clear hmm6 hv6 hat6 h6 q6
    have H2 := Lib.hid h2
    have HL2 : Hid (∀ c ∈ l2.map Nd.c, ∀ u ∈ c, u.oneCell' = true) := one_all fun y hy => (one_word (q2 y hy)).2
    have n1 : Hid (0 + l2.length ≤ maxLen) := by show _ ≤ _; have := HLEN.out; unfold maxLen; omega
    have n2 : Hid ((0 + l2.length) * 24 ≤ 140737488355328) := by show _ ≤ _; have := HLEN.out; omega
    clear hsev h2 q2 h5 q5 h7 q7 h8 q8
    obtain ⟨W, hW⟩ : ∃ W, W = w.alloc (.cells #[.int .i64 a0, .string a1, .slice oa2 l2.length cp2, .slice oa3 m3 cp3, .slice oa4 m4 cp4, .slice oa5 l5.length cp5, .slice oa6 m6 cp6, .slice oa7 l7.length cp7, .slice oa8 l8.length cp8, .int .i64 a9] 48) := ⟨_, rfl⟩
    have hbW : Below w.heap.size w W := hW ▸ (Below.refl _ _).alloc (Nat.le_refl _) _
    have HbW := Lib.hid hbW
    have HB : Hid (Below W0.heap.size W0 W) := hb.trans (hbW.mono hb.size)
    have hgW : w.heap.size < W.heap.size := by rw [hW]; simp
    have HC : Hid (∀ i, W.cell? ⟨w.heap.size, i, none⟩ = (#[.int .i64 a0, .string a1, .slice oa2 l2.length cp2, .slice oa3 m3 cp3, .slice oa4 m4 cp4, .slice oa5 l5.length cp5, .slice oa6 m6 cp6, .slice oa7 l7.length cp7, .slice oa8 l8.length cp8, .int .i64 a9] : Array Value)[i]?) := fun i => by rw [hW, World.cell?_alloc_new]
    have e2 : W.cell? ⟨w.heap.size, 2, none⟩ = some (.slice oa2 l2.length cp2) := HC.out 2
    have HS2 : Hid (SlA W 1 (.slice oa2 l2.length cp2) (l2.map Nd.c)) := H2.out.below (Nat.le_refl _) HB.out
    clear hb
    go_enter Try.func25, Try.ntmps25
    go_wp2_with (at_builtin; rw [← hW]; refine wpList_append_sla _ rfl (.tmp 7) (.tmp 9) 40 rfl W.heap.size 67 i0 _ 1 24 Try.underlying40 hi0 hz0 hz1 hz2 rfl (by decide) (.slice none 0 0) 0 [] rfl (World.ownsRow_nil _ _ _ _) _ (l2.map Nd.c) l2.length (by rw [List.length_map]) rfl HS2.out HL2.out n1.out n2.out (Nat.le_refl _) W.heap.size rfl ?_; intro ao0 cap0 w1 hown0 hgrow0 hat0)
    have HO1 : Hid (Own w1 W.heap.size 67 1 (.slice ao0 l2.length cap0) l2) := by
      have := hown0
      rw [List.nil_append] at this
      simp only [Nat.zero_add] at this
      exact this
    have HB1 : Hid (Below W.heap.size W w1) := (Below.refl _ _).grown hgrow0 (Nat.le_refl _) (fun k hk => by cases hk)
    clear hown0 hgrow0 hat0 n1 n2 hbW
    skip
    go_loopw [3, 4] (fun ov i wr => ∃ k : Nat, k ≤ m3 ∧ i = .int .i64 k ∧ Hid (Own wr W.heap.size 67 1 ov (l2 ++ (l3.take k).flatMap awords)) ∧ Hid (Below W.heap.size W wr)) (fun _ i _ => m3 - (intOf i).toNat)
    case atStart => exact ⟨0, Nat.zero_le _, rfl, by rw [List.take_zero, List.flatMap_nil, List.append_nil]; exact HO1.out, HB1.out⟩
    case round =>
      obtain ⟨k, hk, rfl, ho, hbr⟩ := hrel
      have e3x : wr.cell? ⟨w.heap.size, 3, none⟩ = some (.slice oa3 m3 cp3) := (hbr.out.cell (p := ⟨w.heap.size, 3, none⟩) hgW).trans (HC.out 3)
      by_cases hlt : k < m3
      · have hkl : k < l3.length := by rw [← HM3.out]; exact hlt
        have hfj := hf3 (by omega)
        subst hfj
        have hgb := hg3 (by omega)
        have hwf := HQ3.out l3[k] (List.getElem_mem hkl)
        have hat := HAT3.out k hkl
        have hsn := fm_snoc awords l3 k hkl
        obtain ⟨x, hx⟩ : ∃ x, x = l3[k] := ⟨_, rfl⟩
        rw [← hx] at hwf hat hsn
        have hb0 : Below W0.heap.size W0 wr := HB.out.trans (hbr.out.mono HB.out.size)
        clear hx
        cases hwf with
        | assign b0 b1 b2 k2 b3 k3 b4 b5 k5 g2 r2 g3 r3 g5 r5 =>
          obtain ⟨p2, c2, rfl⟩ := g2.form
          obtain ⟨p3, c3, rfl⟩ := g3.form
          obtain ⟨p5, c5, rfl⟩ := g5.form
          have d2 : wr.cell? ⟨bb3, of3 + k * 6 + 2, none⟩ = some (.slice p2 k2.length c2) := (hb0.cell (p := ⟨bb3, of3 + k * 6 + 2, none⟩) hgb).trans (hat 2 (by decide))
          have d5 : wr.cell? ⟨bb3, of3 + k * 6 + 5, none⟩ = some (.slice p5 k5.length c5) := (hb0.cell (p := ⟨bb3, of3 + k * 6 + 5, none⟩) hgb).trans (hat 5 (by decide))
          obtain ⟨A, hA⟩ : ∃ A, A = l2 ++ (l3.take k).flatMap awords := ⟨_, rfl⟩
          rw [← hA] at ho
          have hAW : l2 ++ (l3.take (k + 1)).flatMap awords = A ++ ([WN (.slice p2 k2.length c2) k2] ++ k5) := by
            rw [hsn, ← List.append_assoc, ← hA]
            rfl
          have hlen : A.length + 1 + k5.length ≤ 1048576 := by
            have h1 := fm_take_len awords l3 (k + 1)
            have h2 := HLEN.out
            have h3 := congrArg List.length hAW
            simp only [List.length_append, List.length_cons, List.length_nil] at h3
            omega
          have HN1 : Hid (∀ c ∈ [[Value.slice p2 k2.length c2]], ∀ u ∈ c, u.oneCell' = true) := by
            intro c hc u hu
            simp only [List.mem_cons, List.not_mem_nil, or_false] at hc
            subst hc
            simp only [List.mem_cons, List.not_mem_nil, or_false] at hu
            subst hu
            rfl
          have HN5 : Hid (∀ c ∈ k5.map Nd.c, ∀ u ∈ c, u.oneCell' = true) := one_all fun y hy => (one_word (r5 y hy)).2
          have n1 : Hid (A.length + 1 ≤ maxLen) := by show _ ≤ _; unfold maxLen; omega
          have n2 : Hid ((A.length + 1) * 24 ≤ 140737488355328) := by show _ ≤ _; omega
          have n3 : Hid (A.length + 1 + k5.length ≤ maxLen) := by show _ ≤ _; unfold maxLen; omega
          have n4 : Hid ((A.length + 1 + k5.length) * 24 ≤ 140737488355328) := by show _ ≤ _; omega
          have HS5 := Lib.hid g5
          have HAW := Lib.hid hAW
          have HOV : Hid (Own wr W.heap.size 67 1 u3 A) := ho.out
          have hWz := hbr.out.size
          have hbbz : bb3 < wr.heap.size := Nat.lt_of_lt_of_le hgb hb0.size
          have HNB : Hid (some w.heap.size ≠ u3.ownBlock) := fun e => absurd (ho.out.lt _ e.symm).1 (Nat.not_le.2 hgW)
          have HNS : Hid (some bb3 ≠ u3.ownBlock) := fun e => absurd (ho.out.lt _ e.symm).1 (Nat.not_le.2 (Nat.lt_of_lt_of_le hgb HB.out.size))
          have HBV : Hid (Below W.heap.size W (wr.alloc (.cells #[.slice p2 k2.length c2] 67))) := hbr.out.alloc hWz _
          have hki : (k : Int) < (m3 : Int) := by omega
          clear ho g2 r2 g3 r3 g5 r5 hA hAW hlen hat hsn
          go_wp2_with fail
          go_region_held3 (fun w' => w'.cell? ⟨w.heap.size, 3, none⟩ = some (.slice (some ⟨bb3, of3, none⟩) m3 cp3) ∧ w'.cell? ⟨bb3, of3 + k * 6 + 2, none⟩ = some (.slice p2 k2.length c2) ∧ w'.cell? ⟨bb3, of3 + k * 6 + 5, none⟩ = some (.slice p5 k5.length c5)) (first | go_keep | (go_split_ands; refine ⟨?_, ?_, ?_⟩; all_goals (first | assumption | (rw [hgrow1.cell_far _ (by simp; omega) HNB.out]; assumption) | (rw [hgrow1.cell_far _ (by simp; omega) HNS.out]; assumption) | (rw [hgrow3.cell_far _ hzb hne3]; assumption) | (rw [hgrow3.cell_far _ hzs hne4]; assumption))))
            ((first | (refine step_append_sla _ (by rfl) (.tmp 18) (.tmp 25) 40 (by rfl) W.heap.size 67 i0 _ 1 24 Try.underlying40 hi0 hz0 hz1 hz2 (by rfl) (by decide) u3 A.length (A.map Nd.c).flatten (by rfl) (HOV.out.alloc _).drew _ [[.slice p2 k2.length c2]] 1 (by rfl) (by rfl) (SlA.drew (sla_new wr 67 [.slice p2 k2.length c2])) HN1.out n1.out n2.out (by simp; omega) (wr.heap.size + 1) (by simp) ?_; intro ao1 cap1 w1 hown1 hgrow1 hat1; have z1 := hgrow1.size; have hzb : w.heap.size < w1.heap.size := Nat.lt_of_lt_of_le (by simp; omega) z1; have hzs : bb3 < w1.heap.size := Nat.lt_of_lt_of_le (by simp; omega) z1; have hne3 := far_of hat1 HNB.out (by omega); have hne4 := far_of hat1 HNS.out (by omega); have hb1 := HBV.out.drew.grown hgrow1 (by simp; omega) (fun k hk => (HOV.out.lt k hk).1)) | (refine step_append_sla _ (by rfl) (.tmp 26) (.tmp 32) 40 (by rfl) W.heap.size 67 i0 _ 1 24 Try.underlying40 hi0 hz0 hz1 hz2 (by rfl) (by decide) _ _ _ (by rfl) hown1 _ (k5.map Nd.c) k5.length (by rw [List.length_map]) (by rfl) (HS5.out.below (Nat.le_refl _) (HB.out.trans (hb1.mono HB.out.size))) HN5.out n3.out n4.out hb1.size w1.heap.size (by rfl) ?_; intro ao3 cap3 w3 hown3 hgrow3 hat3) | fail))
          have HO3 : Hid (Own w3 W.heap.size 67 1 (.slice ao3 (A.length + 1 + k5.length) cap3) (l2 ++ (l3.take (k + 1)).flatMap awords)) := by
            show Own _ _ _ _ _ _
            rw [HAW.out, ← List.append_assoc]
            exact Own.push (by rw [List.length_append, List.map_append, List.flatten_append]; exact hown3)
          have HB3 := Lib.hid (hb1.grown hgrow3 hb1.size (fun k hk => (hown1.lt k hk).1))
          clear hown3 hgrow3 hown1 hgrow1 hat1 hat3 hb1
          go_wp2_with fail
          go_roundw
          case rel => exact ⟨k + 1, by omega, by go_num, HO3.out, HB3.out⟩
          case measure => simp [intOf]; omega
      · obtain rfl : k = m3 := by omega
        have HO : Hid (Own wr W.heap.size 67 1 u3 (l2 ++ l3.flatMap awords)) := by
          have := ho.out
          rw [List.take_of_length_le (by rw [HM3.out]; exact Nat.le_refl _)] at this
          exact this
        have HBR := Lib.hid hbr.out
        clear ho hbr
        go_wp2_with fail
        go_loopw [3, 5] (fun ov i wr => ∃ k : Nat, k ≤ m4 ∧ i = .int .i64 k ∧ Hid (Own wr W.heap.size 67 1 ov (l2 ++ l3.flatMap awords ++ (l4.take k).map rword)) ∧ Hid (Below W.heap.size W wr)) (fun _ i _ => m4 - (intOf i).toNat)
        case atStart => exact ⟨0, Nat.zero_le _, rfl, by rw [List.take_zero, List.map_nil, List.append_nil]; exact HO.out, HBR.out⟩
        case round =>
          obtain ⟨k, hk, rfl, ho, hbr⟩ := hrel
          have e4x : wr.cell? ⟨w.heap.size, 4, none⟩ = some (.slice oa4 m4 cp4) := (hbr.out.cell (p := ⟨w.heap.size, 4, none⟩) hgW).trans (HC.out 4)
          by_cases hlt : k < m4
          · have hkl : k < l4.length := by rw [← HM4.out]; exact hlt
            have hfj := hf4 (by omega)
            subst hfj
            have hgb := hg4 (by omega)
            have hwf := HQ4.out l4[k] (List.getElem_mem hkl)
            have hat := HAT4.out k hkl
            have hsn := (show (l4.take (k + 1)).map rword = (l4.take k).map rword ++ [rword l4[k]] by rw [take_snoc l4 k hkl, List.map_append]; rfl)
            obtain ⟨x, hx⟩ : ∃ x, x = l4[k] := ⟨_, rfl⟩
            rw [← hx] at hwf hat hsn
            have hb0 : Below W0.heap.size W0 wr := HB.out.trans (hbr.out.mono HB.out.size)
            clear hx
            cases hwf with
            | redir b0 b1 b2 k2 g2 r2 =>
              obtain ⟨p2, c2, rfl⟩ := g2.form
              have d2 : wr.cell? ⟨bb4, of4 + k * 3 + 2, none⟩ = some (.slice p2 k2.length c2) := (hb0.cell (p := ⟨bb4, of4 + k * 3 + 2, none⟩) hgb).trans (hat 2 (by decide))
              obtain ⟨A, hA⟩ : ∃ A, A = l2 ++ l3.flatMap awords ++ (l4.take k).map rword := ⟨_, rfl⟩
              rw [← hA] at ho
              have hAW : l2 ++ l3.flatMap awords ++ (l4.take (k + 1)).map rword = A ++ [WN (.slice p2 k2.length c2) k2] := by
                rw [hsn, ← List.append_assoc, ← hA]
                rfl
              have hlen : A.length + 1 ≤ 1048576 := by
                have h2 := HLEN.out
                have h3 := congrArg List.length hA
                have h4 := HM4.out
                simp only [List.length_append, List.length_map, List.length_take] at h3
                omega
              have HN1 : Hid (∀ c ∈ [[Value.slice p2 k2.length c2]], ∀ u ∈ c, u.oneCell' = true) := by
                intro c hc u hu
                simp only [List.mem_cons, List.not_mem_nil, or_false] at hc
                subst hc
                simp only [List.mem_cons, List.not_mem_nil, or_false] at hu
                subst hu
                rfl
              have n1 : Hid (A.length + 1 ≤ maxLen) := by show _ ≤ _; unfold maxLen; omega
              have n2 : Hid ((A.length + 1) * 24 ≤ 140737488355328) := by show _ ≤ _; omega
              have HAW := Lib.hid hAW
              have HOV : Hid (Own wr W.heap.size 67 1 u3 A) := ho.out
              have hWz := hbr.out.size
              have HBV : Hid (Below W.heap.size W (wr.alloc (.cells #[.slice p2 k2.length c2] 67))) := hbr.out.alloc hWz _
              have hki : (k : Int) < (m4 : Int) := by omega
              clear ho g2 r2 hA hAW hlen hat hsn
              go_wp2_with (at_builtin; refine wpList_append_sla _ rfl (.tmp 41) (.tmp 48) 40 rfl W.heap.size 67 i0 _ 1 24 Try.underlying40 hi0 hz0 hz1 hz2 rfl (by decide) u3 A.length (A.map Nd.c).flatten rfl (HOV.out.alloc _) _ [[.slice p2 k2.length c2]] 1 rfl rfl (sla_new wr 67 [.slice p2 k2.length c2]) HN1.out n1.out n2.out (by simp; omega) (wr.heap.size + 1) (by simp) ?_; intro ao1 cap1 w1 hown1 hgrow1 hat1)
              have HO3 : Hid (Own w1 W.heap.size 67 1 (.slice ao1 (A.length + 1) cap1) (l2 ++ l3.flatMap awords ++ (l4.take (k + 1)).map rword)) := by
                show Own _ _ _ _ _ _
                rw [HAW.out]
                exact Own.one hown1
              have HB3 := Lib.hid (HBV.out.grown hgrow1 (by simp; omega) (fun k hk => (HOV.out.lt k hk).1))
              clear hown1 hgrow1 hat1
              go_roundw
              case rel => exact ⟨k + 1, by omega, by go_num, HO3.out, HB3.out⟩
              case measure => simp [intOf]; omega
          · obtain rfl : k = m4 := by omega
            have HO : Hid (Own wr W.heap.size 67 1 u3 (l2 ++ l3.flatMap awords ++ l4.map rword)) := by
              have := ho.out
              rw [List.take_of_length_le (by rw [HM4.out]; exact Nat.le_refl _)] at this
              exact this
            have HBR := Lib.hid hbr.out
            clear ho hbr
            go_wp2_with fail
            go_loopw [3, 6] (fun ov i wr => ∃ k : Nat, k ≤ m6 ∧ i = .int .i64 k ∧ Hid (Own wr W.heap.size 67 1 ov (l2 ++ l3.flatMap awords ++ l4.map rword ++ (l6.take k).flatMap (·.sub 0))) ∧ Hid (Below W.heap.size W wr)) (fun _ i _ => m6 - (intOf i).toNat)
            case atStart => exact ⟨0, Nat.zero_le _, rfl, by rw [List.take_zero, List.flatMap_nil, List.append_nil]; exact HO.out, HBR.out⟩
            case round =>
              obtain ⟨k, hk, rfl, ho, hbr⟩ := hrel
              have e6x : wr.cell? ⟨w.heap.size, 6, none⟩ = some (.slice oa6 m6 cp6) := (hbr.out.cell (p := ⟨w.heap.size, 6, none⟩) hgW).trans (HC.out 6)
              by_cases hlt : k < m6
              · have hkl : k < l6.length := by rw [← HM6.out]; exact hlt
                have hfj := hf6 (by omega)
                subst hfj
                have hgb := hg6 (by omega)
                have hwf := HQ6.out l6[k] (List.getElem_mem hkl)
                have hat := HAT6.out k hkl
                have hsn := fm_snoc (fun y : Nd => y.sub 0) l6 k hkl
                obtain ⟨x, hx⟩ : ∃ x, x = l6[k] := ⟨_, rfl⟩
                rw [← hx] at hwf hat hsn
                have hb0 : Below W0.heap.size W0 wr := HB.out.trans (hbr.out.mono HB.out.size)
                clear hx
                cases hwf with
                | «case» b0 k0 y1 g0 r0 r1 =>
                  obtain ⟨p0, c0, rfl⟩ := g0.form
                  have d0 : wr.cell? ⟨bb6, of6 + k * 11 + 0, none⟩ = some (.slice p0 k0.length c0) := (hb0.cell (p := ⟨bb6, of6 + k * 11 + 0, none⟩) hgb).trans (hat 0 (by decide))
                  simp only [Nat.add_zero] at d0
                  obtain ⟨A, hA⟩ : ∃ A, A = l2 ++ l3.flatMap awords ++ l4.map rword ++ (l6.take k).flatMap (·.sub 0) := ⟨_, rfl⟩
                  rw [← hA] at ho
                  have hAW : l2 ++ l3.flatMap awords ++ l4.map rword ++ (l6.take (k + 1)).flatMap (·.sub 0) = A ++ k0 := by
                    rw [hsn, ← List.append_assoc, ← hA]
                    rfl
                  have hlen : A.length + k0.length ≤ 1048576 := by
                    have h1 := fm_take_len (·.sub 0) l6 (k + 1)
                    have h2 := HLEN.out
                    have h3 := congrArg List.length hAW
                    simp only [List.length_append, List.length_map] at h3
                    omega
                  have HN1 : Hid (∀ c ∈ k0.map Nd.c, ∀ u ∈ c, u.oneCell' = true) := one_all fun y hy => (one_word (r0 y hy)).2
                  have n1 : Hid (A.length + k0.length ≤ maxLen) := by show _ ≤ _; unfold maxLen; omega
                  have n2 : Hid ((A.length + k0.length) * 24 ≤ 140737488355328) := by show _ ≤ _; omega
                  have HAW := Lib.hid hAW
                  have HOV : Hid (Own wr W.heap.size 67 1 u3 A) := ho.out
                  have hWz := hbr.out.size
                  have HBV0 : Hid (Below W.heap.size W wr) := hbr.out
                  have HS0 : Hid (SlA wr 1 (.slice p0 k0.length c0) (k0.map Nd.c)) := g0.below (Nat.le_refl _) (HB.out.trans (HBV0.out.mono HB.out.size))
                  have hki : (k : Int) < (m6 : Int) := by omega
                  clear ho g0 r0 hA hAW hlen hat hsn
                  go_wp2_with (at_builtin; refine wpList_append_sla _ rfl (.tmp 57) (.tmp 63) 40 rfl W.heap.size 67 i0 _ 1 24 Try.underlying40 hi0 hz0 hz1 hz2 rfl (by decide) u3 A.length (A.map Nd.c).flatten rfl HOV.out _ (k0.map Nd.c) k0.length (by rw [List.length_map]) rfl HS0.out HN1.out n1.out n2.out hWz wr.heap.size rfl ?_; intro ao1 cap1 w1 hown1 hgrow1 hat1)
                  have HO3 : Hid (Own w1 W.heap.size 67 1 (.slice ao1 (A.length + k0.length) cap1) (l2 ++ l3.flatMap awords ++ l4.map rword ++ (l6.take (k + 1)).flatMap (·.sub 0))) := by
                    show Own _ _ _ _ _ _
                    rw [HAW.out]
                    exact Own.push hown1
                  have HB3 := Lib.hid (HBV0.out.grown hgrow1 hWz (fun k hk => (HOV.out.lt k hk).1))
                  clear hown1 hgrow1 hat1
                  go_roundw
                  case rel => exact ⟨k + 1, by omega, by go_num, HO3.out, HB3.out⟩
                  case measure => simp [intOf]; omega
              · obtain rfl : k = m6 := by omega
                have HO : Hid (Own wr W.heap.size 67 1 u3 (l2 ++ l3.flatMap awords ++ l4.map rword ++ l6.flatMap (·.sub 0))) := by
                  have := ho.out
                  rw [List.take_of_length_le (by rw [HM6.out]; exact Nat.le_refl _)] at this
                  exact this
                have HBR := Lib.hid hbr.out
                clear ho hbr
                have e7x : wr.cell? ⟨w.heap.size, 7, none⟩ = some (.slice oa7 l7.length cp7) := (HBR.out.cell (p := ⟨w.heap.size, 7, none⟩) hgW).trans (HC.out 7)
                obtain ⟨A, hA⟩ : ∃ A, A = l2 ++ l3.flatMap awords ++ l4.map rword ++ l6.flatMap (·.sub 0) := ⟨_, rfl⟩
                obtain ⟨B, hB⟩ : ∃ B, B = l7.flatMap cw := ⟨_, rfl⟩
                rw [← hA] at HO
                rw [← hB] at HCW HCO
                have hlen : A.length + B.length ≤ 1048576 := by
                  have h2 := HLEN.out
                  have h3 := congrArg List.length hA
                  have h4 := congrArg List.length hB
                  simp only [List.length_append, List.length_map] at h3
                  omega
                have n1 : Hid (A.length + B.length ≤ maxLen) := by show _ ≤ _; unfold maxLen; omega
                have n2 : Hid ((A.length + B.length) * 24 ≤ 140737488355328) := by show _ ≤ _; omega
                have HAB : Hid (A ++ B = l2 ++ l3.flatMap awords ++ l4.map rword ++ l6.flatMap (·.sub 0) ++ l7.flatMap cw) := by
                  show _ = _
                  rw [hA, hB]
                clear hA hB hlen
                go_wp2_with fail
                refine (HCW.out _ (HB.out.trans (HBR.out.mono HB.out.size))).mono ?_
                rintro e w2 ⟨v2, rfl, ho2, hb2⟩
                obtain ⟨ao2, cap2, rfl⟩ := ho2.form
                have HOE := Lib.hid (ownsRow_below HO.out hb2)
                have HSE := Lib.hid (ho2.sla (fun y hy => (one_word (HCO.out y hy)).1) (by decide))
                have HNE : Hid (∀ c ∈ B.map Nd.c, ∀ u ∈ c, u.oneCell' = true) := one_all fun y hy => (one_word (HCO.out y hy)).2
                have HBE := Lib.hid (HBR.out.trans (hb2.mono HBR.out.size))
                have hEz := HBE.out.size
                clear ho2 hb2
                go_wp2_with (at_builtin; refine wpList_append_sla _ rfl (.tmp 65) (.tmp 68) 40 rfl W.heap.size 67 i0 _ 1 24 Try.underlying40 hi0 hz0 hz1 hz2 rfl (by decide) u3 A.length (A.map Nd.c).flatten rfl HOE.out _ (B.map Nd.c) B.length (by rw [List.length_map]) rfl HSE.out HNE.out n1.out n2.out hEz w2.heap.size rfl ?_; intro ao1 cap1 w3 hown1 hgrow1 hat1)
                go_ret
                refine ⟨_, rfl, ?_, HbW.out.trans ((HBE.out.grown hgrow1 hEz (fun k hk => (HOE.out.lt k hk).1)).mono HbW.out.size)⟩
                rw [← HAB.out]
                exact ownsRow_base (Own.push hown1) HbW.out.size
end Go.Proofs.Ytihbdacmgojapaa

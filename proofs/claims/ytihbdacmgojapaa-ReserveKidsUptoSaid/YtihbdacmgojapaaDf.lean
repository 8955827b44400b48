/- cowrieref14.lists; conditions: as each theorem states. -/
import Derived.Test.YtihbdacmgojapaaDe
namespace Go.Proofs.Ytihbdacmgojapaa
open Go.RowKit

set_option maxRecDepth 100000 in
set_option maxHeartbeats 2000000 in
theorem lists_any (W0 : World) : ∀ (n : Nat) (l : List Nd) (v : Value) (w : World), Wl l ≤ n → (∀ y ∈ l, Wf W0 .part y) → SlA W0 10 v (l.map Nd.c) → Below W0.heap.size W0 w → Wl l ≤ 1048576 →
    Calls Try.prog 26 #[v] w fun e w' => ∃ v', e = .returned v' ∧ Own w' w.heap.size 48 10 v' (l.flatMap wi) ∧ Below w.heap.size w w' := by
  intro n
  induction n with
  | zero =>
    intro l v w hn hq hs hb hm
    have hl : l = [] := by
      have := length_le l
      exact List.length_eq_zero_iff.1 (by omega)
    subst hl
    obtain ⟨ao, cap, rfl⟩ := hs.form
    clear hs hq hm hn
    go_enter Try.func26, Try.ntmps26
    go_wp2_with fail
    go_loopw [3, 4] (fun ov i wr => ov = .slice none 0 0 ∧ i = .int .i64 0 ∧ wr = w) (fun _ _ _ => 0)
    case atStart => exact ⟨rfl, rfl, rfl⟩
    case round =>
      obtain ⟨rfl, rfl, rfl⟩ := hrel
      go_wp2_with fail
      go_ret
      exact ⟨_, rfl, Own.nil _ _ _ _, Below.refl _ _⟩
  | succ n ih =>
    intro l v w hn hq hs hb hm
    obtain ⟨i0, hi0, hz0, hz1, hz2⟩ := info_parts inf_cmd
    obtain ⟨ao, b, o, cap, rfl, hf, hg, hcap, hat⟩ := hs.at
    obtain ⟨m, hmm⟩ : ∃ m, m = l.length := ⟨_, rfl⟩
    have hml : m ≤ 1048576 := by have := length_le l; omega
    have HQ := Lib.hid hq
    have HAT := Lib.hid hat
    have HB := Lib.hid hb
    have HM := Lib.hid hmm
    rw [← hmm] at hf hg hcap ⊢
    clear hq hat hb hmm hs
    go_enter Try.func26, Try.ntmps26
    go_wp2_with fail
    go_loopw [3, 4] (fun ov i wr => ∃ k : Nat, k ≤ m ∧ i = .int .i64 k ∧ Hid (Own wr w.heap.size 48 10 ov ((l.take k).flatMap wi)) ∧ Hid (Below w.heap.size w wr)) (fun _ i _ => m - (intOf i).toNat)
    case atStart => exact ⟨0, Nat.zero_le _, rfl, Own.nil _ _ _ _, Below.refl _ _⟩
    case round =>
      obtain ⟨k, hk, rfl, ho, hbr⟩ := hrel
      by_cases hlt : k < m
      · have hkl : k < l.length := by rw [← HM.out]; exact hlt
        obtain rfl := hf (by omega)
        have hgb := hg (by omega)
        have hwf := HQ.out l[k] (List.getElem_mem hkl)
        have hat := HAT.out k hkl
        have hcw : (l.take (k + 1)).flatMap wi = (l.take k).flatMap wi ++ wi l[k] := fm_snoc wi l k hkl
        have hwk : wt l[k] ≤ Wl l := wt_mem (List.getElem_mem hkl)
        obtain ⟨x, hx⟩ : ∃ x, x = l[k] := ⟨_, rfl⟩
        rw [← hx] at hwf hat hcw hwk
        clear hx
        cases hwf with
        | part a0 a1 a2 a3 a4 a5 l5 a6 l6 a7 l7 a8 l8 a9 h5 q5 h6 q6 h7 q7 h8 q8 =>
          have hb0 : Below W0.heap.size W0 wr := HB.out.trans (hbr.out.mono HB.out.size)
          obtain ⟨oa5, cp5, rfl⟩ := h5.form
          obtain ⟨oa6, cp6, rfl⟩ := h6.form
          obtain ⟨oa7, cp7, rfl⟩ := h7.form
          obtain ⟨oa8, cp8, rfl⟩ := h8.form
          have d0 := (hb0.cell (p := ⟨b, o + k * 10 + 0, none⟩) hgb).trans (hat 0 (by decide))
          have d1 := (hb0.cell (p := ⟨b, o + k * 10 + 1, none⟩) hgb).trans (hat 1 (by decide))
          have d2 := (hb0.cell (p := ⟨b, o + k * 10 + 2, none⟩) hgb).trans (hat 2 (by decide))
          have d3 := (hb0.cell (p := ⟨b, o + k * 10 + 3, none⟩) hgb).trans (hat 3 (by decide))
          have d4 := (hb0.cell (p := ⟨b, o + k * 10 + 4, none⟩) hgb).trans (hat 4 (by decide))
          have d5 := (hb0.cell (p := ⟨b, o + k * 10 + 5, none⟩) hgb).trans (hat 5 (by decide))
          have d6 := (hb0.cell (p := ⟨b, o + k * 10 + 6, none⟩) hgb).trans (hat 6 (by decide))
          have d7 := (hb0.cell (p := ⟨b, o + k * 10 + 7, none⟩) hgb).trans (hat 7 (by decide))
          have d8 := (hb0.cell (p := ⟨b, o + k * 10 + 8, none⟩) hgb).trans (hat 8 (by decide))
          have d9 := (hb0.cell (p := ⟨b, o + k * 10 + 9, none⟩) hgb).trans (hat 9 (by decide))
          simp only [Nd.c, List.getElem?_cons_zero, List.getElem?_cons_succ, Nat.add_zero] at d0 d1 d2 d3 d4 d5 d6 d7 d8 d9
          obtain ⟨A, hA⟩ : ∃ A, A = (l.take k).flatMap wi := ⟨_, rfl⟩
          rw [← hA] at ho hcw
          have hsev := seven (.mk [.int .i64 a0, .string a1, .string a2, .string a3, .bool a4, .slice oa5 l5.length cp5, .slice oa6 l6.length cp6, .slice oa7 l7.length cp7, .slice oa8 l8.length cp8, .int .i64 a9] [l5, l6, l7, l8])
          simp only [Nd.sub, Nd.s, List.getD_cons_zero, List.getD_cons_succ] at hsev
          rw [wi_is] at hcw
          simp only [Nd.sub, Nd.s, List.getD_cons_zero, List.getD_cons_succ] at hcw
          have hlen : A.length + l8.length + (l5.flatMap wi).length + (l6.flatMap wi).length ≤ 1048576 := by
            have h3 := wi_len (l.take (k + 1))
            have h4 := Wl_take l (k + 1)
            rw [hcw] at h3
            simp only [List.length_append] at h3
            omega
          have HC5 : Hid (∀ V : World, Below W0.heap.size W0 V → Calls Try.prog 26 #[.slice oa5 l5.length cp5] V fun e w' => ∃ v', e = .returned v' ∧ Own w' V.heap.size 48 10 v' (l5.flatMap wi) ∧ Below V.heap.size V w') := fun V hV => ih l5 _ V (by omega) q5 h5 hV (by omega)
          have HC6 : Hid (∀ V : World, Below W0.heap.size W0 V → Calls Try.prog 26 #[.slice oa6 l6.length cp6] V fun e w' => ∃ v', e = .returned v' ∧ Own w' V.heap.size 48 10 v' (l6.flatMap wi) ∧ Below V.heap.size V w') := fun V hV => ih l6 _ V (by omega) q6 h6 hV (by omega)
          have hw5 := part_cmds_all (fun y hy => q5 y hy)
          have hw6 := part_cmds_all (fun y hy => q6 y hy)
          obtain ⟨B, hB⟩ : ∃ B, B = l5.flatMap wi := ⟨_, rfl⟩
          obtain ⟨C, hC⟩ : ∃ B, B = l6.flatMap wi := ⟨_, rfl⟩
          rw [← hB] at HC5 hcw hlen hw5
          rw [← hC] at HC6 hcw hlen hw6
          have HCW := Lib.hid hcw
          have HBL : Hid (∀ y ∈ B, y.c.length = 10) := fun y hy => (one_cmd (hw5 y hy)).1
          have HBO : Hid (∀ c ∈ B.map Nd.c, ∀ u ∈ c, u.oneCell' = true) := one_all fun y hy => (one_cmd (hw5 y hy)).2
          have HCL : Hid (∀ y ∈ C, y.c.length = 10) := fun y hy => (one_cmd (hw6 y hy)).1
          have HCO : Hid (∀ c ∈ C.map Nd.c, ∀ u ∈ c, u.oneCell' = true) := one_all fun y hy => (one_cmd (hw6 y hy)).2
          have HLO : Hid (∀ c ∈ l8.map Nd.c, ∀ u ∈ c, u.oneCell' = true) := one_all fun y hy => (one_cmd (q8 y hy)).2
          have n1 : Hid (A.length + l8.length ≤ maxLen) := by show _ ≤ _; unfold maxLen; omega
          have b1 : Hid ((A.length + l8.length) * 200 ≤ 140737488355328) := by show _ ≤ _; omega
          have n2 : Hid (A.length + l8.length + B.length ≤ maxLen) := by show _ ≤ _; unfold maxLen; omega
          have b2 : Hid ((A.length + l8.length + B.length) * 200 ≤ 140737488355328) := by show _ ≤ _; omega
          have n3 : Hid (A.length + l8.length + B.length + C.length ≤ maxLen) := by show _ ≤ _; unfold maxLen; omega
          have b3 : Hid ((A.length + l8.length + B.length + C.length) * 200 ≤ 140737488355328) := by show _ ≤ _; omega
          have HB0 := Lib.hid hb0
          have H8 := Lib.hid (h8.below (Nat.le_refl _) hb0)
          have hwW : w.heap.size ≤ wr.heap.size := hbr.out.size
          have HNE : Hid (some b ≠ u3.ownBlock) := fun e => absurd (ho.out.lt b e.symm).1 (Nat.not_le.2 (Nat.lt_of_lt_of_le hgb HB.out.size))
          clear hat hb0 hcw h5 h6 h7 h8 q5 q6 q7 q8 hA hB hC ih hlen hwk hsev hw5 hw6
          obtain ⟨W, hW⟩ : ∃ W, W = wr := ⟨_, rfl⟩
          have c8 : W.cell? ⟨b, o + k * 10 + 8, none⟩ = some (.slice oa8 l8.length cp8) := by rw [hW]; exact d8
          have c5 : W.cell? ⟨b, o + k * 10 + 5, none⟩ = some (.slice oa5 l5.length cp5) := by rw [hW]; exact d5
          have c6 : W.cell? ⟨b, o + k * 10 + 6, none⟩ = some (.slice oa6 l6.length cp6) := by rw [hW]; exact d6
          have hbW : Below wr.heap.size wr W := hW ▸ Below.refl _ _
          have HOW : Hid (Own W w.heap.size 48 10 u3 A) := ownsRow_below ho.out hbW
          have HSW : Hid (SlA W 10 (.slice oa8 l8.length cp8) (l8.map Nd.c)) := H8.out.below (Nat.le_refl _) hbW
          have HBW : Hid (Below W0.heap.size W0 W) := HB0.out.trans (hbW.mono HB0.out.size)
          have HBw : Hid (Below w.heap.size w W) := hbr.out.trans (hbW.mono hbr.out.size)
          have hgW : b < W.heap.size := Nat.lt_of_lt_of_le hgb HBW.out.size
          have hwW' : w.heap.size ≤ W.heap.size := HBw.out.size
          subst hW
          clear hbW H8 ho d0 d1 d2 d3 d4 d5 d6 d7 d8 d9
          go_wp2_with (at_builtin; refine wpList_append_sla _ rfl (.tmp 11) (.tmp 16) 43 rfl w.heap.size 48 i0 _ 10 200 Try.underlying43 hi0 hz0 hz1 hz2 rfl (by decide) u3 A.length (A.map Nd.c).flatten rfl HOW.out _ (l8.map Nd.c) l8.length (by rw [List.length_map]) rfl HSW.out HLO.out n1.out b1.out hwW' W.heap.size rfl ?_; intro ao1 cap1 w1 hown1 hgrow1 hat1; have e5 := (hgrow1.cell_far ⟨b, o + k * 10 + 5, none⟩ hgW HNE.out).trans c5; have e6 := (hgrow1.cell_far ⟨b, o + k * 10 + 6, none⟩ hgW HNE.out).trans c6; have f1 := far_of hat1 HNE.out hgW)
          refine (HC5.out w1 (HBW.out.grown hgrow1 HBW.out.size (fun k hk => Nat.le_trans HB.out.size (HOW.out.lt k hk).1))).mono ?_
          rintro e w2 ⟨v2, rfl, ho2, hb2⟩
          obtain ⟨ao2, cap2, rfl⟩ := ho2.form
          have z1 := hgrow1.size
          have e6' := (hb2.cell (p := ⟨b, o + k * 10 + 6, none⟩) (Nat.lt_of_lt_of_le hgW z1)).trans e6
          have g2 : b < w2.heap.size := Nat.lt_of_lt_of_le hgW (Nat.le_trans z1 hb2.size)
          have HO1 := Lib.hid (ownsRow_below hown1 hb2)
          have HS2 := Lib.hid (ho2.sla HBL.out (by decide))
          have HB1 : Hid (Below W0.heap.size W0 w2) := (HBW.out.grown hgrow1 HBW.out.size (fun k hk => Nat.le_trans HB.out.size (HOW.out.lt k hk).1)).trans (hb2.mono (Nat.le_trans HBW.out.size z1))
          have HW1 : Hid (Below w.heap.size w w2) := (HBw.out.grown hgrow1 HBw.out.size (fun k hk => (HOW.out.lt k hk).1)).trans (hb2.mono (Nat.le_trans HBw.out.size z1))
          have hz2' := HW1.out.size
          clear hown1 hgrow1 hat1 hb2 ho2 e5 e6 c5 c6 c8
          go_wp2_with (at_builtin; refine wpList_append_sla _ rfl (.tmp 18) (.tmp 24) 43 rfl w.heap.size 48 i0 _ 10 200 Try.underlying43 hi0 hz0 hz1 hz2 rfl (by decide) _ _ _ rfl HO1.out _ (B.map Nd.c) B.length (by rw [List.length_map]) rfl HS2.out HBO.out n2.out b2.out hz2' w2.heap.size rfl ?_; intro ao3 cap3 w3 hown3 hgrow3 hat3; have e6 := (hgrow3.cell_far ⟨b, o + k * 10 + 6, none⟩ g2 f1).trans e6'; have f3 := far_of hat3 f1 g2)
          refine (HC6.out w3 (HB1.out.grown hgrow3 HB1.out.size (fun k hk => Nat.le_trans HB.out.size (HO1.out.lt k hk).1))).mono ?_
          rintro e w4 ⟨v4, rfl, ho4, hb4⟩
          obtain ⟨ao4, cap4, rfl⟩ := ho4.form
          have z3 := hgrow3.size
          have HO3 := Lib.hid (ownsRow_below hown3 hb4)
          have HS4 := Lib.hid (ho4.sla HCL.out (by decide))
          have HW3 : Hid (Below w.heap.size w w4) := (HW1.out.grown hgrow3 hz2' (fun k hk => (HO1.out.lt k hk).1)).trans (hb4.mono (Nat.le_trans hz2' z3))
          have hz4' := HW3.out.size
          clear hown3 hgrow3 hat3 hb4 ho4 e6 e6'
          go_wp2_with (at_builtin; refine wpList_append_sla _ rfl (.tmp 26) (.tmp 32) 43 rfl w.heap.size 48 i0 _ 10 200 Try.underlying43 hi0 hz0 hz1 hz2 rfl (by decide) _ _ _ rfl HO3.out _ (C.map Nd.c) C.length (by rw [List.length_map]) rfl HS4.out HCO.out n3.out b3.out hz4' w4.heap.size rfl ?_; intro ao5 cap5 w5 hown5 hgrow5 hat5; have HW5 := Lib.hid (HW3.out.grown hgrow5 hz4' (fun k hk => (HO3.out.lt k hk).1)); have HO5 := Lib.hid hown5; clear hown5 hgrow5 hat5)
          go_roundw
          case rel =>
            refine ⟨k + 1, by omega, by go_num, ?_, HW5.out⟩
            show Own _ _ _ _ _ _
            rw [HCW.out, ← List.append_assoc, ← List.append_assoc]
            exact Own.push (by rw [List.length_append, List.map_append, List.flatten_append, List.length_append, List.map_append, List.flatten_append]; exact HO5.out)
          case measure => simp [intOf]; omega
      · go_wp2_with fail
        go_ret
        obtain rfl : k = m := by omega
        refine ⟨_, rfl, ?_, hbr.out⟩
        have := ho.out
        rw [List.take_of_length_le (by rw [HM.out]; exact Nat.le_refl _)] at this
        exact this
end Go.Proofs.Ytihbdacmgojapaa

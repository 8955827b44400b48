/- cowrieref14.conds; conditions: as each theorem states. -/
import Derived.Test.YtihbdacmgojapaaDf
namespace Go.Proofs.Ytihbdacmgojapaa
open Go.RowKit

set_option maxRecDepth 100000 in
set_option maxHeartbeats 2000000 in
theorem conds_any (W0 : World) : ∀ (n : Nat) (l : List Nd) (v : Value) (w : World), Wl l ≤ n → (∀ y ∈ l, Wf W0 .cond y) → SlA W0 3 v (l.map Nd.c) → Below W0.heap.size W0 w → Wl l ≤ 1048576 →
    Calls Try.prog 35 #[v] w fun e w' => ∃ v', e = .returned v' ∧ Own w' w.heap.size 67 1 v' (l.flatMap cw) ∧ Below w.heap.size w w' := by
  intro n
  induction n with
  | zero =>
    intro l v w hn hq hs hb hm
    have hl : l = [] := by
      have := length_le l
      exact List.length_eq_zero_iff.1 (by omega)
    subst hl
    obtain ⟨ao, cap, rfl⟩ := hs.form
    clear hs hq hm hn
    go_enter Try.func35, Try.ntmps35
    go_wp2_with fail
    go_loopw [3, 4] (fun ov i wr => ov = .slice none 0 0 ∧ i = .int .i64 0 ∧ wr = w) (fun _ _ _ => 0)
    case atStart => exact ⟨rfl, rfl, rfl⟩
    case round =>
      obtain ⟨rfl, rfl, rfl⟩ := hrel
      go_wp2_with fail
      go_ret
      exact ⟨_, rfl, Own.nil _ _ _ _, Below.refl _ _⟩
  | succ n ih =>
    intro l v w hn hq hs hb hm
    obtain ⟨i0, hi0, hz0, hz1, hz2⟩ := info_parts inf_word
    obtain ⟨ao, b, o, cap, rfl, hf, hg, hcap, hat⟩ := hs.at
    obtain ⟨m, hmm⟩ : ∃ m, m = l.length := ⟨_, rfl⟩
    have hml : m ≤ 1048576 := by have := length_le l; omega
    have HQ := Lib.hid hq
    have HAT := Lib.hid hat
    have HB := Lib.hid hb
    have HM := Lib.hid hmm
    rw [← hmm] at hf hg hcap ⊢
    clear hq hat hb hmm hs
    go_enter Try.func35, Try.ntmps35
    go_wp2_with fail
    go_loopw [3, 4] (fun ov i wr => ∃ k : Nat, k ≤ m ∧ i = .int .i64 k ∧ Hid (Own wr w.heap.size 67 1 ov ((l.take k).flatMap cw)) ∧ Hid (Below w.heap.size w wr)) (fun _ i _ => m - (intOf i).toNat)
    case atStart => exact ⟨0, Nat.zero_le _, rfl, Own.nil _ _ _ _, Below.refl _ _⟩
    case round =>
      obtain ⟨k, hk, rfl, ho, hbr⟩ := hrel
      by_cases hlt : k < m
      · have hkl : k < l.length := by rw [← HM.out]; exact hlt
        obtain rfl := hf (by omega)
        have hgb := hg (by omega)
        have hwf := HQ.out l[k] (List.getElem_mem hkl)
        have hat := HAT.out k hkl
        have hcw : (l.take (k + 1)).flatMap cw = (l.take k).flatMap cw ++ cw l[k] := fm_snoc cw l k hkl
        have hwk : wt l[k] ≤ Wl l := wt_mem (List.getElem_mem hkl)
        obtain ⟨x, hx⟩ : ∃ x, x = l[k] := ⟨_, rfl⟩
        rw [← hx] at hwf hat hcw hwk
        clear hx
        cases hwf with
        | cond a0 a1 l1 a2 l2 h1 q1 h2 q2 =>
          have hb0 : Below W0.heap.size W0 wr := HB.out.trans (hbr.out.mono HB.out.size)
          have d0 := (hb0.cell (p := ⟨b, o + k * 3 + 0, none⟩) hgb).trans (hat 0 (by decide))
          have d1 := (hb0.cell (p := ⟨b, o + k * 3 + 1, none⟩) hgb).trans (hat 1 (by decide))
          have d2 := (hb0.cell (p := ⟨b, o + k * 3 + 2, none⟩) hgb).trans (hat 2 (by decide))
          simp only [Nd.c, List.getElem?_cons_zero, List.getElem?_cons_succ, Nat.add_zero] at d0 d1 d2
          have H1 := Lib.hid (h1.below (Nat.le_refl _) hb0)
          have H2 := Lib.hid h2
          have Q1 := Lib.hid q1
          have Q2 := Lib.hid q2
          obtain ⟨oa1, cp1, rfl⟩ := h1.form
          obtain ⟨oa2, cp2, rfl⟩ := h2.form
          obtain ⟨A, hA⟩ : ∃ A, A = (l.take k).flatMap cw := ⟨_, rfl⟩
          rw [← hA] at ho hcw
          have hlen : A.length + l1.length + (l2.flatMap cw).length ≤ 1048576 := by
            have h3 := cw_len (l.take (k + 1))
            have h4 := Wl_take l (k + 1)
            rw [hcw, cw_is, List.length_append] at h3
            simp only [Nd.sub, Nd.s, List.getD_cons_zero, List.getD_cons_succ, List.length_append] at h3
            omega
          have hwl : Wl l2 + 1 ≤ wt (Nd.mk [.string a0, .slice oa1 l1.length cp1, .slice oa2 l2.length cp2] [l1, l2]) := by
            have := seven (Nd.mk [.string a0, .slice oa1 l1.length cp1, .slice oa2 l2.length cp2] [l1, l2])
            simp only [Nd.sub, Nd.s, List.getD_cons_zero, List.getD_cons_succ] at this
            omega
          have HC : Hid (∀ V : World, Below W0.heap.size W0 V → Calls Try.prog 35 #[.slice oa2 l2.length cp2] V fun e w' => ∃ v', e = .returned v' ∧ Own w' V.heap.size 67 1 v' (l2.flatMap cw) ∧ Below V.heap.size V w') := fun V hV => ih l2 _ V (by omega) Q2.out H2.out hV (by omega)
          have HCW : Hid ((l.take (k + 1)).flatMap cw = A ++ (l1 ++ l2.flatMap cw)) := by
            show _ = _
            rw [hcw, cw_is]
            rfl
          have hww : ∀ y ∈ l2.flatMap cw, Wf W0 .word y := fun y hy => by
            obtain ⟨z, hz, hy⟩ := List.mem_flatMap.1 hy
            exact cond_words _ z (Nat.le_refl _) (Q2.out z hz) y hy
          obtain ⟨B, hB⟩ : ∃ B, B = l2.flatMap cw := ⟨_, rfl⟩
          rw [← hB] at HC HCW hlen hww
          have HBL : Hid (∀ y ∈ B, y.c.length = 1) := fun y hy => (one_word (hww y hy)).1
          have HB1 : Hid (∀ c ∈ B.map Nd.c, ∀ u ∈ c, u.oneCell' = true) := one_all fun y hy => (one_word (hww y hy)).2
          have HL1 : Hid (∀ c ∈ l1.map Nd.c, ∀ u ∈ c, u.oneCell' = true) := one_all fun y hy => (one_word (Q1.out y hy)).2
          have n1 : Hid (A.length + l1.length ≤ maxLen) := by show _ ≤ _; unfold maxLen; omega
          have n2 : Hid ((A.length + l1.length) * 24 ≤ 140737488355328) := by show _ ≤ _; omega
          have n3 : Hid (A.length + l1.length + B.length ≤ maxLen) := by show _ ≤ _; unfold maxLen; omega
          have n4 : Hid ((A.length + l1.length + B.length) * 24 ≤ 140737488355328) := by show _ ≤ _; omega
          have HB0 := Lib.hid hb0
          obtain ⟨bl, hbl⟩ : ∃ n, n = B.length := ⟨_, rfl⟩
          clear hat hb0 hcw h1 h2 q1 q2 hA hB hww ih hlen hwl hwk
          go_wp2_with fail
          obtain ⟨W, hW⟩ : ∃ W, W = wr := ⟨_, rfl⟩
          have c1 : W.cell? ⟨b, o + k * 3 + 1, none⟩ = some (.slice oa1 l1.length cp1) := by rw [hW]; exact d1
          have c2 : W.cell? ⟨b, o + k * 3 + 2, none⟩ = some (.slice oa2 l2.length cp2) := by rw [hW]; exact d2
          have hbW : Below wr.heap.size wr W := hW ▸ Below.refl _ _
          have HOW : Hid (Own W.drew w.heap.size 67 1 u3 A) := (ownsRow_below ho.out hbW).drew
          have HNE : Hid (some b ≠ u3.ownBlock) := fun e => absurd (ho.out.lt b e.symm).1 (Nat.not_le.2 (Nat.lt_of_lt_of_le hgb HB.out.size))
          have HSW : Hid (SlA W.drew 1 (.slice oa1 l1.length cp1) (l1.map Nd.c)) := H1.out.below (Nat.le_refl _) hbW.drew
          have HBW : Hid (Below W0.heap.size W0 W.drew) := (HB0.out.trans (hbW.mono (by have := HB0.out.size; omega))).drew
          have HBw : Hid (Below w.heap.size w W.drew) := (hbr.out.trans (hbW.mono hbr.out.size)).drew
          have hgW : b < W.heap.size := by rw [hW]; exact Nat.lt_of_lt_of_le hgb HB0.out.size
          have hwW : w.heap.size ≤ W.heap.size := HBw.out.size
          subst hW
          clear hbW H1 ho d0 d1 d2
          have hki : (k : Int) < (m : Int) := by omega
          go_region_held3 (fun w' => w'.cell? ⟨b, o + k * 3 + 1, none⟩ = some (.slice oa1 l1.length cp1) ∧ w'.cell? ⟨b, o + k * 3 + 2, none⟩ = some (.slice oa2 l2.length cp2)) (first | go_keep | (go_split_ands; refine ⟨?_, ?_⟩; all_goals (first | assumption | (rw [hgrow1.cell_far _ (by first | exact hgW | exact hzg2) HNE.out]; assumption) | (rw [hgrow3.cell_far _ (by first | exact hzg1 | exact hzg2) hne3]; assumption) | (rw [hb2.cell (p := ⟨b, _, none⟩) (by first | exact hgW | exact hzg1)]; assumption))) | trivial)
            ((first | (refine step_append_sla _ (by rfl) (.tmp 11) (.tmp 16) 40 (by rfl) w.heap.size 67 i0 _ 1 24 Try.underlying40 hi0 hz0 hz1 hz2 (by rfl) (by decide) u3 A.length (A.map Nd.c).flatten (by rfl) HOW.out _ (l1.map Nd.c) l1.length (by rw [List.length_map]) (by rfl) HSW.out HL1.out n1.out n2.out hwW W.heap.size (by rfl) ?_; intro ao1 cap1 w1 hown1 hgrow1 hat1; have hz1' := hgrow1.size; have hzg1 : b < w1.heap.size := Nat.lt_of_lt_of_le hgW hz1'; have hne3 := far_of hat1 HNE.out hgW) | (go_at_call 35; (with_reducible refine (HC.out W.drew HBW.out).mono ?_); rintro e w2 ⟨v2, rfl, ho2, hb2⟩; obtain ⟨ao2, cap2, rfl⟩ := ho2.form; have hz2' := hb2.size; have hzg2 : b < w2.heap.size := Nat.lt_of_lt_of_le hgW hz2') | (go_at_call 35; (with_reducible refine (HC.out w1 (HBW.out.grown hgrow1 HBW.out.size (fun k hk => Nat.le_trans HB.out.size (HOW.out.lt k hk).1))).mono ?_); rintro e w2 ⟨v2, rfl, ho2, hb2⟩; obtain ⟨ao2, cap2, rfl⟩ := ho2.form; have hzg2 : b < w2.heap.size := Nat.lt_of_lt_of_le hzg1 hb2.size) | (refine step_append_sla _ (by rfl) (.tmp 11) (.tmp 16) 40 (by rfl) w.heap.size 67 i0 _ 1 24 Try.underlying40 hi0 hz0 hz1 hz2 (by rfl) (by decide) u3 A.length (A.map Nd.c).flatten (by rfl) (ownsRow_below HOW.out hb2) _ (l1.map Nd.c) l1.length (by rw [List.length_map]) (by rfl) (HSW.out.below (Nat.le_refl _) hb2) HL1.out n1.out n2.out (Nat.le_trans hwW hz2') w2.heap.size (by rfl) ?_; intro ao1 cap1 w1 hown1 hgrow1 hat1; have hz1' := hgrow1.size; have hzg1 : b < w1.heap.size := Nat.lt_of_lt_of_le hzg2 hz1'; have hne3 := far_of hat1 HNE.out hzg2) | (refine step_append_sla _ (by rfl) (.tmp 17) (.tmp 23) 40 (by rfl) w.heap.size 67 i0 _ 1 24 Try.underlying40 hi0 hz0 hz1 hz2 (by rfl) (by decide) _ _ _ (by rfl) (ownsRow_below hown1 hb2) _ (B.map Nd.c) B.length (by rw [List.length_map]) (by rfl) (ho2.sla HBL.out (by decide)) HB1.out n3.out n4.out (Nat.le_trans hwW (Nat.le_trans hgrow1.size hb2.size)) w2.heap.size (by rfl) ?_; intro ao3 cap3 w3 hown3 hgrow3 hat3) | (refine step_append_sla _ (by rfl) (.tmp 17) (.tmp 23) 40 (by rfl) w.heap.size 67 i0 _ 1 24 Try.underlying40 hi0 hz0 hz1 hz2 (by rfl) (by decide) _ _ _ (by rfl) hown1 _ (B.map Nd.c) B.length (by rw [List.length_map]) (by rfl) ((show Own w1 W.drew.heap.size 67 1 _ B from ownsRow_keep ho2 (fun k hk => hgrow1.block k (ho2.lt k hk).2 (fun e => absurd (HOW.out.lt k e.symm).2 (Nat.not_lt.2 (ho2.lt k hk).1)))).sla HBL.out (by decide)) HB1.out n3.out n4.out (Nat.le_trans hwW (Nat.le_trans hz2' hgrow1.size)) w1.heap.size (by rfl) ?_; intro ao3 cap3 w3 hown3 hgrow3 hat3) | fail))
          all_goals
            have HO3 : Hid (Own w3 w.heap.size 67 1 (.slice ao3 (A.length + l1.length + B.length) cap3) (A ++ (l1 ++ B))) := by
              show Own _ _ _ _ _ _
              rw [← List.append_assoc]
              exact Own.push (by rw [List.length_append, List.map_append, List.flatten_append]; exact hown3)
            have HB3 : Hid (Below w.heap.size w w3) := by
              show Below _ _ _
              have h1 := fun k hk => (hown1.lt k hk).1
              have h2 := fun k hk => (HOW.out.lt k hk).1
              first
                | exact ((HBw.out.grown hgrow1 HBw.out.size h2).trans (hb2.mono (Nat.le_trans HBw.out.size hgrow1.size))).grown hgrow3 (Nat.le_trans HBw.out.size (Nat.le_trans hgrow1.size hb2.size)) h1
                | exact ((HBw.out.trans (hb2.mono HBw.out.size)).grown hgrow1 (Nat.le_trans HBw.out.size hb2.size) h2).grown hgrow3 (Nat.le_trans HBw.out.size (Nat.le_trans hb2.size hgrow1.size)) h1
            clear hown3 hgrow3 hown1 hgrow1 hb2 ho2 hat1 hat3
            go_wp2_with fail
            go_roundw
            case rel => exact ⟨k + 1, by omega, by go_num, HCW.out ▸ HO3.out, HB3.out⟩
            case measure => simp [intOf]; omega
      · go_wp2_with fail
        go_ret
        obtain rfl : k = m := by omega
        refine ⟨_, rfl, ?_, hbr.out⟩
        have := ho.out
        rw [List.take_of_length_le (by rw [HM.out]; exact Nat.le_refl _)] at this
        exact this
end Go.Proofs.Ytihbdacmgojapaa

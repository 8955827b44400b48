/- dialect.named; conditions: as each theorem states. -/
import Derived.Test.YtihbdacmgojapaaEk
namespace Go.Proofs.Ytihbdacmgojapaa
open Go.RowKit

noncomputable def nmW (w : Nd) : Bool := litB (w.sub 0) && nameF (litS (w.sub 0)) && res (litS (w.sub 0))
def isRU (s : ByteArray) : Bool := (s.toList == [114, 101, 97, 100]) || (s.toList == [117, 110, 115, 101, 116])
theorem After.more {n0 : Nat} {t : TypeId} {bo : Nat} {v : Value} {xs : List ByteArray} {w w1 w2 : World} {r : Bool} {c : Nat} (h : After n0 t bo v xs w r c w1) (hb : Below w1.heap.size w1 w2) : After n0 t bo v xs w r c w2 := by
  obtain ⟨v', xs', h1, h2, h3, h4⟩ := h
  exact ⟨v', xs', h1.below hb, h2, h3, h4.trans (Chg.of_below hb)⟩
theorem After.belowW {W0 : World} {n0 : Nat} {t : TypeId} {bo : Nat} {v : Value} {xs : List ByteArray} {w w1 : World} {r : Bool} {c : Nat} (h : After n0 t bo v xs w r c w1) (hn0 : W0.heap.size ≤ n0) (hs : SetAt n0 t w bo v xs) (hb : Below W0.heap.size W0 w) : Below W0.heap.size W0 w1 := by
  obtain ⟨v', xs', h1, h2, h3, h4⟩ := h
  exact hb.trans ((h4.below hs).mono hn0)
noncomputable def nmL : List Nd → Bool
  | [] => false
  | w0 :: ws => isRU (litS (w0.sub 0)) && ws.any nmW
noncomputable def namedR (x : Nd) : Bool := (kdOf x == 1) && nmL (x.sub 0)
set_option maxRecDepth 100000 in
set_option maxHeartbeats 2000000 in
/-- A name of whatever size. -/
theorem oname_all (s : ByteArray) (w : World) : Calls Try.prog 42 #[.string s] w fun e w' => e = .returned (.bool (nameF s)) ∧ Below w.heap.size w w' := by
  by_cases hs : s.size ≤ 4611686018427387904
  · exact oname_any s w hs
  · have hp : 0 < s.size := by omega
    have hpi : (0 : Int) < (s.size : Int) := by omega
    have h65 : decide (s.size ≤ 64) = false := decide_eq_false (by omega)
    have h66 : decide ((s.size : Int) ≤ 64) = false := decide_eq_false (by omega)
    have he : nameF s = false := by unfold nameF; rw [dif_pos hp, h65, Bool.false_and]
    rw [he]
    clear hs h65 he
    go_enter Try.func42, Try.ntmps42
    go_wp2_with fail
    go_ret
    exact ⟨by simp, Below.refl _ _⟩
theorem word_lit (W0 : World) (y : Nd) (hy : Wf W0 .word y) (hm : wt y ≤ 1048576) (V : World) (hV : Below W0.heap.size W0 V) : Calls Try.prog 60 #[.agg y.c.toArray] V fun e w' => e = .returned (.tuple #[.string (litS (y.sub 0)), .bool (litB (y.sub 0))]) ∧ Below V.heap.size V w' := by
  have hsev := seven y
  cases hy with
  | word b0 k0 g0 r0 => exact literal_any W0 k0 b0 V r0 g0 hV (by simp only [Nd.sub, Nd.s, List.getD_cons_zero] at hsev; omega)

set_option maxRecDepth 100000 in
set_option maxHeartbeats 4000000 in
theorem named_any (W0 : World) (x : Nd) (hw : Wf W0 .cmd x) (hm : wt x ≤ 1048576) (n0 bx : Nat) (hn0 : W0.heap.size ≤ n0) (w : World) (v : Value) (xs : List ByteArray) (hb : Below W0.heap.size W0 w) (hs : SetAt n0 82 w bx v xs) (hl : xs.length + wt x ≤ 8796093022208) :
    Calls Try.prog 45 #[.pointer (some ⟨bx, 0, none⟩), .agg x.c.toArray] w fun e w' => e = .returned (.tuple #[]) ∧ After n0 82 bx v xs w (namedR x) (wt x) w' := by
  have hsev := seven x
  obtain ⟨M, hM⟩ : ∃ M, M = wt x := ⟨_, rfl⟩
  rw [← hM] at hm hsev hl ⊢
  clear hM
  cases hw with
  | cmd a0 a1 a2 l2 a3 l3 a4 l4 a5 l5 a6 l6 a7 l7 a8 l8 a9 h2 q2 h3 q3 h4 q4 h5 q5 h6 q6 h7 q7 h8 q8 =>
    obtain ⟨oa2, cp2, rfl⟩ := h2.form
    obtain ⟨oa3, cp3, rfl⟩ := h3.form
    obtain ⟨oa4, cp4, rfl⟩ := h4.form
    obtain ⟨oa5, cp5, rfl⟩ := h5.form
    obtain ⟨oa6, cp6, rfl⟩ := h6.form
    obtain ⟨oa7, cp7, rfl⟩ := h7.form
    obtain ⟨oa8, cp8, rfl⟩ := h8.form
    have hR : namedR (.mk [.int .i64 a0, .string a1, .slice oa2 l2.length cp2, .slice oa3 l3.length cp3, .slice oa4 l4.length cp4, .slice oa5 l5.length cp5, .slice oa6 l6.length cp6, .slice oa7 l7.length cp7, .slice oa8 l8.length cp8, .int .i64 a9] [l2, l3, l4, l5, l6, l7, l8]) = (a0 == 1 && nmL l2) := rfl
    rw [hR]
    clear hR
    rw [show (Nd.mk [.int .i64 a0, .string a1, .slice oa2 l2.length cp2, .slice oa3 l3.length cp3, .slice oa4 l4.length cp4, .slice oa5 l5.length cp5, .slice oa6 l6.length cp6, .slice oa7 l7.length cp7, .slice oa8 l8.length cp8, .int .i64 a9] [l2, l3, l4, l5, l6, l7, l8]).c.toArray = #[.int .i64 a0, .string a1, .slice oa2 l2.length cp2, .slice oa3 l3.length cp3, .slice oa4 l4.length cp4, .slice oa5 l5.length cp5, .slice oa6 l6.length cp6, .slice oa7 l7.length cp7, .slice oa8 l8.length cp8, .int .i64 a9] from rfl]
    simp only [Nd.sub, Nd.s, List.getD_cons_zero, List.getD_cons_succ] at hsev
    have hn2 : l2.length ≤ 1048576 := by have := length_le l2; omega
    have hwl : Hid (Wl l2 + 1 ≤ M) := by show _ ≤ _; omega
    obtain ⟨V, hV⟩ : ∃ V, V = w.alloc (.cells #[.int .i64 a0, .string a1, .slice oa2 l2.length cp2, .slice oa3 l3.length cp3, .slice oa4 l4.length cp4, .slice oa5 l5.length cp5, .slice oa6 l6.length cp6, .slice oa7 l7.length cp7, .slice oa8 l8.length cp8, .int .i64 a9] 48) := ⟨_, rfl⟩
    have hbV : Below w.heap.size w V := hV ▸ (Below.refl _ _).alloc (Nat.le_refl _) _
    by_cases hk : a0 = 1
    · subst hk
      cases l2 with
      | nil =>
        have hr : ((1 : Int) == 1 && nmL ([] : List Nd)) = false := rfl
        rw [hr]
        have HV := Lib.hid (After.le (After.quiet hs hbV) (Nat.zero_le M))
        clear hsev h2 h3 h4 h5 h6 h7 h8 q2 q3 q4 q5 q6 q7 q8 hs hb hbV hwl hr
        simp only [List.length_nil] at hV ⊢
        go_enter Try.func45, Try.ntmps45
        go_wp2_with fail
        rw [← hV]
        refine bodyPost_ret (results_none rfl _ _ _) rfl ?_
        exact ⟨rfl, HV.out⟩
      | cons w0 ws =>
        have HLT : Hid (∀ y ∈ w0 :: ws, ∀ V, Below W0.heap.size W0 V → Calls Try.prog 60 #[.agg y.c.toArray] V fun e w' => e = .returned (.tuple #[.string (litS (y.sub 0)), .bool (litB (y.sub 0))]) ∧ Below V.heap.size V w') :=
          fun y hy V hV => word_lit W0 y (q2 y hy) (by have := wt_mem hy; omega) V hV
        obtain ⟨ao, b, o, cap, hv2, hf, hg, hcap, hat⟩ := h2.at
        obtain ⟨rfl, rfl⟩ : oa2 = ao ∧ cp2 = cap := by simp only [Value.slice.injEq] at hv2; exact ⟨hv2.1, hv2.2.2⟩
        obtain rfl := hf (by simp)
        have hgb := hg (by simp)
        obtain ⟨m, hmm⟩ : ∃ m, m = ws.length := ⟨_, rfl⟩
        have hlen : (w0 :: ws).length = m + 1 := by rw [hmm]; rfl
        rw [hlen] at hV hn2 hcap ⊢
        have hat0 := hat 0 (by simp) 0 (by decide)
        have hwf0 := q2 w0 (by simp)
        have hl0 := HLT.out w0 (by simp) V (hb.trans (hbV.mono hb.size))
        have HLW : Hid (∀ y ∈ ws, ∀ V, Below W0.heap.size W0 V → Calls Try.prog 60 #[.agg y.c.toArray] V fun e w' => e = .returned (.tuple #[.string (litS (y.sub 0)), .bool (litB (y.sub 0))]) ∧ Below V.heap.size V w') := fun y hy => HLT.out y (List.mem_cons_of_mem _ hy)
        have HAT : Hid (∀ j (h : j < ws.length), W0.cell? ⟨b, o + (j + 1), none⟩ = (ws[j].c)[0]?) := fun j hj => by
          have := hat (j + 1) (by simp; omega) 0 (by decide)
          simpa using this
        have HWF : Hid (∀ y ∈ ws, Wf W0 .word y) := fun y hy => q2 y (List.mem_cons_of_mem _ hy)
        have hmM : m ≤ M := by
          have h1 := hwl.out
          have h2 := length_le (w0 :: ws)
          omega
        have hnl : ((1 : Int) == 1 && nmL (w0 :: ws)) = (isRU (litS (w0.sub 0)) && ws.any nmW) := rfl
        rw [hnl]
        obtain ⟨s0, hs0⟩ : ∃ s, s = litS (w0.sub 0) := ⟨_, rfl⟩
        obtain ⟨b0, hb0⟩ : ∃ s, s = litB (w0.sub 0) := ⟨_, rfl⟩
        rw [← hs0, ← hb0] at hl0
        rw [← hs0]
        have HS := Lib.hid hs
        have HB := Lib.hid hb
        have HBV := Lib.hid hbV
        have HM := Lib.hid hmm
        have hVs : V.heap.size = w.heap.size + 1 := by rw [hV]; simp
        have hVc : Hid (V.cell? ⟨w.heap.size, 2, none⟩ = some (.slice (some ⟨b, o, none⟩) (m + 1) cp2)) := by rw [hV]; show _ = _; rw [World.cell?_alloc_new]; rfl
        have hgb2 : b < w.heap.size := Nat.lt_of_lt_of_le hgb hb.size
        cases hwf0 with
        | word b00 k0 g0 r0 =>
        obtain ⟨p0, c0, rfl⟩ := g0.form
        have d0 : w.cell? ⟨b, o, none⟩ = some (.slice p0 k0.length c0) := (hb.cell (p := ⟨b, o, none⟩) hgb).trans (by simpa [Nd.c] using hat0)
        have HL0 : Hid (Calls Try.prog 60 #[.agg #[.slice p0 k0.length c0]] V fun e w' => e = .returned (.tuple #[.string s0, .bool b0]) ∧ Below V.heap.size V w') := hl0
        have hR : isRU s0 = ((s0.toList == [114, 101, 97, 100]) || (s0.toList == [117, 110, 115, 101, 116])) := rfl
        rw [hR]
        obtain ⟨t1, ht1⟩ : ∃ b, (s0.toList == [114, 101, 97, 100]) = b := ⟨_, rfl⟩
        obtain ⟨t2, ht2⟩ : ∃ b, (s0.toList == [117, 110, 115, 101, 116]) = b := ⟨_, rfl⟩
        rw [ht1, ht2]
        clear hat hat0 hl0 HLT hs hb hbV hmm hs0 hb0 hsev h2 h3 h4 h5 h6 h7 h8 q2 q3 q4 q5 q6 q7 q8 hwl hnl g0 r0 hv2 hlen hf hg hR
        cases t1
        · cases t2
          · rw [Bool.false_or, Bool.false_and]
            go_enter Try.func45, Try.ntmps45
            go_wp2_with fail
            rw [← hV]
            refine HL0.out.mono ?_
            rintro e w1 ⟨rfl, hb1⟩
            have HE := Lib.hid (After.le (After.quiet HS.out (HBV.out.trans (hb1.mono HBV.out.size))) (Nat.zero_le M))
            clear hb1 hV hVc
            go_wp2_with fail
            refine bodyPost_ret (results_none rfl _ _ _) rfl ?_
            exact ⟨rfl, HE.out⟩
          · rw [Bool.false_or, Bool.true_and]
            by_cases hc1 : cp2 = 1
            · subst hc1
              have HATQ : Hid (∀ j (h : j < ws.length), W0.cell? ⟨b, o + j, none⟩ = (ws[j].c)[0]?) := fun j hj => absurd hj (by rw [← HM.out]; omega)
              go_enter Try.func45, Try.ntmps45
              go_wp2_with fail
              rw [← hV]
              refine HL0.out.mono ?_
              rintro e w1 ⟨rfl, hb1⟩
              have HB1 : Hid (Below w.heap.size w w1) := HBV.out.trans (hb1.mono HBV.out.size)
              have d2 : w1.cell? ⟨w.heap.size, 2, none⟩ = some (.slice (some ⟨b, o, none⟩) (m + 1) 1) := (hb1.cell (p := ⟨w.heap.size, 2, none⟩) (by show w.heap.size < _; omega)).trans hVc.out
              clear hb1 hV hVc d0
              go_wp2_with fail
              go_loopw [37] (fun i wr => ∃ k : Nat, k ≤ m ∧ i = .int .i64 k ∧ Hid (After n0 82 bx v xs w ((ws.take k).any nmW) k wr)) (fun i _ => m - (intOf i).toNat)
              case atStart => exact ⟨0, Nat.zero_le _, rfl, After.quiet HS.out HB1.out⟩
              case round =>
                obtain ⟨k, hk, rfl, ha⟩ := hrel
                by_cases hlt : k < m
                · exact absurd hlt (by omega)
                · obtain rfl : m = k := by omega
                  have HF : Hid (After n0 82 bx v xs w (ws.any nmW) M wr) := by
                    have := ha.out
                    rw [List.take_of_length_le (by rw [HM.out]; exact Nat.le_refl _)] at this
                    exact After.le this hmM
                  clear ha
                  go_wp2_with fail
                  go_end0
                  exact ⟨rfl, HF.out⟩
            · have HATQ : Hid (∀ j (h : j < ws.length), W0.cell? ⟨b, o + 1 + j, none⟩ = (ws[j].c)[0]?) := fun j hj => by rw [Nat.add_assoc, Nat.add_comm 1 j]; exact HAT.out j hj
              go_enter Try.func45, Try.ntmps45
              go_wp2_with fail
              rw [← hV]
              refine HL0.out.mono ?_
              rintro e w1 ⟨rfl, hb1⟩
              have HB1 : Hid (Below w.heap.size w w1) := HBV.out.trans (hb1.mono HBV.out.size)
              have d2 : w1.cell? ⟨w.heap.size, 2, none⟩ = some (.slice (some ⟨b, o, none⟩) (m + 1) cp2) := (hb1.cell (p := ⟨w.heap.size, 2, none⟩) (by show w.heap.size < _; omega)).trans hVc.out
              clear hb1 hV hVc d0
              go_wp2_with fail
              go_loopw [37] (fun i wr => ∃ k : Nat, k ≤ m ∧ i = .int .i64 k ∧ Hid (After n0 82 bx v xs w ((ws.take k).any nmW) k wr)) (fun i _ => m - (intOf i).toNat)
              case atStart => exact ⟨0, Nat.zero_le _, rfl, After.quiet HS.out HB1.out⟩
              case round =>
                obtain ⟨k, hk, rfl, ha⟩ := hrel
                by_cases hlt : k < m
                · have hkl : k < ws.length := by rw [← HM.out]; exact hlt
                  have hwf := HWF.out ws[k] (List.getElem_mem hkl)
                  have hat := HATQ.out k hkl
                  have hll := HLW.out ws[k] (List.getElem_mem hkl)
                  have hsn : (ws.take (k + 1)).any nmW = ((ws.take k).any nmW || nmW ws[k]) := by rw [take_snoc ws k hkl, List.any_append]; simp
                  have hbW : Below W0.heap.size W0 wr := ha.out.belowW hn0 HS.out HB.out
                  obtain ⟨y, hy⟩ : ∃ y, y = ws[k] := ⟨_, rfl⟩
                  rw [← hy] at hwf hat hll hsn
                  clear hy
                  cases hwf with
                  | word b1 k1 g1 r1 =>
                  obtain ⟨p1, c1, rfl⟩ := g1.form
                  have d0 : wr.cell? ⟨b, o + 1 + k, none⟩ = some (.slice p1 k1.length c1) := (hbW.cell (p := ⟨b, o + 1 + k, none⟩) hgb).trans (by simpa [Nd.c] using hat)
                  obtain ⟨V, hV⟩ : ∃ V, V = wr.alloc (.cells #[.slice p1 k1.length c1] 67) := ⟨_, rfl⟩
                  have hbV : Below wr.heap.size wr V := hV ▸ (Below.refl _ _).alloc (Nat.le_refl _) _
                  have hL := hll V (hbW.trans (hbV.mono hbW.size))
                  have hA := After.more ha.out hbV
                  have hnw : nmW (.mk [.slice p1 k1.length c1] [k1]) = (litB k1 && nameF (litS k1) && res (litS k1)) := rfl
                  rw [hnw] at hsn
                  rw [show (Nd.mk [.slice p1 k1.length c1] [k1]).sub 0 = k1 from rfl] at hL
                  obtain ⟨s1, hs1⟩ : ∃ s, s = litS k1 := ⟨_, rfl⟩
                  obtain ⟨t1, ht1⟩ : ∃ s, s = litB k1 := ⟨_, rfl⟩
                  obtain ⟨n1, hn1⟩ : ∃ s, s = nameF s1 := ⟨_, rfl⟩
                  rw [← hs1, ← ht1] at hL hsn
                  rw [← hn1] at hsn
                  have HN : Hid (∀ V : World, Calls Try.prog 42 #[.string s1] V fun e w' => e = .returned (.bool n1) ∧ Below V.heap.size V w') := fun V => hn1 ▸ oname_all s1 V
                  have HLX : Hid (Calls Try.prog 60 #[.agg #[.slice p1 k1.length c1]] V fun e w' => e = .returned (.tuple #[.string s1, .bool t1]) ∧ Below V.heap.size V w') := hL
                  have HSN := Lib.hid hsn
                  have HA := Lib.hid hA
                  have HBD : Hid (xs.length + k + 1 ≤ 8796093022208) := by show _ ≤ _; omega
                  clear hL hsn hA hll hat hbW hbV g1 r1 ha hnw hs1 ht1 hn1
                  cases t1
                  · go_wp2_with fail
                    rw [← hV]
                    refine HLX.out.mono ?_
                    rintro e w3 ⟨rfl, hb3⟩
                    have HF : Hid (After n0 82 bx v xs w ((ws.take (k + 1)).any nmW) (k + 1) w3) := by
                      show After _ _ _ _ _ _ _ _ _
                      rw [HSN.out, Bool.false_and, Bool.false_and, Bool.or_false]
                      exact After.le (HA.out.more hb3) (Nat.le_succ _)
                    clear hb3
                    go_wp2_with fail
                    go_roundw
                    case rel => exact ⟨k + 1, by omega, by go_num, HF.out⟩
                    case measure => (first | omega | (simp [intOf] <;> omega))
                  · cases n1
                    · go_wp2_with fail
                      rw [← hV]
                      refine HLX.out.mono ?_
                      rintro e w3 ⟨rfl, hb3⟩
                      have HA3 := Lib.hid (HA.out.more hb3)
                      clear hb3
                      go_wp2_with fail
                      refine (HN.out _).mono ?_
                      rintro e w4 ⟨rfl, hb4⟩
                      have HF : Hid (After n0 82 bx v xs w ((ws.take (k + 1)).any nmW) (k + 1) w4) := by
                        show After _ _ _ _ _ _ _ _ _
                        rw [HSN.out, Bool.and_false, Bool.false_and, Bool.or_false]
                        exact After.le (HA3.out.more hb4) (Nat.le_succ _)
                      clear hb4
                      go_wp2_with fail
                      go_roundw
                      case rel => exact ⟨k + 1, by omega, by go_num, HF.out⟩
                      case measure => (first | omega | (simp [intOf] <;> omega))
                    · go_wp2_with fail
                      rw [← hV]
                      refine HLX.out.mono ?_
                      rintro e w3 ⟨rfl, hb3⟩
                      have HA3 := Lib.hid (HA.out.more hb3)
                      clear hb3
                      go_wp2_with fail
                      refine (HN.out _).mono ?_
                      rintro e w4 ⟨rfl, hb4⟩
                      have ha4 := HA3.out.more hb4
                      obtain ⟨v3, xs3, e1, e2, e3, e4⟩ := ha4
                      have HC := Lib.hid (add_any n0 bx v3 xs3 s1 w4 e1 (by have := HBD.out; omega))
                      have E2 := Lib.hid e2
                      have E3 := Lib.hid e3
                      have E4 := Lib.hid e4
                      clear hb4 e1 e2 e3 e4
                      go_wp2_with fail
                      refine HC.out.mono ?_
                      rintro e w5 ⟨rfl, ha5⟩
                      have HF : Hid (After n0 82 bx v xs w ((ws.take (k + 1)).any nmW) (k + 1) w5) := by
                        show After _ _ _ _ _ _ _ _ _
                        rw [HSN.out, Bool.true_and, Bool.true_and]
                        exact After.then_ E2.out E3.out E4.out ha5
                      clear ha5
                      go_wp2_with fail
                      go_roundw
                      case rel => exact ⟨k + 1, by omega, by go_num, HF.out⟩
                      case measure => (first | omega | (simp [intOf] <;> omega))
                · obtain rfl : m = k := by omega
                  have HF : Hid (After n0 82 bx v xs w (ws.any nmW) M wr) := by
                    have := ha.out
                    rw [List.take_of_length_le (by rw [HM.out]; exact Nat.le_refl _)] at this
                    exact After.le this hmM
                  clear ha
                  go_wp2_with fail
                  go_end0
                  exact ⟨rfl, HF.out⟩
        · rw [Bool.true_or, Bool.true_and]
          by_cases hc1 : cp2 = 1
          · subst hc1
            have HATQ : Hid (∀ j (h : j < ws.length), W0.cell? ⟨b, o + j, none⟩ = (ws[j].c)[0]?) := fun j hj => absurd hj (by rw [← HM.out]; omega)
            go_enter Try.func45, Try.ntmps45
            go_wp2_with fail
            rw [← hV]
            refine HL0.out.mono ?_
            rintro e w1 ⟨rfl, hb1⟩
            have HB1 : Hid (Below w.heap.size w w1) := HBV.out.trans (hb1.mono HBV.out.size)
            have d2 : w1.cell? ⟨w.heap.size, 2, none⟩ = some (.slice (some ⟨b, o, none⟩) (m + 1) 1) := (hb1.cell (p := ⟨w.heap.size, 2, none⟩) (by show w.heap.size < _; omega)).trans hVc.out
            clear hb1 hV hVc d0
            go_wp2_with fail
            go_loopw [37] (fun i wr => ∃ k : Nat, k ≤ m ∧ i = .int .i64 k ∧ Hid (After n0 82 bx v xs w ((ws.take k).any nmW) k wr)) (fun i _ => m - (intOf i).toNat)
            case atStart => exact ⟨0, Nat.zero_le _, rfl, After.quiet HS.out HB1.out⟩
            case round =>
              obtain ⟨k, hk, rfl, ha⟩ := hrel
              by_cases hlt : k < m
              · exact absurd hlt (by omega)
              · obtain rfl : m = k := by omega
                have HF : Hid (After n0 82 bx v xs w (ws.any nmW) M wr) := by
                  have := ha.out
                  rw [List.take_of_length_le (by rw [HM.out]; exact Nat.le_refl _)] at this
                  exact After.le this hmM
                clear ha
                go_wp2_with fail
                go_end0
                exact ⟨rfl, HF.out⟩
          · have HATQ : Hid (∀ j (h : j < ws.length), W0.cell? ⟨b, o + 1 + j, none⟩ = (ws[j].c)[0]?) := fun j hj => by rw [Nat.add_assoc, Nat.add_comm 1 j]; exact HAT.out j hj
            go_enter Try.func45, Try.ntmps45
            go_wp2_with fail
            rw [← hV]
            refine HL0.out.mono ?_
            rintro e w1 ⟨rfl, hb1⟩
            have HB1 : Hid (Below w.heap.size w w1) := HBV.out.trans (hb1.mono HBV.out.size)
            have d2 : w1.cell? ⟨w.heap.size, 2, none⟩ = some (.slice (some ⟨b, o, none⟩) (m + 1) cp2) := (hb1.cell (p := ⟨w.heap.size, 2, none⟩) (by show w.heap.size < _; omega)).trans hVc.out
            clear hb1 hV hVc d0
            go_wp2_with fail
            go_loopw [37] (fun i wr => ∃ k : Nat, k ≤ m ∧ i = .int .i64 k ∧ Hid (After n0 82 bx v xs w ((ws.take k).any nmW) k wr)) (fun i _ => m - (intOf i).toNat)
            case atStart => exact ⟨0, Nat.zero_le _, rfl, After.quiet HS.out HB1.out⟩
            case round =>
              obtain ⟨k, hk, rfl, ha⟩ := hrel
              by_cases hlt : k < m
              · have hkl : k < ws.length := by rw [← HM.out]; exact hlt
                have hwf := HWF.out ws[k] (List.getElem_mem hkl)
                have hat := HATQ.out k hkl
                have hll := HLW.out ws[k] (List.getElem_mem hkl)
                have hsn : (ws.take (k + 1)).any nmW = ((ws.take k).any nmW || nmW ws[k]) := by rw [take_snoc ws k hkl, List.any_append]; simp
                have hbW : Below W0.heap.size W0 wr := ha.out.belowW hn0 HS.out HB.out
                obtain ⟨y, hy⟩ : ∃ y, y = ws[k] := ⟨_, rfl⟩
                rw [← hy] at hwf hat hll hsn
                clear hy
                cases hwf with
                | word b1 k1 g1 r1 =>
                obtain ⟨p1, c1, rfl⟩ := g1.form
                have d0 : wr.cell? ⟨b, o + 1 + k, none⟩ = some (.slice p1 k1.length c1) := (hbW.cell (p := ⟨b, o + 1 + k, none⟩) hgb).trans (by simpa [Nd.c] using hat)
                obtain ⟨V, hV⟩ : ∃ V, V = wr.alloc (.cells #[.slice p1 k1.length c1] 67) := ⟨_, rfl⟩
                have hbV : Below wr.heap.size wr V := hV ▸ (Below.refl _ _).alloc (Nat.le_refl _) _
                have hL := hll V (hbW.trans (hbV.mono hbW.size))
                have hA := After.more ha.out hbV
                have hnw : nmW (.mk [.slice p1 k1.length c1] [k1]) = (litB k1 && nameF (litS k1) && res (litS k1)) := rfl
                rw [hnw] at hsn
                rw [show (Nd.mk [.slice p1 k1.length c1] [k1]).sub 0 = k1 from rfl] at hL
                obtain ⟨s1, hs1⟩ : ∃ s, s = litS k1 := ⟨_, rfl⟩
                obtain ⟨t1, ht1⟩ : ∃ s, s = litB k1 := ⟨_, rfl⟩
                obtain ⟨n1, hn1⟩ : ∃ s, s = nameF s1 := ⟨_, rfl⟩
                rw [← hs1, ← ht1] at hL hsn
                rw [← hn1] at hsn
                have HN : Hid (∀ V : World, Calls Try.prog 42 #[.string s1] V fun e w' => e = .returned (.bool n1) ∧ Below V.heap.size V w') := fun V => hn1 ▸ oname_all s1 V
                have HLX : Hid (Calls Try.prog 60 #[.agg #[.slice p1 k1.length c1]] V fun e w' => e = .returned (.tuple #[.string s1, .bool t1]) ∧ Below V.heap.size V w') := hL
                have HSN := Lib.hid hsn
                have HA := Lib.hid hA
                have HBD : Hid (xs.length + k + 1 ≤ 8796093022208) := by show _ ≤ _; omega
                clear hL hsn hA hll hat hbW hbV g1 r1 ha hnw hs1 ht1 hn1
                cases t1
                · go_wp2_with fail
                  rw [← hV]
                  refine HLX.out.mono ?_
                  rintro e w3 ⟨rfl, hb3⟩
                  have HF : Hid (After n0 82 bx v xs w ((ws.take (k + 1)).any nmW) (k + 1) w3) := by
                    show After _ _ _ _ _ _ _ _ _
                    rw [HSN.out, Bool.false_and, Bool.false_and, Bool.or_false]
                    exact After.le (HA.out.more hb3) (Nat.le_succ _)
                  clear hb3
                  go_wp2_with fail
                  go_roundw
                  case rel => exact ⟨k + 1, by omega, by go_num, HF.out⟩
                  case measure => (first | omega | (simp [intOf] <;> omega))
                · cases n1
                  · go_wp2_with fail
                    rw [← hV]
                    refine HLX.out.mono ?_
                    rintro e w3 ⟨rfl, hb3⟩
                    have HA3 := Lib.hid (HA.out.more hb3)
                    clear hb3
                    go_wp2_with fail
                    refine (HN.out _).mono ?_
                    rintro e w4 ⟨rfl, hb4⟩
                    have HF : Hid (After n0 82 bx v xs w ((ws.take (k + 1)).any nmW) (k + 1) w4) := by
                      show After _ _ _ _ _ _ _ _ _
                      rw [HSN.out, Bool.and_false, Bool.false_and, Bool.or_false]
                      exact After.le (HA3.out.more hb4) (Nat.le_succ _)
                    clear hb4
                    go_wp2_with fail
                    go_roundw
                    case rel => exact ⟨k + 1, by omega, by go_num, HF.out⟩
                    case measure => (first | omega | (simp [intOf] <;> omega))
                  · go_wp2_with fail
                    rw [← hV]
                    refine HLX.out.mono ?_
                    rintro e w3 ⟨rfl, hb3⟩
                    have HA3 := Lib.hid (HA.out.more hb3)
                    clear hb3
                    go_wp2_with fail
                    refine (HN.out _).mono ?_
                    rintro e w4 ⟨rfl, hb4⟩
                    have ha4 := HA3.out.more hb4
                    obtain ⟨v3, xs3, e1, e2, e3, e4⟩ := ha4
                    have HC := Lib.hid (add_any n0 bx v3 xs3 s1 w4 e1 (by have := HBD.out; omega))
                    have E2 := Lib.hid e2
                    have E3 := Lib.hid e3
                    have E4 := Lib.hid e4
                    clear hb4 e1 e2 e3 e4
                    go_wp2_with fail
                    refine HC.out.mono ?_
                    rintro e w5 ⟨rfl, ha5⟩
                    have HF : Hid (After n0 82 bx v xs w ((ws.take (k + 1)).any nmW) (k + 1) w5) := by
                      show After _ _ _ _ _ _ _ _ _
                      rw [HSN.out, Bool.true_and, Bool.true_and]
                      exact After.then_ E2.out E3.out E4.out ha5
                    clear ha5
                    go_wp2_with fail
                    go_roundw
                    case rel => exact ⟨k + 1, by omega, by go_num, HF.out⟩
                    case measure => (first | omega | (simp [intOf] <;> omega))
              · obtain rfl : m = k := by omega
                have HF : Hid (After n0 82 bx v xs w (ws.any nmW) M wr) := by
                  have := ha.out
                  rw [List.take_of_length_le (by rw [HM.out]; exact Nat.le_refl _)] at this
                  exact After.le this hmM
                clear ha
                go_wp2_with fail
                go_end0
                exact ⟨rfl, HF.out⟩
    · have hr : (a0 == 1 && nmL l2) = false := by
        have : (a0 == 1) = false := by simpa using hk
        rw [this, Bool.false_and]
      rw [hr]
      have HV := Lib.hid (After.le (After.quiet hs hbV) (Nat.zero_le M))
      clear hsev h2 h3 h4 h5 h6 h7 h8 q2 q3 q4 q5 q6 q7 q8 hs hb hbV hwl hr
      go_enter Try.func45, Try.ntmps45
      go_wp2_with fail
      rw [← hV]
      refine bodyPost_ret (results_none rfl _ _ _) rfl ?_
      exact ⟨rfl, HV.out⟩
end Go.Proofs.Ytihbdacmgojapaa

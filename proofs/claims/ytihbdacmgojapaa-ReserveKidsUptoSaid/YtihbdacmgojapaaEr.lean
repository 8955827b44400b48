/- reserve.Free; cowrielaw25.ReserveKids; conditions: as each theorem states. -/
import Derived.Test.YtihbdacmgojapaaEq
import Derived.Test.YtihbdacmgojapaaRs
namespace Go.Proofs.Ytihbdacmgojapaa
open Go.RowKit

set_option maxRecDepth 100000 in
set_option maxHeartbeats 2000000 in
theorem ifres_any (base : Nat) (v : Value) (xs : List ByteArray) (w : World) (h : w.ownsRow base 9 1 v xs.length (xs.map Value.string)) (hb : base ≤ w.heap.size) (hm : xs.length ≤ 8796093022208) :
    Calls Try.prog 24 #[v, .func (.func 9) #[] #[]] w fun e w' => w' = w ∧ ((e = .returned (.int .i64 (-1)) ∧ xs.any res = false) ∨ ∃ k : Nat, k < xs.length ∧ e = .returned (.int .i64 k) ∧ xs.any res = true) := by
  obtain ⟨g, ao, cap, rfl, hg1, hg2, hg3, hcl⟩ := strs_block h hb
  obtain ⟨m, hmm⟩ : ∃ m, m = xs.length := ⟨_, rfl⟩
  rw [← hmm] at hm hg2 hg3 ⊢
  have HM := Lib.hid hmm
  have HC := Lib.hid hcl
  clear hmm hcl h hb hg1
  go_enter Try.func24, Try.ntmps24
  go_wp2_with fail
  go_loopw [8] (fun i wr => ∃ k : Nat, k ≤ m ∧ i = .int .i64 k ∧ Hid ((xs.take k).any res = false) ∧ wr = w) (fun i _ => m - (intOf i).toNat)
  case atStart => exact ⟨0, Nat.zero_le _, rfl, by show _ = _; rw [List.take_zero]; rfl, rfl⟩
  case round =>
    obtain ⟨k, hk, rfl, hz, rfl⟩ := hrel
    by_cases hlt : k < m
    · have hkl : k < xs.length := by rw [← HM.out]; exact hlt
      obtain ⟨rfl, hgl⟩ := hg2 (by omega)
      have d0 := HC.out k hkl
      have hsn : (xs.take (k + 1)).any res = ((xs.take k).any res || res xs[k]) := by rw [take_snoc xs k hkl, List.any_append]; simp
      have hin : res xs[k] = true → xs.any res = true := fun h => List.any_eq_true.2 ⟨xs[k], List.getElem_mem hkl, h⟩
      obtain ⟨s, hs⟩ : ∃ s, s = xs[k] := ⟨_, rfl⟩
      rw [← hs] at d0 hsn hin
      have H1 : Hid (∀ w, Calls Try.prog 9 #[.string s] w fun e w' => e = .returned (.bool (res s)) ∧ w' = w) := fun w => reserved_any s w
      obtain ⟨r, hr⟩ : ∃ r, r = res s := ⟨_, rfl⟩
      rw [← hr] at H1 hsn hin
      have HSN := Lib.hid hsn
      have HIN := Lib.hid hin
      clear hs hr hsn hin
      cases r
      · go_wp2_with fail
        refine (H1.out _).mono ?_
        rintro e w1 ⟨rfl, rfl⟩
        go_wp2_with fail
        go_round
        case rel => exact ⟨k + 1, by omega, by go_num, by show _ = _; rw [HSN.out, hz.out]; rfl, by first | rfl | trivial⟩
        case measure => simp [intOf]; omega
      · go_wp2_with fail
        refine (H1.out _).mono ?_
        rintro e w1 ⟨rfl, rfl⟩
        go_wp2_with fail
        go_ret
        exact ⟨rfl, .inr ⟨k, hlt, by simp, HIN.out (by trivial)⟩⟩
    · obtain rfl : m = k := by omega
      go_wp2_with fail
      go_ret
      refine ⟨rfl, .inl ⟨by simp, ?_⟩⟩
      have := hz.out
      rw [List.take_of_length_le (by rw [HM.out]; exact Nat.le_refl _)] at this
      exact this

set_option maxRecDepth 100000 in
set_option maxHeartbeats 2000000 in
theorem free_any (W0 : World) (x : Nd) (w : World) (hw : Wf W0 .cmd x) (hm : wt x ≤ 1048576) (hb : Below W0.heap.size W0 w) :
    Calls Try.prog 13 #[.agg x.c.toArray] w fun e w' => (∃ s, e = .returned (.tuple #[.string s, .bool (!resAll x)])) ∧ Below w.heap.size w w' := by
  have HN : Hid (∀ V : World, Below W0.heap.size W0 V → Calls Try.prog 23 #[.agg x.c.toArray] V fun e w' => ∃ (v : Value) (xs : List ByteArray), e = .returned v ∧ w'.ownsRow V.heap.size 9 1 v xs.length (xs.map Value.string) ∧ xs.any res = resAll x ∧ xs.length ≤ 8796093022208 ∧ Below V.heap.size V w') := fun V h => names_any W0 x V hw hm h
  obtain ⟨R, hR⟩ : ∃ R, R = resAll x := ⟨_, rfl⟩
  rw [← hR] at HN ⊢
  clear hR
  cases hw with
  | cmd a0 a1 a2 l2 a3 l3 a4 l4 a5 l5 a6 l6 a7 l7 a8 l8 a9 h2 q2 h3 q3 h4 q4 h5 q5 h6 q6 h7 q7 h8 q8 =>
    obtain ⟨oa2, cp2, rfl⟩ := h2.form
    obtain ⟨oa3, cp3, rfl⟩ := h3.form
    obtain ⟨oa4, cp4, rfl⟩ := h4.form
    obtain ⟨oa5, cp5, rfl⟩ := h5.form
    obtain ⟨oa6, cp6, rfl⟩ := h6.form
    obtain ⟨oa7, cp7, rfl⟩ := h7.form
    obtain ⟨oa8, cp8, rfl⟩ := h8.form
    rw [show (Nd.mk [.int .i64 a0, .string a1, .slice oa2 l2.length cp2, .slice oa3 l3.length cp3, .slice oa4 l4.length cp4, .slice oa5 l5.length cp5, .slice oa6 l6.length cp6, .slice oa7 l7.length cp7, .slice oa8 l8.length cp8, .int .i64 a9] [l2, l3, l4, l5, l6, l7, l8]).c.toArray = #[.int .i64 a0, .string a1, .slice oa2 l2.length cp2, .slice oa3 l3.length cp3, .slice oa4 l4.length cp4, .slice oa5 l5.length cp5, .slice oa6 l6.length cp6, .slice oa7 l7.length cp7, .slice oa8 l8.length cp8, .int .i64 a9] from rfl] at HN ⊢
    obtain ⟨V, hV⟩ : ∃ V, V = w.alloc (.cells #[.int .i64 a0, .string a1, .slice oa2 l2.length cp2, .slice oa3 l3.length cp3, .slice oa4 l4.length cp4, .slice oa5 l5.length cp5, .slice oa6 l6.length cp6, .slice oa7 l7.length cp7, .slice oa8 l8.length cp8, .int .i64 a9] 48) := ⟨_, rfl⟩
    have hbV : Below w.heap.size w V := hV ▸ (Below.refl _ _).alloc (Nat.le_refl _) _
    have hn := HN.out V (hb.trans (hbV.mono hb.size))
    clear h2 h3 h4 h5 h6 h7 h8 q2 q3 q4 q5 q6 q7 q8 hm
    go_enter Try.func13, Try.ntmps13
    go_wp2_with fail
    rw [← hV]
    refine hn.mono ?_
    rintro e W1 ⟨v, xs, rfl, ho, hr, hl, hb1⟩
    have HBF : Hid (Below w.heap.size w W1) := hbV.trans (hb1.mono hbV.size)
    have HI := Lib.hid (ifres_any V.heap.size v xs W1 ho hb1.size hl)
    obtain ⟨g, ao, cap, rfl, hg1, hg2, hg3, hcl⟩ := strs_block ho hb1.size
    have HCL := Lib.hid hcl
    have HR := Lib.hid hr
    obtain ⟨m, hmm⟩ : ∃ m, m = xs.length := ⟨_, rfl⟩
    rw [← hmm] at HI hg2 hg3 hl ⊢
    have HM := Lib.hid hmm
    clear hn ho hr hb1 hcl hV hbV hmm
    go_wp2_with fail
    refine HI.out.mono ?_
    rintro e w2 ⟨rfl, (⟨rfl, h0⟩ | ⟨k, hk, rfl, h0⟩)⟩
    · have hR : R = false := by rw [← HR.out, h0]
      subst hR
      clear h0
      go_wp2_with fail
      go_ret2
      exact ⟨⟨_, rfl⟩, HBF.out⟩
    · have hR : R = true := by rw [← HR.out, h0]
      subst hR
      obtain ⟨rfl, hgl⟩ := hg2 (by omega)
      have d0 := HCL.out k (by rw [← HM.out]; exact hk)
      obtain ⟨s, hs⟩ : ∃ s, s = xs[k]'(by rw [← HM.out]; exact hk) := ⟨_, rfl⟩
      rw [← hs] at d0
      have hk0 : (0 : Int) ≤ (k : Int) := by omega
      clear h0 hs
      go_wp2_with fail
      go_ret2
      exact ⟨⟨_, rfl⟩, HBF.out⟩

set_option maxRecDepth 100000 in
set_option maxHeartbeats 4000000 in
/-- 'cowrielaw25.ReserveKids' at every command of a weight. -/
theorem rk_any (W0 : World) (x : Nd) (hw : Wf W0 .cmd x) (hm : wt x ≤ 1048576) :
    Calls Try.prog 6 #[.agg x.c.toArray] W0 fun e w' => e = .returned (.bool true) ∧ Below W0.heap.size W0 w' := by
  have HF : Hid (∀ V : World, Below W0.heap.size W0 V → Calls Try.prog 13 #[.agg x.c.toArray] V fun e w' => (∃ s, e = .returned (.tuple #[.string s, .bool (!resAll x)])) ∧ Below V.heap.size V w') := fun V h => free_any W0 x V hw hm h
  have HK : Hid (∀ V : World, Below W0.heap.size W0 V → Calls Try.prog 14 #[.agg x.c.toArray] V fun e w' => ∃ v', e = .returned v' ∧ Own w' V.heap.size 48 10 v' (kids x) ∧ Below V.heap.size V w') := fun V h => rkids_any W0 x V hw hm h
  have HKF : Hid (∀ y ∈ kids x, ∀ V : World, Below W0.heap.size W0 V → Calls Try.prog 13 #[.agg y.c.toArray] V fun e w' => (∃ s, e = .returned (.tuple #[.string s, .bool (!resAll y)])) ∧ Below V.heap.size V w') := fun y hy V h => free_any W0 y V (kids_wf hw y hy) (by have := kid_lt hy; omega) h
  have HKR : Hid (∀ y ∈ kids x, resAll y = true → resAll x = true) := fun y hy h => resAll_kid hy h
  have hkw : Hid (∀ y ∈ kids x, Wf W0 .cmd y) := kids_wf hw
  have hkn : (kids x).length ≤ 1048576 := by have h1 := kids_le x; have h2 := length_le (kids x); omega
  have HA : Hid (∀ V : World, Calls Try.prog 7 #[] V fun e w' => e = .returned (.bool true) ∧ Below V.heap.size V w') := fun V => alive_any V
  obtain ⟨KD, hKD⟩ : ∃ L, L = kids x := ⟨_, rfl⟩
  obtain ⟨R, hR⟩ : ∃ R, R = resAll x := ⟨_, rfl⟩
  rw [← hKD] at HK HKF HKR hkw hkn
  rw [← hR] at HF HKR
  clear hKD hR
  cases hw with
  | cmd a0 a1 a2 l2 a3 l3 a4 l4 a5 l5 a6 l6 a7 l7 a8 l8 a9 h2 q2 h3 q3 h4 q4 h5 q5 h6 q6 h7 q7 h8 q8 =>
    obtain ⟨oa2, cp2, rfl⟩ := h2.form
    obtain ⟨oa3, cp3, rfl⟩ := h3.form
    obtain ⟨oa4, cp4, rfl⟩ := h4.form
    obtain ⟨oa5, cp5, rfl⟩ := h5.form
    obtain ⟨oa6, cp6, rfl⟩ := h6.form
    obtain ⟨oa7, cp7, rfl⟩ := h7.form
    obtain ⟨oa8, cp8, rfl⟩ := h8.form
    rw [show (Nd.mk [.int .i64 a0, .string a1, .slice oa2 l2.length cp2, .slice oa3 l3.length cp3, .slice oa4 l4.length cp4, .slice oa5 l5.length cp5, .slice oa6 l6.length cp6, .slice oa7 l7.length cp7, .slice oa8 l8.length cp8, .int .i64 a9] [l2, l3, l4, l5, l6, l7, l8]).c.toArray = #[.int .i64 a0, .string a1, .slice oa2 l2.length cp2, .slice oa3 l3.length cp3, .slice oa4 l4.length cp4, .slice oa5 l5.length cp5, .slice oa6 l6.length cp6, .slice oa7 l7.length cp7, .slice oa8 l8.length cp8, .int .i64 a9] from rfl] at HF HK ⊢
    obtain ⟨V, hV⟩ : ∃ V, V = W0.alloc (.cells #[.int .i64 a0, .string a1, .slice oa2 l2.length cp2, .slice oa3 l3.length cp3, .slice oa4 l4.length cp4, .slice oa5 l5.length cp5, .slice oa6 l6.length cp6, .slice oa7 l7.length cp7, .slice oa8 l8.length cp8, .int .i64 a9] 48) := ⟨_, rfl⟩
    have HBV : Hid (Below W0.heap.size W0 V) := hV ▸ (Below.refl _ _).alloc (Nat.le_refl _) _
    have hVs : V.heap.size = W0.heap.size + 1 := by rw [hV]; simp
    have HVC : Hid (∀ i, V.cell? ⟨W0.heap.size, i, none⟩ = (#[.int .i64 a0, .string a1, .slice oa2 l2.length cp2, .slice oa3 l3.length cp3, .slice oa4 l4.length cp4, .slice oa5 l5.length cp5, .slice oa6 l6.length cp6, .slice oa7 l7.length cp7, .slice oa8 l8.length cp8, .int .i64 a9] : Array Value)[i]?) := fun i => by rw [hV, World.cell?_alloc_new]
    clear h2 h3 h4 h5 h6 h7 h8 q2 q3 q4 q5 q6 q7 q8 hm
    go_enter Try.func6, Try.ntmps6
    go_wp2_with fail
    rw [← hV]
    refine (HA.out V).mono ?_
    rintro e W1 ⟨rfl, hb1⟩
    have HB1 : Hid (Below W0.heap.size W0 W1) := HBV.out.trans (hb1.mono (by omega))
    have HC1 : Hid (∀ i, W1.cell? ⟨W0.heap.size, i, none⟩ = (#[.int .i64 a0, .string a1, .slice oa2 l2.length cp2, .slice oa3 l3.length cp3, .slice oa4 l4.length cp4, .slice oa5 l5.length cp5, .slice oa6 l6.length cp6, .slice oa7 l7.length cp7, .slice oa8 l8.length cp8, .int .i64 a9] : Array Value)[i]?) := fun i => (hb1.cell (p := ⟨W0.heap.size, i, none⟩) (by show W0.heap.size < _; omega)).trans (HVC.out i)
    have hs1 : W0.heap.size + 1 ≤ W1.heap.size := by have := hb1.size; omega
    have c0 : W1.cell? ⟨W0.heap.size, 0, none⟩ = some (.int .i64 a0) := HC1.out 0
    have c1 : W1.cell? ⟨W0.heap.size, 1, none⟩ = some (.string a1) := HC1.out 1
    have c2 : W1.cell? ⟨W0.heap.size, 2, none⟩ = some (.slice oa2 l2.length cp2) := HC1.out 2
    have c3 : W1.cell? ⟨W0.heap.size, 3, none⟩ = some (.slice oa3 l3.length cp3) := HC1.out 3
    have c4 : W1.cell? ⟨W0.heap.size, 4, none⟩ = some (.slice oa4 l4.length cp4) := HC1.out 4
    have c5 : W1.cell? ⟨W0.heap.size, 5, none⟩ = some (.slice oa5 l5.length cp5) := HC1.out 5
    have c6 : W1.cell? ⟨W0.heap.size, 6, none⟩ = some (.slice oa6 l6.length cp6) := HC1.out 6
    have c7 : W1.cell? ⟨W0.heap.size, 7, none⟩ = some (.slice oa7 l7.length cp7) := HC1.out 7
    have c8 : W1.cell? ⟨W0.heap.size, 8, none⟩ = some (.slice oa8 l8.length cp8) := HC1.out 8
    have c9 : W1.cell? ⟨W0.heap.size, 9, none⟩ = some (.int .i64 a9) := HC1.out 9
    clear hb1 hV
    go_wp2_with fail
    refine (HF.out W1 HB1.out).mono ?_
    rintro e W2 ⟨⟨s, rfl⟩, hb2⟩
    have hx2 := hb2
    have HB2 : Hid (Below W0.heap.size W0 W2) := HB1.out.trans (hb2.mono HB1.out.size)
    have d0 : W2.cell? ⟨W0.heap.size, 0, none⟩ = some (.int .i64 a0) := (hb2.cell (p := ⟨W0.heap.size, 0, none⟩) hs1).trans (HC1.out 0)
    have d1 : W2.cell? ⟨W0.heap.size, 1, none⟩ = some (.string a1) := (hb2.cell (p := ⟨W0.heap.size, 1, none⟩) hs1).trans (HC1.out 1)
    have d2 : W2.cell? ⟨W0.heap.size, 2, none⟩ = some (.slice oa2 l2.length cp2) := (hb2.cell (p := ⟨W0.heap.size, 2, none⟩) hs1).trans (HC1.out 2)
    have d3 : W2.cell? ⟨W0.heap.size, 3, none⟩ = some (.slice oa3 l3.length cp3) := (hb2.cell (p := ⟨W0.heap.size, 3, none⟩) hs1).trans (HC1.out 3)
    have d4 : W2.cell? ⟨W0.heap.size, 4, none⟩ = some (.slice oa4 l4.length cp4) := (hb2.cell (p := ⟨W0.heap.size, 4, none⟩) hs1).trans (HC1.out 4)
    have d5 : W2.cell? ⟨W0.heap.size, 5, none⟩ = some (.slice oa5 l5.length cp5) := (hb2.cell (p := ⟨W0.heap.size, 5, none⟩) hs1).trans (HC1.out 5)
    have d6 : W2.cell? ⟨W0.heap.size, 6, none⟩ = some (.slice oa6 l6.length cp6) := (hb2.cell (p := ⟨W0.heap.size, 6, none⟩) hs1).trans (HC1.out 6)
    have d7 : W2.cell? ⟨W0.heap.size, 7, none⟩ = some (.slice oa7 l7.length cp7) := (hb2.cell (p := ⟨W0.heap.size, 7, none⟩) hs1).trans (HC1.out 7)
    have d8 : W2.cell? ⟨W0.heap.size, 8, none⟩ = some (.slice oa8 l8.length cp8) := (hb2.cell (p := ⟨W0.heap.size, 8, none⟩) hs1).trans (HC1.out 8)
    have d9 : W2.cell? ⟨W0.heap.size, 9, none⟩ = some (.int .i64 a9) := (hb2.cell (p := ⟨W0.heap.size, 9, none⟩) hs1).trans (HC1.out 9)
    clear hb2 hx2 c0 c1 c2 c3 c4 c5 c6 c7 c8 c9
    go_wp2_with fail
    refine (HK.out W2 HB2.out).mono ?_
    rintro e W3 ⟨v3, rfl, ho3, hb3⟩
    obtain ⟨g, ao, cap, rfl, hg1, hg2, hg3, hcl⟩ := ho3.block (fun y hy => (one_cmd (hkw.out y hy)).1) hb3.size
    obtain ⟨m, hmm⟩ : ∃ m, m = KD.length := ⟨_, rfl⟩
    rw [← hmm] at hg2 hg3 hkn ⊢
    have HM := Lib.hid hmm
    have HCL := Lib.hid hcl
    have HB3 : Hid (Below W0.heap.size W0 W3) := HB2.out.trans (hb3.mono HB2.out.size)
    clear ho3 hb3 hcl hmm d0 d1 d2 d3 d4 d5 d6 d7 d8 d9
    cases R
    all_goals
      go_wp2_with fail
      go_loopw [6] (fun i wr => ∃ k : Nat, k ≤ m ∧ i = .int .i64 k ∧ Hid (Below W3.heap.size W3 wr)) (fun i _ => m - (intOf i).toNat)
      case atStart => exact ⟨0, Nat.zero_le _, rfl, Below.refl _ _⟩
      case round =>
        obtain ⟨k, hk, rfl, hbw⟩ := hrel
        by_cases hlt : k < m
        · have hkl : k < KD.length := by rw [← HM.out]; exact hlt
          obtain ⟨haw, hgl, cur, hblk⟩ := hg2 (by omega)
          subst haw
          have hwf := hkw.out KD[k] (List.getElem_mem hkl)
          have hcl := fun i hi => (hbw.out.cell (p := ⟨g, k * 10 + i, none⟩) hgl).trans (HCL.out k hkl i hi)
          have HC := Lib.hid (HKF.out KD[k] (List.getElem_mem hkl) wr (HB3.out.trans (hbw.out.mono HB3.out.size)))
          have HR := Lib.hid (HKR.out KD[k] (List.getElem_mem hkl))
          obtain ⟨y, hy⟩ : ∃ y, y = KD[k] := ⟨_, rfl⟩
          rw [← hy] at hwf hcl HC HR
          obtain ⟨r, hr⟩ : ∃ r, r = resAll y := ⟨_, rfl⟩
          rw [← hr] at HC HR
          clear hy hr
          cases hwf with
          | cmd ya0 ya1 ya2 yl2 ya3 yl3 ya4 yl4 ya5 yl5 ya6 yl6 ya7 yl7 ya8 yl8 ya9 yh2 yq2 yh3 yq3 yh4 yq4 yh5 yq5 yh6 yq6 yh7 yq7 yh8 yq8 =>
          obtain ⟨yo2, yc2, rfl⟩ := yh2.form
          obtain ⟨yo3, yc3, rfl⟩ := yh3.form
          obtain ⟨yo4, yc4, rfl⟩ := yh4.form
          obtain ⟨yo5, yc5, rfl⟩ := yh5.form
          obtain ⟨yo6, yc6, rfl⟩ := yh6.form
          obtain ⟨yo7, yc7, rfl⟩ := yh7.form
          obtain ⟨yo8, yc8, rfl⟩ := yh8.form
          have d0 : wr.cell? ⟨g, k * 10 + 0, none⟩ = some (.int .i64 ya0) := hcl 0 (by decide)
          have d1 : wr.cell? ⟨g, k * 10 + 1, none⟩ = some (.string ya1) := hcl 1 (by decide)
          have d2 : wr.cell? ⟨g, k * 10 + 2, none⟩ = some (.slice yo2 yl2.length yc2) := hcl 2 (by decide)
          have d3 : wr.cell? ⟨g, k * 10 + 3, none⟩ = some (.slice yo3 yl3.length yc3) := hcl 3 (by decide)
          have d4 : wr.cell? ⟨g, k * 10 + 4, none⟩ = some (.slice yo4 yl4.length yc4) := hcl 4 (by decide)
          have d5 : wr.cell? ⟨g, k * 10 + 5, none⟩ = some (.slice yo5 yl5.length yc5) := hcl 5 (by decide)
          have d6 : wr.cell? ⟨g, k * 10 + 6, none⟩ = some (.slice yo6 yl6.length yc6) := hcl 6 (by decide)
          have d7 : wr.cell? ⟨g, k * 10 + 7, none⟩ = some (.slice yo7 yl7.length yc7) := hcl 7 (by decide)
          have d8 : wr.cell? ⟨g, k * 10 + 8, none⟩ = some (.slice yo8 yl8.length yc8) := hcl 8 (by decide)
          have d9 : wr.cell? ⟨g, k * 10 + 9, none⟩ = some (.int .i64 ya9) := hcl 9 (by decide)
          simp only [Nat.add_zero] at d0
          rw [show (Nd.mk [.int .i64 ya0, .string ya1, .slice yo2 yl2.length yc2, .slice yo3 yl3.length yc3, .slice yo4 yl4.length yc4, .slice yo5 yl5.length yc5, .slice yo6 yl6.length yc6, .slice yo7 yl7.length yc7, .slice yo8 yl8.length yc8, .int .i64 ya9] [yl2, yl3, yl4, yl5, yl6, yl7, yl8]).c.toArray = #[.int .i64 ya0, .string ya1, .slice yo2 yl2.length yc2, .slice yo3 yl3.length yc3, .slice yo4 yl4.length yc4, .slice yo5 yl5.length yc5, .slice yo6 yl6.length yc6, .slice yo7 yl7.length yc7, .slice yo8 yl8.length yc8, .int .i64 ya9] from rfl] at HC
          clear hcl yh2 yh3 yh4 yh5 yh6 yh7 yh8 yq2 yq3 yq4 yq5 yq6 yq7 yq8
          first
            | (have hrf : r = false := by
                cases r
                · rfl
                · exact absurd (HR.out rfl) (by decide)
               subst hrf
               go_wp2_with fail
               refine HC.out.mono ?_
               rintro e W5 ⟨⟨s5, rfl⟩, hb5⟩
               have HB5 : Hid (Below W3.heap.size W3 W5) := hbw.out.trans (hb5.mono hbw.out.size)
               clear hb5
               go_wp2_with fail
               go_roundw
               case rel => exact ⟨k + 1, by omega, by go_num, HB5.out⟩
               case measure => (first | omega | (simp [intOf] <;> omega)))
            | (cases r
               all_goals
                 go_wp2_with fail
                 refine HC.out.mono ?_
                 rintro e W5 ⟨⟨s5, rfl⟩, hb5⟩
                 have HB5 : Hid (Below W3.heap.size W3 W5) := hbw.out.trans (hb5.mono hbw.out.size)
                 clear hb5
                 go_wp2_with fail
                 go_roundw
                 case rel => exact ⟨k + 1, by omega, by go_num, HB5.out⟩
                 case measure => (first | omega | (simp [intOf] <;> omega)))
            | fail
        · obtain rfl : m = k := by omega
          go_wp2_with fail
          go_ret
          exact ⟨by simp, HB3.out.trans (hbw.out.mono HB3.out.size)⟩
end Go.Proofs.Ytihbdacmgojapaa

/- dialect.walk: the iterator over all commands; conditions: as each theorem states. -/
import Derived.Test.YtihbdacmgojapaaEn
namespace Go.Proofs.Ytihbdacmgojapaa
open Go.RowKit Go.Shelf
attribute [local go_sem] Oper.semAt_some

/-- A command of a weight. -/
abbrev CmdA (W0 : World) (m : Nat) := {x : Nd // Wf W0 .cmd x ∧ wt x ≤ m}
set_option maxRecDepth 100000 in
set_option maxHeartbeats 4000000 in
theorem walk_in (W0 : World) (T : TypeId → Bool) (hT : T 48 = false) (n0 : Nat) (hn0 : W0.heap.size ≤ n0) (M l N : Nat) (hM0 : M ≤ 1048576) (J Jx : List Nd → World → Prop) (hJa : ∀ pre W W', n0 ≤ W.heap.size → J pre W → Below W.heap.size W W' → J pre W')
    (hY : ∀ m pre x W, Wf W0 .cmd x → wt x ≤ M → J pre W → pre.length < N → YieldAt Fence.wide m Try.prog l #[.agg x.c.toArray] W (RoundP (KT T n0) J Jx pre x W)) :
    ∀ (n d : Nat) (x : Nd) (pre : List Nd) (W : World), wt x ≤ n → wt x ≤ M → Wf W0 .cmd x → Below W0.heap.size W0 W → n0 ≤ W.heap.size → J pre W → pre.length + (cp x).length ≤ N →
      CallsIn Fence.wide d Try.prog 39 #[.agg x.c.toArray, .func (.yield l) #[] #[]] W fun e W' => (e = .returned (.bool true) ∧ J (pre ++ cp x) W' ∧ KT T n0 W W') ∨ (e = .returned (.bool false) ∧ ∃ q, q <+: cp x ∧ Jx (pre ++ q) W') := by
  intro n
  induction n with
  | zero =>
    intro d x pre W hn
    have := wt_pos x
    omega
  | succ n ih =>
    intro d x pre W hn hM hw hb hn0W hJ hN
    have hcp := cp_is x
    rw [hcp]
    rw [hcp] at hN
    have hkw : Hid (∀ y ∈ kids x, Wf W0 .cmd y) := kids_wf hw
    have hkl : Hid (∀ y ∈ kids x, wt y ≤ n ∧ wt y ≤ M) := fun y hy => by have := kid_lt hy; exact ⟨by omega, by omega⟩
    have hkn : (kids x).length ≤ 1048576 := by have h1 := kids_le x; have h2 := length_le (kids x); omega
    have HKA : Hid (∀ V : World, Below W0.heap.size W0 V → Calls Try.prog 48 #[.agg x.c.toArray] V fun e w' => ∃ v', e = .returned v' ∧ Own w' V.heap.size 48 10 v' (kids x) ∧ Below V.heap.size V w') := fun V h => kids_any W0 x V hw (by omega) h
    have HJA := Lib.hid hJa
    have HIH := Lib.hid ih
    have HN := Lib.hid hN
    obtain ⟨V, hV⟩ : ∃ V, V = W.alloc (.cells x.c.toArray 48) := ⟨_, rfl⟩
    have hVb : V.heap[W.heap.size]? = some (.cells x.c.toArray 48 (0, 0)) := by rw [hV]; exact World.alloc_heap_new W _
    have hbV : Below W.heap.size W V := hV ▸ (Below.refl _ _).alloc (Nat.le_refl _) _
    have hJV : J pre V := hJa _ _ _ hn0W hJ hbV
    have HKV : Hid (KT T n0 W V) := KT.quiet hn0W hbV
    obtain ⟨fn, tmps, assign, body, hy, hR⟩ := hY (d - 1) pre x V hw hM hJV (by rw [List.length_cons] at hN; omega)
    obtain ⟨KD, hKD⟩ : ∃ L, L = kids x := ⟨_, rfl⟩
    rw [← hKD] at hkw hkl hkn HKA HN hcp ⊢
    have HB := Lib.hid hb
    have HR := Lib.hid hR
    obtain ⟨X, hX⟩ : ∃ X, X = x := ⟨_, rfl⟩
    rw [← hX] at HR
    obtain ⟨Z, hZ⟩ : ∃ Z, Z = x :: KD.flatMap cp := ⟨_, rfl⟩
    rw [← hZ] at HN ⊢
    have HZ : Hid (Z = [X] ++ KD.flatMap cp) := by rw [hX]; exact hZ
    clear hn hM hJ hN hJV hJa hY ih hb hR hcp hKD hbV hX hZ
    cases hw with
    | cmd a0 a1 a2 l2 a3 l3 a4 l4 a5 l5 a6 l6 a7 l7 a8 l8 a9 h2 q2 h3 q3 h4 q4 h5 q5 h6 q6 h7 q7 h8 q8 =>
      obtain ⟨oa2, cp2, rfl⟩ := h2.form
      obtain ⟨oa3, cp3, rfl⟩ := h3.form
      obtain ⟨oa4, cp4, rfl⟩ := h4.form
      obtain ⟨oa5, cp5, rfl⟩ := h5.form
      obtain ⟨oa6, cp6, rfl⟩ := h6.form
      obtain ⟨oa7, cp7, rfl⟩ := h7.form
      obtain ⟨oa8, cp8, rfl⟩ := h8.form
      rw [show (Nd.mk [.int .i64 a0, .string a1, .slice oa2 l2.length cp2, .slice oa3 l3.length cp3, .slice oa4 l4.length cp4, .slice oa5 l5.length cp5, .slice oa6 l6.length cp6, .slice oa7 l7.length cp7, .slice oa8 l8.length cp8, .int .i64 a9] [l2, l3, l4, l5, l6, l7, l8]).c.toArray = #[.int .i64 a0, .string a1, .slice oa2 l2.length cp2, .slice oa3 l3.length cp3, .slice oa4 l4.length cp4, .slice oa5 l5.length cp5, .slice oa6 l6.length cp6, .slice oa7 l7.length cp7, .slice oa8 l8.length cp8, .int .i64 a9] from rfl] at hy hV hVb HKA ⊢
      have e0 : ∀ i, V.cell? ⟨W.heap.size, i, none⟩ = (#[.int .i64 a0, .string a1, .slice oa2 l2.length cp2, .slice oa3 l3.length cp3, .slice oa4 l4.length cp4, .slice oa5 l5.length cp5, .slice oa6 l6.length cp6, .slice oa7 l7.length cp7, .slice oa8 l8.length cp8, .int .i64 a9] : Array Value)[i]? := fun i => by simp [World.cell?, hVb]
      have e00 : V.cell? ⟨W.heap.size, 0, none⟩ = some (.int .i64 a0) := e0 0
      have e01 : V.cell? ⟨W.heap.size, 1, none⟩ = some (.string a1) := e0 1
      have e02 : V.cell? ⟨W.heap.size, 2, none⟩ = some (.slice oa2 l2.length cp2) := e0 2
      have e03 : V.cell? ⟨W.heap.size, 3, none⟩ = some (.slice oa3 l3.length cp3) := e0 3
      have e04 : V.cell? ⟨W.heap.size, 4, none⟩ = some (.slice oa4 l4.length cp4) := e0 4
      have e05 : V.cell? ⟨W.heap.size, 5, none⟩ = some (.slice oa5 l5.length cp5) := e0 5
      have e06 : V.cell? ⟨W.heap.size, 6, none⟩ = some (.slice oa6 l6.length cp6) := e0 6
      have e07 : V.cell? ⟨W.heap.size, 7, none⟩ = some (.slice oa7 l7.length cp7) := e0 7
      have e08 : V.cell? ⟨W.heap.size, 8, none⟩ = some (.slice oa8 l8.length cp8) := e0 8
      have e09 : V.cell? ⟨W.heap.size, 9, none⟩ = some (.int .i64 a9) := e0 9
      have hy' := hy
      rw [hV] at hy'
      clear hy h2 h3 h4 h5 h6 h7 h8 q2 q3 q4 q5 q6 q7 q8
      have HE := Lib.hid e0
      clear e0
      refine callsIn_of_wp Try.func39 rfl trivial ?_ rfl
      simp only [Try.ntmps39, List.size_toArray, List.length_cons, List.length_nil, Nat.reduceAdd, Nat.reduceSub, Array.replicate_succ, Array.replicate_zero, List.push_toArray, List.append_toArray, List.nil_append, List.cons_append]
      gi_wp2
      rw [← hV]
      refine ⟨fun h => (by cases h), ?_⟩
      refine HR.out.mono ?_
      rintro e W2 (⟨rfl, hJ2, hk2⟩ | ⟨rfl, hx2⟩)
      · have e2 : ∀ i, W2.cell? ⟨W.heap.size, i, none⟩ = (#[.int .i64 a0, .string a1, .slice oa2 l2.length cp2, .slice oa3 l3.length cp3, .slice oa4 l4.length cp4, .slice oa5 l5.length cp5, .slice oa6 l6.length cp6, .slice oa7 l7.length cp7, .slice oa8 l8.length cp8, .int .i64 a9] : Array Value)[i]? := fun i => (hk2.boxcell hVb hT i).trans (HE.out i)
        have ez0 : W2.cell? ⟨W.heap.size, 0, none⟩ = some (.int .i64 a0) := e2 0
        have ez1 : W2.cell? ⟨W.heap.size, 1, none⟩ = some (.string a1) := e2 1
        have ez2 : W2.cell? ⟨W.heap.size, 2, none⟩ = some (.slice oa2 l2.length cp2) := e2 2
        have ez3 : W2.cell? ⟨W.heap.size, 3, none⟩ = some (.slice oa3 l3.length cp3) := e2 3
        have ez4 : W2.cell? ⟨W.heap.size, 4, none⟩ = some (.slice oa4 l4.length cp4) := e2 4
        have ez5 : W2.cell? ⟨W.heap.size, 5, none⟩ = some (.slice oa5 l5.length cp5) := e2 5
        have ez6 : W2.cell? ⟨W.heap.size, 6, none⟩ = some (.slice oa6 l6.length cp6) := e2 6
        have ez7 : W2.cell? ⟨W.heap.size, 7, none⟩ = some (.slice oa7 l7.length cp7) := e2 7
        have ez8 : W2.cell? ⟨W.heap.size, 8, none⟩ = some (.slice oa8 l8.length cp8) := e2 8
        have ez9 : W2.cell? ⟨W.heap.size, 9, none⟩ = some (.int .i64 a9) := e2 9
        have HK2 : Hid (KT T n0 W W2) := HKV.out.trans hk2
        have HJ2 := Lib.hid hJ2
        have HB2 : Hid (Below W0.heap.size W0 W2) := HB.out.trans (HK2.out.below.mono hn0)
        have hz2 : n0 ≤ W2.heap.size := Nat.le_trans hn0W HK2.out.below.size
        have hka := HKA.out W2 HB2.out
        clear hk2 hJ2 e2 hV hVb hy' e00 e01 e02 e03 e04 e05 e06 e07 e08 e09
        gi_wp2
        refine ⟨trivial, ?_⟩
        first | refine ⟨fun h => (by cases h), ?_⟩ | skip
        refine (callsIn_wide.2 hka).mono ?_
        rintro e W3 ⟨v3, rfl, ho3, hb3⟩
        obtain ⟨g, ao, cap, rfl, hg1, hg2, hg3, hcl⟩ := ho3.block (fun y hy => (one_cmd (hkw.out y hy)).1) hb3.size
        obtain ⟨m, hmm⟩ : ∃ m, m = KD.length := ⟨_, rfl⟩
        rw [← hmm] at hg2 hg3 hkn ⊢
        have HM := Lib.hid hmm
        have HCL := Lib.hid hcl
        have HB3 := Lib.hid hb3
        have HK3 : Hid (KT T n0 W W3) := HK2.out.trans (KT.quiet hz2 hb3)
        have HJ3 : Hid (J (pre ++ [X]) W3) := HJA.out _ _ _ hz2 HJ2.out hb3
        have hz3 : n0 ≤ W3.heap.size := Nat.le_trans hz2 hb3.size
        clear ho3 hb3 hcl hmm hka ez0 ez1 ez2 ez3 ez4 ez5 ez6 ez7 ez8 ez9
        gi_wp2
        gi_loopw [14] (fun i wr => ∃ k : Nat, k ≤ m ∧ i = .int .i64 k ∧ Hid (J (pre ++ ([X] ++ (KD.take k).flatMap cp)) wr) ∧ Hid (KT T n0 W3 wr)) (fun i _ => m - (intOf i).toNat)
        case atStart => exact ⟨0, Nat.zero_le _, rfl, by show J _ _; rw [List.take_zero, List.flatMap_nil, List.append_nil]; exact HJ3.out, KT.refl _ _ _⟩
        case round =>
          obtain ⟨k, hk, rfl, hJk, hkt⟩ := hrel
          by_cases hlt : k < m
          · have hkl' : k < KD.length := by rw [← HM.out]; exact hlt
            obtain ⟨haw, hgl, cur, hblk⟩ := hg2 (by omega)
            subst haw
            have hwf := hkw.out KD[k] (List.getElem_mem hkl')
            have hle := hkl.out KD[k] (List.getElem_mem hkl')
            have hcl := fun i hi => (hkt.out.boxcell hblk hT (k * 10 + i)).trans (HCL.out k hkl' i hi)
            have hsn := fm_snoc cp KD k hkl'
            have hpl := fm_take_len cp KD (k + 1)
            have hpx := fm_prefix cp KD (k + 1)
            obtain ⟨y, hy⟩ : ∃ y, y = KD[k] := ⟨_, rfl⟩
            rw [← hy] at hwf hle hcl hsn
            clear hy
            have hwz : n0 ≤ wr.heap.size := Nat.le_trans hz3 hkt.out.below.size
            have hbw : Below W0.heap.size W0 wr := HB.out.trans ((HK3.out.trans hkt.out).below.mono hn0)
            obtain ⟨V2, hV2⟩ : ∃ V, V = wr.alloc (.cells y.c.toArray 48) := ⟨_, rfl⟩
            have hbV2 : Below wr.heap.size wr V2 := hV2 ▸ (Below.refl _ _).alloc (Nat.le_refl _) _
            have hlen : (pre ++ ([X] ++ (KD.take k).flatMap cp)).length + (cp y).length ≤ N := by
              have h1 := HN.out
              rw [HZ.out] at h1
              rw [hsn] at hpl
              simp only [List.length_append, List.length_cons, List.length_nil] at h1 hpl ⊢
              omega
            have HC := Lib.hid (HIH.out (d - 1) y _ V2 hle.1 hle.2 hwf (hbw.trans (hbV2.mono hbw.size)) (Nat.le_trans hwz hbV2.size) (HJA.out _ _ _ hwz hJk.out hbV2) hlen)
            have HKT := Lib.hid (hkt.out.trans (KT.quiet hwz hbV2))
            have HSN := Lib.hid hsn
            have HPX := Lib.hid hpx
            cases hwf with
            | cmd ya0 ya1 ya2 yl2 ya3 yl3 ya4 yl4 ya5 yl5 ya6 yl6 ya7 yl7 ya8 yl8 ya9 yh2 yq2 yh3 yq3 yh4 yq4 yh5 yq5 yh6 yq6 yh7 yq7 yh8 yq8 =>
            obtain ⟨yo2, yc2, rfl⟩ := yh2.form
            obtain ⟨yo3, yc3, rfl⟩ := yh3.form
            obtain ⟨yo4, yc4, rfl⟩ := yh4.form
            obtain ⟨yo5, yc5, rfl⟩ := yh5.form
            obtain ⟨yo6, yc6, rfl⟩ := yh6.form
            obtain ⟨yo7, yc7, rfl⟩ := yh7.form
            obtain ⟨yo8, yc8, rfl⟩ := yh8.form
            have d0 : wr.cell? ⟨g, k * 10 + 0, none⟩ = some (.int .i64 ya0) := hcl 0 (by decide)
            have d1 : wr.cell? ⟨g, k * 10 + 1, none⟩ = some (.string ya1) := hcl 1 (by decide)
            have d2 : wr.cell? ⟨g, k * 10 + 2, none⟩ = some (.slice yo2 yl2.length yc2) := hcl 2 (by decide)
            have d3 : wr.cell? ⟨g, k * 10 + 3, none⟩ = some (.slice yo3 yl3.length yc3) := hcl 3 (by decide)
            have d4 : wr.cell? ⟨g, k * 10 + 4, none⟩ = some (.slice yo4 yl4.length yc4) := hcl 4 (by decide)
            have d5 : wr.cell? ⟨g, k * 10 + 5, none⟩ = some (.slice yo5 yl5.length yc5) := hcl 5 (by decide)
            have d6 : wr.cell? ⟨g, k * 10 + 6, none⟩ = some (.slice yo6 yl6.length yc6) := hcl 6 (by decide)
            have d7 : wr.cell? ⟨g, k * 10 + 7, none⟩ = some (.slice yo7 yl7.length yc7) := hcl 7 (by decide)
            have d8 : wr.cell? ⟨g, k * 10 + 8, none⟩ = some (.slice yo8 yl8.length yc8) := hcl 8 (by decide)
            have d9 : wr.cell? ⟨g, k * 10 + 9, none⟩ = some (.int .i64 ya9) := hcl 9 (by decide)
            simp only [Nat.add_zero] at d0
            rw [show (Nd.mk [.int .i64 ya0, .string ya1, .slice yo2 yl2.length yc2, .slice yo3 yl3.length yc3, .slice yo4 yl4.length yc4, .slice yo5 yl5.length yc5, .slice yo6 yl6.length yc6, .slice yo7 yl7.length yc7, .slice yo8 yl8.length yc8, .int .i64 ya9] [yl2, yl3, yl4, yl5, yl6, yl7, yl8]).c.toArray = #[.int .i64 ya0, .string ya1, .slice yo2 yl2.length yc2, .slice yo3 yl3.length yc3, .slice yo4 yl4.length yc4, .slice yo5 yl5.length yc5, .slice yo6 yl6.length yc6, .slice yo7 yl7.length yc7, .slice yo8 yl8.length yc8, .int .i64 ya9] from rfl] at hV2 HC
            obtain ⟨Y, hY⟩ : ∃ Y, Y = Nd.mk [.int .i64 ya0, .string ya1, .slice yo2 yl2.length yc2, .slice yo3 yl3.length yc3, .slice yo4 yl4.length yc4, .slice yo5 yl5.length yc5, .slice yo6 yl6.length yc6, .slice yo7 yl7.length yc7, .slice yo8 yl8.length yc8, .int .i64 ya9] [yl2, yl3, yl4, yl5, yl6, yl7, yl8] := ⟨_, rfl⟩
            rw [← hY] at HC HSN
            clear hcl hsn hpl hpx hbV2 hbw hlen hle yh2 yh3 yh4 yh5 yh6 yh7 yh8 yq2 yq3 yq4 yq5 yq6 yq7 yq8 hJk hkt hY
            gi_wp2
            rw [← hV2]
            refine ⟨trivial, ?_⟩
            first | refine ⟨fun h => (by cases h), ?_⟩ | skip
            refine HC.out.mono ?_
            rintro e W5 (⟨rfl, hJ5, hk5⟩ | ⟨rfl, q, hq, hx5⟩)
            · have HK5 := Lib.hid (HKT.out.trans hk5)
              have HJ5 : Hid (J (pre ++ ([X] ++ (KD.take (k + 1)).flatMap cp)) W5) := by
                show J _ _
                rw [HSN.out]
                simpa [List.append_assoc] using hJ5
              clear hk5 hJ5
              gi_wp2
              go_roundw
              case rel => exact ⟨k + 1, by omega, by go_num, HJ5.out, HK5.out⟩
              case measure => (first | omega | (simp [intOf] <;> omega))
            · have HX : Hid (∃ q, q <+: Z ∧ Jx (pre ++ q) W5) := by
                refine ⟨[X] ++ ((KD.take k).flatMap cp ++ q), ?_, by simpa [List.append_assoc] using hx5⟩
                rw [HZ.out]
                refine List.prefix_append_right_inj _ |>.2 (List.IsPrefix.trans ?_ HPX.out)
                rw [HSN.out]
                exact List.prefix_append_right_inj _ |>.2 hq
              clear hx5 hq
              gi_wp2
              go_ret
              exact .inr ⟨by simp, HX.out⟩
          · obtain rfl : m = k := by omega
            have HJE : Hid (J (pre ++ Z) wr) := by
              have h := hJk.out
              rw [List.take_of_length_le (by rw [HM.out]; exact Nat.le_refl _)] at h
              show J _ _
              rw [HZ.out]
              exact h
            have HKE := Lib.hid (HK3.out.trans hkt.out)
            clear hJk hkt
            gi_wp2
            go_ret
            exact .inl ⟨by simp, HJE.out, HKE.out⟩
      · have HX : Hid (∃ q, q <+: Z ∧ Jx (pre ++ q) W2) := ⟨[X], by rw [HZ.out]; exact ⟨_, rfl⟩, hx2⟩
        clear hx2 hV hVb hy' e00 e01 e02 e03 e04 e05 e06 e07 e08 e09
        gi_wp2
        go_ret
        exact .inr ⟨by simp, HX.out⟩
end Go.Proofs.Ytihbdacmgojapaa

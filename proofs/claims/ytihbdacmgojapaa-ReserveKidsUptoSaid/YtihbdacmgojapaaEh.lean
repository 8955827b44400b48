/- dialect.parts: the iterator over a word's parts; conditions: as each theorem states. -/
import Derived.Test.YtihbdacmgojapaaEg
import Derived.RangeFuncNested
import Derived.RangeFuncBound
import Derived.RangeFuncCalls
import Derived.RangeFuncLeaves
import Derived.RangeFuncBox
import Derived.Shelf.Abstract
import Derived.Shelf.RegionOpen
import Derived.OwnWalkIn
import Derived.TacticsInMore
import Derived.LoopNIn
import Derived.LoopIn
namespace Go.Proofs.Ytihbdacmgojapaa
open Go.RowKit Go.Shelf
attribute [local go_sem] Oper.semAt_some

/-- All cells but those of some types, and all blocks below n0, lie as they lay. -/
structure KT (T : TypeId → Bool) (n0 : Nat) (W W' : World) : Prop where
  below : Below n0 W W'
  cells : ∀ (k : Nat) (cs : Array Value) (t : TypeId) (fr : Nat × Nat), W.heap[k]? = some (Obj.cells cs t fr) → T t = false → W'.heap[k]? = W.heap[k]?
theorem KT.refl (T : TypeId → Bool) (n0 : Nat) (W : World) : KT T n0 W W := ⟨Below.refl _ _, fun _ _ _ _ _ _ => rfl⟩
theorem KT.trans {T : TypeId → Bool} {n0 : Nat} {A B C : World} (h : KT T n0 A B) (k : KT T n0 B C) : KT T n0 A C :=
  ⟨h.below.trans k.below, fun i cs t fr hi ht => (k.cells i cs t fr ((h.cells i cs t fr hi ht).trans hi) ht).trans (h.cells i cs t fr hi ht)⟩
theorem KT.quiet {T : TypeId → Bool} {n0 : Nat} {W W' : World} (hn : n0 ≤ W.heap.size) (h : Below W.heap.size W W') : KT T n0 W W' :=
  ⟨h.mono hn, fun k _ _ _ hk _ => h.block k (Array.getElem?_eq_some_iff.1 hk).1⟩
theorem KT.alloc {T : TypeId → Bool} {n0 : Nat} {W W' : World} (h : KT T n0 W W') (hn : n0 ≤ W'.heap.size) (o : Obj) : KT T n0 W (W'.alloc o) := h.trans (KT.quiet hn ((Below.refl _ _).alloc (Nat.le_refl _) o))
theorem KT.putObj {T : TypeId → Bool} {n0 : Nat} (W : World) (l : Nat) (o o' : Obj) (hn : n0 ≤ l) (hl : W.heap[l]? = some o) (ho : o.isCells = false) : KT T n0 W (W.putObj l o') := by
  have g := grownBy_putObj' W l o'
  refine ⟨(Below.refl _ _).grown g (by have := (Array.getElem?_eq_some_iff.1 hl).1; omega) (fun k hk => by injection hk with hk; omega), fun k cs t fr hk _ => g.block k (Array.getElem?_eq_some_iff.1 hk).1 (fun e => ?_)⟩
  injection e with e
  subst e
  rw [hl] at hk
  injection hk with hk
  rw [hk] at ho
  cases ho
theorem KT.boxcell {T : TypeId → Bool} {n0 : Nat} {W W' : World} (h : KT T n0 W W') {k : Nat} {cs : Array Value} {t : TypeId} {fr : Nat × Nat} (hk : W.heap[k]? = some (.cells cs t fr)) (ht : T t = false) (i : Nat) : W'.cell? ⟨k, i, none⟩ = W.cell? ⟨k, i, none⟩ :=
  World.cell?_of_block (h.cells k cs t fr hk ht)
theorem RoundIn.anyD {F : Fence} (hd : F.depth = none) {m m' : Nat} {P : Program} {l : Nat} {f : FuncId} {tmps : Array Value} {assign body : Code} {w : World} {R : Ending → World → Prop}
    (h : RoundIn F m P l f tmps assign body w R) : RoundIn F m' P l f tmps assign body w R := ⟨h.1, fun c cs _ => h.2 c cs (fun d h => by rw [hd] at h; cases h)⟩
theorem YieldAt.anyD {F : Fence} (hd : F.depth = none) {m : Nat} (m' : Nat) {P : Program} {l : Nat} {args : Array Value} {W : World} {R : Ending → World → Prop} (h : YieldAt F m P l args W R) : YieldAt F m' P l args W R := by
  obtain ⟨fn, tmps, assign, body, hy, hR⟩ := h
  exact ⟨fn, tmps, assign, body, hy, RoundIn.anyD hd hR⟩
theorem fm_prefix {α β : Type} (f : α → List β) (l : List α) (k : Nat) : (l.take k).flatMap f <+: l.flatMap f :=
  ⟨(l.drop k).flatMap f, by rw [← List.flatMap_append, List.take_append_drop]⟩
/-- A part of a weight. -/
abbrev PartA (W0 : World) (m : Nat) := {x : Nd // Wf W0 .part x ∧ wt x ≤ m}
/-- What a round at a part leaves. -/
abbrev RoundP (Kp : World → World → Prop) (J Jx : List Nd → World → Prop) (pre : List Nd) (x : Nd) (W : World) (e : Ending) (W' : World) : Prop :=
  (e = .returned (.bool true) ∧ J (pre ++ [x]) W' ∧ Kp W W') ∨ (e = .returned (.bool false) ∧ Jx (pre ++ [x]) W')

set_option maxRecDepth 100000 in
set_option maxHeartbeats 4000000 in
theorem parts_in (W0 : World) (T : TypeId → Bool) (hT : T 92 = false) (n0 : Nat) (hn0 : W0.heap.size ≤ n0) (M l N : Nat) (hM0 : M ≤ 1048576) (J Jx : List Nd → World → Prop) (hJa : ∀ pre W o, n0 ≤ W.heap.size → J pre W → J pre (W.alloc o))
    (hY : ∀ m pre x W, Wf W0 .part x → wt x ≤ M → J pre W → pre.length < N → YieldAt Fence.wide m Try.prog l #[.agg x.c.toArray] W (RoundP (KT T n0) J Jx pre x W)) :
    ∀ (n d : Nat) (ps : List Nd) (v : Value) (pre : List Nd) (W : World), Wl ps ≤ n → Wl ps ≤ M → (∀ y ∈ ps, Wf W0 .part y) → SlA W0 10 v (ps.map Nd.c) → Below W0.heap.size W0 W → n0 ≤ W.heap.size → J pre W → pre.length + (ps.flatMap pp).length ≤ N →
      CallsIn Fence.wide d Try.prog 52 #[v, .func (.yield l) #[] #[]] W fun e W' => (e = .returned (.bool true) ∧ J (pre ++ ps.flatMap pp) W' ∧ KT T n0 W W') ∨ (e = .returned (.bool false) ∧ ∃ q, q <+: ps.flatMap pp ∧ Jx (pre ++ q) W') := by
  intro n
  induction n with
  | zero =>
    intro d ps v pre W hn _ _ hs _ _ hJ _
    have hl : ps = [] := by
      have := length_le ps
      exact List.length_eq_zero_iff.1 (by omega)
    subst hl
    obtain ⟨ao, cap, rfl⟩ := hs.form
    clear hs hn
    refine callsIn_of_wp Try.func52 rfl trivial ?_ rfl
    simp only [Try.ntmps52, List.size_toArray, List.length_cons, List.length_nil, Nat.reduceAdd, Nat.reduceSub, Array.replicate_succ, Array.replicate_zero, List.push_toArray, List.append_toArray, List.nil_append, List.cons_append]
    gi_wp2
    gi_loopw [9] (fun i wr => i = .int .i64 0 ∧ wr = W) (fun _ _ => 0)
    case atStart => exact ⟨rfl, rfl⟩
    case round =>
      obtain ⟨rfl, rfl⟩ := hrel
      gi_wp2
      go_ret
      exact .inl ⟨by simp, by simpa using hJ, KT.refl _ _ _⟩
  | succ n ih =>
    intro d ps v pre W hn hM hq hs hb hn0W hJ hN
    obtain ⟨ao, b, o, cap, rfl, hf, hg, hcap, hat⟩ := hs.at
    obtain ⟨m, hmm⟩ : ∃ m, m = ps.length := ⟨_, rfl⟩
    have hml : m ≤ 1048576 := by have := length_le ps; omega
    have HQ := Lib.hid hq
    have HAT := Lib.hid hat
    have HB := Lib.hid hb
    have HM := Lib.hid hmm
    have HN := Lib.hid hN
    have HJA := Lib.hid hJa
    have HY := Lib.hid hY
    have HIH := Lib.hid ih
    rw [← hmm] at hf hg hcap ⊢
    clear hq hat hb hmm hs hN hJa hY ih
    refine callsIn_of_wp Try.func52 rfl trivial ?_ rfl
    simp only [Try.ntmps52, List.size_toArray, List.length_cons, List.length_nil, Nat.reduceAdd, Nat.reduceSub, Array.replicate_succ, Array.replicate_zero, List.push_toArray, List.append_toArray, List.nil_append, List.cons_append]
    gi_wp2
    gi_loopw [9] (fun i wr => ∃ k : Nat, k ≤ m ∧ i = .int .i64 k ∧ Hid (J (pre ++ (ps.take k).flatMap pp) wr) ∧ Hid (KT T n0 W wr)) (fun i _ => m - (intOf i).toNat)
    case atStart => exact ⟨0, Nat.zero_le _, rfl, by show J _ _; rw [List.take_zero, List.flatMap_nil, List.append_nil]; exact hJ, KT.refl _ _ _⟩
    case round =>
      obtain ⟨k, hk, rfl, hJk, hkt⟩ := hrel
      by_cases hlt : k < m
      · have hkl : k < ps.length := by rw [← HM.out]; exact hlt
        obtain rfl := hf (by omega)
        have hgb := hg (by omega)
        have hwf := HQ.out ps[k] (List.getElem_mem hkl)
        have hat := HAT.out k hkl
        have hsn := fm_snoc pp ps k hkl
        have hwk : wt ps[k] ≤ Wl ps := wt_mem (List.getElem_mem hkl)
        have hpl := fm_take_len pp ps (k + 1)
        obtain ⟨x, hx⟩ : ∃ x, x = ps[k] := ⟨_, rfl⟩
        rw [← hx] at hwf hat hsn hwk
        clear hx
        have hb0 : Below W0.heap.size W0 wr := HB.out.trans (hkt.out.below.mono hn0)
        have HWF := Lib.hid hwf
        cases hwf with
        | part a0 a1 a2 a3 a4 a5 l5 a6 l6 a7 l7 a8 l8 a9 h5 q5 h6 q6 h7 q7 h8 q8 =>
          obtain ⟨oa5, cp5, rfl⟩ := h5.form
          obtain ⟨oa6, cp6, rfl⟩ := h6.form
          obtain ⟨oa7, cp7, rfl⟩ := h7.form
          obtain ⟨oa8, cp8, rfl⟩ := h8.form
          have d0 : wr.cell? ⟨b, o + k * 10 + 0, none⟩ = some (.int .i64 a0) := (hb0.cell (p := ⟨b, o + k * 10 + 0, none⟩) hgb).trans (hat 0 (by decide))
          have d1 : wr.cell? ⟨b, o + k * 10 + 1, none⟩ = some (.string a1) := (hb0.cell (p := ⟨b, o + k * 10 + 1, none⟩) hgb).trans (hat 1 (by decide))
          have d2 : wr.cell? ⟨b, o + k * 10 + 2, none⟩ = some (.string a2) := (hb0.cell (p := ⟨b, o + k * 10 + 2, none⟩) hgb).trans (hat 2 (by decide))
          have d3 : wr.cell? ⟨b, o + k * 10 + 3, none⟩ = some (.string a3) := (hb0.cell (p := ⟨b, o + k * 10 + 3, none⟩) hgb).trans (hat 3 (by decide))
          have d4 : wr.cell? ⟨b, o + k * 10 + 4, none⟩ = some (.bool a4) := (hb0.cell (p := ⟨b, o + k * 10 + 4, none⟩) hgb).trans (hat 4 (by decide))
          have d5 : wr.cell? ⟨b, o + k * 10 + 5, none⟩ = some (.slice oa5 l5.length cp5) := (hb0.cell (p := ⟨b, o + k * 10 + 5, none⟩) hgb).trans (hat 5 (by decide))
          have d6 : wr.cell? ⟨b, o + k * 10 + 6, none⟩ = some (.slice oa6 l6.length cp6) := (hb0.cell (p := ⟨b, o + k * 10 + 6, none⟩) hgb).trans (hat 6 (by decide))
          have d7 : wr.cell? ⟨b, o + k * 10 + 7, none⟩ = some (.slice oa7 l7.length cp7) := (hb0.cell (p := ⟨b, o + k * 10 + 7, none⟩) hgb).trans (hat 7 (by decide))
          have d8 : wr.cell? ⟨b, o + k * 10 + 8, none⟩ = some (.slice oa8 l8.length cp8) := (hb0.cell (p := ⟨b, o + k * 10 + 8, none⟩) hgb).trans (hat 8 (by decide))
          have d9 : wr.cell? ⟨b, o + k * 10 + 9, none⟩ = some (.int .i64 a9) := (hb0.cell (p := ⟨b, o + k * 10 + 9, none⟩) hgb).trans (hat 9 (by decide))
          simp only [Nat.add_zero] at d0
          have hsev := seven (.mk [.int .i64 a0, .string a1, .string a2, .string a3, .bool a4, .slice oa5 l5.length cp5, .slice oa6 l6.length cp6, .slice oa7 l7.length cp7, .slice oa8 l8.length cp8, .int .i64 a9] [l5, l6, l7, l8])
          simp only [Nd.sub, Nd.s, List.getD_cons_zero, List.getD_cons_succ] at hsev
          rw [pp_is] at hsn
          simp only [Nd.sub, Nd.s, List.getD_cons_zero, List.getD_cons_succ] at hsn
          obtain ⟨V, hV⟩ : ∃ V, V = wr.alloc (Obj.cells #[.int .i64 a0, .string a1, .string a2, .string a3, .bool a4, .slice oa5 l5.length cp5, .slice oa6 l6.length cp6, .slice oa7 l7.length cp7, .slice oa8 l8.length cp8, .int .i64 a9] 92) := ⟨_, rfl⟩
          have hVb : V.heap[wr.heap.size]? = some (.cells #[.int .i64 a0, .string a1, .string a2, .string a3, .bool a4, .slice oa5 l5.length cp5, .slice oa6 l6.length cp6, .slice oa7 l7.length cp7, .slice oa8 l8.length cp8, .int .i64 a9] 92 (0, 0)) := by rw [hV]; exact heap_alloc_new wr _
          have hwz : n0 ≤ wr.heap.size := Nat.le_trans hn0W hkt.out.below.size
          have hJV : J (pre ++ (ps.take k).flatMap pp) V := by rw [hV]; exact HJA.out _ _ _ hwz hJk.out
          have hKV : KT T n0 wr V := by rw [hV]; exact (KT.refl _ _ _).alloc hwz _
          obtain ⟨fn, tmps, assign, body, hy, hR⟩ := HY.out (d - 1) _ _ V HWF.out (by omega) hJV (by have := HN.out; rw [hsn] at hpl; simp only [List.length_append, List.length_cons] at hpl ⊢; omega)
          rw [show (Nd.mk [.int .i64 a0, .string a1, .string a2, .string a3, .bool a4, .slice oa5 l5.length cp5, .slice oa6 l6.length cp6, .slice oa7 l7.length cp7, .slice oa8 l8.length cp8, .int .i64 a9] [l5, l6, l7, l8]).c.toArray = #[.int .i64 a0, .string a1, .string a2, .string a3, .bool a4, .slice oa5 l5.length cp5, .slice oa6 l6.length cp6, .slice oa7 l7.length cp7, .slice oa8 l8.length cp8, .int .i64 a9] from rfl] at hy
          have e0 : V.cell? ⟨wr.heap.size, 0, none⟩ = some (.int .i64 a0) := by simp [World.cell?, hVb]
          have e1 : V.cell? ⟨wr.heap.size, 1, none⟩ = some (.string a1) := by simp [World.cell?, hVb]
          have e2 : V.cell? ⟨wr.heap.size, 2, none⟩ = some (.string a2) := by simp [World.cell?, hVb]
          have e3 : V.cell? ⟨wr.heap.size, 3, none⟩ = some (.string a3) := by simp [World.cell?, hVb]
          have e4 : V.cell? ⟨wr.heap.size, 4, none⟩ = some (.bool a4) := by simp [World.cell?, hVb]
          have e5 : V.cell? ⟨wr.heap.size, 5, none⟩ = some (.slice oa5 l5.length cp5) := by simp [World.cell?, hVb]
          have e6 : V.cell? ⟨wr.heap.size, 6, none⟩ = some (.slice oa6 l6.length cp6) := by simp [World.cell?, hVb]
          have e7 : V.cell? ⟨wr.heap.size, 7, none⟩ = some (.slice oa7 l7.length cp7) := by simp [World.cell?, hVb]
          have e8 : V.cell? ⟨wr.heap.size, 8, none⟩ = some (.slice oa8 l8.length cp8) := by simp [World.cell?, hVb]
          have e9 : V.cell? ⟨wr.heap.size, 9, none⟩ = some (.int .i64 a9) := by simp [World.cell?, hVb]
          have HR := Lib.hid hR
          have HSN := Lib.hid hsn
          have hy' := hy
          rw [hV] at hy'
          clear hR hat hy
          gi_wp2
          rw [← hV]
          refine ⟨fun h => (by cases h), ?_⟩
          refine HR.out.mono ?_
          rintro e W3 (⟨rfl, hJ3, hk3⟩ | ⟨rfl, hJx3⟩)
          · have f5 := (hk3.boxcell hVb hT 5).trans e5
            have f6 := (hk3.boxcell hVb hT 6).trans e6
            have HK3 := Lib.hid (hkt.out.trans (hKV.trans hk3))
            have HVB3 := Lib.hid ((hk3.cells _ _ _ _ hVb hT).trans hVb)
            have HJ3 := Lib.hid hJ3
            have HP3 : Hid (∀ (W : World), Below W0.heap.size W0 W → n0 ≤ W.heap.size → J (pre ++ (ps.take k).flatMap pp ++ [Nd.mk [.int .i64 a0, .string a1, .string a2, .string a3, .bool a4, .slice oa5 l5.length cp5, .slice oa6 l6.length cp6, .slice oa7 l7.length cp7, .slice oa8 l8.length cp8, .int .i64 a9] [l5, l6, l7, l8]]) W → CallsIn Fence.wide (d - 1) Try.prog 52 #[.slice oa5 l5.length cp5, .func (.yield l) #[] #[]] W fun e W' => (e = .returned (.bool true) ∧ J (pre ++ (ps.take k).flatMap pp ++ [Nd.mk [.int .i64 a0, .string a1, .string a2, .string a3, .bool a4, .slice oa5 l5.length cp5, .slice oa6 l6.length cp6, .slice oa7 l7.length cp7, .slice oa8 l8.length cp8, .int .i64 a9] [l5, l6, l7, l8]] ++ l5.flatMap pp) W' ∧ KT T n0 W W') ∨ (e = .returned (.bool false) ∧ ∃ q, q <+: l5.flatMap pp ∧ Jx (pre ++ (ps.take k).flatMap pp ++ [Nd.mk [.int .i64 a0, .string a1, .string a2, .string a3, .bool a4, .slice oa5 l5.length cp5, .slice oa6 l6.length cp6, .slice oa7 l7.length cp7, .slice oa8 l8.length cp8, .int .i64 a9] [l5, l6, l7, l8]] ++ q) W')) := fun W g1 g2 g3 =>
              HIH.out (d - 1) l5 _ _ W (by omega) (by omega) q5 h5 g1 g2 g3 (by have := HN.out; rw [hsn] at hpl; simp only [List.length_append, List.length_cons, List.length_nil] at hpl ⊢; omega)
            have HP4 : Hid (∀ (W : World), Below W0.heap.size W0 W → n0 ≤ W.heap.size → J (pre ++ (ps.take k).flatMap pp ++ [Nd.mk [.int .i64 a0, .string a1, .string a2, .string a3, .bool a4, .slice oa5 l5.length cp5, .slice oa6 l6.length cp6, .slice oa7 l7.length cp7, .slice oa8 l8.length cp8, .int .i64 a9] [l5, l6, l7, l8]] ++ l5.flatMap pp) W → CallsIn Fence.wide (d - 1) Try.prog 52 #[.slice oa6 l6.length cp6, .func (.yield l) #[] #[]] W fun e W' => (e = .returned (.bool true) ∧ J (pre ++ (ps.take k).flatMap pp ++ [Nd.mk [.int .i64 a0, .string a1, .string a2, .string a3, .bool a4, .slice oa5 l5.length cp5, .slice oa6 l6.length cp6, .slice oa7 l7.length cp7, .slice oa8 l8.length cp8, .int .i64 a9] [l5, l6, l7, l8]] ++ l5.flatMap pp ++ l6.flatMap pp) W' ∧ KT T n0 W W') ∨ (e = .returned (.bool false) ∧ ∃ q, q <+: l6.flatMap pp ∧ Jx (pre ++ (ps.take k).flatMap pp ++ [Nd.mk [.int .i64 a0, .string a1, .string a2, .string a3, .bool a4, .slice oa5 l5.length cp5, .slice oa6 l6.length cp6, .slice oa7 l7.length cp7, .slice oa8 l8.length cp8, .int .i64 a9] [l5, l6, l7, l8]] ++ l5.flatMap pp ++ q) W')) := fun W g1 g2 g3 =>
              HIH.out (d - 1) l6 _ _ W (by omega) (by omega) q6 h6 g1 g2 g3 (by have := HN.out; rw [hsn] at hpl; simp only [List.length_append, List.length_cons, List.length_nil] at hpl ⊢; omega)
            have HB3 : Hid (Below W0.heap.size W0 W3) := HB.out.trans (HK3.out.below.mono hn0)
            have hz3 : n0 ≤ W3.heap.size := Nat.le_trans hn0W HK3.out.below.size
            clear hk3 hJ3 h5 h6 h7 h8 q5 q6 q7 q8 e0 e1 e2 e3 e4 e5 e6 e7 e8 e9
            gi_wp2
            refine ⟨trivial, fun h => (by cases h), ?_⟩
            refine (HP3.out W3 HB3.out hz3 HJ3.out).mono ?_
            rintro e W4 (⟨rfl, hJ4, hk4⟩ | ⟨rfl, q, hq, hx4⟩)
            · have g6 := (hk4.boxcell HVB3.out hT 6).trans f6
              have HK4 := Lib.hid (HK3.out.trans hk4)
              have HB4 : Hid (Below W0.heap.size W0 W4) := HB.out.trans (HK4.out.below.mono hn0)
              have hz4 : n0 ≤ W4.heap.size := Nat.le_trans hn0W HK4.out.below.size
              have HJ4 := Lib.hid hJ4
              clear hk4 hJ4
              gi_wp2
              refine ⟨trivial, fun h => (by cases h), ?_⟩
              refine (HP4.out W4 HB4.out hz4 HJ4.out).mono ?_
              rintro e W5 (⟨rfl, hJ5, hk5⟩ | ⟨rfl, q, hq, hx5⟩)
              · have HK5 := Lib.hid (HK4.out.trans hk5)
                have HJ5 : Hid (J (pre ++ (ps.take (k + 1)).flatMap pp) W5) := by
                  show J _ _
                  rw [HSN.out]
                  simpa [List.append_assoc] using hJ5
                clear hk5 hJ5
                gi_wp2
                go_roundw
                case rel => exact ⟨k + 1, by omega, by go_num, HJ5.out, HK5.out⟩
                case measure => simp [intOf]; omega
              · have HX : Hid (∃ q, q <+: ps.flatMap pp ∧ Jx (pre ++ q) W5) := by
                  refine ⟨(ps.take k).flatMap pp ++ ([Nd.mk [.int .i64 a0, .string a1, .string a2, .string a3, .bool a4, .slice oa5 l5.length cp5, .slice oa6 l6.length cp6, .slice oa7 l7.length cp7, .slice oa8 l8.length cp8, .int .i64 a9] [l5, l6, l7, l8]] ++ (l5.flatMap pp ++ q)), ?_, by simpa [List.append_assoc] using hx5⟩
                  refine List.IsPrefix.trans ?_ (fm_prefix pp ps (k + 1))
                  rw [HSN.out]
                  obtain ⟨r, hr⟩ := hq
                  exact ⟨r, by simp [← hr]⟩
                clear hx5 hq
                gi_wp2
                go_ret
                exact .inr ⟨by simp, HX.out⟩
            · have HX : Hid (∃ q, q <+: ps.flatMap pp ∧ Jx (pre ++ q) W4) := by
                refine ⟨(ps.take k).flatMap pp ++ ([Nd.mk [.int .i64 a0, .string a1, .string a2, .string a3, .bool a4, .slice oa5 l5.length cp5, .slice oa6 l6.length cp6, .slice oa7 l7.length cp7, .slice oa8 l8.length cp8, .int .i64 a9] [l5, l6, l7, l8]] ++ q), ?_, by simpa [List.append_assoc] using hx4⟩
                refine List.IsPrefix.trans ?_ (fm_prefix pp ps (k + 1))
                rw [HSN.out]
                obtain ⟨r, hr⟩ := hq
                exact ⟨r ++ l6.flatMap pp, by simp [← hr]⟩
              clear hx4 hq
              gi_wp2
              refine ⟨trivial, ?_⟩
              gi_wp2
              go_ret
              exact .inr ⟨by simp, HX.out⟩
          · have HX : Hid (∃ q, q <+: ps.flatMap pp ∧ Jx (pre ++ q) W3) := by
              refine ⟨(ps.take k).flatMap pp ++ [Nd.mk [.int .i64 a0, .string a1, .string a2, .string a3, .bool a4, .slice oa5 l5.length cp5, .slice oa6 l6.length cp6, .slice oa7 l7.length cp7, .slice oa8 l8.length cp8, .int .i64 a9] [l5, l6, l7, l8]], ?_, by simpa [List.append_assoc] using hJx3⟩
              refine List.IsPrefix.trans ?_ (fm_prefix pp ps (k + 1))
              rw [HSN.out]
              exact ⟨l5.flatMap pp ++ l6.flatMap pp, by simp⟩
            clear hJx3
            clear h5 h6 h7 h8 q5 q6 q7 q8 e0 e1 e2 e3 e4 e5 e6 e7 e8 e9
            gi_wp2
            refine ⟨trivial, ?_⟩
            gi_wp2
            refine ⟨trivial, ?_⟩
            gi_wp2
            go_ret
            exact .inr ⟨by simp, HX.out⟩
      · gi_wp2
        go_ret
        obtain rfl : k = m := by omega
        refine .inl ⟨by simp, ?_, hkt.out⟩
        have := hJk.out
        rw [List.take_of_length_le (by rw [HM.out]; exact Nat.le_refl _)] at this
        exact this
end Go.Proofs.Ytihbdacmgojapaa

/- dialect.all: the iterator over all commands, as a value; conditions: as each theorem states. -/
import Derived.Test.YtihbdacmgojapaaEo
namespace Go.Proofs.Ytihbdacmgojapaa
open Go.RowKit Go.Shelf
attribute [local go_sem] Oper.semAt_some

def JnC {W0 : World} {M : Nat} (J : List (CmdA W0 M) → World → Prop) (l : List Nd) (W : World) : Prop := ∃ l' : List (CmdA W0 M), l'.map (·.1) = l ∧ J l' W
set_option maxRecDepth 100000 in
set_option maxHeartbeats 4000000 in
theorem all_stops (W0 : World) (T : TypeId → Bool) (hT : T 48 = false) (n0 : Nat) (hn0 : W0.heap.size ≤ n0) (M : Nat) (hM0 : M ≤ 1048576) (d : Nat) (x : Nd) (hw : Wf W0 .cmd x) (hx : wt x ≤ M) (bc : Nat) (w : World) (hbw : Below W0.heap.size W0 w) (hn0w : n0 ≤ w.heap.size)
    (hc : ∀ i (hi : i < x.c.length), w.cell? ⟨bc, i, none⟩ = some x.c[i]) (hbc : bc < w.heap.size) :
    SeqStopsK Fence.wide d Try.prog 38 #[.pointer (some ⟨bc, 0, none⟩)] (fun y : CmdA W0 M => #[Value.agg y.1.c.toArray]) (KT T n0) (fun ys => ys.map (·.1) = cp x) (fun pre => pre.map (·.1) <+: cp x) (cp x).length w := by
  intro l J Jx W hW hJa hJxa hY h0
  have hYn : ∀ m pre y V, Wf W0 .cmd y → wt y ≤ M → JnC J pre V → pre.length < (cp x).length → YieldAt Fence.wide m Try.prog l #[.agg y.c.toArray] V (RoundP (KT T n0) (JnC J) (JnC Jx) pre y V) := by
    rintro m pre y V hy1 hy2 ⟨pre', rfl, hJ'⟩ hlen
    rw [List.length_map] at hlen
    refine YieldAt.anyD rfl m (YieldAt.mono (hY pre' ⟨y, hy1, hy2⟩ V hJ' hlen) ?_)
    rintro e V' (⟨h1, h2, h3⟩ | ⟨h1, h2⟩)
    · exact .inl ⟨h1, ⟨pre' ++ [⟨y, hy1, hy2⟩], by simp, h2⟩, h3⟩
    · exact .inr ⟨h1, ⟨pre' ++ [⟨y, hy1, hy2⟩], by simp, h2⟩⟩
  have hJn : ∀ pre V V', n0 ≤ V.heap.size → JnC J pre V → Below V.heap.size V V' → JnC J pre V' := by
    rintro pre V V' _ ⟨pre', h1, h2⟩ hb
    exact ⟨pre', h1, abide hJa h2 hb⟩
  have hbW : Below W0.heap.size W0 W := hbw.trans (hW.mono hbw.size)
  have hn0W : n0 ≤ W.heap.size := Nat.le_trans hn0w hW.size
  have HC : Hid (∀ m, CallsIn Fence.wide m Try.prog 39 #[.agg x.c.toArray, .func (.yield l) #[] #[]] W fun e W' => (e = .returned (.bool true) ∧ JnC J ([] ++ cp x) W' ∧ KT T n0 W W') ∨ (e = .returned (.bool false) ∧ ∃ q, q <+: cp x ∧ JnC Jx ([] ++ q) W')) := fun m =>
    walk_in W0 T hT n0 hn0 M l (cp x).length hM0 (JnC J) (JnC Jx) hJn hYn (wt x) m x [] W (Nat.le_refl _) hx hw hbW hn0W ⟨[], rfl, h0⟩ (by simp)
  have hcW : ∀ i (hi : i < x.c.length), W.cell? ⟨bc, i, none⟩ = some x.c[i] := fun i hi => (hW.cell (p := ⟨bc, i, none⟩) hbc).trans (hc i hi)
  obtain ⟨Z, hZ⟩ : ∃ Z, Z = cp x := ⟨_, rfl⟩
  rw [← hZ] at HC ⊢
  clear hYn hJn hY hbw hW hc hbW hJa hJxa h0 hZ
  cases hw with
  | cmd a0 a1 a2 l2 a3 l3 a4 l4 a5 l5 a6 l6 a7 l7 a8 l8 a9 h2 q2 h3 q3 h4 q4 h5 q5 h6 q6 h7 q7 h8 q8 =>
    obtain ⟨oa2, cp2, rfl⟩ := h2.form
    obtain ⟨oa3, cp3, rfl⟩ := h3.form
    obtain ⟨oa4, cp4, rfl⟩ := h4.form
    obtain ⟨oa5, cp5, rfl⟩ := h5.form
    obtain ⟨oa6, cp6, rfl⟩ := h6.form
    obtain ⟨oa7, cp7, rfl⟩ := h7.form
    obtain ⟨oa8, cp8, rfl⟩ := h8.form
    have d0 : W.cell? ⟨bc, 0, none⟩ = some (.int .i64 a0) := hcW 0 (by simp [Nd.c])
    have d1 : W.cell? ⟨bc, 1, none⟩ = some (.string a1) := hcW 1 (by simp [Nd.c])
    have d2 : W.cell? ⟨bc, 2, none⟩ = some (.slice oa2 l2.length cp2) := hcW 2 (by simp [Nd.c])
    have d3 : W.cell? ⟨bc, 3, none⟩ = some (.slice oa3 l3.length cp3) := hcW 3 (by simp [Nd.c])
    have d4 : W.cell? ⟨bc, 4, none⟩ = some (.slice oa4 l4.length cp4) := hcW 4 (by simp [Nd.c])
    have d5 : W.cell? ⟨bc, 5, none⟩ = some (.slice oa5 l5.length cp5) := hcW 5 (by simp [Nd.c])
    have d6 : W.cell? ⟨bc, 6, none⟩ = some (.slice oa6 l6.length cp6) := hcW 6 (by simp [Nd.c])
    have d7 : W.cell? ⟨bc, 7, none⟩ = some (.slice oa7 l7.length cp7) := hcW 7 (by simp [Nd.c])
    have d8 : W.cell? ⟨bc, 8, none⟩ = some (.slice oa8 l8.length cp8) := hcW 8 (by simp [Nd.c])
    have d9 : W.cell? ⟨bc, 9, none⟩ = some (.int .i64 a9) := hcW 9 (by simp [Nd.c])
    rw [show (Nd.mk [.int .i64 a0, .string a1, .slice oa2 l2.length cp2, .slice oa3 l3.length cp3, .slice oa4 l4.length cp4, .slice oa5 l5.length cp5, .slice oa6 l6.length cp6, .slice oa7 l7.length cp7, .slice oa8 l8.length cp8, .int .i64 a9] [l2, l3, l4, l5, l6, l7, l8]).c.toArray = #[.int .i64 a0, .string a1, .slice oa2 l2.length cp2, .slice oa3 l3.length cp3, .slice oa4 l4.length cp4, .slice oa5 l5.length cp5, .slice oa6 l6.length cp6, .slice oa7 l7.length cp7, .slice oa8 l8.length cp8, .int .i64 a9] from rfl] at HC
    clear hcW h2 h3 h4 h5 h6 h7 h8 q2 q3 q4 q5 q6 q7 q8
    refine callsIn_of_wp Try.func38 rfl trivial ?_ rfl
    simp only [Try.ntmps38, List.size_toArray, List.length_cons, List.length_nil, Nat.reduceAdd, Nat.reduceSub, Array.replicate_succ, Array.replicate_zero, List.push_toArray, List.append_toArray, List.nil_append, List.cons_append]
    gi_wp2
    refine ⟨trivial, ?_⟩
    refine ⟨fun h => (by cases h), ?_⟩
    refine (HC.out _).mono ?_
    rintro e W5 (⟨rfl, hJ5, hk5⟩ | ⟨rfl, q, hq, hx5⟩)
    · have HJ5 := Lib.hid hJ5
      clear hJ5
      gi_wp2
      go_end0
      obtain ⟨l', h1, h2⟩ := HJ5.out
      exact ⟨⟨_, rfl⟩, .inl ⟨l', by simpa using h1, h2⟩⟩
    · have HX5 := Lib.hid hx5
      clear hx5
      gi_wp2
      go_end0
      obtain ⟨l', h1, h2⟩ := HX5.out
      exact ⟨⟨_, rfl⟩, .inr ⟨l', by rw [h1]; simpa using hq, h2⟩⟩
set_option maxRecDepth 100000 in
set_option maxHeartbeats 1000000 in
theorem allc_any (n : Nat) (cs : Array Value) (w : World) (hcs : ∃ A B C D E F G H I J, cs = #[A, B, C, D, E, F, G, H, I, J]) :
    CallsIn Fence.wide n Try.prog 33 #[.agg cs] w fun e w' => e = .returned (.func (.func 38) #[] #[.pointer (some ⟨w.heap.size, 0, none⟩)]) ∧ w' = w.alloc (.cells cs 48) := by
  obtain ⟨A, B, C, D, E, F, G, H, I, J, rfl⟩ := hcs
  refine callsIn_of_wp Try.func33 rfl trivial ?_ rfl
  simp only [Try.ntmps33, List.size_toArray, List.length_cons, List.length_nil, Nat.reduceAdd, Nat.reduceSub, Array.replicate_succ, Array.replicate_zero, List.push_toArray, List.append_toArray, List.nil_append, List.cons_append]
  gi_wp2
  go_ret
  exact ⟨rfl, rfl⟩
end Go.Proofs.Ytihbdacmgojapaa

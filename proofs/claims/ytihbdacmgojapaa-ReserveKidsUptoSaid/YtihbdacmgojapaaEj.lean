/- dialect.sums: up to its loop over the parts; conditions: as each theorem states. -/
import Derived.Test.YtihbdacmgojapaaEi
namespace Go.Proofs.Ytihbdacmgojapaa
open Go.RowKit Go.Shelf
attribute [local go_sem] Oper.semAt_some

theorem wpListIn_append_sla {F : Fence} {n : Nat} {P : Program} (w : World) {ops : Array Oper} {rest : List Oper} {o : Oper} {a : Act} {Q : Exit → Act → World → Prop} (hgd : o.guard = none) (s x : Operand) (t : TypeId)
    (ho : o.op = .call { callee := .builtin .append, args := #[s, x], argTypes := #[t, t] })
    (base : Nat) (e : TypeId) (i : TypeInfo) (z : Value) (size bytes : Nat) (ht : P.underlying t = some (.slice e)) (hi : P.info? e = some i) (hz : i.zero = some z)
    (hsize : i.size = size) (hby : i.bytes = bytes) (hzs : z.cells.size = size) (hsz : 0 < size)
    (v : Value) (k : Nat) (xs : List Value) (hs : a.eval s = v) (hown : w.ownsRow base e size v k xs)
    (y : Value) (cs : List (List Value)) (m : Nat) (hmc : cs.length = m) (hx : a.eval x = y) (hy : SlA w size y cs) (h1 : ∀ c ∈ cs, ∀ u ∈ c, u.oneCell' = true)
    (h63 : k + m ≤ maxLen) (hbytes : (k + m) * bytes ≤ 140737488355328) (hbase : base ≤ w.heap.size) (H : Nat) (hH : w.heap.size = H)
    (h : ∀ ao cap w', w'.ownsRow base e size (.slice ao (k + m) cap) (k + m) (xs ++ cs.flatten) → w.grownBy w' v.ownBlock → ((Value.slice ao (k + m) cap).ownBlock = v.ownBlock ∨ (Value.slice ao (k + m) cap).ownBlock = some H) → wpListIn F n P ops Q rest (a.put o.dst (.slice ao (k + m) cap)) w') : wpListIn F n P ops Q (o :: rest) a w := by
  refine wpListIn_plain hgd fun K hK' => ?_
  subst hmc
  obtain ⟨ao, cap, w', hrun, r1, r2, r3⟩ := run_append_sla (P := P) w t o.type base e i z size bytes ht hi hz hsize hby hzs hsz v k xs hown y cs hy h1 h63 hbytes hbase
  unfold Oper.wpIn
  refine ⟨?_, ?_⟩
  · simp [Oper.about, ho, resolve, Target.leads, Sem.run_pure]
  · rw [Oper.semAt_plain F _ _ (by rw [ho]; intro c hc'; cases hc')]
    simp [execOp, ho, resolve, invoke, builtin, hs, hx, hrun, Result.andThen]
    exact hK' _ _ (h ao cap w' r1 r2 (hH ▸ r3))

/-- The types that a list of sums, and its variable, are of. -/
def TS (t : TypeId) : Bool := t == 46 || t == 100
theorem boxl_push {n0 bl : Nat} {v : Value} {A B : List Nd} {w w2 : World} {ao1 : Option Addr} {cap1 : Nat} (hb : Boxed w bl 46 v) (ho : Own w n0 100 4 v A) (hle : n0 ≤ bl)
    (hown1 : w2.ownsRow n0 100 4 (.slice ao1 (A.length + B.length) cap1) (A.length + B.length) ((A.map Nd.c).flatten ++ (B.map Nd.c).flatten)) (hgrow1 : w.grownBy w2 v.ownBlock)
    (hat1 : (Value.slice ao1 (A.length + B.length) cap1).ownBlock = v.ownBlock ∨ (Value.slice ao1 (A.length + B.length) cap1).ownBlock = some w.heap.size) :
    Boxed (w2.setCell ⟨bl, 0, none⟩ (.slice ao1 (A.length + B.length) cap1)) bl 46 (.slice ao1 (A.length + B.length) cap1) ∧ Own (w2.setCell ⟨bl, 0, none⟩ (.slice ao1 (A.length + B.length) cap1)) n0 100 4 (.slice ao1 (A.length + B.length) cap1) (A ++ B) ∧
      KT TS n0 w (w2.setCell ⟨bl, 0, none⟩ (.slice ao1 (A.length + B.length) cap1)) ∧ KeepsOthers w (w2.setCell ⟨bl, 0, none⟩ (.slice ao1 (A.length + B.length) cap1)) := by
  have hbz := hb.lt
  have HNE : some bl ≠ v.ownBlock := hb.not_row (by decide) ho
  have hne := far_of hat1 HNE hbz
  have g1 := grownBy_setCell' w2 bl (.slice ao1 (A.length + B.length) cap1)
  have hz := hgrow1.size
  have hown2 := ownsRow_keep hown1 (w' := w2.setCell ⟨bl, 0, none⟩ (.slice ao1 (A.length + B.length) cap1)) fun k hk => g1.block k (hown1.lt k hk).2 fun e => hne (by rw [hk]; exact e.symm)
  have hrow : ∀ k, v.ownBlock = some k → ∃ cur, w.heap[k]? = some (Obj.cells cur 100 (0, 0)) := by
    intro k hk
    rcases ho.2 with ⟨rfl, _⟩ | ⟨g, cap, cur, rfl, _, hgb, _⟩
    · simp [Value.ownBlock] at hk
    · have : g = k := by simpa [Value.ownBlock] using hk
      subst this
      exact ⟨cur, hgb⟩
  have hblk : ∀ k, k < w.heap.size → k ≠ bl → some k ≠ v.ownBlock → (w2.setCell ⟨bl, 0, none⟩ (.slice ao1 (A.length + B.length) cap1)).heap[k]? = w.heap[k]? := by
    intro k hk h1 h2
    rw [g1.block k (by omega) (fun e => h1 (by injection e)), hgrow1.block k hk h2]
  refine ⟨(hb.kept hgrow1 HNE).set _, Own.push hown2, ⟨⟨hgrow1.os, hgrow1.tape, hgrow1.output, Nat.le_trans hz g1.size, fun k hk => hblk k (by omega) (by omega) (fun e => ?_)⟩, fun k cs t fr hk ht => hblk k (Array.getElem?_eq_some_iff.1 hk).1 (fun e => ?_) (fun e => ?_)⟩, ⟨Nat.le_trans hz g1.size, fun k o hk ho' => ?_⟩⟩
  · have := (ho.lt k e.symm).1
    omega
  · subst e
    have h1 : w.heap[k]? = some (Obj.cells #[v] 46 (0, 0)) := hb
    rw [h1] at hk
    injection hk with hk
    injection hk with _ hk _
    subst hk
    exact absurd ht (by decide)
  · obtain ⟨cur, h1⟩ := hrow k e.symm
    rw [h1] at hk
    injection hk with hk
    injection hk with _ hk _
    subst hk
    exact absurd ht (by decide)
  · rw [hblk k (Array.getElem?_eq_some_iff.1 hk).1 (fun e => ?_) (fun e => ?_), hk]
    · subst e
      have h1 : w.heap[k]? = some (Obj.cells #[v] 46 (0, 0)) := hb
      rw [h1] at hk
      injection hk with hk
      rw [← hk] at ho'
      cases ho'
    · obtain ⟨cur, h1⟩ := hrow k e.symm
      rw [h1] at hk
      injection hk with hk
      rw [← hk] at ho'
      cases ho'
/-- The sums of a command itself, and of its words. -/
def osums (x : Nd) : List Nd := x.sub 6 ++ (x.sub 1).flatMap (·.sub 1) ++ (oparts x).flatMap (·.sub 2)
set_option maxRecDepth 100000 in
set_option maxHeartbeats 1000000 in
theorem ownc_any (n : Nat) (cs : Array Value) (w : World) (hcs : ∃ A B C D E F G H I J, cs = #[A, B, C, D, E, F, G, H, I, J]) :
    CallsIn Fence.wide n Try.prog 41 #[.agg cs] w fun e w' => e = .returned (.func (.func 50) #[] #[.pointer (some ⟨w.heap.size, 0, none⟩)]) ∧ w' = w.alloc (.cells cs 48) := by
  obtain ⟨A, B, C, D, E, F, G, H, I, J, rfl⟩ := hcs
  refine callsIn_of_wp Try.func41 rfl trivial ?_ rfl
  simp only [Try.ntmps41, List.size_toArray, List.length_cons, List.length_nil, Nat.reduceAdd, Nat.reduceSub, Array.replicate_succ, Array.replicate_zero, List.push_toArray, List.append_toArray, List.nil_append, List.cons_append]
  gi_wp2
  go_ret
  exact ⟨rfl, rfl⟩
end Go.Proofs.Ytihbdacmgojapaa

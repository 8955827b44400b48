/- What is appended to a row of the call's own, out of whatever list; lists as they lie; conditions: as each theorem states. -/
import Derived.Test.YtihbdacmgojapaaDb
import Derived.Deep.AppendLies
import Derived.Laws.AppendOwnNone
import Derived.WalkKit
import Derived.WalkSpells
import Derived.WalkLawsBesides
import Derived.LoopTactic
import Derived.Lib.Hide
import Derived.Outline
import Derived.Deep.DeepCutAuto
import Derived.Deep.CutBlock
import Derived.Deep.Light
import Derived.Deep.RegionWith
import Derived.Deep.RegionHeld3
import Derived.Deep.DrawnRows
import Derived.BigQuiet
import Derived.Deep.QuietTactic
namespace Go.Proofs.Ytihbdacmgojapaa
open Go.RowKit

theorem flatten_at {k : Nat} : ∀ (cs : List (List Value)), (∀ c ∈ cs, c.length = k) → ∀ (j i : Nat) (hj : j < cs.length), i < k → cs.flatten[j * k + i]? = cs[j][i]?
  | [], _, j, i, hj, _ => by simp at hj
  | c :: cs, hk, 0, i, _, hi => by
    have := hk c (List.mem_cons_self ..)
    rw [List.flatten_cons, Nat.zero_mul, Nat.zero_add, List.getElem?_append_left (by omega)]
    rfl
  | c :: cs, hk, j + 1, i, hj, hi => by
    have h1 := hk c (List.mem_cons_self ..)
    rw [List.flatten_cons, List.getElem?_append_right (by rw [h1, Nat.add_mul]; omega), h1, show (j + 1) * k + i - k = j * k + i by rw [Nat.add_mul]; omega]
    exact flatten_at cs (fun c hc => hk c (List.mem_cons_of_mem _ hc)) j i (by simpa using hj) hi
theorem flatten_len {k : Nat} : ∀ (cs : List (List Value)), (∀ c ∈ cs, c.length = k) → cs.flatten.length = cs.length * k
  | [], _ => by simp
  | c :: cs, hk => by
    rw [List.flatten_cons, List.length_append, hk c (List.mem_cons_self ..), flatten_len cs fun c hc => hk c (List.mem_cons_of_mem _ hc), List.length_cons, Nat.add_mul]
    omega
theorem flatten_split {k : Nat} (cs : List (List Value)) (hk : ∀ c ∈ cs, c.length = k) (m : Nat) (u : Value) (h : cs.flatten[m]? = some u) : ∃ j i, m = j * k + i ∧ i < k ∧ ∃ hj : j < cs.length, cs[j][i]? = some u := by
  have hm : m < cs.length * k := by
    rw [← flatten_len cs hk]
    exact (List.getElem?_eq_some_iff.1 h).1
  have hk0 : 0 < k := by
    rcases Nat.eq_zero_or_pos k with h0 | h0
    · rw [h0, Nat.mul_zero] at hm; omega
    · exact h0
  have e : m = m / k * k + m % k := by rw [Nat.mul_comm]; exact (Nat.div_add_mod m k).symm
  have hj : m / k < cs.length := Nat.div_lt_of_lt_mul (by rw [Nat.mul_comm]; exact hm)
  refine ⟨m / k, m % k, e, Nat.mod_lt _ hk0, hj, ?_⟩
  rw [← flatten_at cs hk (m / k) (m % k) hj (Nat.mod_lt _ hk0), ← e]
  exact h
theorem SlA.len {w : World} {k : Nat} {v : Value} {cs : List (List Value)} (h : SlA w k v cs) : ∀ c ∈ cs, c.length = k := by
  obtain ⟨ao, b, o, cap, h1, h2, h0, h3, h4, h5⟩ := h
  intro c hc
  obtain ⟨j, hj, rfl⟩ := List.mem_iff_getElem.1 hc
  exact (h5 j hj).1

section
variable {P : Program} (w : World)
theorem run_append_sla (t ty : TypeId) (base : Nat) (e : TypeId) (i : TypeInfo) (z : Value) (size bytes : Nat) (ht : P.underlying t = some (.slice e)) (hi : P.info? e = some i) (hz : i.zero = some z)
    (hsize : i.size = size) (hby : i.bytes = bytes) (hzs : z.cells.size = size) (hsz : 0 < size)
    (v : Value) (n : Nat) (xs : List Value) (hown : w.ownsRow base e size v n xs) (x : Value) (cs : List (List Value)) (hx : SlA w size x cs) (h1 : ∀ c ∈ cs, ∀ u ∈ c, u.oneCell' = true)
    (h63 : n + cs.length ≤ maxLen) (hbytes : (n + cs.length) * bytes ≤ 140737488355328) (hbase : base ≤ w.heap.size) :
    ∃ ao cap w', (Builtin.append_ #[t, t] ty #[v, x]).run P w = .ok (.slice ao (n + cs.length) cap) w' ∧ w'.ownsRow base e size (.slice ao (n + cs.length) cap) (n + cs.length) (xs ++ cs.flatten) ∧ w.grownBy w' v.ownBlock ∧
      ((Value.slice ao (n + cs.length) cap).ownBlock = v.ownBlock ∨ (Value.slice ao (n + cs.length) cap).ownBlock = some w.heap.size) := by
  have hlen := hx.len
  obtain ⟨ao, b, o, cap, rfl, h2, h0, h3, h4, h5⟩ := hx
  have form : ∀ {w' : World} {v' : Value} {m : Nat} {ys : List Value}, w'.ownsRow base e size v' m ys → ∃ ao cap, v' = .slice ao m cap := by
    intro w' v' m ys h
    rcases h.2 with ⟨rfl, h'⟩ | ⟨g, cap, cur, hv, _⟩
    · subst h'; exact ⟨none, 0, rfl⟩
    · exact ⟨_, _, hv⟩
  have hfl := flatten_len cs hlen
  cases ao with
  | none =>
    have hc0 : cs.length = 0 := by
      rcases Nat.eq_zero_or_pos cs.length with h | h
      · exact h
      · cases h3 h
    have hcs : cs = [] := List.length_eq_zero_iff.1 hc0
    subst hcs
    obtain rfl := h0 rfl
    have hr := run_append_owned_none (P := P) (w := w) base t ty e i size ht hi v n xs hown
    obtain ⟨ao, cap, rfl⟩ := form hown
    exact ⟨ao, cap, w, hr, by simpa using hown, ⟨rfl, rfl, rfl, Nat.le_refl _, fun _ _ _ => rfl⟩, .inl rfl⟩
  | some ad =>
    have hnews : ∀ (j : Nat) u, cs.flatten[j]? = some u → w.cell? (ad.add j) = some u := by
      intro m u hm
      obtain ⟨j, i', rfl, hi', hj, hu⟩ := flatten_split cs hlen m u hm
      obtain rfl := Option.some.inj (h3 (by omega))
      rw [Addr.add_lit, ← Nat.add_assoc, (h5 j hj).2 i' hi', hu]
    have h1' : ∀ u ∈ cs.flatten, u.oneCell' = true := by
      intro u hu
      obtain ⟨c, hc, hu⟩ := List.mem_flatten.1 hu
      exact h1 c hc u hu
    obtain ⟨v', w', hr, g1, g2, _, g4⟩ := run_append_own_at (P := P) w base t ty e i z size bytes ht hi hz hsize hby hzs hsz v n xs hown ad cs.length cap cs.flatten hfl hnews h1' h63 hbytes hbase
    obtain ⟨ao, cap', rfl⟩ := form g1
    exact ⟨ao, cap', w', hr, g1, g2, g4⟩
theorem wp_append_sla {o : Oper} {a : Act} {K : Act → World → Prop} {Q : Exit → Act → World → Prop} (s x : Operand) (t : TypeId)
    (ho : o.op = .call { callee := .builtin .append, args := #[s, x], argTypes := #[t, t] })
    (base : Nat) (e : TypeId) (i : TypeInfo) (z : Value) (size bytes : Nat) (ht : P.underlying t = some (.slice e)) (hi : P.info? e = some i) (hz : i.zero = some z)
    (hsize : i.size = size) (hby : i.bytes = bytes) (hzs : z.cells.size = size) (hsz : 0 < size)
    (v : Value) (n : Nat) (xs : List Value) (hs : a.eval s = v) (hown : w.ownsRow base e size v n xs)
    (y : Value) (cs : List (List Value)) (m : Nat) (hmc : cs.length = m) (hx : a.eval x = y) (hy : SlA w size y cs) (h1 : ∀ c ∈ cs, ∀ u ∈ c, u.oneCell' = true)
    (h63 : n + m ≤ maxLen) (hbytes : (n + m) * bytes ≤ 140737488355328) (hbase : base ≤ w.heap.size) (H : Nat) (hH : w.heap.size = H)
    (h : ∀ ao cap w', w'.ownsRow base e size (.slice ao (n + m) cap) (n + m) (xs ++ cs.flatten) → w.grownBy w' v.ownBlock → ((Value.slice ao (n + m) cap).ownBlock = v.ownBlock ∨ (Value.slice ao (n + m) cap).ownBlock = some H) → K (a.put o.dst (.slice ao (n + m) cap)) w') : o.wp P a w K Q := by
  subst hmc
  obtain ⟨ao, cap, w', hr, h2, h3, h4⟩ := run_append_sla (P := P) w t o.type base e i z size bytes ht hi hz hsize hby hzs hsz v n xs hown y cs hy h1 h63 hbytes hbase
  unfold Oper.wp execOp
  simp only [ho, resolve, invoke, builtin, Sem.run_bind, Sem.run_pure, Result.andThen_ok, List.map_toArray, List.map_cons, List.map_nil, hs, hx, hr]
  exact h ao cap w' h2 h3 (hH ▸ h4)
theorem wpList_append_sla {ops : Array Oper} {rest : List Oper} {o : Oper} {a : Act} {Q : Exit → Act → World → Prop} (hgd : o.guard = none) (s x : Operand) (t : TypeId)
    (ho : o.op = .call { callee := .builtin .append, args := #[s, x], argTypes := #[t, t] })
    (base : Nat) (e : TypeId) (i : TypeInfo) (z : Value) (size bytes : Nat) (ht : P.underlying t = some (.slice e)) (hi : P.info? e = some i) (hz : i.zero = some z)
    (hsize : i.size = size) (hby : i.bytes = bytes) (hzs : z.cells.size = size) (hsz : 0 < size)
    (v : Value) (n : Nat) (xs : List Value) (hs : a.eval s = v) (hown : w.ownsRow base e size v n xs)
    (y : Value) (cs : List (List Value)) (m : Nat) (hmc : cs.length = m) (hx : a.eval x = y) (hy : SlA w size y cs) (h1 : ∀ c ∈ cs, ∀ u ∈ c, u.oneCell' = true)
    (h63 : n + m ≤ maxLen) (hbytes : (n + m) * bytes ≤ 140737488355328) (hbase : base ≤ w.heap.size) (H : Nat) (hH : w.heap.size = H)
    (h : ∀ ao cap w', w'.ownsRow base e size (.slice ao (n + m) cap) (n + m) (xs ++ cs.flatten) → w.grownBy w' v.ownBlock → ((Value.slice ao (n + m) cap).ownBlock = v.ownBlock ∨ (Value.slice ao (n + m) cap).ownBlock = some H) → wpList P ops Q rest (a.put o.dst (.slice ao (n + m) cap)) w') : wpList P ops Q (o :: rest) a w :=
  wpList_plain hgd fun _ hK => wp_append_sla w s x t ho base e i z size bytes ht hi hz hsize hby hzs hsz v n xs hs hown y cs m hmc hx hy h1 h63 hbytes hbase H hH fun ao cap w' h2 h3 h4 => hK _ _ (h ao cap w' h2 h3 h4)
theorem step_append_sla {ops : Array Oper} {o : Oper} {a : Act} {K : Act → World → Prop} {Q : Exit → Act → World → Prop} {E : Prop} (hgd : o.guard = none) (s x : Operand) (t : TypeId)
    (ho : o.op = .call { callee := .builtin .append, args := #[s, x], argTypes := #[t, t] })
    (base : Nat) (e : TypeId) (i : TypeInfo) (z : Value) (size bytes : Nat) (ht : P.underlying t = some (.slice e)) (hi : P.info? e = some i) (hz : i.zero = some z)
    (hsize : i.size = size) (hby : i.bytes = bytes) (hzs : z.cells.size = size) (hsz : 0 < size)
    (v : Value) (n : Nat) (xs : List Value) (hs : a.eval s = v) (hown : w.ownsRow base e size v n xs)
    (y : Value) (cs : List (List Value)) (m : Nat) (hmc : cs.length = m) (hx : a.eval x = y) (hy : SlA w size y cs) (h1 : ∀ c ∈ cs, ∀ u ∈ c, u.oneCell' = true)
    (h63 : n + m ≤ maxLen) (hbytes : (n + m) * bytes ≤ 140737488355328) (hbase : base ≤ w.heap.size) (H : Nat) (hH : w.heap.size = H)
    (h : ∀ ao cap w', w'.ownsRow base e size (.slice ao (n + m) cap) (n + m) (xs ++ cs.flatten) → w.grownBy w' v.ownBlock → ((Value.slice ao (n + m) cap).ownBlock = v.ownBlock ∨ (Value.slice ao (n + m) cap).ownBlock = some H) → K (a.put o.dst (.slice ao (n + m) cap)) w') :
    if Region.wanted o (yielded ops a.tmps) = true then Oper.wp P o a w K Q else E := by
  have hw : Region.wanted o (yielded ops a.tmps) = true := by simp [Region.wanted, hgd]
  rw [if_pos hw]
  exact wp_append_sla w s x t ho base e i z size bytes ht hi hz hsize hby hzs hsz v n xs hs hown y cs m hmc hx hy h1 h63 hbytes hbase H hH fun ao cap w' h2 h3 h4 => h ao cap w' h2 h3 h4
end
/-- Cells of a well-formed struct are each one cell. -/
theorem SlA.one {w : World} {k : Nat} {v : Value} {cs : List (List Value)} (h : SlA w k v cs) : v.oneCell' = true := by
  obtain ⟨ao, b, o, cap, rfl, _⟩ := h
  rfl
theorem one_sum {w : World} {x : Nd} (h : Wf w .sum x) : x.c.length = 4 ∧ ∀ u ∈ x.c, u.oneCell' = true := by
  cases h with
  | sum a0 a1 a2 a3 l3 h3 _ =>
    refine ⟨rfl, ?_⟩
    have hi : ∀ n : Int, (Value.int .i64 n).oneCell' = true := fun _ => rfl
    have hs : ∀ n : ByteArray, (Value.string n).oneCell' = true := fun _ => rfl
    have hb : ∀ n : Bool, (Value.bool n).oneCell' = true := fun _ => rfl
    simp [Nd.c, hi, hs, h3.one]
theorem one_part {w : World} {x : Nd} (h : Wf w .part x) : x.c.length = 10 ∧ ∀ u ∈ x.c, u.oneCell' = true := by
  cases h with
  | part a0 a1 a2 a3 a4 a5 l5 a6 l6 a7 l7 a8 l8 a9 h5 _ h6 _ h7 _ h8 _ =>
    refine ⟨rfl, ?_⟩
    have hi : ∀ n : Int, (Value.int .i64 n).oneCell' = true := fun _ => rfl
    have hs : ∀ n : ByteArray, (Value.string n).oneCell' = true := fun _ => rfl
    have hb : ∀ n : Bool, (Value.bool n).oneCell' = true := fun _ => rfl
    simp [Nd.c, hi, hs, hb, h5.one, h6.one, h7.one, h8.one]
theorem one_word {w : World} {x : Nd} (h : Wf w .word x) : x.c.length = 1 ∧ ∀ u ∈ x.c, u.oneCell' = true := by
  cases h with
  | word a0 l0 h0 _ =>
    refine ⟨rfl, ?_⟩
    have hi : ∀ n : Int, (Value.int .i64 n).oneCell' = true := fun _ => rfl
    have hs : ∀ n : ByteArray, (Value.string n).oneCell' = true := fun _ => rfl
    have hb : ∀ n : Bool, (Value.bool n).oneCell' = true := fun _ => rfl
    simp [Nd.c, h0.one]
theorem one_redir {w : World} {x : Nd} (h : Wf w .redir x) : x.c.length = 3 ∧ ∀ u ∈ x.c, u.oneCell' = true := by
  cases h with
  | redir a0 a1 a2 l2 h2 _ =>
    refine ⟨rfl, ?_⟩
    have hi : ∀ n : Int, (Value.int .i64 n).oneCell' = true := fun _ => rfl
    have hs : ∀ n : ByteArray, (Value.string n).oneCell' = true := fun _ => rfl
    have hb : ∀ n : Bool, (Value.bool n).oneCell' = true := fun _ => rfl
    simp [Nd.c, hi, hs, h2.one]
theorem one_assign {w : World} {x : Nd} (h : Wf w .assign x) : x.c.length = 6 ∧ ∀ u ∈ x.c, u.oneCell' = true := by
  cases h with
  | assign a0 a1 a2 l2 a3 l3 a4 a5 l5 h2 _ h3 _ h5 _ =>
    refine ⟨rfl, ?_⟩
    have hi : ∀ n : Int, (Value.int .i64 n).oneCell' = true := fun _ => rfl
    have hs : ∀ n : ByteArray, (Value.string n).oneCell' = true := fun _ => rfl
    have hb : ∀ n : Bool, (Value.bool n).oneCell' = true := fun _ => rfl
    simp [Nd.c, hs, hb, h2.one, h3.one, h5.one]
theorem one_cond {w : World} {x : Nd} (h : Wf w .cond x) : x.c.length = 3 ∧ ∀ u ∈ x.c, u.oneCell' = true := by
  cases h with
  | cond a0 a1 l1 a2 l2 h1 _ h2 _ =>
    refine ⟨rfl, ?_⟩
    have hi : ∀ n : Int, (Value.int .i64 n).oneCell' = true := fun _ => rfl
    have hs : ∀ n : ByteArray, (Value.string n).oneCell' = true := fun _ => rfl
    have hb : ∀ n : Bool, (Value.bool n).oneCell' = true := fun _ => rfl
    simp [Nd.c, hs, h1.one, h2.one]
theorem one_cmd {w : World} {x : Nd} (h : Wf w .cmd x) : x.c.length = 10 ∧ ∀ u ∈ x.c, u.oneCell' = true := by
  cases h with
  | cmd a0 a1 a2 l2 a3 l3 a4 l4 a5 l5 a6 l6 a7 l7 a8 l8 a9 h2 _ h3 _ h4 _ h5 _ h6 _ h7 _ h8 _ =>
    refine ⟨rfl, ?_⟩
    have hi : ∀ n : Int, (Value.int .i64 n).oneCell' = true := fun _ => rfl
    have hs : ∀ n : ByteArray, (Value.string n).oneCell' = true := fun _ => rfl
    have hb : ∀ n : Bool, (Value.bool n).oneCell' = true := fun _ => rfl
    simp [Nd.c, hi, hs, h2.one, h3.one, h4.one, h5.one, h6.one, h7.one, h8.one]
theorem one_case {w : World} {x : Nd} (h : Wf w .case x) : x.c.length = 11 ∧ ∀ u ∈ x.c, u.oneCell' = true := by
  cases h with
  | «case» a0 l0 b1 h0 _ h1 =>
    obtain ⟨g1, g2⟩ := one_cmd h1
    exact ⟨by show b1.c.length + 1 = 11; rw [g1], fun u hu => by
      rcases List.mem_cons.1 hu with rfl | hu
      · exact h0.one
      · exact g2 u hu⟩
set_option maxRecDepth 100000 in
theorem inf_word : (Try.prog.info? 67).map (fun i => (i.zero, i.size, i.bytes)) = some (some (.agg #[.slice none 0 0]), 1, 24) := by kernel_rfl
set_option maxRecDepth 100000 in
theorem inf_cmd : (Try.prog.info? 48).map (fun i => (i.zero, i.size, i.bytes)) = some (some (.agg #[.int .i64 0, .string ⟨#[]⟩, .slice none 0 0, .slice none 0 0, .slice none 0 0, .slice none 0 0, .slice none 0 0, .slice none 0 0, .slice none 0 0, .int .i64 0]), 10, 200) := by kernel_rfl
set_option maxRecDepth 100000 in
theorem inf_sum : (Try.prog.info? 100).map (fun i => (i.zero, i.size, i.bytes)) = some (some (.agg #[.string ⟨#[]⟩, .string ⟨#[]⟩, .int .i64 0, .slice none 0 0]), 4, 64) := by kernel_rfl
set_option maxRecDepth 100000 in
theorem inf_str : (Try.prog.info? 9).map (fun i => (i.zero, i.size, i.bytes)) = some (some (.string ⟨#[]⟩), 1, 16) := by kernel_rfl
end Go.Proofs.Ytihbdacmgojapaa

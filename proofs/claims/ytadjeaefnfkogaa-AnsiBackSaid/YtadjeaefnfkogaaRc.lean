/- The operations of a region of a deferred call, one by one, as a list: steps for recover and for what follows; no conditions beyond what each theorem states. -/
import Derived.Defers
import Derived.Recover
namespace Go.Proofs.Ytadjeaefnfkogaa

section
variable {P : Program} {Q : Exit → Act → List Frame → World → Prop}

/-- The operations of a region, none guarded, in the text's order. -/
def opsL (P : Program) (Q : Exit → Act → List Frame → World → Prop) : List Oper → Act → List Frame → World → Prop
  | [], a, cs, w => Q .normal a cs w
  | o :: rest, a, cs, w => o.guard = none ∧
    match (execOp a.eval o).run P w with
    | .ok .recover w' =>
      match recoverD cs with
      | some (v, cs') => opsL P Q rest (a.put o.dst v) cs' w'
      | none => opsL P Q rest (a.put o.dst .nilIface) cs w'
    | r => o.upon P a (fun a' w' => opsL P Q rest a' cs w') (fun e a' w' => Q e a' cs w') r

theorem upon_mono {o : Oper} {a : Act} {f g : Act → World → Prop} {q : Exit → Act → World → Prop} (h : ∀ a' w', f a' w' → g a' w') (r : Result Next) (hu : o.upon P a f q r) : o.upon P a g q r := by
  cases r with
  | ok n w' =>
    cases n <;> simp only [Oper.upon] at hu ⊢
    all_goals first | exact h _ _ hu | exact hu | skip
    · exact hu.mono fun e w' he => by cases e <;> first | exact h _ _ he | exact he
    · exact hu.mono fun e w' he => h _ _ he
  | halt x w' =>
    cases x <;> simp only [Oper.upon] at hu ⊢
    all_goals exact hu

theorem opsS_of_list (ops : Array Oper) : ∀ (l : List Oper) (k : Nat) (a : Act) (cs : List Frame) (w : World), ops.toList.drop k = l → opsL P Q l a cs w → wpOpsS P ops Q (List.range' k l.length) a cs w := by
  intro l
  induction l with
  | nil => intro k a cs w _ h; exact h
  | cons o rest ih =>
    intro k a cs w hd h
    obtain ⟨hg, h⟩ := h
    have ho : ops[k]? = some o := by
      have := congrArg List.head? hd
      simpa [List.head?_drop] using this
    have hd' : ops.toList.drop (k + 1) = rest := by
      have := congrArg List.tail hd
      simpa [List.tail_drop] using this
    have hn := fun a' cs' w' => ih (k + 1) a' cs' w' hd'
    simp only [List.length_cons, List.range'_succ, wpOpsS, ho, Region.wanted, hg, if_true]
    revert h
    generalize (execOp a.eval o).run P w = r
    intro h
    split at h
    · rename_i w' _
      split at h <;> rename_i hc <;> rw [hc] <;> exact hn _ _ _ h
    · rename_i r' hr
      split
      · rename_i wz; exact (hr _ rfl).elim
      · exact upon_mono (fun a' w' h' => hn _ _ _ h') _ h

theorem wpS_list {id : Nat} {l : List Oper} {a : Act} {cs : List Frame} {w : World} (h : opsL P Q l a cs w) : (Code.region id l.toArray false).wpS P Q a cs w := by
  apply wpS_region
  have := opsS_of_list (P := P) (Q := Q) l.toArray l 0 a cs w (by simp) h
  simpa [List.range_eq_range'] using this

variable {rest : List Oper} {o : Oper} {a : Act} {cs cs' : List Frame} {w w' : World} {v : Value}
theorem opsL_recover (hg : o.guard = none) (hr : (execOp a.eval o).run P w = .ok .recover w') (hc : recoverD cs = some (v, cs')) (h : opsL P Q rest (a.put o.dst v) cs' w') : opsL P Q (o :: rest) a cs w := by
  simp only [opsL, hr, hc]; exact ⟨hg, h⟩
theorem opsL_idle (hg : o.guard = none) (hr : (execOp a.eval o).run P w = .ok .recover w') (hc : recoverD cs = none) (h : opsL P Q rest (a.put o.dst .nilIface) cs w') : opsL P Q (o :: rest) a cs w := by
  simp only [opsL, hr, hc]; exact ⟨hg, h⟩
theorem opsL_value (hg : o.guard = none) (hr : (execOp a.eval o).run P w = .ok (.value v) w') (h : opsL P Q rest (a.put o.dst v) cs w') : opsL P Q (o :: rest) a cs w := by
  simp only [opsL, hr, Oper.upon]; exact ⟨hg, h⟩
theorem opsL_skip (hg : o.guard = none) (hr : (execOp a.eval o).run P w = .ok .skip w') (h : opsL P Q rest (a.put o.dst undef) cs w') : opsL P Q (o :: rest) a cs w := by
  simp only [opsL, hr, Oper.upon]; exact ⟨hg, h⟩
end
end Go.Proofs.Ytadjeaefnfkogaa

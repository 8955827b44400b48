/- The plain data of a command and what lies within it, and how much of each there is: no program. -/
import Derived.Test.YtihbdacmgojapaaProg
namespace Go.Proofs.Ytihbdacmgojapaa

/-- A struct's cells, and for each of its lists the structs in it. -/
inductive Nd where
  | mk (c : List Value) (s : List (List Nd))
namespace Nd
def c : Nd → List Value
  | .mk c _ => c
def s : Nd → List (List Nd)
  | .mk _ s => s
def sub (x : Nd) (i : Nat) : List Nd := x.s.getD i []
end Nd
def vsz : Value → Nat
  | .string s => s.size
  | _ => 0
/-- The letters of a struct's own texts (a case's cells hold its body's too: these are counted there). -/
def cz (c : List Value) : Nat := if c.length = 11 then 0 else (c.map vsz).sum
theorem sizeOf_in {c : List Value} {s : List (List Nd)} {l : List Nd} {y : Nd} (h : l ∈ s) (h' : y ∈ l) : SizeOf.sizeOf y < SizeOf.sizeOf (Nd.mk c s) := by
  have h1 := List.sizeOf_lt_of_mem h
  have h2 := List.sizeOf_lt_of_mem h'
  simp
  omega
/-- How much there is: one for each struct, and the letters. -/
def wt : Nd → Nat
  | .mk c s => 1 + cz c + (s.attach.map fun l => (l.1.attach.map fun y => wt y.1).sum).sum
termination_by x => SizeOf.sizeOf x
decreasing_by exact sizeOf_in l.2 y.2
def Wl (l : List Nd) : Nat := (l.map wt).sum
theorem wt_mk (c : List Value) (s : List (List Nd)) : wt (.mk c s) = 1 + cz c + (s.map Wl).sum := by
  rw [wt]
  congr 2
  have : ∀ l : List Nd, (l.attach.map fun y => wt y.1) = l.map wt := fun l => by simp
  simp only [this]
  simp [Wl]
theorem wt_is (x : Nd) : wt x = 1 + cz x.c + (x.s.map Wl).sum := by
  cases x
  exact wt_mk _ _
theorem Wl_nil : Wl [] = 0 := rfl
theorem Wl_cons (x : Nd) (l : List Nd) : Wl (x :: l) = wt x + Wl l := by simp [Wl]
theorem Wl_append (a b : List Nd) : Wl (a ++ b) = Wl a + Wl b := by simp [Wl]
theorem wt_pos (x : Nd) : 1 ≤ wt x := by rw [wt_is]; omega
theorem wt_mem {x : Nd} {l : List Nd} (h : x ∈ l) : wt x ≤ Wl l := by
  induction l with
  | nil => cases h
  | cons a l ih =>
    rw [Wl_cons]
    rcases List.mem_cons.1 h with rfl | h
    · omega
    · have := ih h; omega
theorem length_le (l : List Nd) : l.length ≤ Wl l := by
  induction l with
  | nil => simp
  | cons a l ih => rw [Wl_cons, List.length_cons]; have := wt_pos a; omega
theorem getD_sum : ∀ (s : List (List Nd)) (k : Nat), ((List.range k).map fun i => Wl (s.getD i [])).sum ≤ (s.map Wl).sum
  | [], k => by
    have : ∀ k, ((List.range k).map fun i => Wl (([] : List (List Nd)).getD i [])).sum = 0 := fun k => by
      induction k with
      | zero => rfl
      | succ k ih => rw [List.range_succ, List.map_append, List.sum_append, ih]; simp [Wl]
    rw [this]
    omega
  | l :: s, 0 => by simp
  | l :: s, k + 1 => by
    have := getD_sum s k
    rw [List.range_succ_eq_map]
    simp only [List.map_cons, List.map_map, List.sum_cons, Function.comp_def, Nat.succ_eq_add_one, List.getD_cons_succ, List.getD_cons_zero]
    omega
/-- The seven lists that a struct may have, together. -/
theorem seven (x : Nd) : 1 + cz x.c + (Wl (x.sub 0) + Wl (x.sub 1) + Wl (x.sub 2) + Wl (x.sub 3) + Wl (x.sub 4) + Wl (x.sub 5) + Wl (x.sub 6)) ≤ wt x := by
  have h := getD_sum x.s 7
  rw [wt_is]
  have e : ((List.range 7).map fun i => Wl (x.s.getD i [])).sum = Wl (x.sub 0) + Wl (x.sub 1) + Wl (x.sub 2) + Wl (x.sub 3) + Wl (x.sub 4) + Wl (x.sub 5) + Wl (x.sub 6) := by
    simp [List.range, List.range.loop, Nd.sub]
    omega
  omega
theorem wt_sub {x y : Nd} {i : Nat} (h : y ∈ x.sub i) (hi : i < 7) : wt y < wt x := by
  have h1 := wt_mem h
  have h2 := seven x
  match i, hi with
  | 0, _ => omega
  | 1, _ => omega
  | 2, _ => omega
  | 3, _ => omega
  | 4, _ => omega
  | 5, _ => omega
  | 6, _ => omega

def kdOf (x : Nd) : Int := match x.c.getD 0 .nilFunc with
  | .int _ n => n
  | _ => 0
def strOf (x : Nd) (i : Nat) : ByteArray := match x.c.getD i .nilFunc with
  | .string s => s
  | _ => ByteArray.empty
def WN (v : Value) (l : List Nd) : Nd := .mk [v] [l]
theorem WN_sub (v : Value) (l : List Nd) : (WN v l).sub 0 = l := rfl
/-- The words of an assignment, of a redirection, of conditions. -/
def awords (a : Nd) : List Nd := WN (a.c.getD 2 .nilFunc) (a.sub 0) :: a.sub 2
def rword (r : Nd) : Nd := WN (r.c.getD 2 .nilFunc) (r.sub 0)
def cw (x : Nd) : List Nd := x.sub 0 ++ (x.sub 1).attach.flatMap fun y => cw y.1
termination_by wt x
decreasing_by exact wt_sub y.2 (by omega)
theorem cw_is (x : Nd) : cw x = x.sub 0 ++ (x.sub 1).flatMap cw := by rw [cw]; simp
/-- The parts of a word, each ahead of those in its braces. -/
def pp (x : Nd) : List Nd := x :: (((x.sub 0).attach.flatMap fun y => pp y.1) ++ (x.sub 1).attach.flatMap fun y => pp y.1)
termination_by wt x
decreasing_by all_goals exact wt_sub y.2 (by omega)
theorem pp_is (x : Nd) : pp x = x :: ((x.sub 0).flatMap pp ++ (x.sub 1).flatMap pp) := by rw [pp]; simp
/-- The commands within a part. -/
def wi (x : Nd) : List Nd := x.sub 3 ++ (((x.sub 0).attach.flatMap fun y => wi y.1) ++ (x.sub 1).attach.flatMap fun y => wi y.1)
termination_by wt x
decreasing_by all_goals exact wt_sub y.2 (by omega)
theorem wi_is (x : Nd) : wi x = x.sub 3 ++ ((x.sub 0).flatMap wi ++ (x.sub 1).flatMap wi) := by rw [wi]; simp
/-- All words of a command itself. -/
def words (c : Nd) : List Nd := c.sub 0 ++ (c.sub 1).flatMap awords ++ (c.sub 2).map rword ++ (c.sub 4).flatMap (·.sub 0) ++ (c.sub 5).flatMap cw
def bodies (k : Nd) : List Nd := if kdOf ((k.sub 1).getD 0 (.mk [] [])) == 0 then [] else k.sub 1
/-- All commands right within one. -/
def kids (c : Nd) : List Nd := c.sub 3 ++ (c.sub 4).flatMap bodies ++ (words c).flatMap fun w => (w.sub 0).flatMap wi

/-- What a list of words holds in parts. -/
def Pw (ws : List Nd) : Nat := (ws.map fun w => Wl (w.sub 0)).sum
theorem Pw_append (a b : List Nd) : Pw (a ++ b) = Pw a + Pw b := by simp [Pw]
theorem sum_le {α : Type} (f g : α → Nat) : ∀ l : List α, (∀ x ∈ l, f x ≤ g x) → (l.map f).sum ≤ (l.map g).sum
  | [], _ => by simp
  | x :: l, h => by
    have h1 := h x (List.mem_cons_self ..)
    have h2 := sum_le f g l fun y hy => h y (List.mem_cons_of_mem _ hy)
    simp only [List.map_cons, List.sum_cons]
    omega
theorem sum_flatMap {α β : Type} (g : β → Nat) (f : α → List β) : ∀ l : List α, ((l.flatMap f).map g).sum = (l.map fun x => ((f x).map g).sum).sum
  | [] => by simp
  | x :: l => by
    simp only [List.flatMap_cons, List.map_append, List.sum_append, List.map_cons, List.sum_cons, sum_flatMap g f l]
theorem sum_add {α : Type} (f g : α → Nat) : ∀ l : List α, (l.map fun x => f x + g x).sum = (l.map f).sum + (l.map g).sum
  | [] => by simp
  | x :: l => by
    simp only [List.map_cons, List.sum_cons, sum_add f g l]
    omega
theorem sum_one {α : Type} : ∀ l : List α, (l.map fun _ => 1).sum = l.length
  | [] => rfl
  | x :: l => by
    simp only [List.map_cons, List.sum_cons, sum_one l, List.length_cons]
    omega
theorem Pw_le (ws : List Nd) : Pw ws + ws.length ≤ Wl ws := by
  show (ws.map fun w => Wl (w.sub 0)).sum + _ ≤ (ws.map wt).sum
  have h := sum_le (fun w => Wl (w.sub 0) + 1) wt ws fun w _ => by have := seven w; omega
  rw [sum_add (fun w => Wl (w.sub 0)) (fun _ => 1) ws, sum_one] at h
  exact h
/-- What words weigh: their parts, and one each. -/
def Qw (ws : List Nd) : Nat := Pw ws + ws.length
theorem Qw_flatMap {f : Nd → List Nd} (l : List Nd) : Qw (l.flatMap f) = (l.map fun x => Qw (f x)).sum := by
  unfold Qw Pw
  rw [sum_flatMap, List.length_flatMap, sum_add]
theorem Qw_append (a b : List Nd) : Qw (a ++ b) = Qw a + Qw b := by
  unfold Qw
  rw [Pw_append, List.length_append]
  omega
theorem cw_le (x : Nd) : Qw (cw x) + 1 ≤ wt x := by
  rw [cw_is, Qw_append, Qw_flatMap]
  have h := seven x
  have h1 := Pw_le (x.sub 0)
  have h2 : ((x.sub 1).map fun y => Qw (cw y)).sum ≤ Wl (x.sub 1) := sum_le _ _ _ fun y hy => by
    have := cw_le y
    omega
  unfold Qw at h2 ⊢
  omega
termination_by wt x
decreasing_by exact wt_sub hy (by omega)
theorem awords_le (a : Nd) : Qw (awords a) ≤ wt a := by
  have h := seven a
  have h1 := Pw_le (a.sub 2)
  have e : Qw (awords a) = Wl (a.sub 0) + 1 + Qw (a.sub 2) := by
    unfold awords
    show Qw ([WN _ _] ++ a.sub 2) = _
    rw [Qw_append]
    rfl
  rw [e]
  unfold Qw
  omega
theorem rword_le (l : List Nd) : Qw (l.map rword) ≤ Wl l := by
  have e : Qw (l.map rword) = (l.map fun r => Wl (r.sub 0) + 1).sum := by
    unfold Qw Pw
    rw [List.map_map, List.length_map, sum_add, sum_one]
    rfl
  rw [e]
  exact sum_le _ _ _ fun r _ => by have := seven r; omega
theorem cases_le (l : List Nd) : Qw (l.flatMap (·.sub 0)) + Wl (l.flatMap bodies) ≤ Wl l := by
  have e : Wl (l.flatMap bodies) = (l.map fun x => Wl (bodies x)).sum := sum_flatMap wt bodies l
  rw [Qw_flatMap, e, ← sum_add]
  refine sum_le _ _ _ fun k _ => ?_
  have h := seven k
  have h1 := Pw_le (k.sub 0)
  have h2 : Wl (bodies k) ≤ Wl (k.sub 1) := by
    unfold bodies
    split
    · rw [Wl_nil]; omega
    · omega
  unfold Qw
  omega
theorem words_le (c : Nd) : Qw (words c) + Wl (c.sub 3) + Wl ((c.sub 4).flatMap bodies) + Wl (c.sub 6) + 1 ≤ wt c := by
  have h := seven c
  have h0 := Pw_le (c.sub 0)
  have h1 : Qw ((c.sub 1).flatMap awords) ≤ Wl (c.sub 1) := by
    rw [Qw_flatMap]
    exact sum_le _ _ _ fun a _ => awords_le a
  have h2 := rword_le (c.sub 2)
  have h4 := cases_le (c.sub 4)
  have h5 : Qw ((c.sub 5).flatMap cw) ≤ Wl (c.sub 5) := by
    rw [Qw_flatMap]
    exact sum_le _ _ _ fun x _ => by have := cw_le x; omega
  unfold words
  rw [Qw_append, Qw_append, Qw_append, Qw_append]
  unfold Qw at *
  omega
theorem wi_le (x : Nd) : Wl (wi x) ≤ wt x := by
  rw [wi_is, Wl_append, Wl_append]
  have h := seven x
  have e : ∀ l : List Nd, Wl (l.flatMap wi) = (l.map fun x => Wl (wi x)).sum := fun l => sum_flatMap wt wi l
  have h0 : Wl ((x.sub 0).flatMap wi) ≤ Wl (x.sub 0) := by
    rw [e]
    exact sum_le _ _ _ fun y hy => wi_le y
  have h1 : Wl ((x.sub 1).flatMap wi) ≤ Wl (x.sub 1) := by
    rw [e]
    exact sum_le _ _ _ fun y hy => wi_le y
  omega
termination_by wt x
decreasing_by all_goals exact wt_sub hy (by omega)
theorem kids_le (c : Nd) : Wl (kids c) + 1 ≤ wt c := by
  have h := words_le c
  have h1 : Wl ((words c).flatMap fun w => (w.sub 0).flatMap wi) ≤ Pw (words c) := by
    have e : Wl ((words c).flatMap fun w => (w.sub 0).flatMap wi) = ((words c).map fun w => Wl ((w.sub 0).flatMap wi)).sum := sum_flatMap wt _ _
    rw [e]
    refine sum_le _ _ _ fun w _ => ?_
    have e2 : Wl ((w.sub 0).flatMap wi) = ((w.sub 0).map fun x => Wl (wi x)).sum := sum_flatMap wt wi _
    rw [e2]
    exact sum_le _ _ _ fun x _ => wi_le x
  unfold kids
  rw [Wl_append, Wl_append]
  unfold Qw at h
  omega
theorem kid_lt {c k : Nd} (h : k ∈ kids c) : wt k < wt c := by
  have h1 := wt_mem h
  have h2 := kids_le c
  omega
/-- All commands, each ahead of those within it. -/
def cp (c : Nd) : List Nd := c :: (kids c).attach.flatMap fun k => cp k.1
termination_by wt c
decreasing_by exact kid_lt k.2
theorem cp_is (c : Nd) : cp c = c :: (kids c).flatMap cp := by rw [cp]; simp
theorem cp_length (c : Nd) : (cp c).length ≤ wt c := by
  rw [cp_is, List.length_cons, List.length_flatMap]
  have h := kids_le c
  have h1 : ((kids c).map fun k => (cp k).length).sum ≤ Wl (kids c) := sum_le _ _ _ fun k hk => cp_length k
  omega
termination_by wt c
decreasing_by exact kid_lt hk
theorem cp_wt (c : Nd) : ∀ d ∈ cp c, wt d ≤ wt c := by
  intro d hd
  rw [cp_is] at hd
  rcases List.mem_cons.1 hd with rfl | hd
  · exact Nat.le_refl _
  · obtain ⟨k, hk, hd⟩ := List.mem_flatMap.1 hd
    have h1 := cp_wt k d hd
    have h2 := kid_lt hk
    omega
termination_by wt c
decreasing_by exact kid_lt hk
end Go.Proofs.Ytihbdacmgojapaa

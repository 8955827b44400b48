/- The plain law of a pattern's elements: what each octet of a pattern is a test of. Plain Lean: no program. -/
import Derived.Test.YtmjdlilmackneaaGp
namespace Go.Proofs.Ytmjdlilmackneaa

/-- An octet, quoted or not. -/
abbrev Ch := UInt8 × Bool
def opn (x : Ch) (c : UInt8) : Bool := !x.2 && (x.1 == c)
/-- A set's octets, as far as one asks. -/
def spn (c : UInt8) : List Ch → Bool
  | [] => false
  | [a] => a.1 == c
  | [a, b] => (a.1 == c) || (b.1 == c)
  | a :: b :: d :: l => if opn b 45 then (decide (a.1 ≤ c) && decide (c ≤ d.1)) || spn c l else (a.1 == c) || spn c (b :: d :: l)
/-- Is a set the opposite one? -/
def negd (p : List Ch) : Bool := match p with
  | _ :: y :: _ => opn y 33 || opn y 94
  | _ => false
def frm (p : List Ch) : Nat := if negd p then 2 else 1
/-- Where the first closing bracket stands. -/
def ends (p : List Ch) : Option Nat := p.findIdx? (opn · 93)
/-- A set's test, and how long it is. -/
def setD (p : List Ch) : Option ((UInt8 → Bool) × Nat) :=
  if p.length ≤ frm p then none else
  match ends (p.drop (frm p + 1)) with
  | none => none
  | some n => some (fun c => spn c ((p.take (frm p + 1 + n)).drop (frm p)) != negd p, frm p + n + 2)
/-- The first element, and how long it is. -/
def fstD (x : Ch) (p : List Ch) : El × Nat :=
  if opn x 42 then (.star, 1) else
  if opn x 63 then (.test fun _ => true, 1) else
  if opn x 91 then (match setD (x :: p) with | some (f, k) => (.test f, k) | none => (.test (x.1 == ·), 1)) else
  (.test (x.1 == ·), 1)
theorem frm_pos (p : List Ch) : 1 ≤ frm p := by unfold frm; split <;> omega
theorem frm_le (p : List Ch) : frm p ≤ 2 := by unfold frm; split <;> omega
theorem ends_lt {p : List Ch} {n : Nat} (h : ends p = some n) : n < p.length := by
  unfold ends at h
  rw [List.findIdx?_eq_some_iff_findIdx_eq] at h
  exact h.1
theorem setD_le {p : List Ch} {f : UInt8 → Bool} {k : Nat} (h : setD p = some (f, k)) : 1 ≤ k ∧ k ≤ p.length := by
  unfold setD at h
  split at h
  · simp at h
  · split at h
    · simp at h
    · rename_i n he
      have := ends_lt he
      simp at h this
      obtain ⟨_, rfl⟩ := h
      omega
theorem fstD_le (x : Ch) (p : List Ch) : 1 ≤ (fstD x p).2 ∧ (fstD x p).2 ≤ p.length + 1 := by
  unfold fstD
  split
  · simp
  split
  · simp
  split
  · split
    · rename_i f k h
      have := setD_le h
      simpa using this
    · simp
  · simp
/-- A pattern's elements. -/
def elsF : Nat → List Ch → List El
  | 0, _ => []
  | _ + 1, [] => []
  | n + 1, x :: p => (fstD x p).1 :: elsF n ((x :: p).drop (fstD x p).2)
def els (p : List Ch) : List El := elsF p.length p
theorem elsF_more : ∀ (n m : Nat) (p : List Ch), p.length ≤ n → p.length ≤ m → elsF n p = elsF m p
  | 0, 0, p, _, _ => rfl
  | 0, m + 1, p, h, _ => by
    have : p = [] := List.length_eq_zero_iff.1 (by omega)
    subst this
    rfl
  | n + 1, 0, p, _, h => by
    have : p = [] := List.length_eq_zero_iff.1 (by omega)
    subst this
    rfl
  | n + 1, m + 1, [], _, _ => rfl
  | n + 1, m + 1, x :: p, h1, h2 => by
    have hl := fstD_le x p
    simp only [List.length_cons] at h1 h2
    rw [elsF, elsF, elsF_more n m _ (by rw [List.length_drop, List.length_cons]; omega) (by rw [List.length_drop, List.length_cons]; omega)]
theorem els_nil : els [] = [] := rfl
theorem els_cons (x : Ch) (p : List Ch) : els (x :: p) = (fstD x p).1 :: els ((x :: p).drop (fstD x p).2) := by
  have hl := fstD_le x p
  unfold els
  rw [List.length_cons, elsF]
  congr 1
  exact elsF_more _ _ _ (by rw [List.length_drop, List.length_cons]; omega) (Nat.le_refl _)
theorem elsF_length : ∀ (n : Nat) (p : List Ch), (elsF n p).length ≤ n
  | 0, _ => by simp [elsF]
  | _ + 1, [] => by simp [elsF]
  | n + 1, x :: p => by rw [elsF, List.length_cons]; have := elsF_length n ((x :: p).drop (fstD x p).2); omega
theorem els_length (p : List Ch) : (els p).length ≤ p.length := elsF_length _ _

/-- A text's octets. -/
def plain (q : Bool) (s : List UInt8) : List Ch := s.map fun c => (c, q)
theorem els_quoted : ∀ s : List UInt8, els (plain true s) = s.map fun c => El.test (c == ·)
  | [] => rfl
  | c :: s => by
    show els ((c, true) :: plain true s) = _
    rw [els_cons]
    have : fstD (c, true) (plain true s) = (.test (c == ·), 1) := by simp [fstD, opn]
    rw [this]
    simp only [List.drop_succ_cons, List.drop_zero, List.map_cons]
    rw [els_quoted s]
theorem Mt_quoted : ∀ s t : List UInt8, Mt (s.map fun c => El.test (c == ·)) t = (s == t)
  | [], [] => by simp [Mt]
  | [], _ :: _ => by simp [Mt]
  | _ :: _, [] => by simp [Mt]
  | a :: s, c :: t => by
    simp only [List.map_cons, Mt, Mt_quoted s t]
    rw [Bool.eq_iff_iff]
    simp
/-- Has a pattern an unquoted bracket? -/
def opens (p : List Ch) : Bool := p.any (opn · 91)
theorem fstD_one (x : Ch) (p q : List Ch) (h : opn x 91 = false) : fstD x p = fstD x q ∧ (fstD x p).2 = 1 := by
  unfold fstD
  rw [h]
  simp only [Bool.false_eq_true, if_false]
  split
  · simp
  split
  · simp
  · simp
theorem els_append : ∀ (p q : List Ch), opens p = false → els (p ++ q) = els p ++ els q
  | [], q, _ => rfl
  | x :: p, q, h => by
    simp only [opens, List.any_cons, Bool.or_eq_false_iff] at h
    have h1 := fstD_one x (p ++ q) p h.1
    rw [List.cons_append, els_cons, els_cons, ← h1.1, h1.2]
    simp only [List.drop_succ_cons, List.drop_zero, List.cons_append]
    rw [els_append p q h.2]
theorem Mt_append : ∀ (es fs : List El) (s t : List UInt8), Mt es s = true → Mt fs t = true → Mt (es ++ fs) (s ++ t) = true
  | [], fs, [], t, _, h => h
  | [], fs, _ :: _, t, h, _ => by simp [Mt] at h
  | .star :: es, fs, [], t, h, h' => by
    rw [List.cons_append, Mt_star_iff]
    exact ⟨0, Mt_append es fs [] t (by simpa [Mt] using h) h'⟩
  | .star :: es, fs, c :: s, t, h, h' => by
    rw [Mt_star] at h
    simp only [Bool.or_eq_true, List.tail_cons] at h
    rcases h with h | h
    · rw [List.cons_append, Mt_star_iff]
      exact ⟨0, Mt_append es fs (c :: s) t h h'⟩
    · have := Mt_append (.star :: es) fs s t h h'
      rw [List.cons_append, Mt_star_iff] at this ⊢
      obtain ⟨j, hj⟩ := this
      exact ⟨j + 1, hj⟩
  | .test f :: es, fs, [], t, h, _ => by simp [Mt] at h
  | .test f :: es, fs, c :: s, t, h, h' => by
    simp only [Mt, Bool.and_eq_true, List.cons_append] at h ⊢
    exact ⟨h.1, Mt_append es fs s t h.2 h'⟩
theorem els_star (p : List Ch) : els ((42, false) :: p) = .star :: els p := by
  rw [els_cons]
  have : fstD (42, false) p = (.star, 1) := by simp [fstD, opn]
  rw [this]
  rfl
theorem stars_law (p : List Ch) (a b c : List UInt8) (h : opens p = false) (hm : Mt (els p) b = true) : Mt (els ((42, false) :: p ++ [(42, false)])) (a ++ b ++ c) = true := by
  rw [List.cons_append, els_star, els_append p _ h, els_star, els_nil, Mt_star_iff]
  refine ⟨a.length, ?_⟩
  rw [List.append_assoc, List.drop_left]
  refine Mt_append _ _ _ _ hm ?_
  rw [Mt_star_iff]
  exact ⟨c.length, by rw [List.drop_length]; simp [Mt]⟩

theorem spn_quoted (c : UInt8) : ∀ s : List UInt8, spn c (plain true s) = s.any (· == c)
  | [] => rfl
  | [a] => by simp [plain, spn]
  | [a, b] => by simp [plain, spn]
  | a :: b :: d :: s => by
    have := spn_quoted c (b :: d :: s)
    simp only [plain, List.map_cons] at this ⊢
    rw [spn, this]
    simp [opn]
theorem ends_quoted : ∀ (s : List UInt8) (r : List Ch), ends (plain true s ++ (93, false) :: r) = some s.length
  | [], r => by simp [plain, ends, opn, List.findIdx?_cons]
  | a :: s, r => by
    have := ends_quoted s r
    simp only [ends, plain, List.map_cons, List.cons_append] at this ⊢
    rw [List.findIdx?_cons, this]
    simp [opn]
theorem set_in (s : List UInt8) (hs : s ≠ []) : els ((91, false) :: (plain true s ++ [(93, false)])) = [.test fun c => s.any (· == c)] := by
  obtain ⟨a, s, rfl⟩ := List.exists_cons_of_ne_nil hs
  have hn : negd ((91, false) :: (plain true (a :: s) ++ [(93, false)])) = false := by simp [negd, plain, opn]
  have hf : frm ((91, false) :: (plain true (a :: s) ++ [(93, false)])) = 1 := by simp [frm, hn]
  have hset : setD ((91, false) :: (plain true (a :: s) ++ [(93, false)])) = some (fun c => (a :: s).any (· == c), s.length + 3) := by
    unfold setD
    rw [hf, hn]
    have he : ends (((91, false) :: (plain true (a :: s) ++ [(93, false)])).drop (1 + 1)) = some s.length := by
      show ends (plain true s ++ [(93, false)]) = _
      exact ends_quoted s []
    rw [if_neg (by simp [plain])]
    rw [he]
    simp only [Option.some.injEq, Prod.mk.injEq]
    refine ⟨?_, by omega⟩
    funext c
    have : List.drop 1 (List.take (1 + 1 + s.length) ((91, false) :: (plain true (a :: s) ++ [(93, false)]))) = plain true (a :: s) := by
      rw [show 1 + 1 + s.length = (s.length + 1) + 1 by omega, List.take_succ_cons, List.drop_succ_cons, List.drop_zero, List.take_left' (by simp [plain])]
    rw [this, spn_quoted]
    simp
  rw [els_cons]
  have : fstD (91, false) (plain true (a :: s) ++ [(93, false)]) = (.test fun c => (a :: s).any (· == c), s.length + 3) := by
    unfold fstD
    rw [hset]
    simp [opn]
  rw [this]
  simp only [List.cons.injEq, true_and]
  rw [List.drop_eq_nil_of_le (by simp [plain])]
  rfl
theorem set_out (s : List UInt8) (hs : s ≠ []) : els ((91, false) :: (33, false) :: (plain true s ++ [(93, false)])) = [.test fun c => !s.any (· == c)] := by
  obtain ⟨a, s, rfl⟩ := List.exists_cons_of_ne_nil hs
  have hn : negd ((91, false) :: (33, false) :: (plain true (a :: s) ++ [(93, false)])) = true := by simp [negd, opn]
  have hf : frm ((91, false) :: (33, false) :: (plain true (a :: s) ++ [(93, false)])) = 2 := by simp [frm, hn]
  have hset : setD ((91, false) :: (33, false) :: (plain true (a :: s) ++ [(93, false)])) = some (fun c => !(a :: s).any (· == c), s.length + 4) := by
    unfold setD
    rw [hf, hn]
    have he : ends (((91, false) :: (33, false) :: (plain true (a :: s) ++ [(93, false)])).drop (2 + 1)) = some s.length := by
      show ends (plain true s ++ [(93, false)]) = _
      exact ends_quoted s []
    rw [if_neg (by simp [plain])]
    rw [he]
    simp only [Option.some.injEq, Prod.mk.injEq]
    refine ⟨?_, by omega⟩
    funext c
    have : List.drop 2 (List.take (2 + 1 + s.length) ((91, false) :: (33, false) :: (plain true (a :: s) ++ [(93, false)]))) = plain true (a :: s) := by
      rw [show 2 + 1 + s.length = (s.length + 1) + 1 + 1 by omega, List.take_succ_cons, List.take_succ_cons, List.drop_succ_cons, List.drop_succ_cons, List.drop_zero, List.take_left' (by simp [plain])]
    rw [this, spn_quoted]
    simp
  rw [els_cons]
  have : fstD (91, false) ((33, false) :: (plain true (a :: s) ++ [(93, false)])) = (.test fun c => !(a :: s).any (· == c), s.length + 4) := by
    unfold fstD
    rw [hset]
    simp [opn]
  rw [this]
  simp only [List.cons.injEq, true_and]
  rw [List.drop_eq_nil_of_le (by simp [plain])]
  rfl
theorem Mt_one (f : UInt8 → Bool) (c : UInt8) : Mt [.test f] [c] = f c := by simp [Mt]
/-- Which length comes at a place: from 0 up, or from all down. -/
def ix (n : Nat) (l : Bool) (i : Nat) : Nat := if l then n - i else i
/-- The first length, from 0 up or from all down, for which something holds; none: -1. -/
def firstL (n : Nat) (P : Nat → Bool) (l : Bool) : Int :=
  match (List.range (n + 1)).find? (fun i => P (ix n l i)) with
  | some i => (ix n l i : Nat)
  | none => -1
theorem firstL_hit {n : Nat} {P : Nat → Bool} {l : Bool} {i : Nat} (hi : i ≤ n) (h : P (ix n l i) = true) (hb : ∀ j, j < i → P (ix n l j) = false) : firstL n P l = (ix n l i : Nat) := by
  have : (List.range (n + 1)).find? (fun i => P (ix n l i)) = some i := by
    rw [List.find?_range_eq_some]
    exact ⟨h, by simp; omega, fun j hj => by simp [hb j hj]⟩
  unfold firstL
  rw [this]
theorem firstL_miss {n : Nat} {P : Nat → Bool} {l : Bool} (hb : ∀ j, j ≤ n → P (ix n l j) = false) : firstL n P l = -1 := by
  have : (List.range (n + 1)).find? (fun i => P (ix n l i)) = none := by
    rw [List.find?_range_eq_none]
    intro j hj
    simp [hb j (by omega)]
  unfold firstL
  rw [this]
theorem firstL_cases (n : Nat) (P : Nat → Bool) (l : Bool) : (firstL n P l = -1 ∧ ∀ k, k ≤ n → P k = false) ∨
    ∃ k, k ≤ n ∧ firstL n P l = (k : Int) ∧ P k = true ∧ ∀ j, j ≤ n → P j = true → (if l then j ≤ k else k ≤ j) := by
  have hix : ∀ k, k ≤ n → ix n l (ix n l k) = k := by
    intro k hk
    cases l <;> simp [ix] <;> omega
  have hle : ∀ k, k ≤ n → ix n l k ≤ n := by
    intro k hk
    cases l <;> simp [ix] <;> omega
  rcases Classical.em (∃ i, i ≤ n ∧ P (ix n l i) = true) with h | h
  · right
    obtain ⟨i, ⟨hi, hp⟩, hmin⟩ : ∃ i, (i ≤ n ∧ P (ix n l i) = true) ∧ ∀ j, j < i → ¬ (j ≤ n ∧ P (ix n l j) = true) := by
      obtain ⟨i, hi⟩ := h
      induction i using Nat.strongRecOn with
      | ind i ih =>
        rcases Classical.em (∃ j, j < i ∧ j ≤ n ∧ P (ix n l j) = true) with ⟨j, h1, h2⟩ | h'
        · exact ih j h1 h2
        · exact ⟨i, hi, fun j hj hh => h' ⟨j, hj, hh⟩⟩
    refine ⟨ix n l i, hle i hi, firstL_hit hi hp (fun j hj => by
      have := hmin j hj
      cases hpj : P (ix n l j)
      · rfl
      · exact absurd ⟨by omega, hpj⟩ this), hp, ?_⟩
    intro j hj hpj
    have h1 : ¬ ix n l j < i := fun hlt => hmin _ hlt ⟨hle j hj, by rw [hix j hj]; exact hpj⟩
    cases l <;> simp [ix] at h1 ⊢ <;> omega
  · left
    have : ∀ k, k ≤ n → P (ix n l k) = false := by
      intro k hk
      cases hpk : P (ix n l k)
      · rfl
      · exact absurd ⟨k, hk, hpk⟩ h
    refine ⟨firstL_miss this, fun k hk => ?_⟩
    have := this (ix n l k) (hle k hk)
    rwa [hix k hk] at this
/-- How much of a text's beginning elements match. -/
def preI (es : List El) (s : List UInt8) (l : Bool) : Int := firstL s.length (fun k => Mt es (s.take k)) l
/-- How much of a text's end. -/
def sufI (es : List El) (s : List UInt8) (l : Bool) : Int := firstL s.length (fun k => Mt es (s.drop (s.length - k))) l
end Go.Proofs.Ytmjdlilmackneaa

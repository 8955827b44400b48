/- The plain law of layer ansi: what stands within quotes and how a text stands there, as functions on lists of octets; no program in sight, no conditions beyond what each theorem states. -/
import Derived.Lib.Bytealg
import Derived.Lib.IndexLaws
namespace Go.Proofs.Ytadjeaefnfkogaa
open Go.Lib (indexByte indexByte_ge)

def hexs : List UInt8 := [48, 49, 50, 51, 52, 53, 54, 55, 56, 57, 97, 98, 99, 100, 101, 102]
def nams : List UInt8 := [92, 39, 34, 97, 98, 101, 102, 110, 114, 116, 118]
def vals : List UInt8 := [92, 39, 34, 7, 8, 27, 12, 10, 13, 9, 11]

/-- A digit's worth in a base; below 0: it is none. -/
def dv (base : Nat) (c : UInt8) : Int := indexByte (hexs.take base) (if 65 ≤ c ∧ c ≤ 70 then c ||| 32 else c)

/-- At most m digits: their number, behind n and k. -/
def digs (base : Nat) : Nat → List UInt8 → Int → Nat → Int × Nat
  | 0, _, n, k => (n, k)
  | _ + 1, [], n, k => (n, k)
  | m + 1, c :: t, n, k => if dv base c < 0 then (n, k) else digs base m t (n * base + dv base c) (k + 1)

/-- What stands behind a backslash: an octet, and how many octets it takes, the backslash counted. -/
def escN (rest : List UInt8) : Int × Nat × Nat :=
  match rest with
  | 120 :: t => let r := digs 16 2 t 0 0; (r.1, r.2, 2 + r.2)
  | _ => let r := digs 8 3 rest 0 0; (r.1, r.2, 1 + r.2)
def escI (rest : List UInt8) : Int := match rest with | [] => -1 | c :: _ => indexByte nams c
def esc (rest : List UInt8) : Option (UInt8 × Nat) :=
  if 0 ≤ escI rest then some (vals.getD (escI rest).toNat 0, 2)
  else if (escN rest).2.1 = 0 ∨ (escN rest).1 = 0 ∨ 255 < (escN rest).1 then none else some ((escN rest).1.toNat.toUInt8, (escN rest).2.2)

/-- An octet (and what follows) put ahead of what is read; a fault stands that much further on. -/
def ahead (n : Nat) (p : List UInt8) : Except (Nat × Int) (List UInt8) → Except (Nat × Int) (List UInt8)
  | .ok t => .ok (p ++ t)
  | .error (j, e) => .error (n + j, e)

def dec (s : List UInt8) : Except (Nat × Int) (List UInt8) :=
  match s with
  | [] => .ok []
  | c :: t =>
    if c = 0 ∨ c = 39 then .error (0, 61)
    else if c = 92 then
      match esc t with
      | none => .error (0, 33)
      | some (b, n) => ahead n [b] (dec (t.drop (n - 1)))
    else ahead 1 [c] (dec t)
termination_by s.length
decreasing_by
  all_goals simp_wf
  all_goals omega

theorem ahead_ahead (n m : Nat) (p q : List UInt8) (r : Except (Nat × Int) (List UInt8)) : ahead n p (ahead m q r) = ahead (n + m) (p ++ q) r := by
  cases r with
  | ok t => simp [ahead]
  | error x => obtain ⟨j, e⟩ := x; simp [ahead]; omega
theorem ahead_zero (r : Except (Nat × Int) (List UInt8)) : ahead 0 [] r = r := by
  cases r with
  | ok t => simp [ahead]
  | error x => obtain ⟨j, e⟩ := x; simp [ahead]

theorem dec_nil : dec [] = .ok [] := by rw [dec]
theorem dec_bad (c : UInt8) (t : List UInt8) (h : c = 0 ∨ c = 39) : dec (c :: t) = .error (0, 61) := by rw [dec, if_pos h]
theorem dec_plain (c : UInt8) (t : List UInt8) (h : ¬(c = 0 ∨ c = 39)) (h' : c ≠ 92) : dec (c :: t) = ahead 1 [c] (dec t) := by rw [dec, if_neg h, if_neg h']
theorem dec_none (t : List UInt8) (h : esc t = none) : dec (92 :: t) = .error (0, 33) := by
  rw [dec, if_neg (by decide), if_pos rfl, h]
theorem dec_some (t : List UInt8) (b : UInt8) (n : Nat) (h : esc t = some (b, n)) : dec (92 :: t) = ahead n [b] (dec (t.drop (n - 1))) := by
  rw [dec, if_neg (by decide), if_pos rfl, h]

theorem digs_k (base : Nat) : ∀ (m : Nat) (s : List UInt8) (n : Int) (k : Nat), k ≤ (digs base m s n k).2 ∧ (digs base m s n k).2 ≤ k + s.length ∧ (digs base m s n k).2 ≤ k + m
  | 0, s, n, k => by simp [digs]
  | m + 1, [], n, k => by simp [digs]
  | m + 1, c :: t, n, k => by
    simp only [digs]
    split
    · simp
    · have := digs_k base m t (n * base + dv base c) (k + 1)
      simp only [List.length_cons]; omega

theorem indexByte_lt : ∀ (l : List UInt8) (c : UInt8), indexByte l c < l.length
  | [], c => by simp [indexByte]
  | b :: l, c => by
    have := indexByte_lt l c
    unfold indexByte
    split
    · simp only [List.length_cons]; omega
    · split <;> simp only [List.length_cons] <;> omega

theorem dv_lt (base : Nat) (c : UInt8) : dv base c < base := by
  have := indexByte_lt (hexs.take base) (if 65 ≤ c ∧ c ≤ 70 then c ||| 32 else c)
  unfold dv
  have h : (hexs.take base).length ≤ base := by simp; omega
  omega

theorem digs_n (base : Nat) : ∀ (m : Nat) (s : List UInt8) (n : Int) (k : Nat), 0 ≤ n → 0 ≤ (digs base m s n k).1
  | 0, s, n, k, h => by simpa [digs] using h
  | m + 1, [], n, k, h => by simpa [digs] using h
  | m + 1, c :: t, n, k, h => by
    simp only [digs]
    split
    · exact h
    · exact digs_n base m t _ (k + 1) (Int.add_nonneg (Int.mul_nonneg h (by omega)) (by omega))

theorem vals_pos : ∀ i : Nat, i < 11 → vals.getD i 0 ≠ 0 := by decide

theorem escN_fits (t : List UInt8) (h2 : (escN t).2.1 ≠ 0) : 2 ≤ (escN t).2.2 ∧ (escN t).2.2 ≤ t.length + 1 := by
  cases t with
  | nil => simp [escN, digs] at h2
  | cons c t =>
    by_cases hc : c = 120
    · subst hc
      simp only [escN] at h2 ⊢
      have := digs_k 16 2 t 0 0
      simp only [List.length_cons]; omega
    · have e : escN (c :: t) = ((digs 8 3 (c :: t) 0 0).1, (digs 8 3 (c :: t) 0 0).2, 1 + (digs 8 3 (c :: t) 0 0).2) := by
        unfold escN; split
        · rename_i heq; simp only [List.cons.injEq] at heq; exact absurd heq.1 hc
        · rfl
      rw [e] at h2 ⊢
      have := digs_k 8 3 (c :: t) 0 0
      simp only at h2 ⊢; omega

theorem esc_fits (t : List UInt8) (b : UInt8) (n : Nat) (h : esc t = some (b, n)) : 2 ≤ n ∧ n ≤ t.length + 1 ∧ b ≠ 0 := by
  unfold esc at h
  split at h
  · rename_i h0
    obtain ⟨rfl, rfl⟩ : vals.getD (escI t).toNat 0 = b ∧ 2 = n := by simpa using h
    cases t with
    | nil => simp [escI] at h0
    | cons c t =>
      have hlt := indexByte_lt nams c
      simp only [escI] at h0 ⊢
      have hl : nams.length = 11 := rfl
      refine ⟨Nat.le_refl _, by simp, vals_pos _ (by omega)⟩
  · split at h
    · cases h
    · rename_i h1
      obtain ⟨rfl, rfl⟩ : (escN t).1.toNat.toUInt8 = b ∧ (escN t).2.2 = n := by simpa using h
      have hn : 0 < (escN t).1 := by
        have : 0 ≤ (escN t).1 := by
          unfold escN; split
          · exact digs_n _ _ _ _ _ (Int.le_refl 0)
          · exact digs_n _ _ _ _ _ (Int.le_refl 0)
        omega
      have hk : 2 ≤ (escN t).2.2 ∧ (escN t).2.2 ≤ t.length + 1 := by
        have h2 : (escN t).2.1 ≠ 0 := by omega
        exact escN_fits t h2
      refine ⟨hk.1, hk.2, fun e => ?_⟩
      have e' := congrArg UInt8.toNat e
      simp at e'
      omega

/-- A fault stands at a place of the text. -/
theorem dec_error (N : Nat) : ∀ s : List UInt8, s.length ≤ N → ∀ j e, dec s = .error (j, e) → j < s.length ∧ (e = 61 ∨ e = 33) := by
  induction N with
  | zero =>
    intro s hs j e h
    have : s = [] := List.eq_nil_of_length_eq_zero (by omega)
    subst this; rw [dec_nil] at h; cases h
  | succ N ih =>
    intro s hs j e h
    cases s with
    | nil => rw [dec_nil] at h; cases h
    | cons c t =>
      simp only [List.length_cons] at hs ⊢
      by_cases h1 : c = 0 ∨ c = 39
      · rw [dec_bad c t h1] at h; injection h with h; injection h with h h'; subst h; subst h'; simp
      · by_cases h2 : c = 92
        · subst h2
          cases he : esc t with
          | none => rw [dec_none t he] at h; injection h with h; injection h with h h'; subst h; subst h'; simp
          | some x =>
            obtain ⟨b, n⟩ := x
            obtain ⟨hn2, hn, _⟩ := esc_fits t b n he
            rw [dec_some t b n he] at h
            cases hd : dec (t.drop (n - 1)) with
            | ok u => rw [hd] at h; simp [ahead] at h
            | error y =>
              obtain ⟨j', e'⟩ := y
              rw [hd] at h
              simp only [ahead] at h
              injection h with h; injection h with h h'; subst h; subst h'
              have := ih (t.drop (n - 1)) (by simp; omega) j' e' hd
              simp only [List.length_drop] at this
              exact ⟨by omega, this.2⟩
        · rw [dec_plain c t h1 h2] at h
          cases hd : dec t with
          | ok u => rw [hd] at h; simp [ahead] at h
          | error y =>
            obtain ⟨j', e'⟩ := y
            rw [hd] at h
            simp only [ahead] at h
            injection h with h; injection h with h h'; subst h; subst h'
            have := ih t (by omega) j' e' hd
            exact ⟨by omega, this.2⟩

/-- What is told has no octet 0, and is no longer than what was read. -/
theorem dec_ok (N : Nat) : ∀ s : List UInt8, s.length ≤ N → ∀ u, dec s = .ok u → (∀ c ∈ u, c ≠ 0) ∧ u.length ≤ s.length := by
  induction N with
  | zero =>
    intro s hs u h
    have : s = [] := List.eq_nil_of_length_eq_zero (by omega)
    subst this; rw [dec_nil] at h; injection h with h; subst h; simp
  | succ N ih =>
    intro s hs u h
    cases s with
    | nil => rw [dec_nil] at h; injection h with h; subst h; simp
    | cons c t =>
      simp only [List.length_cons] at hs ⊢
      by_cases h1 : c = 0 ∨ c = 39
      · rw [dec_bad c t h1] at h; cases h
      · by_cases h2 : c = 92
        · subst h2
          cases he : esc t with
          | none => rw [dec_none t he] at h; cases h
          | some x =>
            obtain ⟨b, n⟩ := x
            obtain ⟨hn2, hn, hb⟩ := esc_fits t b n he
            rw [dec_some t b n he] at h
            cases hd : dec (t.drop (n - 1)) with
            | error y => obtain ⟨j', e'⟩ := y; rw [hd] at h; simp [ahead] at h
            | ok v =>
              rw [hd] at h
              simp only [ahead] at h
              injection h with h; subst h
              have := ih (t.drop (n - 1)) (by simp; omega) v hd
              simp only [List.length_drop] at this
              refine ⟨?_, by simp; omega⟩
              intro c hc
              simp at hc
              rcases hc with rfl | hc
              · exact hb
              · exact this.1 c hc
        · rw [dec_plain c t h1 h2] at h
          cases hd : dec t with
          | error y => obtain ⟨j', e'⟩ := y; rw [hd] at h; simp [ahead] at h
          | ok v =>
            rw [hd] at h
            simp only [ahead] at h
            injection h with h; subst h
            have := ih t (by omega) v hd
            refine ⟨?_, by simp; omega⟩
            intro d hd'
            simp at hd'
            rcases hd' with rfl | hd'
            · exact fun e => h1 (Or.inl e)
            · exact this.1 d hd'

/-! ### parts -/
theorem dv_space (base : Nat) (h : base = 8 ∨ base = 16) : dv base 32 < 0 := by rcases h with rfl | rfl <;> decide

theorem digs_space (base : Nat) (hb : base = 8 ∨ base = 16) (b : List UInt8) : ∀ (m : Nat) (s : List UInt8) (n : Int) (k : Nat), digs base m (s ++ 32 :: b) n k = digs base m s n k
  | 0, s, n, k => by simp [digs]
  | m + 1, [], n, k => by simp only [List.nil_append, digs]; rw [if_pos (dv_space base hb)]
  | m + 1, c :: t, n, k => by
    simp only [List.cons_append, digs]
    split
    · rfl
    · exact digs_space base hb b m t _ (k + 1)

theorem escN_space (t b : List UInt8) : escN (t ++ 32 :: b) = escN t := by
  cases t with
  | nil => unfold escN; simp [digs, dv_space 8 (Or.inl rfl)]
  | cons c t =>
    by_cases hc : c = 120
    · subst hc
      simp only [List.cons_append, escN, digs_space 16 (Or.inr rfl)]
    · unfold escN
      have h := digs_space 8 (Or.inl rfl) b 3 (c :: t) 0 0
      simp only [List.cons_append] at h ⊢
      split
      · rename_i heq; simp only [List.cons.injEq] at heq; exact absurd heq.1 hc
      · split
        · rename_i heq; simp only [List.cons.injEq] at heq; exact absurd heq.1 hc
        · rw [h]

theorem escI_space (t b : List UInt8) : escI (t ++ 32 :: b) = escI t := by
  cases t with
  | nil => simp only [List.nil_append, escI]; decide
  | cons c t => rfl

theorem esc_space (t b : List UInt8) : esc (t ++ 32 :: b) = esc t := by unfold esc; rw [escN_space, escI_space]

/-- Two texts within quotes, a space between: what both are. -/
theorem dec_parts (b : List UInt8) (N : Nat) : ∀ a : List UInt8, a.length ≤ N →
    dec (a ++ 32 :: b) = match dec a with | .ok x => ahead (a.length + 1) (x ++ [32]) (dec b) | .error y => .error y := by
  have hsp : dec (32 :: b) = ahead 1 [32] (dec b) := dec_plain 32 b (by decide) (by decide)
  induction N with
  | zero =>
    intro a ha
    have : a = [] := List.eq_nil_of_length_eq_zero (by omega)
    subst this; rw [dec_nil]; simpa using hsp
  | succ N ih =>
    intro a ha
    cases a with
    | nil => rw [dec_nil]; simpa using hsp
    | cons c t =>
      simp only [List.length_cons] at ha ⊢
      rw [List.cons_append]
      by_cases h1 : c = 0 ∨ c = 39
      · rw [dec_bad c _ h1, dec_bad c _ h1]
      · by_cases h2 : c = 92
        · subst h2
          cases he : esc t with
          | none => rw [dec_none t he, dec_none _ (by rw [esc_space]; exact he)]
          | some x =>
            obtain ⟨o, n⟩ := x
            obtain ⟨hn2, hn, _⟩ := esc_fits t o n he
            rw [dec_some t o n he, dec_some _ o n (by rw [esc_space]; exact he)]
            rw [List.drop_append_of_le_length (by omega), ih (t.drop (n - 1)) (by simp; omega)]
            cases hd : dec (t.drop (n - 1)) with
            | error y => rfl
            | ok v =>
              simp only
              rw [ahead_ahead]
              show _ = ahead (t.length + 1 + 1) (o :: v ++ [32]) (dec b)
              have e1 : n + ((t.drop (n - 1)).length + 1) = t.length + 1 + 1 := by simp; omega
              rw [e1]; rfl
        · rw [dec_plain c _ h1 h2, dec_plain c _ h1 h2, ih t (by omega)]
          cases hd : dec t with
          | error y => rfl
          | ok v =>
            simp only
            rw [ahead_ahead]
            show _ = ahead (t.length + 1 + 1) (c :: v ++ [32]) (dec b)
            have e1 : 1 + (t.length + 1) = t.length + 1 + 1 := by omega
            rw [e1]; rfl

/-! ### back -/
/-- An octet as it stands within quotes. -/
def enc (c : UInt8) : List UInt8 :=
  if c = 92 ∨ c = 39 then [92, c] else if c = 10 then [92, 110] else if c = 9 then [92, 116] else if c = 13 then [92, 114]
  else if c < 32 ∨ 126 < c then [92, (48 : UInt8) + (c >>> 6), (48 : UInt8) + ((c >>> 3) &&& 7), (48 : UInt8) + (c &&& 7)] else [c]

theorem all_octets {p : UInt8 → Prop} (h : ∀ n, n < 256 → p (UInt8.ofNat n)) (c : UInt8) : p c := by
  have := h c.toNat c.toNat_lt
  simpa using this

theorem esc_octal (d1 d2 d3 c : UInt8) (r : List UInt8) (h0 : indexByte nams d1 < 0) (hx : d1 ≠ 120) (h1 : 0 ≤ dv 8 d1) (h2 : 0 ≤ dv 8 d2) (h3 : 0 ≤ dv 8 d3)
    (hv : ((0 * ((8 : Nat) : Int) + dv 8 d1) * ((8 : Nat) : Int) + dv 8 d2) * ((8 : Nat) : Int) + dv 8 d3 = c.toNat) (hc : c ≠ 0) : esc (d1 :: d2 :: d3 :: r) = some (c, 4) := by
  have e : escN (d1 :: d2 :: d3 :: r) = ((c.toNat : Int), 3, 4) := by
    unfold escN
    split
    · rename_i heq; simp only [List.cons.injEq] at heq; exact absurd heq.1 hx
    · simp only [digs]
      rw [if_neg (by omega), if_neg (by omega), if_neg (by omega)]
      simp only [hv]
  have hn : c.toNat ≠ 0 := fun e => hc (UInt8.toNat_inj.1 (by simpa using e))
  have hl := c.toNat_lt
  unfold esc
  rw [if_neg (by simp only [escI]; omega), e]
  rw [if_neg (by simp only; omega)]
  simp

def octalFacts (c : UInt8) : Bool :=
  let d1 := (48 : UInt8) + (c >>> 6); let d2 := (48 : UInt8) + ((c >>> 3) &&& 7); let d3 := (48 : UInt8) + (c &&& 7)
  decide (indexByte nams d1 < 0) && decide (d1 ≠ 120) && decide (0 ≤ dv 8 d1) && decide (0 ≤ dv 8 d2) && decide (0 ≤ dv 8 d3) &&
    decide (((0 * ((8 : Nat) : Int) + dv 8 d1) * ((8 : Nat) : Int) + dv 8 d2) * ((8 : Nat) : Int) + dv 8 d3 = c.toNat)

theorem octal_all : ∀ n, n < 256 → octalFacts (UInt8.ofNat n) = true := by decide +kernel

theorem esc_name (x c : UInt8) (r : List UInt8) (h0 : 0 ≤ indexByte nams x) (hv : vals.getD (indexByte nams x).toNat 0 = c) : esc (x :: r) = some (c, 2) := by
  unfold esc
  rw [if_pos (by simpa only [escI] using h0)]
  simp only [escI, hv]

theorem dec_enc (c : UInt8) (hc : c ≠ 0) (r : List UInt8) : dec (enc c ++ r) = ahead (enc c).length [c] (dec r) := by
  unfold enc
  split
  · rename_i h
    have : esc (c :: r) = some (c, 2) := by
      rcases h with rfl | rfl
      · exact esc_name _ _ _ (by decide) (by decide)
      · exact esc_name _ _ _ (by decide) (by decide)
    exact dec_some (c :: r) c 2 this
  · split
    · rename_i h; subst h; exact dec_some (110 :: r) 10 2 (esc_name _ _ _ (by decide) (by decide))
    · split
      · rename_i h; subst h; exact dec_some (116 :: r) 9 2 (esc_name _ _ _ (by decide) (by decide))
      · split
        · rename_i h; subst h; exact dec_some (114 :: r) 13 2 (esc_name _ _ _ (by decide) (by decide))
        · split
          · have hf := all_octets (p := fun c => octalFacts c = true) octal_all c
            simp only [octalFacts, Bool.and_eq_true, decide_eq_true_eq] at hf
            obtain ⟨⟨⟨⟨⟨f0, f1⟩, f2⟩, f3⟩, f4⟩, f5⟩ := hf
            exact dec_some _ c 4 (esc_octal _ _ _ c r f0 f1 f2 f3 f4 f5 hc)
          · rename_i h1 _ _ _ _
            exact dec_plain c r (fun h => h.elim hc (fun e => h1 (Or.inr e))) (fun e => h1 (Or.inl e))

/-- A text comes back from its encoded form. -/
theorem dec_back : ∀ s : List UInt8, (∀ c ∈ s, c ≠ 0) → dec (s.flatMap enc) = .ok s
  | [], _ => dec_nil
  | c :: s, h => by
    rw [List.flatMap_cons, dec_enc c (h c (by simp)), dec_back s (fun d hd => h d (by simp [hd]))]
    rfl

/-! ### plain -/
def scan : List UInt8 → Option Nat
  | [] => none
  | [c] => if c = 39 then some 0 else none
  | c :: d :: t => if c = 39 then some 0 else if c = 92 then (scan t).map (· + 2) else (scan (d :: t)).map (· + 1)

theorem scan_quote (t : List UInt8) : scan (39 :: t) = some 0 := by cases t <;> simp [scan]
theorem scan_skip (d : UInt8) (t : List UInt8) : scan (92 :: d :: t) = (scan t).map (· + 2) := by simp [scan]
theorem scan_next (c : UInt8) (t : List UInt8) (h : c ≠ 39) (h' : c ≠ 92) : scan (c :: t) = (scan t).map (· + 1) := by
  cases t with
  | nil => simp [scan, h]
  | cons d t => simp [scan, h, h']

def plainFacts (c : UInt8) : Bool := (enc c).all (fun x => decide (32 ≤ x) && decide (x ≤ 126))
theorem plain_all : ∀ n, n < 256 → plainFacts (UInt8.ofNat n) = true := by decide +kernel
theorem enc_plain (c x : UInt8) (h : x ∈ enc c) : 32 ≤ x ∧ x ≤ 126 := by
  have hf := all_octets (p := fun c => plainFacts c = true) plain_all c
  simp only [plainFacts, List.all_eq_true, Bool.and_eq_true, decide_eq_true_eq] at hf
  exact hf x h

def octDigits (c : UInt8) : Bool := decide ((48 : UInt8) + ((c >>> 3) &&& 7) ≠ 39) && decide ((48 : UInt8) + ((c >>> 3) &&& 7) ≠ 92) && decide ((48 : UInt8) + (c &&& 7) ≠ 39) && decide ((48 : UInt8) + (c &&& 7) ≠ 92)
theorem octDigits_all : ∀ n, n < 256 → octDigits (UInt8.ofNat n) = true := by decide +kernel

theorem scan_enc (c : UInt8) (r : List UInt8) : scan (enc c ++ r) = (scan r).map (· + (enc c).length) := by
  unfold enc
  split
  · exact scan_skip _ _
  · split
    · exact scan_skip _ _
    · split
      · exact scan_skip _ _
      · split
        · exact scan_skip _ _
        · split
          · have hf := all_octets (p := fun c => octDigits c = true) octDigits_all c
            simp only [octDigits, Bool.and_eq_true, decide_eq_true_eq] at hf
            obtain ⟨⟨⟨f0, f1⟩, f2⟩, f3⟩ := hf
            show scan (92 :: _ :: _ :: _ :: r) = _
            rw [scan_skip, scan_next _ _ f0 f1, scan_next _ _ f2 f3]
            simp only [Option.map_map]
            rfl
          · rename_i h1 _ _ _ _
            exact scan_next c r (fun e => h1 (Or.inr e)) (fun e => h1 (Or.inl e))

theorem scan_none : ∀ s : List UInt8, scan (s.flatMap enc) = none
  | [] => rfl
  | c :: s => by rw [List.flatMap_cons, scan_enc, scan_none s]; rfl

theorem scan_some : ∀ s : List UInt8, scan (s.flatMap enc ++ [39]) = some (s.flatMap enc).length
  | [] => rfl
  | c :: s => by
    rw [List.flatMap_cons, List.append_assoc, scan_enc, scan_some s]
    simp only [Option.map_some, List.length_append]
    congr 1; omega

theorem enc_length (c : UInt8) : 1 ≤ (enc c).length ∧ (enc c).length ≤ 4 := by
  unfold enc
  repeat' split
  all_goals simp
theorem encs_length : ∀ s : List UInt8, (s.flatMap enc).length ≤ 4 * s.length
  | [] => by simp
  | c :: s => by
    have h1 := enc_length c
    have h2 := encs_length s
    rw [List.flatMap_cons, List.length_append, List.length_cons]; omega

end Go.Proofs.Ytadjeaefnfkogaa

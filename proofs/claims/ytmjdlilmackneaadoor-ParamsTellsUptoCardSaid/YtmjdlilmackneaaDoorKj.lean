/- The plain law of the places of a pattern that may be reached: no program. -/
import Derived.Test.YtmjdlilmackneaaDoorGq
namespace Go.Proofs.YtmjdlilmackneaaDoor

/-- The element at a place, and how long it is. -/
def fstAt (p : List Ch) (k : Nat) : El × Nat := match p.drop k with
  | [] => (.star, 1)
  | x :: r => fstD x r
theorem fstAt_is (p : List Ch) (k : Nat) (h : k < p.length) : fstAt p k = fstD p[k] (p.drop (k + 1)) := by
  unfold fstAt
  rw [List.drop_eq_getElem_cons h]
theorem fstAt_le (p : List Ch) (k : Nat) (h : k < p.length) : 1 ≤ (fstAt p k).2 ∧ k + (fstAt p k).2 ≤ p.length := by
  rw [fstAt_is p k h]
  have := fstD_le p[k] (p.drop (k + 1))
  rw [List.length_drop] at this
  omega
theorem els_at (p : List Ch) (k : Nat) (h : k < p.length) : els (p.drop k) = (fstAt p k).1 :: els (p.drop (k + (fstAt p k).2)) := by
  rw [fstAt_is p k h]
  have hd := List.drop_eq_getElem_cons h
  conv => lhs; rw [hd, els_cons]
  rw [← hd, List.drop_drop]
def stA (p : List Ch) (k : Nat) : Bool := isStar (fstAt p k).1
theorem stA_len (p : List Ch) (k : Nat) (h : k < p.length) (hs : stA p k = true) : (fstAt p k).2 = 1 := by
  unfold stA at hs
  rw [fstAt_is p k h] at hs ⊢
  unfold fstD at hs ⊢
  split
  · rfl
  · rename_i h1
    rw [if_neg h1] at hs
    split
    · rfl
    · rename_i h2
      rw [if_neg h2] at hs
      split
      · rename_i h3
        rw [if_pos h3] at hs
        split
        · rename_i f k' he
          rw [he] at hs
          simp [isStar] at hs
        · rfl
      · rfl
def tst : El → UInt8 → Bool
  | .star, _ => false
  | .test f, c => f c
theorem star_of {e : El} (h : isStar e = true) : e = .star := by cases e <;> simp_all [isStar]
theorem test_of {e : El} (h : isStar e = false) : ∃ f, e = .test f := by cases e <;> simp_all [isStar]
theorem star_at {p : List Ch} {k : Nat} (h : k < p.length) (hs : stA p k = true) : els (p.drop k) = .star :: els (p.drop (k + 1)) := by
  rw [els_at p k h, stA_len p k h hs, star_of hs]
theorem test_at {p : List Ch} {k : Nat} (h : k < p.length) (hs : stA p k = false) : ∃ f, (fstAt p k).1 = .test f ∧ els (p.drop k) = .test f :: els (p.drop (k + (fstAt p k).2)) := by
  obtain ⟨f, hf⟩ := test_of (e := (fstAt p k).1) hs
  exact ⟨f, hf, by rw [els_at p k h, hf]⟩

def upd (f : Nat → Bool) (k : Nat) : Nat → Bool := fun j => if j = k then true else f j
theorem upd_iff (f : Nat → Bool) (k j : Nat) : upd f k j = true ↔ j = k ∨ f j = true := by
  unfold upd
  split <;> simp_all
def rcF (p : List Ch) (l : Nat → Bool) : Nat → Nat → Bool
  | 0 => l
  | k + 1 => if rcF p l k k && stA p k then upd (rcF p l k) (k + 1) else rcF p l k
def nxF (p : List Ch) (now : Nat → Bool) (c : UInt8) : Nat → Nat → Bool
  | 0 => fun _ => false
  | k + 1 => if now k then (if stA p k then upd (nxF p now c k) k else if tst (fstAt p k).1 c then upd (nxF p now c k) (k + (fstAt p k).2) else nxF p now c k) else nxF p now c k
def Val (p : List Ch) (l : Nat → Bool) (s : List UInt8) : Prop := ∃ k, k ≤ p.length ∧ l k = true ∧ Mt (els (p.drop k)) s = true
def Closed (p : List Ch) (l : Nat → Bool) : Prop := ∀ k, k < p.length → l k = true → stA p k = true → l (k + 1) = true

theorem rc_mono (p : List Ch) (l : Nat → Bool) : ∀ k j, rcF p l k j = true → rcF p l (k + 1) j = true := by
  intro k j h
  rw [rcF]
  split
  · rw [upd_iff]; exact Or.inr h
  · exact h
theorem rc_val (p : List Ch) (l : Nat → Bool) (s : List UInt8) : ∀ k, k ≤ p.length → (Val p (rcF p l k) s ↔ Val p l s)
  | 0, _ => Iff.rfl
  | k + 1, h => by
    rw [← rc_val p l s k (by omega)]
    rw [rcF]
    split
    · rename_i hc
      rw [Bool.and_eq_true] at hc
      constructor
      · rintro ⟨j, hj, hl, hm⟩
        rw [upd_iff] at hl
        rcases hl with rfl | hl
        · refine ⟨k, by omega, hc.1, ?_⟩
          rw [star_at (by omega) hc.2, Mt_star_iff]
          exact ⟨0, hm⟩
        · exact ⟨j, hj, hl, hm⟩
      · rintro ⟨j, hj, hl, hm⟩
        exact ⟨j, hj, (upd_iff _ _ _).2 (Or.inr hl), hm⟩
    · exact Iff.rfl
theorem rc_below (p : List Ch) (l : Nat → Bool) (j : Nat) : ∀ k, j ≤ k → rcF p l k j = rcF p l j j
  | 0, h => by obtain rfl : j = 0 := by omega
               rfl
  | k + 1, h => by
    by_cases he : j = k + 1
    · subst he; rfl
    · rw [← rc_below p l j k (by omega)]
      conv => lhs; rw [rcF]
      split
      · unfold upd
        rw [if_neg he]
      · rfl
theorem rc_closed (p : List Ch) (l : Nat → Bool) : Closed p (rcF p l p.length) := by
  intro j hj h1 h2
  rw [rc_below p l j p.length (by omega)] at h1
  rw [rc_below p l (j + 1) p.length (by omega), rcF, h1, h2]
  simp [upd]
theorem nx_iff (p : List Ch) (now : Nat → Bool) (c : UInt8) (j : Nat) : ∀ k, nxF p now c k j = true ↔ ∃ a, a < k ∧ now a = true ∧ ((stA p a = true ∧ j = a) ∨ (stA p a = false ∧ tst (fstAt p a).1 c = true ∧ j = a + (fstAt p a).2))
  | 0 => by simp [nxF]
  | k + 1 => by
    have ih := nx_iff p now c j k
    have hsplit : (∃ a, a < k + 1 ∧ now a = true ∧ ((stA p a = true ∧ j = a) ∨ (stA p a = false ∧ tst (fstAt p a).1 c = true ∧ j = a + (fstAt p a).2))) ↔ ((now k = true ∧ ((stA p k = true ∧ j = k) ∨ (stA p k = false ∧ tst (fstAt p k).1 c = true ∧ j = k + (fstAt p k).2))) ∨ ∃ a, a < k ∧ now a = true ∧ ((stA p a = true ∧ j = a) ∨ (stA p a = false ∧ tst (fstAt p a).1 c = true ∧ j = a + (fstAt p a).2))) := by
      constructor
      · rintro ⟨a, ha, h⟩
        by_cases e : a = k
        · subst e; exact Or.inl h
        · exact Or.inr ⟨a, by omega, h⟩
      · rintro (h | ⟨a, ha, h⟩)
        · exact ⟨k, by omega, h⟩
        · exact ⟨a, by omega, h⟩
    rw [hsplit, ← ih, nxF]
    cases now k
    · simp
    · cases stA p k
      · cases tst (fstAt p k).1 c
        · simp
        · simp [upd_iff]
      · simp [upd_iff]
theorem nx_val (p : List Ch) (now : Nat → Bool) (c : UInt8) (s : List UInt8) (hc : Closed p now) : Val p (nxF p now c p.length) s ↔ Val p now (c :: s) := by
  constructor
  · rintro ⟨j, hj, hl, hm⟩
    rw [nx_iff] at hl
    obtain ⟨a, ha, h1, ⟨h2, rfl⟩ | ⟨h2, h3, rfl⟩⟩ := hl
    · refine ⟨j, by omega, h1, ?_⟩
      rw [star_at ha h2] at hm ⊢
      rw [Mt_star, List.tail_cons, hm, Bool.or_true]
    · obtain ⟨f, hf, he⟩ := test_at ha h2
      refine ⟨a, by omega, h1, ?_⟩
      rw [he, Mt, hm]
      rw [hf] at h3
      simpa [tst] using h3
  · rintro ⟨k, hk, hl, hm⟩
    have key : ∀ n k, p.length - k ≤ n → k ≤ p.length → now k = true → Mt (els (p.drop k)) (c :: s) = true → Val p (nxF p now c p.length) s := by
      intro n
      induction n with
      | zero =>
        intro k h1 h2 _ hm
        rw [List.drop_eq_nil_of_le (by omega), els_nil] at hm
        simp [Mt] at hm
      | succ n ih =>
        intro k h1 h2 hl hm
        by_cases hk : k < p.length
        · cases hs : stA p k
          · obtain ⟨f, hf, he⟩ := test_at hk hs
            rw [he, Mt, Bool.and_eq_true] at hm
            exact ⟨_, (fstAt_le p k hk).2, (nx_iff _ _ _ _ _).2 ⟨k, hk, hl, Or.inr ⟨hs, by rw [hf]; exact hm.1, rfl⟩⟩, hm.2⟩
          · have he := star_at hk hs
            rw [he, Mt_star, List.tail_cons, Bool.or_eq_true] at hm
            rcases hm with hm | hm
            · exact ih (k + 1) (by omega) (by omega) (hc k hk hl hs) hm
            · exact ⟨k, h2, (nx_iff _ _ _ _ _).2 ⟨k, hk, hl, Or.inl ⟨hs, rfl⟩⟩, by rw [he]; exact hm⟩
        · rw [List.drop_eq_nil_of_le (by omega), els_nil] at hm
          simp [Mt] at hm
    exact key _ k (Nat.le_refl _) hk hl hm
theorem end_val (p : List Ch) (now : Nat → Bool) (hc : Closed p now) : now p.length = true ↔ Val p now [] := by
  constructor
  · intro h
    exact ⟨p.length, Nat.le_refl _, h, by rw [List.drop_length, els_nil, Mt]⟩
  · rintro ⟨k, hk, hl, hm⟩
    have key : ∀ n k, p.length - k ≤ n → k ≤ p.length → now k = true → Mt (els (p.drop k)) [] = true → now p.length = true := by
      intro n
      induction n with
      | zero =>
        intro k h1 h2 hl _
        obtain rfl : k = p.length := by omega
        exact hl
      | succ n ih =>
        intro k h1 h2 hl hm
        by_cases hk : k < p.length
        · cases hs : stA p k
          · obtain ⟨f, hf, he⟩ := test_at hk hs
            rw [he] at hm
            simp [Mt] at hm
          · rw [star_at hk hs, Mt_nil, List.all_cons, ← Mt_nil, Bool.and_eq_true] at hm
            exact ih (k + 1) (by omega) (by omega) (hc k hk hl hs) hm.2
        · obtain rfl : k = p.length := by omega
          exact hl
    exact key _ k (Nat.le_refl _) hk hl hm
/-- The places behind a text. -/
def nowF (p : List Ch) : List UInt8 → (Nat → Bool) → Nat → Bool
  | [], l => l
  | c :: s, l => nowF p s (rcF p (nxF p l c p.length) p.length)
theorem now_val (p : List Ch) : ∀ (s : List UInt8) (l : Nat → Bool), Closed p l → (nowF p s l p.length = true ↔ Val p l s)
  | [], l, h => end_val p l h
  | c :: s, l, h => by
    rw [nowF, now_val p s _ (rc_closed p _), rc_val p _ s _ (Nat.le_refl _), nx_val p l c s h]
def start0 : Nat → Bool := fun j => decide (j = 0)
theorem reach_law (p : List Ch) (s : List UInt8) : nowF p s (rcF p start0 p.length) p.length = Mt (els p) s := by
  rw [Bool.eq_iff_iff, now_val p s _ (rc_closed p _), rc_val p _ s _ (Nat.le_refl _)]
  constructor
  · rintro ⟨k, _, h1, h2⟩
    have : k = 0 := by simpa [start0] using h1
    subst this
    exact h2
  · intro h
    exact ⟨0, Nat.zero_le _, by simp [start0], h⟩
theorem nowF_step (p : List Ch) (s : List UInt8) (k : Nat) (l : Nat → Bool) (h : k < s.length) : nowF p (s.drop k) l = nowF p (s.drop (k + 1)) (rcF p (nxF p l s[k] p.length) p.length) := by
  rw [List.drop_eq_getElem_cons h, nowF]
end Go.Proofs.YtmjdlilmackneaaDoor

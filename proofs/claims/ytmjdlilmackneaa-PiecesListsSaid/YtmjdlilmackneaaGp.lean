/- The plain law of glob.match: elements against octets, and why going back to the last star alone finds every match. Plain Lean: no program. -/
import Derived.Test.YtmjdlilmackneaaProg
namespace Go.Proofs.Ytmjdlilmackneaa

inductive El where
  | star
  | test (f : UInt8 → Bool)

/-- Do elements match all of a text? -/
def Mt : List El → List UInt8 → Bool
  | [], [] => true
  | [], _ :: _ => false
  | .star :: es, [] => Mt es []
  | .star :: es, c :: s => Mt es (c :: s) || Mt (.star :: es) s
  | .test _ :: _, [] => false
  | .test f :: es, c :: s => f c && Mt es s

theorem Mt_star (es : List El) (s : List UInt8) : Mt (.star :: es) s = (Mt es s || Mt (.star :: es) s.tail) := by
  cases s with
  | nil => simp [Mt]
  | cons c s => simp [Mt]

theorem Mt_star_iff (es : List El) : ∀ s : List UInt8, Mt (.star :: es) s = true ↔ ∃ j, Mt es (s.drop j) = true
  | [] => by simp [Mt]
  | c :: s => by
    rw [Mt_star, Bool.or_eq_true, List.tail_cons, Mt_star_iff es s]
    constructor
    · rintro (h | ⟨j, h⟩)
      · exact ⟨0, h⟩
      · exact ⟨j + 1, h⟩
    · rintro ⟨j, h⟩
      cases j with
      | zero => exact Or.inl h
      | succ j => exact Or.inr ⟨j, h⟩

theorem Mt_absorb (es : List El) (s : List UInt8) (i j : Nat) (hij : i ≤ j) (h : Mt (.star :: es) (s.drop j) = true) : Mt (.star :: es) (s.drop i) = true := by
  obtain ⟨k, hk⟩ := (Mt_star_iff _ _).1 h
  refine (Mt_star_iff _ _).2 ⟨j - i + k, ?_⟩
  rw [List.drop_drop] at hk ⊢
  rw [show i + (j - i + k) = j + k by omega]
  exact hk

def allTests : List El → Bool
  | [] => true
  | .star :: _ => false
  | .test _ :: es => allTests es

theorem Mt_seg : ∀ (seg rest : List El) (t : List UInt8), allTests seg = true → Mt (seg ++ rest) t = true → Mt rest (t.drop seg.length) = true
  | [], rest, t, _, h => h
  | .star :: seg, rest, t, ha, h => by simp [allTests] at ha
  | .test f :: seg, rest, [], ha, h => by simp [Mt] at h
  | .test f :: seg, rest, c :: t, ha, h => by
    simp only [List.cons_append, Mt, Bool.and_eq_true] at h
    exact Mt_seg seg rest t ha h.2

/-- Where the search stands: the last star (none: below 0), where its octets end, the element, the octet. -/
structure Stands (es : List El) (s : List UInt8) (star mark at_ i : Nat) : Prop where
  is : es[star]? = some .star
  at_le : at_ ≤ es.length
  lt : star < at_
  seg : allTests ((es.drop (star + 1)).take (at_ - (star + 1))) = true
  len : mark + (at_ - (star + 1)) = i
  i_le : i ≤ s.length
  told : Mt es s = (Mt (es.drop at_) (s.drop i) || Mt (.star :: es.drop (star + 1)) (s.drop (mark + 1)))

theorem seg_split (es : List El) (a b : Nat) (h : a ≤ b) : es.drop a = (es.drop a).take (b - a) ++ es.drop b := by
  rw [show es.drop b = (es.drop a).drop (b - a) by rw [List.drop_drop, show a + (b - a) = b by omega], List.take_append_drop]

theorem back_gives (es : List El) (s : List UInt8) (star mark at_ i : Nat) (h : Stands es s star mark at_ i) (hb : Mt (.star :: es.drop (star + 1)) (s.drop (mark + 1)) = true) :
    ∃ j, i + 1 ≤ j ∧ Mt (es.drop at_) (s.drop j) = true := by
  obtain ⟨j, hj⟩ := (Mt_star_iff _ _).1 hb
  have hlt := h.lt
  have hle := h.at_le
  rw [seg_split es (star + 1) at_ (by omega)] at hj
  have := Mt_seg _ _ _ h.seg hj
  have hl : ((es.drop (star + 1)).take (at_ - (star + 1))).length = at_ - (star + 1) := by simp; omega
  rw [hl, List.drop_drop, List.drop_drop] at this
  exact ⟨_, by have := h.len; omega, this⟩

/-- A star at the search's place. -/
theorem stands_star (es : List El) (s : List UInt8) (at_ i : Nat) (hat : at_ < es.length) (he : es[at_] = .star) (hi : i ≤ s.length) (hR : Mt es s = Mt (es.drop at_) (s.drop i)) : Stands es s at_ i (at_ + 1) i := by
  refine ⟨by rw [List.getElem?_eq_getElem hat, he], by omega, by omega, by simp [allTests], by omega, hi, ?_⟩
  rw [hR, List.drop_eq_getElem_cons hat, he, Mt_star]
  rw [List.tail_drop]

theorem stands_star2 (es : List El) (s : List UInt8) (star mark at_ i : Nat) (h : Stands es s star mark at_ i) (hat : at_ < es.length) (he : es[at_] = .star) : Stands es s at_ i (at_ + 1) i := by
  refine stands_star es s at_ i hat he h.i_le ?_
  rw [h.told, Bool.eq_iff_iff, Bool.or_eq_true]
  constructor
  · rintro (h' | h')
    · exact h'
    · obtain ⟨j, hij, hj⟩ := back_gives es s star mark at_ i h h'
      rw [List.drop_eq_getElem_cons hat, he] at hj ⊢
      exact Mt_absorb _ _ _ _ (by omega) hj
  · exact Or.inl

theorem drop_test (es : List El) (s : List UInt8) (at_ i : Nat) (hat : at_ < es.length) (f : UInt8 → Bool) (he : es[at_] = .test f) (hi : i < s.length) : Mt (es.drop at_) (s.drop i) = (f s[i] && Mt (es.drop (at_ + 1)) (s.drop (i + 1))) := by
  rw [List.drop_eq_getElem_cons hat, he, List.drop_eq_getElem_cons hi, Mt]

theorem allTests_snoc : ∀ (l : List El) (f : UInt8 → Bool), allTests l = true → allTests (l ++ [.test f]) = true
  | [], f, _ => rfl
  | .star :: l, f, h => by simp [allTests] at h
  | .test g :: l, f, h => by
    simp only [List.cons_append, allTests] at h ⊢
    exact allTests_snoc l f h

theorem stands_test (es : List El) (s : List UInt8) (star mark at_ i : Nat) (h : Stands es s star mark at_ i) (hat : at_ < es.length) (f : UInt8 → Bool) (he : es[at_] = .test f) (hi : i < s.length) (hf : f s[i] = true) : Stands es s star mark (at_ + 1) (i + 1) := by
  have hlt := h.lt
  have hlen := h.len
  refine ⟨h.is, by omega, by omega, ?_, by omega, by omega, ?_⟩
  · rw [show at_ + 1 - (star + 1) = at_ - (star + 1) + 1 by omega, List.take_succ_eq_append_getElem (by simp; omega)]
    have e : (es.drop (star + 1))[at_ - (star + 1)]'(by simp; omega) = .test f := by
      rw [List.getElem_drop]
      rw [← he]
      congr 1
      omega
    rw [e]
    exact allTests_snoc _ _ h.seg
  · rw [h.told, drop_test es s at_ i hat f he hi, hf, Bool.true_and]

theorem stands_back (es : List El) (s : List UInt8) (star mark at_ i : Nat) (h : Stands es s star mark at_ i) (hi : i < s.length) (hno : Mt (es.drop at_) (s.drop i) = false) : Stands es s star (mark + 1) (star + 1) (mark + 1) := by
  have hlt := h.lt
  have hlen := h.len
  have hle := h.at_le
  refine ⟨h.is, by omega, by omega, by simp [allTests], by omega, by omega, ?_⟩
  rw [h.told, hno, Bool.false_or, Mt_star]
  rw [List.tail_drop]

theorem stands_end (es : List El) (s : List UInt8) (star mark at_ : Nat) (h : Stands es s star mark at_ s.length) : Mt es s = Mt (es.drop at_) [] := by
  rw [h.told, List.drop_length, Bool.eq_iff_iff, Bool.or_eq_true]
  constructor
  · rintro (h' | h')
    · exact h'
    · obtain ⟨j, hij, hj⟩ := back_gives es s star mark at_ _ h h'
      have e : s.drop j = [] := List.drop_eq_nil_of_le (by omega)
      rw [e] at hj
      exact hj
  · exact Or.inl

def isStar : El → Bool
  | .star => true
  | .test _ => false
theorem Mt_nil : ∀ es : List El, Mt es [] = es.all isStar
  | [] => by simp [Mt]
  | .star :: es => by simp [Mt, Mt_nil es, isStar]
  | .test f :: es => by simp [Mt, isStar]
theorem Mt_out (es : List El) (s : List UInt8) (i : Nat) (hi : i < s.length) : Mt (es.drop es.length) (s.drop i) = false := by
  rw [List.drop_length, List.drop_eq_getElem_cons hi, Mt]
end Go.Proofs.Ytmjdlilmackneaa

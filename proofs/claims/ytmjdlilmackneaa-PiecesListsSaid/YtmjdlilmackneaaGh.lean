/- pieces.match and Replace of all: what they tell; conditions: as each theorem states. -/
import Derived.Test.YtmjdlilmackneaaGd
import Derived.Test.YtmjdlilmackneaaGf
import Derived.Lib.AppendStr
import Derived.Laws.IdiomStrings
import Derived.Laws.BytesArg
namespace Go.Proofs.Ytmjdlilmackneaa
open Go.RowKit

theorem firstL_bd (n : Nat) (P : Nat → Bool) (l : Bool) : -1 ≤ firstL n P l ∧ firstL n P l ≤ n := by
  rcases firstL_cases n P l with ⟨h, _⟩ | ⟨k, h1, h2, _⟩ <;> omega
/-- How much elements match at a text's beginning, the most. -/
def mtl (es : List El) (s : List UInt8) : Nat := (preI es s true).toNat
theorem mtl_le (es : List El) (s : List UInt8) : mtl es s ≤ s.length := by
  have := firstL_bd s.length (fun k => Mt es (s.take k)) true
  unfold mtl preI
  omega
/-- What elements match, by another text. -/
def repl (es : List El) (b : List UInt8) : Nat → List UInt8 → List UInt8
  | 0, _ => []
  | _ + 1, [] => []
  | f + 1, c :: s => if mtl es (c :: s) = 0 then c :: repl es b f s else b ++ repl es b f ((c :: s).drop (mtl es (c :: s)))
theorem repl_more (es : List El) (b : List UInt8) : ∀ (f g : Nat) (s : List UInt8), s.length ≤ f → s.length ≤ g → repl es b f s = repl es b g s
  | 0, 0, s, _, _ => rfl
  | 0, g + 1, s, h, _ => by
    have : s = [] := List.length_eq_zero_iff.1 (by omega)
    subst this
    rfl
  | f + 1, 0, s, _, h => by
    have : s = [] := List.length_eq_zero_iff.1 (by omega)
    subst this
    rfl
  | f + 1, g + 1, [], _, _ => rfl
  | f + 1, g + 1, c :: s, h1, h2 => by
    simp only [List.length_cons] at h1 h2
    rw [repl, repl]
    split
    · rw [repl_more es b f g s (by omega) (by omega)]
    · rename_i h
      rw [repl_more es b f g _ (by rw [List.length_drop, List.length_cons]; omega) (by rw [List.length_drop, List.length_cons]; omega)]
def rep (es : List El) (b s : List UInt8) : List UInt8 := repl es b s.length s
theorem rep_nil (es : List El) (b : List UInt8) : rep es b [] = [] := rfl
theorem rep_lit {es : List El} {b s : List UInt8} {k : Nat} (h : k < s.length) (hm : mtl es (s.drop k) = 0) : rep es b (s.drop k) = s[k] :: rep es b (s.drop (k + 1)) := by
  have hd := List.drop_eq_getElem_cons h
  unfold rep
  rw [hd] at hm ⊢
  rw [List.length_cons, repl, if_pos hm]
theorem rep_hit {es : List El} {b s : List UInt8} {k : Nat} (h : k < s.length) (hm : mtl es (s.drop k) ≠ 0) : rep es b (s.drop k) = b ++ rep es b (s.drop (k + mtl es (s.drop k))) := by
  have hd := List.drop_eq_getElem_cons h
  have hl := mtl_le es (s.drop k)
  rw [← List.drop_drop]
  unfold rep
  generalize s.drop k = u at *
  subst hd
  rw [List.length_cons, repl, if_neg hm]
  rw [repl_more es b (s.drop (k + 1)).length _ _ (by rw [List.length_drop, List.length_cons]; omega) (Nat.le_refl _)]
theorem repl_length (es : List El) (b : List UInt8) : ∀ (f : Nat) (s : List UInt8), (repl es b f s).length ≤ s.length * (b.length + 1)
  | 0, s => by simp [repl]
  | f + 1, [] => by simp [repl]
  | f + 1, c :: s => by
    rw [repl]
    split
    · have := repl_length es b f s
      rw [List.length_cons, List.length_cons, Nat.add_mul]
      omega
    · rename_i h
      have h1 := repl_length es b f ((c :: s).drop (mtl es (c :: s)))
      rw [List.length_append]
      have h2 : ((c :: s).drop (mtl es (c :: s))).length + 1 ≤ (c :: s).length := by
        rw [List.length_drop, List.length_cons]
        omega
      have h3 := Nat.mul_le_mul_right (b.length + 1) h2
      rw [Nat.add_mul] at h3
      omega
theorem rep_length (es : List El) (b s : List UInt8) : (rep es b s).length ≤ s.length * (b.length + 1) := repl_length es b _ s

/-! A quoted pattern. -/
theorem mtl_quoted (t s : List UInt8) : mtl (t.map fun c => El.test (c == ·)) s = if t.isPrefixOf s then t.length else 0 := by
  have hP : (fun k => Mt (t.map fun c => El.test (c == ·)) (s.take k)) = fun k => t == s.take k := by
    funext k
    rw [Mt_quoted]
  unfold mtl preI
  rw [hP]
  rcases firstL_cases s.length (fun k => t == s.take k) true with ⟨h1, h2⟩ | ⟨k, h1, h2, h3, h4⟩
  · rw [h1]
    rw [if_neg]
    · rfl
    · intro hp
      rw [List.isPrefixOf_iff_prefix] at hp
      obtain ⟨u, rfl⟩ := hp
      have := h2 t.length (by simp)
      simp at this
  · have ht : t = s.take k := by simpa using h3
    have hl : t.length = k := by rw [ht, List.length_take]; omega
    rw [h2, if_pos]
    · omega
    · rw [List.isPrefixOf_iff_prefix, ht]
      exact List.take_prefix _ _
theorem rep_same (t : List UInt8) : ∀ (f : Nat) (s : List UInt8), s.length ≤ f → repl (t.map fun c => El.test (c == ·)) t f s = s
  | 0, s, h => by
    have : s = [] := List.length_eq_zero_iff.1 (by omega)
    subst this
    rfl
  | f + 1, [], _ => rfl
  | f + 1, c :: s, h => by
    simp only [List.length_cons] at h
    rw [repl, mtl_quoted]
    by_cases hp : t.isPrefixOf (c :: s) = true
    · rw [if_pos hp]
      by_cases h0 : t.length = 0
      · rw [if_pos h0, rep_same t f s (by omega)]
      · rw [if_neg h0]
        rw [List.isPrefixOf_iff_prefix] at hp
        obtain ⟨u, hu⟩ := hp
        rw [← hu, List.drop_left]
        rw [rep_same t f u (by have := congrArg List.length hu; simp at this; omega)]
    · rw [if_neg hp, if_pos rfl, rep_same t f s (by omega)]
theorem rep_gone (t : List UInt8) : ∀ (f : Nat) (s : List UInt8), s.length ≤ f → ∃ q, s.length = (repl (t.map fun c => El.test (c == ·)) [] f s).length + q * t.length
  | 0, s, h => ⟨0, by simp [repl]; exact List.length_eq_zero_iff.1 (by omega)⟩
  | f + 1, [], _ => ⟨0, by simp [repl]⟩
  | f + 1, c :: s, h => by
    simp only [List.length_cons] at h
    rw [repl, mtl_quoted]
    by_cases hp : t.isPrefixOf (c :: s) = true
    · rw [if_pos hp]
      by_cases h0 : t.length = 0
      · rw [if_pos h0]
        obtain ⟨q, hq⟩ := rep_gone t f s (by omega)
        exact ⟨q, by rw [List.length_cons, List.length_cons]; omega⟩
      · rw [if_neg h0]
        rw [List.isPrefixOf_iff_prefix] at hp
        obtain ⟨u, hu⟩ := hp
        rw [← hu, List.drop_left]
        obtain ⟨q, hq⟩ := rep_gone t f u (by have := congrArg List.length hu; simp at this; omega)
        refine ⟨q + 1, ?_⟩
        rw [List.nil_append, List.length_append, hq, Nat.add_mul]
        omega
    · rw [if_neg hp, if_pos rfl]
      obtain ⟨q, hq⟩ := rep_gone t f s (by omega)
      exact ⟨q, by rw [List.length_cons, List.length_cons]; omega⟩
theorem alive_rep : rep (els [(97, true)]) [120] [97, 98, 97] = [120, 98, 120] := by
  have he : els [(97, true)] = [El.test ((97 : UInt8) == ·)] := els_quoted [97]
  have hm : ∀ s, mtl [El.test ((97 : UInt8) == ·)] s = if [97].isPrefixOf s then 1 else 0 := mtl_quoted [97]
  rw [he]
  simp [rep, repl, hm, List.isPrefixOf]

/-! PROGRAM -/
set_option maxRecDepth 100000 in
set_option maxHeartbeats 1000000 in
theorem pmatch_any (p : List Ch) (v : Value) (s : ByteArray) (w : World) (hp : PatOf p v w) (hm : p.length ≤ 4194304) (hs : s.size ≤ 4611686018427387000) :
    Calls Try.prog 32 #[v, .string s] w fun e w' => e = .returned (.int .i64 (mtl (els p) s.data.toList : Nat)) ∧ Below w.heap.size w w' := by
  obtain ⟨a, ha⟩ : ∃ a, a = preI (els p) s.data.toList true := ⟨_, rfl⟩
  have hbd := firstL_bd s.data.toList.length (fun k => Mt (els p) (s.data.toList.take k)) true
  have hbd2 : -1 ≤ a ∧ a ≤ s.size := by rw [ha]; exact hbd
  have hmt : mtl (els p) s.data.toList = a.toNat := by rw [ha]; rfl
  have HP : Hid (∀ V, PatOf p v V → Calls Try.prog 18 #[v, .string s, .bool true] V fun e w' => e = .returned (.int .i64 a) ∧ Below V.heap.size V w') := fun V hV => by
    rw [ha]
    exact prefix_any p v s true V hV hm hs
  rw [hmt]
  have HPT := Lib.hid hp
  clear ha hbd hmt hp
  obtain ⟨b1, b2⟩ := hbd2
  by_cases h0 : a < 0
  · obtain rfl : a = -1 := by omega
    clear b1 b2 h0
    go_enter Try.func32, Try.ntmps32
    go_wp2_with fail
    refine (HP.out _ HPT.out).mono ?_
    rintro e w1 ⟨rfl, hb⟩
    have HB := Lib.hid hb
    clear hb
    go_wp2_with fail
    go_ret
    exact ⟨rfl, HB.out⟩
  · obtain ⟨k, rfl⟩ : ∃ k : Nat, a = k := ⟨a.toNat, by omega⟩
    have hk0 : (0 : Int) ≤ (k : Int) := by omega
    have hk1 : ¬ (k : Int) < 0 := by omega
    go_enter Try.func32, Try.ntmps32
    go_wp2_with fail
    refine (HP.out _ HPT.out).mono ?_
    rintro e w1 ⟨rfl, hb⟩
    have HB := Lib.hid hb
    clear hb
    go_wp2_with fail
    go_ret
    refine ⟨ret_i ?_, HB.out⟩
    go_light
    first | rfl | simp | (simp; omega) | omega
end Go.Proofs.Ytmjdlilmackneaa

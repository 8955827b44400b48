/- ansi.Decode at every text: it tells what the plain law dec tells; conditions: as each theorem states. -/
import Derived.Test.YtadjeaefnfkogaaCa
import Derived.Lib.BufferRead
namespace Go.Proofs.Ytadjeaefnfkogaa
open Go.RowKit
open Go.Lib (indexByte indexByte_ge)

theorem info5 : (Try.prog.info? 5).map (fun i => (i.zero, i.size, i.bytes)) = some (some (.int .u8 0), 1, 1) := by kernel_rfl

/-! ### escape, whole -/
theorem digs8_bound (l : List UInt8) : (digs 8 3 l 0 0).1 ≤ 4096 ∧ (digs 8 3 l 0 0).2 ≤ 3 := by
  refine ⟨?_, by have := digs_k 8 3 l 0 0; omega⟩
  have key : ∀ (m : Nat) (l : List UInt8) (n : Int) (k : Nat), 0 ≤ n → n < 8 ^ k → (digs 8 m l n k).1 < 8 ^ (digs 8 m l n k).2 := by
    intro m
    induction m with
    | zero => intro l n k _ h; exact h
    | succ m ih =>
      intro l n k h0 h
      cases l with
      | nil => exact h
      | cons c t =>
        simp only [digs]
        split
        · exact h
        · have hd := dv_lt 8 c
          exact ih t _ _ (by omega) (pow_step 8 k n _ h (by omega) (by omega))
  have h := key 3 l 0 0 (Int.le_refl 0) (by decide)
  have hk := digs_k 8 3 l 0 0
  have := pow8 (digs 8 3 l 0 0).2 (by omega) _ h
  omega
theorem digs16_bound (l : List UInt8) : (digs 16 2 l 0 0).1 ≤ 4096 ∧ (digs 16 2 l 0 0).2 ≤ 3 := by
  refine ⟨?_, by have := digs_k 16 2 l 0 0; omega⟩
  have key : ∀ (m : Nat) (l : List UInt8) (n : Int) (k : Nat), 0 ≤ n → n < 16 ^ k → (digs 16 m l n k).1 < 16 ^ (digs 16 m l n k).2 := by
    intro m
    induction m with
    | zero => intro l n k _ h; exact h
    | succ m ih =>
      intro l n k h0 h
      cases l with
      | nil => exact h
      | cons c t =>
        simp only [digs]
        split
        · exact h
        · have hd := dv_lt 16 c
          exact ih t _ _ (by omega) (pow_step 16 k n _ h (by omega) (by omega))
  have h := key 2 l 0 0 (Int.le_refl 0) (by decide)
  have hk := digs_k 16 2 l 0 0
  have := pow16 (digs 16 2 l 0 0).2 (by omega) _ h
  omega

theorem escN_o (c : UInt8) (t : List UInt8) (hc : c ≠ 120) : escN (c :: t) = ((digs 8 3 (c :: t) 0 0).1, (digs 8 3 (c :: t) 0 0).2, 1 + (digs 8 3 (c :: t) 0 0).2) := by
  unfold escN; split
  · rename_i heq; simp only [List.cons.injEq] at heq; exact absurd heq.1 hc
  · rfl
theorem escN_x (t : List UInt8) : escN (120 :: t) = ((digs 16 2 t 0 0).1, (digs 16 2 t 0 0).2, 2 + (digs 16 2 t 0 0).2) := rfl

theorem u8_of (a : Int) (h0 : 0 < a) (h1 : a ≤ 255) : ((a.toNat.toUInt8).toNat : Int) = a := by
  have : a.toNat < 256 := by omega
  simp [Nat.mod_eq_of_lt this]; omega

theorem escape_some (s : ByteArray) (p : Nat) (w : World) (hs : s.size ≤ 9223372036854775807) (b : UInt8) (n : Nat) (h : esc (s.data.toList.drop (p + 1)) = some (b, n)) :
    Calls Try.prog 14 #[.string s, .int .i64 p] w fun e w' => e = .returned (.tuple #[.int .u8 b.toNat, .int .i64 n]) ∧ w' = w := by
  cases hl : s.data.toList.drop (p + 1) with
  | nil => rw [hl] at h; simp [esc, escI, escN, digs] at h
  | cons c t =>
    rw [hl] at h
    unfold esc at h
    by_cases h0 : 0 ≤ indexByte nams c
    · rw [if_pos (by simpa only [escI] using h0)] at h
      have hlt := indexByte_lt nams c
      have hl11 : nams.length = 11 := rfl
      injection h with h; injection h with hb hn
      subst hb; subst hn
      exact esc_named s p w hs c t hl (indexByte nams c).toNat (by omega) (by show _ = _; omega)
    · rw [if_neg (by simpa only [escI] using h0)] at h
      split at h
      · cases h
      · rename_i h1
        injection h with h; injection h with hb hn
        subst hb; subst hn
        have hn0 : 0 ≤ (escN (c :: t)).1 := by
          by_cases hx : c = 120
          · subst hx; rw [escN_x]; exact digs_n _ _ _ _ _ (Int.le_refl 0)
          · rw [escN_o c t hx]; exact digs_n _ _ _ _ _ (Int.le_refl 0)
        rw [u8_of _ (by omega) (by omega)]
        by_cases hx : c = 120
        · subst hx
          rw [escN_x] at h1 hn0 ⊢
          simp only at h1 hn0 ⊢
          have hb := digs16_bound t
          have := esc_hex_ok s p w hs 120 t hl rfl _ (by omega) rfl _ _ hb.2 hb.1 rfl (by omega) (by omega) (by omega)
          simpa using this
        · rw [escN_o c t hx] at h1 hn0 ⊢
          simp only at h1 hn0 ⊢
          have hb := digs8_bound (c :: t)
          have := esc_oct_ok s p w hs c t hl hx _ (by omega) rfl _ _ hb.2 hb.1 rfl (by omega) (by omega) (by omega)
          simpa using this

theorem escape_none (s : ByteArray) (p : Nat) (w : World) (hs : s.size ≤ 9223372036854775807) (hp : p < s.size) (h : esc (s.data.toList.drop (p + 1)) = none) :
    Calls Try.prog 14 #[.string s, .int .i64 p] w fun e w' => e = .panicked [thrown p 33] ∧ w' = w := by
  cases hl : s.data.toList.drop (p + 1) with
  | nil =>
    have := congrArg List.length hl
    simp at this
    exact esc_empty s p w hs (by omega)
  | cons c t =>
    rw [hl] at h
    unfold esc at h
    by_cases h0 : 0 ≤ indexByte nams c
    · rw [if_pos (by simpa only [escI] using h0)] at h; cases h
    · rw [if_neg (by simpa only [escI] using h0)] at h
      split at h
      · rename_i h1
        by_cases hx : c = 120
        · subst hx
          rw [escN_x] at h1
          simp only at h1
          have hb := digs16_bound t
          by_cases h2 : (digs 16 2 t 0 0).2 = 0
          · exact esc_hex_k0 s p w hs 120 t hl rfl _ (by omega) rfl _ _ hb.2 hb.1 rfl h2
          · by_cases h3 : (digs 16 2 t 0 0).1 = 0
            · exact esc_hex_n0 s p w hs 120 t hl rfl _ (by omega) rfl _ _ hb.2 hb.1 rfl (by omega) h3
            · exact esc_hex_big s p w hs 120 t hl rfl _ (by omega) rfl _ _ hb.2 hb.1 rfl (by omega) (by omega)
        · rw [escN_o c t hx] at h1
          simp only at h1
          have hb := digs8_bound (c :: t)
          by_cases h2 : (digs 8 3 (c :: t) 0 0).2 = 0
          · exact esc_oct_k0 s p w hs c t hl hx _ (by omega) rfl _ _ hb.2 hb.1 rfl h2
          · by_cases h3 : (digs 8 3 (c :: t) 0 0).1 = 0
            · exact esc_oct_n0 s p w hs c t hl hx _ (by omega) rfl _ _ hb.2 hb.1 rfl (by omega) h3
            · exact esc_oct_big s p w hs c t hl hx _ (by omega) rfl _ _ hb.2 hb.1 rfl (by omega) (by omega)
      · cases h

theorem u8_ne (c d : UInt8) (h : c ≠ d) : ((c.toNat : Int) == (d.toNat : Int)) = false := by
  rw [beq_eq_false_iff_ne]
  exact fun e => h (UInt8.toNat_inj.1 (by omega))

theorem conv_own {w : World} {B : Nat} {v : Value} {pre : List UInt8} (h : w.ownsRow B 5 1 v pre.length (Lib.byteCells pre)) : (convert 37 9 v).run Try.prog w = .ok (.string ⟨pre.toArray⟩) w := by
  rcases h.2 with ⟨rfl, h0⟩ | ⟨g, cap, cur, rfl, hb, hg, hn, hm, hsz, htk⟩
  · have : pre = [] := List.eq_nil_of_length_eq_zero h0
    subst this
    exact Lib.run_convert_nil_bytes w 37 9 5 0 Try.underlying37 Try.underlying5 Try.underlying9
  · refine run_convert_bytes_back w 37 9 5 ⟨g, 0, none⟩ cap pre Try.underlying37 Try.underlying5 Try.underlying9 fun j hj => ?_
    exact h.cells (g := g) rfl j _ (by simp [Lib.byteCells, hj])

/-! ### Decode -/
/-- What Decode tells. -/
def told (l : List UInt8) : List UInt8 × Int × Int := match dec l with | .ok u => (u, l.length, 0) | .error (j, e) => ([], j, e)
theorem told_error {l : List UInt8} {i : Nat} {pre rest : List UInt8} {j : Nat} {e : Int} (h : dec l = ahead i pre (dec rest)) (hr : dec rest = .error (j, e)) : told l = ([], ((i + j : Nat) : Int), e) := by
  unfold told; rw [h, hr]; rfl
theorem told_ok {l : List UInt8} {i : Nat} {pre : List UInt8} (h : dec l = ahead i pre (dec [])) : told l = (pre, (l.length : Int), (0 : Int)) := by
  unfold told; rw [h, dec_nil]; simp [ahead]

end Go.Proofs.Ytadjeaefnfkogaa

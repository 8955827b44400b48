/- cowrieref03.is, negated, end: what they tell; conditions: as each theorem states. -/
import Derived.Test.YtmjdlilmackneaaDoorKj
import Derived.Test.YtmjdlilmackneaaDoorGc
namespace Go.Proofs.YtmjdlilmackneaaDoor
open Go.RowKit

/-- An unquoted octet at a place. -/
def isAt (p : List Ch) (k : Nat) (c : UInt8) : Bool := match p[k]? with
  | some x => opn x c
  | none => false
theorem isAt_in (p : List Ch) (k : Nat) (c : UInt8) (h : k < p.length) : isAt p k c = opn p[k] c := by
  unfold isAt
  rw [List.getElem?_eq_getElem h]
theorem isAt_out (p : List Ch) (k : Nat) (c : UInt8) (h : p.length ≤ k) : isAt p k c = false := by
  unfold isAt
  rw [List.getElem?_eq_none h]
theorem stA_is (p : List Ch) (k : Nat) (h : k < p.length) : stA p k = isAt p k 42 := by
  rw [isAt_in p k 42 h]
  unfold stA
  rw [fstAt_is p k h]
  unfold fstD
  split
  · rename_i h1; rw [h1]; rfl
  · rename_i h1
    have h1' : opn p[k] 42 = false := by simpa using h1
    rw [h1']
    split
    · rfl
    · split
      · split <;> rfl
      · rfl
/-- Is the set that begins at a place the opposite one? -/
def ngd (p : List Ch) (k : Nat) : Bool := isAt p (k + 1) 33 || isAt p (k + 1) 94
theorem ngd_at (p : List Ch) (k : Nat) (h : k < p.length) : negd (p.drop k) = ngd p k := by
  rw [List.drop_eq_getElem_cons h]
  by_cases h1 : k + 1 < p.length
  · rw [List.drop_eq_getElem_cons h1]
    unfold ngd
    rw [isAt_in _ _ _ h1, isAt_in _ _ _ h1]
    rfl
  · rw [List.drop_eq_nil_of_le (by omega)]
    unfold ngd
    rw [isAt_out _ _ _ (by omega), isAt_out _ _ _ (by omega)]
    rfl
def fro (p : List Ch) (k : Nat) : Nat := if ngd p k then 2 else 1
theorem frm_at (p : List Ch) (k : Nat) (h : k < p.length) : frm (p.drop k) = fro p k := by
  unfold frm fro
  rw [ngd_at p k h]
/-- Where the set that begins at a place ends; none: -1. -/
def endI (p : List Ch) (k : Nat) : Int := match ends (p.drop (k + fro p k + 1)) with
  | some n => ((k + fro p k + 1 + n : Nat) : Int)
  | none => -1
theorem endI_hit (p : List Ch) (k j : Nat) (hj : j < p.length) (hk : k + fro p k + 1 ≤ j) (h : isAt p j 93 = true) (hb : ∀ i, k + fro p k + 1 ≤ i → i < j → isAt p i 93 = false) : endI p k = j := by
  have he : ends (p.drop (k + fro p k + 1)) = some (j - (k + fro p k + 1)) := by
    unfold ends
    rw [List.findIdx?_eq_some_iff_getElem]
    refine ⟨by rw [List.length_drop]; omega, ?_, ?_⟩
    · rw [List.getElem_drop]
      rw [isAt_in p j 93 hj] at h
      simpa [show k + fro p k + 1 + (j - (k + fro p k + 1)) = j by omega] using h
    · intro i hi
      rw [List.getElem_drop]
      have := hb (k + fro p k + 1 + i) (by omega) (by omega)
      rw [isAt_in p _ 93 (by omega)] at this
      simp [this]
  unfold endI
  rw [he]
  show ((k + fro p k + 1 + (j - (k + fro p k + 1)) : Nat) : Int) = j
  omega
theorem endI_miss (p : List Ch) (k : Nat) (hb : ∀ i, k + fro p k + 1 ≤ i → i < p.length → isAt p i 93 = false) : endI p k = -1 := by
  have he : ends (p.drop (k + fro p k + 1)) = none := by
    unfold ends
    rw [List.findIdx?_eq_none_iff]
    intro x hx
    obtain ⟨i, hi, rfl⟩ := List.mem_iff_getElem.1 hx
    rw [List.length_drop] at hi
    have := hb (k + fro p k + 1 + i) (by omega) (by omega)
    rw [isAt_in p _ 93 (by omega)] at this
    rw [List.getElem_drop]
    exact this
  unfold endI
  rw [he]
theorem endI_bd (p : List Ch) (k : Nat) : -1 ≤ endI p k ∧ endI p k < p.length ∧ (0 ≤ endI p k → ((k + fro p k + 1 : Nat) : Int) ≤ endI p k) := by
  unfold endI
  split
  · rename_i n h
    have := ends_lt h
    rw [List.length_drop] at this
    omega
  · omega

/-! PROGRAM -/
set_option maxRecDepth 100000 in
set_option maxHeartbeats 2000000 in
theorem is_any (p : List Ch) (v : Value) (k : Nat) (c : UInt8) (w : World) (hp : PatOf p v w) (hm : p.length ≤ 4194304) (hk : k ≤ 4611686018427387904) :
    Calls Tryd.prog 33 #[v, .int .i64 (k : Int), .int .u8 c.toNat] w fun e w' => e = .returned (.bool (isAt p k c)) ∧ Below w.heap.size w w' := by
  obtain ⟨ao, b, o, cap, rfl, hcap, ha, hg, hl⟩ := hp
  obtain ⟨m, hmm⟩ : ∃ m, m = p.length := ⟨_, rfl⟩
  have k0 : (0 : Int) ≤ (k : Int) := Int.natCast_nonneg _
  by_cases hlt : k < m
  · have hkl : k < p.length := by omega
    obtain rfl := ha (by omega)
    obtain ⟨c0, c1⟩ := hl k hkl
    rw [isAt_in p k c hkl]
    obtain ⟨e, he⟩ : ∃ e, e = p[k] := ⟨_, rfl⟩
    rw [← he] at c0 c1 ⊢
    rw [← hmm]
    have k1 : (k : Int) < (m : Int) := by omega
    have hm' : m ≤ 4194304 := by omega
    clear he hl ha hcap hkl hmm hm
    obtain ⟨x, q⟩ := e
    have hx : ((x.toNat : Int) == (c.toNat : Int)) = (x == c) := by
      rw [Bool.eq_iff_iff, beq_iff_eq, beq_iff_eq]
      exact ⟨fun e => UInt8.toNat_inj.1 (Int.ofNat.inj e), fun e => by rw [e]⟩
    obtain ⟨r, hr⟩ : ∃ r, r = (x == c) := ⟨_, rfl⟩
    have ho : opn (x, q) c = (!q && r) := by rw [hr]; rfl
    rw [ho]
    rw [← hr] at hx
    clear ho hr
    cases q
    all_goals
      go_enter Tryd.func33, Tryd.ntmps33
      go_wp2_with fail
      go_ret
      exact ⟨by first | (simp; done) | simp [hx], Below.refl _ _⟩
  · rw [isAt_out p k c (by omega), ← hmm]
    have k1 : (m : Int) ≤ (k : Int) := by omega
    clear hl ha hcap hmm hm
    go_enter Tryd.func33, Tryd.ntmps33
    go_wp2_with fail
    go_ret
    exact ⟨rfl, Below.refl _ _⟩

set_option maxRecDepth 100000 in
set_option maxHeartbeats 2000000 in
theorem neg_any (p : List Ch) (v : Value) (k : Nat) (w : World) (hp : PatOf p v w) (hm : p.length ≤ 4194304) (hk : k ≤ 4194304) :
    Calls Tryd.prog 45 #[v, .int .i64 (k : Int)] w fun e w' => e = .returned (.bool (ngd p k)) ∧ Below w.heap.size w w' := by
  obtain ⟨r1, hr1⟩ : ∃ r, r = isAt p (k + 1) 33 := ⟨_, rfl⟩
  obtain ⟨r2, hr2⟩ : ∃ r, r = isAt p (k + 1) 94 := ⟨_, rfl⟩
  have H1 : Hid (∀ V, PatOf p v V → Calls Tryd.prog 33 #[v, .int .i64 ((k : Int) + 1), .int .u8 33] V fun e w' => e = .returned (.bool r1) ∧ Below V.heap.size V w') := fun V hV => hr1 ▸ is_any p v (k + 1) 33 V hV hm (by omega)
  have H2 : Hid (∀ V, PatOf p v V → Calls Tryd.prog 33 #[v, .int .i64 ((k : Int) + 1), .int .u8 94] V fun e w' => e = .returned (.bool r2) ∧ Below V.heap.size V w') := fun V hV => hr2 ▸ is_any p v (k + 1) 94 V hV hm (by omega)
  rw [show ngd p k = (r1 || r2) by rw [hr1, hr2]; rfl]
  have HP := Lib.hid hp
  have k0 : (k : Int) ≤ 4194304 := by omega
  clear hr1 hr2 hp hm
  cases r1
  · go_enter Tryd.func45, Tryd.ntmps45
    go_wp2_with fail
    refine (H1.out _ HP.out).mono ?_
    rintro e w1 ⟨rfl, hb1⟩
    have HP1 := Lib.hid (HP.out.below hb1)
    have HB1 := Lib.hid hb1
    clear hb1
    go_wp2_with fail
    refine (H2.out _ HP1.out).mono ?_
    rintro e w2 ⟨rfl, hb2⟩
    have HB2 := Lib.hid (HB1.out.trans (hb2.mono HB1.out.size))
    clear hb2
    go_wp2_with fail
    go_ret
    exact ⟨by simp, HB2.out⟩
  · go_enter Tryd.func45, Tryd.ntmps45
    go_wp2_with fail
    refine (H1.out _ HP.out).mono ?_
    rintro e w1 ⟨rfl, hb1⟩
    have HB1 := Lib.hid hb1
    clear hb1
    go_wp2_with fail
    go_ret
    exact ⟨by simp, HB1.out⟩
end Go.Proofs.YtmjdlilmackneaaDoor

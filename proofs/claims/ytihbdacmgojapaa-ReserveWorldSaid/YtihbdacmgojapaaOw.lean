/- A world's argument, out of its reading; conditions: as each theorem states. -/
import Derived.Test.YtihbdacmgojapaaRw
import Derived.ProofKit
import Derived.OpenShut
import Derived.Lib.SmallJoins
import Derived.Deep.Slices
import Derived.Deep.Fields
namespace Go.Proofs.Ytihbdacmgojapaa
open Go.Joins Go.ChangeShapes Go.WideShapes Go.ChangeAt Go.RowKit Go.Deep
section
variable {H : Type} {enc : TypeId × Value → H} {P : Program} {w : World} {base : Nat} {spare : Nat → Bool} {held : Bool}
/-- A slice of structs whose first field is a string: where each element's cells lie. -/
theorem names_open {t e : TypeId} {fs : Array Field} {f0 : Field} {fuel K : Nat} {cs : List Value} {x : DataW H × List MemPlace} (ht : P.underlying t = some (.slice e)) (he : P.underlying e = some (.struct fs)) (hK : 0 < K) (hC : P.cellsOf e = K)
    (hf0 : fs[0]? = some f0) (ho : f0.offset = 0) (hc1 : P.cellsOf f0.type = 1) (hs : P.underlying f0.type = some .string) (h : DataW.trod enc P w base spare held fuel t cs = some x) :
    ∃ (ao : Option Addr) (b o n cap : Nat), cs = [.slice ao n cap] ∧ n ≤ maxLen ∧ (0 < n → ao = some ⟨b, o, none⟩) ∧ (0 < n → b < w.heap.size) ∧
      ∀ j, j < n → (∃ s, w.cell? ⟨b, o + j * K, none⟩ = some (.string s)) ∧ ∀ i, i < K → ∃ v, w.cell? ⟨b, o + j * K + i, none⟩ = some v := by
  rcases open_slice ht h with ⟨hcs, _⟩ | ⟨a, len, cap, m, n, D, Pl, hcs, hb, hl, hm, hmm, hx, hi⟩
  · exact ⟨none, 0, 0, 0, 0, hcs, Nat.zero_le _, fun h => by omega, fun h => by omega, fun j hj => by omega⟩
  · have hlm : len ≤ m := by rw [hmm]; split <;> omega
    obtain ⟨b, o, sp⟩ := a
    have hall : ∀ j, j < len → ∃ cs' : List Value, cs'.length = K ∧ (∀ i, i < K → w.cell? (((⟨b, o, sp⟩ : Addr).add (j * K)).add i) = cs'[i]?) ∧ ∃ s, cs'[0]? = some (.string s) := fun j hj => by
      obtain ⟨cs', hc, htr⟩ := hi j (by omega)
      rw [hC] at hc
      obtain ⟨_, hcl, hat⟩ := World.cells?_some hc
      obtain ⟨xs, n', hn', hy, hlen, hxl, hf⟩ := DataW.trod_struct he htr
      refine ⟨cs', hcl, hat, ?_⟩
      have h0 := hf 0 f0 hf0
      rw [ho, hc1, List.drop_zero] at h0
      have hx0 : 0 < xs.length := by
        rw [hxl]
        exact (Array.getElem?_eq_some_iff.1 hf0).1
      rw [List.getElem?_eq_getElem hx0] at h0
      obtain ⟨s, hs1, _⟩ := DataW.trod_string hs h0
      match cs', hcl with
      | c :: r, _ =>
        simp at hs1
        exact ⟨s, by rw [hs1]; rfl⟩
      | [], hcl => simp at hcl; omega
    by_cases h0 : 0 < len
    · obtain ⟨cs', hcl, hat, s, hs0⟩ := hall 0 h0
      have hsp : sp = none := by
        have h1 := hat 0 hK
        rw [hs0] at h1
        have := World.cell?_spot h1
        simpa [Addr.add] using this
      subst hsp
      refine ⟨some ⟨b, o, none⟩, b, o, len, cap, hcs, by omega, fun _ => rfl, fun _ => ?_, fun j hj => ?_⟩
      · have h1 := hat 0 hK
        rw [hs0, Addr.add_lit, Addr.add_lit] at h1
        exact World.block_lt_of_cell? w _ h1
      · obtain ⟨cs2, hcl2, hat2, s2, hs2⟩ := hall j hj
        refine ⟨⟨s2, ?_⟩, fun i hi => ?_⟩
        · have h1 := hat2 0 hK
          rw [hs2, Addr.add_lit, Addr.add_lit] at h1
          exact h1
        · have h1 := hat2 i hi
          rw [Addr.add_lit, Addr.add_lit] at h1
          exact ⟨_, h1.trans (List.getElem?_eq_getElem (by omega))⟩
    · exact ⟨_, 0, 0, len, cap, hcs, by omega, fun h => by omega, fun h => by omega, fun j hj => by omega⟩
end
set_option maxRecDepth 100000 in
theorem world_open {H : Type} {enc : TypeId × Value → H} {W : World} {v : Value} {d : DataW H} {ps : List MemPlace} {r : Reach} {b0 : Nat} (hv : Value.okWide Try.prog W r b0 31 v) (h : DataW.Trod enc Try.prog W 0 (fun _ => true) true 31 v d ps) :
    ∃ (nv nt : Nat) (f g : Nat → ByteArray), WorldOf nv nt f g v W ∧ nv ≤ 9223372036854775807 ∧ nt ≤ 9223372036854775807 := by
  obtain ⟨v0, v1, v2, v3, y0, y1, y2, y3, n, rfl, _, _, t0, _, _, t3⟩ := open_agg4 Try.underlying31 (by kernel_rfl) (by kernel_rfl) hv h
  obtain ⟨a0, bt, ot, nt, ct, e0, m0, p0, q0, c0⟩ := names_open (K := 3) Try.underlying27 Try.underlying36 (by decide) (by kernel_rfl) rfl rfl (by kernel_rfl) Try.underlying9 t0
  obtain ⟨a3, bv, ov, nv, cv, e3, m3, p3, q3, c3⟩ := names_open (K := 4) Try.underlying29 Try.underlying34 (by decide) (by kernel_rfl) rfl rfl (by kernel_rfl) Try.underlying9 t3
  obtain rfl : v0 = .slice a0 nt ct := by simpa using e0
  obtain rfl : v3 = .slice a3 nv cv := by simpa using e3
  let f : Nat → ByteArray := fun j => if h : j < nv then (c3 j h).1.choose else ByteArray.empty
  let g : Nat → ByteArray := fun j => if h : j < nt then (c0 j h).1.choose else ByteArray.empty
  refine ⟨nv, nt, f, g, ⟨a0, a3, bt, ot, ct, bv, ov, cv, v1, v2, rfl, p0, q0, fun j hj => ?_, p3, q3, fun j hj => ?_⟩, ?_, ?_⟩
  · have h1 := (c0 j hj).1.choose_spec
    obtain ⟨x1, h2⟩ := (c0 j hj).2 1 (by decide)
    obtain ⟨x2, h3⟩ := (c0 j hj).2 2 (by decide)
    refine ⟨x1, x2, ?_, h2, h3⟩
    simp only [g, dif_pos hj]
    exact h1
  · have h1 := (c3 j hj).1.choose_spec
    obtain ⟨x1, h2⟩ := (c3 j hj).2 1 (by decide)
    obtain ⟨x2, h3⟩ := (c3 j hj).2 2 (by decide)
    obtain ⟨x3, h4⟩ := (c3 j hj).2 3 (by decide)
    refine ⟨x1, x2, x3, ?_, h2, h3, h4⟩
    simp only [f, dif_pos hj]
    exact h1
  · unfold maxLen at m3; omega
  · unfold maxLen at m0; omega
end Go.Proofs.Ytihbdacmgojapaa

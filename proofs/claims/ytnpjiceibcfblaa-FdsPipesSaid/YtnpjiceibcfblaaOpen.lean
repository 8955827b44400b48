/- What a walk wants of an argument that is a slice of integers or of strings, out of its reading; no conditions beyond what each theorem states. -/
import Derived.ProofKit
import Derived.OpenShut
import Derived.SliceStrings
import Derived.Below
namespace Go.Proofs.Ytnpjiceibcfblaa
open Go.ChangeShapes Go.WideShapes Go.ChangeAt Go.RowKit
variable {H : Type} {enc : TypeId × Value → H} {P : Program} {W : World} {t e : TypeId} {v : Value} {d : DataW H} {ps : List MemPlace}

theorem add_lit' (b o i : Nat) : (⟨b, o, none⟩ : Addr).add i = ⟨b, o + i, none⟩ := by unfold Addr.add; split <;> simp_all

theorem at_of (a : Addr) {n : Nat} (vv : Nat → Value) (hcell : ∀ i, i < n → W.cell? (a.add i) = some (vv i)) : ∀ i, i < n → ∃ b off, some a = some (⟨b, off, none⟩ : Addr) ∧ b < W.heap.size ∧ W.cell? ⟨b, off + i, none⟩ = some (vv i) := by
  intro i hi
  have h0 := hcell 0 (by omega)
  have hs := World.cell?_spot h0
  obtain ⟨b, o, s⟩ := a
  have hs' : s = none := by simpa [Addr.add] using hs
  subst hs'
  have hi' := hcell i hi
  rw [add_lit'] at hi'
  exact ⟨b, o, rfl, World.block_lt_of_cell? W _ hi', hi'⟩

theorem ints_fact {k : IntKind} (ht : P.underlying t = some (.slice e)) (he : P.underlying e = some (.int k)) (hc : P.cellsOf e = 1)
    (hv : ∃ a len cap, v = .slice a len cap) (h : DataW.Trod enc P W 0 (fun _ => true) true t v d ps) :
    ∃ oa len cap, ∃ f : Nat → Int, v = .slice oa len cap ∧ len ≤ cap ∧ cap ≤ maxLen ∧ (∀ i, i < len → ∃ b off, oa = some (⟨b, off, none⟩ : Addr) ∧ b < W.heap.size ∧ W.cell? ⟨b, off + i, none⟩ = some (.int k (f i))) := by
  obtain ⟨a0, len0, cap0, rfl⟩ := hv
  obtain ⟨fuel, hf⟩ := h
  rcases open_ints ht he hc hf with ⟨hcs, _⟩ | ⟨a, len, cap, zs, hcs, _, hl, hm, hz, _, hcell, _⟩
  · simp [Value.cells] at hcs
    obtain ⟨rfl, rfl, rfl⟩ := hcs
    exact ⟨none, 0, 0, fun _ => 0, rfl, Nat.le_refl _, by simp [maxLen], fun i hi => by omega⟩
  · simp [Value.cells] at hcs
    obtain ⟨rfl, rfl, rfl⟩ := hcs
    refine ⟨some a, len0, cap0, fun i => zs.getD i 0, rfl, hl, hm, at_of a (fun i => .int k (zs.getD i 0)) (n := len0) fun i hi => hcell i ?_⟩
    rw [hz]; split <;> omega

theorem strings_fact (ht : P.underlying t = some (.slice e)) (he : P.underlying e = some .string) (hc : P.cellsOf e = 1)
    (hv : ∃ a len cap, v = .slice a len cap) (h : DataW.Trod enc P W 0 (fun _ => true) true t v d ps) :
    ∃ oa len cap, ∃ f : Nat → ByteArray, v = .slice oa len cap ∧ len ≤ cap ∧ cap ≤ maxLen ∧ (∀ i, i < len → ∃ b off, oa = some (⟨b, off, none⟩ : Addr) ∧ b < W.heap.size ∧ W.cell? ⟨b, off + i, none⟩ = some (.string (f i))) := by
  obtain ⟨a0, len0, cap0, rfl⟩ := hv
  obtain ⟨fuel, hf⟩ := h
  rcases open_strings ht he hc hf with ⟨hcs, _⟩ | ⟨a, len, cap, zs, hcs, _, hl, hm, hz, _, hcell, _⟩
  · simp [Value.cells] at hcs
    obtain ⟨rfl, rfl, rfl⟩ := hcs
    exact ⟨none, 0, 0, fun _ => ByteArray.empty, rfl, Nat.le_refl _, by simp [maxLen], fun i hi => by omega⟩
  · simp [Value.cells] at hcs
    obtain ⟨rfl, rfl, rfl⟩ := hcs
    refine ⟨some a, len0, cap0, fun i => zs.getD i ByteArray.empty, rfl, hl, hm, at_of a (fun i => .string (zs.getD i ByteArray.empty)) (n := len0) fun i hi => hcell i ?_⟩
    rw [hz]; split <;> omega
end Go.Proofs.Ytnpjiceibcfblaa

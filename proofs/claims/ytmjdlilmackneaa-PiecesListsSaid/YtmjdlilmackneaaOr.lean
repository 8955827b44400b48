/- An argument that is a list of texts, out of its reading, with the reading's form; conditions: as each theorem states. -/
import Derived.Test.YtmjdlilmackneaaOp
import Derived.Test.YtmjdlilmackneaaGk
import Derived.SliceStrings
namespace Go.Proofs.Ytmjdlilmackneaa
open Go.ChangeShapes Go.WideShapes Go.ChangeAt Go.RowKit
variable {H : Type} {enc : TypeId × Value → H} {W : World} {v : Value} {d : DataW H} {ps : List MemPlace}

set_option maxRecDepth 100000 in
theorem texts_form (hv : ∃ a len cap, v = .slice a len cap) (h : DataW.Trod enc Try.prog W 0 (fun _ => true) true 39 v d ps) :
    ∃ (b o n cap : Nat) (f : Nat → ByteArray), ((v = .slice none 0 0 ∧ n = 0) ∨ ∃ ad, v = .slice (some ad) n cap ∧ (0 < n → ad = ⟨b, o, none⟩)) ∧ Texts b o n f W ∧ (0 < n → b < W.heap.size) ∧ (n = 0 ∨ ∃ elems spare, d = .slice elems spare ∧ n ≤ elems.length) := by
  obtain ⟨a0, len0, cap0, rfl⟩ := hv
  obtain ⟨fuel, hf⟩ := h
  rcases open_strings Try.underlying39 Try.underlying9 (by kernel_rfl) hf with ⟨hcs, _⟩ | ⟨a, len, cap, zs, hcs, _, hl, hm, hz, hx, hcell, _⟩
  · simp [Value.cells] at hcs
    obtain ⟨rfl, rfl, rfl⟩ := hcs
    exact ⟨0, 0, 0, 0, fun _ => ByteArray.empty, Or.inl ⟨rfl, rfl⟩, fun j hj => by omega, fun h => by omega, Or.inl rfl⟩
  · simp [Value.cells] at hcs
    obtain ⟨rfl, rfl, rfl⟩ := hcs
    have hlz : len0 ≤ zs.length := by rw [hz]; split <;> omega
    obtain ⟨b, o, sp⟩ := a
    have hsp : 0 < len0 → (⟨b, o, sp⟩ : Addr) = ⟨b, o, none⟩ := fun h => by
      have hs := World.cell?_spot (hcell 0 (by omega))
      have hs' : sp = none := by simpa [Addr.add] using hs
      rw [hs']
    refine ⟨b, o, len0, cap0, fun j => zs.getD j ByteArray.empty, Or.inr ⟨_, rfl, hsp⟩, ?_, ?_, ?_⟩
    · intro j hj
      have h1 := hcell j (by omega)
      rw [hsp (by omega), Addr.add_lit] at h1
      exact h1
    · intro h
      have h1 := hcell 0 (by omega)
      rw [hsp h, Addr.add_lit] at h1
      exact World.block_lt_of_cell? W _ h1
    · have hd : d = .slice (ChangeShapes.strs (List.take len0 zs)) (ChangeShapes.strs (List.drop len0 zs)) := (Prod.mk.inj hx).1
      exact Or.inr ⟨_, _, hd, by
        have h2 : (ChangeShapes.strs (H := H) (List.take len0 zs)).length = len0 := by
          simp [ChangeShapes.strs]
          omega
        omega⟩
end Go.Proofs.Ytmjdlilmackneaa

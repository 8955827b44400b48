/- A list of texts, out of its reading; ParamsJoin; conditions: as each theorem states. -/
import Derived.Test.YtmjdlilmackneaaDoorOp
import Derived.Test.YtmjdlilmackneaaDoorKg
import Derived.SliceStrings
namespace Go.Proofs.YtmjdlilmackneaaDoor
open Go.ChangeShapes Go.WideShapes Go.ChangeAt Go.RowKit
variable {H : Type} {enc : TypeId × Value → H} {W : World} {v : Value} {d : DataW H} {ps : List MemPlace}

theorem bulk_strs {H : Type} (xs : List ByteArray) : Rows.uptoBulkAll (ChangeShapes.strs (H := H) xs) = Lib.lens (LS xs) + xs.length := by
  induction xs with
  | nil => rfl
  | cons x r h =>
    show Rows.uptoBulk (H := H) (.lit (.string x.data.toList)) + Rows.uptoBulkAll (ChangeShapes.strs (H := H) r) = (x.data.toList.length + Lib.lens (LS r)) + (r.length + 1)
    rw [h, Rows.uptoBulk]
    omega
/-- What a list of texts is when it is read. -/
structure TextsOf (v : Value) (W : World) (xs : List ByteArray) (m : Nat) : Prop where
  form : ∃ (ao : Option Addr) (b o cap : Nat), v = .slice ao xs.length cap ∧ (0 < xs.length → ao = some ⟨b, o, none⟩) ∧ xs.length ≤ cap ∧ StrsAt b o xs W ∧ (0 < xs.length → b < W.heap.size)
  len : xs.length ≤ m
  lens : Lib.lens (LS xs) ≤ m
set_option maxRecDepth 100000 in
theorem texts_open (hv : ∃ a len cap, v = .slice a len cap) (h : DataW.Trod enc Tryd.prog W 0 (fun _ => true) true 22 v d ps) : ∃ xs, TextsOf v W xs (Rows.uptoBulk d) := by
  obtain ⟨a0, len0, cap0, rfl⟩ := hv
  obtain ⟨fuel, hf⟩ := h
  rcases open_strings Tryd.underlying22 Tryd.underlying9 (by kernel_rfl) hf with ⟨hcs, _⟩ | ⟨a, len, cap, zs, hcs, _, hl, hm, hz, hx, hcell, _⟩
  · simp [Value.cells] at hcs
    obtain ⟨rfl, rfl, rfl⟩ := hcs
    exact ⟨[], ⟨none, 0, 0, 0, rfl, fun h => absurd h (by decide), Nat.le_refl _, fun j x h => by simp at h, fun h => absurd h (by decide)⟩, Nat.zero_le _, Nat.zero_le _⟩
  · simp [Value.cells] at hcs
    obtain ⟨rfl, rfl, rfl⟩ := hcs
    have hlz : len0 ≤ zs.length := by rw [hz]; split <;> omega
    have hxl : (zs.take len0).length = len0 := by rw [List.length_take]; omega
    obtain ⟨b, o, sp⟩ := a
    have hsp : 0 < len0 → (⟨b, o, sp⟩ : Addr) = ⟨b, o, none⟩ := fun h => by
      have hs := World.cell?_spot (hcell 0 (by omega))
      have hs' : sp = none := by simpa [Addr.add] using hs
      rw [hs']
    have hd : d = .slice (ChangeShapes.strs (List.take len0 zs)) (ChangeShapes.strs (List.drop len0 zs)) := (Prod.mk.inj hx).1
    have hbk : Lib.lens (LS (zs.take len0)) + (zs.take len0).length ≤ Rows.uptoBulk d := by
      rw [hd, Rows.uptoBulk, bulk_strs]
      omega
    refine ⟨zs.take len0, ⟨some ⟨b, o, sp⟩, b, o, cap0, by rw [hxl], fun h => by rw [hsp (by omega)], by rw [hxl]; exact hl, ?_, ?_⟩, by omega, by omega⟩
    · intro j x hj
      have hjl := (List.getElem?_eq_some_iff.1 hj).1
      have h1 := hcell j (by omega)
      rw [hsp (by omega), Addr.add_lit] at h1
      rw [List.getElem?_take, if_pos (by omega)] at hj
      rw [h1, List.getD_eq_getElem?_getD, hj]
      rfl
    · intro h
      have h1 := hcell 0 (by omega)
      rw [hsp (by omega), Addr.add_lit] at h1
      exact World.block_lt_of_cell? W _ h1
theorem pjoin_walk (s : ByteArray) (xs : List ByteArray) (m : Nat) (w : World) (ht : Tab w) (hx : TextsOf v w xs m) (hm : m ≤ 1048576) (hs : s.size ≤ 1048576) :
    Calls Tryd.prog 3 #[v, .string s] w fun e w' => e = .returned (.bool true) ∧ Below w.heap.size w w' := by
  obtain ⟨⟨ao, b, o, cap, rfl, hf, hcap, hxs, hb⟩, h1, h2⟩ := hx
  by_cases h0 : 0 < xs.length
  · rw [hf h0]
    exact pjoin_some b o cap xs s w ht h0 hcap hxs (hb h0) (by omega) (by omega) hs
  · have : xs = [] := List.length_eq_zero_iff.1 (by omega)
    subst this
    exact pjoin_none ao cap s w ht hs
end Go.Proofs.YtmjdlilmackneaaDoor

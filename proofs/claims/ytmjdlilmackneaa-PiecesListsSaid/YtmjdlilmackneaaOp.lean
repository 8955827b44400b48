/- A pattern's argument, out of its reading; conditions: as each theorem states. -/
import Derived.Test.YtmjdlilmackneaaRows
import Derived.Test.YtmjdlilmackneaaGc
import Derived.ProofKit
import Derived.OpenShut
import Derived.Deep.SlicePairs
namespace Go.Proofs.Ytmjdlilmackneaa
open Go.ChangeShapes Go.WideShapes Go.ChangeAt Go.RowKit Go.Deep
variable {H : Type} {enc : TypeId × Value → H} {W : World} {v : Value} {d : DataW H} {ps : List MemPlace}

theorem bulk_one {H : Type} (d : DataW H) : 1 ≤ Rows.uptoBulk d := by
  cases d with
  | lit l => cases l <;> simp [Rows.uptoBulk]
  | _ => simp [Rows.uptoBulk]
theorem bulk_length {H : Type} : ∀ l : List (DataW H), l.length ≤ Rows.uptoBulkAll l
  | [] => by simp [Rows.uptoBulkAll]
  | x :: l => by
    have h1 := bulk_one x
    have h2 := bulk_length l
    simp only [Rows.uptoBulkAll, List.length_cons]
    omega
theorem nat_of_wf {n : Int} (h : (Lit.int .u8 n).wf = true) : ∃ c : UInt8, n = c.toNat := by
  have h' : IntKind.u8.min ≤ n ∧ n ≤ IntKind.u8.max := by simpa [Lit.wf] using h
  simp [IntKind.min, IntKind.max, IntKind.bits, IntKind.signed] at h'
  refine ⟨UInt8.ofNat n.toNat, ?_⟩
  rw [UInt8.toNat_ofNat']
  omega
set_option maxRecDepth 100000 in
theorem chars_open (hv : ∃ a len cap, v = .slice a len cap) (h : DataW.Trod enc Try.prog W 0 (fun _ => true) true 22 v d ps) :
    ∃ p : List Ch, PatOf p v W ∧ (v = .slice none 0 0 ∨ ∃ ad n c, v = .slice (some ad) n c) ∧ p.length ≤ Rows.uptoBulk d := by
  obtain ⟨a0, len0, cap0, rfl⟩ := hv
  obtain ⟨fuel, hf⟩ := h
  rcases open_slice_pairs Try.underlying22 Try.underlying25 (by kernel_rfl) rfl rfl (by kernel_rfl) (by kernel_rfl) hf with ⟨hcs, _⟩ | ⟨a, len, cap, m, n, V0, V1, D0, D1, P0, P1, hcs, hb, hl, hm, hmm, hx, hi⟩
  · simp [Value.cells] at hcs
    obtain ⟨rfl, rfl, rfl⟩ := hcs
    exact ⟨[], ⟨none, 0, 0, 0, rfl, Nat.le_refl _, fun h => by simp at h, fun h => by simp at h, fun j hj => by simp at hj⟩, Or.inl rfl, Nat.zero_le _⟩
  · simp [Value.cells] at hcs
    obtain ⟨rfl, rfl, rfl⟩ := hcs
    have hlm : len0 ≤ m := by rw [hmm]; split <;> omega
    have hfld : ∀ i, i < len0 → ∃ (c : UInt8) (q : Bool), V0 i = .int .u8 c.toNat ∧ V1 i = .bool q := by
      intro i hil
      obtain ⟨_, _, h1, h2⟩ := hi i (by omega)
      obtain ⟨x, hx1, _, hwf⟩ := DataW.trod_int Try.underlying5 h1
      obtain ⟨y, hy1, _⟩ := DataW.trod_bool Try.underlying4 h2
      obtain ⟨c, rfl⟩ := nat_of_wf hwf
      exact ⟨c, y, by simpa using hx1, by simpa using hy1⟩
    let f : Nat → Ch := fun i => if h : i < len0 then ((hfld i h).choose, (hfld i h).choose_spec.choose) else (0, false)
    have hff : ∀ i, i < len0 → V0 i = .int .u8 (f i).1.toNat ∧ V1 i = .bool (f i).2 := by
      intro i hil
      have := (hfld i hil).choose_spec.choose_spec
      simp only [f, dif_pos hil]
      exact this
    refine ⟨(List.range len0).map f, ?_, Or.inr ⟨a, len0, cap0, rfl⟩, ?_⟩
    · have hlen : ((List.range len0).map f).length = len0 := by simp
      obtain ⟨b, o, sp⟩ := a
      by_cases h0 : 0 < len0
      · have hs := World.cell?_spot (hi 0 (by omega)).1
        have hs' : sp = none := by simpa [Addr.add] using hs
        subst hs'
        refine ⟨some ⟨b, o, none⟩, b, o, cap0, by rw [hlen], by rw [hlen]; exact hl, fun _ => rfl, fun _ => ?_, ?_⟩
        · have h1 := (hi 0 (by omega)).1
          rw [Addr.add_lit] at h1
          exact World.block_lt_of_cell? W _ h1
        · intro j hj
          rw [hlen] at hj
          obtain ⟨h1, h2, _, _⟩ := hi j (by omega)
          rw [Addr.add_lit] at h1 h2
          rw [List.getElem_map, List.getElem_range]
          obtain ⟨h3, h4⟩ := hff j hj
          rw [h3] at h1
          rw [h4] at h2
          exact ⟨h1, h2⟩
      · exact ⟨_, 0, 0, cap0, by rw [hlen], by rw [hlen]; exact hl, fun h => by rw [hlen] at h; omega, fun h => by rw [hlen] at h; omega, fun j hj => by rw [hlen] at hj; omega⟩
    · have hd : d = .slice ((List.range len0).map fun i => .agg [D0 i, D1 i]) ((List.range (m - len0)).map fun j => .agg [D0 (len0 + j), D1 (len0 + j)]) := (Prod.mk.inj hx).1
      rw [hd, Rows.uptoBulk]
      have := bulk_length ((List.range len0).map fun i => DataW.agg [D0 i, D1 i])
      simp at this ⊢
      omega
end Go.Proofs.Ytmjdlilmackneaa

/- params.Kind: what it tells; conditions: as each theorem states. -/
import Derived.Test.YtmjdlilmackneaaDoorShelf
import Derived.Test.YtmjdlilmackneaaDoorGc
import Derived.Lib.LaidTab
namespace Go.Proofs.YtmjdlilmackneaaDoor
open Go.RowKit

/-- The table of the blanks. -/
def Tab (w : World) : Prop := Lib.TabIs Tryd.prog w "strings.asciiSpace" .u8 Lib.asciiSpaceTab
theorem Tab.below {w w' : World} (h : Tab w) (hb : Below w.heap.size w w') : Tab w' := by
  unfold Tab Lib.TabIs World.var? at *
  cases hg : Tryd.prog.globalNamed "strings.asciiSpace" with
  | none => simp [hg] at h
  | some g =>
    simp only [hg, Option.bind_some] at h ⊢
    have hlt : g < w.heap.size := by
      rcases Nat.lt_or_ge g w.heap.size with hlt | hge
      · exact hlt
      · rw [Array.getElem?_eq_none hge] at h
        simp at h
    rw [hb.block g hlt]
    exact h

def kstr : Nat → ByteArray
  | 0 => ⟨#[58, 45, 32, 45]⟩
  | 1 => ⟨#[58, 61, 32, 61]⟩
  | 2 => ⟨#[58, 63, 32, 63]⟩
  | 3 => ⟨#[58, 43, 32, 43]⟩
  | 4 => ⟨#[35, 32, 35, 35, 32, 37, 32, 37, 37]⟩
  | 5 => ⟨#[108, 101, 110]⟩
  | _ => ⟨#[58, 32, 47, 32, 47, 47, 32, 94, 32, 94, 94, 32, 44, 32, 44, 44, 32, 91, 93, 32, 91, 64, 93, 32, 91, 42, 93, 32, 108, 101, 110, 91, 64, 93]⟩
def kls : Nat → List (List UInt8)
  | 0 => [[58, 45], [45]]
  | 1 => [[58, 61], [61]]
  | 2 => [[58, 63], [63]]
  | 3 => [[58, 43], [43]]
  | 4 => [[35], [35, 35], [37], [37, 37]]
  | 5 => [[108, 101, 110]]
  | _ => [[58], [47], [47, 47], [94], [94, 94], [44], [44, 44], [91, 93], [91, 64, 93], [91, 42, 93], [108, 101, 110, 91, 64, 93]]
theorem kfields (k : Nat) (h : k < 7) : Lib.fields (kstr k).data.toList = kls k := by
  match k, h with
  | 0, _ => decide
  | 1, _ => decide
  | 2, _ => decide
  | 3, _ => decide
  | 4, _ => decide
  | 5, _ => decide
  | 6, _ => decide
theorem kascii (k : Nat) (h : k < 7) : ∀ (j : Nat) b, (kstr k).data.toList[j]? = some b → b.toNat < 128 := by
  have hall : ((kstr k).data.toList.all fun b => decide (b.toNat < 128)) = true := by
    match k, h with
    | 0, _ => decide
    | 1, _ => decide
    | 2, _ => decide
    | 3, _ => decide
    | 4, _ => decide
    | 5, _ => decide
    | 6, _ => decide
  intro j b hb
  have hm := List.mem_of_getElem? hb
  rw [List.all_eq_true] at hall
  simpa using hall b hm
/-- Is an operator one of a kind's? -/
def isK (op : ByteArray) (k : Nat) : Bool := !op.data.toList.isEmpty && (kls k).contains op.data.toList
theorem kcontains (op : ByteArray) (k : Nat) : Lib.containsS ((kls k).map fun l => (⟨l.toArray⟩ : ByteArray)) op = (kls k).contains op.data.toList := by
  rw [Bool.eq_iff_iff, Lib.containsS_iff, List.contains_iff_mem, List.mem_map]
  constructor
  · rintro ⟨l, hl, rfl⟩
    simpa using hl
  · intro h
    exact ⟨op.data.toList, h, by obtain ⟨⟨l⟩⟩ := op; rfl⟩

set_option maxRecDepth 100000 in
set_option maxHeartbeats 2000000 in
theorem kclos_any (op : ByteArray) (bo k : Nat) (w : World) (hk : k < 7) (ht : Tab w) (ho : w.cell? ⟨bo, 0, none⟩ = some (.string op)) :
    Calls Tryd.prog 27 #[.string (kstr k), .pointer (some ⟨bo, 0, none⟩)] w fun e w' => e = .returned (.bool (isK op k)) ∧ Below w.heap.size w w' := by
  have hob := World.block_lt_of_cell? w _ ho
  obtain ⟨r, hr⟩ : ∃ r, r = (kls k).contains op.data.toList := ⟨_, rfl⟩
  have HF : Hid (∀ V, Tab V → Calls Tryd.prog 29 #[.string (kstr k)] V fun e w' => e = .returned (.slice (some ⟨V.heap.size, 0, none⟩) (kls k).length (kls k).length) ∧ w' = V.alloc (.cells ((kls k).map fun l => Value.string ⟨l.toArray⟩).toArray 9)) := fun V hV => by
    have := Tryd.strings_Fields (kstr k) V (by match k, hk with | 0, _ => decide | 1, _ => decide | 2, _ => decide | 3, _ => decide | 4, _ => decide | 5, _ => decide | 6, _ => decide) (kascii k hk) hV
    rw [kfields k hk] at this
    exact this
  have HC : Hid (∀ V : World, Calls Tryd.prog 28 #[.slice (some ⟨V.heap.size, 0, none⟩) (kls k).length (kls k).length, .string op] (V.alloc (.cells ((kls k).map fun l => Value.string ⟨l.toArray⟩).toArray 9)).drew fun e w' => e = .returned (.bool r) ∧ w' = (V.alloc (.cells ((kls k).map fun l => Value.string ⟨l.toArray⟩).toArray 9)).drew) := fun V => by
    have := Tryd.slices_Contains_string V.heap.size 0 (kls k).length (kls k).length ((kls k).map fun l => (⟨l.toArray⟩ : ByteArray)) op (V.alloc (.cells ((kls k).map fun l => Value.string ⟨l.toArray⟩).toArray 9)).drew (by simp) (by match k, hk with | 0, _ => decide | 1, _ => decide | 2, _ => decide | 3, _ => decide | 4, _ => decide | 5, _ => decide | 6, _ => decide) ?_
    · rw [List.take_of_length_le (by simp), kcontains, ← hr] at this
      exact this
    · intro j hj
      rw [List.length_map] at hj
      rw [Nat.zero_add]
      show (V.alloc _).cell? _ = _
      rw [World.cell?_alloc_new]
      simp [hj]
  obtain ⟨m, hm⟩ : ∃ m, m = (kls k).length := ⟨_, rfl⟩
  obtain ⟨C, hC⟩ : ∃ C, C = ((kls k).map fun l => Value.string ⟨l.toArray⟩).toArray := ⟨_, rfl⟩
  rw [← hm, ← hC] at HF HC
  have hT : Hid (Tab w.drew) := ht.below (Below.refl _ _).drew
  have hiz : isK op k = (!op.data.toList.isEmpty && r) := by rw [hr]; rfl
  by_cases h0 : op.toList.isEmpty = true
  · have h1 : isK op k = false := by
      rw [ByteArray.toList_eq] at h0
      rw [hiz, h0]
      rfl
    rw [h1]
    have hne : (!op.toList.isEmpty) = false := by rw [h0]; rfl
    clear hr hm hC hiz h1 ht
    go_enter Tryd.func27, Tryd.ntmps27
    go_wp2_with fail
    go_quiet (fail)
    go_wp2_with fail
    go_ret
    exact ⟨rfl, below_drewN (Below.refl _ _) _⟩
  · have h0' : op.toList.isEmpty = false := by simpa using h0
    have h1 : isK op k = r := by
      rw [ByteArray.toList_eq] at h0'
      rw [hiz, h0']
      rfl
    rw [h1]
    have hne : (!op.toList.isEmpty) = true := by rw [h0']; rfl
    clear hr hm hC hiz h1 ht h0
    go_enter Tryd.func27, Tryd.ntmps27
    go_wp2_with fail
    go_region_with (first | (go_at_call 29; ((with_reducible refine (HF.out w.drew hT.out).mono ?_); rintro e w1 ⟨rfl, rfl⟩)) | (go_at_call 28; ((with_reducible refine (HC.out w).mono ?_); rintro e w1 ⟨rfl, rfl⟩)))
    all_goals
      go_wp2
      go_ret
      exact ⟨rfl, ((Below.refl _ _).alloc (Nat.le_refl _) _).drew⟩
end Go.Proofs.YtmjdlilmackneaaDoor

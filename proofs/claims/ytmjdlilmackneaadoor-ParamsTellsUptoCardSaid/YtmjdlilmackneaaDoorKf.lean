/- params.Join; the walk of ParamsJoin; conditions: as each theorem states. -/
import Derived.Test.YtmjdlilmackneaaDoorKc
import Derived.Test.YtmjdlilmackneaaDoorShelf
import Derived.Lib.Join
namespace Go.Proofs.YtmjdlilmackneaaDoor
open Go.RowKit

/-- Texts as they lie from a cell on. -/
def StrsAt (b o : Nat) (xs : List ByteArray) (w : World) : Prop := ∀ (j : Nat) x, xs[j]? = some x → w.cell? ⟨b, o + j, none⟩ = some (.string x)
theorem StrsAt.below {b o : Nat} {xs : List ByteArray} {w w' : World} {n : Nat} (h : StrsAt b o xs w) (hb : 0 < xs.length → b < n) (hw : Below n w w') : StrsAt b o xs w' := fun j x hx => by
  have hj := (List.getElem?_eq_some_iff.1 hx).1
  exact (hw.cell (p := ⟨b, o + j, none⟩) (hb (by omega))).trans (h j x hx)
def LS (xs : List ByteArray) : List (List UInt8) := xs.map (·.data.toList)
theorem LS_length (xs : List ByteArray) : (LS xs).length = xs.length := by simp [LS]
def joined (xs : List ByteArray) (sep : ByteArray) : ByteArray := ⟨(Lib.join (LS xs) sep.data.toList).toArray⟩
def sepOf (s : ByteArray) : Bool → ByteArray
  | true => s.extract 0 (min s.size 1)
  | false => ⟨#[32]⟩
theorem sepOf_le (s : ByteArray) (t : Bool) : (sepOf s t).size ≤ 1 := by
  cases t
  · exact Nat.le_refl 1
  · simp only [sepOf, ByteArray.size_extract]
    omega
theorem joined_size (xs : List ByteArray) (sep : ByteArray) : (joined xs sep).size = Lib.lens (LS xs) + (xs.length - 1) * sep.size := by
  show (Lib.join (LS xs) sep.data.toList).toArray.size = _
  rw [List.size_toArray]
  cases xs with
  | nil => simp [LS, Lib.join_nil, Lib.lens]
  | cons x r =>
    show (Lib.join (x.data.toList :: LS r) sep.data.toList).length = _
    rw [Lib.join_length, LS_length, Array.length_toList, Nat.mul_comm, List.length_cons]
    show _ + Lib.lens (LS (x :: r)) = _
    show r.length * sep.size + _ = _
    rw [Nat.add_sub_cancel]
    omega

theorem sjoin_any (ao : Option Addr) (b o cap : Nat) (xs : List ByteArray) (sep : ByteArray) (w : World) (hf : 0 < xs.length → ao = some ⟨b, o, none⟩) (hcap : xs.length ≤ cap) (hx : StrsAt b o xs w) (hb : 0 < xs.length → b < w.heap.size) (hn : xs.length ≤ 1048576) (hl : Lib.lens (LS xs) ≤ 1048576) (hsep : sep.size ≤ 1) :
    Calls Tryd.prog 20 #[.slice ao xs.length cap, .string sep] w fun e w' => e = .returned (.string (joined xs sep)) ∧ Below w.heap.size w w' := by
  by_cases h0 : 0 < xs.length
  · have hj := joined_size xs sep
    have hm : (xs.length - 1) * sep.size ≤ 1048576 * 1 := Nat.mul_le_mul (by omega) hsep
    rw [hf h0]
    refine Tryd.strings_Join b o cap xs sep w hx (hb h0) (by omega) hcap ?_
    have : (Lib.join (xs.map (·.data.toList)) sep.data.toList).length = (joined xs sep).size := by
      show _ = (Lib.join (LS xs) sep.data.toList).toArray.size
      rw [List.size_toArray]
      rfl
    omega
  · have : xs = [] := List.length_eq_zero_iff.1 (by omega)
    subst this
    refine (Tryd.strings_Join_none ao cap sep w).mono ?_
    rintro e w' ⟨rfl, rfl⟩
    exact ⟨rfl, Below.refl _ _⟩

set_option maxRecDepth 100000 in
set_option maxHeartbeats 2000000 in
theorem join_any (ao : Option Addr) (b o cap : Nat) (xs : List ByteArray) (s : ByteArray) (set : Bool) (w : World) (hf : 0 < xs.length → ao = some ⟨b, o, none⟩) (hcap : xs.length ≤ cap) (hx : StrsAt b o xs w) (hb : 0 < xs.length → b < w.heap.size) (hn : xs.length ≤ 1048576) (hl : Lib.lens (LS xs) ≤ 1048576) (hs : s.size ≤ 4611686018427387000) :
    Calls Tryd.prog 9 #[.slice ao xs.length cap, .string s, .bool set] w fun e w' => e = .returned (.string (joined xs (sepOf s set))) ∧ Below w.heap.size w w' := by
  have HJ : Hid (Calls Tryd.prog 20 #[.slice ao xs.length cap, .string (sepOf s set)] w fun e w' => e = .returned (.string (joined xs (sepOf s set))) ∧ Below w.heap.size w w') :=
    sjoin_any ao b o cap xs (sepOf s set) w hf hcap hx hb hn hl (sepOf_le s set)
  obtain ⟨t, ht⟩ : ∃ t, t = sepOf s set := ⟨_, rfl⟩
  obtain ⟨r, hr⟩ : ∃ r, r = joined xs (sepOf s set) := ⟨_, rfl⟩
  rw [← hr, ← ht] at HJ
  rw [← hr]
  clear hr hx hf hb hl
  cases set
  · have ht' : t = ⟨#[32]⟩ := ht
    clear ht
    subst ht'
    go_enter Tryd.func9, Tryd.ntmps9
    go_wp2_with fail
    refine HJ.out.mono ?_
    rintro e w1 ⟨rfl, hb⟩
    have HB := Lib.hid hb
    clear hb
    go_wp2_with fail
    go_ret
    exact ⟨rfl, HB.out⟩
  · have h1 : (0 : Int) ≤ min (s.size : Int) 1 := by omega
    have h2 : min (s.size : Int) 1 ≤ (s.size : Int) := by omega
    have ht' : s.extract 0 (min (s.size : Int) 1).toNat = t := by
      rw [ht]
      show _ = s.extract 0 (min s.size 1)
      congr 1
      omega
    have HT := Lib.hid ht'
    clear ht ht'
    go_enter Tryd.func9, Tryd.ntmps9
    go_wp2_with fail
    rw [HT.out]
    refine HJ.out.mono ?_
    rintro e w1 ⟨rfl, hb⟩
    have HB := Lib.hid hb
    clear hb
    go_wp2_with fail
    go_ret
    exact ⟨rfl, HB.out⟩
end Go.Proofs.YtmjdlilmackneaaDoor

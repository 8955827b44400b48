/- params.Remove; the example of the page; conditions: as each theorem states. -/
import Derived.Test.YtmjdlilmackneaaDoorKb
import Derived.Test.YtmjdlilmackneaaDoorGf
import Derived.Test.YtmjdlilmackneaaDoorGg
namespace Go.Proofs.YtmjdlilmackneaaDoor
open Go.RowKit

theorem firstL_bd (n : Nat) (P : Nat → Bool) (l : Bool) : -1 ≤ firstL n P l ∧ firstL n P l ≤ n := by
  rcases firstL_cases n P l with ⟨h, _⟩ | ⟨k, h1, h2, _⟩ <;> omega
/-- How much is taken off at a text's beginning, and at its end. -/
def pl (es : List El) (s : List UInt8) (lg : Bool) : Nat := (preI es s lg).toNat
def sl (es : List El) (s : List UInt8) (lg : Bool) : Nat := (sufI es s lg).toNat
theorem pl_le (es : List El) (s : List UInt8) (lg : Bool) : pl es s lg ≤ s.length := by
  have := firstL_bd s.length (fun k => Mt es (s.take k)) lg
  unfold pl preI
  omega
theorem sl_le (es : List El) (s : List UInt8) (lg : Bool) : sl es s lg ≤ s.length := by
  have := firstL_bd s.length (fun k => Mt es (s.drop (s.length - k))) lg
  unfold sl sufI
  omega
theorem ext_all (s : ByteArray) : s.extract 0 s.size = s := by
  apply ByteArray.ext
  apply Array.ext'
  rw [Lib.extract_data, List.drop_zero, Nat.sub_zero]
  exact List.take_of_length_le (Nat.le_refl _)
theorem ext_e1 (s : ByteArray) : s.extract (max (-1 : Int) 0).toNat s.size = s := ext_all s
theorem ext_e2 (s : ByteArray) : s.extract 0 ((s.size : Int) - max (-1) 0).toNat = s := by
  rw [show ((s.size : Int) - max (-1) 0).toNat = s.size by omega]
  exact ext_all s
def hashOp : Bool → ByteArray
  | true => ⟨#[35, 35]⟩
  | false => ⟨#[35]⟩
def percOp : Bool → ByteArray
  | true => ⟨#[37, 37]⟩
  | false => ⟨#[37]⟩

set_option maxRecDepth 100000 in
set_option maxHeartbeats 2000000 in
theorem remove_pre (lg : Bool) (p : List Ch) (v : Value) (s : ByteArray) (w : World) (hp : PatOf p v w) (hm : p.length ≤ 4194304) (hs : s.size ≤ 4611686018427387000) :
    Calls Tryd.prog 10 #[.string s, .string (hashOp lg), v] w fun e w' => e = .returned (.tuple #[.string (s.extract (pl (els p) s.data.toList lg) s.size), .int .i64 0]) ∧ Below w.heap.size w w' := by
  obtain ⟨a, ha⟩ : ∃ a, a = preI (els p) s.data.toList lg := ⟨_, rfl⟩
  have hbd : -1 ≤ a ∧ a ≤ s.size := by rw [ha]; exact firstL_bd s.data.toList.length (fun k => Mt (els p) (s.data.toList.take k)) lg
  have HP : Hid (∀ V, PatOf p v V → Calls Tryd.prog 21 #[v, .string s, .bool lg] V fun e w' => e = .returned (.int .i64 a) ∧ Below V.heap.size V w') := fun V hV => by
    rw [ha]
    exact prefix_any p v s lg V hV hm hs
  rw [show pl (els p) s.data.toList lg = a.toNat by rw [ha]; rfl]
  have HPT := Lib.hid hp
  clear ha hp
  obtain ⟨b1, b2⟩ := hbd
  by_cases h0 : a < 0
  · obtain rfl : a = -1 := by omega
    clear b1 b2 h0
    cases lg
    all_goals
      simp only [hashOp]
      go_enter Tryd.func10, Tryd.ntmps10
      go_wp2_with fail
      refine (HP.out _ HPT.out).mono ?_
      rintro e w1 ⟨rfl, hb⟩
      have HB := Lib.hid hb
      clear hb
      go_wp2_with fail
      go_ret2
      exact ⟨by first | (simp; done) | (simp; exact ext_e1 s) | (simp; exact ext_e2 s), HB.out⟩
  · obtain ⟨k, rfl⟩ : ∃ k : Nat, a = k := ⟨a.toNat, by omega⟩
    have hk0 : (0 : Int) ≤ (k : Int) := by omega
    have hk1 : ¬ (k : Int) < 0 := by omega
    have hk2 : (k : Int) ≤ (s.size : Int) := by omega
    cases lg
    all_goals
      simp only [hashOp]
      go_enter Tryd.func10, Tryd.ntmps10
      go_wp2_with fail
      refine (HP.out _ HPT.out).mono ?_
      rintro e w1 ⟨rfl, hb⟩
      have HB := Lib.hid hb
      clear hb
      go_wp2_with fail
      go_ret2
      exact ⟨by first | (simp; done) | (simp; exact ext_e1 s) | (simp; exact ext_e2 s), HB.out⟩

set_option maxRecDepth 100000 in
set_option maxHeartbeats 2000000 in
theorem remove_suf (lg : Bool) (p : List Ch) (v : Value) (s : ByteArray) (w : World) (hp : PatOf p v w) (hm : p.length ≤ 4194304) (hs : s.size ≤ 4611686018427387000) :
    Calls Tryd.prog 10 #[.string s, .string (percOp lg), v] w fun e w' => e = .returned (.tuple #[.string (s.extract 0 (s.size - sl (els p) s.data.toList lg)), .int .i64 0]) ∧ Below w.heap.size w w' := by
  obtain ⟨a, ha⟩ : ∃ a, a = sufI (els p) s.data.toList lg := ⟨_, rfl⟩
  have hbd : -1 ≤ a ∧ a ≤ s.size := by rw [ha]; exact firstL_bd s.data.toList.length (fun k => Mt (els p) (s.data.toList.drop (s.data.toList.length - k))) lg
  have HP : Hid (∀ V, PatOf p v V → Calls Tryd.prog 22 #[v, .string s, .bool lg] V fun e w' => e = .returned (.int .i64 a) ∧ Below V.heap.size V w') := fun V hV => by
    rw [ha]
    exact suffix_any p v s lg V hV hm hs
  rw [show sl (els p) s.data.toList lg = a.toNat by rw [ha]; rfl]
  have HPT := Lib.hid hp
  clear ha hp
  obtain ⟨b1, b2⟩ := hbd
  by_cases h0 : a < 0
  · obtain rfl : a = -1 := by omega
    clear b1 b2 h0
    cases lg
    all_goals
      simp only [percOp]
      go_enter Tryd.func10, Tryd.ntmps10
      go_wp2_with fail
      refine (HP.out _ HPT.out).mono ?_
      rintro e w1 ⟨rfl, hb⟩
      have HB := Lib.hid hb
      clear hb
      go_wp2_with fail
      go_ret2
      exact ⟨by first | (simp; done) | (simp; exact ext_e1 s) | (simp; exact ext_e2 s), HB.out⟩
  · obtain ⟨k, rfl⟩ : ∃ k : Nat, a = k := ⟨a.toNat, by omega⟩
    have hk0 : (0 : Int) ≤ (k : Int) := by omega
    have hk1 : ¬ (k : Int) < 0 := by omega
    have hk2 : (k : Int) ≤ (s.size : Int) := by omega
    have hk3 : (0 : Int) ≤ (s.size : Int) - (k : Int) := by omega
    have hk4 : (s.size : Int) - (k : Int) ≤ (s.size : Int) := by omega
    cases lg
    all_goals
      simp only [percOp]
      go_enter Tryd.func10, Tryd.ntmps10
      go_wp2_with fail
      refine (HP.out _ HPT.out).mono ?_
      rintro e w1 ⟨rfl, hb⟩
      have HB := Lib.hid hb
      clear hb
      go_wp2_with fail
      go_ret2
      exact ⟨by first | (simp; done) | (simp; exact ext_e1 s) | (simp; exact ext_e2 s), HB.out⟩

set_option maxRecDepth 100000 in
set_option maxHeartbeats 1000000 in
theorem num18_any (e0 : Int) (w : World) : Calls Tryd.prog 12 #[.int .i64 e0] w fun e w' => e = .returned (.int .i64 e0) ∧ w = w' := by
  go_enter Tryd.func12, Tryd.ntmps12
  go_wp2
  go_ret
  exact ⟨rfl, rfl⟩

def aliveP : List Ch := [(46, false), (42, false)]
theorem alive_suf : sl (els aliveP) [97, 46, 98, 46, 99] false = 2 := by
  have h : sufI (els aliveP) [97, 46, 98, 46, 99] false = (2 : Nat) := by
    unfold sufI
    exact firstL_hit (n := 5) (l := false) (i := 2) (by decide) (by simp [ix, aliveP, els, elsF, fstD, opn, Mt]) (fun j hj => by
      match j, hj with
      | 0, _ => simp [ix, aliveP, els, elsF, fstD, opn, Mt]
      | 1, _ => simp [ix, aliveP, els, elsF, fstD, opn, Mt])
  unfold sl
  rw [h]
  rfl
theorem alive_kind : kindI ⟨#[108, 101, 110]⟩ = 6 := by decide

set_option maxRecDepth 100000 in
set_option maxHeartbeats 2000000 in
theorem alive18_any (w : World) (ht : Tab w) : Calls Tryd.prog 8 #[] w fun e w' => e = .returned (.bool true) ∧ Below w.heap.size w w' := by
  have h1 : Hid (Calls Tryd.prog 10 #[.string ⟨#[97, 46, 98, 46, 99]⟩, .string ⟨#[37]⟩, .slice (some ⟨w.heap.size, 0, none⟩) 2 2] (w.alloc (.cells #[.int .u8 46, .bool false, .int .u8 42, .bool false] 42)) fun e w' => e = .returned (.tuple #[.string ⟨#[97, 46, 98]⟩, .int .i64 0]) ∧ Below w.heap.size w w') := by
    have hp : PatOf aliveP (.slice (some ⟨w.heap.size, 0, none⟩) 2 2) (w.alloc (.cells #[.int .u8 46, .bool false, .int .u8 42, .bool false] 42)) := by
      refine ⟨some ⟨w.heap.size, 0, none⟩, w.heap.size, 0, 2, rfl, by decide, fun _ => rfl, fun _ => by simp, ?_⟩
      intro j hj
      rw [World.cell?_alloc_new, World.cell?_alloc_new]
      match j, hj with
      | 0, _ => exact ⟨rfl, rfl⟩
      | 1, _ => exact ⟨rfl, rfl⟩
    have := remove_suf false aliveP _ ⟨#[97, 46, 98, 46, 99]⟩ _ hp (by decide) (by show 5 ≤ _; decide)
    rw [show (⟨#[97, 46, 98, 46, 99]⟩ : ByteArray).data.toList = [97, 46, 98, 46, 99] from rfl, alive_suf] at this
    refine this.mono ?_
    rintro e w' ⟨rfl, hb⟩
    exact ⟨rfl, ((Below.refl _ _).alloc (Nat.le_refl _) _).trans (hb.mono (by simp))⟩
  have h2 : Hid (∀ V, Tab V → Calls Tryd.prog 15 #[.string ⟨#[108, 101, 110]⟩] V fun e w' => e = .returned (.int .i64 6) ∧ Below V.heap.size V w') := fun V hV => by
    have := kind_any ⟨#[108, 101, 110]⟩ V hV
    rw [alive_kind] at this
    exact this
  have HT := Lib.hid ht
  clear ht
  go_enter Tryd.func8, Tryd.ntmps8
  go_wp2_with fail
  refine h1.out.mono ?_
  rintro e w1 ⟨rfl, hb⟩
  have HT1 := Lib.hid (HT.out.below hb)
  have HB := Lib.hid hb
  clear hb
  go_wp2_with fail
  refine (num18_any _ _).mono ?_
  rintro e w2 ⟨rfl, rfl⟩
  go_wp2_with fail
  refine (h2.out _ HT1.out).mono ?_
  rintro e w3 ⟨rfl, hb⟩
  have HB3 := Lib.hid (HB.out.trans (hb.mono HB.out.size))
  clear hb
  go_wp2_with fail
  go_ret
  exact ⟨rfl, HB3.out⟩
end Go.Proofs.YtmjdlilmackneaaDoor

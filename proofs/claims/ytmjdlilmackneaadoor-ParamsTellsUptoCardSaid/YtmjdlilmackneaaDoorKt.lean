/- cowrieref18.Remove; params.Remove at whatever operator; conditions: as each theorem states. -/
import Derived.Test.YtmjdlilmackneaaDoorKc
import Derived.Test.YtmjdlilmackneaaDoorKs
namespace Go.Proofs.YtmjdlilmackneaaDoor
open Go.RowKit

theorem ext_f1 (s : ByteArray) : s.extract (max 0 (-1 : Int)).toNat s.size = s := ext_all s
theorem ext_f2 (s : ByteArray) : s.extract 0 ((s.size : Int) - max 0 (-1)).toNat = s := by
  rw [show ((s.size : Int) - max 0 (-1)).toNat = s.size by omega]
  exact ext_all s

set_option maxRecDepth 100000 in
set_option maxHeartbeats 2000000 in
theorem rremove_pre (lg : Bool) (p : List Ch) (v : Value) (s : ByteArray) (w : World) (hp : PatOf p v w) (hm : p.length ≤ 4194304) (hs : s.size ≤ 4611686018427387000) :
    Calls Tryd.prog 11 #[.string s, .string (hashOp lg), v] w fun e w' => e = .returned (.tuple #[.string (s.extract (pl (els p) s.data.toList lg) s.size), .int .i64 0]) ∧ Below w.heap.size w w' := by
  obtain ⟨a, ha⟩ : ∃ a, a = preI (els p) s.data.toList lg := ⟨_, rfl⟩
  have hbd : -1 ≤ a ∧ a ≤ s.size := by rw [ha]; exact firstL_bd s.data.toList.length (fun k => Mt (els p) (s.data.toList.take k)) lg
  have HP : Hid (∀ V, PatOf p v V → Calls Tryd.prog 23 #[v, .string s, .bool lg] V fun e w' => e = .returned (.int .i64 a) ∧ Below V.heap.size V w') := fun V hV => by
    rw [ha]
    exact rprefix_any p v s lg V hV hm hs
  rw [show pl (els p) s.data.toList lg = a.toNat by rw [ha]; rfl]
  have HPT := Lib.hid hp
  clear ha hp
  obtain ⟨b1, b2⟩ := hbd
  by_cases h0 : a < 0
  · obtain rfl : a = -1 := by omega
    clear b1 b2 h0
    cases lg
    all_goals
      simp only [hashOp]
      go_enter Tryd.func11, Tryd.ntmps11
      go_wp2_with fail
      refine (HP.out _ HPT.out).mono ?_
      rintro e w1 ⟨rfl, hb⟩
      have HB := Lib.hid hb
      clear hb
      go_wp2_with fail
      go_ret2
      exact ⟨by first | (simp; done) | (simp; exact ext_f1 s) | (simp; exact ext_f2 s), HB.out⟩
  · obtain ⟨k, rfl⟩ : ∃ k : Nat, a = k := ⟨a.toNat, by omega⟩
    have hk0 : (0 : Int) ≤ (k : Int) := by omega
    have hk1 : ¬ (k : Int) < 0 := by omega
    have hk2 : (k : Int) ≤ (s.size : Int) := by omega
    cases lg
    all_goals
      simp only [hashOp]
      go_enter Tryd.func11, Tryd.ntmps11
      go_wp2_with fail
      refine (HP.out _ HPT.out).mono ?_
      rintro e w1 ⟨rfl, hb⟩
      have HB := Lib.hid hb
      clear hb
      go_wp2_with fail
      go_ret2
      exact ⟨by first | (simp; done) | (simp; exact ext_f1 s) | (simp; exact ext_f2 s), HB.out⟩

set_option maxRecDepth 100000 in
set_option maxHeartbeats 2000000 in
theorem rremove_suf (lg : Bool) (p : List Ch) (v : Value) (s : ByteArray) (w : World) (hp : PatOf p v w) (hm : p.length ≤ 4194304) (hs : s.size ≤ 4611686018427387000) :
    Calls Tryd.prog 11 #[.string s, .string (percOp lg), v] w fun e w' => e = .returned (.tuple #[.string (s.extract 0 (s.size - sl (els p) s.data.toList lg)), .int .i64 0]) ∧ Below w.heap.size w w' := by
  obtain ⟨a, ha⟩ : ∃ a, a = sufI (els p) s.data.toList lg := ⟨_, rfl⟩
  have hbd : -1 ≤ a ∧ a ≤ s.size := by rw [ha]; exact firstL_bd s.data.toList.length (fun k => Mt (els p) (s.data.toList.drop (s.data.toList.length - k))) lg
  have HP : Hid (∀ V, PatOf p v V → Calls Tryd.prog 24 #[v, .string s, .bool lg] V fun e w' => e = .returned (.int .i64 a) ∧ Below V.heap.size V w') := fun V hV => by
    rw [ha]
    exact rsuffix_any p v s lg V hV hm hs
  rw [show sl (els p) s.data.toList lg = a.toNat by rw [ha]; rfl]
  have HPT := Lib.hid hp
  clear ha hp
  obtain ⟨b1, b2⟩ := hbd
  by_cases h0 : a < 0
  · obtain rfl : a = -1 := by omega
    clear b1 b2 h0
    cases lg
    all_goals
      simp only [percOp]
      go_enter Tryd.func11, Tryd.ntmps11
      go_wp2_with fail
      refine (HP.out _ HPT.out).mono ?_
      rintro e w1 ⟨rfl, hb⟩
      have HB := Lib.hid hb
      clear hb
      go_wp2_with fail
      go_ret2
      exact ⟨by first | (simp; done) | (simp; exact ext_f1 s) | (simp; exact ext_f2 s), HB.out⟩
  · obtain ⟨k, rfl⟩ : ∃ k : Nat, a = k := ⟨a.toNat, by omega⟩
    have hk0 : (0 : Int) ≤ (k : Int) := by omega
    have hk1 : ¬ (k : Int) < 0 := by omega
    have hk2 : (k : Int) ≤ (s.size : Int) := by omega
    have hk3 : (0 : Int) ≤ (s.size : Int) - (k : Int) := by omega
    have hk4 : (s.size : Int) - (k : Int) ≤ (s.size : Int) := by omega
    cases lg
    all_goals
      simp only [percOp]
      go_enter Tryd.func11, Tryd.ntmps11
      go_wp2_with fail
      refine (HP.out _ HPT.out).mono ?_
      rintro e w1 ⟨rfl, hb⟩
      have HB := Lib.hid hb
      clear hb
      go_wp2_with fail
      go_ret2
      exact ⟨by first | (simp; done) | (simp; exact ext_f1 s) | (simp; exact ext_f2 s), HB.out⟩


/-- Is an operator none of the four? -/
def noRem (op : ByteArray) : Prop := (op.toList == [35]) = false ∧ (op.toList == [35, 35]) = false ∧ (op.toList == [37]) = false ∧ (op.toList == [37, 37]) = false
set_option maxRecDepth 100000 in
set_option maxHeartbeats 1000000 in
theorem remove_none (op s : ByteArray) (v : Value) (w : World) (h : noRem op) :
    Calls Tryd.prog 10 #[.string s, .string op, v] w fun e w' => e = .returned (.tuple #[.string ⟨#[]⟩, .int .i64 23]) ∧ Below w.heap.size w w' := by
  obtain ⟨h1, h2, h3, h4⟩ := h
  go_enter Tryd.func10, Tryd.ntmps10
  go_wp2_with fail
  go_ret2
  exact ⟨by simp, Below.refl _ _⟩
set_option maxRecDepth 100000 in
set_option maxHeartbeats 1000000 in
theorem rremove_none (op s : ByteArray) (v : Value) (w : World) (h : noRem op) :
    Calls Tryd.prog 11 #[.string s, .string op, v] w fun e w' => e = .returned (.tuple #[.string ⟨#[]⟩, .int .i64 23]) ∧ Below w.heap.size w w' := by
  obtain ⟨h1, h2, h3, h4⟩ := h
  go_enter Tryd.func11, Tryd.ntmps11
  go_wp2_with fail
  go_ret2
  exact ⟨by simp, Below.refl _ _⟩
theorem bytes_of_list {op : ByteArray} {l : List UInt8} (h : (op.toList == l) = true) : op = ⟨l.toArray⟩ := by
  rw [ByteArray.toList_eq, beq_iff_eq] at h
  obtain ⟨⟨d⟩⟩ := op
  simp at h
  rw [h]
/-- Whatever the operator: both tell one text and one number. -/
theorem remove_both (op s : ByteArray) (p : List Ch) (hm : p.length ≤ 4194304) (hs : s.size ≤ 4611686018427387000) : ∃ (a : ByteArray) (e0 : Int), (e0 = 0 ∨ e0 = 23) ∧
    (∀ v w, PatOf p v w → Calls Tryd.prog 10 #[.string s, .string op, v] w fun e w' => e = .returned (.tuple #[.string a, .int .i64 e0]) ∧ Below w.heap.size w w') ∧
    ∀ v w, PatOf p v w → Calls Tryd.prog 11 #[.string s, .string op, v] w fun e w' => e = .returned (.tuple #[.string a, .int .i64 e0]) ∧ Below w.heap.size w w' := by
  cases h1 : op.toList == [35]
  · cases h2 : op.toList == [35, 35]
    · cases h3 : op.toList == [37]
      · cases h4 : op.toList == [37, 37]
        · exact ⟨_, _, Or.inr rfl, fun v w _ => remove_none op s v w ⟨h1, h2, h3, h4⟩, fun v w _ => rremove_none op s v w ⟨h1, h2, h3, h4⟩⟩
        · obtain rfl := bytes_of_list h4
          exact ⟨_, _, Or.inl rfl, fun v w h => remove_suf true p v s w h hm hs, fun v w h => rremove_suf true p v s w h hm hs⟩
      · obtain rfl := bytes_of_list h3
        exact ⟨_, _, Or.inl rfl, fun v w h => remove_suf false p v s w h hm hs, fun v w h => rremove_suf false p v s w h hm hs⟩
    · obtain rfl := bytes_of_list h2
      exact ⟨_, _, Or.inl rfl, fun v w h => remove_pre true p v s w h hm hs, fun v w h => rremove_pre true p v s w h hm hs⟩
  · obtain rfl := bytes_of_list h1
    exact ⟨_, _, Or.inl rfl, fun v w h => remove_pre false p v s w h hm hs, fun v w h => rremove_pre false p v s w h hm hs⟩
end Go.Proofs.YtmjdlilmackneaaDoor

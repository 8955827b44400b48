/- cowrieref18.Absent; that both tell alike; conditions: as each theorem states. -/
import Derived.Test.YtmjdlilmackneaaDoorKu
namespace Go.Proofs.YtmjdlilmackneaaDoor
open Go.RowKit

theorem kind_far (op : ByteArray) (h0 : (op.toList == [58, 45]) = false) (h1 : (op.toList == [58, 61]) = false) (h2 : (op.toList == [58, 63]) = false) (h3 : (op.toList == [58, 43]) = false) (h4 : (op.toList == [45]) = false) (h5 : (op.toList == [61]) = false) (h6 : (op.toList == [63]) = false) (h7 : (op.toList == [43]) = false) : ¬ (1 ≤ kindI op ∧ kindI op ≤ 4) := by
  have g0 := dl h0
  have g1 := dl h1
  have g2 := dl h2
  have g3 := dl h3
  have g4 := dl h4
  have g5 := dl h5
  have g6 := dl h6
  have g7 := dl h7
  have hn : ∀ k, k < 4 → isK op k = false := by
    intro k hk
    match k, hk with
    | 0, _ => simp only [isK, kls, List.contains_cons, List.contains_nil, g0, g4]; simp
    | 1, _ => simp only [isK, kls, List.contains_cons, List.contains_nil, g1, g5]; simp
    | 2, _ => simp only [isK, kls, List.contains_cons, List.contains_nil, g2, g6]; simp
    | 3, _ => simp only [isK, kls, List.contains_cons, List.contains_nil, g3, g7]; simp
  unfold kindI
  split
  · rename_i i hi
    have h1 := List.find?_some hi
    have h2 : ¬ i < 4 := fun h => by rw [hn i h] at h1; cases h1
    omega
  · omega

set_option maxRecDepth 100000 in
set_option maxHeartbeats 4000000 in
theorem rabsent_none (op s : ByteArray) (set : Bool) (w : World) (h0 : (op.toList == [58, 45]) = false) (h1 : (op.toList == [58, 61]) = false) (h2 : (op.toList == [58, 63]) = false) (h3 : (op.toList == [58, 43]) = false) (h4 : (op.toList == [45]) = false) (h5 : (op.toList == [61]) = false) (h6 : (op.toList == [63]) = false) (h7 : (op.toList == [43]) = false) :
    Calls Tryd.prog 14 #[.string op, .bool set, .string s] w fun e w' => e = .returned (.bool false) ∧ Below w.heap.size w w' := by
  go_enter Tryd.func14, Tryd.ntmps14
  go_wp2_with fail
  go_ret
  exact ⟨by simp, Below.refl _ _⟩

set_option maxRecDepth 100000 in
set_option maxHeartbeats 4000000 in
theorem rabsent_0 (s : ByteArray) (set : Bool) (w : World) :
    Calls Tryd.prog 14 #[.string ⟨#[58, 45]⟩, .bool set, .string s] w fun e w' => e = .returned (.bool (!set || s.toList.isEmpty)) ∧ Below w.heap.size w w' := by
  obtain ⟨z, hz⟩ : ∃ z, z = s.toList.isEmpty := ⟨_, rfl⟩
  have hz' := hz.symm
  rw [← hz]
  clear hz
  cases set <;> cases z
  all_goals
    go_enter Tryd.func14, Tryd.ntmps14
    go_wp2_with fail
    go_ret
    exact ⟨by simp, Below.refl _ _⟩

set_option maxRecDepth 100000 in
set_option maxHeartbeats 4000000 in
theorem rabsent_1 (s : ByteArray) (set : Bool) (w : World) :
    Calls Tryd.prog 14 #[.string ⟨#[58, 61]⟩, .bool set, .string s] w fun e w' => e = .returned (.bool (!set || s.toList.isEmpty)) ∧ Below w.heap.size w w' := by
  obtain ⟨z, hz⟩ : ∃ z, z = s.toList.isEmpty := ⟨_, rfl⟩
  have hz' := hz.symm
  rw [← hz]
  clear hz
  cases set <;> cases z
  all_goals
    go_enter Tryd.func14, Tryd.ntmps14
    go_wp2_with fail
    go_ret
    exact ⟨by simp, Below.refl _ _⟩

set_option maxRecDepth 100000 in
set_option maxHeartbeats 4000000 in
theorem rabsent_2 (s : ByteArray) (set : Bool) (w : World) :
    Calls Tryd.prog 14 #[.string ⟨#[58, 63]⟩, .bool set, .string s] w fun e w' => e = .returned (.bool (!set || s.toList.isEmpty)) ∧ Below w.heap.size w w' := by
  obtain ⟨z, hz⟩ : ∃ z, z = s.toList.isEmpty := ⟨_, rfl⟩
  have hz' := hz.symm
  rw [← hz]
  clear hz
  cases set <;> cases z
  all_goals
    go_enter Tryd.func14, Tryd.ntmps14
    go_wp2_with fail
    go_ret
    exact ⟨by simp, Below.refl _ _⟩

set_option maxRecDepth 100000 in
set_option maxHeartbeats 4000000 in
theorem rabsent_3 (s : ByteArray) (set : Bool) (w : World) :
    Calls Tryd.prog 14 #[.string ⟨#[58, 43]⟩, .bool set, .string s] w fun e w' => e = .returned (.bool (!set || s.toList.isEmpty)) ∧ Below w.heap.size w w' := by
  obtain ⟨z, hz⟩ : ∃ z, z = s.toList.isEmpty := ⟨_, rfl⟩
  have hz' := hz.symm
  rw [← hz]
  clear hz
  cases set <;> cases z
  all_goals
    go_enter Tryd.func14, Tryd.ntmps14
    go_wp2_with fail
    go_ret
    exact ⟨by simp, Below.refl _ _⟩

set_option maxRecDepth 100000 in
set_option maxHeartbeats 4000000 in
theorem rabsent_4 (s : ByteArray) (set : Bool) (w : World) :
    Calls Tryd.prog 14 #[.string ⟨#[45]⟩, .bool set, .string s] w fun e w' => e = .returned (.bool (!set)) ∧ Below w.heap.size w w' := by
  obtain ⟨z, hz⟩ : ∃ z, z = s.toList.isEmpty := ⟨_, rfl⟩
  have hz' := hz.symm
  clear hz
  cases set <;> cases z
  all_goals
    go_enter Tryd.func14, Tryd.ntmps14
    go_wp2_with fail
    go_ret
    exact ⟨by simp, Below.refl _ _⟩

set_option maxRecDepth 100000 in
set_option maxHeartbeats 4000000 in
theorem rabsent_5 (s : ByteArray) (set : Bool) (w : World) :
    Calls Tryd.prog 14 #[.string ⟨#[61]⟩, .bool set, .string s] w fun e w' => e = .returned (.bool (!set)) ∧ Below w.heap.size w w' := by
  obtain ⟨z, hz⟩ : ∃ z, z = s.toList.isEmpty := ⟨_, rfl⟩
  have hz' := hz.symm
  clear hz
  cases set <;> cases z
  all_goals
    go_enter Tryd.func14, Tryd.ntmps14
    go_wp2_with fail
    go_ret
    exact ⟨by simp, Below.refl _ _⟩

set_option maxRecDepth 100000 in
set_option maxHeartbeats 4000000 in
theorem rabsent_6 (s : ByteArray) (set : Bool) (w : World) :
    Calls Tryd.prog 14 #[.string ⟨#[63]⟩, .bool set, .string s] w fun e w' => e = .returned (.bool (!set)) ∧ Below w.heap.size w w' := by
  obtain ⟨z, hz⟩ : ∃ z, z = s.toList.isEmpty := ⟨_, rfl⟩
  have hz' := hz.symm
  clear hz
  cases set <;> cases z
  all_goals
    go_enter Tryd.func14, Tryd.ntmps14
    go_wp2_with fail
    go_ret
    exact ⟨by simp, Below.refl _ _⟩

set_option maxRecDepth 100000 in
set_option maxHeartbeats 4000000 in
theorem rabsent_7 (s : ByteArray) (set : Bool) (w : World) :
    Calls Tryd.prog 14 #[.string ⟨#[43]⟩, .bool set, .string s] w fun e w' => e = .returned (.bool (!set)) ∧ Below w.heap.size w w' := by
  obtain ⟨z, hz⟩ : ∃ z, z = s.toList.isEmpty := ⟨_, rfl⟩
  have hz' := hz.symm
  clear hz
  cases set <;> cases z
  all_goals
    go_enter Tryd.func14, Tryd.ntmps14
    go_wp2_with fail
    go_ret
    exact ⟨by simp, Below.refl _ _⟩

theorem absent_lit (op s : ByteArray) (set : Bool) (k : Nat) (hk : k < 4) (h1 : op = opk k) (w : World) (ht : Tab w) : Calls Tryd.prog 13 #[.string op, .bool set, .string s] w fun e w' => e = .returned (.bool (!set)) ∧ Below w.heap.size w w' := by
  subst h1
  have h1 := (opk_kind k hk).1
  have hsz : 0 < (opk k).size := by match k, hk with | 0, _ => decide | 1, _ => decide | 2, _ => decide | 3, _ => decide
  have := absent_yes (opk k) s set w ht (by rw [h1]; omega) hsz
  have h2 : ((opk k)[0] == 58) = false := by match k, hk with | 0, _ => rfl | 1, _ => rfl | 2, _ => rfl | 3, _ => rfl
  rw [h2, Bool.false_and, Bool.or_false] at this
  exact this
theorem absent_col (op s : ByteArray) (set : Bool) (k : Nat) (hk : k < 4) (h1 : op = opc k) (w : World) (ht : Tab w) : Calls Tryd.prog 13 #[.string op, .bool set, .string s] w fun e w' => e = .returned (.bool (!set || s.toList.isEmpty)) ∧ Below w.heap.size w w' := by
  subst h1
  have h1 := (opk_kind k hk).2
  have hsz : 0 < (opc k).size := by match k, hk with | 0, _ => decide | 1, _ => decide | 2, _ => decide | 3, _ => decide
  have := absent_yes (opc k) s set w ht (by rw [h1]; omega) hsz
  have h2 : ((opc k)[0] == 58) = true := by match k, hk with | 0, _ => rfl | 1, _ => rfl | 2, _ => rfl | 3, _ => rfl
  rw [h2, Bool.true_and] at this
  exact this
/-- Whatever the operator: both tell one. -/
theorem absent_both (op s : ByteArray) (set : Bool) : ∃ b : Bool,
    (∀ w, Tab w → Calls Tryd.prog 13 #[.string op, .bool set, .string s] w fun e w' => e = .returned (.bool b) ∧ Below w.heap.size w w') ∧
    ∀ w, Calls Tryd.prog 14 #[.string op, .bool set, .string s] w fun e w' => e = .returned (.bool b) ∧ Below w.heap.size w w' := by
  by_cases b0 : (op.toList == [58, 45]) = true
  · obtain rfl := bytes_of_list b0
    exact ⟨_, fun w ht => absent_col _ s set 0 (by decide) rfl w ht, fun w => rabsent_0 s set w⟩
  have h0 : (op.toList == [58, 45]) = false := eq_false_of_ne_true b0
  clear b0
  by_cases b1 : (op.toList == [58, 61]) = true
  · obtain rfl := bytes_of_list b1
    exact ⟨_, fun w ht => absent_col _ s set 1 (by decide) rfl w ht, fun w => rabsent_1 s set w⟩
  have h1 : (op.toList == [58, 61]) = false := eq_false_of_ne_true b1
  clear b1
  by_cases b2 : (op.toList == [58, 63]) = true
  · obtain rfl := bytes_of_list b2
    exact ⟨_, fun w ht => absent_col _ s set 2 (by decide) rfl w ht, fun w => rabsent_2 s set w⟩
  have h2 : (op.toList == [58, 63]) = false := eq_false_of_ne_true b2
  clear b2
  by_cases b3 : (op.toList == [58, 43]) = true
  · obtain rfl := bytes_of_list b3
    exact ⟨_, fun w ht => absent_col _ s set 3 (by decide) rfl w ht, fun w => rabsent_3 s set w⟩
  have h3 : (op.toList == [58, 43]) = false := eq_false_of_ne_true b3
  clear b3
  by_cases b4 : (op.toList == [45]) = true
  · obtain rfl := bytes_of_list b4
    exact ⟨_, fun w ht => absent_lit _ s set 0 (by decide) rfl w ht, fun w => rabsent_4 s set w⟩
  have h4 : (op.toList == [45]) = false := eq_false_of_ne_true b4
  clear b4
  by_cases b5 : (op.toList == [61]) = true
  · obtain rfl := bytes_of_list b5
    exact ⟨_, fun w ht => absent_lit _ s set 1 (by decide) rfl w ht, fun w => rabsent_5 s set w⟩
  have h5 : (op.toList == [61]) = false := eq_false_of_ne_true b5
  clear b5
  by_cases b6 : (op.toList == [63]) = true
  · obtain rfl := bytes_of_list b6
    exact ⟨_, fun w ht => absent_lit _ s set 2 (by decide) rfl w ht, fun w => rabsent_6 s set w⟩
  have h6 : (op.toList == [63]) = false := eq_false_of_ne_true b6
  clear b6
  by_cases b7 : (op.toList == [43]) = true
  · obtain rfl := bytes_of_list b7
    exact ⟨_, fun w ht => absent_lit _ s set 3 (by decide) rfl w ht, fun w => rabsent_7 s set w⟩
  have h7 : (op.toList == [43]) = false := eq_false_of_ne_true b7
  clear b7
  exact ⟨_, fun w ht => absent_no op s set w ht (kind_far op h0 h1 h2 h3 h4 h5 h6 h7), fun w => rabsent_none op s set w h0 h1 h2 h3 h4 h5 h6 h7⟩
end Go.Proofs.YtmjdlilmackneaaDoor

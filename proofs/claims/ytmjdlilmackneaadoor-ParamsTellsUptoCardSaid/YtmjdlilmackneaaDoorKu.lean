/- cowrieref01.In, cowrieref18.Kind, Absent: what they tell; conditions: as each theorem states. -/
import Derived.Test.YtmjdlilmackneaaDoorKd
import Derived.Test.YtmjdlilmackneaaDoorKt
namespace Go.Proofs.YtmjdlilmackneaaDoor
open Go.RowKit

/-- Is one of n texts a text? -/
def anyT (f : Nat → ByteArray) (n : Nat) (s : ByteArray) : Bool := (List.range n).any fun j => (f j).toList == s.toList
theorem anyT_hit {f : Nat → ByteArray} {n k : Nat} {s : ByteArray} (hk : k < n) (h : ((f k).toList == s.toList) = true) : anyT f n s = true := by
  unfold anyT
  rw [List.any_eq_true]
  exact ⟨k, List.mem_range.2 hk, h⟩
theorem anyT_miss {f : Nat → ByteArray} {n : Nat} {s : ByteArray} (h : ∀ j, j < n → ((f j).toList == s.toList) = false) : anyT f n s = false := by
  unfold anyT
  rw [List.any_eq_false]
  intro j hj
  rw [h j (List.mem_range.1 hj)]
  simp

set_option maxRecDepth 100000 in
set_option maxHeartbeats 2000000 in
theorem in01_any (g n : Nat) (f : Nat → ByteArray) (s : ByteArray) (w : World) (hn : n ≤ 4194304) (hg : g < w.heap.size) (hc : ∀ j, j < n → w.cell? ⟨g, j, none⟩ = some (.string (f j))) :
    Calls Tryd.prog 30 #[.slice (some ⟨g, 0, none⟩) n n, .string s] w fun e w' => e = .returned (.bool (anyT f n s)) ∧ Below w.heap.size w w' := by
  have HC := Lib.hid hc
  clear hc
  go_enter Tryd.func30, Tryd.ntmps30
  go_wp2_with fail
  go_loopw [5] (fun i wr => ∃ k : Nat, k ≤ n ∧ i = .int .i64 k ∧ Hid (∀ j, j < k → ((f j).toList == s.toList) = false) ∧ Hid (Below w.heap.size w wr)) (fun i _ => n - (intOf i).toNat)
  case atStart => exact ⟨0, Nat.zero_le _, rfl, fun j h => by omega, Below.refl _ _⟩
  case round =>
    obtain ⟨k, hk, rfl, hz, hb⟩ := hrel
    by_cases hlt : k < n
    · have d0 := (hb.out.cell (p := ⟨g, k, none⟩) hg).trans (HC.out k hlt)
      obtain ⟨x, hx⟩ : ∃ x, x = f k := ⟨_, rfl⟩
      rw [← hx] at d0
      have HX := Lib.hid hx
      obtain ⟨r, hr⟩ : ∃ r, r = (x.toList == s.toList) := ⟨_, rfl⟩
      have hr' := hr.symm
      have HR := Lib.hid hr
      clear hx hr
      cases r
      · go_wp2_with fail
        go_roundw
        case rel =>
          refine ⟨k + 1, by omega, by go_num, fun j hj => ?_, hb.out⟩
          by_cases e' : j = k
          · subst e'
            rw [← HX.out]
            exact HR.out.symm
          · exact hz.out j (by omega)
        case measure => simp [intOf]; omega
      · go_wp2_with fail
        go_ret
        exact ⟨ret_b (anyT_hit hlt (by rw [← HX.out]; exact HR.out.symm)).symm, hb.out⟩
    · go_wp2_with fail
      go_ret
      obtain rfl : k = n := by omega
      exact ⟨ret_b (anyT_miss hz.out).symm, hb.out⟩

def kel : Nat → ByteArray
  | 0 => ⟨#[58]⟩
  | 1 => ⟨#[47]⟩
  | 2 => ⟨#[47, 47]⟩
  | 3 => ⟨#[94]⟩
  | 4 => ⟨#[94, 94]⟩
  | 5 => ⟨#[44]⟩
  | 6 => ⟨#[44, 44]⟩
  | 7 => ⟨#[91, 93]⟩
  | 8 => ⟨#[91, 64, 93]⟩
  | 9 => ⟨#[91, 42, 93]⟩
  | _ => ⟨#[108, 101, 110, 91, 64, 93]⟩
theorem dl {op : ByteArray} {l : List UInt8} (h : (op.toList == l) = false) : (op.data.toList == l) = false := by
  rw [ByteArray.toList_eq] at h
  exact h
theorem kel_any (op : ByteArray) : anyT kel 11 op = isK op 6 := by
  have h : ∀ l : List UInt8, ((⟨l.toArray⟩ : ByteArray).toList == op.toList) = (op.data.toList == l) := fun l => by
    rw [ByteArray.toList_eq, ByteArray.toList_eq]
    show (l == op.data.toList) = _
    exact Bool.beq_comm
  have h1 : anyT kel 11 op = (kls 6).contains op.data.toList := by
    have e : anyT kel 11 op = (((⟨#[58]⟩ : ByteArray).toList == op.toList) || (((⟨#[47]⟩ : ByteArray).toList == op.toList) || (((⟨#[47, 47]⟩ : ByteArray).toList == op.toList) || (((⟨#[94]⟩ : ByteArray).toList == op.toList) || (((⟨#[94, 94]⟩ : ByteArray).toList == op.toList) || (((⟨#[44]⟩ : ByteArray).toList == op.toList) || (((⟨#[44, 44]⟩ : ByteArray).toList == op.toList) || (((⟨#[91, 93]⟩ : ByteArray).toList == op.toList) || (((⟨#[91, 64, 93]⟩ : ByteArray).toList == op.toList) || (((⟨#[91, 42, 93]⟩ : ByteArray).toList == op.toList) || (((⟨#[108, 101, 110, 91, 64, 93]⟩ : ByteArray).toList == op.toList) || false))))))))))) := rfl
    rw [e]
    simp only [h, kls, List.contains_cons, List.contains_nil]
  rw [h1]
  unfold isK
  cases hc : (kls 6).contains op.data.toList
  · simp
  · have : op.data.toList ≠ [] := by
      intro h0
      rw [h0] at hc
      exact absurd hc (by decide)
    cases hl : op.data.toList with
    | nil => exact absurd hl this
    | cons a l => rfl
theorem isK_none (op : ByteArray) (h0 : (op.toList == [58, 45]) = false) (h1 : (op.toList == [45]) = false) (h2 : (op.toList == [58, 61]) = false) (h3 : (op.toList == [61]) = false) (h4 : (op.toList == [58, 63]) = false) (h5 : (op.toList == [63]) = false) (h6 : (op.toList == [58, 43]) = false) (h7 : (op.toList == [43]) = false) (h8 : (op.toList == [35]) = false) (h9 : (op.toList == [35, 35]) = false) (h10 : (op.toList == [37]) = false) (h11 : (op.toList == [37, 37]) = false) (h12 : (op.toList == [108, 101, 110]) = false) : ∀ k, k < 6 → isK op k = false := by
  have g0 := dl h0
  have g1 := dl h1
  have g2 := dl h2
  have g3 := dl h3
  have g4 := dl h4
  have g5 := dl h5
  have g6 := dl h6
  have g7 := dl h7
  have g8 := dl h8
  have g9 := dl h9
  have g10 := dl h10
  have g11 := dl h11
  have g12 := dl h12
  intro k hk
  match k, hk with
  | 0, _ => simp only [isK, kls, List.contains_cons, List.contains_nil, g0, g1]; simp
  | 1, _ => simp only [isK, kls, List.contains_cons, List.contains_nil, g2, g3]; simp
  | 2, _ => simp only [isK, kls, List.contains_cons, List.contains_nil, g4, g5]; simp
  | 3, _ => simp only [isK, kls, List.contains_cons, List.contains_nil, g6, g7]; simp
  | 4, _ => simp only [isK, kls, List.contains_cons, List.contains_nil, g8, g9, g10, g11]; simp
  | 5, _ => simp only [isK, kls, List.contains_cons, List.contains_nil, g12]; simp
theorem kind_none (op : ByteArray) (h0 : (op.toList == [58, 45]) = false) (h1 : (op.toList == [45]) = false) (h2 : (op.toList == [58, 61]) = false) (h3 : (op.toList == [61]) = false) (h4 : (op.toList == [58, 63]) = false) (h5 : (op.toList == [63]) = false) (h6 : (op.toList == [58, 43]) = false) (h7 : (op.toList == [43]) = false) (h8 : (op.toList == [35]) = false) (h9 : (op.toList == [35, 35]) = false) (h10 : (op.toList == [37]) = false) (h11 : (op.toList == [37, 37]) = false) (h12 : (op.toList == [108, 101, 110]) = false) : kindI op = if anyT kel 11 op then 7 else 0 := by
  have hn := isK_none op h0 h1 h2 h3 h4 h5 h6 h7 h8 h9 h10 h11 h12
  rw [kel_any]
  cases h6 : isK op 6
  · exact kindI_miss fun j hj => by
      by_cases e : j = 6
      · subst e; exact h6
      · exact hn j (by omega)
  · exact kindI_hit (k := 6) (by decide) h6 fun j hj => hn j hj

set_option maxRecDepth 100000 in
set_option maxHeartbeats 4000000 in
theorem rkind_none (op : ByteArray) (w : World) (h0 : (op.toList == [58, 45]) = false) (h1 : (op.toList == [45]) = false) (h2 : (op.toList == [58, 61]) = false) (h3 : (op.toList == [61]) = false) (h4 : (op.toList == [58, 63]) = false) (h5 : (op.toList == [63]) = false) (h6 : (op.toList == [58, 43]) = false) (h7 : (op.toList == [43]) = false) (h8 : (op.toList == [35]) = false) (h9 : (op.toList == [35, 35]) = false) (h10 : (op.toList == [37]) = false) (h11 : (op.toList == [37, 37]) = false) (h12 : (op.toList == [108, 101, 110]) = false) :
    Calls Tryd.prog 16 #[.string op] w fun e w' => e = .returned (.int .i64 (kindI op)) ∧ Below w.heap.size w w' := by
  rw [kind_none op h0 h1 h2 h3 h4 h5 h6 h7 h8 h9 h10 h11 h12]
  obtain ⟨W, hW⟩ : ∃ W, W = w.alloc (.cells #[.string ⟨#[58]⟩, .string ⟨#[47]⟩, .string ⟨#[47, 47]⟩, .string ⟨#[94]⟩, .string ⟨#[94, 94]⟩, .string ⟨#[44]⟩, .string ⟨#[44, 44]⟩, .string ⟨#[91, 93]⟩, .string ⟨#[91, 64, 93]⟩, .string ⟨#[91, 42, 93]⟩, .string ⟨#[108, 101, 110, 91, 64, 93]⟩] 9) := ⟨_, rfl⟩
  have HI : Hid (Calls Tryd.prog 30 #[.slice (some ⟨w.heap.size, 0, none⟩) 11 11, .string op] W fun e w' => e = .returned (.bool (anyT kel 11 op)) ∧ Below W.heap.size W w') := by
    refine in01_any w.heap.size 11 kel op W (by decide) (by rw [hW]; simp) ?_
    intro j hj
    rw [hW, World.cell?_alloc_new]
    match j, hj with
    | 0, _ => rfl
    | 1, _ => rfl
    | 2, _ => rfl
    | 3, _ => rfl
    | 4, _ => rfl
    | 5, _ => rfl
    | 6, _ => rfl
    | 7, _ => rfl
    | 8, _ => rfl
    | 9, _ => rfl
    | 10, _ => rfl
  have HB : Hid (Below w.heap.size w W) := hW ▸ (Below.refl _ _).alloc (Nat.le_refl _) _
  obtain ⟨r, hr⟩ : ∃ r, r = anyT kel 11 op := ⟨_, rfl⟩
  rw [← hr] at HI ⊢
  clear hr
  cases r
  all_goals
    go_enter Tryd.func16, Tryd.ntmps16
    go_wp2_with fail
    rw [← hW]
    refine HI.out.mono ?_
    rintro e w1 ⟨rfl, hb1⟩
    have HB1 := Lib.hid (HB.out.trans (hb1.mono HB.out.size))
    clear hb1
    go_wp2_with fail
    go_ret
    exact ⟨by simp, HB1.out⟩

set_option maxRecDepth 100000 in
set_option maxHeartbeats 4000000 in
theorem rkind_any (op : ByteArray) (w : World) :
    Calls Tryd.prog 16 #[.string op] w fun e w' => e = .returned (.int .i64 (kindI op)) ∧ Below w.heap.size w w' := by
  by_cases b0 : (op.toList == [58, 45]) = true
  · obtain rfl := bytes_of_list b0
    clear b0
    rw [show kindI ⟨#[58, 45]⟩ = 1 by decide]
    go_enter Tryd.func16, Tryd.ntmps16
    go_wp2_with fail
    go_ret
    exact ⟨by simp, Below.refl _ _⟩
  have h0 : (op.toList == [58, 45]) = false := eq_false_of_ne_true b0
  clear b0
  by_cases b1 : (op.toList == [45]) = true
  · obtain rfl := bytes_of_list b1
    clear b1
    rw [show kindI ⟨#[45]⟩ = 1 by decide]
    go_enter Tryd.func16, Tryd.ntmps16
    go_wp2_with fail
    go_ret
    exact ⟨by simp, Below.refl _ _⟩
  have h1 : (op.toList == [45]) = false := eq_false_of_ne_true b1
  clear b1
  by_cases b2 : (op.toList == [58, 61]) = true
  · obtain rfl := bytes_of_list b2
    clear b2
    rw [show kindI ⟨#[58, 61]⟩ = 2 by decide]
    go_enter Tryd.func16, Tryd.ntmps16
    go_wp2_with fail
    go_ret
    exact ⟨by simp, Below.refl _ _⟩
  have h2 : (op.toList == [58, 61]) = false := eq_false_of_ne_true b2
  clear b2
  by_cases b3 : (op.toList == [61]) = true
  · obtain rfl := bytes_of_list b3
    clear b3
    rw [show kindI ⟨#[61]⟩ = 2 by decide]
    go_enter Tryd.func16, Tryd.ntmps16
    go_wp2_with fail
    go_ret
    exact ⟨by simp, Below.refl _ _⟩
  have h3 : (op.toList == [61]) = false := eq_false_of_ne_true b3
  clear b3
  by_cases b4 : (op.toList == [58, 63]) = true
  · obtain rfl := bytes_of_list b4
    clear b4
    rw [show kindI ⟨#[58, 63]⟩ = 3 by decide]
    go_enter Tryd.func16, Tryd.ntmps16
    go_wp2_with fail
    go_ret
    exact ⟨by simp, Below.refl _ _⟩
  have h4 : (op.toList == [58, 63]) = false := eq_false_of_ne_true b4
  clear b4
  by_cases b5 : (op.toList == [63]) = true
  · obtain rfl := bytes_of_list b5
    clear b5
    rw [show kindI ⟨#[63]⟩ = 3 by decide]
    go_enter Tryd.func16, Tryd.ntmps16
    go_wp2_with fail
    go_ret
    exact ⟨by simp, Below.refl _ _⟩
  have h5 : (op.toList == [63]) = false := eq_false_of_ne_true b5
  clear b5
  by_cases b6 : (op.toList == [58, 43]) = true
  · obtain rfl := bytes_of_list b6
    clear b6
    rw [show kindI ⟨#[58, 43]⟩ = 4 by decide]
    go_enter Tryd.func16, Tryd.ntmps16
    go_wp2_with fail
    go_ret
    exact ⟨by simp, Below.refl _ _⟩
  have h6 : (op.toList == [58, 43]) = false := eq_false_of_ne_true b6
  clear b6
  by_cases b7 : (op.toList == [43]) = true
  · obtain rfl := bytes_of_list b7
    clear b7
    rw [show kindI ⟨#[43]⟩ = 4 by decide]
    go_enter Tryd.func16, Tryd.ntmps16
    go_wp2_with fail
    go_ret
    exact ⟨by simp, Below.refl _ _⟩
  have h7 : (op.toList == [43]) = false := eq_false_of_ne_true b7
  clear b7
  by_cases b8 : (op.toList == [35]) = true
  · obtain rfl := bytes_of_list b8
    clear b8
    rw [show kindI ⟨#[35]⟩ = 5 by decide]
    go_enter Tryd.func16, Tryd.ntmps16
    go_wp2_with fail
    go_ret
    exact ⟨by simp, Below.refl _ _⟩
  have h8 : (op.toList == [35]) = false := eq_false_of_ne_true b8
  clear b8
  by_cases b9 : (op.toList == [35, 35]) = true
  · obtain rfl := bytes_of_list b9
    clear b9
    rw [show kindI ⟨#[35, 35]⟩ = 5 by decide]
    go_enter Tryd.func16, Tryd.ntmps16
    go_wp2_with fail
    go_ret
    exact ⟨by simp, Below.refl _ _⟩
  have h9 : (op.toList == [35, 35]) = false := eq_false_of_ne_true b9
  clear b9
  by_cases b10 : (op.toList == [37]) = true
  · obtain rfl := bytes_of_list b10
    clear b10
    rw [show kindI ⟨#[37]⟩ = 5 by decide]
    go_enter Tryd.func16, Tryd.ntmps16
    go_wp2_with fail
    go_ret
    exact ⟨by simp, Below.refl _ _⟩
  have h10 : (op.toList == [37]) = false := eq_false_of_ne_true b10
  clear b10
  by_cases b11 : (op.toList == [37, 37]) = true
  · obtain rfl := bytes_of_list b11
    clear b11
    rw [show kindI ⟨#[37, 37]⟩ = 5 by decide]
    go_enter Tryd.func16, Tryd.ntmps16
    go_wp2_with fail
    go_ret
    exact ⟨by simp, Below.refl _ _⟩
  have h11 : (op.toList == [37, 37]) = false := eq_false_of_ne_true b11
  clear b11
  by_cases b12 : (op.toList == [108, 101, 110]) = true
  · obtain rfl := bytes_of_list b12
    clear b12
    rw [show kindI ⟨#[108, 101, 110]⟩ = 6 by decide]
    go_enter Tryd.func16, Tryd.ntmps16
    go_wp2_with fail
    go_ret
    exact ⟨by simp, Below.refl _ _⟩
  have h12 : (op.toList == [108, 101, 110]) = false := eq_false_of_ne_true b12
  clear b12
  exact rkind_none op w h0 h1 h2 h3 h4 h5 h6 h7 h8 h9 h10 h11 h12
end Go.Proofs.YtmjdlilmackneaaDoor

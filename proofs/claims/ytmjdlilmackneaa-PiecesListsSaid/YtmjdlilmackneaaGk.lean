/- slices.Clone of texts, pieces.Element, PutElement; conditions: as each theorem states. -/
import Derived.Test.YtmjdlilmackneaaGj
import Derived.Laws.OwnMore
namespace Go.Proofs.Ytmjdlilmackneaa
open Go.RowKit

/-- Texts as they lie from a cell on. -/
def Texts (b o n : Nat) (f : Nat → ByteArray) (w : World) : Prop := ∀ j, j < n → w.cell? ⟨b, o + j, none⟩ = some (.string (f j))
def strs (f : Nat → ByteArray) (n : Nat) : List Value := (List.range n).map fun j => .string (f j)
theorem strs_length (f : Nat → ByteArray) (n : Nat) : (strs f n).length = n := by simp [strs]
theorem strs_at (f : Nat → ByteArray) (n j : Nat) (h : j < n) : (strs f n)[j]? = some (.string (f j)) := by simp [strs, h]
set_option maxRecDepth 100000 in
theorem info_str : (Try.prog.info? 9).map (fun i => (i.zero, i.size, i.bytes)) = some (some (.string ByteArray.empty), 1, 16) := by kernel_rfl

set_option maxRecDepth 100000 in
set_option maxHeartbeats 1000000 in
theorem clone_nil (w : World) : Calls Try.prog 33 #[.slice none 0 0] w fun e w' => e = .returned (.slice none 0 0) ∧ w = w' := by
  have hnil := Lib.run_eql_slice_nil (P := Try.prog)
  go_enter Try.func33, Try.ntmps33
  go_wp2
  go_ret
  exact ⟨rfl, rfl⟩

set_option maxRecDepth 100000 in
set_option maxHeartbeats 1000000 in
theorem clone_any (ad : Addr) (b o n cap : Nat) (f : Nat → ByteArray) (w : World) (had : 0 < n → ad = ⟨b, o, none⟩) (hf : Texts b o n f w) (hb : 0 < n → b < w.heap.size) (hn : n ≤ 8796093021952) : Calls Try.prog 33 #[.slice (some ad) n cap] w fun e w' => ∃ v, e = .returned v ∧ w'.ownsRow w.heap.size 9 1 v n (strs f n) ∧ Below w.heap.size w w' := by
  obtain ⟨i0, hi0, hz0, hz1, hz2⟩ := info_parts info_str
  have hnil := Lib.run_eql_slice_nil (P := Try.prog)
  have hown : Hid ((w.alloc (.cells #[] 9)).ownsRow w.heap.size 9 1 (.slice (some ⟨w.heap.size, 0, none⟩) 0 0) 0 []) := World.ownsRow_lit w #[] 0 (Nat.le_refl _) (by decide) rfl
  have hnn : Hid (0 + n ≤ maxLen) := by show _ ≤ _; unfold maxLen; omega
  have hnb : Hid ((0 + n) * 16 ≤ 140737488355328) := by show _ ≤ _; omega
  have hnews : Hid (∀ j u, (strs f n)[j]? = some u → (w.alloc (.cells #[] 9)).cell? (ad.add j) = some u) := fun j u hu => by
    have hj : j < n := by
      have := (List.getElem?_eq_some_iff.1 hu).1
      rwa [strs_length] at this
    rw [strs_at f n j hj] at hu
    rw [had (by omega), Addr.add_lit, World.cell?_alloc_past _ _ _ (hb (by omega)), hf j hj]
    exact hu
  have hl : Hid ((strs f n).length = n * 1) := by show _ = _; rw [strs_length]; omega
  have hone : Hid (∀ u ∈ strs f n, u.oneCell' = true) := fun u hu => by
    simp only [strs, List.mem_map] at hu
    obtain ⟨j, _, rfl⟩ := hu
    rfl
  clear hf hb had
  go_enter Try.func33, Try.ntmps33
  go_wp2_with (at_builtin; refine wpList_append_own _ rfl _ _ 39 rfl w.heap.size 9 i0 _ 1 16 Try.underlying39 hi0 hz0 hz1 hz2 rfl (by omega) (.slice (some ⟨w.heap.size, 0, none⟩) 0 0) 0 [] rfl hown.out ad n cap (strs f n) rfl hl.out hnews.out hone.out hnn.out hnb.out (by simp) ?_; intro v2 w2 hown2 hgrow _; simp only [Nat.zero_add, List.nil_append] at hown2)
  go_ret
  exact ⟨_, rfl, hown2, ((Below.refl _ _).alloc (Nat.le_refl _) _).grown hgrow (by simp) (fun k hk => by cases hk; exact Nat.le_refl _)⟩

set_option maxRecDepth 100000 in
set_option maxHeartbeats 1000000 in
theorem element_in (ao : Option Addr) (b o n cap : Nat) (f : Nat → ByteArray) (k : Nat) (w : World) (ha : ao = some ⟨b, o, none⟩) (hf : w.cell? ⟨b, o + k, none⟩ = some (.string (f k))) (hk : k < n) :
    Calls Try.prog 25 #[.slice ao n cap, .int .i64 (k : Int)] w fun e w' => e = .returned (.tuple #[.string (f k), .int .i64 0]) ∧ w = w' := by
  subst ha
  have h0 : (0 : Int) ≤ (k : Int) := Int.natCast_nonneg _
  have h1 : (k : Int) < (n : Int) := by omega
  have h2 : decide ((k : Int) < 0) = false := decide_eq_false (by omega)
  have h3 : decide ((n : Int) ≤ (k : Int)) = false := decide_eq_false (by omega)
  go_enter Try.func25, Try.ntmps25
  go_wp2
  go_ret2
  exact ⟨rfl, rfl⟩

set_option maxRecDepth 100000 in
set_option maxHeartbeats 1000000 in
theorem put_low (v : Value) (s : ByteArray) (k : Int) (w : World) (hv : ∃ ao n c, v = .slice ao n c) (hk : k < 0) :
    Calls Try.prog 23 #[v, .int .i64 k, .string s] w fun e w' => e = .returned (.tuple #[.slice none 0 0, .int .i64 4]) ∧ w = w' := by
  obtain ⟨ao, n, c, rfl⟩ := hv
  have h2 : decide (k < 0) = true := decide_eq_true hk
  go_enter Try.func23, Try.ntmps23
  go_wp2
  go_ret2
  exact ⟨rfl, rfl⟩
set_option maxRecDepth 100000 in
set_option maxHeartbeats 1000000 in
theorem put_high (ao : Option Addr) (n c : Nat) (s : ByteArray) (k : Int) (w : World) (hk : (n : Int) < k) :
    Calls Try.prog 23 #[.slice ao n c, .int .i64 k, .string s] w fun e w' => e = .returned (.tuple #[.slice none 0 0, .int .i64 4]) ∧ w = w' := by
  have h2 : decide (k < 0) = false := decide_eq_false (by omega)
  have h3 : decide ((n : Int) < k) = true := decide_eq_true hk
  go_enter Try.func23, Try.ntmps23
  go_wp2
  go_ret2
  exact ⟨rfl, rfl⟩
set_option maxRecDepth 100000 in
set_option maxHeartbeats 1000000 in
theorem put_full (ao : Option Addr) (n c : Nat) (s : ByteArray) (w : World) (hk : 1024 ≤ n) :
    Calls Try.prog 23 #[.slice ao n c, .int .i64 (n : Int), .string s] w fun e w' => e = .returned (.tuple #[.slice none 0 0, .int .i64 17]) ∧ w = w' := by
  have h2 : decide ((n : Int) < 0) = false := decide_eq_false (by omega)
  have h3 : decide ((n : Int) < (n : Int)) = false := decide_eq_false (by omega)
  have h4 : decide ((1024 : Int) ≤ (n : Int)) = true := decide_eq_true (by omega)
  have h5 : decide (1024 ≤ n) = true := decide_eq_true hk
  have h6 : ((n : Int) == (n : Int)) = true := by simp
  go_enter Try.func23, Try.ntmps23
  go_wp2
  go_ret2
  exact ⟨rfl, rfl⟩

/-- What lies behind PutElement: texts of the call's own. -/
def PutPost (n k : Nat) (f : Nat → ByteArray) (s : ByteArray) (w : World) (e : Ending) (w' : World) : Prop :=
  ∃ g cap m, m = max n (k + 1) ∧ e = .returned (.tuple #[.slice (some ⟨g, 0, none⟩) m cap, .int .i64 0]) ∧ Texts g 0 m (fun j => if j = k then s else f j) w' ∧ g < w'.heap.size ∧ Below w.heap.size w w'

theorem row_cap {base g n cap : Nat} {xs : List Value} {w : World} (h : w.ownsRow base 9 1 (.slice (some ⟨g, 0, none⟩) n cap) n xs) : n ≤ cap := by
  rcases h.2 with ⟨h1, _⟩ | ⟨g', cap', cur, hv, _, _, h3, _⟩
  · cases h1
  · cases hv
    exact h3
theorem put_cell {base g n cap : Nat} {xs : List Value} {w : World} (h : w.ownsRow base 9 1 (.slice (some ⟨g, 0, none⟩) n cap) n xs) {j : Nat} (hj : j < n) : ∃ u, w.cell? ⟨g, j, none⟩ = some u := by
  rw [h.cellAt j (by omega)]
  exact ⟨_, List.getElem?_eq_getElem (by rw [h.1]; omega)⟩
theorem put_cells {base g n cap k : Nat} {f : Nat → ByteArray} {s : ByteArray} {w : World} {u : Value} (h : w.ownsRow base 9 1 (.slice (some ⟨g, 0, none⟩) (n + 1) cap) (n + 1) (strs f n ++ [.string ⟨#[]⟩])) (hu : w.cell? ⟨g, k, none⟩ = some u) {m : Nat} (hmk : m = n ∨ (m = n + 1 ∧ k = n)) :
    Texts g 0 m (fun j => if j = k then s else f j) (w.setCell ⟨g, k, none⟩ (.string s)) := by
  intro j hj
  rw [Nat.zero_add]
  show (w.setCell ⟨g, k, none⟩ (.string s)).cell? ⟨g, j, none⟩ = some (.string (if j = k then s else f j))
  by_cases e : j = k
  · subst e
    rw [if_pos rfl]
    exact World.cell?_setCell_same w _ _ hu
  · rw [if_neg e, World.cell?_setCell_other w _ _ _ (fun h => e (by injection h with _ h; exact h.symm)), h.cellAt j (by omega), List.getElem?_append_left (by rw [strs_length]; omega), strs_at f n j (by omega)]

set_option maxRecDepth 100000 in
set_option maxHeartbeats 2000000 in
theorem put_any (v : Value) (b o n cap : Nat) (f : Nat → ByteArray) (s : ByteArray) (k : Nat) (w : World) (hv : (v = .slice none 0 0 ∧ n = 0) ∨ ∃ ad, v = .slice (some ad) n cap ∧ (0 < n → ad = ⟨b, o, none⟩)) (hf : Texts b o n f w) (hb : 0 < n → b < w.heap.size) (hn : n ≤ 8796093021952) (hk : k ≤ n) (hfull : ¬ (k = n ∧ 1024 ≤ n)) :
    Calls Try.prog 23 #[v, .int .i64 (k : Int), .string s] w fun e w' => PutPost n k f s w e w' := by
  obtain ⟨i0, hi0, hz0, hz1, hz2⟩ := info_parts info_str
  have HC : Hid (Calls Try.prog 33 #[v] w fun e w' => ∃ v, e = .returned v ∧ w'.ownsRow w.heap.size 9 1 v n (strs f n) ∧ Below w.heap.size w w') := by
    rcases hv with ⟨rfl, rfl⟩ | ⟨ad, rfl, had⟩
    · refine (clone_nil w).mono ?_
      rintro e w' ⟨rfl, rfl⟩
      exact ⟨_, rfl, World.ownsRow_nil _ _ _ _, Below.refl _ _⟩
    · exact clone_any ad b o n cap f w had hf hb hn
  obtain ⟨ao, c, rfl⟩ : ∃ ao c, v = .slice ao n c := by
    rcases hv with ⟨rfl, rfl⟩ | ⟨ad, rfl, had⟩
    · exact ⟨_, _, rfl⟩
    · exact ⟨_, _, rfl⟩
  clear hv hf hb
  have h2 : decide ((k : Int) < 0) = false := decide_eq_false (by omega)
  have h3 : decide ((n : Int) < (k : Int)) = false := decide_eq_false (by omega)
  have h3' : decide (n < k) = false := decide_eq_false (by omega)
  have h0 : (0 : Int) ≤ (k : Int) := Int.natCast_nonneg _
  have hnn : Hid (n + 1 ≤ maxLen) := by show _ ≤ _; unfold maxLen; omega
  have hnb : Hid ((n + 1) * 16 ≤ 140737488355328) := by show _ ≤ _; omega
  have hcase : (((k : Int) == (n : Int)) = false ∧ k < n) ∨ (k = n ∧ decide ((1024 : Int) ≤ (n : Int)) = false ∧ n < 1024) := by
    by_cases e : k = n
    · exact Or.inr ⟨e, decide_eq_false (by omega), by omega⟩
    · exact Or.inl ⟨by rw [beq_eq_false_iff_ne]; omega, by omega⟩
  rcases hcase with ⟨h4, h5⟩ | ⟨rfl, h4, h5⟩
  · have hmx : Hid (max n (k + 1) = n) := by show _ = _; omega
    have e1 : ¬ (n : Int) < (k : Int) + 1 := by omega
    go_enter Try.func23, Try.ntmps23
    go_wp2_with fail
    refine HC.out.mono ?_
    rintro e w1 ⟨v1, rfl, ho, hb1⟩
    have HO := Lib.hid ho
    have HB := Lib.hid hb1
    have hz1' : w.heap.size ≤ w1.heap.size := hb1.size
    clear ho hb1
    go_wp2_with (at_builtin; refine wpList_append_lies _ rfl (.tmp 28) (.tmp 29) 39 rfl w.heap.size 9 i0 _ 1 16 Try.underlying39 hi0 hz0 hz1 hz2 rfl (by omega) v1 n _ rfl (HO.out.alloc _) ⟨w1.heap.size, 0, none⟩ 1 1 [.string ⟨#[]⟩] rfl rfl (World.news_of_block (cs := #[.string ⟨#[]⟩]) (t := 9) (fr := (0, 0)) (heap_alloc_new w1 _)) (by simp [Value.oneCell']) (by omega) hnn.out hnb.out (by simp; omega) (w1.heap.size + 1) (by simp) ?_; intro g cap1 w2 hown1 hgrow hat hlt1; obtain ⟨u, hu⟩ := put_cell hown1 (j := k) (by omega); have hfz := hown1.frozenAt k; have hcp := row_cap hown1; have HOWN := Lib.hid hown1; have HBW := Lib.hid ((HB.out.alloc hz1' _).grown hgrow (by simp; omega) (fun j hj => (HO.out.lt j hj).1)); clear hown1 hgrow hat)
    go_ret2
    have hgb := (HOWN.out.lt g rfl).1
    refine ⟨g, cap1, _, hmx.out.symm, rfl, ?_, by simpa using hlt1, HBW.out.setCell (p := ⟨g, k, none⟩) hgb _⟩
    exact put_cells HOWN.out hu (by omega)
  · have hmx : Hid (max k (k + 1) = k + 1) := by show _ = _; omega
    have e1 : (k : Int) < (k : Int) + 1 := by omega
    have e2 : ((k : Int) == (k : Int)) = true := by simp
    have e3 : decide (1024 ≤ k) = false := decide_eq_false (by omega)
    go_enter Try.func23, Try.ntmps23
    go_wp2_with fail
    refine HC.out.mono ?_
    rintro e w1 ⟨v1, rfl, ho, hb1⟩
    have HO := Lib.hid ho
    have HB := Lib.hid hb1
    have hz1' : w.heap.size ≤ w1.heap.size := hb1.size
    clear ho hb1
    go_wp2_with (at_builtin; refine wpList_append_lies _ rfl (.tmp 28) (.tmp 29) 39 rfl w.heap.size 9 i0 _ 1 16 Try.underlying39 hi0 hz0 hz1 hz2 rfl (by omega) v1 k _ rfl (HO.out.alloc _) ⟨w1.heap.size, 0, none⟩ 1 1 [.string ⟨#[]⟩] rfl rfl (World.news_of_block (cs := #[.string ⟨#[]⟩]) (t := 9) (fr := (0, 0)) (heap_alloc_new w1 _)) (by simp [Value.oneCell']) (by omega) hnn.out hnb.out (by simp; omega) (w1.heap.size + 1) (by simp) ?_; intro g cap1 w2 hown1 hgrow hat hlt1; obtain ⟨u, hu⟩ := put_cell hown1 (j := k) (by omega); have hfz := hown1.frozenAt k; have hcp := row_cap hown1; have HOWN := Lib.hid hown1; have HBW := Lib.hid ((HB.out.alloc hz1' _).grown hgrow (by simp; omega) (fun j hj => (HO.out.lt j hj).1)); clear hown1 hgrow hat)
    go_ret2
    have hgb := (HOWN.out.lt g rfl).1
    refine ⟨g, cap1, _, hmx.out.symm, rfl, ?_, by simpa using hlt1, HBW.out.setCell (p := ⟨g, k, none⟩) hgb _⟩
    exact put_cells HOWN.out hu (by omega)
end Go.Proofs.Ytmjdlilmackneaa

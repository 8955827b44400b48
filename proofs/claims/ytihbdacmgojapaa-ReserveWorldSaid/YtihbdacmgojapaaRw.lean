/- reserve.World and the walk of ReserveWorld; conditions: as each theorem states. -/
import Derived.Test.YtihbdacmgojapaaRs
import Derived.Lib.Strings
namespace Go.Proofs.Ytihbdacmgojapaa
open Go.RowKit

def tempL : List UInt8 := [47, 46, 112]
/-- Does one of the first names begin so? -/
def anyP (p : List UInt8) (f : Nat → ByteArray) (n : Nat) : Bool := (List.range n).any fun j => Lib.hasPrefix (f j).data.toList p
theorem anyP_succ (p : List UInt8) (f : Nat → ByteArray) (k : Nat) : anyP p f (k + 1) = (anyP p f k || Lib.hasPrefix (f k).data.toList p) := by
  unfold anyP
  rw [List.range_succ, List.any_append]
  simp
theorem anyP_of {p : List UInt8} {f : Nat → ByteArray} {k n : Nat} (h : k < n) (hk : anyP p f (k + 1) = true) : anyP p f n = true := by
  unfold anyP at hk ⊢
  rw [List.any_eq_true] at hk ⊢
  obtain ⟨j, hj, hp⟩ := hk
  rw [List.mem_range] at hj
  exact ⟨j, List.mem_range.2 (by omega), hp⟩

/-- Names as they lie in a list's elements. -/
def Vars (b o n : Nat) (f : Nat → ByteArray) (w : World) : Prop := ∀ j, j < n → ∃ v1 v2 v3 : Value, w.cell? ⟨b, o + j * 4, none⟩ = some (.string (f j)) ∧ w.cell? ⟨b, o + j * 4 + 1, none⟩ = some v1 ∧ w.cell? ⟨b, o + j * 4 + 2, none⟩ = some v2 ∧ w.cell? ⟨b, o + j * 4 + 3, none⟩ = some v3
theorem Vars.below {b o n : Nat} {f : Nat → ByteArray} {w w' : World} (h : Vars b o n f w) (hg : 0 < n → b < w.heap.size) (hb : Below w.heap.size w w') : Vars b o n f w' := fun j hj => by
  obtain ⟨v1, v2, v3, c0, c1, c2, c3⟩ := h j hj
  exact ⟨v1, v2, v3, (hb.cell (p := ⟨b, _, none⟩) (hg (by omega))).trans c0, (hb.cell (p := ⟨b, _, none⟩) (hg (by omega))).trans c1, (hb.cell (p := ⟨b, _, none⟩) (hg (by omega))).trans c2, (hb.cell (p := ⟨b, _, none⟩) (hg (by omega))).trans c3⟩
set_option maxRecDepth 100000 in
set_option maxHeartbeats 2000000 in
theorem Var_test (s : ByteArray) (v1 v2 v3 : Value) (w : World) : Calls Try.prog 19 #[.agg #[.string s, v1, v2, v3]] w fun e w' => e = .returned (.bool (Lib.hasPrefix s.data.toList pre)) ∧ Below w.heap.size w w' := by
  have HI : Hid (∀ w, Calls Try.prog 9 #[.string s] w fun e w' => e = .returned (.bool (Lib.hasPrefix s.data.toList pre)) ∧ w' = w) := fun w => reserved_any s w
  go_enter Try.func19, Try.ntmps19
  go_wp2_with fail
  refine (HI.out _).mono ?_
  rintro e w1 ⟨rfl, rfl⟩
  go_wp2
  go_ret
  exact ⟨rfl, (Below.refl _ _).alloc (Nat.le_refl _) _⟩
set_option maxRecDepth 100000 in
set_option maxHeartbeats 2000000 in
theorem Var_index (ao : Option Addr) (b o n cap : Nat) (f : Nat → ByteArray) (w : World) (ha : 0 < n → ao = some ⟨b, o, none⟩) (hg : 0 < n → b < w.heap.size) (hl : Vars b o n f w) (hm : n ≤ 9223372036854775807) :
    Calls Try.prog 31 #[.slice ao n cap, .func (.func 19) #[] #[]] w fun e w' => ∃ r : Int, e = .returned (.int .i64 r) ∧ decide (0 ≤ r) = anyP pre f n ∧ Below w.heap.size w w' := by
  have HL := Lib.hid hl
  clear hl
  go_enter Try.func31, Try.ntmps31
  go_wp2_with fail
  go_loopw [8] (fun i wr => ∃ k : Nat, k ≤ n ∧ i = .int .i64 k ∧ Hid (anyP pre f k = false) ∧ Hid (Below w.heap.size w wr)) (fun i _ => n - (intOf i).toNat)
  case atStart => exact ⟨0, Nat.zero_le _, rfl, rfl, Below.refl _ _⟩
  case round =>
    obtain ⟨k, hk, rfl, hz, hb⟩ := hrel
    by_cases hlt : k < n
    · obtain rfl := ha (by omega)
      obtain ⟨v1, v2, v3, c0, c1, c2, c3⟩ := HL.out k hlt
      have d0 := (hb.out.cell (p := ⟨b, o + k * 4, none⟩) (hg (by omega))).trans c0
      have d1 := (hb.out.cell (p := ⟨b, o + k * 4 + 1, none⟩) (hg (by omega))).trans c1
      have d2 := (hb.out.cell (p := ⟨b, o + k * 4 + 2, none⟩) (hg (by omega))).trans c2
      have d3 := (hb.out.cell (p := ⟨b, o + k * 4 + 3, none⟩) (hg (by omega))).trans c3
      clear c0 c1 c2 c3
      obtain ⟨s, hs⟩ : ∃ s, s = f k := ⟨_, rfl⟩
      rw [← hs] at d0
      obtain ⟨r, hr⟩ : ∃ r, r = Lib.hasPrefix s.data.toList pre := ⟨_, rfl⟩
      have hsn : Hid (anyP pre f (k + 1) = r) := by
        show _ = _
        rw [anyP_succ, hz.out, Bool.false_or, hr, hs]
      have HC : Hid (∀ W, Calls Try.prog 19 #[.agg #[.string s, v1, v2, v3]] W fun e w' => e = .returned (.bool r) ∧ Below W.heap.size W w') := fun W => hr ▸ Var_test s v1 v2 v3 W
      clear hr hs
      go_wp2_with fail
      refine (HC.out _).mono ?_
      rintro e' w1 ⟨rfl, hb1⟩
      have HB1 := Lib.hid (hb.out.trans (hb1.mono hb.out.size))
      clear hb1
      cases r
      · go_wp2_with fail
        go_round
        case rel => exact ⟨k + 1, by omega, by go_num, hsn.out, HB1.out⟩
        case measure => simp [intOf]; omega
      · go_wp2_with fail
        go_ret
        refine ⟨k, rfl, ?_, HB1.out⟩
        rw [anyP_of hlt hsn.out]
        simp
    · go_wp2_with fail
      go_ret
      obtain rfl : k = n := by omega
      refine ⟨-1, rfl, ?_, hb.out⟩
      rw [hz.out]
      rfl
set_option maxRecDepth 100000 in
set_option maxHeartbeats 2000000 in
theorem Var_contains (ao : Option Addr) (b o n cap : Nat) (f : Nat → ByteArray) (w : World) (ha : 0 < n → ao = some ⟨b, o, none⟩) (hg : 0 < n → b < w.heap.size) (hl : Vars b o n f w) (hm : n ≤ 9223372036854775807) :
    Calls Try.prog 18 #[.slice ao n cap, .func (.func 19) #[] #[]] w fun e w' => e = .returned (.bool (anyP pre f n)) ∧ Below w.heap.size w w' := by
  have HL := Lib.hid hl
  clear hl
  go_enter Try.func18, Try.ntmps18
  go_wp2_with fail
  refine (Var_index ao b o n cap f w ha hg HL.out hm).mono ?_
  rintro e w1 ⟨r, rfl, hr, hb⟩
  have HB := Lib.hid hb
  clear hb
  go_wp2
  go_ret
  exact ⟨by simp, HB.out⟩

/-- Names as they lie in a list's elements. -/
def Nodes (b o n : Nat) (f : Nat → ByteArray) (w : World) : Prop := ∀ j, j < n → ∃ v1 v2 : Value, w.cell? ⟨b, o + j * 3, none⟩ = some (.string (f j)) ∧ w.cell? ⟨b, o + j * 3 + 1, none⟩ = some v1 ∧ w.cell? ⟨b, o + j * 3 + 2, none⟩ = some v2
theorem Nodes.below {b o n : Nat} {f : Nat → ByteArray} {w w' : World} (h : Nodes b o n f w) (hg : 0 < n → b < w.heap.size) (hb : Below w.heap.size w w') : Nodes b o n f w' := fun j hj => by
  obtain ⟨v1, v2, c0, c1, c2⟩ := h j hj
  exact ⟨v1, v2, (hb.cell (p := ⟨b, _, none⟩) (hg (by omega))).trans c0, (hb.cell (p := ⟨b, _, none⟩) (hg (by omega))).trans c1, (hb.cell (p := ⟨b, _, none⟩) (hg (by omega))).trans c2⟩
set_option maxRecDepth 100000 in
set_option maxHeartbeats 2000000 in
theorem Node_test (s : ByteArray) (v1 v2 : Value) (w : World) : Calls Try.prog 21 #[.agg #[.string s, v1, v2]] w fun e w' => e = .returned (.bool (Lib.hasPrefix s.data.toList tempL)) ∧ Below w.heap.size w w' := by
  have HI : Hid (∀ w, Calls Try.prog 17 #[.string s, .string ⟨#[47, 46, 112]⟩] w fun e w' => e = .returned (.bool (Lib.hasPrefix s.data.toList tempL)) ∧ w' = w) := fun w => Try.strings_HasPrefix s ⟨#[47, 46, 112]⟩ w
  go_enter Try.func21, Try.ntmps21
  go_wp2_with fail
  refine (HI.out _).mono ?_
  rintro e w1 ⟨rfl, rfl⟩
  go_wp2
  go_ret
  exact ⟨rfl, (Below.refl _ _).alloc (Nat.le_refl _) _⟩
set_option maxRecDepth 100000 in
set_option maxHeartbeats 2000000 in
theorem Node_index (ao : Option Addr) (b o n cap : Nat) (f : Nat → ByteArray) (w : World) (ha : 0 < n → ao = some ⟨b, o, none⟩) (hg : 0 < n → b < w.heap.size) (hl : Nodes b o n f w) (hm : n ≤ 9223372036854775807) :
    Calls Try.prog 32 #[.slice ao n cap, .func (.func 21) #[] #[]] w fun e w' => ∃ r : Int, e = .returned (.int .i64 r) ∧ decide (0 ≤ r) = anyP tempL f n ∧ Below w.heap.size w w' := by
  have HL := Lib.hid hl
  clear hl
  go_enter Try.func32, Try.ntmps32
  go_wp2_with fail
  go_loopw [8] (fun i wr => ∃ k : Nat, k ≤ n ∧ i = .int .i64 k ∧ Hid (anyP tempL f k = false) ∧ Hid (Below w.heap.size w wr)) (fun i _ => n - (intOf i).toNat)
  case atStart => exact ⟨0, Nat.zero_le _, rfl, rfl, Below.refl _ _⟩
  case round =>
    obtain ⟨k, hk, rfl, hz, hb⟩ := hrel
    by_cases hlt : k < n
    · obtain rfl := ha (by omega)
      obtain ⟨v1, v2, c0, c1, c2⟩ := HL.out k hlt
      have d0 := (hb.out.cell (p := ⟨b, o + k * 3, none⟩) (hg (by omega))).trans c0
      have d1 := (hb.out.cell (p := ⟨b, o + k * 3 + 1, none⟩) (hg (by omega))).trans c1
      have d2 := (hb.out.cell (p := ⟨b, o + k * 3 + 2, none⟩) (hg (by omega))).trans c2
      clear c0 c1 c2
      obtain ⟨s, hs⟩ : ∃ s, s = f k := ⟨_, rfl⟩
      rw [← hs] at d0
      obtain ⟨r, hr⟩ : ∃ r, r = Lib.hasPrefix s.data.toList tempL := ⟨_, rfl⟩
      have hsn : Hid (anyP tempL f (k + 1) = r) := by
        show _ = _
        rw [anyP_succ, hz.out, Bool.false_or, hr, hs]
      have HC : Hid (∀ W, Calls Try.prog 21 #[.agg #[.string s, v1, v2]] W fun e w' => e = .returned (.bool r) ∧ Below W.heap.size W w') := fun W => hr ▸ Node_test s v1 v2 W
      clear hr hs
      go_wp2_with fail
      refine (HC.out _).mono ?_
      rintro e' w1 ⟨rfl, hb1⟩
      have HB1 := Lib.hid (hb.out.trans (hb1.mono hb.out.size))
      clear hb1
      cases r
      · go_wp2_with fail
        go_round
        case rel => exact ⟨k + 1, by omega, by go_num, hsn.out, HB1.out⟩
        case measure => simp [intOf]; omega
      · go_wp2_with fail
        go_ret
        refine ⟨k, rfl, ?_, HB1.out⟩
        rw [anyP_of hlt hsn.out]
        simp
    · go_wp2_with fail
      go_ret
      obtain rfl : k = n := by omega
      refine ⟨-1, rfl, ?_, hb.out⟩
      rw [hz.out]
      rfl
set_option maxRecDepth 100000 in
set_option maxHeartbeats 2000000 in
theorem Node_contains (ao : Option Addr) (b o n cap : Nat) (f : Nat → ByteArray) (w : World) (ha : 0 < n → ao = some ⟨b, o, none⟩) (hg : 0 < n → b < w.heap.size) (hl : Nodes b o n f w) (hm : n ≤ 9223372036854775807) :
    Calls Try.prog 20 #[.slice ao n cap, .func (.func 21) #[] #[]] w fun e w' => e = .returned (.bool (anyP tempL f n)) ∧ Below w.heap.size w w' := by
  have HL := Lib.hid hl
  clear hl
  go_enter Try.func20, Try.ntmps20
  go_wp2_with fail
  refine (Node_index ao b o n cap f w ha hg HL.out hm).mono ?_
  rintro e w1 ⟨r, rfl, hr, hb⟩
  have HB := Lib.hid hb
  clear hb
  go_wp2
  go_ret
  exact ⟨by simp, HB.out⟩

set_option maxRecDepth 100000 in
set_option maxHeartbeats 2000000 in
theorem begins_any (p s : ByteArray) (w : World) : Calls Try.prog 10 #[.string p, .string s] w fun e w' => e = .returned (.bool (Lib.hasPrefix s.data.toList p.data.toList)) ∧ w = w' := by
  by_cases h : p.size ≤ s.size
  · have hi : (p.size : Int) ≤ (s.size : Int) := by omega
    have h0 : (0 : Int) ≤ (p.size : Int) := Int.natCast_nonneg _
    have hb : decide (p.size ≤ s.size) = true := decide_eq_true h
    have he : ((s.extract 0 p.size).toList == p.toList) = Lib.hasPrefix s.data.toList p.data.toList := by
      rw [ByteArray.toList_eq, ByteArray.toList_eq, Lib.extract_data, List.drop_zero, Nat.sub_zero, Bool.eq_iff_iff, beq_iff_eq]
      unfold Lib.hasPrefix
      rw [List.isPrefixOf_iff_prefix, List.prefix_iff_eq_take]
      exact eq_comm
    obtain ⟨r, hr⟩ : ∃ r, r = Lib.hasPrefix s.data.toList p.data.toList := ⟨_, rfl⟩
    rw [← hr] at he ⊢
    clear hr
    go_enter Try.func10, Try.ntmps10
    go_wp2
    go_ret
    exact ⟨rfl, rfl⟩
  · have hb : decide (p.size ≤ s.size) = false := decide_eq_false h
    have he : Lib.hasPrefix s.data.toList p.data.toList = false := by
      rw [Bool.eq_false_iff]
      intro hp
      unfold Lib.hasPrefix at hp
      rw [List.isPrefixOf_iff_prefix] at hp
      exact h hp.length_le
    rw [he]
    clear he
    go_enter Try.func10, Try.ntmps10
    go_wp2
    go_ret
    exact ⟨rfl, rfl⟩

/-- A world's parts as they lie. -/
structure WorldOf (nv nt : Nat) (f g : Nat → ByteArray) (v : Value) (W : World) : Prop where
  is : ∃ (at_ av : Option Addr) (bt ot ct bv ov cv : Nat) (vi va : Value), v = .agg #[.slice at_ nt ct, vi, va, .slice av nv cv] ∧ (0 < nt → at_ = some ⟨bt, ot, none⟩) ∧ (0 < nt → bt < W.heap.size) ∧ Nodes bt ot nt g W ∧ (0 < nv → av = some ⟨bv, ov, none⟩) ∧ (0 < nv → bv < W.heap.size) ∧ Vars bv ov nv f W
set_option maxRecDepth 100000 in
set_option maxHeartbeats 2000000 in
theorem world_any (nv nt : Nat) (f g : Nat → ByteArray) (v : Value) (w : World) (h : WorldOf nv nt f g v w) (hv : nv ≤ 9223372036854775807) (ht : nt ≤ 9223372036854775807) :
    Calls Try.prog 11 #[v] w fun e w' => e = .returned (.bool (!anyP pre f nv && !anyP tempL g nt)) ∧ Below w.heap.size w w' := by
  obtain ⟨at_, av, bt, ot, ct, bv, ov, cv, vi, va, rfl, ha1, hg1, hl1, ha2, hg2, hl2⟩ := h.is
  have HN := Lib.hid hl1
  have HV := Lib.hid hl2
  clear h hl1 hl2
  have HCV : Hid (∀ W, Below w.heap.size w W → Calls Try.prog 18 #[.slice av nv cv, .func (.func 19) #[] #[]] W fun e w' => e = .returned (.bool (anyP pre f nv)) ∧ Below W.heap.size W w') := fun W hW =>
    Var_contains av bv ov nv cv f W ha2 (fun h => Nat.lt_of_lt_of_le (hg2 h) hW.size) (HV.out.below hg2 hW) hv
  have HCN : Hid (∀ W, Below w.heap.size w W → Calls Try.prog 20 #[.slice at_ nt ct, .func (.func 21) #[] #[]] W fun e w' => e = .returned (.bool (anyP tempL g nt)) ∧ Below W.heap.size W w') := fun W hW =>
    Node_contains at_ bt ot nt ct g W ha1 (fun h => Nat.lt_of_lt_of_le (hg1 h) hW.size) (HN.out.below hg1 hW) ht
  obtain ⟨r1, hr1⟩ : ∃ r, r = anyP pre f nv := ⟨_, rfl⟩
  obtain ⟨r2, hr2⟩ : ∃ r, r = anyP tempL g nt := ⟨_, rfl⟩
  rw [← hr1] at HCV ⊢
  rw [← hr2] at HCN ⊢
  clear hr1 hr2 ha1 ha2
  have hb0 : Hid (Below w.heap.size w (w.alloc (.cells #[.slice at_ nt ct, vi, va, .slice av nv cv] 31))) := (Below.refl _ _).alloc (Nat.le_refl _) _
  go_enter Try.func11, Try.ntmps11
  go_wp2_with fail
  refine (HCV.out _ hb0.out).mono ?_
  rintro e w1 ⟨rfl, hb⟩
  have k0 := (hb.cell (p := ⟨w.heap.size, 0, none⟩) (by simp)).trans (World.cell?_alloc_new w #[.slice at_ nt ct, vi, va, .slice av nv cv] 31 0)
  simp only [List.getElem?_toArray, List.getElem?_cons_zero] at k0
  have HB := Lib.hid (hb0.out.trans (hb.mono hb0.out.size))
  clear hb
  cases r1
  · go_wp2_with fail
    refine (HCN.out _ HB.out).mono ?_
    rintro e w2 ⟨rfl, hb⟩
    have HB2 := Lib.hid (HB.out.trans (hb.mono HB.out.size))
    clear hb
    go_wp2_with fail
    go_ret
    exact ⟨by simp, HB2.out⟩
  · go_wp2_with fail
    go_ret
    exact ⟨by simp, HB.out⟩

set_option maxRecDepth 100000 in
set_option maxHeartbeats 2000000 in
theorem world_walk (nv nt : Nat) (f g : Nat → ByteArray) (v : Value) (w : World) (h : WorldOf nv nt f g v w) (hv : nv ≤ 9223372036854775807) (ht : nt ≤ 9223372036854775807) :
    Calls Try.prog 4 #[v] w fun e w' => e = .returned (.bool true) ∧ Below w.heap.size w w' := by
  obtain ⟨at_, av, bt, ot, ct, bv, ov, cv, vi, va, rfl, ha1, hg1, hl1, ha2, hg2, hl2⟩ := h.is
  obtain ⟨W0, hW0⟩ : ∃ W0, W0 = w.alloc (.cells #[.slice at_ nt ct, vi, va, .slice av nv cv] 31) := ⟨_, rfl⟩
  have hb0 : Below w.heap.size w W0 := by rw [hW0]; exact (Below.refl _ _).alloc (Nat.le_refl _) _
  have hW : WorldOf nv nt f g (.agg #[.slice at_ nt ct, vi, va, .slice av nv cv]) W0 := ⟨at_, av, bt, ot, ct, bv, ov, cv, vi, va, rfl, ha1, fun h => Nat.lt_of_lt_of_le (hg1 h) hb0.size, hl1.below hg1 hb0, ha2, fun h => Nat.lt_of_lt_of_le (hg2 h) hb0.size, hl2.below hg2 hb0⟩
  have HV := Lib.hid (hl2.below hg2 hb0)
  have HN := Lib.hid (hl1.below hg1 hb0)
  have k0 : W0.cell? ⟨w.heap.size, 0, none⟩ = some (.slice at_ nt ct) := by rw [hW0]; go_simp
  have k1 : W0.cell? ⟨w.heap.size, 1, none⟩ = some vi := by rw [hW0]; go_simp
  have k2 : W0.cell? ⟨w.heap.size, 2, none⟩ = some va := by rw [hW0]; go_simp
  have k3 : W0.cell? ⟨w.heap.size, 3, none⟩ = some (.slice av nv cv) := by rw [hW0]; go_simp
  have HWW := Lib.hid (world_any nv nt f g _ W0 hW hv ht)
  have HB0 := Lib.hid hb0
  clear h hl1 hl2 hW hb0
  go_enter Try.func4, Try.ntmps4
  go_wp2_with fail
  rw [← hW0]
  clear hW0
  go_loop [3, 4] (fun bd i => ∃ j : Nat, j ≤ nv ∧ i = .int .i64 j ∧ bd = .bool (anyP pre f j)) (fun _ i => nv - (intOf i).toNat)
  case atStart => exact ⟨0, Nat.zero_le _, rfl, rfl⟩
  case round =>
    obtain ⟨j, hj, rfl, rfl⟩ := hrel
    obtain ⟨r, hr⟩ : ∃ r, r = anyP pre f j := ⟨_, rfl⟩
    rw [← hr]
    by_cases hlt : j < nv
    · have hsn := anyP_succ pre f j
      rw [← hr] at hsn
      have HSN := Lib.hid hsn
      clear hsn hr
      obtain rfl := ha2 (by omega)
      obtain ⟨v1, v2, v3, c0, c1, c2, c3⟩ := HV.out j hlt
      obtain ⟨s, hs⟩ : ∃ s, s = f j := ⟨_, rfl⟩
      rw [← hs] at c0
      obtain ⟨q, hq⟩ : ∃ q, q = Lib.hasPrefix s.data.toList pre := ⟨_, rfl⟩
      have HBG : Hid (∀ W, Calls Try.prog 10 #[.string ⟨#[95, 95, 99, 95]⟩, .string s] W fun e w' => e = .returned (.bool q) ∧ W = w') := fun W => hq ▸ begins_any ⟨#[95, 95, 99, 95]⟩ s W
      have HS := Lib.hid hs
      have HQ := Lib.hid hq
      clear hs hq c1 c2 c3
      cases r
      · go_wp2_with fail
        refine (HBG.out _).mono ?_
        rintro e w2 ⟨rfl, rfl⟩
        go_wp2_with fail
        go_round
        case rel => exact ⟨j + 1, by omega, by go_num, by rw [HSN.out, ← HS.out, ← HQ.out]; rfl⟩
        case measure => simp [intOf]; omega
      · go_wp2_with fail
        go_round
        case rel => exact ⟨j + 1, by omega, by go_num, by rw [HSN.out]; rfl⟩
        case measure => simp [intOf]; omega
    · obtain rfl : j = nv := by omega
      have HR := Lib.hid hr
      clear hr HV ha2 hlt
      go_wp2_with fail
      go_loop [3, 5] (fun bd i => ∃ j : Nat, j ≤ nt ∧ i = .int .i64 j ∧ bd = .bool (r || anyP tempL g j)) (fun _ i => nt - (intOf i).toNat)
      case atStart => exact ⟨0, Nat.zero_le _, rfl, by show _ = Value.bool (r || false); rw [Bool.or_false]⟩
      case round =>
        obtain ⟨i, hi, rfl, rfl⟩ := hrel
        obtain ⟨x, hx⟩ : ∃ x, x = (r || anyP tempL g i) := ⟨_, rfl⟩
        rw [← hx]
        by_cases hlt : i < nt
        · have hsn := anyP_succ tempL g i
          have hsn2 : (r || anyP tempL g (i + 1)) = (x || Lib.hasPrefix (g i).data.toList tempL) := by rw [hsn, ← Bool.or_assoc, ← hx]
          have HSN := Lib.hid hsn2
          clear hsn hsn2 hx
          obtain rfl := ha1 (by omega)
          obtain ⟨v1, v2, c0, c1, c2⟩ := HN.out i hlt
          obtain ⟨s, hs⟩ : ∃ s, s = g i := ⟨_, rfl⟩
          rw [← hs] at c0
          obtain ⟨q, hq⟩ : ∃ q, q = Lib.hasPrefix s.data.toList tempL := ⟨_, rfl⟩
          have HBG : Hid (∀ W, Calls Try.prog 10 #[.string ⟨#[47, 46, 112]⟩, .string s] W fun e w' => e = .returned (.bool q) ∧ W = w') := fun W => hq ▸ begins_any ⟨#[47, 46, 112]⟩ s W
          have HS := Lib.hid hs
          have HQ := Lib.hid hq
          clear hs hq c1 c2
          cases x
          · go_wp2_with fail
            refine (HBG.out _).mono ?_
            rintro e w2 ⟨rfl, rfl⟩
            go_wp2_with fail
            go_round
            case rel => exact ⟨i + 1, by omega, by go_num, by rw [HSN.out, ← HS.out, ← HQ.out]; rfl⟩
            case measure => simp [intOf]; omega
          · go_wp2_with fail
            go_round
            case rel => exact ⟨i + 1, by omega, by go_num, by rw [HSN.out]; rfl⟩
            case measure => simp [intOf]; omega
        · obtain rfl : i = nt := by omega
          have hxx : (!anyP pre f j && !anyP tempL g i) = !x := by rw [hx, ← HR.out]; simp
          have HWX := HWW.out
          rw [hxx] at HWX
          have HWY := Lib.hid HWX
          clear HWX hxx hx HWW
          go_wp2_with fail
          refine HWY.out.mono ?_
          rintro e w2 ⟨rfl, hb⟩
          have HB2 := Lib.hid (HB0.out.trans (hb.mono HB0.out.size))
          clear hb
          cases x
          all_goals
            go_wp2_with fail
            refine (alive_any _).mono ?_
            rintro e w3 ⟨rfl, hb⟩
            have HB3 := Lib.hid (HB2.out.trans (hb.mono HB2.out.size))
            clear hb
            go_wp2_with fail
            go_ret
            exact ⟨rfl, HB3.out⟩
end Go.Proofs.Ytihbdacmgojapaa

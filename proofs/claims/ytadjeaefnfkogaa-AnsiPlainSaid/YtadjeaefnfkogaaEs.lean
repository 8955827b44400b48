/- Contracts of ansi.escape: it returns the octet and its size, or it panics with a fault; conditions: as each theorem states. -/
import Derived.Test.YtadjeaefnfkogaaDg
namespace Go.Proofs.Ytadjeaefnfkogaa
open Go.RowKit
open Go.Lib (indexByte indexByte_ge)
set_option linter.unusedVariables false

theorem idxN (x : Int) (c : UInt8) (d : Int) (w : World) (hc : x.toNat.toUInt8 = c) (hd : Hid (d = indexByte nams c)) :
    Calls Try.prog 19 #[.string { data := #[92, 39, 34, 97, 98, 101, 102, 110, 114, 116, 118] }, .int .u8 x] w fun e w' => e = .returned (.int .i64 d) ∧ w' = w := by
  refine (Try.strings_IndexByte _ x w).mono ?_
  rintro e w' ⟨rfl, rfl⟩
  refine ⟨?_, rfl⟩
  rw [hd.out, hc]
  rfl

theorem dig8 (R : ByteArray) (a : Int) (j : Nat) (w : World) (hs : R.size ≤ 9223372036854775807) (h : Hid (digs 8 3 R.data.toList 0 0 = (a, j))) :
    Calls Try.prog 20 #[.string R, .int .i64 3, .int .i64 8] w fun e w' => e = .returned (.tuple #[.int .i64 a, .int .i64 j]) ∧ w' = w := by
  have := digits_8 R w hs
  rw [h.out] at this
  exact this
/-- The digits of what lies behind an x. -/
structure Hex (q : ByteArray) (a : Int) (j : Nat) : Prop where
  out : digs 16 2 (q.extract 1 q.size).data.toList 0 0 = (a, j)
theorem dig16 (R : ByteArray) (a : Int) (j : Nat) (w : World) (hs : R.size ≤ 9223372036854775807) (h : digs 16 2 R.data.toList 0 0 = (a, j)) :
    Calls Try.prog 20 #[.string R, .int .i64 2, .int .i64 16] w fun e w' => e = .returned (.tuple #[.int .i64 a, .int .i64 j]) ∧ w' = w := by
  have := digits_16 R w hs
  rw [h] at this
  exact this
theorem hasX (R : ByteArray) (v : Bool) (w : World) (h : Hid (Lib.hasPrefix R.data.toList [120] = v)) :
    Calls Try.prog 21 #[.string R, .string { data := #[120] }] w fun e w' => e = .returned (.bool v) ∧ w' = w := by
  have := Try.strings_HasPrefix R { data := #[120] } w
  have e : Lib.hasPrefix R.data.toList ({ data := #[120] } : ByteArray).data.toList = v := h.out
  rw [e] at this
  exact this

theorem drop_of (s : ByteArray) (p : Nat) : (s.extract p s.size).data.toList = s.data.toList.drop p := by
  rw [Lib.extract_data, List.take_of_length_le (by simp)]

theorem first_of (s : ByteArray) (h : 0 < s.size) (c : UInt8) (t : List UInt8) (hl : s.data.toList = c :: t) : s[0] = c := by
  have : s.data.toList[0]'(by simpa using h) = c := by simp [hl]
  exact this

theorem size_of (s : ByteArray) : s.data.toList.length = s.size := by simp

/-- A fault, as it is thrown. -/
abbrev thrown (p : Nat) (e : Int) : PanicEntry := { v := .iface 35 (.agg #[.int .i64 p, .int .i64 e]), recovered := false }

set_option maxRecDepth 100000 in
set_option maxHeartbeats 1000000 in
theorem esc_named (s : ByteArray) (p : Nat) (w : World) (hs : s.size ≤ 9223372036854775807) (c : UInt8) (t : List UInt8) (hl : Hid (s.data.toList.drop (p + 1) = c :: t)) (k : Nat) (hk : k < 11) (hi : Hid ((k : Int) = indexByte nams c)) :
    Calls Try.prog 14 #[.string s, .int .i64 p] w fun e w' => e = .returned (.tuple #[.int .u8 (vals.getD k 0).toNat, .int .i64 2]) ∧ w' = w := by
  have hll := congrArg List.length hl.out
  simp only [List.length_drop, List.length_cons, size_of] at hll
  have hp : p + 1 < s.size := by omega
  have hRl : (s.extract (p + 1) s.size).data.toList = c :: t := (drop_of s (p + 1)).trans hl.out
  have hRz : (s.extract (p + 1) s.size).size = t.length + 1 := by rw [← size_of, hRl]; rfl
  have hne : ((s.extract (p + 1) s.size).toList.isEmpty) = false := by
    rw [ByteArray.toList_eq]; simp; omega
  have HR0 : Hid (∀ h, (((s.extract (p + 1) s.size)[0]'h).toNat : Int).toNat.toUInt8 = c) := by
    intro h; rw [first_of _ h c t hRl]; simp
  clear hRl hRz hll
  go_enter Try.func14, Try.ntmps14
  go_wp2_with fail
  refine (idxN _ c k _ (HR0.out _) hi).mono ?_
  rintro e w9 ⟨rfl, rfl⟩
  go_wp2_with fail
  go_ret2
  refine ⟨?_, rfl⟩
  match k, hk with
  | 0, _ => rfl
  | 1, _ => rfl
  | 2, _ => rfl
  | 3, _ => rfl
  | 4, _ => rfl
  | 5, _ => rfl
  | 6, _ => rfl
  | 7, _ => rfl
  | 8, _ => rfl
  | 9, _ => rfl
  | 10, _ => rfl

set_option maxRecDepth 100000 in
set_option maxHeartbeats 1000000 in
theorem esc_oct_ok (s : ByteArray) (p : Nat) (w : World) (hs : s.size ≤ 9223372036854775807) (c : UInt8) (t : List UInt8) (hl : Hid (s.data.toList.drop (p + 1) = c :: t)) (hx : Hid (c ≠ 120)) (d : Int) (hd0 : d < 0) (hi : Hid (d = indexByte nams c)) (a : Int) (j : Nat) (hj3 : j ≤ 3) (hj0 : a ≤ 4096)
    (hg : Hid (digs 8 3 (c :: t) 0 0 = (a, j))) (hj : (j : Int) ≠ 0) (ha : 0 < a) (hb : a ≤ 255) :
    Calls Try.prog 14 #[.string s, .int .i64 p] w fun e w' => e = .returned (.tuple #[.int .u8 a, .int .i64 (1 + j : Int)]) ∧ w' = w := by
  have hll := congrArg List.length hl.out
  simp only [List.length_drop, List.length_cons, size_of] at hll
  have hp : p + 1 < s.size := by omega
  have hRl : (s.extract (p + 1) s.size).data.toList = c :: t := (drop_of s (p + 1)).trans hl.out
  have hRz : (s.extract (p + 1) s.size).size = t.length + 1 := by rw [← size_of, hRl]; rfl
  have hne : ((s.extract (p + 1) s.size).toList.isEmpty) = false := by
    rw [ByteArray.toList_eq]; simp; omega
  have HR0 : Hid (∀ h, (((s.extract (p + 1) s.size)[0]'h).toNat : Int).toNat.toUInt8 = c) := by
    intro h; rw [first_of _ h c t hRl]; simp
  have HG : Hid (digs 8 3 (s.extract (p + 1) s.size).data.toList 0 0 = (a, j)) := by unfold Hid; rw [hRl]; exact hg.out
  have HX : Hid (Lib.hasPrefix (s.extract (p + 1) s.size).data.toList [120] = false) := by
    unfold Hid; rw [hRl]; simp [Lib.hasPrefix, List.isPrefixOf]; have hxx := hx.out; first | exact hxx | exact Ne.symm hxx | omega
  have hRs : (s.extract (p + 1) s.size).size ≤ 9223372036854775807 := by omega
  have HRS := Lib.hid hRs
  clear hRl hRz hll hRs
  have e1 : ((j : Int) == 0) = false := by simpa using hj
  have e2 : (a == 0) = false := by simp; omega
  have e3 : ¬ 255 < a := by omega
  go_enter Try.func14, Try.ntmps14
  go_wp2_with fail
  refine (idxN _ c d _ (HR0.out _) hi).mono ?_
  rintro e w9 ⟨rfl, rfl⟩
  go_wp2_with fail
  refine (dig8 _ _ _ _ HRS.out HG).mono ?_
  rintro e w9 ⟨rfl, rfl⟩
  go_wp2_with fail
  refine (hasX _ false _ HX).mono ?_
  rintro e w9 ⟨rfl, rfl⟩
  go_wp2_with fail
  go_ret2
  exact ⟨rfl, rfl⟩

set_option maxRecDepth 100000 in
set_option maxHeartbeats 1000000 in
theorem esc_hex_ok (s : ByteArray) (p : Nat) (w : World) (hs : s.size ≤ 9223372036854775807) (c : UInt8) (t : List UInt8) (hl : Hid (s.data.toList.drop (p + 1) = c :: t)) (hx : Hid (c = 120)) (d : Int) (hd0 : d < 0) (hi : Hid (d = indexByte nams c)) (a : Int) (j : Nat) (hj3 : j ≤ 3) (hj0 : a ≤ 4096)
    (hg : Hid (digs 16 2 t 0 0 = (a, j))) (hj : (j : Int) ≠ 0) (ha : 0 < a) (hb : a ≤ 255) :
    Calls Try.prog 14 #[.string s, .int .i64 p] w fun e w' => e = .returned (.tuple #[.int .u8 a, .int .i64 (2 + j : Int)]) ∧ w' = w := by
  have hll := congrArg List.length hl.out
  simp only [List.length_drop, List.length_cons, size_of] at hll
  have hp : p + 1 < s.size := by omega
  have hRl : (s.extract (p + 1) s.size).data.toList = c :: t := (drop_of s (p + 1)).trans hl.out
  have hRz : (s.extract (p + 1) s.size).size = t.length + 1 := by rw [← size_of, hRl]; rfl
  have hne : ((s.extract (p + 1) s.size).toList.isEmpty) = false := by
    rw [ByteArray.toList_eq]; simp; omega
  have HR0 : Hid (∀ h, (((s.extract (p + 1) s.size)[0]'h).toNat : Int).toNat.toUInt8 = c) := by
    intro h; rw [first_of _ h c t hRl]; simp
  have HX : Hid (Lib.hasPrefix (s.extract (p + 1) s.size).data.toList [120] = true) := by
    unfold Hid; rw [hRl, hx.out]; simp [Lib.hasPrefix]
  obtain ⟨a8, j8, hg8, hj8⟩ : ∃ (a8 : Int) (j8 : Nat), digs 8 3 (s.extract (p + 1) s.size).data.toList 0 0 = (a8, j8) ∧ j8 ≤ 3 := ⟨_, _, rfl, by have := digs_k 8 3 (s.extract (p + 1) s.size).data.toList 0 0; omega⟩
  have HG8 := Lib.hid hg8
  clear hg8
  have HG : Hex (s.extract (p + 1) s.size) a j := ⟨by rw [drop_of, hRl]; exact hg.out⟩
  have hRs : (s.extract (p + 1) s.size).size ≤ 9223372036854775807 := by omega
  have HRS := Lib.hid hRs
  clear hRl hll hRs hRz
  have e1 : ((j : Int) == 0) = false := by simpa using hj
  have e2 : (a == 0) = false := by simp; omega
  have e3 : ¬ 255 < a := by omega
  go_enter Try.func14, Try.ntmps14
  go_wp2_with fail
  refine (idxN _ c d _ (HR0.out _) hi).mono ?_
  rintro e w9 ⟨rfl, rfl⟩
  go_wp2_with fail
  refine (dig8 _ a8 j8 _ HRS.out HG8).mono ?_
  rintro e w9 ⟨rfl, rfl⟩
  go_wp2_with fail
  refine (hasX _ true _ HX).mono ?_
  rintro e w9 ⟨rfl, rfl⟩
  go_wp2_with fail
  refine (dig16 _ a j _ ?_ ?_).mono ?_
  · simp only [ByteArray.size_extract]; omega
  · have := HG.out; simpa using this
  rintro e w9 ⟨rfl, rfl⟩
  go_wp2_with fail
  go_ret2
  exact ⟨rfl, rfl⟩

set_option maxRecDepth 100000 in
set_option maxHeartbeats 1000000 in
theorem esc_oct_k0 (s : ByteArray) (p : Nat) (w : World) (hs : s.size ≤ 9223372036854775807) (c : UInt8) (t : List UInt8) (hl : Hid (s.data.toList.drop (p + 1) = c :: t)) (hx : Hid (c ≠ 120)) (d : Int) (hd0 : d < 0) (hi : Hid (d = indexByte nams c)) (a : Int) (j : Nat) (hj3 : j ≤ 3) (hj0 : a ≤ 4096)
    (hg : Hid (digs 8 3 (c :: t) 0 0 = (a, j))) (hj : j = 0) :
    Calls Try.prog 14 #[.string s, .int .i64 p] w fun e w' => e = .panicked [thrown p 33] ∧ w' = w := by
  have hll := congrArg List.length hl.out
  simp only [List.length_drop, List.length_cons, size_of] at hll
  have hp : p + 1 < s.size := by omega
  have hRl : (s.extract (p + 1) s.size).data.toList = c :: t := (drop_of s (p + 1)).trans hl.out
  have hRz : (s.extract (p + 1) s.size).size = t.length + 1 := by rw [← size_of, hRl]; rfl
  have hne : ((s.extract (p + 1) s.size).toList.isEmpty) = false := by
    rw [ByteArray.toList_eq]; simp; omega
  have HR0 : Hid (∀ h, (((s.extract (p + 1) s.size)[0]'h).toNat : Int).toNat.toUInt8 = c) := by
    intro h; rw [first_of _ h c t hRl]; simp
  have HG : Hid (digs 8 3 (s.extract (p + 1) s.size).data.toList 0 0 = (a, j)) := by unfold Hid; rw [hRl]; exact hg.out
  have HX : Hid (Lib.hasPrefix (s.extract (p + 1) s.size).data.toList [120] = false) := by
    unfold Hid; rw [hRl]; simp [Lib.hasPrefix, List.isPrefixOf]; have hxx := hx.out; first | exact hxx | exact Ne.symm hxx | omega
  have hRs : (s.extract (p + 1) s.size).size ≤ 9223372036854775807 := by omega
  have HRS := Lib.hid hRs
  clear hRl hRz hll hRs
  subst hj
  go_enter Try.func14, Try.ntmps14
  go_wp2_with fail
  refine (idxN _ c d _ (HR0.out _) hi).mono ?_
  rintro e w9 ⟨rfl, rfl⟩
  go_wp2_with fail
  refine (dig8 _ _ _ _ HRS.out HG).mono ?_
  rintro e w9 ⟨rfl, rfl⟩
  go_wp2_with fail
  refine (hasX _ false _ HX).mono ?_
  rintro e w9 ⟨rfl, rfl⟩
  go_wp2_with fail
  exact ⟨rfl, rfl, rfl⟩

set_option maxRecDepth 100000 in
set_option maxHeartbeats 1000000 in
theorem esc_hex_k0 (s : ByteArray) (p : Nat) (w : World) (hs : s.size ≤ 9223372036854775807) (c : UInt8) (t : List UInt8) (hl : Hid (s.data.toList.drop (p + 1) = c :: t)) (hx : Hid (c = 120)) (d : Int) (hd0 : d < 0) (hi : Hid (d = indexByte nams c)) (a : Int) (j : Nat) (hj3 : j ≤ 3) (hj0 : a ≤ 4096)
    (hg : Hid (digs 16 2 t 0 0 = (a, j))) (hj : j = 0) :
    Calls Try.prog 14 #[.string s, .int .i64 p] w fun e w' => e = .panicked [thrown p 33] ∧ w' = w := by
  have hll := congrArg List.length hl.out
  simp only [List.length_drop, List.length_cons, size_of] at hll
  have hp : p + 1 < s.size := by omega
  have hRl : (s.extract (p + 1) s.size).data.toList = c :: t := (drop_of s (p + 1)).trans hl.out
  have hRz : (s.extract (p + 1) s.size).size = t.length + 1 := by rw [← size_of, hRl]; rfl
  have hne : ((s.extract (p + 1) s.size).toList.isEmpty) = false := by
    rw [ByteArray.toList_eq]; simp; omega
  have HR0 : Hid (∀ h, (((s.extract (p + 1) s.size)[0]'h).toNat : Int).toNat.toUInt8 = c) := by
    intro h; rw [first_of _ h c t hRl]; simp
  have HX : Hid (Lib.hasPrefix (s.extract (p + 1) s.size).data.toList [120] = true) := by
    unfold Hid; rw [hRl, hx.out]; simp [Lib.hasPrefix]
  obtain ⟨a8, j8, hg8, hj8⟩ : ∃ (a8 : Int) (j8 : Nat), digs 8 3 (s.extract (p + 1) s.size).data.toList 0 0 = (a8, j8) ∧ j8 ≤ 3 := ⟨_, _, rfl, by have := digs_k 8 3 (s.extract (p + 1) s.size).data.toList 0 0; omega⟩
  have HG8 := Lib.hid hg8
  clear hg8
  have HG : Hex (s.extract (p + 1) s.size) a j := ⟨by rw [drop_of, hRl]; exact hg.out⟩
  have hRs : (s.extract (p + 1) s.size).size ≤ 9223372036854775807 := by omega
  have HRS := Lib.hid hRs
  clear hRl hll hRs hRz
  subst hj
  go_enter Try.func14, Try.ntmps14
  go_wp2_with fail
  refine (idxN _ c d _ (HR0.out _) hi).mono ?_
  rintro e w9 ⟨rfl, rfl⟩
  go_wp2_with fail
  refine (dig8 _ a8 j8 _ HRS.out HG8).mono ?_
  rintro e w9 ⟨rfl, rfl⟩
  go_wp2_with fail
  refine (hasX _ true _ HX).mono ?_
  rintro e w9 ⟨rfl, rfl⟩
  go_wp2_with fail
  refine (dig16 _ a 0 _ ?_ ?_).mono ?_
  · simp only [ByteArray.size_extract]; omega
  · have := HG.out; simpa using this
  rintro e w9 ⟨rfl, rfl⟩
  go_wp2_with fail
  exact ⟨rfl, rfl, rfl⟩

set_option maxRecDepth 100000 in
set_option maxHeartbeats 1000000 in
theorem esc_oct_n0 (s : ByteArray) (p : Nat) (w : World) (hs : s.size ≤ 9223372036854775807) (c : UInt8) (t : List UInt8) (hl : Hid (s.data.toList.drop (p + 1) = c :: t)) (hx : Hid (c ≠ 120)) (d : Int) (hd0 : d < 0) (hi : Hid (d = indexByte nams c)) (a : Int) (j : Nat) (hj3 : j ≤ 3) (hj0 : a ≤ 4096)
    (hg : Hid (digs 8 3 (c :: t) 0 0 = (a, j))) (hj : (j : Int) ≠ 0) (ha : a = 0) :
    Calls Try.prog 14 #[.string s, .int .i64 p] w fun e w' => e = .panicked [thrown p 33] ∧ w' = w := by
  have hll := congrArg List.length hl.out
  simp only [List.length_drop, List.length_cons, size_of] at hll
  have hp : p + 1 < s.size := by omega
  have hRl : (s.extract (p + 1) s.size).data.toList = c :: t := (drop_of s (p + 1)).trans hl.out
  have hRz : (s.extract (p + 1) s.size).size = t.length + 1 := by rw [← size_of, hRl]; rfl
  have hne : ((s.extract (p + 1) s.size).toList.isEmpty) = false := by
    rw [ByteArray.toList_eq]; simp; omega
  have HR0 : Hid (∀ h, (((s.extract (p + 1) s.size)[0]'h).toNat : Int).toNat.toUInt8 = c) := by
    intro h; rw [first_of _ h c t hRl]; simp
  have HG : Hid (digs 8 3 (s.extract (p + 1) s.size).data.toList 0 0 = (a, j)) := by unfold Hid; rw [hRl]; exact hg.out
  have HX : Hid (Lib.hasPrefix (s.extract (p + 1) s.size).data.toList [120] = false) := by
    unfold Hid; rw [hRl]; simp [Lib.hasPrefix, List.isPrefixOf]; have hxx := hx.out; first | exact hxx | exact Ne.symm hxx | omega
  have hRs : (s.extract (p + 1) s.size).size ≤ 9223372036854775807 := by omega
  have HRS := Lib.hid hRs
  clear hRl hRz hll hRs
  subst ha
  have e1 : ((j : Int) == 0) = false := by simpa using hj
  go_enter Try.func14, Try.ntmps14
  go_wp2_with fail
  refine (idxN _ c d _ (HR0.out _) hi).mono ?_
  rintro e w9 ⟨rfl, rfl⟩
  go_wp2_with fail
  refine (dig8 _ _ _ _ HRS.out HG).mono ?_
  rintro e w9 ⟨rfl, rfl⟩
  go_wp2_with fail
  refine (hasX _ false _ HX).mono ?_
  rintro e w9 ⟨rfl, rfl⟩
  go_wp2_with fail
  exact ⟨rfl, rfl, rfl⟩

set_option maxRecDepth 100000 in
set_option maxHeartbeats 1000000 in
theorem esc_hex_n0 (s : ByteArray) (p : Nat) (w : World) (hs : s.size ≤ 9223372036854775807) (c : UInt8) (t : List UInt8) (hl : Hid (s.data.toList.drop (p + 1) = c :: t)) (hx : Hid (c = 120)) (d : Int) (hd0 : d < 0) (hi : Hid (d = indexByte nams c)) (a : Int) (j : Nat) (hj3 : j ≤ 3) (hj0 : a ≤ 4096)
    (hg : Hid (digs 16 2 t 0 0 = (a, j))) (hj : (j : Int) ≠ 0) (ha : a = 0) :
    Calls Try.prog 14 #[.string s, .int .i64 p] w fun e w' => e = .panicked [thrown p 33] ∧ w' = w := by
  have hll := congrArg List.length hl.out
  simp only [List.length_drop, List.length_cons, size_of] at hll
  have hp : p + 1 < s.size := by omega
  have hRl : (s.extract (p + 1) s.size).data.toList = c :: t := (drop_of s (p + 1)).trans hl.out
  have hRz : (s.extract (p + 1) s.size).size = t.length + 1 := by rw [← size_of, hRl]; rfl
  have hne : ((s.extract (p + 1) s.size).toList.isEmpty) = false := by
    rw [ByteArray.toList_eq]; simp; omega
  have HR0 : Hid (∀ h, (((s.extract (p + 1) s.size)[0]'h).toNat : Int).toNat.toUInt8 = c) := by
    intro h; rw [first_of _ h c t hRl]; simp
  have HX : Hid (Lib.hasPrefix (s.extract (p + 1) s.size).data.toList [120] = true) := by
    unfold Hid; rw [hRl, hx.out]; simp [Lib.hasPrefix]
  obtain ⟨a8, j8, hg8, hj8⟩ : ∃ (a8 : Int) (j8 : Nat), digs 8 3 (s.extract (p + 1) s.size).data.toList 0 0 = (a8, j8) ∧ j8 ≤ 3 := ⟨_, _, rfl, by have := digs_k 8 3 (s.extract (p + 1) s.size).data.toList 0 0; omega⟩
  have HG8 := Lib.hid hg8
  clear hg8
  have HG : Hex (s.extract (p + 1) s.size) a j := ⟨by rw [drop_of, hRl]; exact hg.out⟩
  have hRs : (s.extract (p + 1) s.size).size ≤ 9223372036854775807 := by omega
  have HRS := Lib.hid hRs
  clear hRl hll hRs hRz
  subst ha
  have e1 : ((j : Int) == 0) = false := by simpa using hj
  go_enter Try.func14, Try.ntmps14
  go_wp2_with fail
  refine (idxN _ c d _ (HR0.out _) hi).mono ?_
  rintro e w9 ⟨rfl, rfl⟩
  go_wp2_with fail
  refine (dig8 _ a8 j8 _ HRS.out HG8).mono ?_
  rintro e w9 ⟨rfl, rfl⟩
  go_wp2_with fail
  refine (hasX _ true _ HX).mono ?_
  rintro e w9 ⟨rfl, rfl⟩
  go_wp2_with fail
  refine (dig16 _ 0 j _ ?_ ?_).mono ?_
  · simp only [ByteArray.size_extract]; omega
  · have := HG.out; simpa using this
  rintro e w9 ⟨rfl, rfl⟩
  go_wp2_with fail
  exact ⟨rfl, rfl, rfl⟩

set_option maxRecDepth 100000 in
set_option maxHeartbeats 1000000 in
theorem esc_oct_big (s : ByteArray) (p : Nat) (w : World) (hs : s.size ≤ 9223372036854775807) (c : UInt8) (t : List UInt8) (hl : Hid (s.data.toList.drop (p + 1) = c :: t)) (hx : Hid (c ≠ 120)) (d : Int) (hd0 : d < 0) (hi : Hid (d = indexByte nams c)) (a : Int) (j : Nat) (hj3 : j ≤ 3) (hj0 : a ≤ 4096)
    (hg : Hid (digs 8 3 (c :: t) 0 0 = (a, j))) (hj : (j : Int) ≠ 0) (ha : 255 < a) :
    Calls Try.prog 14 #[.string s, .int .i64 p] w fun e w' => e = .panicked [thrown p 33] ∧ w' = w := by
  have hll := congrArg List.length hl.out
  simp only [List.length_drop, List.length_cons, size_of] at hll
  have hp : p + 1 < s.size := by omega
  have hRl : (s.extract (p + 1) s.size).data.toList = c :: t := (drop_of s (p + 1)).trans hl.out
  have hRz : (s.extract (p + 1) s.size).size = t.length + 1 := by rw [← size_of, hRl]; rfl
  have hne : ((s.extract (p + 1) s.size).toList.isEmpty) = false := by
    rw [ByteArray.toList_eq]; simp; omega
  have HR0 : Hid (∀ h, (((s.extract (p + 1) s.size)[0]'h).toNat : Int).toNat.toUInt8 = c) := by
    intro h; rw [first_of _ h c t hRl]; simp
  have HG : Hid (digs 8 3 (s.extract (p + 1) s.size).data.toList 0 0 = (a, j)) := by unfold Hid; rw [hRl]; exact hg.out
  have HX : Hid (Lib.hasPrefix (s.extract (p + 1) s.size).data.toList [120] = false) := by
    unfold Hid; rw [hRl]; simp [Lib.hasPrefix, List.isPrefixOf]; have hxx := hx.out; first | exact hxx | exact Ne.symm hxx | omega
  have hRs : (s.extract (p + 1) s.size).size ≤ 9223372036854775807 := by omega
  have HRS := Lib.hid hRs
  clear hRl hRz hll hRs
  have e1 : ((j : Int) == 0) = false := by simpa using hj
  have e2 : (a == 0) = false := by simp; omega
  go_enter Try.func14, Try.ntmps14
  go_wp2_with fail
  refine (idxN _ c d _ (HR0.out _) hi).mono ?_
  rintro e w9 ⟨rfl, rfl⟩
  go_wp2_with fail
  refine (dig8 _ _ _ _ HRS.out HG).mono ?_
  rintro e w9 ⟨rfl, rfl⟩
  go_wp2_with fail
  refine (hasX _ false _ HX).mono ?_
  rintro e w9 ⟨rfl, rfl⟩
  go_wp2_with fail
  exact ⟨rfl, rfl, rfl⟩

set_option maxRecDepth 100000 in
set_option maxHeartbeats 1000000 in
theorem esc_hex_big (s : ByteArray) (p : Nat) (w : World) (hs : s.size ≤ 9223372036854775807) (c : UInt8) (t : List UInt8) (hl : Hid (s.data.toList.drop (p + 1) = c :: t)) (hx : Hid (c = 120)) (d : Int) (hd0 : d < 0) (hi : Hid (d = indexByte nams c)) (a : Int) (j : Nat) (hj3 : j ≤ 3) (hj0 : a ≤ 4096)
    (hg : Hid (digs 16 2 t 0 0 = (a, j))) (hj : (j : Int) ≠ 0) (ha : 255 < a) :
    Calls Try.prog 14 #[.string s, .int .i64 p] w fun e w' => e = .panicked [thrown p 33] ∧ w' = w := by
  have hll := congrArg List.length hl.out
  simp only [List.length_drop, List.length_cons, size_of] at hll
  have hp : p + 1 < s.size := by omega
  have hRl : (s.extract (p + 1) s.size).data.toList = c :: t := (drop_of s (p + 1)).trans hl.out
  have hRz : (s.extract (p + 1) s.size).size = t.length + 1 := by rw [← size_of, hRl]; rfl
  have hne : ((s.extract (p + 1) s.size).toList.isEmpty) = false := by
    rw [ByteArray.toList_eq]; simp; omega
  have HR0 : Hid (∀ h, (((s.extract (p + 1) s.size)[0]'h).toNat : Int).toNat.toUInt8 = c) := by
    intro h; rw [first_of _ h c t hRl]; simp
  have HX : Hid (Lib.hasPrefix (s.extract (p + 1) s.size).data.toList [120] = true) := by
    unfold Hid; rw [hRl, hx.out]; simp [Lib.hasPrefix]
  obtain ⟨a8, j8, hg8, hj8⟩ : ∃ (a8 : Int) (j8 : Nat), digs 8 3 (s.extract (p + 1) s.size).data.toList 0 0 = (a8, j8) ∧ j8 ≤ 3 := ⟨_, _, rfl, by have := digs_k 8 3 (s.extract (p + 1) s.size).data.toList 0 0; omega⟩
  have HG8 := Lib.hid hg8
  clear hg8
  have HG : Hex (s.extract (p + 1) s.size) a j := ⟨by rw [drop_of, hRl]; exact hg.out⟩
  have hRs : (s.extract (p + 1) s.size).size ≤ 9223372036854775807 := by omega
  have HRS := Lib.hid hRs
  clear hRl hll hRs hRz
  have e1 : ((j : Int) == 0) = false := by simpa using hj
  have e2 : (a == 0) = false := by simp; omega
  go_enter Try.func14, Try.ntmps14
  go_wp2_with fail
  refine (idxN _ c d _ (HR0.out _) hi).mono ?_
  rintro e w9 ⟨rfl, rfl⟩
  go_wp2_with fail
  refine (dig8 _ a8 j8 _ HRS.out HG8).mono ?_
  rintro e w9 ⟨rfl, rfl⟩
  go_wp2_with fail
  refine (hasX _ true _ HX).mono ?_
  rintro e w9 ⟨rfl, rfl⟩
  go_wp2_with fail
  refine (dig16 _ a j _ ?_ ?_).mono ?_
  · simp only [ByteArray.size_extract]; omega
  · have := HG.out; simpa using this
  rintro e w9 ⟨rfl, rfl⟩
  go_wp2_with fail
  exact ⟨rfl, rfl, rfl⟩

set_option maxRecDepth 100000 in
set_option maxHeartbeats 1000000 in
theorem esc_empty (s : ByteArray) (p : Nat) (w : World) (hs : s.size ≤ 9223372036854775807) (hp : p + 1 = s.size) :
    Calls Try.prog 14 #[.string s, .int .i64 p] w fun e w' => e = .panicked [thrown p 33] ∧ w' = w := by
  have hR : (s.extract (p + 1) s.size) = { data := #[] } := by
    apply ByteArray.ext; apply Array.toList_inj.1
    rw [drop_of]; simp; omega
  have hp1 : p + 1 ≤ s.size := by omega
  have HG8 : Hid (digs 8 3 ({ data := #[] } : ByteArray).data.toList 0 0 = (0, 0)) := rfl
  have HX : Hid (Lib.hasPrefix ({ data := #[] } : ByteArray).data.toList [120] = false) := rfl
  clear hp
  go_enter Try.func14, Try.ntmps14
  go_wp2_with fail
  refine (dig8 _ 0 0 _ (Nat.zero_le _) HG8).mono ?_
  rintro e w9 ⟨rfl, rfl⟩
  go_wp2_with fail
  refine (hasX _ false _ HX).mono ?_
  rintro e w9 ⟨rfl, rfl⟩
  go_wp2_with fail
  exact ⟨rfl, rfl, rfl⟩

end Go.Proofs.Ytadjeaefnfkogaa

/- reserve.Mangle, Reserved and the example of the page; conditions: as each theorem states. -/
import Derived.Test.YtihbdacmgojapaaShelf
import Derived.WalkKit
import Derived.WalkSpells
import Derived.WalkLawsBesides
import Derived.LoopTactic
import Derived.Lib.Hide
import Derived.Below
import Derived.Outline
import Derived.Deep.DeepCutAuto
import Derived.Deep.CutBlock
import Derived.Deep.Light
import Derived.Deep.RegionWith
namespace Go.Proofs.Ytihbdacmgojapaa
open Go.RowKit

def pre : List UInt8 := [95, 95, 99, 95]
def mangledL (k s : List UInt8) : List UInt8 := pre ++ k ++ [95] ++ s
def mangled (k s : ByteArray) : ByteArray := ⟨(mangledL k.data.toList s.data.toList).toArray⟩

set_option maxRecDepth 100000 in
set_option maxHeartbeats 2000000 in
theorem mangle_any (k s : ByteArray) (w : World) (hk : k.size ≤ 16) (hs : s.size ≤ 140737488355296) :
    Calls Try.prog 8 #[.string k, .string s] w fun e w' => e = .returned (.string (mangled k s)) ∧ Below w.heap.size w w' := by
  have hj : Hid (mangledL k.data.toList s.data.toList = Lib.join (([⟨#[95, 95, 99, 95]⟩ ++ k, s] : List ByteArray).map (·.data.toList)) (⟨#[95]⟩ : ByteArray).data.toList) := by
    show _ = _
    simp [Lib.join, mangledL, pre]
  have hlen : Hid ((Lib.join (([⟨#[95, 95, 99, 95]⟩ ++ k, s] : List ByteArray).map (·.data.toList)) (⟨#[95]⟩ : ByteArray).data.toList).length ≤ 140737488355328) := by
    show _ ≤ _
    rw [← hj.out]
    simp [mangledL, pre]
    omega
  go_enter Try.func8, Try.ntmps8
  go_wp2_with fail
  refine (Try.strings_Join w.heap.size 0 2 [⟨#[95, 95, 99, 95]⟩ ++ k, s] ⟨#[95]⟩ _ ?_ (by simp) (by simp) (by simp) hlen.out).mono ?_
  · intro j x hx
    match j, hx with
    | 0, hx => simp at hx; subst hx; simp
    | 1, hx => simp at hx; subst hx; simp
  rintro e w9 ⟨rfl, hb⟩
  have HB := Lib.hid hb
  clear hb
  rw [← hj.out]
  go_wp2
  go_ret
  refine ⟨rfl, ?_⟩
  have h1 : Below w.heap.size w (w.alloc (.cells #[.string (⟨#[95, 95, 99, 95]⟩ ++ k), .string s] 9)) := (Below.refl _ _).alloc (Nat.le_refl _) _
  exact h1.trans (HB.out.mono h1.size)

theorem reserved_any (s : ByteArray) (w : World) : Calls Try.prog 9 #[.string s] w fun e w' => e = .returned (.bool (Lib.hasPrefix s.data.toList pre)) ∧ w' = w := by
  have HI : Hid (∀ w, Calls Try.prog 17 #[.string s, .string ⟨#[95, 95, 99, 95]⟩] w fun e w' => e = .returned (.bool (Lib.hasPrefix s.data.toList pre)) ∧ w' = w) := fun w => Try.strings_HasPrefix s ⟨#[95, 95, 99, 95]⟩ w
  go_enter Try.func9, Try.ntmps9
  go_wp2_with fail
  refine (HI.out _).mono ?_
  rintro e w9 ⟨rfl, rfl⟩
  go_wp2
  go_ret
  exact ⟨rfl, rfl⟩

theorem reserved_is (s : ByteArray) (b : Bool) (w : World) (h : Hid (Lib.hasPrefix s.data.toList pre = b)) : Calls Try.prog 9 #[.string s] w fun e w' => e = .returned (.bool b) ∧ w' = w := by
  have := reserved_any s w
  rw [h.out] at this
  exact this

theorem mangle_is (k s T : ByteArray) (w : World) (hk : k.size ≤ 16) (hs : s.size ≤ 140737488355296) (hT : Hid (mangled k s = T)) :
    Calls Try.prog 8 #[.string k, .string s] w fun e w' => e = .returned (.string T) ∧ Below w.heap.size w w' := by
  have := mangle_any k s w hk hs
  rw [hT.out] at this
  exact this

set_option maxRecDepth 100000 in
set_option maxHeartbeats 2000000 in
theorem alive_any (w : World) : Calls Try.prog 7 #[] w fun e w' => e = .returned (.bool true) ∧ Below w.heap.size w w' := by
  have hT : Hid (mangled ⟨#[110]⟩ ⟨#[120]⟩ = ⟨#[95, 95, 99, 95, 110, 95, 120]⟩) := rfl
  have hR : Hid (Lib.hasPrefix (⟨#[95, 95, 99, 95, 97]⟩ : ByteArray).data.toList pre = true) := by unfold Hid; decide
  go_enter Try.func7, Try.ntmps7
  go_wp2_with (go_at_call 15; go_in)
  refine (mangle_is _ _ _ _ (by decide) (by decide) hT).mono ?_
  rintro e w1 ⟨rfl, hb⟩
  have HB := Lib.hid hb
  clear hb
  go_wp2_with fail
  refine (reserved_is _ _ _ hR).mono ?_
  rintro e w2 ⟨rfl, rfl⟩
  go_wp2
  go_ret
  exact ⟨by simp, HB.out⟩

theorem convAt (w : World) (g : Nat) (x : Int) (c : UInt8) (hx : x = c.toNat) (hc : w.cell? ⟨g, 0, none⟩ = some (.int .u8 x)) : (convert 23 9 (.slice (some ⟨g, 0, none⟩) 1 1)).run Try.prog w = .ok (.string ⟨#[c]⟩) w := by
  subst hx
  refine run_convert_bytes_back w 23 9 5 ⟨g, 0, none⟩ 1 [c] Try.underlying23 Try.underlying5 Try.underlying9 fun j hj => ?_
  match j, hj with
  | 0, _ => simpa [Addr.add] using hc
def lettr (k : Int) : UInt8 := UInt8.ofNat (97 + k.tmod 26).toNat
theorem wrap_lettr (k : Int) (hk : 0 ≤ k ∧ k < 256) : IntKind.u8.wrap (97 + k.tmod 26) = (lettr k).toNat := by
  have h1 : k.tmod 26 = k % 26 := Int.tmod_eq_emod_of_nonneg hk.1
  rw [h1]
  unfold lettr
  rw [h1]
  have h2 : IntKind.u8.wrap (97 + k % 26) = (97 + k % 26) % 256 := by
    unfold IntKind.wrap
    simp [IntKind.bits, IntKind.signed]
  rw [h2]
  simp
  omega
theorem lettr_toNat (k : Int) (hk : 0 ≤ k ∧ k < 256) : ((lettr k).toNat : Int) = 97 + k.tmod 26 := by
  have h1 : k.tmod 26 = k % 26 := Int.tmod_eq_emod_of_nonneg hk.1
  unfold lettr
  rw [h1]
  simp
  omega

set_option maxRecDepth 100000 in
set_option maxHeartbeats 2000000 in
theorem mangles_t (a b P Q : ByteArray) (k l : Int) (w : World) (ha : a.size ≤ 140737488355296) (hB : b.size ≤ 140737488355296) (hk : 0 ≤ k ∧ k < 256) (hl : 0 ≤ l ∧ l < 256)
    (hP : Hid (mangled ⟨#[lettr k]⟩ a = P)) (hQ : Hid (mangled ⟨#[lettr l]⟩ b = Q)) (hPr : Hid (Lib.hasPrefix P.data.toList pre = true)) (hQr : Hid (Lib.hasPrefix Q.data.toList pre = true))
    (hpq : Hid ((P.toList == Q.toList) = ((a.toList == b.toList) && (lettr k == lettr l)))) :
    Calls Try.prog 3 #[.string a, .string b, .int .u8 k, .int .u8 l] w fun e w' => e = .returned (.bool true) ∧ Below w.heap.size w w' := by
  go_enter Try.func3, Try.ntmps3
  go_wp2_with fail
  refine (alive_any _).mono ?_
  rintro e w1 ⟨rfl, hb⟩
  have hz := hb.size
  have HB := Lib.hid hb
  clear hb
  go_upto_region 3 with fail
  have eX := wrap_lettr k hk
  have eY := wrap_lettr l hl
  have x1 := convAt (w1.alloc (.cells #[.int .u8 (lettr k).toNat] 5)).drew w1.heap.size (lettr k).toNat _ rfl (by simp)
  have x2 := convAt ((w1.alloc (.cells #[.int .u8 (lettr k).toNat] 5)).alloc (.cells #[.int .u8 (lettr l).toNat] 5)).drew w1.heap.size (lettr k).toNat _ rfl (by simp)
  have x3 := convAt ((w1.alloc (.cells #[.int .u8 (lettr l).toNat] 5)).alloc (.cells #[.int .u8 (lettr k).toNat] 5)).drew (w1.heap.size + 1) (lettr k).toNat _ rfl (by simp)
  have y1 := convAt (w1.alloc (.cells #[.int .u8 (lettr l).toNat] 5)).drew w1.heap.size (lettr l).toNat _ rfl (by simp)
  have y2 := convAt ((w1.alloc (.cells #[.int .u8 (lettr l).toNat] 5)).alloc (.cells #[.int .u8 (lettr k).toNat] 5)).drew w1.heap.size (lettr l).toNat _ rfl (by simp)
  have y3 := convAt ((w1.alloc (.cells #[.int .u8 (lettr k).toNat] 5)).alloc (.cells #[.int .u8 (lettr l).toNat] 5)).drew (w1.heap.size + 1) (lettr l).toNat _ rfl (by simp)
  go_cut [9, 10] (fun s9 s10 wx => s9 = .string ⟨#[lettr k]⟩ ∧ s10 = .string ⟨#[lettr l]⟩ ∧ Below w.heap.size w wx)
  case first =>
    go_region_with fail
    all_goals
      go_wp2_with fail
      go_meet
      refine ⟨rfl, rfl, ?_⟩
      repeat (first | (with_reducible exact HB.out) | (with_reducible refine Below.alloc ?_ (by first | omega | (simp <;> omega)) _) | (with_reducible refine Below.drew ?_))
  case rest =>
    obtain ⟨rfl, rfl, hbx⟩ := hcut
    have HX := Lib.hid hbx
    clear hbx
    go_wp2_with fail
    refine (mangle_is _ _ _ _ (Nat.le_of_lt (by show 1 < 16; decide)) ha hP).mono ?_
    rintro e w3 ⟨rfl, hb⟩
    have HY := Lib.hid (HX.out.trans (hb.mono HX.out.size))
    clear hb
    go_wp2_with fail
    refine (mangle_is _ _ _ _ (Nat.le_of_lt (by show 1 < 16; decide)) hB hQ).mono ?_
    rintro e w4 ⟨rfl, hb⟩
    have HZ := Lib.hid (HY.out.trans (hb.mono HY.out.size))
    clear hb
    go_wp2_with fail
    refine (reserved_is _ _ _ hPr).mono ?_
    rintro e w5 ⟨rfl, rfl⟩
    go_wp2_with fail
    refine (reserved_is _ _ _ hQr).mono ?_
    rintro e w6 ⟨rfl, rfl⟩
    go_wp2_with fail
    all_goals
      go_ret
      refine ⟨?_, HZ.out⟩
      simp [hpq.out, *]
      done

theorem mangled_begins (k s : ByteArray) : Lib.hasPrefix (mangled k s).data.toList pre = true := by
  show Lib.hasPrefix (mangledL k.data.toList s.data.toList) pre = true
  simp [Lib.hasPrefix, mangledL, pre]

theorem mangles_law (a b : ByteArray) (k l : Int) (w : World) (ha : a.size ≤ 140737488351232) (hB : b.size ≤ 140737488351232) (hk : 0 ≤ k ∧ k < 256) (hl : 0 ≤ l ∧ l < 256) :
    Calls Try.prog 3 #[.string a, .string b, .int .u8 k, .int .u8 l] w fun e w' => e = .returned (.bool true) ∧ Below w.heap.size w w' := by
  refine mangles_t a b _ _ k l w (by omega) (by omega) hk hl rfl rfl (mangled_begins _ _) (mangled_begins _ _) ?_
  show _ = _
  rw [Bool.eq_iff_iff]
  simp only [ByteArray.toList_eq, beq_iff_eq, Bool.and_eq_true]
  show mangledL [lettr k] a.data.toList = mangledL [lettr l] b.data.toList ↔ _
  simp [mangledL, pre]
  exact And.comm

theorem octet_of {n : Int} (h : (Lit.int .u8 n).wf = true) : 0 ≤ n ∧ n < 256 := by
  have h' : IntKind.u8.min ≤ n ∧ n ≤ IntKind.u8.max := by simpa [Lit.wf] using h
  simp [IntKind.min, IntKind.max, IntKind.bits, IntKind.signed] at h'
  omega
end Go.Proofs.Ytihbdacmgojapaa

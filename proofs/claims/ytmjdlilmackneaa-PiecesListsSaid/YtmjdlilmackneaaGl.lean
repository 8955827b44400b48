/- glob.open and the closures of glob.elements: what they tell; conditions: as each theorem states. -/
import Derived.Test.YtmjdlilmackneaaGp
import Derived.WalkKit
import Derived.WalkSpells
import Derived.WalkLawsBesides
import Derived.LoopTactic
import Derived.Lib.Hide
import Derived.Below
import Derived.Outline
import Derived.Deep.DeepCutAuto
import Derived.Deep.CutBlock
import Derived.Deep.Light
import Derived.Deep.RegionWith
namespace Go.Proofs.Ytmjdlilmackneaa
open Go.RowKit

theorem dif {p : Prop} [Decidable p] {a b : Bool} (h : a = b) : Ending.returned (.bool a) = .returned (.bool b) := by rw [h]

set_option maxRecDepth 100000 in
set_option maxHeartbeats 2000000 in
theorem open_any (x c : UInt8) (q : Bool) (w : World) :
    Calls Try.prog 37 #[.agg #[.int .u8 x.toNat, .bool q], .int .u8 c.toNat] w fun e w' => e = .returned (.bool (!q && (x == c))) ∧ w' = w.alloc (.cells #[.int .u8 x.toNat, .bool q] 25) := by
  have hx : ((x.toNat : Int) == (c.toNat : Int)) = (x == c) := by
    rw [Bool.eq_iff_iff, beq_iff_eq, beq_iff_eq]
    exact ⟨fun e => UInt8.toNat_inj.1 (Int.ofNat.inj e), fun e => by rw [e]⟩
  cases q
  all_goals
    go_enter Try.func37, Try.ntmps37
    go_wp2
    go_ret
    exact ⟨by simp, rfl⟩

set_option maxRecDepth 100000 in
set_option maxHeartbeats 2000000 in
theorem lit_any (b : Nat) (x c : UInt8) (w : World) (h0 : w.cell? ⟨b, 0, none⟩ = some (.int .u8 x.toNat)) :
    Calls Try.prog 36 #[.int .u8 c.toNat, .pointer (some ⟨b, 0, none⟩)] w fun e w' => e = .returned (.bool (x == c)) ∧ w' = w := by
  have hx : ((x.toNat : Int) == (c.toNat : Int)) = (x == c) := by
    rw [Bool.eq_iff_iff, beq_iff_eq, beq_iff_eq]
    exact ⟨fun e => UInt8.toNat_inj.1 (Int.ofNat.inj e), fun e => by rw [e]⟩
  go_enter Try.func36, Try.ntmps36
  go_wp2
  go_ret
  exact ⟨by simp, rfl⟩

set_option maxRecDepth 100000 in
set_option maxHeartbeats 2000000 in
theorem anyf_any (c : UInt8) (w : World) :
    Calls Try.prog 38 #[.int .u8 c.toNat] w fun e w' => e = .returned (.bool true) ∧ w' = w := by
  go_enter Try.func38, Try.ntmps38
  go_wp2
  go_ret
  exact ⟨by simp, rfl⟩

set_option maxRecDepth 100000 in
set_option maxHeartbeats 2000000 in
theorem once_any (b : Bool) (v : Value) (w : World) :
    Calls Try.prog 35 #[.agg #[.bool b, v]] w fun e w' => e = .returned (.bool (!b)) ∧ Below w.heap.size w w' := by
  go_enter Try.func35, Try.ntmps35
  go_wp2
  go_ret
  exact ⟨by simp, (Below.refl _ _).alloc (Nat.le_refl _) _⟩

/-- Elements as they lie from a cell on: which are stars. -/
def Lies (g o : Nat) (es : List El) (w : World) : Prop := ∀ j (h : j < es.length), ∃ v, w.cell? ⟨g, o + j * 2, none⟩ = some (.bool (isStar es[j])) ∧ w.cell? ⟨g, o + j * 2 + 1, none⟩ = some v ∧ v.oneCell' = true

set_option maxRecDepth 100000 in
set_option maxHeartbeats 2000000 in
theorem index_any (ao : Option Addr) (g o cap : Nat) (es : List El) (w : World) (ha : 0 < es.length → ao = some ⟨g, o, none⟩) (hg : 0 < es.length → g < w.heap.size) (hl : Lies g o es w) (hm : es.length ≤ 4611686018427387904) :
    Calls Try.prog 43 #[.slice ao es.length cap, .func (.func 35) #[] #[]] w fun e w' => ∃ r : Int, e = .returned (.int .i64 r) ∧ decide (0 ≤ r) = !es.all isStar ∧ Below w.heap.size w w' := by
  obtain ⟨m, hmm⟩ : ∃ m, m = es.length := ⟨_, rfl⟩
  rw [← hmm] at ha hg ⊢
  have HM := Lib.hid hmm
  clear hmm
  have HL := Lib.hid hl
  clear hl
  have hm' : m ≤ 4611686018427387904 := by have := HM.out; omega
  go_enter Try.func43, Try.ntmps43
  go_wp2_with fail
  go_loopw [8] (fun i wr => ∃ k : Nat, k ≤ m ∧ i = .int .i64 k ∧ Hid (∀ j (h : j < es.length), j < k → isStar es[j] = true) ∧ Hid (Below w.heap.size w wr)) (fun i _ => m - (intOf i).toNat)
  case atStart => exact ⟨0, Nat.zero_le _, rfl, fun j _ h => by omega, Below.refl _ _⟩
  case round =>
    obtain ⟨k, hk, rfl, hz, hb⟩ := hrel
    by_cases hlt : k < m
    · have hkl : k < es.length := by rw [← HM.out]; exact hlt
      obtain rfl := ha (by omega)
      have hg := hg (by omega)
      obtain ⟨v, c0, c1, _⟩ := HL.out k hkl
      have d0 := (hb.out.cell (p := ⟨g, o + k * 2, none⟩) hg).trans c0
      have d1 := (hb.out.cell (p := ⟨g, o + k * 2 + 1, none⟩) hg).trans c1
      obtain ⟨e, he⟩ : ∃ e, e = es[k] := ⟨_, rfl⟩
      have HE := Lib.hid he
      rw [← he] at d0
      clear he c0 c1
      go_wp2_with fail
      refine (once_any _ v _).mono ?_
      rintro e' w1 ⟨rfl, hb1⟩
      have HB1 := Lib.hid (hb.out.trans (hb1.mono hb.out.size))
      clear hb1
      cases hs : isStar e
      · go_wp2_with fail
        go_ret
        refine ⟨k, rfl, ?_, HB1.out⟩
        have hnot : es.all isStar = false := by
          rw [List.all_eq_false]
          exact ⟨es[k], List.getElem_mem hkl, by rw [← HE.out, hs]; simp⟩
        rw [hnot]
        simp
      · go_wp2_with fail
        go_round
        case rel =>
          refine ⟨k + 1, by omega, by go_num, fun j hj hjk => ?_, HB1.out⟩
          by_cases e' : j = k
          · subst e'; rw [← HE.out]; exact hs
          · exact hz.out j hj (by omega)
        case measure => simp [intOf]; omega
    · go_wp2_with fail
      go_ret
      refine ⟨-1, rfl, ?_, hb.out⟩
      have hall : es.all isStar = true := by
        rw [List.all_eq_true]
        intro x hx
        obtain ⟨j, hj, rfl⟩ := List.mem_iff_getElem.1 hx
        exact hz.out j hj (by have := HM.out; omega)
      rw [hall]
      rfl

set_option maxRecDepth 100000 in
set_option maxHeartbeats 2000000 in
theorem contains_any (ao : Option Addr) (g o cap : Nat) (es : List El) (w : World) (ha : 0 < es.length → ao = some ⟨g, o, none⟩) (hg : 0 < es.length → g < w.heap.size) (hl : Lies g o es w) (hm : es.length ≤ 4611686018427387904) :
    Calls Try.prog 34 #[.slice ao es.length cap, .func (.func 35) #[] #[]] w fun e w' => e = .returned (.bool (!es.all isStar)) ∧ Below w.heap.size w w' := by
  have HL := Lib.hid hl
  clear hl
  go_enter Try.func34, Try.ntmps34
  go_wp2_with fail
  refine (index_any ao g o cap es w ha hg HL.out hm).mono ?_
  rintro e w1 ⟨r, rfl, hr, hb⟩
  have HB := Lib.hid hb
  clear hb
  go_wp2
  go_ret
  exact ⟨by simp, HB.out⟩
end Go.Proofs.Ytmjdlilmackneaa

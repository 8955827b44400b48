/- The walk of ParamsJoin; conditions: as each theorem states. -/
import Derived.Test.YtmjdlilmackneaaDoorKf
namespace Go.Proofs.YtmjdlilmackneaaDoor
open Go.RowKit

theorem lens_step (xs : List ByteArray) (k : Nat) (h : k < xs.length) : Lib.lens (LS (xs.take (k + 1))) = Lib.lens (LS (xs.take k)) + xs[k].size := by
  have h1 := Lib.lens_take_succ (LS xs) k xs[k].data.toList (by simp [LS, h])
  have h2 : ∀ j, LS (xs.take j) = (LS xs).take j := fun j => by simp [LS, List.map_take]
  rw [h2, h2, h1]
  simp
theorem lens_le (xs : List ByteArray) (k : Nat) : Lib.lens (LS (xs.take k)) ≤ Lib.lens (LS xs) := by
  have h2 : LS (xs.take k) = (LS xs).take k := by simp [LS, List.map_take]
  rw [h2]
  exact Lib.lens_take_le _ _

set_option maxRecDepth 100000 in
set_option maxHeartbeats 2000000 in
theorem pjoin_none (ao : Option Addr) (cap : Nat) (s : ByteArray) (w : World) (ht : Tab w) (hs : s.size ≤ 1048576) :
    Calls Tryd.prog 3 #[.slice ao 0 cap, .string s] w fun e w' => e = .returned (.bool true) ∧ Below w.heap.size w w' := by
  have HAl : Hid (Calls Tryd.prog 8 #[] w fun e w' => e = .returned (.bool true) ∧ Below w.heap.size w w') := alive18_any w ht
  have HJ : Hid (∀ (set : Bool) (V : World), Calls Tryd.prog 9 #[.slice ao 0 cap, .string s, .bool set] V fun e w' => e = .returned (.string ⟨#[]⟩) ∧ Below V.heap.size V w') := fun set V =>
    join_any ao 0 0 cap [] s set V (fun h => absurd h (by decide)) (Nat.zero_le _) (fun j x hj => by simp at hj) (fun h => absurd h (by decide)) (by decide) (by decide) (by omega)
  obtain ⟨z, hz⟩ : ∃ z : Nat, z = 0 := ⟨0, rfl⟩
  obtain ⟨r, hr⟩ : ∃ r : ByteArray, r = ⟨#[]⟩ := ⟨_, rfl⟩
  rw [← hr] at HJ
  have hrz : r.size = 0 := by rw [hr]; rfl
  rw [← hz] at HJ ⊢
  have hg : max 0 ((z : Int) - 1) = 0 := by rw [hz]; rfl
  have q3 : 0 ≤ max 0 ((z : Int) - 1) * min 1 (s.size : Int) := by rw [hg]; omega
  have q4 : max 0 ((z : Int) - 1) * min 1 (s.size : Int) ≤ 1048576 := by rw [hg]; omega
  have e1 : ((r.size : Int) == max 0 ((z : Int) - 1)) = true := by rw [hg, hrz]; rfl
  have e2 : Hid ((r.size : Int) = max 0 ((z : Int) - 1) * min 1 (s.size : Int)) := by
    show _ = _
    rw [hg, hrz]
    omega
  have HZ := Lib.hid hz
  have hz0 : ¬ ((0 : Int) < (z : Int)) := by omega
  have hz1 : (z : Int) ≤ 0 := by omega
  clear ht hz hr hrz hg
  go_enter Tryd.func3, Tryd.ntmps3
  go_wp2_with fail
  refine HAl.out.mono ?_
  rintro e w0 ⟨rfl, hb0⟩
  have HB0 := Lib.hid hb0
  clear hb0
  go_wp2_with fail
  go_loopw [5, 6] (fun nv i wr => nv = .int .i64 0 ∧ i = .int .i64 0 ∧ Hid (Below w.heap.size w wr)) (fun _ _ _ => 0)
  case atStart => exact ⟨rfl, rfl, HB0.out⟩
  case round =>
    obtain ⟨rfl, rfl, hb⟩ := hrel
    go_wp2_with fail
    refine (HJ.out true _).mono ?_
    rintro e w1 ⟨rfl, hb1⟩
    have HB1 := Lib.hid (hb.out.trans (hb1.mono hb.out.size))
    clear hb1
    go_wp2_with fail
    refine (HJ.out false _).mono ?_
    rintro e w2 ⟨rfl, hb2⟩
    have HB2 := Lib.hid (HB1.out.trans (hb2.mono HB1.out.size))
    clear hb2
    go_wp2_with fail
    go_ret
    exact ⟨ret_b (by rw [e2.out]; simp), HB2.out⟩

set_option maxRecDepth 100000 in
set_option maxHeartbeats 2000000 in
theorem pjoin_some (b o cap : Nat) (xs : List ByteArray) (s : ByteArray) (w : World) (ht : Tab w) (h0 : 0 < xs.length) (hcap : xs.length ≤ cap) (hx : StrsAt b o xs w) (hb : b < w.heap.size) (hn : xs.length ≤ 1048576) (hl : Lib.lens (LS xs) ≤ 1048576) (hs : s.size ≤ 1048576) :
    Calls Tryd.prog 3 #[.slice (some ⟨b, o, none⟩) xs.length cap, .string s] w fun e w' => e = .returned (.bool true) ∧ Below w.heap.size w w' := by
  have HAl : Hid (Calls Tryd.prog 8 #[] w fun e w' => e = .returned (.bool true) ∧ Below w.heap.size w w') := alive18_any w ht
  obtain ⟨ra, hra⟩ : ∃ r, r = joined xs (sepOf s true) := ⟨_, rfl⟩
  obtain ⟨rb, hrb⟩ : ∃ r, r = joined xs (sepOf s false) := ⟨_, rfl⟩
  have HJA : Hid (∀ V : World, Below w.heap.size w V → Calls Tryd.prog 9 #[.slice (some ⟨b, o, none⟩) xs.length cap, .string s, .bool true] V fun e w' => e = .returned (.string ra) ∧ Below V.heap.size V w') := fun V hV => by
    rw [hra]
    exact join_any _ b o cap xs s true V (fun _ => rfl) hcap (hx.below (fun _ => hb) hV) (fun _ => Nat.lt_of_lt_of_le hb hV.size) hn hl (by omega)
  have HJB : Hid (∀ V : World, Below w.heap.size w V → Calls Tryd.prog 9 #[.slice (some ⟨b, o, none⟩) xs.length cap, .string s, .bool false] V fun e w' => e = .returned (.string rb) ∧ Below V.heap.size V w') := fun V hV => by
    rw [hrb]
    exact join_any _ b o cap xs s false V (fun _ => rfl) hcap (hx.below (fun _ => hb) hV) (fun _ => Nat.lt_of_lt_of_le hb hV.size) hn hl (by omega)
  have sa : ra.size = Lib.lens (LS xs) + (xs.length - 1) * (min s.size 1) := by
    rw [hra, joined_size]
    congr 2
    show (s.extract 0 (min s.size 1)).size = _
    rw [ByteArray.size_extract]
    omega
  have sb : rb.size = Lib.lens (LS xs) + (xs.length - 1) := by
    rw [hrb, joined_size]
    show _ + _ * 1 = _
    rw [Nat.mul_one]
  clear hra hrb
  obtain ⟨L, hL⟩ : ∃ L, L = Lib.lens (LS xs) := ⟨_, rfl⟩
  have HSA := Lib.hid sa
  have HSB := Lib.hid sb
  have HX := Lib.hid hx
  have HLL := Lib.hid hL
  have HN := Lib.hid hn
  have HLm := Lib.hid hl
  clear hx ht sa sb hL hn hl
  go_enter Tryd.func3, Tryd.ntmps3
  go_wp2_with fail
  refine HAl.out.mono ?_
  rintro e w0 ⟨rfl, hb0⟩
  have HB0 := Lib.hid hb0
  clear hb0
  go_wp2_with fail
  go_loopw [5, 6] (fun nv i wr => ∃ k : Nat, k ≤ xs.length ∧ nv = .int .i64 (Lib.lens (LS (xs.take k)) : Nat) ∧ i = .int .i64 k ∧ Hid (Below w.heap.size w wr)) (fun _ i _ => xs.length - (intOf i).toNat)
  case atStart => exact ⟨0, Nat.zero_le _, rfl, rfl, HB0.out⟩
  case round =>
    obtain ⟨k, hk, rfl, rfl, hbr⟩ := hrel
    have hn := HN.out
    by_cases hlt : k < xs.length
    · have hc := (hbr.out.cell (p := ⟨b, o + k, none⟩) hb).trans (HX.out k xs[k] (by simp [hlt]))
      have hst := lens_step xs k hlt
      have hsl := lens_le xs (k + 1)
      obtain ⟨x, hxk⟩ : ∃ x, x = xs[k] := ⟨_, rfl⟩
      rw [← hxk] at hc hst
      clear hxk
      obtain ⟨p, hp⟩ : ∃ p, p = Lib.lens (LS (xs.take k)) := ⟨_, rfl⟩
      obtain ⟨q, hq⟩ : ∃ q, q = Lib.lens (LS (xs.take (k + 1))) := ⟨_, rfl⟩
      rw [← hp, ← hq] at hst
      rw [← hq] at hsl
      rw [← hp]
      have hql : q ≤ 1048576 := Nat.le_trans hsl HLm.out
      have hp1 : (p : Int) + (x.size : Int) ≤ 1048576 := by omega
      have HQ := Lib.hid hq
      have HST := Lib.hid hst
      clear hq hp hst hsl
      go_wp2_with fail
      go_roundw
      case rel =>
        refine ⟨k + 1, by omega, ?_, by go_num, hbr.out⟩
        rw [← HQ.out, HST.out]
        push_cast
        go_num
      case measure => simp [intOf]; omega
    · have hke : k = xs.length := by omega
      subst hke
      rw [List.take_length, ← HLL.out]
      have hLm : L ≤ 1048576 := by rw [HLL.out]; exact HLm.out
      have hg : (0 : Int) ≤ (xs.length : Int) - 1 := by omega
      have hmx : max 0 ((xs.length : Int) - 1) = ((xs.length - 1 : Nat) : Int) := by omega
      have hmn : min 1 (s.size : Int) = ((min s.size 1 : Nat) : Int) := by omega
      have hpr : max 0 ((xs.length : Int) - 1) * min 1 (s.size : Int) = (((xs.length - 1) * min s.size 1 : Nat) : Int) := by rw [hmx, hmn]; push_cast; rfl
      have hp0 : (xs.length - 1) * min s.size 1 ≤ 1048576 * 1 := Nat.mul_le_mul (by omega) (by omega)
      have q3 : 0 ≤ max 0 ((xs.length : Int) - 1) * min 1 (s.size : Int) := by omega
      have q4 : max 0 ((xs.length : Int) - 1) * min 1 (s.size : Int) ≤ 1048576 := by omega
      have e1 : ((rb.size : Int) == (L : Int) + max 0 ((xs.length : Int) - 1)) = true := by
        have := HSB.out
        rw [← HLL.out] at this
        rw [beq_iff_eq]
        omega
      have e2 : Hid ((ra.size : Int) = (L : Int) + max 0 ((xs.length : Int) - 1) * min 1 (s.size : Int)) := by
        have := HSA.out
        rw [← HLL.out] at this
        show _ = _
        omega
      clear hmx hmn hpr hp0
      go_wp2_with fail
      refine (HJA.out _ hbr.out).mono ?_
      rintro e w1 ⟨rfl, hb1⟩
      have HB1 := Lib.hid (hbr.out.trans (hb1.mono hbr.out.size))
      clear hb1
      go_wp2_with fail
      refine (HJB.out _ HB1.out).mono ?_
      rintro e w2 ⟨rfl, hb2⟩
      have HB2 := Lib.hid (HB1.out.trans (hb2.mono HB1.out.size))
      clear hb2
      go_wp2_with fail
      go_ret
      exact ⟨ret_b (by rw [e2.out]; simp), HB2.out⟩
end Go.Proofs.YtmjdlilmackneaaDoor

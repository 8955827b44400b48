/- The walk of ParamsTells; conditions: as the theorem states. -/
import Derived.Test.YtmjdlilmackneaaDoorKv
import Derived.Test.YtmjdlilmackneaaDoorKw
import Derived.Test.YtmjdlilmackneaaDoorKh
namespace Go.Proofs.YtmjdlilmackneaaDoor
open Go.RowKit

set_option maxRecDepth 100000 in
set_option maxHeartbeats 4000000 in
theorem tells_walk (s op : ByteArray) (p : List Ch) (v : Value) (set : Bool) (vl : Value) (xs : List ByteArray) (m : Nat) (w : World) (ht : Tab w) (hp : PatOf p v w) (hm : p.length ≤ 4194304) (hs : s.size ≤ 1048576) (hx : TextsOf vl w xs m) (hxm : m ≤ 1048576) :
    Calls Tryd.prog 4 #[.string s, .string op, v, .bool set, vl] w fun e w' => e = .returned (.bool true) ∧ Below w.heap.size w w' := by
  obtain ⟨a, e0, he0, HR1, HR2⟩ := remove_both op s p hm (by omega)
  obtain ⟨b, HA1, HA2⟩ := absent_both op s set
  obtain ⟨kd, hkd⟩ : ∃ k, k = kindI op := ⟨_, rfl⟩
  have hK1 : ∀ V, Tab V → Calls Tryd.prog 15 #[.string op] V fun e w' => e = .returned (.int .i64 kd) ∧ Below V.heap.size V w' := fun V hV => hkd ▸ kind_any op V hV
  have hK2 : ∀ V, Calls Tryd.prog 16 #[.string op] V fun e w' => e = .returned (.int .i64 kd) ∧ Below V.heap.size V w' := fun V => hkd ▸ rkind_any op V
  obtain ⟨⟨ao, bb, o, cap, rfl, hf, hcap, hxs, hb⟩, h1, h2⟩ := hx
  obtain ⟨j, hj⟩ : ∃ j, j = joined xs (sepOf s set) := ⟨_, rfl⟩
  have hJ1 : ∀ V : World, Below w.heap.size w V → Calls Tryd.prog 9 #[.slice ao xs.length cap, .string s, .bool set] V fun e w' => e = .returned (.string j) ∧ Below V.heap.size V w' := fun V hV => by
    rw [hj]
    exact join_any ao bb o cap xs s set V hf hcap (hxs.below hb hV) (fun h => Nat.lt_of_lt_of_le (hb h) hV.size) (by omega) (by omega) (by omega)
  have hJ2 : ∀ V : World, Below w.heap.size w V → Calls Tryd.prog 17 #[.slice ao xs.length cap, .string s, .bool set] V fun e w' => e = .returned (.string j) ∧ Below V.heap.size V w' := fun V hV => by
    rw [hj]
    exact rjoin_any ao bb o cap xs s set V hf (hxs.below hb hV) (fun h => Nat.lt_of_lt_of_le (hb h) hV.size) (by omega) (by omega) hs
  have R1 := Lib.hid HR1
  have R2 := Lib.hid HR2
  have A1 := Lib.hid HA1
  have A2 := Lib.hid HA2
  have K1 := Lib.hid hK1
  have K2 := Lib.hid hK2
  have J1 := Lib.hid hJ1
  have J2 := Lib.hid hJ2
  have HAl : Hid (∀ V, Tab V → Calls Tryd.prog 8 #[] V fun e w' => e = .returned (.bool true) ∧ Below V.heap.size V w') := fun V hV => alive18_any V hV
  have HT := Lib.hid ht
  have HP := Lib.hid hp
  obtain ⟨n, hn⟩ : ∃ n, n = xs.length := ⟨_, rfl⟩
  rw [← hn] at J1 J2 ⊢
  clear HR1 HR2 HA1 HA2 hK1 hK2 hJ1 hJ2 hkd hj ht hp hm hs hf hcap hxs hb h1 h2 hn hxm
  have he1 : Hid (e0 = 0 ∨ e0 = 23) := he0
  clear he0
  go_enter Tryd.func4, Tryd.ntmps4
  go_wp2_with fail
  refine (R1.out _ _ HP.out).mono ?_
  rintro e w1 ⟨rfl, hb1⟩
  have HP1 := Lib.hid (HP.out.below hb1)
  have HT1 := Lib.hid (HT.out.below hb1)
  have HB1 := Lib.hid hb1
  clear hb1
  go_wp2_with fail
  refine (R2.out _ _ HP1.out).mono ?_
  rintro e w2 ⟨rfl, hb2⟩
  have HT2 := Lib.hid (HT1.out.below hb2)
  have HB2 := Lib.hid (HB1.out.trans (hb2.mono HB1.out.size))
  clear hb2
  go_wp2_with (go_at_call 12; ((with_reducible refine (num18_any _ _).mono ?_); rintro e w6 ⟨rfl, rfl⟩))
  refine (A1.out _ HT2.out).mono ?_
  rintro e w3 ⟨rfl, hb3⟩
  have HT3 := Lib.hid (HT2.out.below hb3)
  have HB3 := Lib.hid (HB2.out.trans (hb3.mono HB2.out.size))
  clear hb3
  go_wp2_with fail
  refine (A2.out _).mono ?_
  rintro e w4 ⟨rfl, hb4⟩
  have HT4 := Lib.hid (HT3.out.below hb4)
  have HB4 := Lib.hid (HB3.out.trans (hb4.mono HB3.out.size))
  clear hb4
  go_wp2_with fail
  refine (K1.out _ HT4.out).mono ?_
  rintro e w5 ⟨rfl, hb5⟩
  have HT5 := Lib.hid (HT4.out.below hb5)
  have HB5 := Lib.hid (HB4.out.trans (hb5.mono HB4.out.size))
  clear hb5
  go_wp2_with fail
  refine (K2.out _).mono ?_
  rintro e w6 ⟨rfl, hb6⟩
  have HT6 := Lib.hid (HT5.out.below hb6)
  have HB6 := Lib.hid (HB5.out.trans (hb6.mono HB5.out.size))
  clear hb6
  go_wp2_with fail
  refine (J1.out _ HB6.out).mono ?_
  rintro e w7 ⟨rfl, hb7⟩
  have HT7 := Lib.hid (HT6.out.below hb7)
  have HB7 := Lib.hid (HB6.out.trans (hb7.mono HB6.out.size))
  clear hb7
  go_wp2_with fail
  refine (J2.out _ HB7.out).mono ?_
  rintro e w8 ⟨rfl, hb8⟩
  have HT8 := Lib.hid (HT7.out.below hb8)
  have HB8 := Lib.hid (HB7.out.trans (hb8.mono HB7.out.size))
  clear hb8
  go_wp2_with fail
  refine (HAl.out _ HT8.out).mono ?_
  rintro e w9 ⟨rfl, hb9⟩
  have HT9 := Lib.hid (HT8.out.below hb9)
  have HB9 := Lib.hid (HB8.out.trans (hb9.mono HB8.out.size))
  clear hb9
  go_wp2_with fail
  go_ret
  exact ⟨by simp, HB9.out⟩
end Go.Proofs.YtmjdlilmackneaaDoor

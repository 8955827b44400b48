/- cowrieref03.step: what it tells; conditions: as each theorem states. -/
import Derived.Test.YtmjdlilmackneaaDoorKm
namespace Go.Proofs.YtmjdlilmackneaaDoor
open Go.RowKit

set_option maxRecDepth 100000 in
set_option maxHeartbeats 2000000 in
theorem step_any (p : List Ch) (v : Value) (k : Nat) (c : UInt8) (w : World) (hp : PatOf p v w) (hm : p.length ≤ 4194304) (hk : k < p.length) (hs : stA p k = false) :
    Calls Tryd.prog 34 #[v, .int .i64 (k : Int), .int .u8 c.toNat] w fun e w' => e = .returned (.tuple #[.bool (tst (fstAt p k).1 c), .int .i64 ((k + (fstAt p k).2 : Nat) : Int)]) ∧ Below w.heap.size w w' := by
  have hk2 : k ≤ 4194304 := by omega
  obtain ⟨q, hq⟩ : ∃ q, q = isAt p k 63 := ⟨_, rfl⟩
  have H1 : Hid (Calls Tryd.prog 33 #[v, .int .i64 (k : Int), .int .u8 63] w fun e w' => e = .returned (.bool q) ∧ Below w.heap.size w w') := hq ▸ is_any p v k 63 w hp hm (by omega)
  cases q with
  | true =>
    rw [fst_q p k hk hs hq.symm]
    clear hq hp hm hs hk
    go_enter Tryd.func34, Tryd.ntmps34
    go_wp2_with fail
    refine H1.out.mono ?_
    rintro e w1 ⟨rfl, hb1⟩
    have HB1 := Lib.hid hb1
    clear hb1
    go_wp2_with fail
    go_ret2
    exact ⟨by simp [tst], HB1.out⟩
  | false =>
    obtain ⟨s, h91⟩ : ∃ q, q = isAt p k 91 := ⟨_, rfl⟩
    have H2 : Hid (∀ V, PatOf p v V → Calls Tryd.prog 33 #[v, .int .i64 (k : Int), .int .u8 91] V fun e w' => e = .returned (.bool s) ∧ Below V.heap.size V w') := fun V hV => h91 ▸ is_any p v k 91 V hV hm (by omega)
    obtain ⟨z, hz⟩ : ∃ z, z = endI p k := ⟨_, rfl⟩
    have H3 : Hid (∀ V, PatOf p v V → Calls Tryd.prog 44 #[v, .int .i64 (k : Int)] V fun e w' => e = .returned (.int .i64 z) ∧ Below V.heap.size V w') := fun V hV => hz ▸ end_any p v k V hV hm hk2
    have hbd := endI_bd p k
    rw [← hz] at hbd
    by_cases hlit : s = false ∨ z = -1
    · have hf := fst_lit p k hk hs hq.symm (by rw [← h91, ← hz]; exact hlit)
      rw [hf]
      have HP := Lib.hid hp
      obtain ⟨ao, b, o, cap, rfl, hcap, ha, hg, hl⟩ := hp
      obtain rfl := ha (by omega)
      have hgb := hg (by omega)
      obtain ⟨c0, -⟩ := hl k hk
      obtain ⟨x, hx⟩ : ∃ x, x = p[k].1 := ⟨_, rfl⟩
      rw [← hx] at c0 ⊢
      have HC0 := Lib.hid c0
      obtain ⟨m, hmm⟩ : ∃ m, m = p.length := ⟨_, rfl⟩
      rw [← hmm] at H1 H2 H3 HP ⊢
      have hkm : k < m := by omega
      have hm' : m ≤ 4194304 := by omega
      have hr : ((x.toNat : Int) == (c.toNat : Int)) = (x == c) := by
        rw [Bool.eq_iff_iff, beq_iff_eq, beq_iff_eq]
        exact ⟨fun e => UInt8.toNat_inj.1 (Int.ofNat.inj e), fun e => by rw [e]⟩
      obtain ⟨r, hrr⟩ : ∃ r, r = (x == c) := ⟨_, rfl⟩
      rw [← hrr] at hr
      have hgoal : tst (El.test fun y => x == y) c = r := by rw [hrr]; rfl
      rw [hgoal]
      clear hq h91 hz hf hs hk hm hmm hx hcap ha hg hl c0 hbd hrr hgoal
      cases s
      · clear hlit H3
        go_enter Tryd.func34, Tryd.ntmps34
        go_wp2_with fail
        refine H1.out.mono ?_
        rintro e w1 ⟨rfl, hb1⟩
        have HP1 := Lib.hid (HP.out.below hb1)
        have g0 := (hb1.cell (p := ⟨b, o + k * 2, none⟩) hgb).trans HC0.out
        have HG0 := Lib.hid g0
        have hz1 : b < w1.heap.size := Nat.lt_of_lt_of_le hgb hb1.size
        have HB1 := Lib.hid hb1
        clear hb1 g0
        go_wp2_with fail
        refine (H2.out _ HP1.out).mono ?_
        rintro e w2 ⟨rfl, hb2⟩
        have g0 := (hb2.cell (p := ⟨b, o + k * 2, none⟩) hz1).trans HG0.out
        have HB2 := Lib.hid (HB1.out.trans (hb2.mono HB1.out.size))
        clear hb2
        go_wp2_with fail
        go_ret2
        exact ⟨by simp, HB2.out⟩
      · obtain rfl : z = -1 := by rcases hlit with h | h; cases h; exact h
        go_enter Tryd.func34, Tryd.ntmps34
        go_wp2_with fail
        refine H1.out.mono ?_
        rintro e w1 ⟨rfl, hb1⟩
        have HP1 := Lib.hid (HP.out.below hb1)
        have g0 := (hb1.cell (p := ⟨b, o + k * 2, none⟩) hgb).trans HC0.out
        have HG0 := Lib.hid g0
        have hz1 : b < w1.heap.size := Nat.lt_of_lt_of_le hgb hb1.size
        have HB1 := Lib.hid hb1
        clear hb1 g0
        go_wp2_with fail
        refine (H2.out _ HP1.out).mono ?_
        rintro e w2 ⟨rfl, hb2⟩
        have HP2 := Lib.hid (HP1.out.below hb2)
        have g0 := (hb2.cell (p := ⟨b, o + k * 2, none⟩) hz1).trans HG0.out
        have HG2 := Lib.hid g0
        have hz2 : b < w2.heap.size := Nat.lt_of_lt_of_le hz1 hb2.size
        have HB2 := Lib.hid (HB1.out.trans (hb2.mono HB1.out.size))
        clear hb2 g0
        go_wp2_with fail
        refine (H3.out _ HP2.out).mono ?_
        rintro e w3 ⟨rfl, hb3⟩
        have g0 := (hb3.cell (p := ⟨b, o + k * 2, none⟩) hz2).trans HG2.out
        have HB3 := Lib.hid (HB2.out.trans (hb3.mono HB2.out.size))
        clear hb3
        go_wp2_with fail
        go_ret2
        exact ⟨by simp, HB3.out⟩
    · have hs1 : s = true := by cases s <;> simp_all
      subst hs1
      have hz0 : z ≠ -1 := fun h => hlit (Or.inr h)
      obtain ⟨e, he⟩ : ∃ e : Nat, z = e := ⟨z.toNat, by omega⟩
      subst he
      have hf := fst_set p k e hk hs hq.symm h91.symm hz.symm
      obtain ⟨ng, hng⟩ : ∃ r, r = ngd p k := ⟨_, rfl⟩
      have hfro : fro p k = if ng then 2 else 1 := by rw [hng]; rfl
      rw [← hng, hfro] at hf
      have H4 : Hid (∀ V, PatOf p v V → Calls Tryd.prog 45 #[v, .int .i64 (k : Int)] V fun e w' => e = .returned (.bool ng) ∧ Below V.heap.size V w') := fun V hV => hng ▸ neg_any p v k V hV hm hk2
      obtain ⟨r, hr⟩ : ∃ r, r = spn c ((p.take e).drop (k + if ng then 2 else 1)) := ⟨_, rfl⟩
      rw [hfro] at hbd
      have H5 : Hid (∀ V, PatOf p v V → Calls Tryd.prog 46 #[v, .int .i64 ((k + (if ng then 2 else 1) : Nat) : Int), .int .i64 (e : Int), .int .u8 c.toNat] V fun e w' => e = .returned (.bool r) ∧ Below V.heap.size V w') := fun V hV => hr ▸ in_any p v _ e c V hV hm (by omega) (by omega)
      have hgoal : tst (fstAt p k).1 c = (r != ng) := by rw [hf, hr]; rfl
      have hlen : k + (fstAt p k).2 = e + 1 := by rw [hf]; show k + (e + 1 - k) = _; cases ng <;> simp at hbd <;> omega
      rw [hgoal, hlen]
      have HP := Lib.hid hp
      have he2 : e ≤ 4194304 := by omega
      clear hq h91 hz hf hs hk hm hbd hlit hz0 hng hfro hr hgoal hlen hp
      cases ng
      · have H5' : Hid (∀ V, PatOf p v V → Calls Tryd.prog 46 #[v, .int .i64 ((k : Int) + 1), .int .i64 (e : Int), .int .u8 c.toNat] V fun e w' => e = .returned (.bool r) ∧ Below V.heap.size V w') := H5.out
        clear H5
        go_enter Tryd.func34, Tryd.ntmps34
        go_wp2_with fail
        refine H1.out.mono ?_
        rintro e w1 ⟨rfl, hb1⟩
        have HP1 := Lib.hid (HP.out.below hb1)
        have HB1 := Lib.hid hb1
        clear hb1
        go_wp2_with fail
        refine (H2.out _ HP1.out).mono ?_
        rintro e w2 ⟨rfl, hb2⟩
        have HP2 := Lib.hid (HP1.out.below hb2)
        have HB2 := Lib.hid (HB1.out.trans (hb2.mono HB1.out.size))
        clear hb2
        go_wp2_with fail
        refine (H3.out _ HP2.out).mono ?_
        rintro e w3 ⟨rfl, hb3⟩
        have HP3 := Lib.hid (HP2.out.below hb3)
        have HB3 := Lib.hid (HB2.out.trans (hb3.mono HB2.out.size))
        clear hb3
        go_wp2_with fail
        refine (H3.out _ HP3.out).mono ?_
        rintro e w4 ⟨rfl, hb4⟩
        have HP4 := Lib.hid (HP3.out.below hb4)
        have HB4 := Lib.hid (HB3.out.trans (hb4.mono HB3.out.size))
        clear hb4
        go_wp2_with fail
        refine (H4.out _ HP4.out).mono ?_
        rintro e w5 ⟨rfl, hb5⟩
        have HP5 := Lib.hid (HP4.out.below hb5)
        have HB5 := Lib.hid (HB4.out.trans (hb5.mono HB4.out.size))
        clear hb5
        go_wp2_with fail
        refine (H5'.out _ HP5.out).mono ?_
        rintro e w6 ⟨rfl, hb6⟩
        have HB6 := Lib.hid (HB5.out.trans (hb6.mono HB5.out.size))
        clear hb6
        go_wp2_with fail
        go_ret2
        exact ⟨by cases r <;> simp, HB6.out⟩
      · have H5' : Hid (∀ V, PatOf p v V → Calls Tryd.prog 46 #[v, .int .i64 ((k : Int) + 1 + 1), .int .i64 (e : Int), .int .u8 c.toNat] V fun e w' => e = .returned (.bool r) ∧ Below V.heap.size V w') := H5.out
        clear H5
        go_enter Tryd.func34, Tryd.ntmps34
        go_wp2_with fail
        refine H1.out.mono ?_
        rintro e w1 ⟨rfl, hb1⟩
        have HP1 := Lib.hid (HP.out.below hb1)
        have HB1 := Lib.hid hb1
        clear hb1
        go_wp2_with fail
        refine (H2.out _ HP1.out).mono ?_
        rintro e w2 ⟨rfl, hb2⟩
        have HP2 := Lib.hid (HP1.out.below hb2)
        have HB2 := Lib.hid (HB1.out.trans (hb2.mono HB1.out.size))
        clear hb2
        go_wp2_with fail
        refine (H3.out _ HP2.out).mono ?_
        rintro e w3 ⟨rfl, hb3⟩
        have HP3 := Lib.hid (HP2.out.below hb3)
        have HB3 := Lib.hid (HB2.out.trans (hb3.mono HB2.out.size))
        clear hb3
        go_wp2_with fail
        refine (H3.out _ HP3.out).mono ?_
        rintro e w4 ⟨rfl, hb4⟩
        have HP4 := Lib.hid (HP3.out.below hb4)
        have HB4 := Lib.hid (HB3.out.trans (hb4.mono HB3.out.size))
        clear hb4
        go_wp2_with fail
        refine (H4.out _ HP4.out).mono ?_
        rintro e w5 ⟨rfl, hb5⟩
        have HP5 := Lib.hid (HP4.out.below hb5)
        have HB5 := Lib.hid (HB4.out.trans (hb5.mono HB4.out.size))
        clear hb5
        go_wp2_with fail
        refine (H5'.out _ HP5.out).mono ?_
        rintro e w6 ⟨rfl, hb6⟩
        have HB6 := Lib.hid (HB5.out.trans (hb6.mono HB5.out.size))
        clear hb6
        go_wp2_with fail
        go_ret2
        exact ⟨by cases r <;> simp, HB6.out⟩
end Go.Proofs.YtmjdlilmackneaaDoor

/- cowrieref03.Match: what it tells; conditions: as each theorem states. -/
import Derived.Test.YtmjdlilmackneaaDoorKo
namespace Go.Proofs.YtmjdlilmackneaaDoor
open Go.RowKit

set_option maxRecDepth 100000 in
set_option maxHeartbeats 4000000 in
theorem rmatch_any (p : List Ch) (v : Value) (s : ByteArray) (w : World) (hp : PatOf p v w) (hm : p.length ≤ 4194304) (hs : s.size ≤ 4611686018427387000) :
    Calls Tryd.prog 18 #[v, .string s] w fun e w' => e = .returned (.bool (Mt (els p) s.data.toList)) ∧ Below w.heap.size w w' := by
  have HIS : Hid (∀ (j : Nat) V, j < p.length → PatOf p v V → Calls Tryd.prog 33 #[v, .int .i64 (j : Int), .int .u8 42] V fun e w' => e = .returned (.bool (stA p j)) ∧ Below V.heap.size V w') := fun j V hj hV => by
    rw [stA_is p j hj]
    exact is_any p v j 42 V hV hm (by omega)
  have HST : Hid (∀ (j : Nat) (c : UInt8) V, j < p.length → stA p j = false → PatOf p v V → Calls Tryd.prog 34 #[v, .int .i64 (j : Int), .int .u8 c.toNat] V fun e w' => e = .returned (.tuple #[.bool (tst (fstAt p j).1 c), .int .i64 ((j + (fstAt p j).2 : Nat) : Int)]) ∧ Below V.heap.size V w') := fun j c V hj hs hV => step_any p v j c V hV hm hj hs
  have HRE : Hid (∀ (g : Nat) (l : Nat → Bool) (V : World), Below w.heap.size w V → w.heap.size ≤ g → Trs V g p.length l → Calls Tryd.prog 31 #[v, .slice (some ⟨g, 0, none⟩) (p.length + 1) (p.length + 1)] V fun e w' => e = .returned (.slice (some ⟨g, 0, none⟩) (p.length + 1) (p.length + 1)) ∧ Trs w' g p.length (rcF p l p.length) ∧ Below w.heap.size w w') := fun g l V hV hg hr => reach_any p v g l w V hp hV hg hr hm
  have HP := Lib.hid hp
  obtain ⟨ao, b, o, cap, rfl, _⟩ := hp
  have HLE : Hid (∀ j, j < p.length → 1 ≤ (fstAt p j).2 ∧ j + (fstAt p j).2 ≤ p.length) := fun j hj => fstAt_le p j hj
  obtain ⟨m, hmm⟩ : ∃ m, m = p.length := ⟨_, rfl⟩
  have hm' : m ≤ 4194304 := by omega
  rw [← hmm] at HP HIS HST HRE HLE ⊢
  have HGO : Hid (nowF p s.data.toList (rcF p start0 m) m = Mt (els p) s.data.toList) := by
    show _ = _
    rw [hmm]
    exact reach_law p s.data.toList
  have HM := Lib.hid hmm
  clear hmm hm
  have hmk := run_make_row' (P := Tryd.prog) 50 4 (.bool false) 1 Tryd.underlying50 info_bool rfl .i64 .i64 (m + 1) (by omega) (by omega)
  push_cast at hmk
  have HMK := Lib.hid hmk
  clear hmk
  go_enter Tryd.func18, Tryd.ntmps18
  go_wp2_with fail
  refine (start_any ao m cap w hm').mono ?_
  rintro e w1 ⟨rfl, hr1, hb1⟩
  have HR1 := Lib.hid hr1
  have HB1 := Lib.hid hb1
  clear hr1 hb1
  go_wp2_with fail
  refine (HRE.out _ _ _ HB1.out (Nat.le_refl _) HR1.out).mono ?_
  rintro e w2 ⟨rfl, hr2, hb2⟩
  have HR2 := Lib.hid hr2
  have HB2 := Lib.hid hb2
  clear hr2 hb2
  go_wp2_with fail
  go_loopw [5, 6] (fun nv i wr => ∃ (k g : Nat) (l : Nat → Bool), k ≤ s.size ∧ i = .int .i64 k ∧ nv = .slice (some ⟨g, 0, none⟩) (m + 1) (m + 1) ∧ Hid (w.heap.size ≤ g) ∧ Hid (Trs wr g m l) ∧ Hid (nowF p (s.data.toList.drop k) l m = Mt (els p) s.data.toList) ∧ Hid (Below w.heap.size w wr)) (fun _ i _ => s.size - (intOf i).toNat)
  case atStart => exact ⟨0, _, _, Nat.zero_le _, rfl, rfl, Nat.le_refl _, HR2.out, HGO.out, HB2.out⟩
  case round =>
    obtain ⟨k, g, l, hk, rfl, rfl, hg, ht, hgo, hb⟩ := hrel
    by_cases hlt : k < s.size
    · have hkl : k < s.data.toList.length := by simpa using hlt
      have HGS : Hid (nowF p (s.data.toList.drop (k + 1)) (rcF p (nxF p l s[k] m) m) m = Mt (els p) s.data.toList) := by
        show _ = _
        rw [← hgo.out, nowF_step p s.data.toList k l hkl, ← HM.out]
        rfl
      obtain ⟨c, hc⟩ : ∃ c, c = s[k] := ⟨_, rfl⟩
      rw [← hc] at HGS
      have hcs : (s[k].toNat : Int) = (c.toNat : Int) := by rw [hc]
      obtain ⟨W, hW⟩ : ∃ W, W = wr.alloc (.cells (madeCells #[.bool false] (m + 1)) 4) := ⟨_, rfl⟩
      have hmk' := HMK.out wr
      rw [← hW] at hmk'
      have HRN : Hid (Trs W wr.heap.size m (fun _ => false)) := hW ▸ made_false
      have HBW : Hid (Below wr.heap.size wr W) := hW ▸ (Below.refl _ _).alloc (Nat.le_refl _) _
      have hgz : g < wr.heap.size := ht.out.lt
      have hwz : w.heap.size ≤ wr.heap.size := hb.out.size
      have HB0 := Lib.hid (hb.out.trans (HBW.out.mono hwz))
      have HTW := Lib.hid (ht.out.below HBW.out)
      obtain ⟨gn, hgn⟩ : ∃ gn, gn = wr.heap.size := ⟨_, rfl⟩
      rw [← hgn] at hmk' HRN hgz hwz
      clear hW hc hgn HBW
      go_wp2_with fail
      go_loopw [8] (fun i wr => ∃ a : Nat, a ≤ m ∧ i = .int .i64 a ∧ Hid (Trs wr gn m (nxF p l c a)) ∧ Hid (Trs wr g m l) ∧ Hid (Below w.heap.size w wr)) (fun i _ => m - (intOf i).toNat)
      case atStart => exact ⟨0, Nat.zero_le _, rfl, HRN.out, HTW.out, HB0.out⟩
      case round =>
        obtain ⟨a, ha, rfl, hn, hl, hbi⟩ := hrel
        by_cases hla : a < m
        · have d0 := hl.out.cell (i := a) (by omega)
          have HPi := Lib.hid (HP.out.below hbi.out)
          obtain ⟨na, hna⟩ : ∃ na, na = l a := ⟨_, rfl⟩
          obtain ⟨st, hst⟩ : ∃ st, st = stA p a := ⟨_, rfl⟩
          obtain ⟨ok, hok⟩ : ∃ ok, ok = tst (fstAt p a).1 c := ⟨_, rfl⟩
          obtain ⟨tt, htt⟩ : ∃ tt, tt = a + (fstAt p a).2 := ⟨_, rfl⟩
          rw [← hna] at d0
          have HX : Hid (nxF p l c (a + 1) = if na then (if st then upd (nxF p l c a) a else if ok then upd (nxF p l c a) tt else nxF p l c a) else nxF p l c a) := by
            show _ = _
            rw [hna, hst, hok, htt]
            rfl
          have HC : Hid (∀ V, PatOf p (.slice ao m cap) V → Calls Tryd.prog 33 #[.slice ao m cap, .int .i64 (a : Int), .int .u8 42] V fun e w' => e = .returned (.bool st) ∧ Below V.heap.size V w') := fun V hV => hst ▸ HIS.out a V hla hV
          have HD : Hid (st = false → ∀ V, PatOf p (.slice ao m cap) V → Calls Tryd.prog 34 #[.slice ao m cap, .int .i64 (a : Int), .int .u8 (c.toNat : Int)] V fun e w' => e = .returned (.tuple #[.bool ok, .int .i64 (tt : Int)]) ∧ Below V.heap.size V w') := fun h V hV => by
            rw [hok, htt]
            exact HST.out a c V hla (by rw [← hst]; exact h) hV
          have htm : tt ≤ m := by rw [htt]; exact (HLE.out a hla).2
          have e1 := hn.out.cell (i := a) (by omega)
          have e2 := hn.out.frozen a
          have e3 := hn.out.cell (i := tt) (by omega)
          have e4 := hn.out.frozen tt
          obtain ⟨b1, hb1⟩ : ∃ b, b = nxF p l c a a := ⟨_, rfl⟩
          obtain ⟨b2, hb2⟩ : ∃ b, b = nxF p l c a tt := ⟨_, rfl⟩
          rw [← hb1] at e1
          rw [← hb2] at e3
          have HE1 := Lib.hid e1
          have HE2 := Lib.hid e2
          have HE3 := Lib.hid e3
          have HE4 := Lib.hid e4
          have hzn : gn < wr.heap.size := hn.out.lt
          have ht1 : (tt : Int) < (m : Int) + 1 := by omega
          clear hna hst hok htt e1 e2 e3 e4 hb1 hb2
          cases na
          · go_wp2_with fail
            go_roundw
            case rel => exact ⟨a + 1, by omega, by go_num, HX.out ▸ hn.out, hl.out, hbi.out⟩
            case measure => simp [intOf]; omega
          · go_wp2_with fail
            refine (HC.out _ HPi.out).mono ?_
            rintro e x1 ⟨rfl, hx1⟩
            have HN1 := Lib.hid (hn.out.below hx1)
            have HL1 := Lib.hid (hl.out.below hx1)
            have HB1 := Lib.hid (hbi.out.trans (hx1.mono hbi.out.size))
            cases st
            · have g3 := (hx1.cell (p := ⟨gn, tt, none⟩) hzn).trans HE3.out
              have g4 := (hx1.frozen (p := ⟨gn, tt, none⟩) hzn).trans HE4.out
              have HG3 := Lib.hid g3
              have HG4 := Lib.hid g4
              have hzx : gn < x1.heap.size := Nat.lt_of_lt_of_le hzn hx1.size
              have HP1 := Lib.hid (HPi.out.below hx1)
              clear hx1 g3 g4
              go_wp2_with fail
              refine (HD.out (by simp) _ HP1.out).mono ?_
              rintro e x2 ⟨rfl, hx2⟩
              have g3 := (hx2.cell (p := ⟨gn, tt, none⟩) hzx).trans HG3.out
              have g4 := (hx2.frozen (p := ⟨gn, tt, none⟩) hzx).trans HG4.out
              have HN2 := Lib.hid (HN1.out.below hx2)
              have HL2 := Lib.hid (HL1.out.below hx2)
              have HB2 := Lib.hid (HB1.out.trans (hx2.mono HB1.out.size))
              clear hx2
              cases ok
              · go_wp2_with fail
                go_roundw
                case rel => exact ⟨a + 1, by omega, by go_num, HX.out ▸ HN2.out, HL2.out, HB2.out⟩
                case measure => simp [intOf]; omega
              · go_wp2_with fail
                go_roundw
                case rel => exact ⟨a + 1, by omega, by go_num, HX.out ▸ HN2.out.setTrue tt, World.rowIs.setOther HL2.out (by show g ≠ gn; omega) _, HB2.out.setCell (p := ⟨gn, tt, none⟩) hwz _⟩
                case measure => simp [intOf]; omega
            · have g1 := (hx1.cell (p := ⟨gn, a, none⟩) hzn).trans HE1.out
              have g2 := (hx1.frozen (p := ⟨gn, a, none⟩) hzn).trans HE2.out
              clear hx1
              go_wp2_with fail
              go_roundw
              case rel => exact ⟨a + 1, by omega, by go_num, HX.out ▸ HN1.out.setTrue a, World.rowIs.setOther HL1.out (by show g ≠ gn; omega) _, HB1.out.setCell (p := ⟨gn, a, none⟩) hwz _⟩
              case measure => simp [intOf]; omega
        · obtain rfl : a = m := by omega
          go_wp2_with fail
          refine (HRE.out _ _ _ hbi.out hwz hn.out).mono ?_
          rintro e x1 ⟨rfl, hx1, hbx⟩
          have HX1 := Lib.hid hx1
          have HBX := Lib.hid hbx
          clear hx1 hbx
          go_wp2_with fail
          go_roundw
          case rel => exact ⟨k + 1, gn, _, by omega, by go_num, rfl, hwz, HX1.out, HGS.out, HBX.out⟩
          case measure => simp [intOf]; omega
    · have d0 := ht.out.cell (i := m) (by omega)
      obtain rfl : k = s.size := by omega
      have hlm : l m = Mt (els p) s.data.toList := by
        rw [← hgo.out, List.drop_eq_nil_of_le (by simp)]
        rfl
      rw [hlm] at d0
      obtain ⟨r, hr⟩ : ∃ r, r = Mt (els p) s.data.toList := ⟨_, rfl⟩
      rw [← hr] at d0
      have HRR := Lib.hid hr
      clear hlm hr
      go_wp2_with fail
      go_ret
      exact ⟨ret_b HRR.out, hb.out⟩
end Go.Proofs.YtmjdlilmackneaaDoor

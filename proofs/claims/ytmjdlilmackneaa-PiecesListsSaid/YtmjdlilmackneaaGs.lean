/- glob.span, glob.set and its closures: what they tell; conditions: as each theorem states. -/
import Derived.Test.YtmjdlilmackneaaGm
import Derived.Test.YtmjdlilmackneaaGq
namespace Go.Proofs.Ytmjdlilmackneaa
open Go.RowKit

/-- A pattern's octets as they lie from a cell on. -/
def Reads (b o : Nat) (p : List Ch) (w : World) : Prop := ∀ j (h : j < p.length), w.cell? ⟨b, o + j * 2, none⟩ = some (.int .u8 p[j].1.toNat) ∧ w.cell? ⟨b, o + j * 2 + 1, none⟩ = some (.bool p[j].2)
theorem Reads.same {b o : Nat} {p : List Ch} {w w' : World} (h : Reads b o p w) (hc : ∀ o, w'.cell? ⟨b, o, none⟩ = w.cell? ⟨b, o, none⟩) : Reads b o p w' := by
  intro j hj
  exact ⟨(hc _).trans (h j hj).1, (hc _).trans (h j hj).2⟩
theorem Reads.below {b o : Nat} {p : List Ch} {w w' : World} (h : Reads b o p w) (hg : b < w.heap.size) (hb : Below w.heap.size w w') : Reads b o p w' :=
  h.same fun o => hb.cell (p := ⟨b, o, none⟩) hg
theorem Reads.drop {b o : Nat} {p : List Ch} {w : World} (h : Reads b o p w) (k : Nat) : Reads b (o + k * 2) (p.drop k) w := by
  intro j hj
  have hj' : k + j < p.length := by simp at hj; omega
  obtain ⟨h0, h1⟩ := h (k + j) hj'
  rw [List.getElem_drop, show o + k * 2 + j * 2 = o + (k + j) * 2 by omega]
  exact ⟨h0, h1⟩
theorem Reads.take {b o : Nat} {p : List Ch} {w : World} (h : Reads b o p w) (k : Nat) : Reads b o (p.take k) w := by
  intro j hj
  have hj' : j < p.length := by simp at hj; omega
  rw [List.getElem_take]
  exact h j hj'

theorem spn_range (c : UInt8) (p : List Ch) (k : Nat) (h : k + 2 < p.length) (ho : opn p[k + 1] 45 = true) : spn c (p.drop k) = ((decide (p[k].1 ≤ c) && decide (c ≤ p[k + 2].1)) || spn c (p.drop (k + 3))) := by
  rw [List.drop_eq_getElem_cons (by omega : k < p.length), List.drop_eq_getElem_cons (by omega : k + 1 < p.length), List.drop_eq_getElem_cons (by omega : k + 1 + 1 < p.length), spn, if_pos ho]
theorem spn_lit (c : UInt8) (p : List Ch) (k : Nat) (h : k < p.length) (ho : ∀ h : k + 2 < p.length, opn p[k + 1] 45 = false) : spn c (p.drop k) = ((p[k].1 == c) || spn c (p.drop (k + 1))) := by
  rw [List.drop_eq_getElem_cons h]
  by_cases h1 : k + 1 < p.length
  · rw [List.drop_eq_getElem_cons h1]
    by_cases h2 : k + 2 < p.length
    · rw [List.drop_eq_getElem_cons (by omega : k + 1 + 1 < p.length), spn, if_neg (by simp [ho h2])]
    · rw [List.drop_eq_nil_of_le (by omega : p.length ≤ k + 1 + 1)]
      simp [spn]
  · rw [List.drop_eq_nil_of_le (by omega : p.length ≤ k + 1)]
    simp [spn]
theorem le_nat (a c : UInt8) : (a ≤ c) ↔ (a.toNat : Int) ≤ (c.toNat : Int) := by
  rw [UInt8.le_iff_toNat_le]
  omega

set_option maxRecDepth 100000 in
set_option maxHeartbeats 2000000 in
theorem span_any (ao : Option Addr) (b o cap : Nat) (p : List Ch) (c : UInt8) (w : World) (ha : 0 < p.length → ao = some ⟨b, o, none⟩) (hg : b < w.heap.size) (hl : Reads b o p w) (hm : p.length ≤ 4611686018427387904) :
    Calls Try.prog 46 #[.slice ao p.length cap, .int .u8 c.toNat] w fun e w' => e = .returned (.bool (spn c p)) ∧ Below w.heap.size w w' := by
  obtain ⟨m, hmm⟩ : ∃ m, m = p.length := ⟨_, rfl⟩
  rw [← hmm] at ha hm ⊢
  have HM := Lib.hid hmm
  clear hmm
  have HL := Lib.hid hl
  clear hl
  go_enter Try.func46, Try.ntmps46
  go_wp2_with fail
  go_loopw [5] (fun i wr => ∃ k : Nat, i = .int .i64 k ∧ k ≤ m + 2 ∧ Hid (spn c (p.drop k) = spn c p) ∧ Hid (Below w.heap.size w wr)) (fun i _ => m + 3 - (intOf i).toNat)
  case atStart => exact ⟨0, rfl, by omega, rfl, Below.refl _ _⟩
  case round =>
    obtain ⟨k, rfl, hk, hz, hb⟩ := hrel
    have hbw : b < wr.heap.size := Nat.lt_of_lt_of_le hg hb.out.size
    by_cases hlt : k < m
    · have hkl : k < p.length := by rw [← HM.out]; exact hlt
      obtain rfl := ha (by omega)
      obtain ⟨c0, -⟩ := HL.out k hkl
      have d0 := (hb.out.cell (p := ⟨b, o + k * 2, none⟩) hg).trans c0
      clear c0
      obtain ⟨x, hx⟩ : ∃ x, x = p[k].1 := ⟨_, rfl⟩
      have HX := Lib.hid hx
      rw [← hx] at d0
      clear hx
      by_cases h2 : k + 2 < m
      · have hk1 : k + 1 < p.length := by rw [← HM.out]; omega
        have hk2 : k + 2 < p.length := by rw [← HM.out]; omega
        obtain ⟨c1, c2⟩ := HL.out (k + 1) hk1
        obtain ⟨c3, -⟩ := HL.out (k + 2) hk2
        have d1 := (hb.out.cell (p := ⟨b, o + (k + 1) * 2, none⟩) hg).trans c1
        have d2 := (hb.out.cell (p := ⟨b, o + (k + 1) * 2 + 1, none⟩) hg).trans c2
        have d3 := (hb.out.cell (p := ⟨b, o + (k + 2) * 2, none⟩) hg).trans c3
        clear c1 c2 c3
        have ho : opn p[k + 1] 45 = (!p[k + 1].2 && (p[k + 1].1 == 45)) := rfl
        obtain ⟨y, hy⟩ : ∃ y, y = p[k + 1].1 := ⟨_, rfl⟩
        obtain ⟨q, hq⟩ : ∃ q, q = p[k + 1].2 := ⟨_, rfl⟩
        obtain ⟨z, hz'⟩ : ∃ z, z = p[k + 2].1 := ⟨_, rfl⟩
        rw [← hy, ← hq] at ho
        have HO := Lib.hid ho
        clear ho
        rw [← hy] at d1
        rw [← hq] at d2
        rw [← hz'] at d3
        have HZ := Lib.hid hz'
        clear hy hq hz'
        obtain ⟨r, hr⟩ : ∃ r, r = (!q && (y == 45)) := ⟨_, rfl⟩
        have HOC : Hid (∀ W, Calls Try.prog 37 #[.agg #[.int .u8 y.toNat, .bool q], .int .u8 45] W fun e w' => e = .returned (.bool r) ∧ w' = W.alloc (.cells #[.int .u8 y.toNat, .bool q] 25)) := fun W => hr ▸ open_any y 45 q W
        have HR := Lib.hid hr
        clear hr
        go_wp2_with fail
        refine (HOC.out _).mono ?_
        rintro e w1 ⟨rfl, rfl⟩
        cases r with
        | true =>
          have HS := Lib.hid (spn_range c p k hk2 (by rw [HO.out, ← HR.out]))
          by_cases e1 : (x.toNat : Int) ≤ (c.toNat : Int)
          · by_cases e2 : (c.toNat : Int) ≤ (z.toNat : Int)
            · go_wp2_with fail
              go_ret
              refine ⟨?_, hb.out.alloc hb.out.size _⟩
              rw [← hz.out, HS.out, ← HX.out, ← HZ.out, decide_eq_true ((le_nat _ _).2 e1), decide_eq_true ((le_nat _ _).2 e2)]
              rfl
            · have e2' : decide ((c.toNat : Int) ≤ (z.toNat : Int)) = false := by simpa using e2
              go_wp2_with fail
              go_round
              case rel =>
                refine ⟨k + 3, by go_num, by omega, ?_, hb.out.alloc hb.out.size _⟩
                show _ = _
                rw [← hz.out, HS.out, ← HX.out, ← HZ.out, decide_eq_false (show ¬ c ≤ z from fun h => by have := (le_nat _ _).1 h; omega), Bool.and_false, Bool.false_or]
              case measure => simp [intOf]; omega
          · have e1' : decide ((x.toNat : Int) ≤ (c.toNat : Int)) = false := by simpa using e1
            go_wp2_with fail
            go_round
            case rel =>
              refine ⟨k + 3, by go_num, by omega, ?_, hb.out.alloc hb.out.size _⟩
              show _ = _
              rw [← hz.out, HS.out, ← HX.out, decide_eq_false (show ¬ x ≤ c from fun h => by have := (le_nat _ _).1 h; omega), Bool.false_and, Bool.false_or]
            case measure => simp [intOf]; omega
        | false =>
          have HS := Lib.hid (spn_lit c p k hkl (fun _ => by rw [HO.out, ← HR.out]))
          by_cases e1 : ((x.toNat : Int) == (c.toNat : Int)) = true
          · go_wp2_with fail
            go_ret
            refine ⟨?_, hb.out.alloc hb.out.size _⟩
            have : (x == c) = true := by
              rw [beq_iff_eq] at e1 ⊢
              exact UInt8.toNat_inj.1 (Int.ofNat.inj e1)
            rw [← hz.out, HS.out, ← HX.out, this]
            rfl
          · have e1' : ((x.toNat : Int) == (c.toNat : Int)) = false := by simpa using e1
            have e3 : Hid ((x == c) = false) := by
              show _ = _
              rw [beq_eq_false_iff_ne]
              rintro rfl
              simp at e1
            clear e1
            go_wp2_with fail
            go_round
            case rel =>
              refine ⟨k + 1, by go_num, by omega, ?_, hb.out.alloc hb.out.size _⟩
              show _ = _
              rw [← hz.out, HS.out, ← HX.out, e3.out, Bool.false_or]
            case measure => simp [intOf]; omega
      · have HS := Lib.hid (spn_lit c p k hkl (fun h => by rw [← HM.out] at h; omega))
        have h2' : decide ((k : Int) + 2 < (m : Int)) = false := by simp; omega
        by_cases e1 : ((x.toNat : Int) == (c.toNat : Int)) = true
        · go_wp2_with fail
          go_ret
          refine ⟨?_, hb.out⟩
          have : (x == c) = true := by
            rw [beq_iff_eq] at e1 ⊢
            exact UInt8.toNat_inj.1 (Int.ofNat.inj e1)
          rw [← hz.out, HS.out, ← HX.out, this]
          rfl
        · have e1' : ((x.toNat : Int) == (c.toNat : Int)) = false := by simpa using e1
          have e3 : Hid ((x == c) = false) := by
            show _ = _
            rw [beq_eq_false_iff_ne]
            rintro rfl
            simp at e1
          clear e1
          go_wp2_with fail
          go_round
          case rel =>
            refine ⟨k + 1, by go_num, by omega, ?_, hb.out⟩
            show _ = _
            rw [← hz.out, HS.out, ← HX.out, e3.out, Bool.false_or]
          case measure => simp [intOf]; omega
    · go_wp2_with fail
      go_ret
      refine ⟨?_, hb.out⟩
      rw [← hz.out, List.drop_eq_nil_of_le (by rw [← HM.out]; omega)]
      rfl

set_option maxRecDepth 100000 in
set_option maxHeartbeats 2000000 in
theorem set1_any (x : UInt8) (q : Bool) (w : World) :
    Calls Try.prog 44 #[.agg #[.int .u8 x.toNat, .bool q]] w fun e w' => e = .returned (.bool (opn (x, q) 93)) ∧ Below w.heap.size w w' := by
  have HC : Hid (∀ W, Calls Try.prog 37 #[.agg #[.int .u8 x.toNat, .bool q], .int .u8 93] W fun e w' => e = .returned (.bool (opn (x, q) 93)) ∧ w' = W.alloc (.cells #[.int .u8 x.toNat, .bool q] 25)) := fun W => open_any x 93 q W
  obtain ⟨r, hr⟩ : ∃ r, r = opn (x, q) 93 := ⟨_, rfl⟩
  rw [← hr] at HC ⊢
  clear hr
  go_enter Try.func44, Try.ntmps44
  go_wp2_with fail
  refine (HC.out _).mono ?_
  rintro e w1 ⟨rfl, rfl⟩
  go_wp2
  go_ret
  exact ⟨rfl, ((Below.refl _ _).alloc (Nat.le_refl _) _).alloc (by simp) _⟩

theorem ret_b {a b : Bool} (h : a = b) : Ending.returned (.bool a) = .returned (.bool b) := by rw [h]
theorem ret_i {a b : Int} (h : a = b) : Ending.returned (.int .i64 a) = .returned (.int .i64 b) := by rw [h]
/-- The first place for which something holds; none: -1. -/
def firstI (P : Ch → Bool) (p : List Ch) : Int := match p.findIdx? P with
  | some n => (n : Int)
  | none => -1
theorem firstI_hit {P : Ch → Bool} {p : List Ch} {k : Nat} (h : k < p.length) (hk : P p[k] = true) (hb : ∀ j (hj : j < p.length), j < k → P p[j] = false) : firstI P p = k := by
  have : p.findIdx? P = some k := by
    rw [List.findIdx?_eq_some_iff_getElem]
    exact ⟨h, hk, fun j hj => by simp [hb j (by omega) hj]⟩
  unfold firstI
  rw [this]
theorem firstI_miss {P : Ch → Bool} {p : List Ch} (hb : ∀ j (hj : j < p.length), P p[j] = false) : firstI P p = -1 := by
  have : p.findIdx? P = none := by
    rw [List.findIdx?_eq_none_iff]
    intro x hx
    obtain ⟨j, hj, rfl⟩ := List.mem_iff_getElem.1 hx
    exact hb j hj
  unfold firstI
  rw [this]
theorem firstI_bd (P : Ch → Bool) (p : List Ch) : -1 ≤ firstI P p ∧ firstI P p < p.length := by
  unfold firstI
  split
  · rename_i n h
    rw [List.findIdx?_eq_some_iff_getElem] at h
    obtain ⟨h, _⟩ := h
    omega
  · omega

set_option maxRecDepth 100000 in
set_option maxHeartbeats 2000000 in
theorem ifchar_any (ao : Option Addr) (b o cap : Nat) (p : List Ch) (w : World) (ha : 0 < p.length → ao = some ⟨b, o, none⟩) (hg : b < w.heap.size) (hl : Reads b o p w) (hm : p.length ≤ 4611686018427387904) :
    Calls Try.prog 40 #[.slice ao p.length cap, .func (.func 44) #[] #[]] w fun e w' => e = .returned (.int .i64 (firstI (opn · 93) p)) ∧ Below w.heap.size w w' := by
  obtain ⟨m, hmm⟩ : ∃ m, m = p.length := ⟨_, rfl⟩
  rw [← hmm] at ha hm ⊢
  have HM := Lib.hid hmm
  clear hmm
  have HL := Lib.hid hl
  clear hl
  go_enter Try.func40, Try.ntmps40
  go_wp2_with fail
  go_loopw [8] (fun i wr => ∃ k : Nat, k ≤ m ∧ i = .int .i64 k ∧ Hid (∀ j (h : j < p.length), j < k → opn p[j] 93 = false) ∧ Hid (Below w.heap.size w wr)) (fun i _ => m - (intOf i).toNat)
  case atStart => exact ⟨0, Nat.zero_le _, rfl, fun j _ h => by omega, Below.refl _ _⟩
  case round =>
    obtain ⟨k, hk, rfl, hz, hb⟩ := hrel
    by_cases hlt : k < m
    · have hkl : k < p.length := by rw [← HM.out]; exact hlt
      obtain rfl := ha (by omega)
      obtain ⟨c0, c1⟩ := HL.out k hkl
      have d0 := (hb.out.cell (p := ⟨b, o + k * 2, none⟩) hg).trans c0
      have d1 := (hb.out.cell (p := ⟨b, o + k * 2 + 1, none⟩) hg).trans c1
      obtain ⟨e, he⟩ : ∃ e, e = p[k] := ⟨_, rfl⟩
      have HE := Lib.hid he
      rw [← he] at d0 d1
      clear he c0 c1
      obtain ⟨x, q⟩ := e
      obtain ⟨r, hr⟩ : ∃ r, r = opn (x, q) 93 := ⟨_, rfl⟩
      have HC : Hid (∀ W, Calls Try.prog 44 #[.agg #[.int .u8 x.toNat, .bool q]] W fun e w' => e = .returned (.bool r) ∧ Below W.heap.size W w') := fun W => hr ▸ set1_any x q W
      have HR := Lib.hid hr
      clear hr
      go_wp2_with fail
      refine (HC.out _).mono ?_
      rintro e' w1 ⟨rfl, hb1⟩
      have HB1 := Lib.hid (hb.out.trans (hb1.mono hb.out.size))
      clear hb1
      cases r with
      | true =>
        go_wp2_with fail
        go_ret
        exact ⟨ret_i (firstI_hit hkl (by rw [← HE.out, HR.out]) hz.out).symm, HB1.out⟩
      | false =>
        go_wp2_with fail
        go_round
        case rel =>
          refine ⟨k + 1, by omega, by go_num, fun j hj hjk => ?_, HB1.out⟩
          by_cases e' : j = k
          · subst e'; rw [← HE.out, HR.out]
          · exact hz.out j hj (by omega)
        case measure => simp [intOf]; omega
    · go_wp2_with fail
      go_ret
      exact ⟨ret_i (firstI_miss fun j hj => hz.out j hj (by have := HM.out; omega)).symm, hb.out⟩

set_option maxRecDepth 100000 in
set_option maxHeartbeats 2000000 in
theorem set2_any (bl bn : Nat) (neg : Bool) (ao : Option Addr) (b o cap : Nat) (p : List Ch) (c : UInt8) (w : World) (h1 : w.cell? ⟨bl, 0, none⟩ = some (.slice ao p.length cap)) (h2 : w.cell? ⟨bn, 0, none⟩ = some (.bool neg)) (hn : bn < w.heap.size)
    (ha : 0 < p.length → ao = some ⟨b, o, none⟩) (hg : b < w.heap.size) (hl : Reads b o p w) (hm : p.length ≤ 4611686018427387904) :
    Calls Try.prog 45 #[.int .u8 c.toNat, .pointer (some ⟨bl, 0, none⟩), .pointer (some ⟨bn, 0, none⟩)] w fun e w' => e = .returned (.bool (spn c p != neg)) ∧ Below w.heap.size w w' := by
  have HL := Lib.hid hl
  clear hl
  obtain ⟨r, hr⟩ : ∃ r, r = spn c p := ⟨_, rfl⟩
  have HC : Hid (∀ W, w.heap.size ≤ W.heap.size → Reads b o p W → Calls Try.prog 46 #[.slice ao p.length cap, .int .u8 c.toNat] W fun e w' => e = .returned (.bool r) ∧ Below W.heap.size W w') :=
    fun W hz hR => hr ▸ span_any ao b o cap p c W ha (Nat.lt_of_lt_of_le hg hz) hR hm
  rw [← hr]
  clear hr
  have HD : Hid (Reads b o p w.drew) := HL.out.same fun o => rfl
  obtain ⟨m, hmm⟩ : ∃ m, m = p.length := ⟨_, rfl⟩
  rw [← hmm] at h1 HC
  clear hmm ha hm
  go_enter Try.func45, Try.ntmps45
  go_wp2_with fail
  go_region_with (go_at_call 46; refine (HC.out w.drew (Nat.le_refl _) HD.out).mono ?_; rintro e w1 ⟨rfl, hb1⟩; have d2 := (hb1.cell (p := ⟨bn, 0, none⟩) hn).trans h2; have HB1 := Lib.hid hb1; clear hb1)
  all_goals
    go_wp2
    go_ret
    exact ⟨ret_b (by cases r <;> cases neg <;> rfl), (Below.refl _ w).drew.trans (by assumption)⟩
end Go.Proofs.Ytmjdlilmackneaa

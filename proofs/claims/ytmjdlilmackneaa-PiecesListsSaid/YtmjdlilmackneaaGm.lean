/- glob.match by the plain law's Mt; conditions: as each theorem states. -/
import Derived.Test.YtmjdlilmackneaaGl
import Derived.Shelf.Abstract
import Derived.StillTailTactics
import Derived.Deep.QuietTactic
import Derived.BigQuiet
namespace Go.Proofs.Ytmjdlilmackneaa
open Go.RowKit

/-- A function value tells f, in whatever world in which all that lay lies unturned. -/
def Tests (g : Nat) (lb : Array Value) (f : UInt8 → Bool) (w : World) : Prop :=
  (∀ args w, (callFunc g args).run Try.prog w = .ok (.enter g args) w) ∧
  ∀ (W : World), Below w.heap.size w W → ∀ c : UInt8, Calls Try.prog g (#[.int .u8 c.toNat] ++ lb) W fun e w' => e = .returned (.bool (f c)) ∧ Below W.heap.size W w'
def Stand (g o : Nat) (es : List El) (w : World) : Prop := ∀ j (h : j < es.length), match es[j] with
  | .star => ∃ v, w.cell? ⟨g, o + j * 2, none⟩ = some (.bool true) ∧ w.cell? ⟨g, o + j * 2 + 1, none⟩ = some v ∧ v.oneCell' = true
  | .test f => ∃ gf lb, w.cell? ⟨g, o + j * 2, none⟩ = some (.bool false) ∧ w.cell? ⟨g, o + j * 2 + 1, none⟩ = some (.func (.func gf) #[] lb) ∧ Tests gf lb f w
theorem Stand.lies {g o : Nat} {es : List El} {w : World} (h : Stand g o es w) : Lies g o es w := by
  intro j hj
  have := h j hj
  split at this
  · rename_i he
    obtain ⟨v, h0, h1, h2⟩ := this
    exact ⟨v, by rw [he]; exact h0, h1, h2⟩
  · rename_i f he
    obtain ⟨gf, lb, h0, h1, _⟩ := this
    exact ⟨_, by rw [he]; exact h0, h1, rfl⟩
theorem Lies.below {g o : Nat} {es : List El} {w w' : World} (h : Lies g o es w) (hg : 0 < es.length → g < w.heap.size) (hb : Below w.heap.size w w') : Lies g o es w' := by
  intro j hj
  obtain ⟨v, h0, h1, h2⟩ := h j hj
  exact ⟨v, (hb.cell (p := ⟨g, _, none⟩) (hg (by omega))).trans h0, (hb.cell (p := ⟨g, _, none⟩) (hg (by omega))).trans h1, h2⟩
theorem Lies.drop {g : Nat} {es : List El} {w : World} (h : Lies g 0 es w) (k : Nat) : Lies g (k * 2) (es.drop k) w := by
  intro j hj
  have hj' : k + j < es.length := by simp at hj; omega
  obtain ⟨v, h0, h1, h2⟩ := h (k + j) hj'
  refine ⟨v, ?_, ?_, h2⟩
  · rw [List.getElem_drop, show k * 2 + j * 2 = 0 + (k + j) * 2 by omega]; exact h0
  · rw [show k * 2 + j * 2 + 1 = 0 + (k + j) * 2 + 1 by omega]; exact h1

/-- Where a slice of two-cell elements lies, cut from the k-th on. -/
def cutA (ao : Option Addr) (cap k : Nat) : Option Addr := if cap = k then ao else ao.map (·.add (k * 2))
theorem cutA_lt {g o cap k : Nat} (h : k < cap) : cutA (some ⟨g, o, none⟩) cap k = some ⟨g, o + k * 2, none⟩ := by
  unfold cutA
  rw [if_neg (by omega)]
  simp [Addr.add_lit]
theorem from_els (ao : Option Addr) (m cap k : Nat) (w : World) (hk : k ≤ m) : (Instr.slice 48 (.slice ao m cap) (some (.int .i64 (k : Int))) none none).run Try.prog w = .ok (.slice (cutA ao cap k) (m - k) (cap - k)) w := by
  rw [run_slice_l w 48 ao m cap Try.underlying48 .i64 k (by omega) (by omega)]
  have : (sizeOf (Try.prog.elem 48)).run Try.prog w = .ok 2 w := by kernel_rfl
  rw [this]
  rfl

theorem below_drewN {B : Nat} {a w : World} (h : Below B a w) : ∀ n, Below B a (w.drewN n)
  | 0 => h
  | n + 1 => (below_drewN h n).drew
theorem meas1 (m S a a' x x' y y' : Nat) (h : a' + 1 ≤ a) (hx : x' ≤ S + 1) (hy : y' ≤ m + 1) : a' * ((S + 2) * (m + 2)) + x' * (m + 2) + y' < a * ((S + 2) * (m + 2)) + x * (m + 2) + y := by
  have h1 := Nat.mul_le_mul_right ((S + 2) * (m + 2)) h
  have h2 := Nat.mul_le_mul_right (m + 2) hx
  rw [Nat.add_mul, Nat.one_mul] at h1
  have h3 : (S + 2) * (m + 2) = (S + 1) * (m + 2) + (m + 2) := by rw [← Nat.succ_mul]
  omega
theorem meas2 (m S a x x' y y' : Nat) (hx : x' + 1 ≤ x) (hy : y' ≤ m + 1) : a * ((S + 2) * (m + 2)) + x' * (m + 2) + y' < a * ((S + 2) * (m + 2)) + x * (m + 2) + y := by
  have h2 := Nat.mul_le_mul_right (m + 2) hx
  rw [Nat.add_mul, Nat.one_mul] at h2
  omega

/-- Where the search is: no star yet, or behind one. -/
def Search (es : List El) (s : List UInt8) (at_ i : Nat) (star mark : Value) : Prop :=
  at_ ≤ es.length ∧ i ≤ s.length ∧
  ((star = .int .i64 (-1) ∧ mark = .int .i64 0 ∧ Mt es s = Mt (es.drop at_) (s.drop i)) ∨
   ∃ st mk : Nat, star = .int .i64 st ∧ mark = .int .i64 mk ∧ Stands es s st mk at_ i)

set_option maxRecDepth 100000 in
set_option maxHeartbeats 1000000 in
theorem match_row (ao : Option Addr) (g cap : Nat) (es : List El) (s : ByteArray) (w : World) (ha : 0 < es.length → ao = some ⟨g, 0, none⟩) (hcap : es.length ≤ cap) (hg : 0 < es.length → g < w.heap.size) (hst : Stand g 0 es w) (hm : es.length ≤ 4611686018427387904) (hs : s.size ≤ 4611686018427387904) :
    Calls Try.prog 26 #[.slice ao es.length cap, .string s] w fun e w' => e = .returned (.bool (Mt es s.data.toList)) ∧ Below w.heap.size w w' := by
  obtain ⟨m, hmm⟩ : ∃ m, m = es.length := ⟨_, rfl⟩
  rw [← hmm] at ha hcap hm ⊢
  have HM := Lib.hid hmm
  clear hmm
  have HS := Lib.hid hst
  clear hst
  go_enter Try.func26, Try.ntmps26
  go_wp2_with fail
  go_loopw [5, 6, 7, 8] (fun at_ i st mk wr => ∃ k n : Nat, at_ = .int .i64 k ∧ i = .int .i64 n ∧ Hid (Search es s.data.toList k n st mk) ∧ Hid (Below w.heap.size w wr)) (fun at_ i st mk _ => (m + 1 - (intOf st + 1).toNat) * ((s.size + 2) * (m + 2)) + (s.size + 1 - (intOf mk).toNat) * (m + 2) + (m + 1 - (intOf at_).toNat))
  case atStart => exact ⟨0, 0, rfl, rfl, ⟨Nat.zero_le _, Nat.zero_le _, Or.inl ⟨rfl, rfl, rfl⟩⟩, Below.refl _ _⟩
  case round =>
    obtain ⟨k, n, rfl, rfl, hse, hb⟩ := hrel
    obtain ⟨hk, hn, hor⟩ := hse.out
    have HO := Lib.hid hor
    clear hor
    have hk' : k ≤ m := by rw [HM.out]; exact hk
    have hn' : n ≤ s.size := by simpa using hn
    clear hk hn
    by_cases hlt : n < s.size
    · by_cases hat : k < m
      · have hkl : k < es.length := by rw [← HM.out]; exact hat
        obtain rfl := ha (by omega)
        have hg := hg (by rw [← HM.out]; omega)
        have hS := HS.out k hkl
        obtain ⟨e, he⟩ : ∃ e, e = es[k] := ⟨_, rfl⟩
        rw [← he] at hS
        have HE := Lib.hid he
        clear he
        cases e with
        | star =>
          obtain ⟨v, c0, c1, _⟩ := hS
          have d0 := (hb.out.cell (p := ⟨g, 0 + k * 2, none⟩) hg).trans c0
          have d1 := (hb.out.cell (p := ⟨g, 0 + k * 2 + 1, none⟩) hg).trans c1
          clear c0 c1
          rw [Nat.zero_add] at d0 d1
          rcases HO.out with ⟨h1, h2, h3⟩ | ⟨st, mk', h1, h2, h3⟩
          · subst h1
            subst h2
            have H3 := Lib.hid h3
            clear h3
            go_wp2_with fail
            go_round
            case rel =>
              exact ⟨k + 1, n, by go_num, rfl, ⟨by omega, by simpa using hn', Or.inr ⟨k, n, by go_num, by go_num, stands_star es _ k n hkl HE.out.symm (by simpa using hn') H3.out⟩⟩, hb⟩
            case measure =>
              refine meas1 m s.size _ _ _ _ _ _ ?_ ?_ ?_ <;> simp [intOf] <;> omega
          · subst h1
            subst h2
            have H3 := Lib.hid h3
            clear h3
            go_wp2_with fail
            go_round
            case rel =>
              exact ⟨k + 1, n, by go_num, rfl, ⟨by omega, by simpa using hn', Or.inr ⟨k, n, by go_num, by go_num, stands_star2 es _ st mk' k n H3.out hkl HE.out.symm⟩⟩, hb⟩
            case measure =>
              have := H3.out.lt
              refine meas1 m s.size _ _ _ _ _ _ ?_ ?_ ?_ <;> simp [intOf] <;> omega
        | test f =>
          obtain ⟨gf, lb, c0, c1, ht⟩ := hS
          have d0 := (hb.out.cell (p := ⟨g, 0 + k * 2, none⟩) hg).trans c0
          have d1 := (hb.out.cell (p := ⟨g, 0 + k * 2 + 1, none⟩) hg).trans c1
          clear c0 c1
          rw [Nat.zero_add] at d0 d1
          have eg := ht.1
          have HC := Lib.hid ht.2
          clear ht
          have hbd : Hid (Below w.heap.size w wr.drew) := hb.out.drew
          obtain ⟨r, hr⟩ : ∃ r, r = f s[n] := ⟨_, rfl⟩
          have HR := Lib.hid hr
          clear hr
          go_upto_region 8 with fail
          go_still_tail 13, (by kernel_rfl)
          change wpList _ _ _ _ _ wr.drew
          generalize wr.drew = w2 at hbd ⊢
          go_wp2_with fail
          refine (HC.out w2 hbd.out s[n]).mono ?_
          rintro e' w1 ⟨rfl, hb1⟩
          have HB1 := Lib.hid (hbd.out.trans (hb1.mono hbd.out.size))
          clear hb1
          rw [← HR.out]
          have hnl : n < s.data.toList.length := by simpa using hlt
          have hdt := Lib.hid (drop_test es s.data.toList k n hkl f HE.out.symm hnl)
          cases r with
          | true =>
            have hone : f s.data.toList[n] = true := HR.out.symm
            have HONE := Lib.hid hone
            clear hone
            rcases HO.out with ⟨h1, h2, h3⟩ | ⟨st, mk', h1, h2, h3⟩
            · subst h1
              subst h2
              have H3 := Lib.hid h3
              clear h3
              go_wp2_with fail
              go_round
              case rel =>
                refine ⟨k + 1, n + 1, by go_num, by go_num, ⟨by omega, by omega, Or.inl ⟨rfl, rfl, ?_⟩⟩, HB1.out⟩
                rw [H3.out, hdt.out, HONE.out, Bool.true_and]
              case measure => simp [intOf]; omega
            · subst h1
              subst h2
              have H3 := Lib.hid h3
              clear h3
              go_wp2_with fail
              go_round
              case rel => exact ⟨k + 1, n + 1, by go_num, by go_num, ⟨by omega, by omega, Or.inr ⟨st, mk', rfl, rfl, stands_test es _ st mk' k n H3.out hkl f HE.out.symm hnl HONE.out⟩⟩, HB1.out⟩
              case measure => simp [intOf]; omega
          | false =>
            have hno : Hid (Mt (es.drop k) (s.data.toList.drop n) = false) := by
              have hone : f s.data.toList[n] = false := HR.out.symm
              show _ = _
              rw [hdt.out, hone, Bool.false_and]
            rcases HO.out with ⟨h1, h2, h3⟩ | ⟨st, mk', h1, h2, h3⟩
            · subst h1
              subst h2
              have H3 := Lib.hid h3
              clear h3
              go_wp2_with fail
              go_ret
              refine ⟨?_, HB1.out⟩
              rw [H3.out, hno.out]
              rfl
            · subst h1
              subst h2
              have H3 := Lib.hid h3
              clear h3
              have hl1 := H3.out.lt
              have hl2 := H3.out.len
              have hl3 := H3.out.at_le
              have b1 : st ≤ 4611686018427387904 := by omega
              have b2 : mk' ≤ 4611686018427387904 := by omega
              clear hl1 hl2 hl3
              go_wp2_with fail
              go_round
              case rel =>
                have := H3.out.lt
                have := H3.out.len
                have := H3.out.at_le
                exact ⟨st + 1, mk' + 1, by go_num, by go_num, ⟨by omega, by omega, Or.inr ⟨st, mk' + 1, rfl, by go_num, stands_back es _ st mk' k n H3.out hnl hno.out⟩⟩, HB1.out⟩
              case measure =>
                have := H3.out.lt
                have := H3.out.len
                have := H3.out.at_le
                refine meas2 m s.size _ _ _ _ _ ?_ ?_ <;> simp [intOf] <;> omega
      · have hkm : k = m := by omega
        subst hkm
        have hnl : n < s.data.toList.length := by simpa using hlt
        have hno : Hid (Mt (es.drop k) (s.data.toList.drop n) = false) := by
          show _ = _
          rw [HM.out]
          exact Mt_out es _ n hnl
        have hg0 : decide ((k : Int) < (k : Int)) = false := by simp
        rcases HO.out with ⟨h1, h2, h3⟩ | ⟨st, mk', h1, h2, h3⟩
        · subst h1
          subst h2
          have H3 := Lib.hid h3
          clear h3
          go_upto_region 8 with fail
          go_quiet (fail)
          go_wp2_with fail
          go_ret
          refine ⟨?_, below_drewN hb.out _⟩
          rw [H3.out, hno.out]
          rfl
        · subst h1
          subst h2
          have H3 := Lib.hid h3
          clear h3
          have hl1 := H3.out.lt
          have hl2 := H3.out.len
          have hl3 := H3.out.at_le
          have b1 : st ≤ 4611686018427387904 := by omega
          have b2 : mk' ≤ 4611686018427387904 := by omega
          clear hl1 hl2 hl3
          go_upto_region 8 with fail
          go_quiet (fail)
          go_wp2_with fail
          go_round
          case rel =>
            have := H3.out.lt
            have := H3.out.len
            have := H3.out.at_le
            exact ⟨st + 1, mk' + 1, by go_num, by go_num, ⟨by omega, by omega, Or.inr ⟨st, mk' + 1, rfl, by go_num, stands_back es _ st mk' _ n H3.out hnl hno.out⟩⟩, below_drewN hb.out _⟩
          case measure =>
            have := H3.out.lt
            have := H3.out.len
            have := H3.out.at_le
            refine meas2 _ s.size _ _ _ _ _ ?_ ?_ <;> simp [intOf] <;> omega
    · have hns : n = s.data.toList.length := by simp; omega
      have hno : Hid (Mt es s.data.toList = (es.drop k).all isStar) := by
        show _ = _
        rw [← Mt_nil]
        rcases HO.out with ⟨_, _, h3⟩ | ⟨st, mk', _, _, h3⟩
        · rw [h3, hns, List.drop_length]
        · rw [hns] at h3
          exact stands_end es _ st mk' k h3
      have hsl := fun (w : World) => from_els ao m cap k w hk'
      have hlen : (es.drop k).length = m - k := by rw [List.length_drop, ← HM.out]
      obtain ⟨ac, hao⟩ : ∃ ac, ac = cutA ao cap k := ⟨_, rfl⟩
      rw [← hao] at hsl
      have hcon : Calls Try.prog 34 #[.slice ac ((m - k : Nat) : Int).toNat (cap - k), .func (.func 35) #[] #[]] wr fun e w' => e = .returned (.bool (!(es.drop k).all isStar)) ∧ Below wr.heap.size wr w' := by
        have := contains_any ac g (k * 2) (cap - k) (es.drop k) wr (fun h => by rw [hao, ha (by rw [hlen] at h; omega), cutA_lt (by rw [hlen] at h; omega), Nat.zero_add]) (fun h => Nat.lt_of_lt_of_le (hg (by rw [hlen] at h; rw [← HM.out]; omega)) hb.out.size) ((HS.out.lies.below hg hb.out).drop k) (by rw [hlen]; omega)
        rw [hlen] at this
        exact this
      have HCON := Lib.hid hcon
      clear hcon hlen hao
      go_wp2_with fail
      refine HCON.out.mono ?_
      rintro e w1 ⟨rfl, hb1⟩
      have HB1 := Lib.hid (hb.out.trans (hb1.mono hb.out.size))
      clear hb1
      go_wp2_with fail
      go_ret
      refine ⟨?_, HB1.out⟩
      rw [hno.out]
      simp
end Go.Proofs.Ytmjdlilmackneaa

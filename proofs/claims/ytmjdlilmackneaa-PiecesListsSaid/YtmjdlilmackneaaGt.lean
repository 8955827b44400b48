/- glob.set: what it tells; conditions: as each theorem states. -/
import Derived.Test.YtmjdlilmackneaaGs
import Derived.Laws.EntriesVeiled
namespace Go.Proofs.Ytmjdlilmackneaa
open Go.RowKit

theorem from_ch (ao : Option Addr) (m cap k : Nat) (w : World) (hk : k ≤ m) : (Instr.slice 22 (.slice ao m cap) (some (.int .i64 (k : Int))) none none).run Try.prog w = .ok (.slice (cutA ao cap k) (m - k) (cap - k)) w := by
  rw [run_slice_l w 22 ao m cap Try.underlying22 .i64 k (by omega) (by omega)]
  have : (sizeOf (Try.prog.elem 22)).run Try.prog w = .ok 2 w := by kernel_rfl
  rw [this]
  rfl
theorem range_ch (ao : Option Addr) (m cap l h : Nat) (w : World) (hl : l ≤ h) (hh : h ≤ cap) : (Instr.slice 22 (.slice ao m cap) (some (.int .i64 (l : Int))) (some (.int .i64 (h : Int))) none).run Try.prog w = .ok (.slice (cutA ao cap l) (h - l) (cap - l)) w := by
  rw [run_slice_lh w 22 ao m cap Try.underlying22 .i64 .i64 l h (by omega) (by omega) (by omega)]
  have : (sizeOf (Try.prog.elem 22)).run Try.prog w = .ok 2 w := by kernel_rfl
  rw [this]
  rfl

/-- A function value tells f, in whatever world in which some blocks lie as they lie here. -/
def TstF (gf : Nat) (lb : Array Value) (f : UInt8 → Bool) (fp : List Nat) (w : World) : Prop :=
  (∀ args w', (callFunc gf args).run Try.prog w' = .ok (.enter gf args) w') ∧ (∀ x ∈ fp, x < w.heap.size) ∧
  ∀ (W : World), w.heap.size ≤ W.heap.size → (∀ x ∈ fp, ∀ o, W.cell? ⟨x, o, none⟩ = w.cell? ⟨x, o, none⟩) → ∀ c : UInt8, Calls Try.prog gf (#[.int .u8 c.toNat] ++ lb) W fun e w' => e = .returned (.bool (f c)) ∧ Below W.heap.size W w'
theorem TstF.keep {gf : Nat} {lb : Array Value} {f : UInt8 → Bool} {fp : List Nat} {w w' : World} (h : TstF gf lb f fp w) (hz : w.heap.size ≤ w'.heap.size) (hc : ∀ x ∈ fp, ∀ o, w'.cell? ⟨x, o, none⟩ = w.cell? ⟨x, o, none⟩) : TstF gf lb f fp w' :=
  ⟨h.1, fun x hx => Nat.lt_of_lt_of_le (h.2.1 x hx) hz, fun W hW hcW c => h.2.2 W (Nat.le_trans hz hW) (fun x hx o => (hcW x hx o).trans (hc x hx o)) c⟩
theorem TstF.below {gf : Nat} {lb : Array Value} {f : UInt8 → Bool} {fp : List Nat} {w w' : World} (h : TstF gf lb f fp w) (hb : Below w.heap.size w w') : TstF gf lb f fp w' :=
  h.keep hb.size fun x hx o => hb.cell (p := ⟨x, o, none⟩) (h.2.1 x hx)
theorem TstF.tests {gf : Nat} {lb : Array Value} {f : UInt8 → Bool} {fp : List Nat} {w : World} (h : TstF gf lb f fp w) : Tests gf lb f w :=
  ⟨h.1, fun W hb c => h.2.2 W hb.size (fun x hx o => hb.cell (p := ⟨x, o, none⟩) (h.2.1 x hx)) c⟩

/-- What a set's call leaves: its test and its length; or that it is none. -/
def SetPost (b : Nat) (p : List Ch) (w : World) (e : Ending) (w' : World) : Prop := Below w.heap.size w w' ∧ match setD p with
  | some (f, k) => ∃ gf lb fp, e = .returned (.tuple #[.agg #[.bool false, .func (.func gf) #[] lb], .int .i64 k, .bool true]) ∧ TstF gf lb f fp w' ∧ ∀ x ∈ fp, x = b ∨ w.heap.size ≤ x
  | none => e = .returned (.tuple #[.agg #[.bool false, .nilFunc], .int .i64 0, .bool false])

theorem setD_short {p : List Ch} (h : p.length ≤ frm p) : setD p = none := by
  unfold setD
  rw [if_pos h]
theorem setD_open {p : List Ch} (h : frm p < p.length) (he : ends (p.drop (frm p + 1)) = none) : setD p = none := by
  unfold setD
  rw [if_neg (by omega), he]
theorem setD_is {p : List Ch} {n : Nat} (h : frm p < p.length) (he : ends (p.drop (frm p + 1)) = some n) : setD p = some (fun c => spn c ((p.take (frm p + 1 + n)).drop (frm p)) != negd p, frm p + n + 2) := by
  unfold setD
  rw [if_neg (by omega), he]

theorem cf_set2 (args : Array Value) (w : World) : (callFunc 45 args).run Try.prog w = .ok (.enter 45 args) w := by kernel_rfl
theorem set_tst (bl g b o : Nat) (neg : Bool) (a2 : Option Addr) (c2 : Nat) (L : List Ch) (w : World) (h1 : w.cell? ⟨bl, 0, none⟩ = some (.slice a2 L.length c2)) (h2 : w.cell? ⟨g, 0, none⟩ = some (.bool neg)) (hbl : bl < w.heap.size) (hg : g < w.heap.size) (hb : b < w.heap.size)
    (ha : 0 < L.length → a2 = some ⟨b, o, none⟩) (hl : Reads b o L w) (hm : L.length ≤ 4611686018427387904) : TstF 45 #[.pointer (some ⟨bl, 0, none⟩), .pointer (some ⟨g, 0, none⟩)] (fun c => spn c L != neg) [bl, g, b] w := by
  refine ⟨fun args w' => cf_set2 args w', ?_, fun W hz hc c => ?_⟩
  · intro x hx
    simp only [List.mem_cons, List.not_mem_nil, or_false] at hx
    rcases hx with rfl | rfl | rfl <;> assumption
  · exact set2_any bl g neg a2 b o c2 L c W ((hc bl (by simp) 0).trans h1) ((hc g (by simp) 0).trans h2) (by omega) ha (by omega) (hl.same (hc b (by simp))) hm

set_option maxRecDepth 100000 in
set_option maxHeartbeats 2000000 in
theorem set_any (ao : Option Addr) (b o cap : Nat) (p : List Ch) (w : World) (ha : 0 < p.length → ao = some ⟨b, o, none⟩) (hcap : p.length ≤ cap) (hg : b < w.heap.size) (hl : Reads b o p w) (hm : p.length ≤ 4611686018427387904) :
    Calls Try.prog 39 #[.slice ao p.length cap] w fun e w' => SetPost b p w e w' := by
  obtain ⟨m, hmm⟩ : ∃ m, m = p.length := ⟨_, rfl⟩
  rw [← hmm] at ha hm hcap ⊢
  have HM := Lib.hid hmm
  clear hmm
  have HL := Lib.hid hl
  clear hl
  obtain ⟨neg, hneg⟩ : ∃ neg, neg = negd p := ⟨_, rfl⟩
  obtain ⟨fr, hfr⟩ : ∃ fr, fr = frm p := ⟨_, rfl⟩
  have HFD : Hid (fr = if neg then 2 else 1) := by
    show _ = _
    rw [hfr, hneg]
    rfl
  have HN := Lib.hid hneg
  have HF := Lib.hid hfr
  clear hneg hfr
  go_enter Try.func39, Try.ntmps39
  go_upto_region 2 with fail
  go_cut [6] (fun s6 wx => ∃ g : Nat, s6 = .pointer (some ⟨g, 0, none⟩) ∧ w.heap.size < g ∧ g < wx.heap.size ∧ wx.cell? ⟨g, 0, none⟩ = some (.bool neg) ∧ wx.cell? ⟨w.heap.size, 0, none⟩ = some (.bool false) ∧ wx.cell? ⟨w.heap.size, 1, none⟩ = some .nilFunc ∧ wx.frozen? ⟨w.heap.size, 0, none⟩ = false ∧ wx.frozen? ⟨w.heap.size, 1, none⟩ = false ∧ Below w.heap.size w wx)
  case first =>
    by_cases h1 : 1 < m
    · have hk1 : 1 < p.length := by rw [← HM.out]; exact h1
      obtain rfl := ha (by omega)
      obtain ⟨c1, c2⟩ := HL.out 1 hk1
      obtain ⟨y, hy⟩ : ∃ y, y = p[1].1 := ⟨_, rfl⟩
      obtain ⟨q, hq⟩ : ∃ q, q = p[1].2 := ⟨_, rfl⟩
      obtain ⟨r1, hr1⟩ : ∃ r, r = (!q && (y == 33)) := ⟨_, rfl⟩
      obtain ⟨r2, hr2⟩ : ∃ r, r = (!q && (y == 94)) := ⟨_, rfl⟩
      have hneg : neg = (r1 || r2) := by
        rw [HN.out, hr1, hr2, hy, hq]
        match p, hk1 with
        | _ :: z :: _, _ => rfl
      rw [← hy] at c1
      rw [← hq] at c2
      have HC1 : Hid (∀ W, Calls Try.prog 37 #[.agg #[.int .u8 y.toNat, .bool q], .int .u8 33] W fun e w' => e = .returned (.bool r1) ∧ w' = W.alloc (.cells #[.int .u8 y.toNat, .bool q] 25)) := fun W => hr1 ▸ open_any y 33 q W
      have HC2 : Hid (∀ W, Calls Try.prog 37 #[.agg #[.int .u8 y.toNat, .bool q], .int .u8 94] W fun e w' => e = .returned (.bool r2) ∧ w' = W.alloc (.cells #[.int .u8 y.toNat, .bool q] 25)) := fun W => hr2 ▸ open_any y 94 q W
      clear hr1 hr2 hy hq
      cases r1
      · rw [Bool.false_or] at hneg
        subst hneg
        go_wp2_with (first | (go_at_call 37; ((with_reducible refine (HC1.out _).mono ?_); rintro e w1 ⟨rfl, rfl⟩)) | (go_at_call 37; ((with_reducible refine (HC2.out _).mono ?_); rintro e w1 ⟨rfl, rfl⟩)))
        go_meet
        refine ⟨_, rfl, ?_, ?_, ?_, ?_, ?_, ?_, ?_, ?_⟩
        go_light
        all_goals (first | (simp; done) | (simp; omega) | (go_simp; done) | (repeat (first | (with_reducible exact Below.refl _ _) | (with_reducible refine Below.setCell ?_ (by first | omega | (simp <;> omega)) _) | (with_reducible refine Below.alloc ?_ (by first | omega | (simp <;> omega)) _))))
      · rw [Bool.true_or] at hneg
        subst hneg
        go_wp2_with (go_at_call 37; ((with_reducible refine (HC1.out _).mono ?_); rintro e w1 ⟨rfl, rfl⟩))
        go_meet
        refine ⟨_, rfl, ?_, ?_, ?_, ?_, ?_, ?_, ?_, ?_⟩
        go_light
        all_goals (first | (simp; done) | (simp; omega) | (go_simp; done) | (repeat (first | (with_reducible exact Below.refl _ _) | (with_reducible refine Below.setCell ?_ (by first | omega | (simp <;> omega)) _) | (with_reducible refine Below.alloc ?_ (by first | omega | (simp <;> omega)) _))))
    · have hneg : neg = false := by
        rw [HN.out]
        have : p.length ≤ 1 := by rw [← HM.out]; omega
        match p, this with
        | [], _ => rfl
        | [_], _ => rfl
      subst hneg
      have h1' : decide ((1 : Int) < (m : Int)) = false := by simp; omega
      go_wp2_with fail
      go_meet
      refine ⟨_, rfl, ?_, ?_, ?_, ?_, ?_, ?_, ?_, ?_⟩
      go_light
      all_goals (first | (simp; done) | (simp; omega) | (go_simp; done) | (repeat (first | (with_reducible exact Below.refl _ _) | (with_reducible refine Below.setCell ?_ (by first | omega | (simp <;> omega)) _) | (with_reducible refine Below.alloc ?_ (by first | omega | (simp <;> omega)) _))))
  case rest =>
    obtain ⟨g, rfl, hg1, hg2, hc, hc0, hc1, hf0, hf1, hbx⟩ := hcut
    have HBX := Lib.hid hbx
    clear hbx
    go_upto_if 24 with fail
    obtain ⟨wa, hwa⟩ : ∃ wa, wa = wc := ⟨_, rfl⟩
    go_cut [5] (fun s5 wx => s5 = .int .i64 (fr : Int) ∧ wx = wa)
    case first =>
      cases neg
      · obtain rfl : fr = 1 := HFD.out
        go_wp2_with fail
        go_meet
        exact ⟨rfl, hwa.symm⟩
      · obtain rfl : fr = 2 := HFD.out
        go_wp2_with fail
        go_meet
        exact ⟨rfl, hwa.symm⟩
    case rest =>
      obtain ⟨rfl, rfl⟩ := hcut
      subst hwa
      by_cases hlong : fr < m
      · have hlp : frm p < p.length := by rw [← HF.out, ← HM.out]; exact hlong
        obtain ⟨ml, hml⟩ : ∃ ml, ml = m - (fr + 1) := ⟨_, rfl⟩
        obtain ⟨ac, hac⟩ : ∃ ac, ac = cutA ao cap (fr + 1) := ⟨_, rfl⟩
        obtain ⟨cl, hcl⟩ : ∃ cl, cl = cap - (fr + 1) := ⟨_, rfl⟩
        have hsl : ∀ w, (Instr.slice 22 (.slice ao m cap) (some (.int .i64 ((fr : Int) + 1))) none none).run Try.prog w = .ok (.slice ac ml cl) w := fun w => by
          rw [hac, hml, hcl]
          exact from_ch ao m cap (fr + 1) w (by omega)
        have hlen : (p.drop (fr + 1)).length = ml := by rw [List.length_drop, ← HM.out, hml]
        have hbz : w.heap.size ≤ wc.heap.size := HBX.out.size
        have hcon : Calls Try.prog 40 #[.slice ac ml cl, .func (.func 44) #[] #[]] wc fun e w' => e = .returned (.int .i64 (firstI (opn · 93) (p.drop (fr + 1)))) ∧ Below wc.heap.size wc w' := by
          have := ifchar_any ac b (o + (fr + 1) * 2) cl (p.drop (fr + 1)) wc (fun h => by rw [hlen] at h; rw [hac, ha (by omega), cutA_lt (by omega)]) (by omega) ((HL.out.below hg HBX.out).drop _) (by rw [hlen]; omega)
          rw [hlen] at this
          exact this
        have HML := Lib.hid hml
        have HCON := Lib.hid hcon
        have HAC := Lib.hid hac
        have HLEN := Lib.hid hlen
        clear hml hcl hac hlen hcon
        cases hends : ends (p.drop (fr + 1)) with
        | none =>
          have HE := Lib.hid hends
          clear hends
          have hfi : firstI (opn · 93) (p.drop (fr + 1)) = -1 := by
            have := HE.out
            unfold ends at this
            unfold firstI
            rw [this]
          have HCON' := HCON.out
          rw [hfi] at HCON'
          have HCON2 := Lib.hid HCON'
          clear HCON' hfi HCON
          go_wp2_with fail
          refine HCON2.out.mono ?_
          rintro e w1 ⟨rfl, hb1⟩
          have e0 := (hb1.cell (p := ⟨w.heap.size, 0, none⟩) (by show w.heap.size < _; omega)).trans hc0
          have e1 := (hb1.cell (p := ⟨w.heap.size, 1, none⟩) (by show w.heap.size < _; omega)).trans hc1
          have f0 := (hb1.frozen (p := ⟨w.heap.size, 0, none⟩) (by show w.heap.size < _; omega)).trans hf0
          have f1 := (hb1.frozen (p := ⟨w.heap.size, 1, none⟩) (by show w.heap.size < _; omega)).trans hf1
          have HB1 := Lib.hid (HBX.out.trans (hb1.mono HBX.out.size))
          clear hb1
          go_wp2_with fail
          refine bodyPost_ret (v := .tuple #[.agg #[.bool false, .nilFunc], .int .i64 0, .bool false]) (by simp [results, Try.results39, go_sem, e0, e1]) rfl ?_
          have hsd : setD p = none := setD_open hlp (by rw [← HF.out]; exact HE.out)
          refine ⟨?_, ?_⟩
          · repeat (first | (with_reducible exact HB1.out) | (with_reducible refine Below.setCell ?_ (by first | omega | (simp <;> omega)) _))
          · rw [hsd]
        | some n =>
          have hnl : n < ml := by
            have := ends_lt hends
            have h2 := HLEN.out
            omega
          have HE := Lib.hid hends
          clear hends
          have hml : ml = m - (fr + 1) := HML.out
          have hnm : fr + 1 + n < m := by omega
          clear hml
          have hfi : firstI (opn · 93) (p.drop (fr + 1)) = n := by
            have := HE.out
            unfold ends at this
            unfold firstI
            rw [this]
          have HCON' := HCON.out
          rw [hfi] at HCON'
          have HCON2 := Lib.hid HCON'
          clear HCON' hfi HCON
          obtain ⟨a2, ha2⟩ : ∃ a2, a2 = cutA ao cap fr := ⟨_, rfl⟩
          obtain ⟨m2, hm2⟩ : ∃ m2, m2 = fr + 1 + n - fr := ⟨_, rfl⟩
          obtain ⟨c2, hc2⟩ : ∃ c2, c2 = cap - fr := ⟨_, rfl⟩
          have hsl2 : ∀ w, (Instr.slice 22 (.slice ao m cap) (some (.int .i64 (fr : Int))) (some (.int .i64 ((fr : Int) + 1 + (n : Int)))) none).run Try.prog w = .ok (.slice a2 m2 c2) w := fun w => by
            rw [ha2, hm2, hc2]
            exact range_ch ao m cap fr (fr + 1 + n) w (by omega) (by omega)
          have HA2 := Lib.hid ha2
          have HM2 := Lib.hid hm2
          have HC2 := Lib.hid hc2
          clear ha2 hm2 hc2
          go_wp2_with fail
          refine HCON2.out.mono ?_
          rintro e w1 ⟨rfl, hb1⟩
          have hz1 : w.heap.size < w1.heap.size := by have := hb1.size; omega
          have hgz : g < w1.heap.size := by have := hb1.size; omega
          have e0 := (hb1.cell (p := ⟨w.heap.size, 0, none⟩) (by show w.heap.size < _; omega)).trans hc0
          have e1 := (hb1.cell (p := ⟨w.heap.size, 1, none⟩) (by show w.heap.size < _; omega)).trans hc1
          have eg := (hb1.cell (p := ⟨g, 0, none⟩) hg2).trans hc
          have f0 := (hb1.frozen (p := ⟨w.heap.size, 0, none⟩) (by show w.heap.size < _; omega)).trans hf0
          have f1 := (hb1.frozen (p := ⟨w.heap.size, 1, none⟩) (by show w.heap.size < _; omega)).trans hf1
          have HB1 := Lib.hid (HBX.out.trans (hb1.mono HBX.out.size))
          clear hb1
          go_wp2_with fail
          have q0 : (((w1.setCell ⟨w.heap.size, 0, none⟩ (.bool false)).setCell ⟨w.heap.size, 1, none⟩ (.func (.func 45) #[] #[.pointer (some ⟨w1.heap.size, 0, none⟩), .pointer (some ⟨g, 0, none⟩)])).alloc (.cells #[.slice a2 m2 c2] 22)).cell? ⟨w.heap.size, 0, none⟩ = some (.bool false) := by go_simp
          have q1 : (((w1.setCell ⟨w.heap.size, 0, none⟩ (.bool false)).setCell ⟨w.heap.size, 1, none⟩ (.func (.func 45) #[] #[.pointer (some ⟨w1.heap.size, 0, none⟩), .pointer (some ⟨g, 0, none⟩)])).alloc (.cells #[.slice a2 m2 c2] 22)).cell? ⟨w.heap.size, 1, none⟩ = some (.func (.func 45) #[] #[.pointer (some ⟨w1.heap.size, 0, none⟩), .pointer (some ⟨g, 0, none⟩)]) := by go_simp
          refine bodyPost_ret (v := .tuple #[.agg #[.bool false, .func (.func 45) #[] #[.pointer (some ⟨w1.heap.size, 0, none⟩), .pointer (some ⟨g, 0, none⟩)]], .int .i64 ((fr : Int) + (n : Int) + 2), .bool true]) (by simp [results, Try.results39, go_sem, q0, q1]) rfl ?_
          have hsd : setD p = some (fun c => spn c ((p.take (frm p + 1 + n)).drop (frm p)) != negd p, frm p + n + 2) := setD_is hlp (by rw [← HF.out]; exact HE.out)
          rw [← HF.out, ← HN.out] at hsd
          have HBF : Hid (Below w.heap.size w (((w1.setCell ⟨w.heap.size, 0, none⟩ (.bool false)).setCell ⟨w.heap.size, 1, none⟩ (.func (.func 45) #[] #[.pointer (some ⟨w1.heap.size, 0, none⟩), .pointer (some ⟨g, 0, none⟩)])).alloc (.cells #[.slice a2 m2 c2] 22))) := by
            show Below _ _ _
            repeat (first | (with_reducible exact HB1.out) | (with_reducible refine Below.setCell ?_ (by first | omega | (simp <;> omega)) _) | (with_reducible refine Below.alloc ?_ (by first | omega | (simp <;> omega)) _))
          refine ⟨HBF.out, ?_⟩
          · rw [hsd]
            have hL : ((p.take (fr + 1 + n)).drop fr).length = m2 := by
              rw [List.length_drop, List.length_take, ← HM.out, HM2.out]
              omega
            have hm2 := HM2.out
            refine ⟨_, _, [w1.heap.size, g, b], ?_, set_tst w1.heap.size g b (o + fr * 2) neg a2 c2 _ _ ?_ ?_ ?_ ?_ ?_ ?_ ?_ ?_, ?_⟩
            · rfl
            · rw [hL]
              go_light
              go_simp
            · go_light
              go_simp
            · simp
            · simp; omega
            · simp; omega
            · intro _
              rw [HA2.out, ha (by omega), cutA_lt (by omega)]
            · exact ((HL.out.below hg HBF.out).take (fr + 1 + n)).drop fr
            · rw [hL]; omega
            · intro x hx
              simp only [List.mem_cons, List.not_mem_nil, or_false] at hx
              rcases hx with rfl | rfl | rfl
              · right; omega
              · right; omega
              · left; rfl
      · have hlp : p.length ≤ frm p := by rw [← HF.out, ← HM.out]; omega
        have HLP := Lib.hid (setD_short hlp)
        clear hlp
        go_wp2_with fail
        refine bodyPost_ret (v := .tuple #[.agg #[.bool false, .nilFunc], .int .i64 0, .bool false]) (by simp [results, Try.results39, go_sem, hc0, hc1]) rfl ?_
        refine ⟨?_, ?_⟩
        · repeat (first | (with_reducible exact HBX.out) | (with_reducible refine Below.setCell ?_ (by first | omega | (simp <;> omega)) _))
        · rw [HLP.out]
end Go.Proofs.Ytmjdlilmackneaa

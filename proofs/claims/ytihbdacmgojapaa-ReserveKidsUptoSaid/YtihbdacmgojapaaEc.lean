/- lex.Literal; conditions: as each theorem states. -/
import Derived.Test.YtihbdacmgojapaaEb
namespace Go.Proofs.Ytihbdacmgojapaa
open Go.RowKit

/-- A word's text, if it has no other parts. -/
def litGo : List Nd → ByteArray → Option ByteArray
  | [], s => some s
  | p :: ps, s => if kdOf p == 1 then litGo ps (s ++ strOf p 1) else none
def litS (l : List Nd) : ByteArray := (litGo l ⟨#[]⟩).getD ⟨#[]⟩
def litB (l : List Nd) : Bool := (litGo l ⟨#[]⟩).isSome
theorem litGo_at (l : List Nd) (k : Nat) (h : k < l.length) (s : ByteArray) : litGo (l.drop k) s = if kdOf l[k] == 1 then litGo (l.drop (k + 1)) (s ++ strOf l[k] 1) else none := by
  rw [List.drop_eq_getElem_cons h, litGo]

set_option maxRecDepth 100000 in
set_option maxHeartbeats 2000000 in
theorem literal_any (W0 : World) (l : List Nd) (v : Value) (w : World) (hq : ∀ y ∈ l, Wf W0 .part y) (hs : SlA W0 10 v (l.map Nd.c)) (hb : Below W0.heap.size W0 w) (hm : Wl l ≤ 1048576) :
    Calls Try.prog 60 #[.agg #[v]] w fun e w' => e = .returned (.tuple #[.string (litS l), .bool (litB l)]) ∧ Below w.heap.size w w' := by
  obtain ⟨ao, b, o, cap, rfl, hf, hg, hcap, hat⟩ := hs.at
  obtain ⟨m, hmm⟩ : ∃ m, m = l.length := ⟨_, rfl⟩
  have hml : m ≤ 1048576 := by have := length_le l; omega
  have HQ := Lib.hid hq
  have HAT := Lib.hid hat
  have HB := Lib.hid hb
  have HM := Lib.hid hmm
  have HML := Lib.hid hm
  rw [← hmm] at hf hg hcap ⊢
  clear hq hat hb hmm hs hm
  obtain ⟨V, hV⟩ : ∃ V, V = w.alloc (.cells #[.slice ao m cap] 67) := ⟨_, rfl⟩
  have hbV : Hid (Below w.heap.size w V) := hV ▸ (Below.refl _ _).alloc (Nat.le_refl _) _
  have e0 : V.cell? ⟨w.heap.size, 0, none⟩ = some (.slice ao m cap) := by rw [hV]; go_simp
  have HBV : Hid (Below W0.heap.size W0 V) := HB.out.trans (hbV.out.mono HB.out.size)
  go_enter Try.func60, Try.ntmps60
  go_wp2_with fail
  rw [← hV]
  clear hV
  go_loopw [4, 10] (fun sv i wr => ∃ (k : Nat) (s : ByteArray), k ≤ m ∧ i = .int .i64 k ∧ sv = .string s ∧ Hid (litGo l ⟨#[]⟩ = litGo (l.drop k) s) ∧ Hid (s.size ≤ Wl (l.take k)) ∧ Hid (Below V.heap.size V wr)) (fun _ i _ => m - (intOf i).toNat)
  case atStart => exact ⟨0, ⟨#[]⟩, Nat.zero_le _, rfl, rfl, rfl, Nat.zero_le _, Below.refl _ _⟩
  case round =>
    obtain ⟨k, s, hk, rfl, rfl, hl, hsz, hbr⟩ := hrel
    have hbw : Below w.heap.size w wr := hbV.out.trans (hbr.out.mono hbV.out.size)
    by_cases hlt : k < m
    · have hkl : k < l.length := by rw [← HM.out]; exact hlt
      obtain rfl := hf (by omega)
      have hgb := hg (by omega)
      have hwf := HQ.out l[k] (List.getElem_mem hkl)
      have hat := HAT.out k hkl
      have hgo := litGo_at l k hkl s
      have htk : Wl (l.take (k + 1)) = Wl (l.take k) + wt l[k] := by
        rw [take_snoc l k hkl, Wl_append, Wl_cons, Wl_nil, Nat.add_zero]
      have htl := Wl_take l (k + 1)
      have hall := HML.out
      obtain ⟨x, hx⟩ : ∃ x, x = l[k] := ⟨_, rfl⟩
      rw [← hx] at hwf hat hgo htk
      clear hx
      have hb0 : Below W0.heap.size W0 wr := HBV.out.trans (hbr.out.mono HBV.out.size)
      cases hwf with
      | part a0 a1 a2 a3 a4 a5 l5 a6 l6 a7 l7 a8 l8 a9 h5 q5 h6 q6 h7 q7 h8 q8 =>
        obtain ⟨oa5, cp5, rfl⟩ := h5.form
        obtain ⟨oa6, cp6, rfl⟩ := h6.form
        obtain ⟨oa7, cp7, rfl⟩ := h7.form
        obtain ⟨oa8, cp8, rfl⟩ := h8.form
        have d0 : wr.cell? ⟨b, o + k * 10 + 0, none⟩ = some (.int .i64 a0) := (hb0.cell (p := ⟨b, o + k * 10 + 0, none⟩) hgb).trans (hat 0 (by decide))
        have d1 : wr.cell? ⟨b, o + k * 10 + 1, none⟩ = some (.string a1) := (hb0.cell (p := ⟨b, o + k * 10 + 1, none⟩) hgb).trans (hat 1 (by decide))
        have d2 : wr.cell? ⟨b, o + k * 10 + 2, none⟩ = some (.string a2) := (hb0.cell (p := ⟨b, o + k * 10 + 2, none⟩) hgb).trans (hat 2 (by decide))
        have d3 : wr.cell? ⟨b, o + k * 10 + 3, none⟩ = some (.string a3) := (hb0.cell (p := ⟨b, o + k * 10 + 3, none⟩) hgb).trans (hat 3 (by decide))
        have d4 : wr.cell? ⟨b, o + k * 10 + 4, none⟩ = some (.bool a4) := (hb0.cell (p := ⟨b, o + k * 10 + 4, none⟩) hgb).trans (hat 4 (by decide))
        have d5 : wr.cell? ⟨b, o + k * 10 + 5, none⟩ = some (.slice oa5 l5.length cp5) := (hb0.cell (p := ⟨b, o + k * 10 + 5, none⟩) hgb).trans (hat 5 (by decide))
        have d6 : wr.cell? ⟨b, o + k * 10 + 6, none⟩ = some (.slice oa6 l6.length cp6) := (hb0.cell (p := ⟨b, o + k * 10 + 6, none⟩) hgb).trans (hat 6 (by decide))
        have d7 : wr.cell? ⟨b, o + k * 10 + 7, none⟩ = some (.slice oa7 l7.length cp7) := (hb0.cell (p := ⟨b, o + k * 10 + 7, none⟩) hgb).trans (hat 7 (by decide))
        have d8 : wr.cell? ⟨b, o + k * 10 + 8, none⟩ = some (.slice oa8 l8.length cp8) := (hb0.cell (p := ⟨b, o + k * 10 + 8, none⟩) hgb).trans (hat 8 (by decide))
        have d9 : wr.cell? ⟨b, o + k * 10 + 9, none⟩ = some (.int .i64 a9) := (hb0.cell (p := ⟨b, o + k * 10 + 9, none⟩) hgb).trans (hat 9 (by decide))
        simp only [Nat.add_zero] at d0
        have hw := seven (.mk [.int .i64 a0, .string a1, .string a2, .string a3, .bool a4, .slice oa5 l5.length cp5, .slice oa6 l6.length cp6, .slice oa7 l7.length cp7, .slice oa8 l8.length cp8, .int .i64 a9] [l5, l6, l7, l8])
        have hz1 : a1.size ≤ cz (Nd.mk [.int .i64 a0, .string a1, .string a2, .string a3, .bool a4, .slice oa5 l5.length cp5, .slice oa6 l6.length cp6, .slice oa7 l7.length cp7, .slice oa8 l8.length cp8, .int .i64 a9] [l5, l6, l7, l8]).c := by
          simp only [Nd.c, cz, List.length_cons, List.length_nil, List.map_cons, List.map_nil, List.sum_cons, List.sum_nil, vsz_str]
          split <;> omega
        have hk0 : kdOf (.mk [.int .i64 a0, .string a1, .string a2, .string a3, .bool a4, .slice oa5 l5.length cp5, .slice oa6 l6.length cp6, .slice oa7 l7.length cp7, .slice oa8 l8.length cp8, .int .i64 a9] [l5, l6, l7, l8]) = a0 := rfl
        have hs0 : strOf (.mk [.int .i64 a0, .string a1, .string a2, .string a3, .bool a4, .slice oa5 l5.length cp5, .slice oa6 l6.length cp6, .slice oa7 l7.length cp7, .slice oa8 l8.length cp8, .int .i64 a9] [l5, l6, l7, l8]) 1 = a1 := rfl
        rw [hk0, hs0] at hgo
        have hszo := hsz.out
        have hb1 : s.size + a1.size ≤ Wl (l.take (k + 1)) := by omega
        have HGO := Lib.hid hgo
        have HBW := Lib.hid hbw
        have HSZ := Lib.hid hb1
        have hb2 : s.size + a1.size ≤ 1048576 := by omega
        have hsum : ∀ w : World, (Op.stringOp .add s a1).run Try.prog w = .ok (.string (s ++ a1)) w := fun w => run_string_add_sum w s a1 (by omega)
        clear h5 h6 h7 h8 q5 q6 q7 q8 hat hgo hw hz1 hk0 hs0 htk htl hall hb0 hszo hbw hb1
        by_cases hz : a0 = 1
        · subst hz
          go_wp2_with fail
          go_roundw
          case rel =>
            refine ⟨k + 1, s ++ a1, by omega, by go_num, rfl, ?_, ?_, hbr.out.alloc hbr.out.size _⟩
            · show _ = _
              rw [hl.out, HGO.out]
              rfl
            · show _ ≤ _
              rw [ByteArray.size_append]
              exact HSZ.out
          case measure => simp [intOf]; omega
        · have hz' : (a0 != 1) = true := by simpa using hz
          have hz2 : (a0 == 1) = false := by simpa using hz
          have hn : litGo l ⟨#[]⟩ = none := by
            rw [hl.out, HGO.out, hz2]
            rfl
          have h1 : litS l = ⟨#[]⟩ := by unfold litS; rw [hn]; rfl
          have h2 : litB l = false := by unfold litB; rw [hn]; rfl
          have H1 := Lib.hid h1
          have H2 := Lib.hid h2
          clear hn h1 h2 hz2
          go_wp2_with fail
          go_ret2
          exact ⟨by rw [H1.out, H2.out]; rfl, HBW.out.alloc HBW.out.size _⟩
    · obtain rfl : k = m := by omega
      have hn : litGo l ⟨#[]⟩ = some s := by
        rw [hl.out, List.drop_eq_nil_of_le (by rw [HM.out]; exact Nat.le_refl _)]
        rfl
      have h1 : litS l = s := by unfold litS; rw [hn]; rfl
      have h2 : litB l = true := by unfold litB; rw [hn]; rfl
      have H1 := Lib.hid h1
      have H2 := Lib.hid h2
      have HBW := Lib.hid hbw
      clear hn h1 h2 hbw
      go_wp2_with fail
      go_ret2
      exact ⟨by rw [H1.out, H2.out]; rfl, HBW.out⟩
end Go.Proofs.Ytihbdacmgojapaa

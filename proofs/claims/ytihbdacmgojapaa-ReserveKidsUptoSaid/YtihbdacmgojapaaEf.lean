/- arith.anyOf over the collecting closure; arith.Names; conditions: as each theorem states. -/
import Derived.Test.YtihbdacmgojapaaEe
namespace Go.Proofs.Ytihbdacmgojapaa
open Go.RowKit

/-- What is known of sums of at most a weight. -/
def AnyOk (W0 : World) (n0 bo m : Nat) : Prop := ∀ x, wt x ≤ m → Wf W0 .sum x → ∀ w v xs, Below W0.heap.size W0 w → SetAt n0 28 w bo v xs → xs.length + wt x ≤ 8796093022208 →
  Calls Try.prog 58 #[.agg x.c.toArray, NM bo] w fun e w' => e = .returned (.bool false) ∧ After n0 28 bo v xs w (sr x) (wt x) w'

set_option maxRecDepth 100000 in
set_option maxHeartbeats 2000000 in
theorem anyOf1_any (W0 : World) (n0 bo m : Nat) (IH : AnyOk W0 n0 bo m) (x : Nd) (hx : wt x ≤ m) (hw : Wf W0 .sum x) (bi : Nat) (w : World) (v : Value) (xs : List ByteArray) (hb : Below W0.heap.size W0 w) (hs : SetAt n0 28 w bo v xs) (hl : xs.length + wt x ≤ 8796093022208)
    (hi : w.cell? ⟨bi, 0, none⟩ = some (NM bo)) : Calls Try.prog 69 #[.agg x.c.toArray, .pointer (some ⟨bi, 0, none⟩)] w fun e w' => e = .returned (.bool false) ∧ After n0 28 bo v xs w (sr x) (wt x) w' := by
  have HC : Hid (∀ V : World, Below w.heap.size w V → Calls Try.prog 58 #[.agg x.c.toArray, NM bo] V fun e w' => e = .returned (.bool false) ∧ After n0 28 bo v xs V (sr x) (wt x) w') := fun V hV => IH x hx hw V v xs (hb.trans (hV.mono hb.size)) (hs.below hV) hl
  have hbi := World.block_lt_of_cell? w _ hi
  clear IH hs hl hb hx
  cases hw with
  | sum a0 a1 a2 a3 l3 h3 q3 =>
    obtain ⟨oa3, cp3, rfl⟩ := h3.form
    obtain ⟨r, hr⟩ : ∃ r, r = sr (.mk [.string a0, .string a1, .int .i64 a2, .slice oa3 l3.length cp3] [l3]) := ⟨_, rfl⟩
    obtain ⟨c, hc⟩ : ∃ c, c = wt (.mk [.string a0, .string a1, .int .i64 a2, .slice oa3 l3.length cp3] [l3]) := ⟨_, rfl⟩
    rw [← hr, ← hc] at HC ⊢
    rw [show (Nd.mk [.string a0, .string a1, .int .i64 a2, .slice oa3 l3.length cp3] [l3]).c.toArray = #[.string a0, .string a1, .int .i64 a2, .slice oa3 l3.length cp3] from rfl] at HC ⊢
    obtain ⟨m3, hm3⟩ : ∃ m, m = l3.length := ⟨_, rfl⟩
    rw [← hm3] at HC ⊢
    obtain ⟨V, hV⟩ : ∃ V, V = w.alloc (.cells #[.string a0, .string a1, .int .i64 a2, .slice oa3 m3 cp3] 100) := ⟨_, rfl⟩
    have hbV : Below w.heap.size w V := hV ▸ (Below.refl _ _).alloc (Nat.le_refl _) _
    have HC2 := Lib.hid (HC.out V hbV)
    have HBV := Lib.hid hbV
    clear hr hc hm3 h3 q3 HC hbV
    go_enter Try.func69, Try.ntmps69
    go_wp2_with fail
    rw [← hV]
    refine HC2.out.mono ?_
    rintro e w1 ⟨rfl, ha⟩
    have HA := Lib.hid (After.from_ HBV.out ha)
    clear ha hV
    go_wp2_with fail
    go_ret
    exact ⟨by simp, HA.out⟩

set_option maxRecDepth 100000 in
set_option maxHeartbeats 2000000 in
theorem ifsum_any (W0 : World) (n0 bo m : Nat) (IH : AnyOk W0 n0 bo m) (hn0 : W0.heap.size ≤ n0) (ks : List Nd) (kv : Value) (hk : Wl ks ≤ m) (hq : ∀ y ∈ ks, Wf W0 .sum y) (hsl : SlA W0 4 kv (ks.map Nd.c)) (bi : Nat) (w : World) (v : Value) (xs : List ByteArray) (hb : Below W0.heap.size W0 w) (hs : SetAt n0 28 w bo v xs)
    (hl : xs.length + Wl ks ≤ 8796093022208) (hm : Wl ks ≤ 1048576) (hi : w.cell? ⟨bi, 0, none⟩ = some (NM bo)) (hne : bi ≠ bo) (hnr : some bi ≠ v.ownBlock) :
    Calls Try.prog 71 #[kv, .func (.func 69) #[] #[.pointer (some ⟨bi, 0, none⟩)]] w fun e w' => e = .returned (.int .i64 (-1)) ∧ After n0 28 bo v xs w (ks.any sr) (Wl ks) w' := by
  obtain ⟨ao, b, o, cap, rfl, hf, hg, hcap, hat⟩ := hsl.at
  obtain ⟨mm, hmm⟩ : ∃ m, m = ks.length := ⟨_, rfl⟩
  have hml : mm ≤ 1048576 := by have := length_le ks; omega
  have hbi := World.block_lt_of_cell? w _ hi
  have HQ := Lib.hid hq
  have HAT := Lib.hid hat
  have HM := Lib.hid hmm
  have HI := Lib.hid hi
  have HS := Lib.hid hs
  have HB := Lib.hid hb
  have HIH := Lib.hid IH
  have HL := Lib.hid hl
  have HK := Lib.hid hk
  have HNR := Lib.hid hnr
  rw [← hmm] at hf hg hcap ⊢
  clear hq hat hmm hsl hi hs hb IH hl hk hnr
  go_enter Try.func71, Try.ntmps71
  go_wp2_with fail
  go_loopw [8] (fun i wr => ∃ k : Nat, k ≤ mm ∧ i = .int .i64 k ∧ Hid (After n0 28 bo v xs w ((ks.take k).any sr) (Wl (ks.take k)) wr)) (fun i _ => mm - (intOf i).toNat)
  case atStart => exact ⟨0, Nat.zero_le _, rfl, After.quiet HS.out (Below.refl _ _)⟩
  case round =>
    obtain ⟨k, hk, rfl, ha⟩ := hrel
    by_cases hlt : k < mm
    · have hkl : k < ks.length := by rw [← HM.out]; exact hlt
      obtain rfl := hf (by omega)
      have hgb := hg (by omega)
      have hwf := HQ.out ks[k] (List.getElem_mem hkl)
      have hat := HAT.out k hkl
      have htk : Wl (ks.take (k + 1)) = Wl (ks.take k) + wt ks[k] := by
        rw [take_snoc ks k hkl, Wl_append, Wl_cons, Wl_nil, Nat.add_zero]
      have htl := Wl_take ks (k + 1)
      have hsn : (ks.take (k + 1)).any sr = ((ks.take k).any sr || sr ks[k]) := by rw [take_snoc ks k hkl, List.any_append]; simp
      obtain ⟨v', xs', h1, h2, h3, h4⟩ := ha.out
      have hbn := h4.below HS.out
      have hb0 : Below W0.heap.size W0 wr := HB.out.trans (hbn.mono hn0)
      have hci : wr.cell? ⟨bi, 0, none⟩ = some (NM bo) := (World.cell?_of_block (h4.block bi hbi hne HNR.out)).trans HI.out
      obtain ⟨x, hx⟩ : ∃ x, x = ks[k] := ⟨_, rfl⟩
      rw [← hx] at hwf hat htk hsn
      clear hx
      have HC : Hid (Calls Try.prog 69 #[.agg x.c.toArray, .pointer (some ⟨bi, 0, none⟩)] wr fun e w' => e = .returned (.bool false) ∧ After n0 28 bo v' xs' wr (sr x) (wt x) w') :=
        anyOf1_any W0 n0 bo m HIH.out x (by have := HK.out; omega) hwf bi wr v' xs' hb0 h1 (by have := HL.out; omega) hci
      cases hwf with
      | sum a0 a1 a2 a3 l3 g3 q3 =>
        obtain ⟨oa3, cp3, rfl⟩ := g3.form
        have d0 : wr.cell? ⟨b, o + k * 4 + 0, none⟩ = some (.string a0) := (hb0.cell (p := ⟨b, o + k * 4 + 0, none⟩) hgb).trans (hat 0 (by decide))
        have d1 : wr.cell? ⟨b, o + k * 4 + 1, none⟩ = some (.string a1) := (hb0.cell (p := ⟨b, o + k * 4 + 1, none⟩) hgb).trans (hat 1 (by decide))
        have d2 : wr.cell? ⟨b, o + k * 4 + 2, none⟩ = some (.int .i64 a2) := (hb0.cell (p := ⟨b, o + k * 4 + 2, none⟩) hgb).trans (hat 2 (by decide))
        have d3 : wr.cell? ⟨b, o + k * 4 + 3, none⟩ = some (.slice oa3 l3.length cp3) := (hb0.cell (p := ⟨b, o + k * 4 + 3, none⟩) hgb).trans (hat 3 (by decide))
        simp only [Nat.add_zero] at d0
        have HSN := Lib.hid hsn
        have HTK := Lib.hid htk
        have H2 := Lib.hid h2
        have H3 := Lib.hid h3
        have H4 := Lib.hid h4
        rw [show (Nd.mk [.string a0, .string a1, .int .i64 a2, .slice oa3 l3.length cp3] [l3]).c.toArray = #[.string a0, .string a1, .int .i64 a2, .slice oa3 l3.length cp3] from rfl] at HC
        clear hat htk htl hsn h1 h2 h3 h4 hbn hb0 hci g3 q3 ha
        go_wp2_with fail
        refine HC.out.mono ?_
        rintro e w1 ⟨rfl, ha1⟩
        have HA : Hid (After n0 28 bo v xs w ((ks.take (k + 1)).any sr) (Wl (ks.take (k + 1))) w1) := by
          show After _ _ _ _ _ _ _ _ _
          rw [HSN.out, HTK.out]
          exact After.then_ H2.out H3.out H4.out ha1
        clear ha1
        go_wp2_with fail
        go_roundw
        case rel => exact ⟨k + 1, by omega, by go_num, HA.out⟩
        case measure => simp [intOf]; omega
    · go_wp2_with fail
      go_ret
      obtain rfl : k = mm := by omega
      refine ⟨by simp, ?_⟩
      have := ha.out
      rw [List.take_of_length_le (by rw [HM.out]; exact Nat.le_refl _)] at this
      exact this
set_option maxRecDepth 100000 in
set_option maxHeartbeats 2000000 in
theorem cfsum_any (W0 : World) (n0 bo m : Nat) (IH : AnyOk W0 n0 bo m) (hn0 : W0.heap.size ≤ n0) (ks : List Nd) (kv : Value) (hk : Wl ks ≤ m) (hq : ∀ y ∈ ks, Wf W0 .sum y) (hsl : SlA W0 4 kv (ks.map Nd.c)) (bi : Nat) (w : World) (v : Value) (xs : List ByteArray) (hb : Below W0.heap.size W0 w) (hs : SetAt n0 28 w bo v xs)
    (hl : xs.length + Wl ks ≤ 8796093022208) (hm : Wl ks ≤ 1048576) (hi : w.cell? ⟨bi, 0, none⟩ = some (NM bo)) (hne : bi ≠ bo) (hnr : some bi ≠ v.ownBlock) :
    Calls Try.prog 68 #[kv, .func (.func 69) #[] #[.pointer (some ⟨bi, 0, none⟩)]] w fun e w' => e = .returned (.bool false) ∧ After n0 28 bo v xs w (ks.any sr) (Wl ks) w' := by
  have HC := Lib.hid (ifsum_any W0 n0 bo m IH hn0 ks kv hk hq hsl bi w v xs hb hs hl hm hi hne hnr)
  obtain ⟨ao, cap, rfl⟩ := hsl.form
  obtain ⟨k, hk'⟩ : ∃ k, k = ks.length := ⟨_, rfl⟩
  rw [← hk'] at HC ⊢
  clear IH hk hq hsl hb hs hl hm hi hne hnr hk'
  go_enter Try.func68, Try.ntmps68
  go_wp2_with fail
  refine HC.out.mono ?_
  rintro e w1 ⟨rfl, ha⟩
  have HA := Lib.hid ha
  clear ha
  go_wp2_with fail
  go_ret
  exact ⟨by simp, HA.out⟩
set_option maxRecDepth 100000 in
set_option maxHeartbeats 2000000 in
theorem anyOf_any (W0 : World) (n0 bo : Nat) (hn0 : W0.heap.size ≤ n0) : ∀ m, m ≤ 1048576 → AnyOk W0 n0 bo m := by
  intro m
  induction m with
  | zero =>
    intro _ x hx
    have := wt_pos x
    omega
  | succ m ih =>
    intro hm x hx hw w v xs hb hs hl
    have IH := ih (by omega)
    cases hw with
    | sum a0 a1 a2 a3 l3 h3 q3 =>
      obtain ⟨oa3, cp3, rfl⟩ := h3.form
      have hsev := seven (.mk [.string a0, .string a1, .int .i64 a2, .slice oa3 l3.length cp3] [l3])
      simp only [Nd.sub, Nd.s, List.getD_cons_zero, List.getD_cons_succ] at hsev
      have hsr : sr (.mk [.string a0, .string a1, .int .i64 a2, .slice oa3 l3.length cp3] [l3]) = (res a1 || l3.any sr) := by
        rw [sr_is]
        rfl
      rw [hsr]
      rw [show (Nd.mk [.string a0, .string a1, .int .i64 a2, .slice oa3 l3.length cp3] [l3]).c.toArray = #[.string a0, .string a1, .int .i64 a2, .slice oa3 l3.length cp3] from rfl]
      obtain ⟨c, hc⟩ : ∃ c, c = wt (.mk [.string a0, .string a1, .int .i64 a2, .slice oa3 l3.length cp3] [l3]) := ⟨_, rfl⟩
      rw [← hc] at hx hl hsev ⊢
      have hlc : 1 + Wl l3 ≤ c := by omega
      obtain ⟨V, hV⟩ : ∃ V, V = (w.alloc (.cells #[.string a0, .string a1, .int .i64 a2, .slice oa3 l3.length cp3] 100)).alloc (.cells #[NM bo] 114) := ⟨_, rfl⟩
      have hbV : Below w.heap.size w V := hV ▸ ((Below.refl _ _).alloc (Nat.le_refl _) _).alloc (by simp) _
      have hh := hs.below hbV
      have hVs : V.heap.size = w.heap.size + 1 + 1 := by rw [hV]; simp
      have H1 := Lib.hid (names1_any n0 bo v xs a0 a1 a2 oa3 l3.length cp3 V hh (by omega))
      have k3 : V.cell? ⟨w.heap.size, 3, none⟩ = some (.slice oa3 l3.length cp3) := by rw [hV]; go_simp
      have k4 : V.cell? ⟨w.heap.size + 1, 0, none⟩ = some (NM bo) := by rw [hV]; go_simp
      have hbo := hs.box.lt
      have hown : ∀ k, v.ownBlock = some k → k < w.heap.size := fun k hk => (hs.row.lt k hk).2
      have HN1 : Hid (∀ j, w.heap.size ≤ j → some j ≠ v.ownBlock) := fun j hj e => by have := hown j e.symm; omega
      have HC : Hid (∀ (V1 : World) (v1 : Value) (xs1 : List ByteArray), Below W0.heap.size W0 V1 → SetAt n0 28 V1 bo v1 xs1 → xs1.length ≤ xs.length + 1 → V1.cell? ⟨w.heap.size + 1, 0, none⟩ = some (NM bo) → some (w.heap.size + 1) ≠ v1.ownBlock →
          Calls Try.prog 68 #[.slice oa3 l3.length cp3, .func (.func 69) #[] #[.pointer (some ⟨w.heap.size + 1, 0, none⟩)]] V1 fun e w' => e = .returned (.bool false) ∧ After n0 28 bo v1 xs1 V1 (l3.any sr) (Wl l3) w') := fun V1 v1 xs1 g1 g2 g3 g4 g5 =>
        cfsum_any W0 n0 bo m IH hn0 l3 _ (by omega) q3 h3 (w.heap.size + 1) V1 v1 xs1 g1 g2 (by omega) (by omega) g4 (by omega) g5
      have HBV := Lib.hid hbV
      have HH := Lib.hid hh
      have HB := Lib.hid hb
      obtain ⟨k, hk⟩ : ∃ k, k = l3.length := ⟨_, rfl⟩
      rw [← hk] at H1 HC hV k3 ⊢
      clear hsev hsr hc h3 q3 IH ih hh hs hb hl hx hbV hk hown
      go_enter Try.func58, Try.ntmps58
      go_wp2_with fail
      rw [← hV]
      clear hV
      refine H1.out.mono ?_
      rintro e w1 ⟨rfl, ha⟩
      obtain ⟨v1, xs1, g1, g2, g3, g4⟩ := ha
      have e3 := (World.cell?_of_block (a := ⟨w.heap.size, 3, none⟩) (g4.block w.heap.size (by omega) (by omega) (HN1.out _ (Nat.le_refl _)))).trans k3
      have e4 := (World.cell?_of_block (a := ⟨w.heap.size + 1, 0, none⟩) (g4.block (w.heap.size + 1) (by omega) (by omega) (HN1.out _ (Nat.le_succ _)))).trans k4
      have hnr : some (w.heap.size + 1) ≠ v1.ownBlock := by
        rcases g4.row with h | ⟨j, h, hj⟩
        · rw [h]; exact HN1.out _ (Nat.le_succ _)
        · rw [h]; intro e; injection e with e; omega
      have hb1 : Below W0.heap.size W0 w1 := (HB.out.trans (HBV.out.mono HB.out.size)).trans ((g4.below HH.out).mono hn0)
      have HC2 := Lib.hid (HC.out w1 v1 xs1 hb1 g1 g3 e4 hnr)
      have G2 := Lib.hid g2
      have G3 := Lib.hid g3
      have G4 := Lib.hid g4
      clear g1 g2 g3 g4 hb1 hnr HC
      go_wp2_with fail
      refine HC2.out.mono ?_
      rintro e w2 ⟨rfl, ha⟩
      have HA : Hid (After n0 28 bo v xs w (res a1 || l3.any sr) c w2) := (After.from_ HBV.out (After.then_ G2.out G3.out G4.out ha)).le hlc
      clear ha
      go_wp2_with fail
      go_ret
      exact ⟨by simp, HA.out⟩
end Go.Proofs.Ytihbdacmgojapaa

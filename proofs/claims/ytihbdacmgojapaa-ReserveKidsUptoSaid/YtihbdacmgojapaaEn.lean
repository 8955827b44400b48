/- dialect.(*set).own; conditions: as each theorem states. -/
import Derived.Test.YtihbdacmgojapaaEm
namespace Go.Proofs.Ytihbdacmgojapaa
open Go.RowKit Go.Shelf
attribute [local go_sem] Oper.semAt_some

theorem osums_wt (x : Nd) : ∀ y ∈ osums x, wt y ≤ wt x := by
  intro y hy
  have h := seven x
  have h1 : Wl ((x.sub 1).flatMap (·.sub 1)) ≤ Wl (x.sub 1) := by
    have e : Wl ((x.sub 1).flatMap (·.sub 1)) = ((x.sub 1).map fun y => Wl (y.sub 1)).sum := sum_flatMap wt _ _
    rw [e]
    exact sum_le _ _ _ fun y _ => by have := seven y; omega
  have h2 : Wl ((oparts x).flatMap (·.sub 2)) ≤ wt x := by
    unfold oparts
    rw [List.flatMap_assoc]
    have e : Wl ((words x).flatMap fun y => (wparts y).flatMap (·.sub 2)) = ((words x).map fun y => Wl ((wparts y).flatMap (·.sub 2))).sum := sum_flatMap wt _ _
    rw [e]
    have h3 : ((words x).map fun y => Wl ((wparts y).flatMap (·.sub 2))).sum ≤ Pw (words x) := sum_le _ _ _ fun y _ => by
      unfold wparts
      rw [List.flatMap_assoc]
      have e : Wl ((y.sub 0).flatMap fun z => (pp z).flatMap (·.sub 2)) = ((y.sub 0).map fun z => Wl ((pp z).flatMap (·.sub 2))).sum := sum_flatMap wt _ _
      rw [e]
      exact sum_le _ _ _ fun z _ => pp_sums z
    have h4 := words_le x
    unfold Qw at h4
    omega
  unfold osums at hy
  rw [List.mem_append, List.mem_append] at hy
  rcases hy with (hy | hy) | hy
  · have := wt_mem hy
    omega
  · have := wt_mem hy
    omega
  · have := wt_mem hy
    omega
theorem keepsO {W W' : World} (h : Below W.heap.size W W') : KeepsOthers W W' := ⟨h.size, fun k _ hk _ => (h.block k (Array.getElem?_eq_some_iff.1 hk).1).trans hk⟩
set_option maxRecDepth 100000 in
set_option maxHeartbeats 16000000 in
theorem own_any (W0 : World) (x : Nd) (hw : Wf W0 .cmd x) (hm : wt x ≤ 1048576) (n0 bx : Nat) (hn0 : W0.heap.size ≤ n0) (w : World) (v : Value) (xs : List ByteArray) (hb : Below W0.heap.size W0 w) (hs : SetAt n0 82 w bx v xs) (hl : xs.length + 6 * wt x ≤ 8796093022208) :
    Calls Try.prog 34 #[.pointer (some ⟨bx, 0, none⟩), .agg x.c.toArray] w fun e w' => e = .returned (.tuple #[]) ∧ After n0 82 bx v xs w (ores x) (6 * wt x) w' := by
  have hol := oparts_len x
  have hosl := osums_le x
  have hosw := osums_wf hw
  have host := osums_wt x
  have hpos := wt_pos x
  have HSTOP : Hid (∀ d bc (V : World), Below W0.heap.size W0 V → n0 ≤ V.heap.size → (∀ i (hi : i < x.c.length), V.cell? ⟨bc, i, none⟩ = some x.c[i]) → bc < V.heap.size →
      SeqStopsK Fence.wide d Try.prog 50 #[.pointer (some ⟨bc, 0, none⟩)] (fun y : PartA W0 (wt x) => #[Value.agg y.1.c.toArray]) (KT T1 n0) (fun ys => ys.map (·.1) = oparts x) (fun pre => pre.map (·.1) <+: oparts x) (oparts x).length V) := fun d bc V h1 h2 h3 h4 =>
    own_stops W0 T1 rfl rfl n0 hn0 (wt x) hm d x hw (Nat.le_refl _) bc V h1 h2 h3 h4
  have HSUM : Hid (∀ V : World, Below W0.heap.size W0 V → Calls Try.prog 43 #[.agg x.c.toArray] V fun e w' => ∃ v', e = .returned v' ∧ Own w' V.heap.size 100 4 v' (osums x) ∧ Below V.heap.size V w') := fun V h1 => sums_any W0 x V hw hm h1
  have HNMD : Hid (∀ (V : World) v xs, Below W0.heap.size W0 V → SetAt n0 82 V bx v xs → xs.length + wt x ≤ 8796093022208 → Calls Try.prog 45 #[.pointer (some ⟨bx, 0, none⟩), .agg x.c.toArray] V fun e w' => e = .returned (.tuple #[]) ∧ After n0 82 bx v xs V (namedR x) (wt x) w') := fun V v xs h1 h2 h3 => named_any W0 x hw hm n0 bx hn0 V v xs h1 h2 h3
  have hor : ores x = ((((kR x || (x.sub 1).any aR) || (oparts x).any pR) || (osums x).any sr) || namedR x) := rfl
  rw [hor]
  clear hor
  obtain ⟨OP, hOP⟩ : ∃ L, L = oparts x := ⟨_, rfl⟩
  obtain ⟨OS, hOS⟩ : ∃ L, L = osums x := ⟨_, rfl⟩
  obtain ⟨NM, hNM⟩ : ∃ L, L = namedR x := ⟨_, rfl⟩
  obtain ⟨M, hM⟩ : ∃ M, M = wt x := ⟨_, rfl⟩
  have hsev := seven x
  rw [← hOP] at HSTOP hol ⊢
  rw [← hOS] at HSUM hosl hosw host ⊢
  rw [← hNM] at HNMD ⊢
  rw [← hM] at HSTOP HNMD hol hosl host hl hm hpos hsev ⊢
  clear hOP hOS hNM hM
  cases hw with
  | cmd a0 a1 a2 l2 a3 l3 a4 l4 a5 l5 a6 l6 a7 l7 a8 l8 a9 h2 q2 h3 q3 h4 q4 h5 q5 h6 q6 h7 q7 h8 q8 =>
    obtain ⟨oa2, cp2, rfl⟩ := h2.form
    obtain ⟨oa3, cp3, rfl⟩ := h3.form
    obtain ⟨oa4, cp4, rfl⟩ := h4.form
    obtain ⟨oa5, cp5, rfl⟩ := h5.form
    obtain ⟨oa6, cp6, rfl⟩ := h6.form
    obtain ⟨oa7, cp7, rfl⟩ := h7.form
    obtain ⟨oa8, cp8, rfl⟩ := h8.form
    rw [show (Nd.mk [.int .i64 a0, .string a1, .slice oa2 l2.length cp2, .slice oa3 l3.length cp3, .slice oa4 l4.length cp4, .slice oa5 l5.length cp5, .slice oa6 l6.length cp6, .slice oa7 l7.length cp7, .slice oa8 l8.length cp8, .int .i64 a9] [l2, l3, l4, l5, l6, l7, l8]).c.toArray = #[.int .i64 a0, .string a1, .slice oa2 l2.length cp2, .slice oa3 l3.length cp3, .slice oa4 l4.length cp4, .slice oa5 l5.length cp5, .slice oa6 l6.length cp6, .slice oa7 l7.length cp7, .slice oa8 l8.length cp8, .int .i64 a9] from rfl] at HSUM HNMD ⊢
    rw [show (Nd.mk [.int .i64 a0, .string a1, .slice oa2 l2.length cp2, .slice oa3 l3.length cp3, .slice oa4 l4.length cp4, .slice oa5 l5.length cp5, .slice oa6 l6.length cp6, .slice oa7 l7.length cp7, .slice oa8 l8.length cp8, .int .i64 a9] [l2, l3, l4, l5, l6, l7, l8]).c = [.int .i64 a0, .string a1, .slice oa2 l2.length cp2, .slice oa3 l3.length cp3, .slice oa4 l4.length cp4, .slice oa5 l5.length cp5, .slice oa6 l6.length cp6, .slice oa7 l7.length cp7, .slice oa8 l8.length cp8, .int .i64 a9] from rfl] at HSTOP
    rw [show (Nd.mk [.int .i64 a0, .string a1, .slice oa2 l2.length cp2, .slice oa3 l3.length cp3, .slice oa4 l4.length cp4, .slice oa5 l5.length cp5, .slice oa6 l6.length cp6, .slice oa7 l7.length cp7, .slice oa8 l8.length cp8, .int .i64 a9] [l2, l3, l4, l5, l6, l7, l8]).sub 1 = l3 from rfl]
    have hkr : kR (.mk [.int .i64 a0, .string a1, .slice oa2 l2.length cp2, .slice oa3 l3.length cp3, .slice oa4 l4.length cp4, .slice oa5 l5.length cp5, .slice oa6 l6.length cp6, .slice oa7 l7.length cp7, .slice oa8 l8.length cp8, .int .i64 a9] [l2, l3, l4, l5, l6, l7, l8]) = ((a0 == 12 && res a1) || (a0 == 14 && res (a1 ++ ⟨#[40, 41]⟩))) := rfl
    rw [hkr]
    clear hkr
    simp only [Nd.sub, Nd.s, List.getD_cons_zero, List.getD_cons_succ] at hsev
    have HSZ : Hid (a1.size ≤ 1048576) := by
      show _ ≤ _
      have : cz (Nd.mk [.int .i64 a0, .string a1, .slice oa2 l2.length cp2, .slice oa3 l3.length cp3, .slice oa4 l4.length cp4, .slice oa5 l5.length cp5, .slice oa6 l6.length cp6, .slice oa7 l7.length cp7, .slice oa8 l8.length cp8, .int .i64 a9] [l2, l3, l4, l5, l6, l7, l8]).c = cz [.int .i64 a0, .string a1, .slice oa2 l2.length cp2, .slice oa3 l3.length cp3, .slice oa4 l4.length cp4, .slice oa5 l5.length cp5, .slice oa6 l6.length cp6, .slice oa7 l7.length cp7, .slice oa8 l8.length cp8, .int .i64 a9] := rfl
      rw [this] at hsev
      simp [cz, vsz] at hsev
      omega
    have hl3 : l3.length ≤ M := by have := length_le l3; omega
    obtain ⟨ao3, bb3, of3, ca3, hv3, hf3, hg3, hc3, hat3⟩ := h3.at
    obtain ⟨m3, hmm3⟩ : ∃ m, m = l3.length := ⟨_, rfl⟩
    rw [← hmm3] at hv3 hf3 hg3 hc3 hl3 HSTOP HSUM HNMD ⊢
    have HM3 := Lib.hid hmm3
    obtain ⟨rfl, rfl⟩ : oa3 = ao3 ∧ cp3 = ca3 := by simp only [Value.slice.injEq] at hv3; exact ⟨hv3.1, hv3.2.2⟩
    have HAT3 := Lib.hid hat3
    have HQ3 := Lib.hid q3
    have HML := Lib.hid hm
    have HOL := Lib.hid hol
    have HOSL := Lib.hid hosl
    have HOSW := Lib.hid hosw
    have HOST := Lib.hid host
    have HL3 := Lib.hid hl3
    have HLL := Lib.hid hl
    have HPOS := Lib.hid hpos
    clear hmm3 hv3 hat3 h3 q3 hsev h2 h4 h5 h6 h7 h8 q2 q4 q5 q6 q7 q8 hol hosl hosw host hpos
    have hn3 : m3 ≤ 1048576 := by omega
    clear hl3 hl hm
    obtain ⟨Wb, hWb⟩ : ∃ W, W = (w.alloc (.cells #[.pointer (some ⟨bx, 0, none⟩)] 80)).alloc (.cells #[.int .i64 a0, .string a1, .slice oa2 l2.length cp2, .slice oa3 m3 cp3, .slice oa4 l4.length cp4, .slice oa5 l5.length cp5, .slice oa6 l6.length cp6, .slice oa7 l7.length cp7, .slice oa8 l8.length cp8, .int .i64 a9] 48) := ⟨_, rfl⟩
    have hbWb : Below w.heap.size w Wb := hWb ▸ ((Below.refl _ _).alloc (Nat.le_refl _) _).alloc (by simp) _
    have hWs : Wb.heap.size = w.heap.size + 1 + 1 := by rw [hWb]; simp
    have HbW := Lib.hid hbWb
    have HB : Hid (Below W0.heap.size W0 Wb) := hb.trans (hbWb.mono hb.size)
    have HSB : Hid (SetAt n0 82 Wb bx v xs) := hs.below hbWb
    obtain ⟨f1, f2⟩ := hs.far w.heap.size (Nat.le_refl _)
    obtain ⟨f3, f4⟩ := hs.far (w.heap.size + 1) (Nat.le_succ _)
    have hn0w : n0 ≤ w.heap.size := by have := hs.le; have := hs.box.lt; omega
    have HCP : Hid (∀ r c W, After n0 82 bx v xs Wb r c W → W.cell? ⟨w.heap.size, 0, none⟩ = some (.pointer (some ⟨bx, 0, none⟩))) := fun r c W ha => by
      rw [ha.cell w.heap.size (by omega) f1 f2 0, hWb]
      have := World.cell?_alloc_new (w := w) #[Value.pointer (some ⟨bx, 0, none⟩)] 80 0
      exact (World.cell?_alloc_lt _ _ _ (by simp)).trans this
    have HCC : Hid (∀ r c W, After n0 82 bx v xs Wb r c W → ∀ i, W.cell? ⟨w.heap.size + 1, i, none⟩ = (#[.int .i64 a0, .string a1, .slice oa2 l2.length cp2, .slice oa3 m3 cp3, .slice oa4 l4.length cp4, .slice oa5 l5.length cp5, .slice oa6 l6.length cp6, .slice oa7 l7.length cp7, .slice oa8 l8.length cp8, .int .i64 a9] : Array Value)[i]?) := fun r c W ha i => by
      rw [ha.cell (w.heap.size + 1) (by omega) f3 f4 i, hWb]
      have := World.cell?_alloc_new (w := w.alloc (.cells #[.pointer (some ⟨bx, 0, none⟩)] 80)) #[.int .i64 a0, .string a1, .slice oa2 l2.length cp2, .slice oa3 m3 cp3, .slice oa4 l4.length cp4, .slice oa5 l5.length cp5, .slice oa6 l6.length cp6, .slice oa7 l7.length cp7, .slice oa8 l8.length cp8, .int .i64 a9] 48 i
      rw [World.size_alloc] at this
      exact this
    have HFIN : Hid (∀ r c W, After n0 82 bx v xs Wb r c W → After n0 82 bx v xs w r c W) := fun r c W ha => After.from_ hbWb ha
    have HA0 : Hid (After n0 82 bx v xs Wb false 0 Wb) := After.quiet HSB.out (Below.refl _ _)
    clear hs hb hbWb f1 f2 f3 f4
    obtain ⟨K0, hK0⟩ : ∃ b, b = ((a0 == 12 && res a1) || (a0 == 14 && res (a1 ++ ⟨#[40, 41]⟩))) := ⟨_, rfl⟩
    rw [← hK0]
    have p0 : Wb.cell? ⟨w.heap.size, 0, none⟩ = some (.pointer (some ⟨bx, 0, none⟩)) := HCP.out _ _ _ HA0.out
    have c0 : Wb.cell? ⟨w.heap.size + 1, 0, none⟩ = some (.int .i64 a0) := HCC.out _ _ _ HA0.out 0
    have c1 : Wb.cell? ⟨w.heap.size + 1, 1, none⟩ = some (.string a1) := HCC.out _ _ _ HA0.out 1
    have c3 : Wb.cell? ⟨w.heap.size + 1, 3, none⟩ = some (.slice oa3 m3 cp3) := HCC.out _ _ _ HA0.out 3
    refine (callsIn_wide (n := 6)).1 ?_
    refine callsIn_of_wp_marks Try.func34 rfl trivial ?_ rfl
    simp only [Try.ntmps34, List.size_toArray, List.length_cons, List.length_nil, Nat.reduceAdd, Nat.reduceSub, Array.replicate_succ, Array.replicate_zero, List.push_toArray, List.append_toArray, List.nil_append, List.cons_append]
    by_cases k12 : a0 = 12
    · subst k12
      have hk : K0 = res a1 := by rw [hK0]; simp
      have HC : Hid (Calls Try.prog 40 #[.pointer (some ⟨bx, 0, none⟩), .string a1] Wb fun e w' => e = .returned (.tuple #[]) ∧ After n0 82 bx v xs Wb K0 1 w') := by rw [hk]; exact add_any n0 bx v xs a1 Wb HSB.out (by have := HLL.out; have := HPOS.out; omega)
      clear hk hK0
      gi_wp2
      rw [← hWb]
      refine ⟨trivial, ?_⟩
      refine (callsIn_wide.2 HC.out).mono ?_
      rintro e W1 ⟨rfl, ha1⟩
      have HA1 := Lib.hid ha1
      clear ha1 hWb p0 c0 c1 c3 HC
      have p1 : W1.cell? ⟨w.heap.size, 0, none⟩ = some (.pointer (some ⟨bx, 0, none⟩)) := HCP.out _ _ _ HA1.out
      have c3' : W1.cell? ⟨w.heap.size + 1, 3, none⟩ = some (.slice oa3 m3 cp3) := HCC.out _ _ _ HA1.out 3
      gi_wp2
      clear p1 c3'
      gi_loopw [29] (fun i wr => ∃ k : Nat, k ≤ m3 ∧ i = .int .i64 k ∧ Hid (After n0 82 bx v xs Wb (K0 || (l3.take k).any aR) (1 + k) wr)) (fun i _ => m3 - (intOf i).toNat)
      case atStart => exact ⟨0, Nat.zero_le _, rfl, by show After _ _ _ _ _ _ _ _ _; rw [List.take_zero, List.any_nil, Bool.or_false]; exact HA1.out⟩
      case round =>
        obtain ⟨k, hk, rfl, ha⟩ := hrel
        by_cases hlt : k < m3
        · have hkl : k < l3.length := by rw [← HM3.out]; exact hlt
          obtain rfl := hf3 (by omega)
          have hgb := hg3 (by omega)
          have hwf := HQ3.out l3[k] (List.getElem_mem hkl)
          have hat := HAT3.out k hkl
          have hsn : (l3.take (k + 1)).any aR = ((l3.take k).any aR || aR l3[k]) := by rw [take_snoc l3 k hkl, List.any_append]; simp
          have hbW : Below W0.heap.size W0 wr := ha.out.belowW hn0 HSB.out HB.out
          have pr := HCP.out _ _ _ ha.out
          have hwr : w.heap.size < wr.heap.size := by have := ha.out.size; omega
          obtain ⟨y, hy⟩ : ∃ y, y = l3[k] := ⟨_, rfl⟩
          rw [← hy] at hwf hat hsn
          clear hy
          cases hwf with
          | assign ya0 ya1 ya2 yl2 ya3 yl3 ya4 ya5 yl5 yh2 yq2 yh3 yq3 yh5 yq5 =>
          obtain ⟨yo2, yc2, rfl⟩ := yh2.form
          obtain ⟨yo3, yc3, rfl⟩ := yh3.form
          obtain ⟨yo5, yc5, rfl⟩ := yh5.form
          have har : aR (.mk [.string ya0, .string ya1, .slice yo2 yl2.length yc2, .slice yo3 yl3.length yc3, .bool ya4, .slice yo5 yl5.length yc5] [yl2, yl3, yl5]) = res ya0 := rfl
          rw [har] at hsn
          have d0 : wr.cell? ⟨bb3, of3 + k * 6 + 0, none⟩ = some (.string ya0) := (hbW.cell (p := ⟨bb3, of3 + k * 6 + 0, none⟩) hgb).trans (hat 0 (by decide))
          have d1 : wr.cell? ⟨bb3, of3 + k * 6 + 1, none⟩ = some (.string ya1) := (hbW.cell (p := ⟨bb3, of3 + k * 6 + 1, none⟩) hgb).trans (hat 1 (by decide))
          have d2 : wr.cell? ⟨bb3, of3 + k * 6 + 2, none⟩ = some (.slice yo2 yl2.length yc2) := (hbW.cell (p := ⟨bb3, of3 + k * 6 + 2, none⟩) hgb).trans (hat 2 (by decide))
          have d3 : wr.cell? ⟨bb3, of3 + k * 6 + 3, none⟩ = some (.slice yo3 yl3.length yc3) := (hbW.cell (p := ⟨bb3, of3 + k * 6 + 3, none⟩) hgb).trans (hat 3 (by decide))
          have d4 : wr.cell? ⟨bb3, of3 + k * 6 + 4, none⟩ = some (.bool ya4) := (hbW.cell (p := ⟨bb3, of3 + k * 6 + 4, none⟩) hgb).trans (hat 4 (by decide))
          have d5 : wr.cell? ⟨bb3, of3 + k * 6 + 5, none⟩ = some (.slice yo5 yl5.length yc5) := (hbW.cell (p := ⟨bb3, of3 + k * 6 + 5, none⟩) hgb).trans (hat 5 (by decide))
          simp only [Nat.add_zero] at d0
          obtain ⟨V, hV⟩ : ∃ V, V = wr.alloc (.cells #[.string ya0, .string ya1, .slice yo2 yl2.length yc2, .slice yo3 yl3.length yc3, .bool ya4, .slice yo5 yl5.length yc5] 87) := ⟨_, rfl⟩
          have hbV : Below wr.heap.size wr V := hV ▸ (Below.refl _ _).alloc (Nat.le_refl _) _
          obtain ⟨v1, xs1, s1, n1, st1⟩ := (ha.out.more hbV).and
          have HC := Lib.hid (add_any n0 bx v1 xs1 ya0 V s1 (by have := HLL.out; have := HL3.out; omega))
          have ST := Lib.hid st1
          have HSN := Lib.hid hsn
          clear hat hsn hbW hbV s1 n1 st1 yh2 yh3 yh5 yq2 yq3 yq5 har ha
          gi_wp2
          rw [← hV]
          refine ⟨trivial, ?_⟩
          refine (callsIn_wide.2 HC.out).mono ?_
          rintro e W3 ⟨rfl, ha3⟩
          have HF : Hid (After n0 82 bx v xs Wb (K0 || (l3.take (k + 1)).any aR) (1 + (k + 1)) W3) := by
            show After _ _ _ _ _ _ _ _ _
            rw [HSN.out, ← Bool.or_assoc]
            exact ST.out _ _ _ ha3
          clear ha3 hV
          gi_wp2
          go_roundw
          case rel => exact ⟨k + 1, by omega, by go_num, HF.out⟩
          case measure => (first | omega | (simp [intOf] <;> omega))
        · obtain rfl : m3 = k := by omega
          have HAk : Hid (After n0 82 bx v xs Wb (K0 || l3.any aR) (1 + m3) wr) := by
            have := ha.out
            rw [List.take_of_length_le (by rw [HM3.out]; exact Nat.le_refl _)] at this
            exact this
          have HBW : Hid (Below W0.heap.size W0 wr) := HAk.out.belowW hn0 HSB.out HB.out
          have hwz : w.heap.size + 1 + 1 ≤ wr.heap.size := hWs ▸ HAk.out.size
          have HCD : Hid (∀ i, wr.cell? ⟨w.heap.size + 1, i, none⟩ = (#[.int .i64 12, .string a1, .slice oa2 l2.length cp2, .slice oa3 m3 cp3, .slice oa4 l4.length cp4, .slice oa5 l5.length cp5, .slice oa6 l6.length cp6, .slice oa7 l7.length cp7, .slice oa8 l8.length cp8, .int .i64 a9] : Array Value)[i]?) := HCC.out _ _ _ HAk.out
          have d0 : wr.cell? ⟨w.heap.size + 1, 0, none⟩ = some (.int .i64 12) := HCD.out 0
          have d1 : wr.cell? ⟨w.heap.size + 1, 1, none⟩ = some (.string a1) := HCD.out 1
          have d2 : wr.cell? ⟨w.heap.size + 1, 2, none⟩ = some (.slice oa2 l2.length cp2) := HCD.out 2
          have d3 : wr.cell? ⟨w.heap.size + 1, 3, none⟩ = some (.slice oa3 m3 cp3) := HCD.out 3
          have d4 : wr.cell? ⟨w.heap.size + 1, 4, none⟩ = some (.slice oa4 l4.length cp4) := HCD.out 4
          have d5 : wr.cell? ⟨w.heap.size + 1, 5, none⟩ = some (.slice oa5 l5.length cp5) := HCD.out 5
          have d6 : wr.cell? ⟨w.heap.size + 1, 6, none⟩ = some (.slice oa6 l6.length cp6) := HCD.out 6
          have d7 : wr.cell? ⟨w.heap.size + 1, 7, none⟩ = some (.slice oa7 l7.length cp7) := HCD.out 7
          have d8 : wr.cell? ⟨w.heap.size + 1, 8, none⟩ = some (.slice oa8 l8.length cp8) := HCD.out 8
          have d9 : wr.cell? ⟨w.heap.size + 1, 9, none⟩ = some (.int .i64 a9) := HCD.out 9
          clear ha
          gi_wp2
          refine ⟨trivial, ?_⟩
          refine (ownc_any _ _ _ ⟨_, _, _, _, _, _, _, _, _, _, rfl⟩).mono ?_
          rintro e w3 ⟨rfl, rfl⟩
          obtain ⟨V, hV⟩ : ∃ V, V = wr.alloc (.cells #[.int .i64 12, .string a1, .slice oa2 l2.length cp2, .slice oa3 m3 cp3, .slice oa4 l4.length cp4, .slice oa5 l5.length cp5, .slice oa6 l6.length cp6, .slice oa7 l7.length cp7, .slice oa8 l8.length cp8, .int .i64 a9] 48) := ⟨_, rfl⟩
          have hbV : Below wr.heap.size wr V := hV ▸ (Below.refl _ _).alloc (Nat.le_refl _) _
          have hVz : V.heap.size = wr.heap.size + 1 := by rw [hV]; simp
          have hVc : ∀ i, V.cell? ⟨wr.heap.size, i, none⟩ = (#[.int .i64 12, .string a1, .slice oa2 l2.length cp2, .slice oa3 m3 cp3, .slice oa4 l4.length cp4, .slice oa5 l5.length cp5, .slice oa6 l6.length cp6, .slice oa7 l7.length cp7, .slice oa8 l8.length cp8, .int .i64 a9] : Array Value)[i]? := fun i => by rw [hV, World.cell?_alloc_new]
          have HAV : Hid (After n0 82 bx v xs Wb (K0 || l3.any aR) (1 + m3) V) := HAk.out.more hbV
          have HBV : Hid (Below W0.heap.size W0 V) := HBW.out.trans (hbV.mono HBW.out.size)
          rw [← hV]
          clear hV d0 d1 d2 d3 d4 d5 d6 d7 d8 d9
          have hVb : n0 ≤ V.heap.size := by omega
          have hHS := HSTOP.out 5 wr.heap.size V HBV.out hVb (fun i hi => by
            rw [hVc i]
            simp only [List.getElem?_toArray]
            exact List.getElem?_eq_getElem hi) (by omega)
          clear hVc
          have hBV : Wb.heap.size ≤ V.heap.size := HAV.out.size
          gi_wp2
          refine wpIn_rangeFunc_ownH rfl (by decide) (gf := 50) (lb := #[.pointer (some ⟨wr.heap.size, 0, none⟩)]) rfl trivial (enters_of Try.func50 (by kernel_rfl) rfl)
            hHS KT.trans (fun W l o o' h1 h2 h3 _ => KT.putObj W l o o' (by omega) h2 h3) (Below.refl _ _) (fun _ => rfl)
            (fun pre W => After n0 82 bx v xs Wb ((K0 || l3.any aR) || (pre.map (·.1)).any pR) (1 + m3 + pre.length) W)
            (fun _ _ _ => False)
            (after_own n0 V.heap.size bx v xs Wb hBV (fun pre : List (PartA W0 M) => (K0 || l3.any aR) || (pre.map (·.1)).any pR) (fun pre : List (PartA W0 M) => 1 + m3 + pre.length))
            (fun _ _ _ _ _ hs _ _ => hs)
            (by rw [List.map_nil, List.any_nil, Bool.or_false]; exact HAV.out)
            (fun x a' W => ∃ Bx, W.heap[Bx]? = some (.cells x.1.c.toArray 92 (0, 0)) ∧ a' = { tmps := #[.pointer (some ⟨bx, 0, none⟩), .agg #[.int .i64 12, .string a1, .slice oa2 l2.length cp2, .slice oa3 m3 cp3, .slice oa4 l4.length cp4, .slice oa5 l5.length cp5, .slice oa6 l6.length cp6, .slice oa7 l7.length cp7, .slice oa8 l8.length cp8, .int .i64 a9], .pointer (some ⟨w.heap.size, 0, none⟩), .pointer (some ⟨w.heap.size + 1, 0, none⟩), undef, u5, .pointer (some ⟨Bx, 0, none⟩), undef, undef, undef, undef, .pointer (some ⟨w.heap.size + 1, 0, none⟩), .int .i64 12, .bool true, .bool true, .pointer (some ⟨bx, 0, none⟩), .pointer (some ⟨w.heap.size + 1, 1, none⟩), .string a1, .tuple #[], undef, undef, undef, undef, undef, undef, undef, .pointer (some ⟨w.heap.size + 1, 3, none⟩), .slice oa3 m3 cp3, .int .i64 m3, .int .i64 m3, .bool false, u31, u32, u33, u34, u35, u36, u37, .agg #[.int .i64 12, .string a1, .slice oa2 l2.length cp2, .slice oa3 m3 cp3, .slice oa4 l4.length cp4, .slice oa5 l5.length cp5, .slice oa6 l6.length cp6, .slice oa7 l7.length cp7, .slice oa8 l8.length cp8, .int .i64 a9], .func (.func 50) #[] #[.pointer (some ⟨wr.heap.size, 0, none⟩)], .agg x.1.c.toArray, undef, undef, undef, undef, undef, undef, undef, undef, undef, undef, undef, undef, undef, undef, undef, undef, undef, undef, undef, undef, undef, undef, undef, undef, undef, undef, undef, undef, undef, undef, undef, undef, undef, undef], defers := [] })
            (fun x a' _ X Y row hs hg hr => by
              obtain ⟨Bx, h1, h2⟩ := hs
              refine ⟨Bx, (hg.block Bx (Array.getElem?_eq_some_iff.1 h1).1 (fun e => ?_)).trans h1, h2⟩
              obtain ⟨_, o, ho, hc⟩ := hr Bx e.symm
              rw [h1] at ho
              cases ho
              cases hc)
            ?asg ?bdy ?dne ?stp
          case asg =>
            rintro l pre ⟨x, hx1, hx2⟩ W K hI hK
            cases hx1 with
            | part za0 za1 za2 za3 za4 za5 zl5 za6 zl6 za7 zl7 za8 zl8 za9 zh5 zq5 zh6 zq6 zh7 zq7 zh8 zq8 =>
              obtain ⟨zo5, zc5, rfl⟩ := zh5.form
              obtain ⟨zo6, zc6, rfl⟩ := zh6.form
              obtain ⟨zo7, zc7, rfl⟩ := zh7.form
              obtain ⟨zo8, zc8, rfl⟩ := zh8.form
              have hz : n0 ≤ W.heap.size := by have := hI.size; omega
              have HI := Lib.hid hI
              clear hI
              dsimp only [Nd.c] at hK ⊢
              gi_wp2
              exact hK _ _ ((KeepsOthers.alloc _ _).from _) (KT.quiet hz ((Below.refl _ _).alloc (Nat.le_refl _) _)) (HI.out.more ((Below.refl _ _).alloc (Nat.le_refl _) _)) ⟨W.heap.size, World.alloc_heap_new _ _, rfl⟩
          case bdy =>
            rintro l pre ⟨x, hx1, hx2⟩ a' W hl ⟨r, hr⟩ hI ⟨Bx, hBx, rfl⟩ hlt
            have hz : n0 ≤ W.heap.size := by have := hI.size; omega
            have HI : Hid (After n0 82 bx v xs Wb ((K0 || l3.any aR) || (pre.map (·.1)).any pR) (1 + m3 + pre.length) W) := hI
            have hsn : ((K0 || l3.any aR) || ((pre ++ [(⟨x, hx1, hx2⟩ : PartA W0 M)]).map (·.1)).any pR) = (((K0 || l3.any aR) || (pre.map (·.1)).any pR) || pR x) := by
              rw [List.map_append, List.any_append]
              simp [Bool.or_assoc]
            have hnn : 1 + m3 + (pre ++ [(⟨x, hx1, hx2⟩ : PartA W0 M)]).length = 1 + m3 + pre.length + 1 := by simp; omega
            have HPL : Hid (pre.length < OP.length) := hlt
            clear hI hlt
            cases hx1 with
            | part za0 za1 za2 za3 za4 za5 zl5 za6 zl6 za7 zl7 za8 zl8 za9 zh5 zq5 zh6 zq6 zh7 zq7 zh8 zq8 =>
              obtain ⟨zo5, zc5, rfl⟩ := zh5.form
              obtain ⟨zo6, zc6, rfl⟩ := zh6.form
              obtain ⟨zo7, zc7, rfl⟩ := zh7.form
              obtain ⟨zo8, zc8, rfl⟩ := zh8.form
              have hpr : pR (.mk [.int .i64 za0, .string za1, .string za2, .string za3, .bool za4, .slice zo5 zl5.length zc5, .slice zo6 zl6.length zc6, .slice zo7 zl7.length zc7, .slice zo8 zl8.length zc8, .int .i64 za9] [zl5, zl6, zl7, zl8]) = ((za0 == 2) && (nameF za2 && res za2)) := rfl
              rw [hpr] at hsn
              have d0 : W.cell? ⟨Bx, 0, none⟩ = some (.int .i64 za0) := by simp [World.cell?, hBx, Nd.c]
              have d2 : W.cell? ⟨Bx, 2, none⟩ = some (.string za2) := by simp [World.cell?, hBx, Nd.c]
              have hBl : Bx < W.heap.size := (Array.getElem?_eq_some_iff.1 hBx).1
              have HN : Hid (∀ V : World, Calls Try.prog 42 #[.string za2] V fun e w' => e = .returned (.bool (nameF za2)) ∧ Below V.heap.size V w') := fun V => oname_all za2 V
              obtain ⟨n1, hn1⟩ : ∃ s, s = nameF za2 := ⟨_, rfl⟩
              rw [← hn1] at HN hsn
              have HSN := Lib.hid hsn
              have HNN := Lib.hid hnn
              clear hBx hr hpr hsn hnn hn1
              by_cases k2 : za0 = 2
              · subst k2
                cases n1
                · gi_wp2
                  refine ⟨trivial, ?_⟩
                  refine (CallsIn.inRound l (callsIn_wide.2 (HN.out _))).mono ?_
                  rintro e W3 ⟨rfl, hb3⟩
                  have HI3 := Lib.hid (HI.out.more hb3)
                  have HB3 := Lib.hid hb3
                  clear hb3
                  gi_wp2
                  refine ⟨(keepsO HB3.out).from _, KT.quiet hz HB3.out, ?_⟩
                  show After _ _ _ _ _ _ _ _ _
                  rw [HSN.out, HNN.out]
                  simp only [Bool.false_and, Bool.and_false, Bool.or_false]
                  exact HI3.out.le (Nat.le_succ _)
                · gi_wp2
                  refine ⟨trivial, ?_⟩
                  refine (CallsIn.inRound l (callsIn_wide.2 (HN.out _))).mono ?_
                  rintro e W3 ⟨rfl, hb3⟩
                  have hI3 := HI.out.more hb3
                  have p3 := HCP.out _ _ _ hI3
                  have d23 : W3.cell? ⟨Bx, 2, none⟩ = some (.string za2) := (hb3.cell (p := ⟨Bx, 2, none⟩) hBl).trans d2
                  obtain ⟨v1, xs1, s1, n1, st1⟩ := hI3.and
                  have HC := Lib.hid (add_any n0 bx v1 xs1 za2 W3 s1 (by have h1 := HLL.out; have h2 := HL3.out; have h3 := HPL.out; have h4 := HOL.out; omega))
                  have ST := Lib.hid st1
                  have S1 := Lib.hid s1
                  have HB3 := Lib.hid hb3
                  clear s1 n1 st1 hI3 hb3 d0 d2
                  gi_wp2
                  refine ⟨trivial, ?_⟩
                  refine (CallsIn.inRound l (callsIn_wide.2 HC.out)).mono ?_
                  rintro e W4 ⟨rfl, ha4⟩
                  have HA4 := Lib.hid ha4
                  clear ha4
                  gi_wp2
                  have hk4 := After.kt HA4.out S1.out
                  refine ⟨((keepsO HB3.out).trans hk4.2).from _, (KT.quiet hz HB3.out).trans hk4.1, ?_⟩
                  show After _ _ _ _ _ _ _ _ _
                  rw [HSN.out, HNN.out]
                  exact ST.out _ _ _ HA4.out
              · have e2 : (za0 == 2) = false := by simpa using k2
                gi_wp2
                refine ⟨trivial, ?_⟩
                gi_wp2
                refine ⟨KeepsFrom.refl _ _, KT.refl _ _ _, ?_⟩
                show After _ _ _ _ _ _ _ _ _
                rw [HSN.out, HNN.out, e2, Bool.false_and, Bool.or_false]
                exact HI.out.le (Nat.le_succ _)
          case dne =>
            rintro D zs W hD hS hI hK
            have hzl : zs.length = OP.length := by rw [← hS, List.length_map]
            have hI' : After n0 82 bx v xs Wb ((K0 || l3.any aR) || (zs.map (·.1)).any pR) (1 + m3 + zs.length) W := hI
            rw [hS, hzl] at hI'
            obtain ⟨R9, hR9⟩ : ∃ b, b = ((K0 || l3.any aR) || OP.any pR) := ⟨_, rfl⟩
            obtain ⟨C9, hC9⟩ : ∃ b, b = 1 + m3 + OP.length := ⟨_, rfl⟩
            rw [← hR9, ← hC9] at hI'
            have HR9 := Lib.hid hR9
            have hC9M : C9 ≤ 1 + 2 * M := by have h1 := HL3.out; have h2 := HOL.out; omega
            have hBW : Below W0.heap.size W0 W := hI'.belowW hn0 HSB.out HB.out
            have hwz9 : w.heap.size + 1 + 1 ≤ W.heap.size := hWs ▸ hI'.size
            have HCD9 : Hid (∀ i, W.cell? ⟨w.heap.size + 1, i, none⟩ = (#[.int .i64 12, .string a1, .slice oa2 l2.length cp2, .slice oa3 m3 cp3, .slice oa4 l4.length cp4, .slice oa5 l5.length cp5, .slice oa6 l6.length cp6, .slice oa7 l7.length cp7, .slice oa8 l8.length cp8, .int .i64 a9] : Array Value)[i]?) := HCC.out _ _ _ hI'
            obtain ⟨v9, xs9, s9, n9, st9⟩ := hI'.and
            have hsum := HSUM.out W hBW
            have HBW9 := Lib.hid hBW
            have ST9 := Lib.hid st9
            have S9 := Lib.hid s9
            have d0 : W.cell? ⟨w.heap.size + 1, 0, none⟩ = some (.int .i64 12) := HCD9.out 0
            have d1 : W.cell? ⟨w.heap.size + 1, 1, none⟩ = some (.string a1) := HCD9.out 1
            have d2 : W.cell? ⟨w.heap.size + 1, 2, none⟩ = some (.slice oa2 l2.length cp2) := HCD9.out 2
            have d3 : W.cell? ⟨w.heap.size + 1, 3, none⟩ = some (.slice oa3 m3 cp3) := HCD9.out 3
            have d4 : W.cell? ⟨w.heap.size + 1, 4, none⟩ = some (.slice oa4 l4.length cp4) := HCD9.out 4
            have d5 : W.cell? ⟨w.heap.size + 1, 5, none⟩ = some (.slice oa5 l5.length cp5) := HCD9.out 5
            have d6 : W.cell? ⟨w.heap.size + 1, 6, none⟩ = some (.slice oa6 l6.length cp6) := HCD9.out 6
            have d7 : W.cell? ⟨w.heap.size + 1, 7, none⟩ = some (.slice oa7 l7.length cp7) := HCD9.out 7
            have d8 : W.cell? ⟨w.heap.size + 1, 8, none⟩ = some (.slice oa8 l8.length cp8) := HCD9.out 8
            have d9 : W.cell? ⟨w.heap.size + 1, 9, none⟩ = some (.int .i64 a9) := HCD9.out 9
            have HK := Lib.hid hK
            clear hI hI' hS hzl hR9 hC9 hBW s9 st9 hK
            gi_wp2
            refine ⟨trivial, ?_⟩
            refine (callsIn_wide.2 hsum).mono ?_
            rintro e W5 ⟨v5, rfl, ho5, hb5⟩
            obtain ⟨g5, ao5, cap5, rfl, hg51, hg52, hg53, hcl5⟩ := ho5.block (fun y hy => (one_sum (HOSW.out y hy)).1) hb5.size
            have TOT : Hid (∀ r c W', After n0 82 bx v9 xs9 W5 r c W' → After n0 82 bx v xs Wb (R9 || r) (C9 + c) W') := fun r c W' h => ST9.out r c W' (After.from_ hb5 h)
            have S5 : Hid (SetAt n0 82 W5 bx v9 xs9) := S9.out.below hb5
            have HB5 := Lib.hid hb5
            have HBW5 : Hid (Below W0.heap.size W0 W5) := HBW9.out.trans (hb5.mono HBW9.out.size)
            obtain ⟨fg1, fg2⟩ := S9.out.far g5 hg51
            have hw5 : w.heap.size + 1 + 1 ≤ W5.heap.size := Nat.le_trans hwz9 hb5.size
            have HCL := Lib.hid hcl5
            obtain ⟨ms, hms⟩ : ∃ m, m = OS.length := ⟨_, rfl⟩
            have hmsM : ms ≤ 2 * M := by have h1 := HOSL.out; have h2 := length_le OS; omega
            have hML := HML.out
            have hmsl : ms ≤ 2097152 := by omega
            rw [← hms] at hg52 hg53 ⊢
            have HMS := Lib.hid hms
            clear ho5 hb5 hcl5 hms hsum d0 d1 d2 d3 d4 d5 d6 d7 d8 d9 hML
            gi_wp2
            gi_loopw [56] (fun i wr => ∃ k : Nat, k ≤ ms ∧ i = .int .i64 k ∧ Hid (After n0 82 bx v9 xs9 W5 ((OS.take k).any sr) (Wl (OS.take k)) wr)) (fun i _ => ms - (intOf i).toNat)
            case atStart => exact ⟨0, Nat.zero_le _, rfl, After.quiet S5.out (Below.refl _ _)⟩
            case round =>
              obtain ⟨k, hk, rfl, ha⟩ := hrel
              by_cases hlt : k < ms
              · have hkl : k < OS.length := by rw [← HMS.out]; exact hlt
                obtain ⟨rfl, hgl5⟩ := (fun h => ⟨(hg52 h).1, (hg52 h).2.1⟩ : 0 < ms → ao5 = some ⟨g5, 0, none⟩ ∧ g5 < W5.heap.size) (by omega)
                have hwf := HOSW.out OS[k] (List.getElem_mem hkl)
                have hwt := HOST.out OS[k] (List.getElem_mem hkl)
                have hcl := fun i hi => (ha.out.cell g5 hgl5 fg1 fg2 (k * 4 + i)).trans (HCL.out k hkl i hi)
                have htk : Wl (OS.take (k + 1)) = Wl (OS.take k) + wt OS[k] := by rw [take_snoc OS k hkl, Wl_append, Wl_cons, Wl_nil, Nat.add_zero]
                have htl := Wl_take OS (k + 1)
                have hsn : (OS.take (k + 1)).any sr = ((OS.take k).any sr || sr OS[k]) := by rw [take_snoc OS k hkl, List.any_append]; simp
                have hbW : Below W0.heap.size W0 wr := ha.out.belowW hn0 S5.out HBW5.out
                have hwr := ha.out.size
                obtain ⟨y, hy⟩ : ∃ y, y = OS[k] := ⟨_, rfl⟩
                rw [← hy] at hwf hwt hcl htk hsn
                clear hy
                obtain ⟨V, hV⟩ : ∃ V, V = wr.alloc (.cells y.c.toArray 100) := ⟨_, rfl⟩
                have hbV : Below wr.heap.size wr V := hV ▸ (Below.refl _ _).alloc (Nat.le_refl _) _
                have HAN := Lib.hid (anames_any W0 y V hwf (hbW.trans (hbV.mono hbW.size)) (by have := HML.out; omega))
                obtain ⟨sy, hsy⟩ : ∃ b, b = sr y := ⟨_, rfl⟩
                obtain ⟨wy, hwy⟩ : ∃ b, b = wt y := ⟨_, rfl⟩
                rw [← hsy] at HAN hsn
                rw [← hwy] at HAN htk hwt
                clear hsy hwy
                obtain ⟨v7, xs7, s7, n7, st7⟩ := ha.out.and
                have S7 := Lib.hid s7
                have ST7 := Lib.hid st7
                have HBV := Lib.hid hbV
                have HBw := Lib.hid hbW
                have HSN := Lib.hid hsn
                have HTK := Lib.hid htk
                cases hwf with
                | sum ua0 ua1 ua2 ua3 ul3 uh3 uq3 =>
                obtain ⟨uo3, uc3, rfl⟩ := uh3.form
                have d0 : wr.cell? ⟨g5, k * 4 + 0, none⟩ = some (.string ua0) := hcl 0 (by decide)
                have d1 : wr.cell? ⟨g5, k * 4 + 1, none⟩ = some (.string ua1) := hcl 1 (by decide)
                have d2 : wr.cell? ⟨g5, k * 4 + 2, none⟩ = some (.int .i64 ua2) := hcl 2 (by decide)
                have d3 : wr.cell? ⟨g5, k * 4 + 3, none⟩ = some (.slice uo3 ul3.length uc3) := hcl 3 (by decide)
                simp only [Nat.add_zero] at d0
                rw [show (Nd.mk [.string ua0, .string ua1, .int .i64 ua2, .slice uo3 ul3.length uc3] [ul3]).c.toArray = #[.string ua0, .string ua1, .int .i64 ua2, .slice uo3 ul3.length uc3] from rfl] at hV HAN
                clear hcl hsn htk hbW hbV s7 st7 uh3 uq3 ha
                gi_wp2
                rw [← hV]
                refine ⟨trivial, ?_⟩
                refine (callsIn_wide.2 HAN.out).mono ?_
                rintro e W7 ⟨nv, nxs, rfl, ho7, hr7, hn7, hb7⟩
                have hb7w : Below wr.heap.size wr W7 := HBV.out.trans (hb7.mono HBV.out.size)
                obtain ⟨g7, ao7, cap7, rfl, hg71, hg72, hg73, hcl7⟩ := strs_block ho7 hb7.size
                obtain ⟨fh1, fh2⟩ := S7.out.far g7 (Nat.le_trans HBV.out.size hg71)
                have S77 : Hid (SetAt n0 82 W7 bx v7 xs7) := S7.out.below hb7w
                have TOT7 : Hid (∀ r c W', After n0 82 bx v7 xs7 W7 r c W' → After n0 82 bx v9 xs9 W5 ((OS.take k).any sr || r) (Wl (OS.take k) + c) W') := fun r c W' h => ST7.out r c W' (After.from_ hb7w h)
                have hw7 : w.heap.size + 1 + 1 ≤ W7.heap.size := by have := hb7w.size; omega
                have HCL7 := Lib.hid hcl7
                have HR7 := Lib.hid hr7
                obtain ⟨mn, hmn⟩ : ∃ m, m = nxs.length := ⟨_, rfl⟩
                rw [← hmn] at hg72 hg73 hn7 ⊢
                have HMN := Lib.hid hmn
                have hmnl : mn ≤ 1048576 := by have := HML.out; omega
                clear ho7 hb7 hb7w hcl7 hmn hr7 d0 d1 d2 d3 hV
                gi_wp2
                gi_loopw [63] (fun i wr => ∃ j : Nat, j ≤ mn ∧ i = .int .i64 j ∧ Hid (After n0 82 bx v7 xs7 W7 ((nxs.take j).any res) j wr)) (fun i _ => mn - (intOf i).toNat)
                case atStart => exact ⟨0, Nat.zero_le _, rfl, After.quiet S77.out (Below.refl _ _)⟩
                case round =>
                  obtain ⟨j, hj, rfl, ha2⟩ := hrel
                  by_cases hlt2 : j < mn
                  · have hjl : j < nxs.length := by rw [← HMN.out]; exact hlt2
                    obtain ⟨rfl, hgl7⟩ := hg72 (by omega)
                    have q0 : wr.cell? ⟨g7, j, none⟩ = some (.string nxs[j]) := (ha2.out.cell g7 hgl7 fh1 fh2 j).trans (HCL7.out j hjl)
                    have hsn2 : (nxs.take (j + 1)).any res = ((nxs.take j).any res || res nxs[j]) := by rw [take_snoc nxs j hjl, List.any_append]; simp
                    have pq : wr.cell? ⟨w.heap.size, 0, none⟩ = some (.pointer (some ⟨bx, 0, none⟩)) := HCP.out _ _ _ (TOT.out _ _ _ (TOT7.out _ _ _ ha2.out))
                    obtain ⟨v8, xs8, s8, n8, st8⟩ := ha2.out.and
                    have HC := Lib.hid (add_any n0 bx v8 xs8 nxs[j] wr s8 (by have h1 := HLL.out; have h2 := HOSL.out; have h3 := HPOS.out; have h4 := Wl_take OS k; omega))
                    obtain ⟨s, hs⟩ : ∃ s, s = nxs[j] := ⟨_, rfl⟩
                    rw [← hs] at q0 hsn2 HC
                    have ST8 := Lib.hid st8
                    have HSN2 := Lib.hid hsn2
                    clear s8 n8 st8 hsn2 hs ha2
                    gi_wp2
                    refine ⟨trivial, ?_⟩
                    refine (callsIn_wide.2 HC.out).mono ?_
                    rintro e W8 ⟨rfl, ha8⟩
                    have HF : Hid (After n0 82 bx v7 xs7 W7 ((nxs.take (j + 1)).any res) (j + 1) W8) := by
                      show After _ _ _ _ _ _ _ _ _
                      rw [HSN2.out]
                      exact ST8.out _ _ _ ha8
                    clear ha8
                    gi_wp2
                    go_roundw
                    case rel => exact ⟨j + 1, by omega, by go_num, HF.out⟩
                    case measure => (first | omega | (simp [intOf] <;> omega))
                  · obtain rfl : mn = j := by omega
                    have HF : Hid (After n0 82 bx v9 xs9 W5 ((OS.take (k + 1)).any sr) (Wl (OS.take (k + 1))) wr) := by
                      have h1 := ha2.out
                      rw [List.take_of_length_le (by rw [HMN.out]; exact Nat.le_refl _), HR7.out] at h1
                      have h2 := TOT7.out _ _ _ (After.le h1 hn7)
                      show After _ _ _ _ _ _ _ _ _
                      rw [HSN.out, HTK.out]
                      exact h2
                    clear ha2
                    gi_wp2
                    go_roundw
                    case rel => exact ⟨k + 1, by omega, by go_num, HF.out⟩
                    case measure => (first | omega | (simp [intOf] <;> omega))
              · obtain rfl : ms = k := by omega
                have hE : After n0 82 bx v9 xs9 W5 (OS.any sr) (Wl OS) wr := by
                  have h1 := ha.out
                  rw [List.take_of_length_le (by rw [HMS.out]; exact Nat.le_refl _)] at h1
                  exact h1
                have hT := TOT.out _ _ _ hE
                have pq : wr.cell? ⟨w.heap.size, 0, none⟩ = some (.pointer (some ⟨bx, 0, none⟩)) := HCP.out _ _ _ hT
                have HCE : Hid (∀ i, wr.cell? ⟨w.heap.size + 1, i, none⟩ = (#[.int .i64 12, .string a1, .slice oa2 l2.length cp2, .slice oa3 m3 cp3, .slice oa4 l4.length cp4, .slice oa5 l5.length cp5, .slice oa6 l6.length cp6, .slice oa7 l7.length cp7, .slice oa8 l8.length cp8, .int .i64 a9] : Array Value)[i]?) := HCC.out _ _ _ hT
                have d0 : wr.cell? ⟨w.heap.size + 1, 0, none⟩ = some (.int .i64 12) := HCE.out 0
                have d1 : wr.cell? ⟨w.heap.size + 1, 1, none⟩ = some (.string a1) := HCE.out 1
                have d2 : wr.cell? ⟨w.heap.size + 1, 2, none⟩ = some (.slice oa2 l2.length cp2) := HCE.out 2
                have d3 : wr.cell? ⟨w.heap.size + 1, 3, none⟩ = some (.slice oa3 m3 cp3) := HCE.out 3
                have d4 : wr.cell? ⟨w.heap.size + 1, 4, none⟩ = some (.slice oa4 l4.length cp4) := HCE.out 4
                have d5 : wr.cell? ⟨w.heap.size + 1, 5, none⟩ = some (.slice oa5 l5.length cp5) := HCE.out 5
                have d6 : wr.cell? ⟨w.heap.size + 1, 6, none⟩ = some (.slice oa6 l6.length cp6) := HCE.out 6
                have d7 : wr.cell? ⟨w.heap.size + 1, 7, none⟩ = some (.slice oa7 l7.length cp7) := HCE.out 7
                have d8 : wr.cell? ⟨w.heap.size + 1, 8, none⟩ = some (.slice oa8 l8.length cp8) := HCE.out 8
                have d9 : wr.cell? ⟨w.heap.size + 1, 9, none⟩ = some (.int .i64 a9) := HCE.out 9
                have hbE : Below W0.heap.size W0 wr := hT.belowW hn0 HSB.out HB.out
                obtain ⟨vE, xsE, sE, nE, stE⟩ := hE.and
                have HC := Lib.hid (HNMD.out wr vE xsE hbE sE (by have h1 := HLL.out; have h2 := HOSL.out; have h3 := HPOS.out; omega))
                have STE := Lib.hid stE
                clear ha hE hT hbE sE nE stE
                gi_wp2
                refine ⟨trivial, ?_⟩
                refine (callsIn_wide.2 HC.out).mono ?_
                rintro e WE ⟨rfl, haE⟩
                have hF := STE.out _ _ _ haE
                have hKE := ((After.kt (After.from_ HB5.out hF) S9.out).2.same D _ HK.out rfl)
                have hW : After n0 82 bx v xs w ((((K0 || l3.any aR) || OP.any pR) || OS.any sr) || NM) (6 * M) WE := by
                  have h1 := HFIN.out _ _ _ (TOT.out _ _ _ hF)
                  rw [← Bool.or_assoc, HR9.out] at h1
                  exact After.le h1 (by have h2 := HOSL.out; have h3 := HPOS.out; omega)
                have hW2 := (after_own n0 w.heap.size bx v xs w (Nat.le_refl _) (fun _ : Unit => ((((K0 || l3.any aR) || OP.any pR) || OS.any sr) || NM)) (fun _ : Unit => 6 * M)).putObj (s := ()) (.deferred none) hW (by omega) hKE rfl
                have HW2 := Lib.hid hW2
                have HKE := Lib.hid hKE
                clear haE hF hKE hW hW2
                gi_wp2
                refine ⟨by simp, .inl ⟨_, _, rfl, run_takeDeferred HKE.out, ?_⟩⟩
                exact ⟨_, results_none rfl _ _ _, rfl, HW2.out⟩
          case stp =>
            rintro D c pre W _ _ h _
            exact h.elim
    · by_cases k14 : a0 = 14
      · subst k14
        have hk : K0 = res (a1 ++ ⟨#[40, 41]⟩) := by rw [hK0]; simp
        have HC : Hid (Calls Try.prog 40 #[.pointer (some ⟨bx, 0, none⟩), .string (a1 ++ ⟨#[40, 41]⟩)] Wb fun e w' => e = .returned (.tuple #[]) ∧ After n0 82 bx v xs Wb K0 1 w') := by rw [hk]; exact add_any n0 bx v xs (a1 ++ ⟨#[40, 41]⟩) Wb HSB.out (by have := HLL.out; have := HPOS.out; omega)
        clear hk hK0 k12
        have hsz : ¬ 9223372036854775807 < a1.size + 2 := by have := HSZ.out; omega
        gi_wp2
        rw [← hWb]
        refine ⟨trivial, ?_⟩
        refine (callsIn_wide.2 HC.out).mono ?_
        rintro e W1 ⟨rfl, ha1⟩
        have HA1 := Lib.hid ha1
        clear ha1 hWb p0 c0 c1 c3 HC
        have p1 : W1.cell? ⟨w.heap.size, 0, none⟩ = some (.pointer (some ⟨bx, 0, none⟩)) := HCP.out _ _ _ HA1.out
        have c3' : W1.cell? ⟨w.heap.size + 1, 3, none⟩ = some (.slice oa3 m3 cp3) := HCC.out _ _ _ HA1.out 3
        gi_wp2
        clear p1 c3'
        gi_loopw [29] (fun i wr => ∃ k : Nat, k ≤ m3 ∧ i = .int .i64 k ∧ Hid (After n0 82 bx v xs Wb (K0 || (l3.take k).any aR) (1 + k) wr)) (fun i _ => m3 - (intOf i).toNat)
        case atStart => exact ⟨0, Nat.zero_le _, rfl, by show After _ _ _ _ _ _ _ _ _; rw [List.take_zero, List.any_nil, Bool.or_false]; exact HA1.out⟩
        case round =>
          obtain ⟨k, hk, rfl, ha⟩ := hrel
          by_cases hlt : k < m3
          · have hkl : k < l3.length := by rw [← HM3.out]; exact hlt
            obtain rfl := hf3 (by omega)
            have hgb := hg3 (by omega)
            have hwf := HQ3.out l3[k] (List.getElem_mem hkl)
            have hat := HAT3.out k hkl
            have hsn : (l3.take (k + 1)).any aR = ((l3.take k).any aR || aR l3[k]) := by rw [take_snoc l3 k hkl, List.any_append]; simp
            have hbW : Below W0.heap.size W0 wr := ha.out.belowW hn0 HSB.out HB.out
            have pr := HCP.out _ _ _ ha.out
            have hwr : w.heap.size < wr.heap.size := by have := ha.out.size; omega
            obtain ⟨y, hy⟩ : ∃ y, y = l3[k] := ⟨_, rfl⟩
            rw [← hy] at hwf hat hsn
            clear hy
            cases hwf with
            | assign ya0 ya1 ya2 yl2 ya3 yl3 ya4 ya5 yl5 yh2 yq2 yh3 yq3 yh5 yq5 =>
            obtain ⟨yo2, yc2, rfl⟩ := yh2.form
            obtain ⟨yo3, yc3, rfl⟩ := yh3.form
            obtain ⟨yo5, yc5, rfl⟩ := yh5.form
            have har : aR (.mk [.string ya0, .string ya1, .slice yo2 yl2.length yc2, .slice yo3 yl3.length yc3, .bool ya4, .slice yo5 yl5.length yc5] [yl2, yl3, yl5]) = res ya0 := rfl
            rw [har] at hsn
            have d0 : wr.cell? ⟨bb3, of3 + k * 6 + 0, none⟩ = some (.string ya0) := (hbW.cell (p := ⟨bb3, of3 + k * 6 + 0, none⟩) hgb).trans (hat 0 (by decide))
            have d1 : wr.cell? ⟨bb3, of3 + k * 6 + 1, none⟩ = some (.string ya1) := (hbW.cell (p := ⟨bb3, of3 + k * 6 + 1, none⟩) hgb).trans (hat 1 (by decide))
            have d2 : wr.cell? ⟨bb3, of3 + k * 6 + 2, none⟩ = some (.slice yo2 yl2.length yc2) := (hbW.cell (p := ⟨bb3, of3 + k * 6 + 2, none⟩) hgb).trans (hat 2 (by decide))
            have d3 : wr.cell? ⟨bb3, of3 + k * 6 + 3, none⟩ = some (.slice yo3 yl3.length yc3) := (hbW.cell (p := ⟨bb3, of3 + k * 6 + 3, none⟩) hgb).trans (hat 3 (by decide))
            have d4 : wr.cell? ⟨bb3, of3 + k * 6 + 4, none⟩ = some (.bool ya4) := (hbW.cell (p := ⟨bb3, of3 + k * 6 + 4, none⟩) hgb).trans (hat 4 (by decide))
            have d5 : wr.cell? ⟨bb3, of3 + k * 6 + 5, none⟩ = some (.slice yo5 yl5.length yc5) := (hbW.cell (p := ⟨bb3, of3 + k * 6 + 5, none⟩) hgb).trans (hat 5 (by decide))
            simp only [Nat.add_zero] at d0
            obtain ⟨V, hV⟩ : ∃ V, V = wr.alloc (.cells #[.string ya0, .string ya1, .slice yo2 yl2.length yc2, .slice yo3 yl3.length yc3, .bool ya4, .slice yo5 yl5.length yc5] 87) := ⟨_, rfl⟩
            have hbV : Below wr.heap.size wr V := hV ▸ (Below.refl _ _).alloc (Nat.le_refl _) _
            obtain ⟨v1, xs1, s1, n1, st1⟩ := (ha.out.more hbV).and
            have HC := Lib.hid (add_any n0 bx v1 xs1 ya0 V s1 (by have := HLL.out; have := HL3.out; omega))
            have ST := Lib.hid st1
            have HSN := Lib.hid hsn
            clear hat hsn hbW hbV s1 n1 st1 yh2 yh3 yh5 yq2 yq3 yq5 har ha
            gi_wp2
            rw [← hV]
            refine ⟨trivial, ?_⟩
            refine (callsIn_wide.2 HC.out).mono ?_
            rintro e W3 ⟨rfl, ha3⟩
            have HF : Hid (After n0 82 bx v xs Wb (K0 || (l3.take (k + 1)).any aR) (1 + (k + 1)) W3) := by
              show After _ _ _ _ _ _ _ _ _
              rw [HSN.out, ← Bool.or_assoc]
              exact ST.out _ _ _ ha3
            clear ha3 hV
            gi_wp2
            go_roundw
            case rel => exact ⟨k + 1, by omega, by go_num, HF.out⟩
            case measure => (first | omega | (simp [intOf] <;> omega))
          · obtain rfl : m3 = k := by omega
            have HAk : Hid (After n0 82 bx v xs Wb (K0 || l3.any aR) (1 + m3) wr) := by
              have := ha.out
              rw [List.take_of_length_le (by rw [HM3.out]; exact Nat.le_refl _)] at this
              exact this
            have HBW : Hid (Below W0.heap.size W0 wr) := HAk.out.belowW hn0 HSB.out HB.out
            have hwz : w.heap.size + 1 + 1 ≤ wr.heap.size := hWs ▸ HAk.out.size
            have HCD : Hid (∀ i, wr.cell? ⟨w.heap.size + 1, i, none⟩ = (#[.int .i64 14, .string a1, .slice oa2 l2.length cp2, .slice oa3 m3 cp3, .slice oa4 l4.length cp4, .slice oa5 l5.length cp5, .slice oa6 l6.length cp6, .slice oa7 l7.length cp7, .slice oa8 l8.length cp8, .int .i64 a9] : Array Value)[i]?) := HCC.out _ _ _ HAk.out
            have d0 : wr.cell? ⟨w.heap.size + 1, 0, none⟩ = some (.int .i64 14) := HCD.out 0
            have d1 : wr.cell? ⟨w.heap.size + 1, 1, none⟩ = some (.string a1) := HCD.out 1
            have d2 : wr.cell? ⟨w.heap.size + 1, 2, none⟩ = some (.slice oa2 l2.length cp2) := HCD.out 2
            have d3 : wr.cell? ⟨w.heap.size + 1, 3, none⟩ = some (.slice oa3 m3 cp3) := HCD.out 3
            have d4 : wr.cell? ⟨w.heap.size + 1, 4, none⟩ = some (.slice oa4 l4.length cp4) := HCD.out 4
            have d5 : wr.cell? ⟨w.heap.size + 1, 5, none⟩ = some (.slice oa5 l5.length cp5) := HCD.out 5
            have d6 : wr.cell? ⟨w.heap.size + 1, 6, none⟩ = some (.slice oa6 l6.length cp6) := HCD.out 6
            have d7 : wr.cell? ⟨w.heap.size + 1, 7, none⟩ = some (.slice oa7 l7.length cp7) := HCD.out 7
            have d8 : wr.cell? ⟨w.heap.size + 1, 8, none⟩ = some (.slice oa8 l8.length cp8) := HCD.out 8
            have d9 : wr.cell? ⟨w.heap.size + 1, 9, none⟩ = some (.int .i64 a9) := HCD.out 9
            clear ha
            gi_wp2
            refine ⟨trivial, ?_⟩
            refine (ownc_any _ _ _ ⟨_, _, _, _, _, _, _, _, _, _, rfl⟩).mono ?_
            rintro e w3 ⟨rfl, rfl⟩
            obtain ⟨V, hV⟩ : ∃ V, V = wr.alloc (.cells #[.int .i64 14, .string a1, .slice oa2 l2.length cp2, .slice oa3 m3 cp3, .slice oa4 l4.length cp4, .slice oa5 l5.length cp5, .slice oa6 l6.length cp6, .slice oa7 l7.length cp7, .slice oa8 l8.length cp8, .int .i64 a9] 48) := ⟨_, rfl⟩
            have hbV : Below wr.heap.size wr V := hV ▸ (Below.refl _ _).alloc (Nat.le_refl _) _
            have hVz : V.heap.size = wr.heap.size + 1 := by rw [hV]; simp
            have hVc : ∀ i, V.cell? ⟨wr.heap.size, i, none⟩ = (#[.int .i64 14, .string a1, .slice oa2 l2.length cp2, .slice oa3 m3 cp3, .slice oa4 l4.length cp4, .slice oa5 l5.length cp5, .slice oa6 l6.length cp6, .slice oa7 l7.length cp7, .slice oa8 l8.length cp8, .int .i64 a9] : Array Value)[i]? := fun i => by rw [hV, World.cell?_alloc_new]
            have HAV : Hid (After n0 82 bx v xs Wb (K0 || l3.any aR) (1 + m3) V) := HAk.out.more hbV
            have HBV : Hid (Below W0.heap.size W0 V) := HBW.out.trans (hbV.mono HBW.out.size)
            rw [← hV]
            clear hV d0 d1 d2 d3 d4 d5 d6 d7 d8 d9
            have hVb : n0 ≤ V.heap.size := by omega
            have hHS := HSTOP.out 5 wr.heap.size V HBV.out hVb (fun i hi => by
              rw [hVc i]
              simp only [List.getElem?_toArray]
              exact List.getElem?_eq_getElem hi) (by omega)
            clear hVc
            have hBV : Wb.heap.size ≤ V.heap.size := HAV.out.size
            gi_wp2
            refine wpIn_rangeFunc_ownH rfl (by decide) (gf := 50) (lb := #[.pointer (some ⟨wr.heap.size, 0, none⟩)]) rfl trivial (enters_of Try.func50 (by kernel_rfl) rfl)
              hHS KT.trans (fun W l o o' h1 h2 h3 _ => KT.putObj W l o o' (by omega) h2 h3) (Below.refl _ _) (fun _ => rfl)
              (fun pre W => After n0 82 bx v xs Wb ((K0 || l3.any aR) || (pre.map (·.1)).any pR) (1 + m3 + pre.length) W)
              (fun _ _ _ => False)
              (after_own n0 V.heap.size bx v xs Wb hBV (fun pre : List (PartA W0 M) => (K0 || l3.any aR) || (pre.map (·.1)).any pR) (fun pre : List (PartA W0 M) => 1 + m3 + pre.length))
              (fun _ _ _ _ _ hs _ _ => hs)
              (by rw [List.map_nil, List.any_nil, Bool.or_false]; exact HAV.out)
              (fun x a' W => ∃ Bx, W.heap[Bx]? = some (.cells x.1.c.toArray 92 (0, 0)) ∧ a' = { tmps := #[.pointer (some ⟨bx, 0, none⟩), .agg #[.int .i64 14, .string a1, .slice oa2 l2.length cp2, .slice oa3 m3 cp3, .slice oa4 l4.length cp4, .slice oa5 l5.length cp5, .slice oa6 l6.length cp6, .slice oa7 l7.length cp7, .slice oa8 l8.length cp8, .int .i64 a9], .pointer (some ⟨w.heap.size, 0, none⟩), .pointer (some ⟨w.heap.size + 1, 0, none⟩), undef, u5, .pointer (some ⟨Bx, 0, none⟩), undef, undef, undef, undef, .pointer (some ⟨w.heap.size + 1, 0, none⟩), .int .i64 14, .bool false, .bool false, undef, undef, undef, undef, .bool true, .bool true, .pointer (some ⟨bx, 0, none⟩), .pointer (some ⟨w.heap.size + 1, 1, none⟩), .string a1, .string (a1 ++ ⟨#[40, 41]⟩), .tuple #[], .pointer (some ⟨w.heap.size + 1, 3, none⟩), .slice oa3 m3 cp3, .int .i64 m3, .int .i64 m3, .bool false, u31, u32, u33, u34, u35, u36, u37, .agg #[.int .i64 14, .string a1, .slice oa2 l2.length cp2, .slice oa3 m3 cp3, .slice oa4 l4.length cp4, .slice oa5 l5.length cp5, .slice oa6 l6.length cp6, .slice oa7 l7.length cp7, .slice oa8 l8.length cp8, .int .i64 a9], .func (.func 50) #[] #[.pointer (some ⟨wr.heap.size, 0, none⟩)], .agg x.1.c.toArray, undef, undef, undef, undef, undef, undef, undef, undef, undef, undef, undef, undef, undef, undef, undef, undef, undef, undef, undef, undef, undef, undef, undef, undef, undef, undef, undef, undef, undef, undef, undef, undef, undef, undef], defers := [] })
              (fun x a' _ X Y row hs hg hr => by
                obtain ⟨Bx, h1, h2⟩ := hs
                refine ⟨Bx, (hg.block Bx (Array.getElem?_eq_some_iff.1 h1).1 (fun e => ?_)).trans h1, h2⟩
                obtain ⟨_, o, ho, hc⟩ := hr Bx e.symm
                rw [h1] at ho
                cases ho
                cases hc)
              ?asg ?bdy ?dne ?stp
            case asg =>
              rintro l pre ⟨x, hx1, hx2⟩ W K hI hK
              cases hx1 with
              | part za0 za1 za2 za3 za4 za5 zl5 za6 zl6 za7 zl7 za8 zl8 za9 zh5 zq5 zh6 zq6 zh7 zq7 zh8 zq8 =>
                obtain ⟨zo5, zc5, rfl⟩ := zh5.form
                obtain ⟨zo6, zc6, rfl⟩ := zh6.form
                obtain ⟨zo7, zc7, rfl⟩ := zh7.form
                obtain ⟨zo8, zc8, rfl⟩ := zh8.form
                have hz : n0 ≤ W.heap.size := by have := hI.size; omega
                have HI := Lib.hid hI
                clear hI
                dsimp only [Nd.c] at hK ⊢
                gi_wp2
                exact hK _ _ ((KeepsOthers.alloc _ _).from _) (KT.quiet hz ((Below.refl _ _).alloc (Nat.le_refl _) _)) (HI.out.more ((Below.refl _ _).alloc (Nat.le_refl _) _)) ⟨W.heap.size, World.alloc_heap_new _ _, rfl⟩
            case bdy =>
              rintro l pre ⟨x, hx1, hx2⟩ a' W hl ⟨r, hr⟩ hI ⟨Bx, hBx, rfl⟩ hlt
              have hz : n0 ≤ W.heap.size := by have := hI.size; omega
              have HI : Hid (After n0 82 bx v xs Wb ((K0 || l3.any aR) || (pre.map (·.1)).any pR) (1 + m3 + pre.length) W) := hI
              have hsn : ((K0 || l3.any aR) || ((pre ++ [(⟨x, hx1, hx2⟩ : PartA W0 M)]).map (·.1)).any pR) = (((K0 || l3.any aR) || (pre.map (·.1)).any pR) || pR x) := by
                rw [List.map_append, List.any_append]
                simp [Bool.or_assoc]
              have hnn : 1 + m3 + (pre ++ [(⟨x, hx1, hx2⟩ : PartA W0 M)]).length = 1 + m3 + pre.length + 1 := by simp; omega
              have HPL : Hid (pre.length < OP.length) := hlt
              clear hI hlt
              cases hx1 with
              | part za0 za1 za2 za3 za4 za5 zl5 za6 zl6 za7 zl7 za8 zl8 za9 zh5 zq5 zh6 zq6 zh7 zq7 zh8 zq8 =>
                obtain ⟨zo5, zc5, rfl⟩ := zh5.form
                obtain ⟨zo6, zc6, rfl⟩ := zh6.form
                obtain ⟨zo7, zc7, rfl⟩ := zh7.form
                obtain ⟨zo8, zc8, rfl⟩ := zh8.form
                have hpr : pR (.mk [.int .i64 za0, .string za1, .string za2, .string za3, .bool za4, .slice zo5 zl5.length zc5, .slice zo6 zl6.length zc6, .slice zo7 zl7.length zc7, .slice zo8 zl8.length zc8, .int .i64 za9] [zl5, zl6, zl7, zl8]) = ((za0 == 2) && (nameF za2 && res za2)) := rfl
                rw [hpr] at hsn
                have d0 : W.cell? ⟨Bx, 0, none⟩ = some (.int .i64 za0) := by simp [World.cell?, hBx, Nd.c]
                have d2 : W.cell? ⟨Bx, 2, none⟩ = some (.string za2) := by simp [World.cell?, hBx, Nd.c]
                have hBl : Bx < W.heap.size := (Array.getElem?_eq_some_iff.1 hBx).1
                have HN : Hid (∀ V : World, Calls Try.prog 42 #[.string za2] V fun e w' => e = .returned (.bool (nameF za2)) ∧ Below V.heap.size V w') := fun V => oname_all za2 V
                obtain ⟨n1, hn1⟩ : ∃ s, s = nameF za2 := ⟨_, rfl⟩
                rw [← hn1] at HN hsn
                have HSN := Lib.hid hsn
                have HNN := Lib.hid hnn
                clear hBx hr hpr hsn hnn hn1
                by_cases k2 : za0 = 2
                · subst k2
                  cases n1
                  · gi_wp2
                    refine ⟨trivial, ?_⟩
                    refine (CallsIn.inRound l (callsIn_wide.2 (HN.out _))).mono ?_
                    rintro e W3 ⟨rfl, hb3⟩
                    have HI3 := Lib.hid (HI.out.more hb3)
                    have HB3 := Lib.hid hb3
                    clear hb3
                    gi_wp2
                    refine ⟨(keepsO HB3.out).from _, KT.quiet hz HB3.out, ?_⟩
                    show After _ _ _ _ _ _ _ _ _
                    rw [HSN.out, HNN.out]
                    simp only [Bool.false_and, Bool.and_false, Bool.or_false]
                    exact HI3.out.le (Nat.le_succ _)
                  · gi_wp2
                    refine ⟨trivial, ?_⟩
                    refine (CallsIn.inRound l (callsIn_wide.2 (HN.out _))).mono ?_
                    rintro e W3 ⟨rfl, hb3⟩
                    have hI3 := HI.out.more hb3
                    have p3 := HCP.out _ _ _ hI3
                    have d23 : W3.cell? ⟨Bx, 2, none⟩ = some (.string za2) := (hb3.cell (p := ⟨Bx, 2, none⟩) hBl).trans d2
                    obtain ⟨v1, xs1, s1, n1, st1⟩ := hI3.and
                    have HC := Lib.hid (add_any n0 bx v1 xs1 za2 W3 s1 (by have h1 := HLL.out; have h2 := HL3.out; have h3 := HPL.out; have h4 := HOL.out; omega))
                    have ST := Lib.hid st1
                    have S1 := Lib.hid s1
                    have HB3 := Lib.hid hb3
                    clear s1 n1 st1 hI3 hb3 d0 d2
                    gi_wp2
                    refine ⟨trivial, ?_⟩
                    refine (CallsIn.inRound l (callsIn_wide.2 HC.out)).mono ?_
                    rintro e W4 ⟨rfl, ha4⟩
                    have HA4 := Lib.hid ha4
                    clear ha4
                    gi_wp2
                    have hk4 := After.kt HA4.out S1.out
                    refine ⟨((keepsO HB3.out).trans hk4.2).from _, (KT.quiet hz HB3.out).trans hk4.1, ?_⟩
                    show After _ _ _ _ _ _ _ _ _
                    rw [HSN.out, HNN.out]
                    exact ST.out _ _ _ HA4.out
                · have e2 : (za0 == 2) = false := by simpa using k2
                  gi_wp2
                  refine ⟨trivial, ?_⟩
                  gi_wp2
                  refine ⟨KeepsFrom.refl _ _, KT.refl _ _ _, ?_⟩
                  show After _ _ _ _ _ _ _ _ _
                  rw [HSN.out, HNN.out, e2, Bool.false_and, Bool.or_false]
                  exact HI.out.le (Nat.le_succ _)
            case dne =>
              rintro D zs W hD hS hI hK
              have hzl : zs.length = OP.length := by rw [← hS, List.length_map]
              have hI' : After n0 82 bx v xs Wb ((K0 || l3.any aR) || (zs.map (·.1)).any pR) (1 + m3 + zs.length) W := hI
              rw [hS, hzl] at hI'
              obtain ⟨R9, hR9⟩ : ∃ b, b = ((K0 || l3.any aR) || OP.any pR) := ⟨_, rfl⟩
              obtain ⟨C9, hC9⟩ : ∃ b, b = 1 + m3 + OP.length := ⟨_, rfl⟩
              rw [← hR9, ← hC9] at hI'
              have HR9 := Lib.hid hR9
              have hC9M : C9 ≤ 1 + 2 * M := by have h1 := HL3.out; have h2 := HOL.out; omega
              have hBW : Below W0.heap.size W0 W := hI'.belowW hn0 HSB.out HB.out
              have hwz9 : w.heap.size + 1 + 1 ≤ W.heap.size := hWs ▸ hI'.size
              have HCD9 : Hid (∀ i, W.cell? ⟨w.heap.size + 1, i, none⟩ = (#[.int .i64 14, .string a1, .slice oa2 l2.length cp2, .slice oa3 m3 cp3, .slice oa4 l4.length cp4, .slice oa5 l5.length cp5, .slice oa6 l6.length cp6, .slice oa7 l7.length cp7, .slice oa8 l8.length cp8, .int .i64 a9] : Array Value)[i]?) := HCC.out _ _ _ hI'
              obtain ⟨v9, xs9, s9, n9, st9⟩ := hI'.and
              have hsum := HSUM.out W hBW
              have HBW9 := Lib.hid hBW
              have ST9 := Lib.hid st9
              have S9 := Lib.hid s9
              have d0 : W.cell? ⟨w.heap.size + 1, 0, none⟩ = some (.int .i64 14) := HCD9.out 0
              have d1 : W.cell? ⟨w.heap.size + 1, 1, none⟩ = some (.string a1) := HCD9.out 1
              have d2 : W.cell? ⟨w.heap.size + 1, 2, none⟩ = some (.slice oa2 l2.length cp2) := HCD9.out 2
              have d3 : W.cell? ⟨w.heap.size + 1, 3, none⟩ = some (.slice oa3 m3 cp3) := HCD9.out 3
              have d4 : W.cell? ⟨w.heap.size + 1, 4, none⟩ = some (.slice oa4 l4.length cp4) := HCD9.out 4
              have d5 : W.cell? ⟨w.heap.size + 1, 5, none⟩ = some (.slice oa5 l5.length cp5) := HCD9.out 5
              have d6 : W.cell? ⟨w.heap.size + 1, 6, none⟩ = some (.slice oa6 l6.length cp6) := HCD9.out 6
              have d7 : W.cell? ⟨w.heap.size + 1, 7, none⟩ = some (.slice oa7 l7.length cp7) := HCD9.out 7
              have d8 : W.cell? ⟨w.heap.size + 1, 8, none⟩ = some (.slice oa8 l8.length cp8) := HCD9.out 8
              have d9 : W.cell? ⟨w.heap.size + 1, 9, none⟩ = some (.int .i64 a9) := HCD9.out 9
              have HK := Lib.hid hK
              clear hI hI' hS hzl hR9 hC9 hBW s9 st9 hK
              gi_wp2
              refine ⟨trivial, ?_⟩
              refine (callsIn_wide.2 hsum).mono ?_
              rintro e W5 ⟨v5, rfl, ho5, hb5⟩
              obtain ⟨g5, ao5, cap5, rfl, hg51, hg52, hg53, hcl5⟩ := ho5.block (fun y hy => (one_sum (HOSW.out y hy)).1) hb5.size
              have TOT : Hid (∀ r c W', After n0 82 bx v9 xs9 W5 r c W' → After n0 82 bx v xs Wb (R9 || r) (C9 + c) W') := fun r c W' h => ST9.out r c W' (After.from_ hb5 h)
              have S5 : Hid (SetAt n0 82 W5 bx v9 xs9) := S9.out.below hb5
              have HB5 := Lib.hid hb5
              have HBW5 : Hid (Below W0.heap.size W0 W5) := HBW9.out.trans (hb5.mono HBW9.out.size)
              obtain ⟨fg1, fg2⟩ := S9.out.far g5 hg51
              have hw5 : w.heap.size + 1 + 1 ≤ W5.heap.size := Nat.le_trans hwz9 hb5.size
              have HCL := Lib.hid hcl5
              obtain ⟨ms, hms⟩ : ∃ m, m = OS.length := ⟨_, rfl⟩
              have hmsM : ms ≤ 2 * M := by have h1 := HOSL.out; have h2 := length_le OS; omega
              have hML := HML.out
              have hmsl : ms ≤ 2097152 := by omega
              rw [← hms] at hg52 hg53 ⊢
              have HMS := Lib.hid hms
              clear ho5 hb5 hcl5 hms hsum d0 d1 d2 d3 d4 d5 d6 d7 d8 d9 hML
              gi_wp2
              gi_loopw [56] (fun i wr => ∃ k : Nat, k ≤ ms ∧ i = .int .i64 k ∧ Hid (After n0 82 bx v9 xs9 W5 ((OS.take k).any sr) (Wl (OS.take k)) wr)) (fun i _ => ms - (intOf i).toNat)
              case atStart => exact ⟨0, Nat.zero_le _, rfl, After.quiet S5.out (Below.refl _ _)⟩
              case round =>
                obtain ⟨k, hk, rfl, ha⟩ := hrel
                by_cases hlt : k < ms
                · have hkl : k < OS.length := by rw [← HMS.out]; exact hlt
                  obtain ⟨rfl, hgl5⟩ := (fun h => ⟨(hg52 h).1, (hg52 h).2.1⟩ : 0 < ms → ao5 = some ⟨g5, 0, none⟩ ∧ g5 < W5.heap.size) (by omega)
                  have hwf := HOSW.out OS[k] (List.getElem_mem hkl)
                  have hwt := HOST.out OS[k] (List.getElem_mem hkl)
                  have hcl := fun i hi => (ha.out.cell g5 hgl5 fg1 fg2 (k * 4 + i)).trans (HCL.out k hkl i hi)
                  have htk : Wl (OS.take (k + 1)) = Wl (OS.take k) + wt OS[k] := by rw [take_snoc OS k hkl, Wl_append, Wl_cons, Wl_nil, Nat.add_zero]
                  have htl := Wl_take OS (k + 1)
                  have hsn : (OS.take (k + 1)).any sr = ((OS.take k).any sr || sr OS[k]) := by rw [take_snoc OS k hkl, List.any_append]; simp
                  have hbW : Below W0.heap.size W0 wr := ha.out.belowW hn0 S5.out HBW5.out
                  have hwr := ha.out.size
                  obtain ⟨y, hy⟩ : ∃ y, y = OS[k] := ⟨_, rfl⟩
                  rw [← hy] at hwf hwt hcl htk hsn
                  clear hy
                  obtain ⟨V, hV⟩ : ∃ V, V = wr.alloc (.cells y.c.toArray 100) := ⟨_, rfl⟩
                  have hbV : Below wr.heap.size wr V := hV ▸ (Below.refl _ _).alloc (Nat.le_refl _) _
                  have HAN := Lib.hid (anames_any W0 y V hwf (hbW.trans (hbV.mono hbW.size)) (by have := HML.out; omega))
                  obtain ⟨sy, hsy⟩ : ∃ b, b = sr y := ⟨_, rfl⟩
                  obtain ⟨wy, hwy⟩ : ∃ b, b = wt y := ⟨_, rfl⟩
                  rw [← hsy] at HAN hsn
                  rw [← hwy] at HAN htk hwt
                  clear hsy hwy
                  obtain ⟨v7, xs7, s7, n7, st7⟩ := ha.out.and
                  have S7 := Lib.hid s7
                  have ST7 := Lib.hid st7
                  have HBV := Lib.hid hbV
                  have HBw := Lib.hid hbW
                  have HSN := Lib.hid hsn
                  have HTK := Lib.hid htk
                  cases hwf with
                  | sum ua0 ua1 ua2 ua3 ul3 uh3 uq3 =>
                  obtain ⟨uo3, uc3, rfl⟩ := uh3.form
                  have d0 : wr.cell? ⟨g5, k * 4 + 0, none⟩ = some (.string ua0) := hcl 0 (by decide)
                  have d1 : wr.cell? ⟨g5, k * 4 + 1, none⟩ = some (.string ua1) := hcl 1 (by decide)
                  have d2 : wr.cell? ⟨g5, k * 4 + 2, none⟩ = some (.int .i64 ua2) := hcl 2 (by decide)
                  have d3 : wr.cell? ⟨g5, k * 4 + 3, none⟩ = some (.slice uo3 ul3.length uc3) := hcl 3 (by decide)
                  simp only [Nat.add_zero] at d0
                  rw [show (Nd.mk [.string ua0, .string ua1, .int .i64 ua2, .slice uo3 ul3.length uc3] [ul3]).c.toArray = #[.string ua0, .string ua1, .int .i64 ua2, .slice uo3 ul3.length uc3] from rfl] at hV HAN
                  clear hcl hsn htk hbW hbV s7 st7 uh3 uq3 ha
                  gi_wp2
                  rw [← hV]
                  refine ⟨trivial, ?_⟩
                  refine (callsIn_wide.2 HAN.out).mono ?_
                  rintro e W7 ⟨nv, nxs, rfl, ho7, hr7, hn7, hb7⟩
                  have hb7w : Below wr.heap.size wr W7 := HBV.out.trans (hb7.mono HBV.out.size)
                  obtain ⟨g7, ao7, cap7, rfl, hg71, hg72, hg73, hcl7⟩ := strs_block ho7 hb7.size
                  obtain ⟨fh1, fh2⟩ := S7.out.far g7 (Nat.le_trans HBV.out.size hg71)
                  have S77 : Hid (SetAt n0 82 W7 bx v7 xs7) := S7.out.below hb7w
                  have TOT7 : Hid (∀ r c W', After n0 82 bx v7 xs7 W7 r c W' → After n0 82 bx v9 xs9 W5 ((OS.take k).any sr || r) (Wl (OS.take k) + c) W') := fun r c W' h => ST7.out r c W' (After.from_ hb7w h)
                  have hw7 : w.heap.size + 1 + 1 ≤ W7.heap.size := by have := hb7w.size; omega
                  have HCL7 := Lib.hid hcl7
                  have HR7 := Lib.hid hr7
                  obtain ⟨mn, hmn⟩ : ∃ m, m = nxs.length := ⟨_, rfl⟩
                  rw [← hmn] at hg72 hg73 hn7 ⊢
                  have HMN := Lib.hid hmn
                  have hmnl : mn ≤ 1048576 := by have := HML.out; omega
                  clear ho7 hb7 hb7w hcl7 hmn hr7 d0 d1 d2 d3 hV
                  gi_wp2
                  gi_loopw [63] (fun i wr => ∃ j : Nat, j ≤ mn ∧ i = .int .i64 j ∧ Hid (After n0 82 bx v7 xs7 W7 ((nxs.take j).any res) j wr)) (fun i _ => mn - (intOf i).toNat)
                  case atStart => exact ⟨0, Nat.zero_le _, rfl, After.quiet S77.out (Below.refl _ _)⟩
                  case round =>
                    obtain ⟨j, hj, rfl, ha2⟩ := hrel
                    by_cases hlt2 : j < mn
                    · have hjl : j < nxs.length := by rw [← HMN.out]; exact hlt2
                      obtain ⟨rfl, hgl7⟩ := hg72 (by omega)
                      have q0 : wr.cell? ⟨g7, j, none⟩ = some (.string nxs[j]) := (ha2.out.cell g7 hgl7 fh1 fh2 j).trans (HCL7.out j hjl)
                      have hsn2 : (nxs.take (j + 1)).any res = ((nxs.take j).any res || res nxs[j]) := by rw [take_snoc nxs j hjl, List.any_append]; simp
                      have pq : wr.cell? ⟨w.heap.size, 0, none⟩ = some (.pointer (some ⟨bx, 0, none⟩)) := HCP.out _ _ _ (TOT.out _ _ _ (TOT7.out _ _ _ ha2.out))
                      obtain ⟨v8, xs8, s8, n8, st8⟩ := ha2.out.and
                      have HC := Lib.hid (add_any n0 bx v8 xs8 nxs[j] wr s8 (by have h1 := HLL.out; have h2 := HOSL.out; have h3 := HPOS.out; have h4 := Wl_take OS k; omega))
                      obtain ⟨s, hs⟩ : ∃ s, s = nxs[j] := ⟨_, rfl⟩
                      rw [← hs] at q0 hsn2 HC
                      have ST8 := Lib.hid st8
                      have HSN2 := Lib.hid hsn2
                      clear s8 n8 st8 hsn2 hs ha2
                      gi_wp2
                      refine ⟨trivial, ?_⟩
                      refine (callsIn_wide.2 HC.out).mono ?_
                      rintro e W8 ⟨rfl, ha8⟩
                      have HF : Hid (After n0 82 bx v7 xs7 W7 ((nxs.take (j + 1)).any res) (j + 1) W8) := by
                        show After _ _ _ _ _ _ _ _ _
                        rw [HSN2.out]
                        exact ST8.out _ _ _ ha8
                      clear ha8
                      gi_wp2
                      go_roundw
                      case rel => exact ⟨j + 1, by omega, by go_num, HF.out⟩
                      case measure => (first | omega | (simp [intOf] <;> omega))
                    · obtain rfl : mn = j := by omega
                      have HF : Hid (After n0 82 bx v9 xs9 W5 ((OS.take (k + 1)).any sr) (Wl (OS.take (k + 1))) wr) := by
                        have h1 := ha2.out
                        rw [List.take_of_length_le (by rw [HMN.out]; exact Nat.le_refl _), HR7.out] at h1
                        have h2 := TOT7.out _ _ _ (After.le h1 hn7)
                        show After _ _ _ _ _ _ _ _ _
                        rw [HSN.out, HTK.out]
                        exact h2
                      clear ha2
                      gi_wp2
                      go_roundw
                      case rel => exact ⟨k + 1, by omega, by go_num, HF.out⟩
                      case measure => (first | omega | (simp [intOf] <;> omega))
                · obtain rfl : ms = k := by omega
                  have hE : After n0 82 bx v9 xs9 W5 (OS.any sr) (Wl OS) wr := by
                    have h1 := ha.out
                    rw [List.take_of_length_le (by rw [HMS.out]; exact Nat.le_refl _)] at h1
                    exact h1
                  have hT := TOT.out _ _ _ hE
                  have pq : wr.cell? ⟨w.heap.size, 0, none⟩ = some (.pointer (some ⟨bx, 0, none⟩)) := HCP.out _ _ _ hT
                  have HCE : Hid (∀ i, wr.cell? ⟨w.heap.size + 1, i, none⟩ = (#[.int .i64 14, .string a1, .slice oa2 l2.length cp2, .slice oa3 m3 cp3, .slice oa4 l4.length cp4, .slice oa5 l5.length cp5, .slice oa6 l6.length cp6, .slice oa7 l7.length cp7, .slice oa8 l8.length cp8, .int .i64 a9] : Array Value)[i]?) := HCC.out _ _ _ hT
                  have d0 : wr.cell? ⟨w.heap.size + 1, 0, none⟩ = some (.int .i64 14) := HCE.out 0
                  have d1 : wr.cell? ⟨w.heap.size + 1, 1, none⟩ = some (.string a1) := HCE.out 1
                  have d2 : wr.cell? ⟨w.heap.size + 1, 2, none⟩ = some (.slice oa2 l2.length cp2) := HCE.out 2
                  have d3 : wr.cell? ⟨w.heap.size + 1, 3, none⟩ = some (.slice oa3 m3 cp3) := HCE.out 3
                  have d4 : wr.cell? ⟨w.heap.size + 1, 4, none⟩ = some (.slice oa4 l4.length cp4) := HCE.out 4
                  have d5 : wr.cell? ⟨w.heap.size + 1, 5, none⟩ = some (.slice oa5 l5.length cp5) := HCE.out 5
                  have d6 : wr.cell? ⟨w.heap.size + 1, 6, none⟩ = some (.slice oa6 l6.length cp6) := HCE.out 6
                  have d7 : wr.cell? ⟨w.heap.size + 1, 7, none⟩ = some (.slice oa7 l7.length cp7) := HCE.out 7
                  have d8 : wr.cell? ⟨w.heap.size + 1, 8, none⟩ = some (.slice oa8 l8.length cp8) := HCE.out 8
                  have d9 : wr.cell? ⟨w.heap.size + 1, 9, none⟩ = some (.int .i64 a9) := HCE.out 9
                  have hbE : Below W0.heap.size W0 wr := hT.belowW hn0 HSB.out HB.out
                  obtain ⟨vE, xsE, sE, nE, stE⟩ := hE.and
                  have HC := Lib.hid (HNMD.out wr vE xsE hbE sE (by have h1 := HLL.out; have h2 := HOSL.out; have h3 := HPOS.out; omega))
                  have STE := Lib.hid stE
                  clear ha hE hT hbE sE nE stE
                  gi_wp2
                  refine ⟨trivial, ?_⟩
                  refine (callsIn_wide.2 HC.out).mono ?_
                  rintro e WE ⟨rfl, haE⟩
                  have hF := STE.out _ _ _ haE
                  have hKE := ((After.kt (After.from_ HB5.out hF) S9.out).2.same D _ HK.out rfl)
                  have hW : After n0 82 bx v xs w ((((K0 || l3.any aR) || OP.any pR) || OS.any sr) || NM) (6 * M) WE := by
                    have h1 := HFIN.out _ _ _ (TOT.out _ _ _ hF)
                    rw [← Bool.or_assoc, HR9.out] at h1
                    exact After.le h1 (by have h2 := HOSL.out; have h3 := HPOS.out; omega)
                  have hW2 := (after_own n0 w.heap.size bx v xs w (Nat.le_refl _) (fun _ : Unit => ((((K0 || l3.any aR) || OP.any pR) || OS.any sr) || NM)) (fun _ : Unit => 6 * M)).putObj (s := ()) (.deferred none) hW (by omega) hKE rfl
                  have HW2 := Lib.hid hW2
                  have HKE := Lib.hid hKE
                  clear haE hF hKE hW hW2
                  gi_wp2
                  refine ⟨by simp, .inl ⟨_, _, rfl, run_takeDeferred HKE.out, ?_⟩⟩
                  exact ⟨_, results_none rfl _ _ _, rfl, HW2.out⟩
            case stp =>
              rintro D c pre W _ _ h _
              exact h.elim
      · have hk : K0 = false := by
          rw [hK0]
          have e1 : (a0 == 12) = false := by simpa using k12
          have e2 : (a0 == 14) = false := by simpa using k14
          rw [e1, e2]
          rfl
        have HA1 : Hid (After n0 82 bx v xs Wb K0 1 Wb) := by rw [hk]; exact After.le HA0.out (Nat.zero_le _)
        clear hk hK0
        have p1 : Wb.cell? ⟨w.heap.size, 0, none⟩ = some (.pointer (some ⟨bx, 0, none⟩)) := HCP.out _ _ _ HA1.out
        have c3' : Wb.cell? ⟨w.heap.size + 1, 3, none⟩ = some (.slice oa3 m3 cp3) := HCC.out _ _ _ HA1.out 3
        gi_wp2
        rw [← hWb]
        clear p1 c3' hWb p0 c0 c1 c3
        gi_loopw [29] (fun i wr => ∃ k : Nat, k ≤ m3 ∧ i = .int .i64 k ∧ Hid (After n0 82 bx v xs Wb (K0 || (l3.take k).any aR) (1 + k) wr)) (fun i _ => m3 - (intOf i).toNat)
        case atStart => exact ⟨0, Nat.zero_le _, rfl, by show After _ _ _ _ _ _ _ _ _; rw [List.take_zero, List.any_nil, Bool.or_false]; exact HA1.out⟩
        case round =>
          obtain ⟨k, hk, rfl, ha⟩ := hrel
          by_cases hlt : k < m3
          · have hkl : k < l3.length := by rw [← HM3.out]; exact hlt
            obtain rfl := hf3 (by omega)
            have hgb := hg3 (by omega)
            have hwf := HQ3.out l3[k] (List.getElem_mem hkl)
            have hat := HAT3.out k hkl
            have hsn : (l3.take (k + 1)).any aR = ((l3.take k).any aR || aR l3[k]) := by rw [take_snoc l3 k hkl, List.any_append]; simp
            have hbW : Below W0.heap.size W0 wr := ha.out.belowW hn0 HSB.out HB.out
            have pr := HCP.out _ _ _ ha.out
            have hwr : w.heap.size < wr.heap.size := by have := ha.out.size; omega
            obtain ⟨y, hy⟩ : ∃ y, y = l3[k] := ⟨_, rfl⟩
            rw [← hy] at hwf hat hsn
            clear hy
            cases hwf with
            | assign ya0 ya1 ya2 yl2 ya3 yl3 ya4 ya5 yl5 yh2 yq2 yh3 yq3 yh5 yq5 =>
            obtain ⟨yo2, yc2, rfl⟩ := yh2.form
            obtain ⟨yo3, yc3, rfl⟩ := yh3.form
            obtain ⟨yo5, yc5, rfl⟩ := yh5.form
            have har : aR (.mk [.string ya0, .string ya1, .slice yo2 yl2.length yc2, .slice yo3 yl3.length yc3, .bool ya4, .slice yo5 yl5.length yc5] [yl2, yl3, yl5]) = res ya0 := rfl
            rw [har] at hsn
            have d0 : wr.cell? ⟨bb3, of3 + k * 6 + 0, none⟩ = some (.string ya0) := (hbW.cell (p := ⟨bb3, of3 + k * 6 + 0, none⟩) hgb).trans (hat 0 (by decide))
            have d1 : wr.cell? ⟨bb3, of3 + k * 6 + 1, none⟩ = some (.string ya1) := (hbW.cell (p := ⟨bb3, of3 + k * 6 + 1, none⟩) hgb).trans (hat 1 (by decide))
            have d2 : wr.cell? ⟨bb3, of3 + k * 6 + 2, none⟩ = some (.slice yo2 yl2.length yc2) := (hbW.cell (p := ⟨bb3, of3 + k * 6 + 2, none⟩) hgb).trans (hat 2 (by decide))
            have d3 : wr.cell? ⟨bb3, of3 + k * 6 + 3, none⟩ = some (.slice yo3 yl3.length yc3) := (hbW.cell (p := ⟨bb3, of3 + k * 6 + 3, none⟩) hgb).trans (hat 3 (by decide))
            have d4 : wr.cell? ⟨bb3, of3 + k * 6 + 4, none⟩ = some (.bool ya4) := (hbW.cell (p := ⟨bb3, of3 + k * 6 + 4, none⟩) hgb).trans (hat 4 (by decide))
            have d5 : wr.cell? ⟨bb3, of3 + k * 6 + 5, none⟩ = some (.slice yo5 yl5.length yc5) := (hbW.cell (p := ⟨bb3, of3 + k * 6 + 5, none⟩) hgb).trans (hat 5 (by decide))
            simp only [Nat.add_zero] at d0
            obtain ⟨V, hV⟩ : ∃ V, V = wr.alloc (.cells #[.string ya0, .string ya1, .slice yo2 yl2.length yc2, .slice yo3 yl3.length yc3, .bool ya4, .slice yo5 yl5.length yc5] 87) := ⟨_, rfl⟩
            have hbV : Below wr.heap.size wr V := hV ▸ (Below.refl _ _).alloc (Nat.le_refl _) _
            obtain ⟨v1, xs1, s1, n1, st1⟩ := (ha.out.more hbV).and
            have HC := Lib.hid (add_any n0 bx v1 xs1 ya0 V s1 (by have := HLL.out; have := HL3.out; omega))
            have ST := Lib.hid st1
            have HSN := Lib.hid hsn
            clear hat hsn hbW hbV s1 n1 st1 yh2 yh3 yh5 yq2 yq3 yq5 har ha
            gi_wp2
            rw [← hV]
            refine ⟨trivial, ?_⟩
            refine (callsIn_wide.2 HC.out).mono ?_
            rintro e W3 ⟨rfl, ha3⟩
            have HF : Hid (After n0 82 bx v xs Wb (K0 || (l3.take (k + 1)).any aR) (1 + (k + 1)) W3) := by
              show After _ _ _ _ _ _ _ _ _
              rw [HSN.out, ← Bool.or_assoc]
              exact ST.out _ _ _ ha3
            clear ha3 hV
            gi_wp2
            go_roundw
            case rel => exact ⟨k + 1, by omega, by go_num, HF.out⟩
            case measure => (first | omega | (simp [intOf] <;> omega))
          · obtain rfl : m3 = k := by omega
            have HAk : Hid (After n0 82 bx v xs Wb (K0 || l3.any aR) (1 + m3) wr) := by
              have := ha.out
              rw [List.take_of_length_le (by rw [HM3.out]; exact Nat.le_refl _)] at this
              exact this
            have HBW : Hid (Below W0.heap.size W0 wr) := HAk.out.belowW hn0 HSB.out HB.out
            have hwz : w.heap.size + 1 + 1 ≤ wr.heap.size := hWs ▸ HAk.out.size
            have HCD : Hid (∀ i, wr.cell? ⟨w.heap.size + 1, i, none⟩ = (#[.int .i64 a0, .string a1, .slice oa2 l2.length cp2, .slice oa3 m3 cp3, .slice oa4 l4.length cp4, .slice oa5 l5.length cp5, .slice oa6 l6.length cp6, .slice oa7 l7.length cp7, .slice oa8 l8.length cp8, .int .i64 a9] : Array Value)[i]?) := HCC.out _ _ _ HAk.out
            have d0 : wr.cell? ⟨w.heap.size + 1, 0, none⟩ = some (.int .i64 a0) := HCD.out 0
            have d1 : wr.cell? ⟨w.heap.size + 1, 1, none⟩ = some (.string a1) := HCD.out 1
            have d2 : wr.cell? ⟨w.heap.size + 1, 2, none⟩ = some (.slice oa2 l2.length cp2) := HCD.out 2
            have d3 : wr.cell? ⟨w.heap.size + 1, 3, none⟩ = some (.slice oa3 m3 cp3) := HCD.out 3
            have d4 : wr.cell? ⟨w.heap.size + 1, 4, none⟩ = some (.slice oa4 l4.length cp4) := HCD.out 4
            have d5 : wr.cell? ⟨w.heap.size + 1, 5, none⟩ = some (.slice oa5 l5.length cp5) := HCD.out 5
            have d6 : wr.cell? ⟨w.heap.size + 1, 6, none⟩ = some (.slice oa6 l6.length cp6) := HCD.out 6
            have d7 : wr.cell? ⟨w.heap.size + 1, 7, none⟩ = some (.slice oa7 l7.length cp7) := HCD.out 7
            have d8 : wr.cell? ⟨w.heap.size + 1, 8, none⟩ = some (.slice oa8 l8.length cp8) := HCD.out 8
            have d9 : wr.cell? ⟨w.heap.size + 1, 9, none⟩ = some (.int .i64 a9) := HCD.out 9
            clear ha
            gi_wp2
            refine ⟨trivial, ?_⟩
            refine (ownc_any _ _ _ ⟨_, _, _, _, _, _, _, _, _, _, rfl⟩).mono ?_
            rintro e w3 ⟨rfl, rfl⟩
            obtain ⟨V, hV⟩ : ∃ V, V = wr.alloc (.cells #[.int .i64 a0, .string a1, .slice oa2 l2.length cp2, .slice oa3 m3 cp3, .slice oa4 l4.length cp4, .slice oa5 l5.length cp5, .slice oa6 l6.length cp6, .slice oa7 l7.length cp7, .slice oa8 l8.length cp8, .int .i64 a9] 48) := ⟨_, rfl⟩
            have hbV : Below wr.heap.size wr V := hV ▸ (Below.refl _ _).alloc (Nat.le_refl _) _
            have hVz : V.heap.size = wr.heap.size + 1 := by rw [hV]; simp
            have hVc : ∀ i, V.cell? ⟨wr.heap.size, i, none⟩ = (#[.int .i64 a0, .string a1, .slice oa2 l2.length cp2, .slice oa3 m3 cp3, .slice oa4 l4.length cp4, .slice oa5 l5.length cp5, .slice oa6 l6.length cp6, .slice oa7 l7.length cp7, .slice oa8 l8.length cp8, .int .i64 a9] : Array Value)[i]? := fun i => by rw [hV, World.cell?_alloc_new]
            have HAV : Hid (After n0 82 bx v xs Wb (K0 || l3.any aR) (1 + m3) V) := HAk.out.more hbV
            have HBV : Hid (Below W0.heap.size W0 V) := HBW.out.trans (hbV.mono HBW.out.size)
            rw [← hV]
            clear hV d0 d1 d2 d3 d4 d5 d6 d7 d8 d9
            have hVb : n0 ≤ V.heap.size := by omega
            have hHS := HSTOP.out 5 wr.heap.size V HBV.out hVb (fun i hi => by
              rw [hVc i]
              simp only [List.getElem?_toArray]
              exact List.getElem?_eq_getElem hi) (by omega)
            clear hVc
            have hBV : Wb.heap.size ≤ V.heap.size := HAV.out.size
            gi_wp2
            refine wpIn_rangeFunc_ownH rfl (by decide) (gf := 50) (lb := #[.pointer (some ⟨wr.heap.size, 0, none⟩)]) rfl trivial (enters_of Try.func50 (by kernel_rfl) rfl)
              hHS KT.trans (fun W l o o' h1 h2 h3 _ => KT.putObj W l o o' (by omega) h2 h3) (Below.refl _ _) (fun _ => rfl)
              (fun pre W => After n0 82 bx v xs Wb ((K0 || l3.any aR) || (pre.map (·.1)).any pR) (1 + m3 + pre.length) W)
              (fun _ _ _ => False)
              (after_own n0 V.heap.size bx v xs Wb hBV (fun pre : List (PartA W0 M) => (K0 || l3.any aR) || (pre.map (·.1)).any pR) (fun pre : List (PartA W0 M) => 1 + m3 + pre.length))
              (fun _ _ _ _ _ hs _ _ => hs)
              (by rw [List.map_nil, List.any_nil, Bool.or_false]; exact HAV.out)
              (fun x a' W => ∃ Bx, W.heap[Bx]? = some (.cells x.1.c.toArray 92 (0, 0)) ∧ a' = { tmps := #[.pointer (some ⟨bx, 0, none⟩), .agg #[.int .i64 a0, .string a1, .slice oa2 l2.length cp2, .slice oa3 m3 cp3, .slice oa4 l4.length cp4, .slice oa5 l5.length cp5, .slice oa6 l6.length cp6, .slice oa7 l7.length cp7, .slice oa8 l8.length cp8, .int .i64 a9], .pointer (some ⟨w.heap.size, 0, none⟩), .pointer (some ⟨w.heap.size + 1, 0, none⟩), undef, u5, .pointer (some ⟨Bx, 0, none⟩), undef, undef, undef, undef, .pointer (some ⟨w.heap.size + 1, 0, none⟩), .int .i64 a0, .bool false, .bool false, undef, undef, undef, undef, .bool false, .bool false, undef, undef, undef, undef, undef, .pointer (some ⟨w.heap.size + 1, 3, none⟩), .slice oa3 m3 cp3, .int .i64 m3, .int .i64 m3, .bool false, u31, u32, u33, u34, u35, u36, u37, .agg #[.int .i64 a0, .string a1, .slice oa2 l2.length cp2, .slice oa3 m3 cp3, .slice oa4 l4.length cp4, .slice oa5 l5.length cp5, .slice oa6 l6.length cp6, .slice oa7 l7.length cp7, .slice oa8 l8.length cp8, .int .i64 a9], .func (.func 50) #[] #[.pointer (some ⟨wr.heap.size, 0, none⟩)], .agg x.1.c.toArray, undef, undef, undef, undef, undef, undef, undef, undef, undef, undef, undef, undef, undef, undef, undef, undef, undef, undef, undef, undef, undef, undef, undef, undef, undef, undef, undef, undef, undef, undef, undef, undef, undef, undef], defers := [] })
              (fun x a' _ X Y row hs hg hr => by
                obtain ⟨Bx, h1, h2⟩ := hs
                refine ⟨Bx, (hg.block Bx (Array.getElem?_eq_some_iff.1 h1).1 (fun e => ?_)).trans h1, h2⟩
                obtain ⟨_, o, ho, hc⟩ := hr Bx e.symm
                rw [h1] at ho
                cases ho
                cases hc)
              ?asg ?bdy ?dne ?stp
            case asg =>
              rintro l pre ⟨x, hx1, hx2⟩ W K hI hK
              cases hx1 with
              | part za0 za1 za2 za3 za4 za5 zl5 za6 zl6 za7 zl7 za8 zl8 za9 zh5 zq5 zh6 zq6 zh7 zq7 zh8 zq8 =>
                obtain ⟨zo5, zc5, rfl⟩ := zh5.form
                obtain ⟨zo6, zc6, rfl⟩ := zh6.form
                obtain ⟨zo7, zc7, rfl⟩ := zh7.form
                obtain ⟨zo8, zc8, rfl⟩ := zh8.form
                have hz : n0 ≤ W.heap.size := by have := hI.size; omega
                have HI := Lib.hid hI
                clear hI
                dsimp only [Nd.c] at hK ⊢
                gi_wp2
                exact hK _ _ ((KeepsOthers.alloc _ _).from _) (KT.quiet hz ((Below.refl _ _).alloc (Nat.le_refl _) _)) (HI.out.more ((Below.refl _ _).alloc (Nat.le_refl _) _)) ⟨W.heap.size, World.alloc_heap_new _ _, rfl⟩
            case bdy =>
              rintro l pre ⟨x, hx1, hx2⟩ a' W hl ⟨r, hr⟩ hI ⟨Bx, hBx, rfl⟩ hlt
              have hz : n0 ≤ W.heap.size := by have := hI.size; omega
              have HI : Hid (After n0 82 bx v xs Wb ((K0 || l3.any aR) || (pre.map (·.1)).any pR) (1 + m3 + pre.length) W) := hI
              have hsn : ((K0 || l3.any aR) || ((pre ++ [(⟨x, hx1, hx2⟩ : PartA W0 M)]).map (·.1)).any pR) = (((K0 || l3.any aR) || (pre.map (·.1)).any pR) || pR x) := by
                rw [List.map_append, List.any_append]
                simp [Bool.or_assoc]
              have hnn : 1 + m3 + (pre ++ [(⟨x, hx1, hx2⟩ : PartA W0 M)]).length = 1 + m3 + pre.length + 1 := by simp; omega
              have HPL : Hid (pre.length < OP.length) := hlt
              clear hI hlt
              cases hx1 with
              | part za0 za1 za2 za3 za4 za5 zl5 za6 zl6 za7 zl7 za8 zl8 za9 zh5 zq5 zh6 zq6 zh7 zq7 zh8 zq8 =>
                obtain ⟨zo5, zc5, rfl⟩ := zh5.form
                obtain ⟨zo6, zc6, rfl⟩ := zh6.form
                obtain ⟨zo7, zc7, rfl⟩ := zh7.form
                obtain ⟨zo8, zc8, rfl⟩ := zh8.form
                have hpr : pR (.mk [.int .i64 za0, .string za1, .string za2, .string za3, .bool za4, .slice zo5 zl5.length zc5, .slice zo6 zl6.length zc6, .slice zo7 zl7.length zc7, .slice zo8 zl8.length zc8, .int .i64 za9] [zl5, zl6, zl7, zl8]) = ((za0 == 2) && (nameF za2 && res za2)) := rfl
                rw [hpr] at hsn
                have d0 : W.cell? ⟨Bx, 0, none⟩ = some (.int .i64 za0) := by simp [World.cell?, hBx, Nd.c]
                have d2 : W.cell? ⟨Bx, 2, none⟩ = some (.string za2) := by simp [World.cell?, hBx, Nd.c]
                have hBl : Bx < W.heap.size := (Array.getElem?_eq_some_iff.1 hBx).1
                have HN : Hid (∀ V : World, Calls Try.prog 42 #[.string za2] V fun e w' => e = .returned (.bool (nameF za2)) ∧ Below V.heap.size V w') := fun V => oname_all za2 V
                obtain ⟨n1, hn1⟩ : ∃ s, s = nameF za2 := ⟨_, rfl⟩
                rw [← hn1] at HN hsn
                have HSN := Lib.hid hsn
                have HNN := Lib.hid hnn
                clear hBx hr hpr hsn hnn hn1
                by_cases k2 : za0 = 2
                · subst k2
                  cases n1
                  · gi_wp2
                    refine ⟨trivial, ?_⟩
                    refine (CallsIn.inRound l (callsIn_wide.2 (HN.out _))).mono ?_
                    rintro e W3 ⟨rfl, hb3⟩
                    have HI3 := Lib.hid (HI.out.more hb3)
                    have HB3 := Lib.hid hb3
                    clear hb3
                    gi_wp2
                    refine ⟨(keepsO HB3.out).from _, KT.quiet hz HB3.out, ?_⟩
                    show After _ _ _ _ _ _ _ _ _
                    rw [HSN.out, HNN.out]
                    simp only [Bool.false_and, Bool.and_false, Bool.or_false]
                    exact HI3.out.le (Nat.le_succ _)
                  · gi_wp2
                    refine ⟨trivial, ?_⟩
                    refine (CallsIn.inRound l (callsIn_wide.2 (HN.out _))).mono ?_
                    rintro e W3 ⟨rfl, hb3⟩
                    have hI3 := HI.out.more hb3
                    have p3 := HCP.out _ _ _ hI3
                    have d23 : W3.cell? ⟨Bx, 2, none⟩ = some (.string za2) := (hb3.cell (p := ⟨Bx, 2, none⟩) hBl).trans d2
                    obtain ⟨v1, xs1, s1, n1, st1⟩ := hI3.and
                    have HC := Lib.hid (add_any n0 bx v1 xs1 za2 W3 s1 (by have h1 := HLL.out; have h2 := HL3.out; have h3 := HPL.out; have h4 := HOL.out; omega))
                    have ST := Lib.hid st1
                    have S1 := Lib.hid s1
                    have HB3 := Lib.hid hb3
                    clear s1 n1 st1 hI3 hb3 d0 d2
                    gi_wp2
                    refine ⟨trivial, ?_⟩
                    refine (CallsIn.inRound l (callsIn_wide.2 HC.out)).mono ?_
                    rintro e W4 ⟨rfl, ha4⟩
                    have HA4 := Lib.hid ha4
                    clear ha4
                    gi_wp2
                    have hk4 := After.kt HA4.out S1.out
                    refine ⟨((keepsO HB3.out).trans hk4.2).from _, (KT.quiet hz HB3.out).trans hk4.1, ?_⟩
                    show After _ _ _ _ _ _ _ _ _
                    rw [HSN.out, HNN.out]
                    exact ST.out _ _ _ HA4.out
                · have e2 : (za0 == 2) = false := by simpa using k2
                  gi_wp2
                  refine ⟨trivial, ?_⟩
                  gi_wp2
                  refine ⟨KeepsFrom.refl _ _, KT.refl _ _ _, ?_⟩
                  show After _ _ _ _ _ _ _ _ _
                  rw [HSN.out, HNN.out, e2, Bool.false_and, Bool.or_false]
                  exact HI.out.le (Nat.le_succ _)
            case dne =>
              rintro D zs W hD hS hI hK
              have hzl : zs.length = OP.length := by rw [← hS, List.length_map]
              have hI' : After n0 82 bx v xs Wb ((K0 || l3.any aR) || (zs.map (·.1)).any pR) (1 + m3 + zs.length) W := hI
              rw [hS, hzl] at hI'
              obtain ⟨R9, hR9⟩ : ∃ b, b = ((K0 || l3.any aR) || OP.any pR) := ⟨_, rfl⟩
              obtain ⟨C9, hC9⟩ : ∃ b, b = 1 + m3 + OP.length := ⟨_, rfl⟩
              rw [← hR9, ← hC9] at hI'
              have HR9 := Lib.hid hR9
              have hC9M : C9 ≤ 1 + 2 * M := by have h1 := HL3.out; have h2 := HOL.out; omega
              have hBW : Below W0.heap.size W0 W := hI'.belowW hn0 HSB.out HB.out
              have hwz9 : w.heap.size + 1 + 1 ≤ W.heap.size := hWs ▸ hI'.size
              have HCD9 : Hid (∀ i, W.cell? ⟨w.heap.size + 1, i, none⟩ = (#[.int .i64 a0, .string a1, .slice oa2 l2.length cp2, .slice oa3 m3 cp3, .slice oa4 l4.length cp4, .slice oa5 l5.length cp5, .slice oa6 l6.length cp6, .slice oa7 l7.length cp7, .slice oa8 l8.length cp8, .int .i64 a9] : Array Value)[i]?) := HCC.out _ _ _ hI'
              obtain ⟨v9, xs9, s9, n9, st9⟩ := hI'.and
              have hsum := HSUM.out W hBW
              have HBW9 := Lib.hid hBW
              have ST9 := Lib.hid st9
              have S9 := Lib.hid s9
              have d0 : W.cell? ⟨w.heap.size + 1, 0, none⟩ = some (.int .i64 a0) := HCD9.out 0
              have d1 : W.cell? ⟨w.heap.size + 1, 1, none⟩ = some (.string a1) := HCD9.out 1
              have d2 : W.cell? ⟨w.heap.size + 1, 2, none⟩ = some (.slice oa2 l2.length cp2) := HCD9.out 2
              have d3 : W.cell? ⟨w.heap.size + 1, 3, none⟩ = some (.slice oa3 m3 cp3) := HCD9.out 3
              have d4 : W.cell? ⟨w.heap.size + 1, 4, none⟩ = some (.slice oa4 l4.length cp4) := HCD9.out 4
              have d5 : W.cell? ⟨w.heap.size + 1, 5, none⟩ = some (.slice oa5 l5.length cp5) := HCD9.out 5
              have d6 : W.cell? ⟨w.heap.size + 1, 6, none⟩ = some (.slice oa6 l6.length cp6) := HCD9.out 6
              have d7 : W.cell? ⟨w.heap.size + 1, 7, none⟩ = some (.slice oa7 l7.length cp7) := HCD9.out 7
              have d8 : W.cell? ⟨w.heap.size + 1, 8, none⟩ = some (.slice oa8 l8.length cp8) := HCD9.out 8
              have d9 : W.cell? ⟨w.heap.size + 1, 9, none⟩ = some (.int .i64 a9) := HCD9.out 9
              have HK := Lib.hid hK
              clear hI hI' hS hzl hR9 hC9 hBW s9 st9 hK
              gi_wp2
              refine ⟨trivial, ?_⟩
              refine (callsIn_wide.2 hsum).mono ?_
              rintro e W5 ⟨v5, rfl, ho5, hb5⟩
              obtain ⟨g5, ao5, cap5, rfl, hg51, hg52, hg53, hcl5⟩ := ho5.block (fun y hy => (one_sum (HOSW.out y hy)).1) hb5.size
              have TOT : Hid (∀ r c W', After n0 82 bx v9 xs9 W5 r c W' → After n0 82 bx v xs Wb (R9 || r) (C9 + c) W') := fun r c W' h => ST9.out r c W' (After.from_ hb5 h)
              have S5 : Hid (SetAt n0 82 W5 bx v9 xs9) := S9.out.below hb5
              have HB5 := Lib.hid hb5
              have HBW5 : Hid (Below W0.heap.size W0 W5) := HBW9.out.trans (hb5.mono HBW9.out.size)
              obtain ⟨fg1, fg2⟩ := S9.out.far g5 hg51
              have hw5 : w.heap.size + 1 + 1 ≤ W5.heap.size := Nat.le_trans hwz9 hb5.size
              have HCL := Lib.hid hcl5
              obtain ⟨ms, hms⟩ : ∃ m, m = OS.length := ⟨_, rfl⟩
              have hmsM : ms ≤ 2 * M := by have h1 := HOSL.out; have h2 := length_le OS; omega
              have hML := HML.out
              have hmsl : ms ≤ 2097152 := by omega
              rw [← hms] at hg52 hg53 ⊢
              have HMS := Lib.hid hms
              clear ho5 hb5 hcl5 hms hsum d0 d1 d2 d3 d4 d5 d6 d7 d8 d9 hML
              gi_wp2
              gi_loopw [56] (fun i wr => ∃ k : Nat, k ≤ ms ∧ i = .int .i64 k ∧ Hid (After n0 82 bx v9 xs9 W5 ((OS.take k).any sr) (Wl (OS.take k)) wr)) (fun i _ => ms - (intOf i).toNat)
              case atStart => exact ⟨0, Nat.zero_le _, rfl, After.quiet S5.out (Below.refl _ _)⟩
              case round =>
                obtain ⟨k, hk, rfl, ha⟩ := hrel
                by_cases hlt : k < ms
                · have hkl : k < OS.length := by rw [← HMS.out]; exact hlt
                  obtain ⟨rfl, hgl5⟩ := (fun h => ⟨(hg52 h).1, (hg52 h).2.1⟩ : 0 < ms → ao5 = some ⟨g5, 0, none⟩ ∧ g5 < W5.heap.size) (by omega)
                  have hwf := HOSW.out OS[k] (List.getElem_mem hkl)
                  have hwt := HOST.out OS[k] (List.getElem_mem hkl)
                  have hcl := fun i hi => (ha.out.cell g5 hgl5 fg1 fg2 (k * 4 + i)).trans (HCL.out k hkl i hi)
                  have htk : Wl (OS.take (k + 1)) = Wl (OS.take k) + wt OS[k] := by rw [take_snoc OS k hkl, Wl_append, Wl_cons, Wl_nil, Nat.add_zero]
                  have htl := Wl_take OS (k + 1)
                  have hsn : (OS.take (k + 1)).any sr = ((OS.take k).any sr || sr OS[k]) := by rw [take_snoc OS k hkl, List.any_append]; simp
                  have hbW : Below W0.heap.size W0 wr := ha.out.belowW hn0 S5.out HBW5.out
                  have hwr := ha.out.size
                  obtain ⟨y, hy⟩ : ∃ y, y = OS[k] := ⟨_, rfl⟩
                  rw [← hy] at hwf hwt hcl htk hsn
                  clear hy
                  obtain ⟨V, hV⟩ : ∃ V, V = wr.alloc (.cells y.c.toArray 100) := ⟨_, rfl⟩
                  have hbV : Below wr.heap.size wr V := hV ▸ (Below.refl _ _).alloc (Nat.le_refl _) _
                  have HAN := Lib.hid (anames_any W0 y V hwf (hbW.trans (hbV.mono hbW.size)) (by have := HML.out; omega))
                  obtain ⟨sy, hsy⟩ : ∃ b, b = sr y := ⟨_, rfl⟩
                  obtain ⟨wy, hwy⟩ : ∃ b, b = wt y := ⟨_, rfl⟩
                  rw [← hsy] at HAN hsn
                  rw [← hwy] at HAN htk hwt
                  clear hsy hwy
                  obtain ⟨v7, xs7, s7, n7, st7⟩ := ha.out.and
                  have S7 := Lib.hid s7
                  have ST7 := Lib.hid st7
                  have HBV := Lib.hid hbV
                  have HBw := Lib.hid hbW
                  have HSN := Lib.hid hsn
                  have HTK := Lib.hid htk
                  cases hwf with
                  | sum ua0 ua1 ua2 ua3 ul3 uh3 uq3 =>
                  obtain ⟨uo3, uc3, rfl⟩ := uh3.form
                  have d0 : wr.cell? ⟨g5, k * 4 + 0, none⟩ = some (.string ua0) := hcl 0 (by decide)
                  have d1 : wr.cell? ⟨g5, k * 4 + 1, none⟩ = some (.string ua1) := hcl 1 (by decide)
                  have d2 : wr.cell? ⟨g5, k * 4 + 2, none⟩ = some (.int .i64 ua2) := hcl 2 (by decide)
                  have d3 : wr.cell? ⟨g5, k * 4 + 3, none⟩ = some (.slice uo3 ul3.length uc3) := hcl 3 (by decide)
                  simp only [Nat.add_zero] at d0
                  rw [show (Nd.mk [.string ua0, .string ua1, .int .i64 ua2, .slice uo3 ul3.length uc3] [ul3]).c.toArray = #[.string ua0, .string ua1, .int .i64 ua2, .slice uo3 ul3.length uc3] from rfl] at hV HAN
                  clear hcl hsn htk hbW hbV s7 st7 uh3 uq3 ha
                  gi_wp2
                  rw [← hV]
                  refine ⟨trivial, ?_⟩
                  refine (callsIn_wide.2 HAN.out).mono ?_
                  rintro e W7 ⟨nv, nxs, rfl, ho7, hr7, hn7, hb7⟩
                  have hb7w : Below wr.heap.size wr W7 := HBV.out.trans (hb7.mono HBV.out.size)
                  obtain ⟨g7, ao7, cap7, rfl, hg71, hg72, hg73, hcl7⟩ := strs_block ho7 hb7.size
                  obtain ⟨fh1, fh2⟩ := S7.out.far g7 (Nat.le_trans HBV.out.size hg71)
                  have S77 : Hid (SetAt n0 82 W7 bx v7 xs7) := S7.out.below hb7w
                  have TOT7 : Hid (∀ r c W', After n0 82 bx v7 xs7 W7 r c W' → After n0 82 bx v9 xs9 W5 ((OS.take k).any sr || r) (Wl (OS.take k) + c) W') := fun r c W' h => ST7.out r c W' (After.from_ hb7w h)
                  have hw7 : w.heap.size + 1 + 1 ≤ W7.heap.size := by have := hb7w.size; omega
                  have HCL7 := Lib.hid hcl7
                  have HR7 := Lib.hid hr7
                  obtain ⟨mn, hmn⟩ : ∃ m, m = nxs.length := ⟨_, rfl⟩
                  rw [← hmn] at hg72 hg73 hn7 ⊢
                  have HMN := Lib.hid hmn
                  have hmnl : mn ≤ 1048576 := by have := HML.out; omega
                  clear ho7 hb7 hb7w hcl7 hmn hr7 d0 d1 d2 d3 hV
                  gi_wp2
                  gi_loopw [63] (fun i wr => ∃ j : Nat, j ≤ mn ∧ i = .int .i64 j ∧ Hid (After n0 82 bx v7 xs7 W7 ((nxs.take j).any res) j wr)) (fun i _ => mn - (intOf i).toNat)
                  case atStart => exact ⟨0, Nat.zero_le _, rfl, After.quiet S77.out (Below.refl _ _)⟩
                  case round =>
                    obtain ⟨j, hj, rfl, ha2⟩ := hrel
                    by_cases hlt2 : j < mn
                    · have hjl : j < nxs.length := by rw [← HMN.out]; exact hlt2
                      obtain ⟨rfl, hgl7⟩ := hg72 (by omega)
                      have q0 : wr.cell? ⟨g7, j, none⟩ = some (.string nxs[j]) := (ha2.out.cell g7 hgl7 fh1 fh2 j).trans (HCL7.out j hjl)
                      have hsn2 : (nxs.take (j + 1)).any res = ((nxs.take j).any res || res nxs[j]) := by rw [take_snoc nxs j hjl, List.any_append]; simp
                      have pq : wr.cell? ⟨w.heap.size, 0, none⟩ = some (.pointer (some ⟨bx, 0, none⟩)) := HCP.out _ _ _ (TOT.out _ _ _ (TOT7.out _ _ _ ha2.out))
                      obtain ⟨v8, xs8, s8, n8, st8⟩ := ha2.out.and
                      have HC := Lib.hid (add_any n0 bx v8 xs8 nxs[j] wr s8 (by have h1 := HLL.out; have h2 := HOSL.out; have h3 := HPOS.out; have h4 := Wl_take OS k; omega))
                      obtain ⟨s, hs⟩ : ∃ s, s = nxs[j] := ⟨_, rfl⟩
                      rw [← hs] at q0 hsn2 HC
                      have ST8 := Lib.hid st8
                      have HSN2 := Lib.hid hsn2
                      clear s8 n8 st8 hsn2 hs ha2
                      gi_wp2
                      refine ⟨trivial, ?_⟩
                      refine (callsIn_wide.2 HC.out).mono ?_
                      rintro e W8 ⟨rfl, ha8⟩
                      have HF : Hid (After n0 82 bx v7 xs7 W7 ((nxs.take (j + 1)).any res) (j + 1) W8) := by
                        show After _ _ _ _ _ _ _ _ _
                        rw [HSN2.out]
                        exact ST8.out _ _ _ ha8
                      clear ha8
                      gi_wp2
                      go_roundw
                      case rel => exact ⟨j + 1, by omega, by go_num, HF.out⟩
                      case measure => (first | omega | (simp [intOf] <;> omega))
                    · obtain rfl : mn = j := by omega
                      have HF : Hid (After n0 82 bx v9 xs9 W5 ((OS.take (k + 1)).any sr) (Wl (OS.take (k + 1))) wr) := by
                        have h1 := ha2.out
                        rw [List.take_of_length_le (by rw [HMN.out]; exact Nat.le_refl _), HR7.out] at h1
                        have h2 := TOT7.out _ _ _ (After.le h1 hn7)
                        show After _ _ _ _ _ _ _ _ _
                        rw [HSN.out, HTK.out]
                        exact h2
                      clear ha2
                      gi_wp2
                      go_roundw
                      case rel => exact ⟨k + 1, by omega, by go_num, HF.out⟩
                      case measure => (first | omega | (simp [intOf] <;> omega))
                · obtain rfl : ms = k := by omega
                  have hE : After n0 82 bx v9 xs9 W5 (OS.any sr) (Wl OS) wr := by
                    have h1 := ha.out
                    rw [List.take_of_length_le (by rw [HMS.out]; exact Nat.le_refl _)] at h1
                    exact h1
                  have hT := TOT.out _ _ _ hE
                  have pq : wr.cell? ⟨w.heap.size, 0, none⟩ = some (.pointer (some ⟨bx, 0, none⟩)) := HCP.out _ _ _ hT
                  have HCE : Hid (∀ i, wr.cell? ⟨w.heap.size + 1, i, none⟩ = (#[.int .i64 a0, .string a1, .slice oa2 l2.length cp2, .slice oa3 m3 cp3, .slice oa4 l4.length cp4, .slice oa5 l5.length cp5, .slice oa6 l6.length cp6, .slice oa7 l7.length cp7, .slice oa8 l8.length cp8, .int .i64 a9] : Array Value)[i]?) := HCC.out _ _ _ hT
                  have d0 : wr.cell? ⟨w.heap.size + 1, 0, none⟩ = some (.int .i64 a0) := HCE.out 0
                  have d1 : wr.cell? ⟨w.heap.size + 1, 1, none⟩ = some (.string a1) := HCE.out 1
                  have d2 : wr.cell? ⟨w.heap.size + 1, 2, none⟩ = some (.slice oa2 l2.length cp2) := HCE.out 2
                  have d3 : wr.cell? ⟨w.heap.size + 1, 3, none⟩ = some (.slice oa3 m3 cp3) := HCE.out 3
                  have d4 : wr.cell? ⟨w.heap.size + 1, 4, none⟩ = some (.slice oa4 l4.length cp4) := HCE.out 4
                  have d5 : wr.cell? ⟨w.heap.size + 1, 5, none⟩ = some (.slice oa5 l5.length cp5) := HCE.out 5
                  have d6 : wr.cell? ⟨w.heap.size + 1, 6, none⟩ = some (.slice oa6 l6.length cp6) := HCE.out 6
                  have d7 : wr.cell? ⟨w.heap.size + 1, 7, none⟩ = some (.slice oa7 l7.length cp7) := HCE.out 7
                  have d8 : wr.cell? ⟨w.heap.size + 1, 8, none⟩ = some (.slice oa8 l8.length cp8) := HCE.out 8
                  have d9 : wr.cell? ⟨w.heap.size + 1, 9, none⟩ = some (.int .i64 a9) := HCE.out 9
                  have hbE : Below W0.heap.size W0 wr := hT.belowW hn0 HSB.out HB.out
                  obtain ⟨vE, xsE, sE, nE, stE⟩ := hE.and
                  have HC := Lib.hid (HNMD.out wr vE xsE hbE sE (by have h1 := HLL.out; have h2 := HOSL.out; have h3 := HPOS.out; omega))
                  have STE := Lib.hid stE
                  clear ha hE hT hbE sE nE stE
                  gi_wp2
                  refine ⟨trivial, ?_⟩
                  refine (callsIn_wide.2 HC.out).mono ?_
                  rintro e WE ⟨rfl, haE⟩
                  have hF := STE.out _ _ _ haE
                  have hKE := ((After.kt (After.from_ HB5.out hF) S9.out).2.same D _ HK.out rfl)
                  have hW : After n0 82 bx v xs w ((((K0 || l3.any aR) || OP.any pR) || OS.any sr) || NM) (6 * M) WE := by
                    have h1 := HFIN.out _ _ _ (TOT.out _ _ _ hF)
                    rw [← Bool.or_assoc, HR9.out] at h1
                    exact After.le h1 (by have h2 := HOSL.out; have h3 := HPOS.out; omega)
                  have hW2 := (after_own n0 w.heap.size bx v xs w (Nat.le_refl _) (fun _ : Unit => ((((K0 || l3.any aR) || OP.any pR) || OS.any sr) || NM)) (fun _ : Unit => 6 * M)).putObj (s := ()) (.deferred none) hW (by omega) hKE rfl
                  have HW2 := Lib.hid hW2
                  have HKE := Lib.hid hKE
                  clear haE hF hKE hW hW2
                  gi_wp2
                  refine ⟨by simp, .inl ⟨_, _, rfl, run_takeDeferred HKE.out, ?_⟩⟩
                  exact ⟨_, results_none rfl _ _ _, rfl, HW2.out⟩
            case stp =>
              rintro D c pre W _ _ h _
              exact h.elim

end Go.Proofs.Ytihbdacmgojapaa

/- parse.Kids, cowrieref14.Kids; conditions: as each theorem states. -/
import Derived.Test.YtihbdacmgojapaaDj
namespace Go.Proofs.Ytihbdacmgojapaa
open Go.RowKit

/-- Where a row of the call's own lies. -/
theorem Own.lies {w : World} {base : Nat} {e : TypeId} {k : Nat} {v : Value} {L : List Nd} (h : Own w base e k v L) (hk : ∀ y ∈ L, y.c.length = k) (hb : base ≤ w.heap.size) : ∃ g ao cap, v = .slice ao L.length cap ∧ base ≤ g ∧ (0 < L.length → ao = some ⟨g, 0, none⟩ ∧ g < w.heap.size) ∧ L.length ≤ cap ∧
    ∀ j (h : j < L.length) i, i < k → w.cell? ⟨g, j * k + i, none⟩ = (L[j].c)[i]? := by
  have hlt := h.lt
  rcases h.2 with ⟨h1, h2⟩ | ⟨g, cap, cur, hv, h1, h2, h3, h4⟩
  · have : L = [] := List.length_eq_zero_iff.1 h2
    subst this
    exact ⟨w.heap.size, none, 0, h1, hb, fun h => by simp at h, Nat.le_refl _, fun j hj => by simp at hj⟩
  · subst hv
    refine ⟨g, some ⟨g, 0, none⟩, cap, rfl, h1, fun _ => ⟨rfl, (hlt g rfl).2⟩, h3, fun j hj i hi => ?_⟩
    have hlt2 : j * k + i < L.length * k := by
      have := Nat.mul_le_mul_right k (show j + 1 ≤ L.length by omega)
      rw [Nat.add_mul] at this
      omega
    rw [h.cellAt (j * k + i) hlt2]
    have hk' : ∀ c ∈ L.map Nd.c, c.length = k := by
      intro c hc
      obtain ⟨y, hy, rfl⟩ := List.mem_map.1 hc
      exact hk y hy
    have := flatten_at _ hk' j i (by rw [List.length_map]; exact hj) hi
    rw [List.getElem_map] at this
    exact this
theorem words_wf {w : World} {x : Nd} (h : Wf w .cmd x) : ∀ y ∈ words x, Wf w .word y := by
  cases h with
  | cmd a0 a1 a2 l2 a3 l3 a4 l4 a5 l5 a6 l6 a7 l7 a8 l8 a9 h2 q2 h3 q3 h4 q4 h5 q5 h6 q6 h7 q7 h8 q8 =>
    intro y hy
    simp only [words, Nd.sub, Nd.s, List.getD_cons_zero, List.getD_cons_succ, List.mem_append, List.mem_flatMap, List.mem_map] at hy
    rcases hy with (((hy | ⟨z, hz, hy⟩) | ⟨z, hz, rfl⟩) | ⟨z, hz, hy⟩) | ⟨z, hz, hy⟩
    · exact q2 y hy
    · have hq := q3 z hz
      cases hq with
      | assign b0 b1 b2 k2 b3 k3 b4 b5 k5 g2 r2 g3 r3 g5 r5 =>
        rcases List.mem_cons.1 hy with rfl | hy
        · exact .word b2 k2 g2 r2
        · exact r5 y hy
    · have hq := q4 z hz
      cases hq with
      | redir b0 b1 b2 k2 g2 r2 => exact .word b2 k2 g2 r2
    · have hq := q6 z hz
      cases hq with
      | «case» b0 k0 y1 g0 r0 r1 => exact r0 y hy
    · exact cond_words _ z (Nat.le_refl _) (q7 z hz) y hy
theorem kids_wf {w : World} {x : Nd} (h : Wf w .cmd x) : ∀ y ∈ kids x, Wf w .cmd y := by
  intro y hy
  have hw := words_wf h
  unfold kids at hy
  simp only [List.mem_append, List.mem_flatMap] at hy
  rcases hy with (hy | ⟨z, hz, hy⟩) | ⟨z, hz, p, hp, hy⟩
  · cases h with
    | cmd a0 a1 a2 l2 a3 l3 a4 l4 a5 l5 a6 l6 a7 l7 a8 l8 a9 h2 q2 h3 q3 h4 q4 h5 q5 h6 q6 h7 q7 h8 q8 => exact q5 y hy
  · cases h with
    | cmd a0 a1 a2 l2 a3 l3 a4 l4 a5 l5 a6 l6 a7 l7 a8 l8 a9 h2 q2 h3 q3 h4 q4 h5 q5 h6 q6 h7 q7 h8 q8 =>
      have hq := q6 z hz
      cases hq with
      | «case» b0 k0 y1 g0 r0 r1 =>
        unfold bodies at hy
        split at hy
        · cases hy
        · have : y = y1 := by simpa [Nd.sub, Nd.s] using hy
          subst this
          exact r1
  · have hq := hw z hz
    cases hq with
    | word b0 k0 g0 r0 => exact part_cmds _ p (Nat.le_refl _) (r0 p hp) y hy
def wkids (w : Nd) : List Nd := (w.sub 0).flatMap wi
theorem kids_is (x : Nd) : kids x = x.sub 3 ++ (x.sub 4).flatMap bodies ++ (words x).flatMap wkids := rfl
theorem wsub_le {x y : Nd} (h : y ∈ words x) : Wl (y.sub 0) ≤ wt x := by
  have h1 := words_le x
  have h2 : Wl (y.sub 0) ≤ Pw (words x) := by
    have hm : Wl (y.sub 0) ∈ (words x).map (fun w => Wl (w.sub 0)) := List.mem_map.2 ⟨y, h, rfl⟩
    have hle : ∀ (l : List Nat) (a : Nat), a ∈ l → a ≤ l.sum := by
      intro l a ha
      induction l with
      | nil => cases ha
      | cons b l ih =>
        rw [List.sum_cons]
        rcases List.mem_cons.1 ha with rfl | ha
        · omega
        · have := ih ha; omega
    exact hle _ _ hm
  unfold Qw at h1
  omega

set_option maxRecDepth 100000 in
set_option maxHeartbeats 8000000 in
theorem kids_any (W0 : World) (x : Nd) (w : World) (hx : Wf W0 .cmd x) (hm : wt x ≤ 1048576) (hb : Below W0.heap.size W0 w) :
    Calls Try.prog 48 #[.agg x.c.toArray] w fun e w' => ∃ v', e = .returned v' ∧ Own w' w.heap.size 48 10 v' (kids x) ∧ Below w.heap.size w w' := by
  obtain ⟨i0, hi0, hz0, hz1, hz2⟩ := info_parts inf_cmd
  have hkw := kids_le x
  have hkl := length_le (kids x)
  have hWW := words_wf hx
  have hKW := kids_wf hx
  have HWD : Hid (∀ V : World, Below W0.heap.size W0 V → Calls Try.prog 51 #[.agg x.c.toArray] V fun e w' => ∃ v', e = .returned v' ∧ Own w' V.heap.size 67 1 v' (words x) ∧ Below V.heap.size V w') := fun V hV => words_any W0 x V hx hm hV
  have HWI : Hid (∀ y ∈ words x, ∀ V : World, Below W0.heap.size W0 V → ∀ v n c, v = .slice n (y.sub 0).length c → y.c = [v] → Calls Try.prog 62 #[v] V fun e w' => ∃ v', e = .returned v' ∧ Own w' V.heap.size 48 10 v' (wkids y) ∧ Below V.heap.size V w') := fun y hy V hV v n c hv hc => by
    have hq := hWW y hy
    have hsz := wsub_le hy
    cases hq with
    | word b0 k0 g0 r0 =>
      have : b0 = v := by simpa [Nd.c] using hc
      subst this
      exact within_any W0 _ k0 _ V (Nat.le_refl _) r0 g0 hV (by have : Wl k0 ≤ wt x := hsz; omega)
  have HWF : Hid (∀ y ∈ words x, ∃ n c, y.c = [.slice n (y.sub 0).length c]) := fun y hy => by
    have hq := hWW y hy
    cases hq with
    | word b0 k0 g0 r0 =>
      obtain ⟨n, c, rfl⟩ := g0.form
      exact ⟨n, c, rfl⟩
  have HWK : Hid (∀ y ∈ words x, ∀ z ∈ wkids y, Wf W0 .cmd z) := fun y hy z hz => by
    have hq := hWW y hy
    cases hq with
    | word b0 k0 g0 r0 => exact part_cmds_all r0 z hz
  obtain ⟨WD, hWD⟩ : ∃ L, L = words x := ⟨_, rfl⟩
  have hkk := kids_is x
  rw [← hWD] at HWD HWI HWF HWK hkk
  have HWL : Hid (∀ y ∈ WD, y.c.length = 1) := fun y hy => by
    obtain ⟨n, c, h⟩ := HWF.out y hy
    rw [h]
    rfl
  have HWB : Hid (WD.length ≤ 1048576) := by
    show _ ≤ _
    rw [hWD]
    have := words_len x
    omega
  clear hWW hWD
  cases hx with
  | cmd a0 a1 a2 l2 a3 l3 a4 l4 a5 l5 a6 l6 a7 l7 a8 l8 a9 h2 q2 h3 q3 h4 q4 h5 q5 h6 q6 h7 q7 h8 q8 =>
    obtain ⟨oa2, cp2, rfl⟩ := h2.form
    obtain ⟨oa3, cp3, rfl⟩ := h3.form
    obtain ⟨oa4, cp4, rfl⟩ := h4.form
    obtain ⟨oa5, cp5, rfl⟩ := h5.form
    obtain ⟨oa6, cp6, rfl⟩ := h6.form
    obtain ⟨oa7, cp7, rfl⟩ := h7.form
    obtain ⟨oa8, cp8, rfl⟩ := h8.form
    have hsev := seven (.mk [.int .i64 a0, .string a1, .slice oa2 l2.length cp2, .slice oa3 l3.length cp3, .slice oa4 l4.length cp4, .slice oa5 l5.length cp5, .slice oa6 l6.length cp6, .slice oa7 l7.length cp7, .slice oa8 l8.length cp8, .int .i64 a9] [l2, l3, l4, l5, l6, l7, l8])
    simp only [Nd.sub, Nd.s, List.getD_cons_zero, List.getD_cons_succ] at hsev hkk
    rw [hkk] at hkw hkl ⊢
    rw [show (Nd.mk [.int .i64 a0, .string a1, .slice oa2 l2.length cp2, .slice oa3 l3.length cp3, .slice oa4 l4.length cp4, .slice oa5 l5.length cp5, .slice oa6 l6.length cp6, .slice oa7 l7.length cp7, .slice oa8 l8.length cp8, .int .i64 a9] [l2, l3, l4, l5, l6, l7, l8]).c.toArray = #[.int .i64 a0, .string a1, .slice oa2 l2.length cp2, .slice oa3 l3.length cp3, .slice oa4 l4.length cp4, .slice oa5 l5.length cp5, .slice oa6 l6.length cp6, .slice oa7 l7.length cp7, .slice oa8 l8.length cp8, .int .i64 a9] from rfl] at HWD ⊢
    have hlen : l5.length + (l6.flatMap bodies).length + (WD.flatMap wkids).length ≤ 1048576 := by
      simp only [List.length_append] at hkl
      omega
    have HLEN := Lib.hid hlen
    clear hkw hkl hlen hkk
    have HCL : Hid (∀ V : World, Below W0.heap.size W0 V → Calls Try.prog 61 #[.slice oa5 l5.length cp5] V fun e w' => ∃ v', e = .returned v' ∧ Own w' V.heap.size 48 10 v' l5 ∧ Below V.heap.size V w') := fun V hV => clone_cmds l5 _ V (h5.below (Nat.le_refl _) hV) (fun y hy => (one_cmd (q5 y hy)).2) (by have := length_le l5; omega)
    have hn6 : l6.length ≤ 1048576 := by have := length_le l6; omega
    obtain ⟨ao6, bb6, of6, ca6, hv6, hf6, hg6, hc6, hat6⟩ := h6.at
    obtain ⟨m6, hmm6⟩ : ∃ m, m = l6.length := ⟨_, rfl⟩
    rw [← hmm6] at hv6 hf6 hg6 hc6 hn6 HWD ⊢
    have HM6 := Lib.hid hmm6
    obtain ⟨rfl, rfl⟩ : oa6 = ao6 ∧ cp6 = ca6 := by simp only [Value.slice.injEq] at hv6; exact ⟨hv6.1, hv6.2.2⟩
    have HAT6 := Lib.hid hat6
    have HQ6 := Lib.hid q6
    clear hmm6 hv6 hat6 h6 q6
    clear hsev h2 q2 h3 q3 h4 q4 h5 q5 h7 q7 h8 q8 hKW
    obtain ⟨W, hW⟩ : ∃ W, W = w.alloc (.cells #[.int .i64 a0, .string a1, .slice oa2 l2.length cp2, .slice oa3 l3.length cp3, .slice oa4 l4.length cp4, .slice oa5 l5.length cp5, .slice oa6 m6 cp6, .slice oa7 l7.length cp7, .slice oa8 l8.length cp8, .int .i64 a9] 48) := ⟨_, rfl⟩
    have hbW : Below w.heap.size w W := hW ▸ (Below.refl _ _).alloc (Nat.le_refl _) _
    have HbW := Lib.hid hbW
    have HB : Hid (Below W0.heap.size W0 W) := hb.trans (hbW.mono hb.size)
    have hgW : w.heap.size < W.heap.size := by rw [hW]; simp
    have HC : Hid (∀ i, W.cell? ⟨w.heap.size, i, none⟩ = (#[.int .i64 a0, .string a1, .slice oa2 l2.length cp2, .slice oa3 l3.length cp3, .slice oa4 l4.length cp4, .slice oa5 l5.length cp5, .slice oa6 m6 cp6, .slice oa7 l7.length cp7, .slice oa8 l8.length cp8, .int .i64 a9] : Array Value)[i]?) := fun i => by rw [hW, World.cell?_alloc_new]
    have e5x : W.cell? ⟨w.heap.size, 5, none⟩ = some (.slice oa5 l5.length cp5) := HC.out 5
    clear hb
    go_enter Try.func48, Try.ntmps48
    go_wp2_with fail
    rw [← hW]
    clear hW hbW
    refine (HCL.out W HB.out).mono ?_
    rintro e w1 ⟨v1, rfl, ho1, hb1⟩
    have HO1 := Lib.hid ho1
    have HB1 := Lib.hid hb1
    have e6x : w1.cell? ⟨w.heap.size, 6, none⟩ = some (.slice oa6 m6 cp6) := (hb1.cell (p := ⟨w.heap.size, 6, none⟩) hgW).trans (HC.out 6)
    clear ho1 hb1
    go_wp2_with fail
    go_loopw [3, 14] (fun ov i wr => ∃ k : Nat, k ≤ m6 ∧ i = .int .i64 k ∧ Hid (Own wr W.heap.size 48 10 ov (l5 ++ (l6.take k).flatMap bodies)) ∧ Hid (Below W.heap.size W wr)) (fun _ i _ => m6 - (intOf i).toNat)
    case atStart => exact ⟨0, Nat.zero_le _, rfl, by rw [List.take_zero, List.flatMap_nil, List.append_nil]; exact HO1.out, HB1.out⟩
    case round =>
      obtain ⟨k, hk, rfl, ho, hbr⟩ := hrel
      have hb0 : Below W0.heap.size W0 wr := HB.out.trans (hbr.out.mono HB.out.size)
      by_cases hlt : k < m6
      · have hkl : k < l6.length := by rw [← HM6.out]; exact hlt
        have hfj := hf6 (by omega)
        subst hfj
        have hgb := hg6 (by omega)
        have hwf := HQ6.out l6[k] (List.getElem_mem hkl)
        have hat := HAT6.out k hkl
        have hsn := fm_snoc bodies l6 k hkl
        obtain ⟨y, hy⟩ : ∃ y, y = l6[k] := ⟨_, rfl⟩
        rw [← hy] at hwf hat hsn
        clear hy
        cases hwf with
        | «case» b0 k0 y1 g0 r0 r1 =>
          obtain ⟨p0, c0, rfl⟩ := g0.form
          have HNC : Hid (∀ c ∈ [y1.c], ∀ u ∈ c, u.oneCell' = true) := by
            intro c hc u hu
            simp only [List.mem_cons, List.not_mem_nil, or_false] at hc
            subst hc
            exact (one_cmd r1).2 u hu
          have hbd : bodies (.mk (.slice p0 k0.length c0 :: y1.c) [k0, [y1]]) = if kdOf y1 == 0 then [] else [y1] := rfl
          rw [hbd] at hsn
          cases r1 with
          | cmd ya0 ya1 ya2 yl2 ya3 yl3 ya4 yl4 ya5 yl5 ya6 yl6 ya7 yl7 ya8 yl8 ya9 yh2 yq2 yh3 yq3 yh4 yq4 yh5 yq5 yh6 yq6 yh7 yq7 yh8 yq8 =>
            obtain ⟨yo2, yc2, rfl⟩ := yh2.form
            obtain ⟨yo3, yc3, rfl⟩ := yh3.form
            obtain ⟨yo4, yc4, rfl⟩ := yh4.form
            obtain ⟨yo5, yc5, rfl⟩ := yh5.form
            obtain ⟨yo6, yc6, rfl⟩ := yh6.form
            obtain ⟨yo7, yc7, rfl⟩ := yh7.form
            obtain ⟨yo8, yc8, rfl⟩ := yh8.form
            have d0 : wr.cell? ⟨bb6, of6 + k * 11 + 0, none⟩ = some (.slice p0 k0.length c0) := (hb0.cell (p := ⟨bb6, of6 + k * 11 + 0, none⟩) hgb).trans (hat 0 (by decide))
            have d1 : wr.cell? ⟨bb6, of6 + k * 11 + 1, none⟩ = some (.int .i64 ya0) := (hb0.cell (p := ⟨bb6, of6 + k * 11 + 1, none⟩) hgb).trans (hat 1 (by decide))
            have d2 : wr.cell? ⟨bb6, of6 + k * 11 + 2, none⟩ = some (.string ya1) := (hb0.cell (p := ⟨bb6, of6 + k * 11 + 2, none⟩) hgb).trans (hat 2 (by decide))
            have d3 : wr.cell? ⟨bb6, of6 + k * 11 + 3, none⟩ = some (.slice yo2 yl2.length yc2) := (hb0.cell (p := ⟨bb6, of6 + k * 11 + 3, none⟩) hgb).trans (hat 3 (by decide))
            have d4 : wr.cell? ⟨bb6, of6 + k * 11 + 4, none⟩ = some (.slice yo3 yl3.length yc3) := (hb0.cell (p := ⟨bb6, of6 + k * 11 + 4, none⟩) hgb).trans (hat 4 (by decide))
            have d5 : wr.cell? ⟨bb6, of6 + k * 11 + 5, none⟩ = some (.slice yo4 yl4.length yc4) := (hb0.cell (p := ⟨bb6, of6 + k * 11 + 5, none⟩) hgb).trans (hat 5 (by decide))
            have d6 : wr.cell? ⟨bb6, of6 + k * 11 + 6, none⟩ = some (.slice yo5 yl5.length yc5) := (hb0.cell (p := ⟨bb6, of6 + k * 11 + 6, none⟩) hgb).trans (hat 6 (by decide))
            have d7 : wr.cell? ⟨bb6, of6 + k * 11 + 7, none⟩ = some (.slice yo6 yl6.length yc6) := (hb0.cell (p := ⟨bb6, of6 + k * 11 + 7, none⟩) hgb).trans (hat 7 (by decide))
            have d8 : wr.cell? ⟨bb6, of6 + k * 11 + 8, none⟩ = some (.slice yo7 yl7.length yc7) := (hb0.cell (p := ⟨bb6, of6 + k * 11 + 8, none⟩) hgb).trans (hat 8 (by decide))
            have d9 : wr.cell? ⟨bb6, of6 + k * 11 + 9, none⟩ = some (.slice yo8 yl8.length yc8) := (hb0.cell (p := ⟨bb6, of6 + k * 11 + 9, none⟩) hgb).trans (hat 9 (by decide))
            have d10 : wr.cell? ⟨bb6, of6 + k * 11 + 10, none⟩ = some (.int .i64 ya9) := (hb0.cell (p := ⟨bb6, of6 + k * 11 + 10, none⟩) hgb).trans (hat 10 (by decide))
            simp only [Nat.add_zero] at d0
            have hkd : kdOf (.mk [.int .i64 ya0, .string ya1, .slice yo2 yl2.length yc2, .slice yo3 yl3.length yc3, .slice yo4 yl4.length yc4, .slice yo5 yl5.length yc5, .slice yo6 yl6.length yc6, .slice yo7 yl7.length yc7, .slice yo8 yl8.length yc8, .int .i64 ya9] [yl2, yl3, yl4, yl5, yl6, yl7, yl8]) = ya0 := rfl
            rw [hkd] at hsn
            obtain ⟨A, hA⟩ : ∃ A, A = l5 ++ (l6.take k).flatMap bodies := ⟨_, rfl⟩
            rw [← hA] at ho
            have hlen : (l5 ++ (l6.take (k + 1)).flatMap bodies).length ≤ 1048576 := by
              have h1 := fm_take_len bodies l6 (k + 1)
              have h2 := HLEN.out
              rw [List.length_append]
              omega
            have HSN := Lib.hid hsn
            have HA := Lib.hid hA
            clear hat g0 r0 yh2 yq2 yh3 yq3 yh4 yq4 yh5 yq5 yh6 yq6 yh7 yq7 yh8 yq8 hsn hA hbd hkd
            have hki : (k : Int) < (m6 : Int) := by omega
            by_cases hz : ya0 = 0
            · subst hz
              have HAW : Hid (l5 ++ (l6.take (k + 1)).flatMap bodies = A) := by
                show _ = _
                rw [HSN.out, HA.out]
                simp
              clear hlen
              go_wp2_with fail
              go_roundw
              case rel => exact ⟨k + 1, by omega, by go_num, HAW.out ▸ ownsRow_below ho.out ((Below.refl _ _).alloc (Nat.le_refl _) _), hbr.out.alloc hbr.out.size _⟩
              case measure => simp [intOf]; omega
            · have hz' : (ya0 != 0) = true := by simpa using hz
              have hz2' : (ya0 == 0) = false := by simpa using hz
              have HAW : Hid (l5 ++ (l6.take (k + 1)).flatMap bodies = A ++ [.mk [.int .i64 ya0, .string ya1, .slice yo2 yl2.length yc2, .slice yo3 yl3.length yc3, .slice yo4 yl4.length yc4, .slice yo5 yl5.length yc5, .slice yo6 yl6.length yc6, .slice yo7 yl7.length yc7, .slice yo8 yl8.length yc8, .int .i64 ya9] [yl2, yl3, yl4, yl5, yl6, yl7, yl8]]) := by
                show _ = _
                rw [HSN.out, HA.out, hz2', ← List.append_assoc]
                rfl
              have hlen' : A.length + 1 ≤ 1048576 := by
                have := hlen
                rw [HAW.out, List.length_append] at this
                exact this
              have n1 : Hid (A.length + 1 ≤ maxLen) := by show _ ≤ _; unfold maxLen; omega
              have n2 : Hid ((A.length + 1) * 200 ≤ 140737488355328) := by show _ ≤ _; omega
              clear hlen hlen'
              obtain ⟨V, hV⟩ : ∃ V, V = wr.alloc (Obj.cells #[.slice p0 k0.length c0, .int .i64 ya0, .string ya1, .slice yo2 yl2.length yc2, .slice yo3 yl3.length yc3, .slice yo4 yl4.length yc4, .slice yo5 yl5.length yc5, .slice yo6 yl6.length yc6, .slice yo7 yl7.length yc7, .slice yo8 yl8.length yc8, .int .i64 ya9] 62) := ⟨_, rfl⟩
              have hbV : Below wr.heap.size wr V := hV ▸ (Below.refl _ _).alloc (Nat.le_refl _) _
              have hVs : V.heap.size = wr.heap.size + 1 := by rw [hV]; simp
              have HOV : Hid (Own V W.heap.size 48 10 u3 A) := ownsRow_below ho.out hbV
              have HBV0 : Hid (Below W.heap.size W V) := hbr.out.trans (hbV.mono hbr.out.size)
              have hVz := HBV0.out.size
              have HBV : Hid (Below W.heap.size W (V.alloc (.cells #[.int .i64 ya0, .string ya1, .slice yo2 yl2.length yc2, .slice yo3 yl3.length yc3, .slice yo4 yl4.length yc4, .slice yo5 yl5.length yc5, .slice yo6 yl6.length yc6, .slice yo7 yl7.length yc7, .slice yo8 yl8.length yc8, .int .i64 ya9] 48))) := HBV0.out.alloc hVz _
              clear ho
              go_wp2_with (at_builtin; rw [← hV]; refine wpList_append_sla _ rfl (.tmp 22) (.tmp 25) 43 rfl W.heap.size 48 i0 _ 10 200 Try.underlying43 hi0 hz0 hz1 hz2 rfl (by decide) u3 A.length (A.map Nd.c).flatten rfl (HOV.out.alloc _) _ [[.int .i64 ya0, .string ya1, .slice yo2 yl2.length yc2, .slice yo3 yl3.length yc3, .slice yo4 yl4.length yc4, .slice yo5 yl5.length yc5, .slice yo6 yl6.length yc6, .slice yo7 yl7.length yc7, .slice yo8 yl8.length yc8, .int .i64 ya9]] 1 rfl rfl (sla_at V 48 [.int .i64 ya0, .string ya1, .slice yo2 yl2.length yc2, .slice yo3 yl3.length yc3, .slice yo4 yl4.length yc4, .slice yo5 yl5.length yc5, .slice yo6 yl6.length yc6, .slice yo7 yl7.length yc7, .slice yo8 yl8.length yc8, .int .i64 ya9] (wr.heap.size + 1) hVs.symm) HNC.out n1.out n2.out (by simp; omega) (V.heap.size + 1) (by simp) ?_; intro ao1 cap1 w1 hown1 hgrow1 hat1)
              have HO3 : Hid (Own w1 W.heap.size 48 10 (.slice ao1 (A.length + 1) cap1) (l5 ++ (l6.take (k + 1)).flatMap bodies)) := by
                show Own _ _ _ _ _ _
                rw [HAW.out]
                exact Own.one hown1
              have HB3 := Lib.hid (HBV.out.grown hgrow1 (by simp; omega) (fun k hk => (HOV.out.lt k hk).1))
              clear hown1 hgrow1 hat1
              go_roundw
              case rel => exact ⟨k + 1, by omega, by go_num, HO3.out, HB3.out⟩
              case measure => simp [intOf]; omega
      · obtain rfl : k = m6 := by omega
        have HO : Hid (Own wr W.heap.size 48 10 u3 (l5 ++ l6.flatMap bodies)) := by
          have := ho.out
          rw [List.take_of_length_le (by rw [HM6.out]; exact Nat.le_refl _)] at this
          exact this
        have HBR := Lib.hid hbr.out
        have HB0 := Lib.hid hb0
        clear ho hbr hb0
        have x0 : wr.cell? ⟨w.heap.size, 0, none⟩ = some (.int .i64 a0) := (HBR.out.cell (p := ⟨w.heap.size, 0, none⟩) hgW).trans (HC.out 0)
        have x1 : wr.cell? ⟨w.heap.size, 1, none⟩ = some (.string a1) := (HBR.out.cell (p := ⟨w.heap.size, 1, none⟩) hgW).trans (HC.out 1)
        have x2 : wr.cell? ⟨w.heap.size, 2, none⟩ = some (.slice oa2 l2.length cp2) := (HBR.out.cell (p := ⟨w.heap.size, 2, none⟩) hgW).trans (HC.out 2)
        have x3 : wr.cell? ⟨w.heap.size, 3, none⟩ = some (.slice oa3 l3.length cp3) := (HBR.out.cell (p := ⟨w.heap.size, 3, none⟩) hgW).trans (HC.out 3)
        have x4 : wr.cell? ⟨w.heap.size, 4, none⟩ = some (.slice oa4 l4.length cp4) := (HBR.out.cell (p := ⟨w.heap.size, 4, none⟩) hgW).trans (HC.out 4)
        have x5 : wr.cell? ⟨w.heap.size, 5, none⟩ = some (.slice oa5 l5.length cp5) := (HBR.out.cell (p := ⟨w.heap.size, 5, none⟩) hgW).trans (HC.out 5)
        have x6 : wr.cell? ⟨w.heap.size, 6, none⟩ = some (.slice oa6 k cp6) := (HBR.out.cell (p := ⟨w.heap.size, 6, none⟩) hgW).trans (HC.out 6)
        have x7 : wr.cell? ⟨w.heap.size, 7, none⟩ = some (.slice oa7 l7.length cp7) := (HBR.out.cell (p := ⟨w.heap.size, 7, none⟩) hgW).trans (HC.out 7)
        have x8 : wr.cell? ⟨w.heap.size, 8, none⟩ = some (.slice oa8 l8.length cp8) := (HBR.out.cell (p := ⟨w.heap.size, 8, none⟩) hgW).trans (HC.out 8)
        have x9 : wr.cell? ⟨w.heap.size, 9, none⟩ = some (.int .i64 a9) := (HBR.out.cell (p := ⟨w.heap.size, 9, none⟩) hgW).trans (HC.out 9)
        go_wp2_with fail
        refine (HWD.out wr HB0.out).mono ?_
        rintro e w2 ⟨v2, rfl, ho2, hb2⟩
        have hwz := hb2.size
        obtain ⟨gw, aw, cpw, rfl, hgw1, hgw2, hgw3, hcw⟩ := ho2.lies HWL.out hwz
        have HO2 := Lib.hid (ownsRow_below HO.out hb2)
        have HF : Hid (some gw ≠ u3.ownBlock) := fun e => absurd (HO.out.lt gw e.symm).2 (Nat.not_lt.2 hgw1)
        have HB2 := Lib.hid (HBR.out.trans (hb2.mono HBR.out.size))
        have HCW := Lib.hid hcw
        obtain ⟨mw, hmw⟩ : ∃ m, m = WD.length := ⟨_, rfl⟩
        have hmwl : mw ≤ 1048576 := by rw [hmw]; exact HWB.out
        rw [← hmw] at hgw2 hgw3 ⊢
        have HMW := Lib.hid hmw
        clear ho2 hb2 hcw hmw x0 x1 x2 x3 x4 x5 x6 x7 x8 x9
        go_wp2_with fail
        go_loopw [3, 31] (fun ov i wr => ∃ n : Nat, n ≤ mw ∧ i = .int .i64 n ∧ Hid (Own wr W.heap.size 48 10 ov (l5 ++ l6.flatMap bodies ++ (WD.take n).flatMap wkids)) ∧ Hid (Below W.heap.size W wr) ∧ Hid (some gw ≠ ov.ownBlock) ∧ Hid (w2.heap.size ≤ wr.heap.size) ∧ Hid (∀ j (h : j < WD.length) i, i < 1 → wr.cell? ⟨gw, j * 1 + i, none⟩ = (WD[j].c)[i]?)) (fun _ i _ => mw - (intOf i).toNat)
        case atStart => exact ⟨0, Nat.zero_le _, rfl, by rw [List.take_zero, List.flatMap_nil, List.append_nil]; exact HO2.out, HB2.out, HF.out, Nat.le_refl _, HCW.out⟩
        case round =>
          obtain ⟨n, hn, rfl, ho, hbr, hf, hz, hcl⟩ := hrel
          by_cases hlt : n < mw
          · have hnl : n < WD.length := by rw [← HMW.out]; exact hlt
            obtain ⟨haw, hgl⟩ := hgw2 (by omega)
            subst haw
            have hgr : gw < wr.heap.size := Nat.lt_of_lt_of_le hgl hz.out
            have d0 := hcl.out n hnl 0 (by decide)
            have hsn := fm_snoc wkids WD n hnl
            have hym := List.getElem_mem hnl
            obtain ⟨y, hy⟩ : ∃ y, y = WD[n] := ⟨_, rfl⟩
            rw [← hy] at d0 hsn hym
            clear hy
            obtain ⟨pn, pc, hyc⟩ := HWF.out y hym
            have HCI : Hid (∀ V : World, Below W0.heap.size W0 V → Calls Try.prog 62 #[.slice pn (y.sub 0).length pc] V fun e w' => ∃ v', e = .returned v' ∧ Own w' V.heap.size 48 10 v' (wkids y) ∧ Below V.heap.size V w') := fun V hV => HWI.out y hym V hV _ pn pc rfl hyc
            have HZ := Lib.hid (HWK.out y hym)
            rw [hyc] at d0
            have d0' : wr.cell? ⟨gw, n, none⟩ = some (.slice pn (y.sub 0).length pc) := by
              have := d0
              simp only [Nat.mul_one, Nat.add_zero] at this
              exact this
            obtain ⟨B, hB⟩ : ∃ B, B = wkids y := ⟨_, rfl⟩
            obtain ⟨A, hA⟩ : ∃ A, A = l5 ++ l6.flatMap bodies ++ (WD.take n).flatMap wkids := ⟨_, rfl⟩
            rw [← hB] at HCI HZ hsn
            rw [← hA] at ho
            have hAW : l5 ++ l6.flatMap bodies ++ (WD.take (n + 1)).flatMap wkids = A ++ B := by
              rw [hsn, ← List.append_assoc, ← hA]
            have hlen : A.length + B.length ≤ 1048576 := by
              have h1 := fm_take_len wkids WD (n + 1)
              have h2 := HLEN.out
              have h3 := congrArg List.length hAW
              simp only [List.length_append] at h3
              omega
            have n1 : Hid (A.length + B.length ≤ maxLen) := by show _ ≤ _; unfold maxLen; omega
            have n2 : Hid ((A.length + B.length) * 200 ≤ 140737488355328) := by show _ ≤ _; omega
            have HAW := Lib.hid hAW
            have HBL : Hid (∀ y ∈ B, y.c.length = 10) := fun y hy => (one_cmd (HZ.out y hy)).1
            have HBO : Hid (∀ c ∈ B.map Nd.c, ∀ u ∈ c, u.oneCell' = true) := one_all fun y hy => (one_cmd (HZ.out y hy)).2
            obtain ⟨q, hq⟩ : ∃ q, q = (y.sub 0).length := ⟨_, rfl⟩
            rw [← hq] at d0' HCI
            have hni : (n : Int) < (mw : Int) := by omega
            clear d0 hA hB hsn hAW hlen hyc hq
            obtain ⟨V, hV⟩ : ∃ V, V = wr.alloc (Obj.cells #[.slice pn q pc] 67) := ⟨_, rfl⟩
            have hbV : Below wr.heap.size wr V := hV ▸ (Below.refl _ _).alloc (Nat.le_refl _) _
            have HbV := Lib.hid hbV
            clear hbV
            have HOV : Hid (Own V W.heap.size 48 10 u3 A) := ownsRow_below ho.out HbV.out
            have HBV : Hid (Below W.heap.size W V) := hbr.out.trans (HbV.out.mono hbr.out.size)
            have HB0V : Hid (Below W0.heap.size W0 V) := HB.out.trans (HBV.out.mono HB.out.size)
            have HVZ : Hid (wr.heap.size ≤ V.heap.size) := HbV.out.size
            go_wp2_with fail
            rw [← hV]
            refine (HCI.out V HB0V.out).mono ?_
            rintro e w3 ⟨v3, rfl, ho3, hb3⟩
            obtain ⟨ao3, cap3, rfl⟩ := ho3.form
            have HOE := Lib.hid (ownsRow_below HOV.out hb3)
            have HSE := Lib.hid (ho3.sla HBL.out (by decide))
            have HBE := Lib.hid (HBV.out.trans (hb3.mono HBV.out.size))
            have HCE : Hid (∀ j (h : j < WD.length) i, i < 1 → w3.cell? ⟨gw, j * 1 + i, none⟩ = (WD[j].c)[i]?) := fun j hj i hi => (hb3.cell (p := ⟨gw, j * 1 + i, none⟩) (Nat.lt_of_lt_of_le hgr HVZ.out)).trans ((HbV.out.cell (p := ⟨gw, j * 1 + i, none⟩) hgr).trans (hcl.out j hj i hi))
            have hEz := HBE.out.size
            have hgE : gw < w3.heap.size := Nat.lt_of_lt_of_le hgr (Nat.le_trans HVZ.out hb3.size)
            have HZE : Hid (w2.heap.size ≤ w3.heap.size) := Nat.le_trans hz.out (Nat.le_trans HVZ.out hb3.size)
            clear ho3 hb3
            go_wp2_with (at_builtin; refine wpList_append_sla _ rfl (.tmp 35) (.tmp 38) 43 rfl W.heap.size 48 i0 _ 10 200 Try.underlying43 hi0 hz0 hz1 hz2 rfl (by decide) u3 A.length (A.map Nd.c).flatten rfl HOE.out _ (B.map Nd.c) B.length (by rw [List.length_map]) rfl HSE.out HBO.out n1.out n2.out hEz w3.heap.size rfl ?_; intro ao1 cap1 w4 hown1 hgrow1 hat1)
            have HO4 : Hid (Own w4 W.heap.size 48 10 (.slice ao1 (A.length + B.length) cap1) (l5 ++ l6.flatMap bodies ++ (WD.take (n + 1)).flatMap wkids)) := by
              show Own _ _ _ _ _ _
              rw [HAW.out]
              exact Own.push hown1
            have HB4 := Lib.hid (HBE.out.grown hgrow1 hEz (fun k hk => (HOE.out.lt k hk).1))
            have HF4 := Lib.hid (far_of hat1 hf.out hgE)
            have HC4 : Hid (∀ j (h : j < WD.length) i, i < 1 → w4.cell? ⟨gw, j * 1 + i, none⟩ = (WD[j].c)[i]?) := fun j hj i hi => (hgrow1.cell_far ⟨gw, j * 1 + i, none⟩ hgE hf.out).trans (HCE.out j hj i hi)
            have HZ4 : Hid (w2.heap.size ≤ w4.heap.size) := Nat.le_trans HZE.out hgrow1.size
            clear hown1 hgrow1 hat1
            go_roundw
            case rel => exact ⟨n + 1, by omega, by go_num, HO4.out, HB4.out, HF4.out, HZ4.out, HC4.out⟩
            case measure => simp [intOf]; omega
          · obtain rfl : n = mw := by omega
            go_wp2_with fail
            go_ret
            refine ⟨_, rfl, ?_, HbW.out.trans (hbr.out.mono HbW.out.size)⟩
            have := ho.out
            rw [List.take_of_length_le (by rw [HMW.out]; exact Nat.le_refl _)] at this
            exact ownsRow_base this HbW.out.size
end Go.Proofs.Ytihbdacmgojapaa

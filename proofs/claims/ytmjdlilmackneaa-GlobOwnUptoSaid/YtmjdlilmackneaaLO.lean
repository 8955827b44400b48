/- The walk of GlobOwn; conditions: as each theorem states. -/
import Derived.Test.YtmjdlilmackneaaGd
namespace Go.Proofs.Ytmjdlilmackneaa
open Go.RowKit

set_option maxRecDepth 100000 in
set_option maxHeartbeats 2000000 in
theorem same_any (u v : Value) (p : List Ch) (w : World) (hu : PatOf p u w) (hv : PatOf p v w) (hm : p.length ≤ 4611686018427387904) :
    Calls Try.prog 15 #[u, v] w fun e w' => e = .returned (.bool true) ∧ Below w.heap.size w w' := by
  obtain ⟨au, bu, ou, cu, rfl, -, hau, hgu, hlu⟩ := hu
  obtain ⟨av, bv, ov, cv, rfl, -, hav, hgv, hlv⟩ := hv
  obtain ⟨m, hmm⟩ : ∃ m, m = p.length := ⟨_, rfl⟩
  rw [← hmm] at hau hav hgu hgv hm ⊢
  have HM := Lib.hid hmm
  have HU := Lib.hid hlu
  have HV := Lib.hid hlv
  clear hmm hlu hlv
  go_enter Try.func15, Try.ntmps15
  go_wp2_with fail
  go_loopw [5] (fun i wr => ∃ k : Nat, k ≤ m ∧ i = .int .i64 k ∧ Hid (Below w.heap.size w wr)) (fun i _ => m - (intOf i).toNat)
  case atStart => exact ⟨0, Nat.zero_le _, rfl, Below.refl _ _⟩
  case round =>
    obtain ⟨k, hk, rfl, hb⟩ := hrel
    by_cases hlt : k < m
    · have hkl : k < p.length := by rw [← HM.out]; exact hlt
      obtain rfl := hau (by omega)
      obtain rfl := hav (by omega)
      obtain ⟨c0, c1⟩ := HU.out k hkl
      have d0 := (hb.out.cell (p := ⟨bu, ou + k * 2, none⟩) (hgu (by omega))).trans c0
      have d1 := (hb.out.cell (p := ⟨bu, ou + k * 2 + 1, none⟩) (hgu (by omega))).trans c1
      obtain ⟨c2, c3⟩ := HV.out k hkl
      have d2 := (hb.out.cell (p := ⟨bv, ov + k * 2, none⟩) (hgv (by omega))).trans c2
      have d3 := (hb.out.cell (p := ⟨bv, ov + k * 2 + 1, none⟩) (hgv (by omega))).trans c3
      obtain ⟨x, hx⟩ : ∃ x, x = p[k].1 := ⟨_, rfl⟩
      obtain ⟨q, hq⟩ : ∃ q, q = p[k].2 := ⟨_, rfl⟩
      rw [← hx] at d0 d2
      rw [← hq] at d1 d3
      clear hx hq c0 c1 c2 c3
      have i0 : (0 : Int) ≤ (k : Int) := Int.natCast_nonneg _
      have i1 : (k : Int) < (m : Int) := by omega
      go_upto_region 6 with fail
      go_quiet (fail)
      go_wp2_with fail
      go_round
      case rel => exact ⟨k + 1, by omega, by go_num, below_drewN hb.out _⟩
      case measure => simp [intOf]; omega
    · go_wp2_with fail
      go_ret
      exact ⟨rfl, hb.out⟩

theorem setCell_some {w : World} {p q : Addr} {x v : Value} (h : w.cell? q = some v) : ∃ v', (w.setCell p x).cell? q = some v' := by
  by_cases e : p = q
  · exact ⟨x, e ▸ World.cell?_setCell_same w p x (e ▸ h)⟩
  · exact ⟨v, (World.cell?_setCell_other w p q x e).trans h⟩
theorem row_parts {base n : Nat} {p : List Ch} {v : Value} {w : World} (hl : p.length = n) (h : w.ownsRow base 25 2 v n (chCells p)) : ∃ ao bb cap, v = .slice ao n cap ∧ n ≤ cap ∧ (0 < n → ao = some ⟨bb, 0, none⟩ ∧ base ≤ bb ∧ bb < w.heap.size) ∧ Reads bb 0 p w := by
  subst hl
  have hlt := h.lt
  rcases h.2 with ⟨h1, h2⟩ | ⟨g, cap, cur, hv, h1, h2, h3, h4⟩
  · have : p = [] := List.length_eq_zero_iff.1 h2
    subst this
    exact ⟨none, 0, 0, h1, Nat.le_refl _, fun h => by simp at h, fun j hj => by simp at hj⟩
  · subst hv
    refine ⟨some ⟨g, 0, none⟩, g, cap, rfl, h3, fun _ => ⟨rfl, hlt g rfl⟩, fun j hj => ?_⟩
    have hc := chCells_at p j hj
    rw [Nat.zero_add, h.cellAt (j * 2) (by omega), h.cellAt (j * 2 + 1) (by omega)]
    exact hc

set_option maxRecDepth 100000 in
set_option maxHeartbeats 2000000 in
theorem own_walk (s : ByteArray) (w : World) (hs : s.size ≤ 1048576) :
    Calls Try.prog 5 #[.string s] w fun e w' => e = .returned (.bool true) ∧ Below w.heap.size w w' := by
  go_enter Try.func5, Try.ntmps5
  go_wp2_with fail
  refine (alive_any _).mono ?_
  rintro e w1 ⟨rfl, hb1⟩
  have HB := Lib.hid hb1
  clear hb1
  go_wp2_with fail
  refine (plain_any s false _ (by omega)).mono ?_
  rintro e w2 ⟨va, rfl, hoa, hb2⟩
  have HB2 := Lib.hid (HB.out.trans (hb2.mono HB.out.size))
  have hz1 : w.heap.size ≤ w1.heap.size := HB.out.size
  have HOA := Lib.hid hoa
  clear hb2 hoa
  go_wp2_with fail
  refine (plain_any s false _ (by omega)).mono ?_
  rintro e w3 ⟨vb, rfl, hob, hb3⟩
  have HB3 := Lib.hid (HB2.out.trans (hb3.mono HB2.out.size))
  have hoa3 : w3.ownsRow w1.heap.size 25 2 va s.size (chCells (plain false s.data.toList)) := ownsRow_keep HOA.out fun k hk => hb3.block k (HOA.out.lt k hk).2
  obtain ⟨n, hn⟩ : ∃ n, n = s.size := ⟨_, rfl⟩
  have hn' : n ≤ 1048576 := by omega
  have hpl := plain_length false s
  rw [← hn] at hpl hoa3 hob
  obtain ⟨ao, ga, ca, rfl, -, ha, -⟩ := row_parts hpl hoa3
  obtain ⟨bo, gb, cb, rfl, hcb, hb, hrb⟩ := row_parts hpl hob
  have hcells : ∀ j, j < n * 2 → (∃ u, w3.cell? ⟨ga, j, none⟩ = some u) ∧ w3.frozen? ⟨ga, j, none⟩ = false := fun j hj => by
    obtain ⟨rfl, -, -⟩ := ha (by omega)
    have h1 := hoa3.cellAt j hj
    have hl := chCells_length (plain false s.data.toList)
    rw [hpl] at hl
    exact ⟨⟨_, by rw [h1]; exact List.getElem?_eq_getElem (by omega)⟩, hoa3.frozenAt j⟩
  have hne : 0 < n → ga ≠ gb ∧ w1.heap.size ≤ ga := fun h => by
    obtain ⟨h1, h2, h3⟩ := ha h
    obtain ⟨h4, h5, h6⟩ := hb h
    have h7 := (HOA.out.lt ga (by rw [h1]; rfl)).2
    omega
  have hz1' : w.heap.size ≤ w1.heap.size := hz1
  have HRB := Lib.hid hrb
  have HCELLS := Lib.hid hcells
  have HA := Lib.hid ha
  have HBB := Lib.hid hb
  have HNE := Lib.hid hne
  have HPL := Lib.hid hpl
  have HN : Hid (n = s.size) := hn
  clear hb3 hob hoa3 hpl HOA ha hb hrb hcells hne hn
  go_wp2_with fail
  go_loopw [5] (fun i wr => ∃ k : Nat, k ≤ n ∧ i = .int .i64 k ∧ Hid (Reads gb 0 (plain false s.data.toList) wr) ∧ Hid (∀ j, j < n * 2 → (∃ u, wr.cell? ⟨ga, j, none⟩ = some u) ∧ wr.frozen? ⟨ga, j, none⟩ = false) ∧ w3.heap.size ≤ wr.heap.size ∧ Hid (Below w.heap.size w wr)) (fun i _ => n - (intOf i).toNat)
  case atStart => exact ⟨0, Nat.zero_le _, rfl, HRB.out, HCELLS.out, Nat.le_refl _, HB3.out⟩
  case round =>
    obtain ⟨k, hk, rfl, hr, hcl, hzr, hbr⟩ := hrel
    by_cases hlt : k < n
    · obtain ⟨rfl, -, -⟩ := HA.out (by omega)
      obtain ⟨hne, hgz⟩ := HNE.out (by omega)
      obtain ⟨⟨u0, d0⟩, f0⟩ := hcl.out (k * 2) (by omega)
      obtain ⟨⟨u1, d1⟩, f1⟩ := hcl.out (k * 2 + 1) (by omega)
      go_wp2_with fail
      go_round
      case rel =>
        refine ⟨k + 1, by omega, by go_num, ?_, ?_, by simpa using hzr, ?_⟩
        · refine hr.out.same fun o => ?_
          go_light
          go_simp
        · intro j hj
          obtain ⟨⟨u, hu⟩, hf⟩ := hcl.out j hj
          obtain ⟨u', hu'⟩ := setCell_some (x := .int .u8 7) (p := ⟨ga, k * 2, none⟩) hu
          refine ⟨setCell_some hu', ?_⟩
          rw [World.frozen?_setCell, World.frozen?_setCell]
          exact hf
        · exact (hbr.out.setCell (by show w.heap.size ≤ ga; omega) _).setCell (by show w.heap.size ≤ ga; omega) _
      case measure => simp [intOf]; omega
    · have hp : PatOf (plain false s.data.toList) (.slice bo n cb) wr := by
        refine ⟨bo, gb, 0, cb, by rw [HPL.out], by rw [HPL.out]; exact hcb, fun h => (HBB.out (by rw [HPL.out] at h; exact h)).1, fun h => ?_, hr.out⟩
        have := (HBB.out (by rw [HPL.out] at h; exact h)).2.2
        omega
      have HP := Lib.hid hp
      clear hp
      go_wp2_with fail
      refine (rplain_any s false _ (by omega)).mono ?_
      rintro e w5 ⟨vc, rfl, hoc, hb5⟩
      have HPC := Lib.hid (plain_pat hoc)
      have HP5 := Lib.hid (HP.out.below hb5)
      have HB5 := Lib.hid (hbr.out.trans (hb5.mono hbr.out.size))
      clear hoc hb5
      go_wp2_with fail
      refine (same_any _ _ _ _ HP5.out HPC.out (by rw [HPL.out]; omega)).mono ?_
      rintro e w6 ⟨rfl, hb6⟩
      have HB6 := Lib.hid (HB5.out.trans (hb6.mono HB5.out.size))
      clear hb6
      go_wp2_with fail
      go_ret
      exact ⟨rfl, HB6.out⟩
end Go.Proofs.Ytmjdlilmackneaa

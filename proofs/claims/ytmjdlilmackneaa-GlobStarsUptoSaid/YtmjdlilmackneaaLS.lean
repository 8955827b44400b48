/- The walk of GlobStars; conditions: as each theorem states. -/
import Derived.Test.YtmjdlilmackneaaGd
import Derived.Laws.AppendOwnNone
namespace Go.Proofs.Ytmjdlilmackneaa
open Go.RowKit

theorem opens_snoc (p : List Ch) (k : Nat) (h : k < p.length) : opens (p.take (k + 1)) = (opens (p.take k) || opn p[k] 91) := by
  unfold opens
  rw [List.take_succ_eq_append_getElem h, List.any_append]
  simp

set_option maxRecDepth 100000 in
set_option maxHeartbeats 2000000 in
theorem lopen_any (v : Value) (p : List Ch) (w : World) (hp : PatOf p v w) (hm : p.length ≤ 4611686018427387904) :
    Calls Try.prog 12 #[v] w fun e w' => e = .returned (.bool (opens p)) ∧ w = w' := by
  obtain ⟨ao, b, o, cap, rfl, hcap, ha, hg, hl⟩ := hp
  obtain ⟨m, hmm⟩ : ∃ m, m = p.length := ⟨_, rfl⟩
  rw [← hmm] at ha hm hg hcap ⊢
  have HM := Lib.hid hmm
  clear hmm
  have HL := Lib.hid hl
  clear hl
  go_enter Try.func12, Try.ntmps12
  go_wp2_with fail
  go_loop [3] (fun i => ∃ k : Nat, k ≤ m ∧ i = .int .i64 k ∧ Hid (opens (p.take k) = false)) (fun i => m - (intOf i).toNat)
  case atStart => exact ⟨0, Nat.zero_le _, rfl, rfl⟩
  case round =>
    obtain ⟨k, hk, rfl, hz⟩ := hrel
    by_cases hlt : k < m
    · have hkl : k < p.length := by rw [← HM.out]; exact hlt
      obtain rfl := ha (by omega)
      obtain ⟨d0, d1⟩ := HL.out k hkl
      have hsn := opens_snoc p k hkl
      rw [hz.out, Bool.false_or] at hsn
      have ho : opn p[k] 91 = (!p[k].2 && (p[k].1 == 91)) := rfl
      obtain ⟨x, hx⟩ : ∃ x, x = p[k].1 := ⟨_, rfl⟩
      obtain ⟨q, hq⟩ : ∃ q, q = p[k].2 := ⟨_, rfl⟩
      rw [← hx] at d0
      rw [← hq] at d1
      rw [ho, ← hx, ← hq] at hsn
      have HSN := Lib.hid hsn
      clear hx hq ho hsn
      by_cases e1 : x = 91
      · subst e1
        cases q
        · go_wp2_with fail
          go_ret
          have : opens p = true := by
            unfold opens
            rw [List.any_eq_true]
            have h1 := HSN.out
            simp at h1
            unfold opens at h1
            rw [List.any_eq_true] at h1
            obtain ⟨y, hy, hy2⟩ := h1
            exact ⟨y, List.mem_of_mem_take hy, hy2⟩
          rw [this]
          exact ⟨rfl, rfl⟩
        · go_wp2_with fail
          go_round
          case rel => exact ⟨k + 1, by omega, by go_num, HSN.out⟩
          case measure => simp [intOf]; omega
      · have e2 : ((x.toNat : Int) == 91) = false := by
          rw [beq_eq_false_iff_ne]
          intro h
          exact e1 (UInt8.toNat_inj.1 (by show x.toNat = 91; omega))
        have e3 : Hid ((x == 91) = false) := by
          show _ = _
          rw [beq_eq_false_iff_ne]
          exact e1
        clear e1
        go_wp2_with fail
        go_round
        case rel => exact ⟨k + 1, by omega, by go_num, by show _ = _; rw [HSN.out, e3.out, Bool.and_false]⟩
        case measure => simp [intOf]; omega
    · go_wp2_with fail
      go_ret
      have h1 := hz.out
      rw [List.take_of_length_le (by rw [← HM.out]; omega)] at h1
      rw [h1]
      exact ⟨rfl, rfl⟩

theorem cells_at : ∀ (p : List Ch) (b o : Nat) (w : World), Reads b o p w → ∀ j u, (chCells p)[j]? = some u → w.cell? ((⟨b, o, none⟩ : Addr).add j) = some u := by
  intro p b o w h j u hu
  rw [Addr.add_lit]
  have hj : j < p.length * 2 := by
    have := (List.getElem?_eq_some_iff.1 hu).1
    rwa [chCells_length] at this
  have hd : j / 2 < p.length := by omega
  have h1 := chCells_at p (j / 2) hd
  have h2 := h (j / 2) hd
  rcases Nat.mod_two_eq_zero_or_one j with hm | hm
  · have e : j = j / 2 * 2 := by omega
    rw [e] at hu ⊢
    rw [h1.1] at hu
    exact h2.1.trans hu
  · have e : j = j / 2 * 2 + 1 := by omega
    rw [e] at hu ⊢
    rw [h1.2] at hu
    exact h2.2.trans hu
/-- A pattern to be appended: none at all, or its cells lie at an address. -/
theorem PatOf.parts {p : List Ch} {v : Value} {w : World} (h : PatOf p v w) (hv : v = .slice none 0 0 ∨ ∃ ad n c, v = .slice (some ad) n c) : (v = .slice none 0 0 ∧ p = []) ∨ ∃ ad c, v = .slice (some ad) p.length c ∧ ∀ j u, (chCells p)[j]? = some u → w.cell? (ad.add j) = some u := by
  obtain ⟨ao, b, o, cap, rfl, h2, h3, h4, h5⟩ := h
  rcases hv with hv | ⟨ad, n, c, hv⟩
  · left
    refine ⟨hv, List.length_eq_zero_iff.1 ?_⟩
    injection hv
  · right
    injection hv with h6 h7 h8
    subst h6
    refine ⟨ad, cap, rfl, fun j u hu => ?_⟩
    by_cases h0 : 0 < p.length
    · have := h3 h0
      injection this with h9
      subst h9
      exact cells_at p b o w h5 j u hu
    · have : p = [] := List.length_eq_zero_iff.1 (by omega)
      subst this
      simp [chCells] at hu

/-- A pattern with a star on both sides is laid in new memory. -/
def starred (p : List Ch) : List Ch := (42, false) :: p ++ [(42, false)]
theorem starred_cells (p : List Ch) : [.int .u8 42, .bool false] ++ chCells p ++ [.int .u8 42, .bool false] = chCells (starred p) := by
  unfold starred
  simp [chCells, chCells_append]
theorem starred_length (p : List Ch) : (starred p).length = 1 + p.length + 1 := by
  unfold starred
  simp
  omega

set_option maxRecDepth 100000 in
set_option maxHeartbeats 2000000 in
theorem stars_walk (v : Value) (p : List Ch) (a b c : ByteArray) (w : World) (hp : PatOf p v w) (hv : v = .slice none 0 0 ∨ ∃ ad n c, v = .slice (some ad) n c) (hm : p.length ≤ 1048576) (ha : a.size ≤ 1048576) (hb : b.size ≤ 1048576) (hc : c.size ≤ 1048576) :
    Calls Try.prog 3 #[v, .string a, .string b, .string c] w fun e w' => e = .returned (.bool true) ∧ Below w.heap.size w w' := by
  obtain ⟨i0, hi0, hz0, hz1, hz2⟩ := info_parts info_ch
  have hmx : Hid (0 + 1 ≤ maxLen) := by show _ ≤ _; decide
  have hmb : Hid ((0 + 1) * 2 ≤ 140737488355328) := by show _ ≤ _; decide
  have hmx2 : Hid (1 + p.length ≤ maxLen) := by show _ ≤ _; unfold maxLen; omega
  have hmb2 : Hid ((1 + p.length) * 2 ≤ 140737488355328) := by show _ ≤ _; omega
  have hmx3 : Hid (1 + p.length + 1 ≤ maxLen) := by show _ ≤ _; unfold maxLen; omega
  have hmb3 : Hid ((1 + p.length + 1) * 2 ≤ 140737488355328) := by show _ ≤ _; omega
  have hmx4 : Hid (1 + 1 ≤ maxLen) := by show _ ≤ _; decide
  have hmb4 : Hid ((1 + 1) * 2 ≤ 140737488355328) := by show _ ≤ _; decide
  have hrest : ∀ (v3 : Value) (w1 w4 : World), Below w.heap.size w w1 → PatOf p v w4 → w4.ownsRow w1.heap.size 25 2 v3 (1 + p.length + 1) (chCells (starred p)) → PatOf (starred p) v3 w4 := by
    intro v3 w1 w4 _ _ h
    refine PatOf.of_row (base := w1.heap.size) ?_
    rw [starred_length]
    exact h
  have HREST := Lib.hid hrest
  clear hrest
  have HP0 := Lib.hid hp
  have HV := Lib.hid hv
  clear hp hv
  go_enter Try.func3, Try.ntmps3
  go_wp2_with fail
  refine (alive_any _).mono ?_
  rintro e w1 ⟨rfl, hb1⟩
  have HP := Lib.hid (HP0.out.below hb1)
  have HB := Lib.hid hb1
  clear hb1
  have hz1' : w.heap.size ≤ w1.heap.size := HB.out.size
  go_upto_region 4 with fail
  obtain ⟨ml, hml⟩ : ∃ ml, ml = p.length := ⟨_, rfl⟩
  go_cut [9] (fun s9 w4 => Hid (w4.ownsRow w1.heap.size 25 2 s9 (1 + p.length + 1) (chCells (starred p))) ∧ Hid (Below w1.heap.size w1 w4))
  case first =>
    have HAL : Hid ((w1.alloc (.cells #[.int .u8 42, .bool false] 25)).heap[w1.heap.size]? = some (.cells #[.int .u8 42, .bool false] 25 (0, 0))) := heap_alloc_new w1 _
    rcases HP.out.parts HV.out with ⟨rfl, rfl⟩ | ⟨ad, cp, rfl, hnews⟩
    · clear hml
      go_wp2_with (first | (at_builtin; refine wpList_append_lies _ rfl (.tmp 12) (.tmp 14) 22 rfl w1.heap.size 25 i0 _ 2 2 Try.underlying22 hi0 hz0 hz1 hz2 rfl (by omega) (.slice none 0 0) 0 [] rfl (World.ownsRow_nil _ _ _ _) ⟨w1.heap.size, 0, none⟩ 1 1 [.int .u8 42, .bool false] rfl rfl (World.news_of_block (cs := #[.int .u8 42, .bool false]) (t := 25) (fr := (0, 0)) HAL.out) (by simp [Value.oneCell']) (by omega) hmx.out hmb.out (by simp) (w1.heap.size + 1) (by simp) ?_; intro g2 cap2 w2 hown2 hgrow2 hat2 hlt2; simp only [Nat.zero_add, List.nil_append] at hown2; have hb2 := Lib.hid ((((Below.refl w1.heap.size w1).alloc (Nat.le_refl _) _)).grown hgrow2 (by simp) (fun k hk => by cases hk)); have hz2' := hb2.out.size; have HO2 := Lib.hid hown2; clear hown2) | (at_builtin; refine wpList_append_own_none rfl (.tmp 15) (.tmp 16) 22 rfl w1.heap.size 25 i0 2 Try.underlying22 hi0 (.slice (some ⟨g2, 0, none⟩) 1 cap2) 1 _ rfl HO2.out rfl ?_) | (at_builtin; refine wpList_append_lies _ rfl (.tmp 17) (.tmp 19) 22 rfl w1.heap.size 25 i0 _ 2 2 Try.underlying22 hi0 hz0 hz1 hz2 rfl (by omega) (.slice (some ⟨g2, 0, none⟩) 1 cap2) 1 _ rfl (HO2.out.alloc _) ⟨w2.heap.size, 0, none⟩ 1 1 [.int .u8 42, .bool false] rfl rfl (World.news_of_block (cs := #[.int .u8 42, .bool false]) (t := 25) (fr := (0, 0)) (heap_alloc_new w2 _)) (by simp [Value.oneCell']) (by omega) hmx4.out hmb4.out (by simp; omega) (w2.heap.size + 1) (by simp) ?_; intro g4 cap4 w4 hown4 hgrow4 hat4 hlt4))
      go_meet
      exact ⟨hown4, ((hb2.out.alloc hz2' _).grown hgrow4 (by simp; omega) (fun k hk => (HO2.out.lt k hk).1))⟩
    · have HN := Lib.hid hnews
      clear hnews
      go_wp2_with (first | (at_builtin; refine wpList_append_lies _ rfl (.tmp 12) (.tmp 14) 22 rfl w1.heap.size 25 i0 _ 2 2 Try.underlying22 hi0 hz0 hz1 hz2 rfl (by omega) (.slice none 0 0) 0 [] rfl (World.ownsRow_nil _ _ _ _) ⟨w1.heap.size, 0, none⟩ 1 1 [.int .u8 42, .bool false] rfl rfl (World.news_of_block (cs := #[.int .u8 42, .bool false]) (t := 25) (fr := (0, 0)) HAL.out) (by simp [Value.oneCell']) (by omega) hmx.out hmb.out (by simp) (w1.heap.size + 1) (by simp) ?_; intro g2 cap2 w2 hown2 hgrow2 hat2 hlt2; simp only [Nat.zero_add, List.nil_append] at hown2; have hb2 := Lib.hid ((((Below.refl w1.heap.size w1).alloc (Nat.le_refl _) _)).grown hgrow2 (by simp) (fun k hk => by cases hk)); have hz2' := hb2.out.size; have HO2 := Lib.hid hown2; clear hown2) | (at_builtin; go_loud (refine wpList_append_own _ rfl (.tmp 15) (.tmp 16) 22 rfl w1.heap.size 25 i0 _ 2 2 Try.underlying22 hi0 hz0 hz1 hz2 rfl (by omega) (.slice (some ⟨g2, 0, none⟩) 1 cap2) 1 _ rfl HO2.out ad p.length cp (chCells p) rfl (chCells_length p) ?_ (chCells_one p) hmx2.out hmb2.out hz2' ?_); (focus (intro j u hu; have h2 := HN.out j u hu; have h3 := hb2.out.cell (p := ad.add j) (World.block_lt_of_cell? w1 _ h2); exact h3.trans h2)); intro v3 w3 hown3 hgrow3 _; have hb3 := Lib.hid (hb2.out.grown hgrow3 hz2' (fun k hk => (HO2.out.lt k hk).1)); have hz3' := hb3.out.size; have HO3 := Lib.hid hown3; clear hown3) | (at_builtin; refine wpList_append_lies _ rfl (.tmp 17) (.tmp 19) 22 rfl w1.heap.size 25 i0 _ 2 2 Try.underlying22 hi0 hz0 hz1 hz2 rfl (by omega) v3 (1 + p.length) _ rfl (HO3.out.alloc _) ⟨w3.heap.size, 0, none⟩ 1 1 [.int .u8 42, .bool false] rfl rfl (World.news_of_block (cs := #[.int .u8 42, .bool false]) (t := 25) (fr := (0, 0)) (heap_alloc_new w3 _)) (by simp [Value.oneCell']) (by omega) hmx3.out hmb3.out (by simp; omega) (w3.heap.size + 1) (by simp) ?_; intro g4 cap4 w4 hown4 hgrow4 hat4 hlt4))
      go_meet
      refine ⟨?_, ((hb3.out.alloc hz3' _).grown hgrow4 (by simp; omega) (fun k hk => (HO3.out.lt k hk).1))⟩
      rw [← starred_cells]
      exact hown4
  case rest =>
    obtain ⟨ho, hbw⟩ := hcut
    have HQ := Lib.hid (HREST.out _ w1 wc HB.out (HP.out.below hbw.out) ho.out)
    have HPW := Lib.hid (HP.out.below hbw.out)
    have HB4 := Lib.hid (HB.out.trans (hbw.out.mono hz1'))
    clear ho hml
    go_wp2_with fail
    refine (lopen_any v p _ HPW.out (Nat.le_trans hm (by decide))).mono ?_
    rintro e w5 ⟨rfl, rfl⟩
    cases hop : opens p
    · have HOP := Lib.hid hop
      clear hop
      obtain ⟨r, hr⟩ : ∃ r, r = Mt (els p) b.data.toList := ⟨_, rfl⟩
      have HM1 : Hid (∀ W, PatOf p v W → Calls Try.prog 13 #[v, .string b] W fun e w' => e = .returned (.bool r) ∧ Below W.heap.size W w') := fun W hW => hr ▸ Match_any p v b W hW (by omega) (by omega)
      have HR := Lib.hid hr
      clear hr
      go_wp2_with fail
      refine (HM1.out _ HPW.out).mono ?_
      rintro e w6 ⟨rfl, hb6⟩
      have HQ6 := Lib.hid (HQ.out.below hb6)
      have HB6 := Lib.hid (HB4.out.trans (hb6.mono HB4.out.size))
      clear hb6
      cases r
      · go_wp2_with fail
        go_ret
        exact ⟨rfl, HB6.out⟩
      · have HM2 : Hid (∀ W, PatOf (starred p) u9 W → Calls Try.prog 13 #[u9, .string (a ++ b ++ c)] W fun e w' => e = .returned (.bool true) ∧ Below W.heap.size W w') := by
          intro W hW
          have := Match_any (starred p) u9 (a ++ b ++ c) W hW (by rw [starred_length]; omega) (by rw [ByteArray.size_append, ByteArray.size_append]; omega)
          rw [show (a ++ b ++ c).data.toList = a.data.toList ++ b.data.toList ++ c.data.toList by simp [ByteArray.data_append], show Mt (els (starred p)) (a.data.toList ++ b.data.toList ++ c.data.toList) = true from stars_law p _ _ _ HOP.out HR.out.symm] at this
          exact this
        go_wp2_with fail
        refine (HM2.out _ HQ6.out).mono ?_
        rintro e w7 ⟨rfl, hb7⟩
        have HB7 := Lib.hid (HB6.out.trans (hb7.mono HB6.out.size))
        clear hb7
        go_wp2_with fail
        go_ret
        exact ⟨rfl, HB7.out⟩
    · go_wp2_with fail
      go_ret
      exact ⟨rfl, HB4.out⟩
end Go.Proofs.Ytmjdlilmackneaa

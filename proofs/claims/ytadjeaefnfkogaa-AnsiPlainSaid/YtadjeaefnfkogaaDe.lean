/- ansi.Decode at every text: it tells what the plain law dec tells; conditions: as each theorem states. -/
import Derived.Test.YtadjeaefnfkogaaDe0
import Derived.Outline
namespace Go.Proofs.Ytadjeaefnfkogaa
open Go.RowKit

set_option maxRecDepth 100000 in
set_option maxHeartbeats 4000000 in
theorem decode_any (s : ByteArray) (w : World) (hs : s.size ≤ 140737488355328) :
    Calls Try.prog 8 #[.string s] w fun e w' => e = .returned (.tuple #[.string ⟨(told s.data.toList).1.toArray⟩, .int .i64 (told s.data.toList).2.1, .int .i64 (told s.data.toList).2.2]) ∧ Below w.heap.size w w' := by
  have hmf : ∀ (fn : Fn) (first cap : Array Value) (w : World), (Instr.makeFunc fn first cap).run Try.prog w = .ok (.func fn first cap) w := fun _ _ _ _ => rfl
  obtain ⟨i0, hi, hz0, hz1, hz2⟩ := info_parts info5
  go_enter_defers Try.func8, Try.ntmps8
  go_wp2_with fail
  generalize hW0 : ((w.alloc (.cells #[.string ⟨#[]⟩] 9)).alloc (.cells #[.int .i64 0] 3)).alloc (.cells #[.int .i64 0] 23) = W0
  have hb0 : Below w.heap.size w W0 := by subst hW0; exact (((Below.refl _ w).alloc (Nat.le_refl _) _).alloc (by simp) _).alloc (by simp; omega) _
  have hz0s : W0.heap.size = w.heap.size + 3 := by subst hW0; simp
  have d0 : W0.cell? ⟨w.heap.size, 0, none⟩ = some (.string ⟨#[]⟩) := by subst hW0; go_simp
  have d1 : W0.cell? ⟨w.heap.size + 1, 0, none⟩ = some (.int .i64 0) := by subst hW0; go_simp
  have d2 : W0.cell? ⟨w.heap.size + 1 + 1, 0, none⟩ = some (.int .i64 0) := by subst hW0; go_simp
  have f0 : W0.frozen? ⟨w.heap.size, 0, none⟩ = false := by subst hW0; go_simp
  have f1 : W0.frozen? ⟨w.heap.size + 1, 0, none⟩ = false := by subst hW0; go_simp
  have f2 : W0.frozen? ⟨w.heap.size + 1 + 1, 0, none⟩ = false := by subst hW0; go_simp
  have F : Hid (W0.heap.size = w.heap.size + 3 ∧ Below w.heap.size w W0 ∧ W0.cell? ⟨w.heap.size, 0, none⟩ = some (.string ⟨#[]⟩) ∧ W0.cell? ⟨w.heap.size + 1, 0, none⟩ = some (.int .i64 0) ∧ W0.cell? ⟨w.heap.size + 1 + 1, 0, none⟩ = some (.int .i64 0) ∧
    W0.frozen? ⟨w.heap.size, 0, none⟩ = false ∧ W0.frozen? ⟨w.heap.size + 1, 0, none⟩ = false ∧ W0.frozen? ⟨w.heap.size + 1 + 1, 0, none⟩ = false) := ⟨hz0s, hb0, d0, d1, d2, f0, f1, f2⟩
  clear hW0 hb0 hz0s d0 d1 d2 f0 f1 f2
  go_loopw [5, 6] (fun v i wr => ∃ (k : Nat) (pre : List UInt8), k ≤ s.size ∧ i = .int .i64 k ∧ pre.length ≤ k ∧ wr.ownsRow (w.heap.size + 3) 5 1 v pre.length (Lib.byteCells pre) ∧ Below (w.heap.size + 3) W0 wr ∧ Hid (dec s.data.toList = ahead k pre (dec (s.data.toList.drop k)))) (fun _ i _ => s.size - (intOf i).toNat)
  case atStart => exact ⟨0, [], Nat.zero_le _, rfl, Nat.le_refl _, World.ownsRow_nil _ _ _ _, Below.refl _ _, (ahead_zero _).symm⟩
  case round =>
    obtain ⟨k, pre, hk, rfl, hpk, hown, hB, hd⟩ := hrel
    by_cases hlt : k < s.size
    · have hkl : k < s.data.toList.length := by simpa using hlt
      have hdr : s.data.toList.drop k = s.data.toList[k] :: s.data.toList.drop (k + 1) := List.drop_eq_getElem_cons hkl
      have hsk : s[k] = s.data.toList[k] := rfl
      obtain ⟨c, hc⟩ : ∃ c, c = s.data.toList[k] := ⟨_, rfl⟩
      rw [← hc] at hsk hdr
      have HS := Lib.hid hsk
      have HDR := Lib.hid hdr
      clear hc hsk hdr
      by_cases h1 : c = 0 ∨ c = 39
      · by_cases h0 : c = 0
        · have g1 : ((s[k].toNat : Int) == 0) = true := by rw [HS.out, h0]; rfl
          go_wp2_with fail
          refine leaves_cons (f := 13) (args := #[.pointer (some ⟨w.heap.size, 0, none⟩), .pointer (some ⟨w.heap.size + 1, 0, none⟩), .pointer (some ⟨w.heap.size + 1 + 1, 0, none⟩)]) (by simp) (by simp [go_sem]) ?_
          obtain ⟨z0, zb0, d0, d1, d2, f0, f1, f2⟩ := F.out
          refine (catch_panicking _ _ _ _ _ [] _ ⟨#[]⟩ 0 0 ((hB.cell (by simp)).trans d0) ((hB.cell (by simp)).trans d1) ((hB.cell (by simp <;> omega)).trans d2) ((hB.frozen (by simp)).trans f0) ((hB.frozen (by simp)).trans f1) ((hB.frozen (by simp <;> omega)).trans f2) (by omega) (by omega) (by have := hB.size; omega) w.heap.size (Nat.le_refl _)).mono ?_
          rintro e u' w2 ⟨rfl, rfl, ct, ca, ce, hbw⟩
          have HBW := Lib.hid (zb0.trans ((hB.mono (by omega)).trans hbw))
          have HT := Lib.hid (told_error hd.out (by rw [HDR.out]; exact dec_bad _ _ h1))
          clear hbw zb0 hB d0 d1 d2 f0 f1 f2 z0
          simp [Leaves, settle, results, Try.results8, go_sem, ct, ca, ce, HT.out]
          exact HBW.out
        · have g0 : ((s[k].toNat : Int) == 0) = false := by rw [HS.out]; exact u8_ne c 0 h0
          have g1 : ((s[k].toNat : Int) == 39) = true := by rw [HS.out, h1.resolve_left h0]; rfl
          go_wp2_with fail
          refine leaves_cons (f := 13) (args := #[.pointer (some ⟨w.heap.size, 0, none⟩), .pointer (some ⟨w.heap.size + 1, 0, none⟩), .pointer (some ⟨w.heap.size + 1 + 1, 0, none⟩)]) (by simp) (by simp [go_sem]) ?_
          obtain ⟨z0, zb0, d0, d1, d2, f0, f1, f2⟩ := F.out
          refine (catch_panicking _ _ _ _ _ [] _ ⟨#[]⟩ 0 0 ((hB.cell (by simp)).trans d0) ((hB.cell (by simp)).trans d1) ((hB.cell (by simp <;> omega)).trans d2) ((hB.frozen (by simp)).trans f0) ((hB.frozen (by simp)).trans f1) ((hB.frozen (by simp <;> omega)).trans f2) (by omega) (by omega) (by have := hB.size; omega) w.heap.size (Nat.le_refl _)).mono ?_
          rintro e u' w2 ⟨rfl, rfl, ct, ca, ce, hbw⟩
          have HBW := Lib.hid (zb0.trans ((hB.mono (by omega)).trans hbw))
          have HT := Lib.hid (told_error hd.out (by rw [HDR.out]; exact dec_bad _ _ h1))
          clear hbw zb0 hB d0 d1 d2 f0 f1 f2 z0
          simp [Leaves, settle, results, Try.results8, go_sem, ct, ca, ce, HT.out]
          exact HBW.out
      · have g0 : ((s[k].toNat : Int) == 0) = false := by rw [HS.out]; exact u8_ne c 0 (fun e => h1 (Or.inl e))
        have g1 : ((s[k].toNat : Int) == 39) = false := by rw [HS.out]; exact u8_ne c 39 (fun e => h1 (Or.inr e))
        by_cases h2 : c = 92
        · have g2 : ((s[k].toNat : Int) == 92) = true := by rw [HS.out, h2]; rfl
          cases hesc : esc (s.data.toList.drop (k + 1)) with
          | none =>
            have HE := Lib.hid hesc
            clear hesc
            go_wp2_with fail
            refine (escape_none s k _ (by omega) hlt HE.out).mono ?_
            rintro e w9 ⟨rfl, rfl⟩
            go_wp2_with fail
            refine leaves_cons (f := 13) (args := #[.pointer (some ⟨w.heap.size, 0, none⟩), .pointer (some ⟨w.heap.size + 1, 0, none⟩), .pointer (some ⟨w.heap.size + 1 + 1, 0, none⟩)]) (by simp) (by simp [go_sem]) ?_
            obtain ⟨z0, zb0, d0, d1, d2, f0, f1, f2⟩ := F.out
            refine (catch_panicking _ _ _ _ _ [] _ ⟨#[]⟩ 0 0 ((hB.cell (by simp)).trans d0) ((hB.cell (by simp)).trans d1) ((hB.cell (by simp <;> omega)).trans d2) ((hB.frozen (by simp)).trans f0) ((hB.frozen (by simp)).trans f1) ((hB.frozen (by simp <;> omega)).trans f2) (by omega) (by omega) (by have := hB.size; omega) w.heap.size (Nat.le_refl _)).mono ?_
            rintro e u' w2 ⟨rfl, rfl, ct, ca, ce, hbw⟩
            have HBW := Lib.hid (zb0.trans ((hB.mono (by omega)).trans hbw))
            have HT := Lib.hid (told_error hd.out (by rw [HDR.out, h2]; exact dec_none _ HE.out))
            clear hbw zb0 hB d0 d1 d2 f0 f1 f2 z0
            simp [Leaves, settle, results, Try.results8, go_sem, ct, ca, ce, HT.out]
            exact HBW.out
          | some x =>
            obtain ⟨b, n⟩ := x
            have HE := Lib.hid hesc
            clear hesc
            have hfit := esc_fits _ b n HE.out
            simp only [List.length_drop, size_of] at hfit
            have hn1 : 2 ≤ n := hfit.1
            have hn2 : k + n ≤ s.size := by omega
            clear hfit
            go_wp2_with fail
            refine (escape_some s k _ (by omega) b n HE.out).mono ?_
            rintro e w9 ⟨rfl, rfl⟩
            go_wp2_with (at_builtin; refine wpList_append_own _ rfl _ _ 37 rfl (w.heap.size + 3) 5 i0 (.int .u8 0) 1 1 Try.underlying37 hi hz0 hz1 hz2 rfl (by decide) _ _ _ rfl (hown.alloc _) ⟨w9.heap.size, 0, none⟩ 1 1 [.int .u8 b.toNat] rfl rfl ?c1 ?c2 ?c3 ?c4 ?c5 ?_)
            case c1 =>
              intro j u hj
              match j, hj with
              | 0, hj => simp at hj; subst hj; simp [Addr.add]
            case c2 => intro u hu; simp at hu; subst hu; rfl
            case c3 => unfold maxLen; omega
            case c4 => omega
            case c5 => have := hB.size; have := F.out.1; simp; omega
            intro v' w1 hown' hgrow _
            obtain ⟨ao, n', cap, rfl⟩ : ∃ ao n' cap, v' = .slice ao n' cap := by
              rcases hown'.2 with ⟨hv, _⟩ | ⟨g, cap, cur, hv, _⟩
              · exact ⟨_, _, _, hv⟩
              · exact ⟨_, _, _, hv⟩
            go_wp2_with fail
            go_roundw
            case rel =>
              refine ⟨k + n, pre ++ [b], by omega, by go_num, by simp; omega, by simpa [Lib.byteCells] using hown', ?_, ?_⟩
              · exact (hB.alloc (by have := hB.size; have := F.out.1; omega) _).grown hgrow (by have := hB.size; have := F.out.1; simp; omega) (fun j e => (hown.lt j e).1)
              · show _ = _
                rw [hd.out, HDR.out, h2, dec_some _ b n HE.out, ahead_ahead, List.drop_drop]
                congr 3; omega
            case measure => simp [intOf]; omega
        · have g2 : ((s[k].toNat : Int) == 92) = false := by rw [HS.out]; exact u8_ne c 92 h2
          go_wp2_with (at_builtin; refine wpList_append_own _ rfl _ _ 37 rfl (w.heap.size + 3) 5 i0 (.int .u8 0) 1 1 Try.underlying37 hi hz0 hz1 hz2 rfl (by decide) _ _ _ rfl (hown.alloc _) ⟨wr.heap.size, 0, none⟩ 1 1 [.int .u8 s[k].toNat] rfl rfl ?d1 ?d2 ?d3 ?d4 ?d5 ?_)
          case d1 =>
            intro j u hj
            match j, hj with
            | 0, hj => simp at hj; subst hj; simp [Addr.add]
          case d2 => intro u hu; simp at hu; subst hu; rfl
          case d3 => unfold maxLen; omega
          case d4 => omega
          case d5 => have := hB.size; have := F.out.1; simp; omega
          intro v' w1 hown' hgrow _
          obtain ⟨ao, n', cap, rfl⟩ : ∃ ao n' cap, v' = .slice ao n' cap := by
            rcases hown'.2 with ⟨hv, _⟩ | ⟨g, cap, cur, hv, _⟩
            · exact ⟨_, _, _, hv⟩
            · exact ⟨_, _, _, hv⟩
          go_wp2_with fail
          go_roundw
          case rel =>
            refine ⟨k + 1, pre ++ [c], by omega, by go_num, by simp; omega, by rw [HS.out] at hown'; simpa [Lib.byteCells] using hown', ?_, ?_⟩
            · exact (hB.alloc (by have := hB.size; have := F.out.1; omega) _).grown hgrow (by have := hB.size; have := F.out.1; simp; omega) (fun j e => (hown.lt j e).1)
            · show _ = _
              rw [hd.out, HDR.out, dec_plain c _ h1 h2, ahead_ahead]
          case measure => simp [intOf]; omega
    · have hke : k = s.size := by omega
      have hnil : s.data.toList.drop k = [] := List.drop_eq_nil_of_le (by simp; omega)
      have HK := Lib.hid hke
      have HT0 := hd.out
      rw [hnil] at HT0
      have HT := Lib.hid (told_ok HT0)
      clear hke hnil HT0
      have hcv := conv_own hown
      have HB := Lib.hid hB
      have e0 : wr.cell? ⟨w.heap.size, 0, none⟩ = some (.string ⟨#[]⟩) := (hB.cell (by simp)).trans F.out.2.2.1
      have e1 : wr.cell? ⟨w.heap.size + 1, 0, none⟩ = some (.int .i64 0) := (hB.cell (by simp)).trans F.out.2.2.2.1
      have e2 : wr.cell? ⟨w.heap.size + 1 + 1, 0, none⟩ = some (.int .i64 0) := (hB.cell (by simp <;> omega)).trans F.out.2.2.2.2.1
      have g0 : wr.frozen? ⟨w.heap.size, 0, none⟩ = false := (hB.frozen (by simp)).trans F.out.2.2.2.2.2.1
      have g1 : wr.frozen? ⟨w.heap.size + 1, 0, none⟩ = false := (hB.frozen (by simp)).trans F.out.2.2.2.2.2.2.1
      have g2 : wr.frozen? ⟨w.heap.size + 1 + 1, 0, none⟩ = false := (hB.frozen (by simp <;> omega)).trans F.out.2.2.2.2.2.2.2
      have hzw : w.heap.size + 3 ≤ wr.heap.size := by have := hB.size; have := F.out.1; omega
      clear hB
      go_wp2_with fail
      refine leaves_cons (f := 13) (args := #[.pointer (some ⟨w.heap.size, 0, none⟩), .pointer (some ⟨w.heap.size + 1, 0, none⟩), .pointer (some ⟨w.heap.size + 1 + 1, 0, none⟩)]) (by simp) (by simp [go_sem]) ?_
      refine (catch_idle _ _ _ _).mono ?_
      rintro e u' w2 ⟨rfl, rfl, hw2⟩
      have hz1 : w.heap.size < wr.heap.size := by omega
      have hz2 : w.heap.size + 1 < wr.heap.size := by omega
      have hz3 : w.heap.size + 1 + 1 < wr.heap.size := by omega
      have HW2 := Lib.hid hw2
      clear hw2
      have ct : w2.cell? ⟨w.heap.size, 0, none⟩ = some (.string ⟨pre.toArray⟩) := by rw [HW2.out]; go_simp
      have ca : w2.cell? ⟨w.heap.size + 1, 0, none⟩ = some (.int .i64 s.size) := by rw [HW2.out]; go_simp
      have ce : w2.cell? ⟨w.heap.size + 1 + 1, 0, none⟩ = some (.int .i64 0) := by rw [HW2.out]; go_simp
      have HBW : Hid (Below w.heap.size w w2) := by
        unfold Hid; rw [HW2.out]
        have h0 : Below w.heap.size w wr := F.out.2.1.trans (HB.out.mono (by omega))
        exact (((h0.setCell (p := ⟨w.heap.size, 0, none⟩) (Nat.le_refl _) _).setCell (p := ⟨w.heap.size + 1, 0, none⟩) (by simp) _).setCell (p := ⟨w.heap.size + 1 + 1, 0, none⟩) (by simp; omega) _).alloc (by simp; omega) _
      have HL : Hid (told s.data.toList = (pre, (s.size : Int), (0 : Int))) := by unfold Hid; rw [HT.out]; simp
      clear e0 e1 e2 g0 g1 g2
      simp [Leaves, settle, results, Try.results8, go_sem, ct, ca, ce, HL.out]
      exact HBW.out
end Go.Proofs.Ytadjeaefnfkogaa

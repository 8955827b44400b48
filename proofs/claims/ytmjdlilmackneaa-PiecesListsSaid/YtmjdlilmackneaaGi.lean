/- pieces.Replace of all: what it tells; conditions: as each theorem states. -/
import Derived.Test.YtmjdlilmackneaaGh
namespace Go.Proofs.Ytmjdlilmackneaa
open Go.RowKit

def bys (L : List UInt8) : List Value := L.map fun b => Value.int .u8 b.toNat
set_option maxRecDepth 100000 in
theorem info_by : (Try.prog.info? 5).map (fun i => (i.zero, i.size, i.bytes)) = some (some (.int .u8 0), 1, 1) := by kernel_rfl
theorem conv_row {base : Nat} {v : Value} {L : List UInt8} {w : World} (h : w.ownsRow base 5 1 v L.length (bys L)) : (convert 29 9 v).run Try.prog w = .ok (.string ⟨L.toArray⟩) w := by
  rcases h.2 with ⟨h1, h2⟩ | ⟨g, cap, cur, hv, h1, h2, h3, h4⟩
  · have : L = [] := List.length_eq_zero_iff.1 h2
    subst this
    rw [h1]
    exact run_convert_bytes_nil w 29 5 Try.underlying29 Try.underlying5 0 0 9 Try.underlying9
  · subst hv
    refine run_convert_bytes_back w 29 9 5 ⟨g, 0, none⟩ cap L Try.underlying29 Try.underlying5 Try.underlying9 fun j hj => ?_
    rw [Addr.add_lit, Nat.zero_add, h.cellAt j (by omega)]
    simp [bys, hj]

set_option maxRecDepth 100000 in
set_option maxHeartbeats 2000000 in
theorem replace_any (p : List Ch) (v : Value) (s b : ByteArray) (w : World) (hp : PatOf p v w) (hm : p.length ≤ 4194304) (hs : s.size ≤ 1048576) (hb : b.size ≤ 1048576) :
    Calls Try.prog 22 #[.string s, v, .string b, .bool true] w fun e w' => e = .returned (.string ⟨(rep (els p) b.data.toList s.data.toList).toArray⟩) ∧ Below w.heap.size w w' := by
  obtain ⟨i0, hi0, hz0, hz1, hz2⟩ := info_parts info_by
  obtain ⟨es, hes⟩ : ∃ es, es = els p := ⟨_, rfl⟩
  have HPM : Hid (∀ (k : Nat) V, k ≤ s.size → PatOf p v V → Calls Try.prog 32 #[v, .string (s.extract k s.size)] V fun e w' => e = .returned (.int .i64 (mtl es (s.data.toList.drop k) : Nat)) ∧ Below V.heap.size V w') := fun k V hk hV => by
    have := pmatch_any p v (s.extract k s.size) V hV hm (by rw [ByteArray.size_extract]; omega)
    have e : (s.extract k s.size).data.toList = s.data.toList.drop k := by
      rw [Lib.extract_data]
      exact List.take_of_length_le (by rw [List.length_drop]; exact Nat.le_refl _)
    rw [e, ← hes] at this
    exact this
  rw [← hes]
  have HLEN : Hid (∀ (L : List UInt8) k, L ++ rep es b.data.toList (s.data.toList.drop k) = rep es b.data.toList s.data.toList → L.length ≤ 1099512676352) := fun L k h => by
    have h1 := rep_length es b.data.toList s.data.toList
    rw [← h, List.length_append] at h1
    have h2 : s.data.toList.length * (b.data.toList.length + 1) ≤ 1048576 * (1048576 + 1) := Nat.mul_le_mul hs (Nat.succ_le_succ hb)
    omega
  have HP0 := Lib.hid hp
  clear hes hp
  go_enter Try.func22, Try.ntmps22
  go_wp2_with fail
  go_loopw [9, 10] (fun ov i wr => ∃ (k : Nat) (L : List UInt8), k ≤ s.size ∧ i = .int .i64 k ∧ Hid (wr.ownsRow w.heap.size 5 1 ov L.length (bys L)) ∧ Hid (L ++ rep es b.data.toList (s.data.toList.drop k) = rep es b.data.toList s.data.toList) ∧ Hid (Below w.heap.size w wr)) (fun _ i _ => s.size - (intOf i).toNat)
  case atStart => exact ⟨0, [], Nat.zero_le _, rfl, World.ownsRow_nil _ _ _ _, rfl, Below.refl _ _⟩
  case round =>
    obtain ⟨k, L, hk, rfl, ho, hre, hbr⟩ := hrel
    have hL : L.length ≤ 1099512676352 := HLEN.out L k hre.out
    have hbz : w.heap.size ≤ wr.heap.size := hbr.out.size
    by_cases hlt : k < s.size
    · have hkl : k < s.data.toList.length := hlt
      obtain ⟨n, hn⟩ : ∃ n, n = mtl es (s.data.toList.drop k) := ⟨_, rfl⟩
      have hnl : n ≤ s.size - k := by
        have := mtl_le es (s.data.toList.drop k)
        rw [List.length_drop] at this
        rw [hn]
        exact this
      have HM1 : Hid (∀ V, PatOf p v V → Calls Try.prog 32 #[v, .string (s.extract k s.size)] V fun e w' => e = .returned (.int .i64 (n : Int)) ∧ Below V.heap.size V w') := fun V hV => by
        rw [hn]
        exact HPM.out k V hk hV
      have HN := Lib.hid hn
      clear hn
      go_wp2_with fail
      refine (HM1.out _ (HP0.out.below hbr.out)).mono ?_
      rintro e w1 ⟨rfl, hb1⟩
      have ho1 : Hid (w1.ownsRow w.heap.size 5 1 u9 L.length (bys L)) := ownsRow_keep ho.out fun j hj => hb1.block j (ho.out.lt j hj).2
      have HB1 := Lib.hid (hbr.out.trans (hb1.mono hbr.out.size))
      have hz1' : w.heap.size ≤ w1.heap.size := HB1.out.size
      clear hb1
      by_cases h0 : n = 0
      · subst h0
        have hnn : Hid (L.length + 1 ≤ maxLen) := by show _ ≤ _; unfold maxLen; omega
        have hnb : Hid ((L.length + 1) * 1 ≤ 140737488355328) := by show _ ≤ _; omega
        go_wp2_with (at_builtin; refine wpList_append_lies _ rfl _ _ 29 rfl w.heap.size 5 i0 _ 1 1 Try.underlying29 hi0 hz0 hz1 hz2 rfl (by omega) u9 L.length _ rfl (ho1.out.alloc _) ⟨w1.heap.size, 0, none⟩ 1 1 [.int .u8 s[k].toNat] rfl rfl (World.news_of_block (cs := #[.int .u8 s[k].toNat]) (t := 5) (fr := (0, 0)) (heap_alloc_new w1 _)) (by simp [Value.oneCell']) (by omega) hnn.out hnb.out (by simp; omega) (w1.heap.size + 1) (by simp) ?_; intro gg cap1 w2 hown1 hgrow hat hlt1)
        go_roundw
        case rel =>
          refine ⟨k + 1, L ++ [s[k]], by omega, by go_num, ?_, ?_, ?_⟩
          · show World.ownsRow _ _ _ _ _ _ _
            rw [List.length_append]
            unfold bys
            rw [List.map_append]
            exact hown1
          · show _ = _
            rw [← hre.out, rep_lit (k := k) hkl HN.out.symm, List.append_assoc]
            rfl
          · exact ((HB1.out.alloc hz1' _).grown hgrow (by simp; omega) (fun j hj => (ho1.out.lt j hj).1))
        case measure => simp [intOf]; omega
      · have hnn : Hid (L.length + b.size ≤ maxLen) := by show _ ≤ _; unfold maxLen; omega
        have hnb : Hid (L.length + b.size ≤ 140737488355328) := by show _ ≤ _; omega
        have hn0 : ((n : Int) == 0) = false := by simpa using h0
        go_wp2_with (at_builtin; refine Lib.wpList_append_own_string _ rfl _ _ 29 9 rfl w.heap.size 5 i0 Try.underlying29 Try.underlying9 hi0 hz0 hz1 hz2 u9 L.length _ rfl ho1.out b rfl hnn.out hnb.out hz1' ?_; intro v2 w2 hown1 hgrow _)
        go_roundw
        case rel =>
          refine ⟨k + n, L ++ b.data.toList, by omega, by go_num, ?_, ?_, ?_⟩
          · show World.ownsRow _ _ _ _ _ _ _
            rw [List.length_append]
            unfold bys
            rw [List.map_append]
            exact hown1
          · show _ = _
            rw [← hre.out, rep_hit (k := k) hkl (by rw [← HN.out]; exact h0), ← HN.out, List.append_assoc]
          · exact (HB1.out.grown hgrow hz1' (fun j hj => (ho1.out.lt j hj).1))
        case measure => simp [intOf]; omega
    · have hks : k = s.size := by omega
      have hcv := conv_row ho.out
      have hre2 := hre.out
      rw [List.drop_eq_nil_of_le (show s.data.toList.length ≤ k from by rw [hks]; exact Nat.le_refl _), rep_nil, List.append_nil] at hre2
      have HRE := Lib.hid hre2
      clear hks hre2
      go_wp2_with fail
      go_ret
      rw [← HRE.out]
      exact ⟨rfl, hbr.out⟩
end Go.Proofs.Ytmjdlilmackneaa

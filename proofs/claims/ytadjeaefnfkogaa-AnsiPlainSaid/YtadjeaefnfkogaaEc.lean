/- ansi.Encode by the plain law's enc, and the walks of AnsiBack and AnsiPlain; conditions: as each theorem states. -/
import Derived.Test.YtadjeaefnfkogaaSc
namespace Go.Proofs.Ytadjeaefnfkogaa
open Go.RowKit

theorem isBuilder_below {T e : TypeId} {B b : Nat} {bs : List Value} {w w' : World} (h : Lib.IsBuilder T e B b bs w) (hb : Below w.heap.size w w') : Lib.IsBuilder T e B b bs w' := by
  have key : ∀ p, Lib.BuilderAt T e B b p bs w → Lib.BuilderAt T e B b p bs w' := by
    intro p h
    have hlt := h.lt
    obtain ⟨hB, v, hbk, hown, hne⟩ := h
    refine ⟨hB, v, by rw [hb.block b hlt]; exact hbk, ⟨hown.1, ?_⟩, hne⟩
    rcases hown.2 with hn | ⟨g, cap, cur, hv, hg, hgg, rest⟩
    · exact .inl hn
    · refine .inr ⟨g, cap, cur, hv, hg, ?_, rest⟩
      rw [hb.block g (Array.getElem?_eq_some_iff.1 hgg).1]
      exact hgg
  exact h.imp (key _) (key _)
theorem isBuilder_lt {T e : TypeId} {B b : Nat} {bs : List Value} {w : World} (h : Lib.IsBuilder T e B b bs w) : b < w.heap.size := h.elim (·.lt) (·.lt)

theorem taken (l : List UInt8) (k : Nat) (h : k < l.length) : (l.take (k + 1)).flatMap enc = (l.take k).flatMap enc ++ enc l[k] := by
  rw [List.take_succ_eq_append_getElem h, List.flatMap_append]
  simp

set_option maxRecDepth 100000 in
set_option maxHeartbeats 2000000 in
theorem encode_ok (s : ByteArray) (w : World) (hs : s.size ≤ 16384) (hck : chk s.data.toList = 0) :
    Calls Try.prog 10 #[.string s] w fun e w' => e = .returned (.tuple #[.string ⟨(s.data.toList.flatMap enc).toArray⟩, .int .i64 0]) ∧ Below w.heap.size w w' := by
  have hl : Hid (s.data.toList.length = s.size) := by unfold Hid; simp
  go_enter Try.func10, Try.ntmps10
  go_wp2_with fail
  refine (check_any _ _ (by omega)).mono ?_
  rintro e w9 ⟨rfl, rfl⟩
  rw [hck]
  go_wp2_with fail
  go_loopw [14] (fun i wr => ∃ k : Nat, k ≤ s.size ∧ i = .int .i64 k ∧ Hid (Lib.IsBuilder 43 5 w9.heap.size w9.heap.size (Lib.byteCells ((s.data.toList.take k).flatMap enc)) wr) ∧ Hid (Below w9.heap.size w9 wr)) (fun i _ => s.size - (intOf i).toNat)
  case atStart => exact ⟨0, Nat.zero_le _, rfl, Lib.fresh_isBuilder 43 5 w9, (Below.refl _ _).alloc (Nat.le_refl _) _⟩
  case round =>
    obtain ⟨k, hk, rfl, hbu, hbw⟩ := hrel
    by_cases hlt : k < s.size
    · have hkl : k < s.data.toList.length := by rw [hl.out]; exact hlt
      have hc : Hid (s[k] = s.data.toList[k]) := rfl
      go_wp2_with fail
      refine (octet_any s[k] _).mono ?_
      rintro e w1 ⟨rfl, hb1⟩
      have HB1 := Lib.hid hb1
      clear hb1
      have hlen : (Lib.byteCells ((s.data.toList.take k).flatMap enc)).length + (⟨(enc s[k]).toArray⟩ : ByteArray).size ≤ 140737488355328 := by
        have h1 := encs_length (s.data.toList.take k)
        have h2 := (enc_length s[k]).2
        have h3 : (⟨(enc s[k]).toArray⟩ : ByteArray).size = (enc s[k]).length := rfl
        have h4 : (Lib.byteCells ((s.data.toList.take k).flatMap enc)).length = ((s.data.toList.take k).flatMap enc).length := by simp [Lib.byteCells]
        have h5 : (s.data.toList.take k).length ≤ k := by rw [List.length_take]; omega
        rw [h3, h4]
        omega
      have HL := Lib.hid hlen
      clear hlen
      go_wp2_with fail
      refine (writeString_any _ _ _ _ _ (isBuilder_below hbu.out HB1.out) HL.out (Nat.le_trans hbw.out.size HB1.out.size)).mono ?_
      rintro e w2 ⟨rfl, hb2, hb2'⟩
      have HB2 := Lib.hid hb2
      have HB3 := Lib.hid hb2'
      clear hb2 hb2'
      go_wp2
      go_round
      case rel =>
        refine ⟨k + 1, by omega, by go_num, ?_, ?_⟩
        · show Lib.IsBuilder _ _ _ _ _ _
          rw [taken _ _ hkl, ← hc.out]
          have : Lib.byteCells ((s.data.toList.take k).flatMap enc ++ enc s[k]) = Lib.byteCells ((s.data.toList.take k).flatMap enc) ++ Lib.strCells ⟨(enc s[k]).toArray⟩ := by simp [Lib.byteCells, Lib.strCells]
          rw [this]
          exact Or.inr HB2.out
        · exact (hbw.out.trans (HB1.out.mono hbw.out.size)).trans HB3.out
      case measure => simp [intOf]; omega
    · have e : k = s.size := by omega
      subst e
      have HT : Hid ((s.data.toList.take s.size) = s.data.toList) := List.take_of_length_le (by rw [hl.out]; exact Nat.le_refl _)
      rw [HT.out] at hbu
      go_wp2_with fail
      refine (Try.Builder_String_any _ _ _ _ hbu.out hbw.out.size).mono ?_
      rintro e w2 ⟨rfl, hb2⟩
      have HB2 := Lib.hid hb2
      clear hb2
      go_wp2
      go_ret2
      exact ⟨rfl, hbw.out.trans HB2.out⟩

set_option maxRecDepth 100000 in
set_option maxHeartbeats 2000000 in
theorem encode_bad (s : ByteArray) (w : World) (hs : s.size ≤ 4611686018427387904) (hck : (chk s.data.toList == 0) = false) :
    Calls Try.prog 10 #[.string s] w fun e w' => e = .returned (.tuple #[.string ⟨#[]⟩, .int .i64 (chk s.data.toList)]) ∧ w' = w := by
  go_enter Try.func10, Try.ntmps10
  go_wp2_with fail
  refine (check_any _ _ (by omega)).mono ?_
  rintro e w9 ⟨rfl, rfl⟩
  go_wp2_with fail
  go_ret2
  exact ⟨rfl, rfl⟩
end Go.Proofs.Ytadjeaefnfkogaa

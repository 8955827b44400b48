/- The walk of GlobQuoted; conditions: as the theorem states. -/
import Derived.Test.YtmjdlilmackneaaGd
namespace Go.Proofs.Ytmjdlilmackneaa
open Go.RowKit

theorem plain_q (s : List UInt8) : ∀ j (h : j < (plain true s).length), (plain true s)[j].2 = true := by
  intro j h
  simp [plain]

set_option maxRecDepth 100000 in
set_option maxHeartbeats 2000000 in
theorem quoted_law (s t : ByteArray) (w : World) (hs : s.size ≤ 1048576) (ht : t.size ≤ 1048576) :
    Calls Try.prog 6 #[.string s, .string t] w fun e w' => e = .returned (.bool true) ∧ Below w.heap.size w w' := by
  have hl : (plain true s.data.toList).length ≤ 4194304 := by rw [plain_length]; omega
  have HL := Lib.hid hl
  clear hl
  have HM : Hid (∀ v W, PatOf (plain true s.data.toList) v W → Calls Try.prog 13 #[v, .string t] W fun e w' => e = .returned (.bool (s.toList == t.toList)) ∧ Below W.heap.size W w') := by
    intro v W hp
    have := Match_any _ v t W hp HL.out (by omega)
    rw [els_quoted, Mt_quoted] at this
    rw [ByteArray.toList_eq, ByteArray.toList_eq]
    exact this
  go_enter Try.func6, Try.ntmps6
  go_wp2_with fail
  refine (plain_any s true _ (by omega)).mono ?_
  rintro e w1 ⟨v1, rfl, ho, hb⟩
  have HP := Lib.hid (plain_pat ho)
  have HB := Lib.hid hb
  clear hb ho
  go_wp2_with fail
  refine (HM.out v1 _ HP.out).mono ?_
  rintro e w2 ⟨rfl, hb⟩
  have HB2 := Lib.hid (HB.out.trans (hb.mono HB.out.size))
  clear hb
  go_wp2_with fail
  refine (plain_any s true _ (by omega)).mono ?_
  rintro e w3 ⟨v3, rfl, ho, hb⟩
  have HP3 := Lib.hid (plain_pat ho)
  have HB3 := Lib.hid (HB2.out.trans (hb.mono HB2.out.size))
  clear hb ho
  go_wp2_with fail
  refine (special_q v3 _ _ (plain_q _) HP3.out (Nat.le_trans HL.out (by decide))).mono ?_
  rintro e w4 ⟨rfl, hb⟩
  have HB4 := Lib.hid (HB3.out.trans (hb.mono HB3.out.size))
  clear hb
  go_wp2_with fail
  refine (alive_any _).mono ?_
  rintro e w5 ⟨rfl, hb⟩
  have HB5 := Lib.hid (HB4.out.trans (hb.mono HB4.out.size))
  clear hb
  go_wp2_with fail
  go_ret
  exact ⟨rfl, HB5.out⟩
end Go.Proofs.Ytmjdlilmackneaa

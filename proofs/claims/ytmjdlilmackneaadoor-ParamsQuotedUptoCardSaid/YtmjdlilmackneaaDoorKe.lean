/- The walk of ParamsQuoted; conditions: as the theorem states. -/
import Derived.Test.YtmjdlilmackneaaDoorKc
import Derived.Test.YtmjdlilmackneaaDoorGc
namespace Go.Proofs.YtmjdlilmackneaaDoor
open Go.RowKit

theorem pl_quoted (a b : List UInt8) : pl (els (plain true a)) (a ++ b) false = a.length := by
  have hP : (fun k => Mt (els (plain true a)) ((a ++ b).take k)) = fun k => a == (a ++ b).take k := by
    funext k
    rw [els_quoted, Mt_quoted]
  unfold pl preI
  rw [hP]
  rcases firstL_cases (a ++ b).length (fun k => a == (a ++ b).take k) false with ⟨h1, h2⟩ | ⟨k, h1, h2, h3, h4⟩
  · have := h2 a.length (by simp)
    simp at this
  · have ht : a = (a ++ b).take k := by simpa using h3
    have hl : a.length = k := by
      have h := congrArg List.length ht
      rw [List.length_take] at h
      omega
    rw [h2]
    omega
theorem sl_quoted (a b : List UInt8) : sl (els (plain true b)) (a ++ b) true = b.length := by
  have hP : (fun k => Mt (els (plain true b)) ((a ++ b).drop ((a ++ b).length - k))) = fun k => b == (a ++ b).drop ((a ++ b).length - k) := by
    funext k
    rw [els_quoted, Mt_quoted]
  unfold sl sufI
  rw [hP]
  rcases firstL_cases (a ++ b).length (fun k => b == (a ++ b).drop ((a ++ b).length - k)) true with ⟨h1, h2⟩ | ⟨k, h1, h2, h3, h4⟩
  · have := h2 b.length (by simp)
    simp at this
  · have ht : b = (a ++ b).drop ((a ++ b).length - k) := by simpa using h3
    have hl : b.length = k := by
      have h := congrArg List.length ht
      rw [List.length_drop] at h
      omega
    rw [h2]
    omega
theorem ab_list (a b : ByteArray) : (a ++ b).data.toList = a.data.toList ++ b.data.toList := by simp
theorem ab_pre (a b : ByteArray) : (a ++ b).extract (pl (els (plain true a.data.toList)) (a ++ b).data.toList false) (a ++ b).size = b := by
  rw [ab_list, pl_quoted]
  apply ByteArray.ext
  apply Array.ext'
  rw [Lib.extract_data, ab_list, List.drop_left]
  exact List.take_of_length_le (by rw [ByteArray.size_append]; show b.data.size ≤ a.data.size + b.data.size - a.data.size; omega)
theorem ab_suf (a b : ByteArray) : (a ++ b).extract 0 ((a ++ b).size - sl (els (plain true b.data.toList)) (a ++ b).data.toList true) = a := by
  rw [ab_list, sl_quoted]
  apply ByteArray.ext
  apply Array.ext'
  rw [Lib.extract_data, ab_list, List.drop_zero]
  rw [show (a ++ b).size - b.data.toList.length - 0 = a.data.toList.length by rw [ByteArray.size_append]; show a.data.size + b.data.size - b.data.size - 0 = a.data.size; omega]
  exact List.take_left

theorem plain_length (q : Bool) (s : List UInt8) : (plain q s).length = s.length := by simp [plain]
theorem plain_pat {s : ByteArray} {q : Bool} {v : Value} {w w' : World} (h : w'.ownsRow w.heap.size 42 2 v s.size (chCells (plain q s.data.toList))) : PatOf (plain q s.data.toList) v w' := by
  refine PatOf.of_row (base := w.heap.size) ?_
  rw [plain_length, Array.length_toList]
  exact h
set_option maxRecDepth 100000 in
set_option maxHeartbeats 2000000 in
theorem quoted_walk (a b : ByteArray) (w : World) (ht : Tab w) (ha : a.size ≤ 1048576) (hb : b.size ≤ 1048576) :
    Calls Tryd.prog 6 #[.string a, .string b] w fun e w' => e = .returned (.bool true) ∧ Below w.heap.size w w' := by
  obtain ⟨t, hT⟩ : ∃ t, t = a ++ b := ⟨_, rfl⟩
  have hts : t.size ≤ 4611686018427387000 := by rw [hT, ByteArray.size_append]; omega
  have H1 : Hid (∀ v V, PatOf (plain true a.data.toList) v V → Calls Tryd.prog 10 #[.string t, .string ⟨#[35]⟩, v] V fun e w' => e = .returned (.tuple #[.string b, .int .i64 0]) ∧ Below V.heap.size V w') := fun v V hV => by
    have := remove_pre false (plain true a.data.toList) v t V hV (by rw [plain_length, Array.length_toList]; show a.size ≤ _; omega) hts
    rw [hT, ab_pre] at this
    rw [hT]
    exact this
  have H2 : Hid (∀ v V, PatOf (plain true b.data.toList) v V → Calls Tryd.prog 10 #[.string t, .string ⟨#[37, 37]⟩, v] V fun e w' => e = .returned (.tuple #[.string a, .int .i64 0]) ∧ Below V.heap.size V w') := fun v V hV => by
    have := remove_suf true (plain true b.data.toList) v t V hV (by rw [plain_length, Array.length_toList]; show b.size ≤ _; omega) hts
    rw [hT, ab_suf] at this
    rw [hT]
    exact this
  clear hts
  have HT := Lib.hid hT
  have HTb := Lib.hid ht
  clear hT ht
  have HAl : Hid (∀ V, Tab V → Calls Tryd.prog 8 #[] V fun e w' => e = .returned (.bool true) ∧ Below V.heap.size V w') := fun V hV => alive18_any V hV
  go_enter Tryd.func6, Tryd.ntmps6
  go_wp2_with fail
  refine (HAl.out _ HTb.out).mono ?_
  rintro e w0 ⟨rfl, hb0⟩
  have HB0 := Lib.hid hb0
  clear hb0
  go_wp2_with fail
  refine (rplain_any a true _ (by omega)).mono ?_
  rintro e w1 ⟨v1, rfl, ho, hb1⟩
  have HP := Lib.hid (plain_pat ho)
  have HB := Lib.hid (HB0.out.trans (hb1.mono HB0.out.size))
  clear hb1 ho
  go_wp2_with fail
  rw [← HT.out]
  refine (H1.out v1 _ HP.out).mono ?_
  rintro e w2 ⟨rfl, hb2⟩
  have HB2 := Lib.hid (HB.out.trans (hb2.mono HB.out.size))
  clear hb2
  go_wp2_with fail
  refine (rplain_any b true _ (by omega)).mono ?_
  rintro e w3 ⟨v3, rfl, ho, hb3⟩
  have HP3 := Lib.hid (plain_pat ho)
  have HB3 := Lib.hid (HB2.out.trans (hb3.mono HB2.out.size))
  clear hb3 ho
  go_wp2_with fail
  rw [← HT.out]
  refine (H2.out v3 _ HP3.out).mono ?_
  rintro e w4 ⟨rfl, hb4⟩
  have HB4 := Lib.hid (HB3.out.trans (hb4.mono HB3.out.size))
  clear hb4
  go_wp2_with fail
  refine (num18_any _ _).mono ?_
  rintro e w5 ⟨rfl, rfl⟩
  go_wp2_with fail
  refine (num18_any _ _).mono ?_
  rintro e w6 ⟨rfl, rfl⟩
  go_wp2_with fail
  go_ret
  exact ⟨rfl, HB4.out⟩
end Go.Proofs.YtmjdlilmackneaaDoor

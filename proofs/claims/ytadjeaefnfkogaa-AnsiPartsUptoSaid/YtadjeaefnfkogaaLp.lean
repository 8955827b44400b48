/- The walk of AnsiParts over Decode's contract; conditions: as each theorem states. -/
import Derived.Test.YtadjeaefnfkogaaLa
namespace Go.Proofs.Ytadjeaefnfkogaa
open Go.RowKit

theorem join_data (a b : ByteArray) : (a ++ ({ data := #[32] } : ByteArray) ++ b).data.toList = a.data.toList ++ 32 :: b.data.toList := by
  simp [ByteArray.data_append]
theorem join_size (a b : ByteArray) : (a ++ ({ data := #[32] } : ByteArray) ++ b).size = a.size + 1 + b.size := by
  rw [← size_of, join_data]; simp; omega

set_option maxRecDepth 100000 in
set_option maxHeartbeats 4000000 in
theorem parts_good (a b A B C : ByteArray) (na nb nc ea eb ec : Int) (w : World) (hs : a.size + 1 + b.size ≤ 140737488355328) (ha : ea = 0) (hb0 : eb = 0) (hc0 : ec = 0) (hC : C = A ++ ({ data := #[32] } : ByteArray) ++ B) (hA : A.size ≤ a.size) (hB : B.size ≤ b.size)
    (h1 : Hid (told a.data.toList = (A.data.toList, na, ea))) (h2 : Hid (told b.data.toList = (B.data.toList, nb, eb))) (h3 : Hid (told (a.data.toList ++ 32 :: b.data.toList) = (C.data.toList, nc, ec))) :
    Calls Try.prog 3 #[.string a, .string b] w fun e w' => e = .returned (.bool true) ∧ Below w.heap.size w w' := by
  have H3 : Hid (told (a ++ ({ data := #[32] } : ByteArray) ++ b).data.toList = (C.data.toList, nc, ec)) := by unfold Hid; rw [join_data]; exact h3.out
  have hsz : (a ++ ({ data := #[32] } : ByteArray) ++ b).size ≤ 140737488355328 := by rw [join_size]; exact hs
  have HSZ := Lib.hid hsz
  clear hsz
  subst ha; subst hb0; subst hc0; subst hC
  go_enter Try.func3, Try.ntmps3
  go_wp2_with fail
  refine (alive_any _).mono ?_
  rintro e w1 ⟨rfl, hb⟩
  have HB1 := Lib.hid hb
  clear hb
  go_wp2_with fail
  refine (decode_is _ A na 0 _ (by omega) h1).mono ?_
  rintro e w2 ⟨rfl, hb⟩
  have HB2 := Lib.hid (HB1.out.trans (hb.mono HB1.out.size))
  clear hb
  go_wp2_with fail
  refine (decode_is _ B nb 0 _ (by omega) h2).mono ?_
  rintro e w3 ⟨rfl, hb⟩
  have HB3 := Lib.hid (HB2.out.trans (hb.mono HB2.out.size))
  clear hb
  go_wp2_with fail
  refine (decode_is _ _ nc 0 _ HSZ.out H3).mono ?_
  rintro e w4 ⟨rfl, hb⟩
  have HB4 := Lib.hid (HB3.out.trans (hb.mono HB3.out.size))
  clear hb
  go_wp2_with (go_at_call 9; go_in)
  go_ret
  exact ⟨by simp, HB4.out⟩

set_option maxRecDepth 100000 in
set_option maxHeartbeats 4000000 in
theorem parts_bad1 (a b A B C : ByteArray) (na nb nc ea eb ec : Int) (w : World) (hs : a.size + 1 + b.size ≤ 140737488355328) (ha : (ea == 0) = false) (hc : (ec == 0) = false)
    (h1 : Hid (told a.data.toList = (A.data.toList, na, ea))) (h2 : Hid (told b.data.toList = (B.data.toList, nb, eb))) (h3 : Hid (told (a.data.toList ++ 32 :: b.data.toList) = (C.data.toList, nc, ec))) :
    Calls Try.prog 3 #[.string a, .string b] w fun e w' => e = .returned (.bool true) ∧ Below w.heap.size w w' := by
  have H3 : Hid (told (a ++ ({ data := #[32] } : ByteArray) ++ b).data.toList = (C.data.toList, nc, ec)) := by unfold Hid; rw [join_data]; exact h3.out
  have hsz : (a ++ ({ data := #[32] } : ByteArray) ++ b).size ≤ 140737488355328 := by rw [join_size]; exact hs
  have HSZ := Lib.hid hsz
  clear hsz
  go_enter Try.func3, Try.ntmps3
  go_wp2_with fail
  refine (alive_any _).mono ?_
  rintro e w1 ⟨rfl, hb⟩
  have HB1 := Lib.hid hb
  clear hb
  go_wp2_with fail
  refine (decode_is _ A na ea _ (by omega) h1).mono ?_
  rintro e w2 ⟨rfl, hb⟩
  have HB2 := Lib.hid (HB1.out.trans (hb.mono HB1.out.size))
  clear hb
  go_wp2_with fail
  refine (decode_is _ B nb eb _ (by omega) h2).mono ?_
  rintro e w3 ⟨rfl, hb⟩
  have HB3 := Lib.hid (HB2.out.trans (hb.mono HB2.out.size))
  clear hb
  go_wp2_with fail
  refine (decode_is _ C nc ec _ HSZ.out H3).mono ?_
  rintro e w4 ⟨rfl, hb⟩
  have HB4 := Lib.hid (HB3.out.trans (hb.mono HB3.out.size))
  clear hb
  go_wp2_with (go_at_call 9; go_in)
  go_ret
  exact ⟨by simpa using hc, HB4.out⟩

set_option maxRecDepth 100000 in
set_option maxHeartbeats 4000000 in
theorem parts_bad2 (a b A B C : ByteArray) (na nb nc ea eb ec : Int) (w : World) (hs : a.size + 1 + b.size ≤ 140737488355328) (ha : ea = 0) (hb0 : (eb == 0) = false) (hc : (ec == 0) = false)
    (h1 : Hid (told a.data.toList = (A.data.toList, na, ea))) (h2 : Hid (told b.data.toList = (B.data.toList, nb, eb))) (h3 : Hid (told (a.data.toList ++ 32 :: b.data.toList) = (C.data.toList, nc, ec))) :
    Calls Try.prog 3 #[.string a, .string b] w fun e w' => e = .returned (.bool true) ∧ Below w.heap.size w w' := by
  have H3 : Hid (told (a ++ ({ data := #[32] } : ByteArray) ++ b).data.toList = (C.data.toList, nc, ec)) := by unfold Hid; rw [join_data]; exact h3.out
  have hsz : (a ++ ({ data := #[32] } : ByteArray) ++ b).size ≤ 140737488355328 := by rw [join_size]; exact hs
  have HSZ := Lib.hid hsz
  clear hsz
  subst ha
  go_enter Try.func3, Try.ntmps3
  go_wp2_with fail
  refine (alive_any _).mono ?_
  rintro e w1 ⟨rfl, hb⟩
  have HB1 := Lib.hid hb
  clear hb
  go_wp2_with fail
  refine (decode_is _ A na 0 _ (by omega) h1).mono ?_
  rintro e w2 ⟨rfl, hb⟩
  have HB2 := Lib.hid (HB1.out.trans (hb.mono HB1.out.size))
  clear hb
  go_wp2_with fail
  refine (decode_is _ B nb eb _ (by omega) h2).mono ?_
  rintro e w3 ⟨rfl, hb⟩
  have HB3 := Lib.hid (HB2.out.trans (hb.mono HB2.out.size))
  clear hb
  go_wp2_with fail
  refine (decode_is _ C nc ec _ HSZ.out H3).mono ?_
  rintro e w4 ⟨rfl, hb⟩
  have HB4 := Lib.hid (HB3.out.trans (hb.mono HB3.out.size))
  clear hb
  go_wp2_with (go_at_call 9; go_in)
  go_ret
  exact ⟨by simpa using hc, HB4.out⟩

theorem told_of (l : List UInt8) : (∃ u, dec l = .ok u ∧ told l = (u, (l.length : Int), 0)) ∨ ∃ j e, dec l = .error (j, e) ∧ told l = ([], (j : Int), e) ∧ (e == 0) = false := by
  cases h : dec l with
  | ok u => exact Or.inl ⟨u, rfl, told_good h⟩
  | error x =>
    obtain ⟨j, e⟩ := x
    refine Or.inr ⟨j, e, rfl, told_bad h, ?_⟩
    rcases (dec_error _ l (Nat.le_refl _) j e h).2 with rfl | rfl <;> rfl

theorem parts_law (a b : ByteArray) (w : World) (hs : a.size + 1 + b.size ≤ 140737488355328) : Calls Try.prog 3 #[.string a, .string b] w fun e w' => e = .returned (.bool true) ∧ Below w.heap.size w w' := by
  have hp := dec_parts b.data.toList a.data.toList.length a.data.toList (Nat.le_refl _)
  rcases told_of a.data.toList with ⟨x, hx, tx⟩ | ⟨j, e, hx, tx, he⟩
  · rw [hx] at hp
    rcases told_of b.data.toList with ⟨y, hy, ty⟩ | ⟨j2, e2, hy, ty, he2⟩
    · rw [hy] at hp
      have hxl := (dec_ok _ _ (Nat.le_refl _) x hx).2
      have hyl := (dec_ok _ _ (Nat.le_refl _) y hy).2
      rw [size_of] at hxl hyl
      exact parts_good a b ⟨x.toArray⟩ ⟨y.toArray⟩ _ _ _ ((a.data.toList ++ 32 :: b.data.toList).length : Int) 0 0 0 w hs rfl rfl rfl rfl (by show x.toArray.size ≤ _; rwa [List.size_toArray]) (by show y.toArray.size ≤ _; rwa [List.size_toArray]) tx ty (by show _ = _; rw [told_good hp, join_data]; simp)
    · rw [hy] at hp
      exact parts_bad2 a b ⟨x.toArray⟩ ⟨#[]⟩ ⟨#[]⟩ _ _ _ 0 e2 e2 w hs rfl he2 he2 tx ty (told_bad hp)
  · rw [hx] at hp
    rcases told_of b.data.toList with ⟨y, hy, ty⟩ | ⟨j2, e2, hy, ty, he2⟩
    · exact parts_bad1 a b ⟨#[]⟩ ⟨y.toArray⟩ ⟨#[]⟩ _ _ _ e _ e w hs he he tx ty (told_bad hp)
    · exact parts_bad1 a b ⟨#[]⟩ ⟨#[]⟩ ⟨#[]⟩ _ _ _ e _ e w hs he he tx ty (told_bad hp)

end Go.Proofs.Ytadjeaefnfkogaa

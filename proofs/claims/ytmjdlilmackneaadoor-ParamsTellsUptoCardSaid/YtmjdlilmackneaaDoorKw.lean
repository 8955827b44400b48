/- cowrieref18.Join: what it tells; conditions: as each theorem states. -/
import Derived.Test.YtmjdlilmackneaaDoorKf
import Derived.Lib.AppendStr
import Derived.Laws.IdiomStrings
import Derived.Laws.BytesArg
namespace Go.Proofs.YtmjdlilmackneaaDoor
open Go.RowKit

/-- What is joined behind k texts. -/
def jn (L : List (List UInt8)) (sep : List UInt8) (k : Nat) : List UInt8 := Lib.join (L.take k) sep
theorem jn_succ (L : List (List UInt8)) (sep : List UInt8) (k : Nat) (y : List UInt8) (h : L[k]? = some y) : jn L sep (k + 1) = (if 0 < k then jn L sep k ++ sep else jn L sep k) ++ y := by
  unfold jn
  cases L with
  | nil => simp at h
  | cons x r =>
    cases k with
    | zero =>
      have : x = y := by simpa using h
      subst this
      simp [Lib.join_one, Lib.join_nil]
    | succ k =>
      have h' : r[k]? = some y := by simpa using h
      rw [List.take_succ_cons, Lib.join_cons, List.take_succ_cons, Lib.join_cons, Lib.joinTail_take_succ sep r k y h', if_pos (by omega)]
      simp [List.append_assoc]
theorem join_le (M : List (List UInt8)) (sep : List UInt8) : (Lib.join M sep).length ≤ M.length * sep.length + Lib.lens M := by
  cases M with
  | nil => simp [Lib.join_nil]
  | cons x r =>
    rw [Lib.join_length, List.length_cons, Nat.add_mul, Nat.mul_comm]
    omega
theorem jn_le (L : List (List UInt8)) (sep : List UInt8) (k : Nat) (hs : sep.length ≤ 1) : (jn L sep k).length ≤ L.length + Lib.lens L := by
  have h1 := join_le (L.take k) sep
  have h2 := Lib.lens_take_le L k
  have h3 : (L.take k).length * sep.length ≤ (L.take k).length * 1 := Nat.mul_le_mul_left _ hs
  have h4 : (L.take k).length ≤ L.length := by rw [List.length_take]; omega
  unfold jn
  omega
theorem jn_all (xs : List ByteArray) (sep : ByteArray) : jn (LS xs) sep.data.toList xs.length = (joined xs sep).data.toList := by
  unfold jn joined
  rw [List.take_of_length_le (by rw [LS_length]; exact Nat.le_refl _)]
def octs (l : List UInt8) : List Value := l.map fun b => Value.int .u8 b.toNat
theorem octs_append (a : List UInt8) (s : ByteArray) : octs (a ++ s.data.toList) = octs a ++ Lib.strCells s := by
  unfold octs Lib.strCells
  rw [List.map_append]
set_option maxRecDepth 100000 in
theorem info_by : (Tryd.prog.info? 5).map (fun i => (i.zero, i.size, i.bytes)) = some (some (.int .u8 0), 1, 1) := by kernel_rfl
set_option maxRecDepth 100000 in
theorem conv_row (w : World) (base : Nat) (v : Value) (l : List UInt8) (h : w.ownsRow base 5 1 v l.length (octs l)) : (convert 49 9 v).run Tryd.prog w = .ok (.string ⟨l.toArray⟩) w := by
  rcases h.2 with ⟨h1, h2⟩ | ⟨g, cap, cur, hv, _⟩
  · have : l = [] := List.length_eq_zero_iff.1 h2
    subst this
    rw [h1]
    exact run_convert_bytes_nil _ 49 5 Tryd.underlying49 Tryd.underlying5 0 0 _ Tryd.underlying9
  · subst hv
    refine run_convert_bytes_back w 49 9 5 ⟨g, 0, none⟩ cap l Tryd.underlying49 Tryd.underlying5 Tryd.underlying9 fun j hj => ?_
    rw [Addr.add_lit, Nat.zero_add, h.cellAt j (by omega)]
    simp [octs, hj]
theorem row_one {w : World} {base : Nat} {v : Value} {A B : List UInt8} {x : ByteArray} (h : w.ownsRow base 5 1 v (A.length + x.size) (octs A ++ Lib.strCells x)) (hB : B = A ++ x.data.toList) : w.ownsRow base 5 1 v B.length (octs B) := by
  rw [hB, octs_append, List.length_append, Array.length_toList]
  exact h
theorem row_two {w : World} {base : Nat} {v : Value} {A B : List UInt8} {t x : ByteArray} (h : w.ownsRow base 5 1 v (A.length + t.size + x.size) (octs A ++ Lib.strCells t ++ Lib.strCells x)) (hB : B = A ++ t.data.toList ++ x.data.toList) : w.ownsRow base 5 1 v B.length (octs B) := by
  rw [hB, octs_append, octs_append, List.length_append, List.length_append, Array.length_toList, Array.length_toList]
  exact h
theorem first_oct (s : ByteArray) (h : s.toList.isEmpty = false) : 1 ≤ s.size := by
  rw [ByteArray.toList_eq] at h
  cases hz : s.data.toList with
  | nil => rw [hz] at h; cases h
  | cons a l =>
    have : s.data.toList.length = s.size := rfl
    rw [hz] at this
    rw [← this]
    simp
theorem sep_empty (s : ByteArray) (h : s.toList.isEmpty = true) : sepOf s true = ⟨#[]⟩ := by
  rw [ByteArray.toList_eq, List.isEmpty_iff] at h
  have h0 : s.size = 0 := congrArg List.length h
  apply ByteArray.ext
  apply Array.ext'
  unfold sepOf
  rw [Lib.extract_data, h]
  simp

set_option maxRecDepth 100000 in
set_option maxHeartbeats 4000000 in
theorem rjoin_any (ao : Option Addr) (b o cap : Nat) (xs : List ByteArray) (s : ByteArray) (set : Bool) (w : World) (hf : 0 < xs.length → ao = some ⟨b, o, none⟩) (hx : StrsAt b o xs w) (hb : 0 < xs.length → b < w.heap.size) (hn : xs.length ≤ 1048576) (hl : Lib.lens (LS xs) ≤ 1048576) (hs : s.size ≤ 1048576) :
    Calls Tryd.prog 17 #[.slice ao xs.length cap, .string s, .bool set] w fun e w' => e = .returned (.string (joined xs (sepOf s set))) ∧ Below w.heap.size w w' := by
  obtain ⟨i0, hi0, hz0, hz1, hz2⟩ := info_parts info_by
  obtain ⟨t, ht⟩ : ∃ t, t = sepOf s set := ⟨_, rfl⟩
  rw [← ht]
  have htl : t.size ≤ 1 := by rw [ht]; exact sepOf_le s set
  obtain ⟨J, hJ⟩ : ∃ J : Nat → List UInt8, J = jn (LS xs) t.data.toList := ⟨_, rfl⟩
  have HJ0 : Hid (J 0 = []) := by
    show _ = _
    rw [hJ]
    rfl
  have HJS : Hid (∀ (k : Nat) (x : ByteArray), xs[k]? = some x → J (k + 1) = (if 0 < k then J k ++ t.data.toList else J k) ++ x.data.toList) := fun k x hk => by
    rw [hJ]
    exact jn_succ (LS xs) t.data.toList k x.data.toList (by simp [LS, hk])
  have HJL : Hid (∀ k, (J k).length ≤ 2097152) := fun k => by
    have := jn_le (LS xs) t.data.toList k (by rw [Array.length_toList]; exact htl)
    rw [LS_length] at this
    rw [hJ]
    omega
  have HJE : Hid ((⟨(J xs.length).toArray⟩ : ByteArray) = joined xs t) := by
    show _ = _
    rw [hJ, jn_all]
  have HT : Hid (t = sepOf s set) := ht
  have HXs := Lib.hid hx
  obtain ⟨n, hnn⟩ : ∃ n, n = xs.length := ⟨_, rfl⟩
  rw [← hnn] at hf hb hn HJE ⊢
  have HN := Lib.hid hnn
  clear hJ ht hx hnn hl
  cases set
  · obtain rfl : t = ⟨#[32]⟩ := HT.out
    clear HT
    go_enter Tryd.func17, Tryd.ntmps17
    go_wp2_with fail
    go_loopw [8, 9] (fun bv i wr => ∃ k : Nat, k ≤ n ∧ i = .int .i64 k ∧ Hid (wr.ownsRow w.heap.size 5 1 bv (J k).length (octs (J k))) ∧ Hid (Below w.heap.size w wr)) (fun _ i _ => n - (intOf i).toNat)
    case atStart =>
      refine ⟨0, Nat.zero_le _, rfl, ?_, Below.refl _ _⟩
      show World.ownsRow _ _ _ _ _ _ _
      rw [HJ0.out]
      exact World.ownsRow_nil _ _ _ _
    case round =>
      obtain ⟨k, hk, rfl, ho, hbl⟩ := hrel
      have hbz : w.heap.size ≤ wr.heap.size := hbl.out.size
      by_cases hlt : k < n
      · obtain rfl := hf (by omega)
        have hbb := hb (by omega)
        have hkx : k < xs.length := by rw [← HN.out]; exact hlt
        obtain ⟨x, hxx⟩ : ∃ x, xs[k]? = some x := ⟨xs[k], List.getElem?_eq_getElem hkx⟩
        have hx0 := HXs.out k x hxx
        have d0 := (hbl.out.cell (p := ⟨b, o + k, none⟩) hbb).trans hx0
        have HX0 := Lib.hid hx0
        have HS := Lib.hid (HJS.out k x hxx)
        have hlen := HJL.out (k + 1)
        rw [HS.out] at hlen
        clear hx0 hxx
        by_cases hk0 : 0 < k
        · rw [if_pos hk0, List.length_append, List.length_append, Array.length_toList, Array.length_toList] at hlen
          have hlen' : (J k).length + (⟨#[32]⟩ : ByteArray).size + x.size ≤ 2097152 := hlen
          have HA : Hid ((J k).length + (⟨#[32]⟩ : ByteArray).size ≤ maxLen) := by
            show _ ≤ _
            unfold maxLen
            omega
          have HB : Hid ((J k).length + (⟨#[32]⟩ : ByteArray).size ≤ 140737488355328) := by
            show _ ≤ _
            omega
          have HC : Hid ((J k).length + (⟨#[32]⟩ : ByteArray).size + x.size ≤ maxLen) := by
            show _ ≤ _
            unfold maxLen
            omega
          have HD : Hid ((J k).length + (⟨#[32]⟩ : ByteArray).size + x.size ≤ 140737488355328) := by
            show _ ≤ _
            omega
          clear hlen hlen'
          go_wp2_with (first | (at_builtin; refine Lib.wpList_append_own_string _ rfl (.tmp 30) (.tmp 31) 49 9 rfl w.heap.size 5 i0 Tryd.underlying49 Tryd.underlying9 hi0 hz0 hz1 hz2 _ _ _ rfl ho.out _ rfl HA.out HB.out hbz ?_; intro v1 w1 hown1 hgrow1 _; have HO1 := Lib.hid hown1; have HB1 := Lib.hid (hbl.out.grown hgrow1 hbz (fun k hk => (ho.out.lt k hk).1)); have hz1' := HB1.out.size; have d1 := (HB1.out.cell (p := ⟨b, o + k, none⟩) hbb).trans HX0.out; clear hown1 hgrow1) | (at_builtin; refine Lib.wpList_append_own_string _ rfl (.tmp 33) (.tmp 37) 49 9 rfl w.heap.size 5 i0 Tryd.underlying49 Tryd.underlying9 hi0 hz0 hz1 hz2 _ _ _ rfl HO1.out _ rfl HC.out HD.out hz1' ?_; intro v2 w2 hown2 hgrow2 _; have HO2 := Lib.hid hown2; have HB2 := Lib.hid (HB1.out.grown hgrow2 hz1' (fun k hk => (HO1.out.lt k hk).1)); clear hown2 hgrow2))
          go_roundw
          case rel => exact ⟨k + 1, by omega, by go_num, row_two HO2.out (by rw [HS.out, if_pos hk0]), HB2.out⟩
          case measure => simp [intOf]; omega
        · rw [if_neg hk0, List.length_append, Array.length_toList] at hlen
          have hlen' : (J k).length + x.size ≤ 2097152 := hlen
          have HC : Hid ((J k).length + x.size ≤ maxLen) := by
            show _ ≤ _
            unfold maxLen
            omega
          have HD : Hid ((J k).length + x.size ≤ 140737488355328) := by
            show _ ≤ _
            omega
          clear hlen hlen'
          go_wp2_with (at_builtin; refine Lib.wpList_append_own_string _ rfl (.tmp 33) (.tmp 37) 49 9 rfl w.heap.size 5 i0 Tryd.underlying49 Tryd.underlying9 hi0 hz0 hz1 hz2 _ _ _ rfl ho.out _ rfl HC.out HD.out hbz ?_; intro v2 w2 hown2 hgrow2 _; have HO2 := Lib.hid hown2; have HB2 := Lib.hid (hbl.out.grown hgrow2 hbz (fun k hk => (ho.out.lt k hk).1)); clear hown2 hgrow2)
          go_roundw
          case rel => exact ⟨k + 1, by omega, by go_num, row_one HO2.out (by rw [HS.out, if_neg hk0]), HB2.out⟩
          case measure => simp [intOf]; omega
      · obtain rfl : k = n := by omega
        have hcv := conv_row wr w.heap.size u8 (J k) ho.out
        rw [HJE.out] at hcv
        go_wp2_with fail
        go_ret
        exact ⟨by simp, hbl.out⟩
  · by_cases h0 : s.toList.isEmpty = true
    · obtain rfl : t = ⟨#[]⟩ := HT.out.trans (sep_empty s h0)
      clear HT
      go_enter Tryd.func17, Tryd.ntmps17
      go_wp2_with fail
      go_loopw [8, 9] (fun bv i wr => ∃ k : Nat, k ≤ n ∧ i = .int .i64 k ∧ Hid (wr.ownsRow w.heap.size 5 1 bv (J k).length (octs (J k))) ∧ Hid (Below w.heap.size w wr)) (fun _ i _ => n - (intOf i).toNat)
      case atStart =>
        refine ⟨0, Nat.zero_le _, rfl, ?_, Below.refl _ _⟩
        show World.ownsRow _ _ _ _ _ _ _
        rw [HJ0.out]
        exact World.ownsRow_nil _ _ _ _
      case round =>
        obtain ⟨k, hk, rfl, ho, hbl⟩ := hrel
        have hbz : w.heap.size ≤ wr.heap.size := hbl.out.size
        by_cases hlt : k < n
        · obtain rfl := hf (by omega)
          have hbb := hb (by omega)
          have hkx : k < xs.length := by rw [← HN.out]; exact hlt
          obtain ⟨x, hxx⟩ : ∃ x, xs[k]? = some x := ⟨xs[k], List.getElem?_eq_getElem hkx⟩
          have hx0 := HXs.out k x hxx
          have d0 := (hbl.out.cell (p := ⟨b, o + k, none⟩) hbb).trans hx0
          have HX0 := Lib.hid hx0
          have HS := Lib.hid (HJS.out k x hxx)
          have hlen := HJL.out (k + 1)
          rw [HS.out] at hlen
          clear hx0 hxx
          by_cases hk0 : 0 < k
          · rw [if_pos hk0, List.length_append, List.length_append, Array.length_toList, Array.length_toList] at hlen
            have hlen' : (J k).length + (⟨#[]⟩ : ByteArray).size + x.size ≤ 2097152 := hlen
            have HA : Hid ((J k).length + (⟨#[]⟩ : ByteArray).size ≤ maxLen) := by
              show _ ≤ _
              unfold maxLen
              omega
            have HB : Hid ((J k).length + (⟨#[]⟩ : ByteArray).size ≤ 140737488355328) := by
              show _ ≤ _
              omega
            have HC : Hid ((J k).length + (⟨#[]⟩ : ByteArray).size + x.size ≤ maxLen) := by
              show _ ≤ _
              unfold maxLen
              omega
            have HD : Hid ((J k).length + (⟨#[]⟩ : ByteArray).size + x.size ≤ 140737488355328) := by
              show _ ≤ _
              omega
            clear hlen hlen'
            go_wp2_with (first | (at_builtin; refine Lib.wpList_append_own_string _ rfl (.tmp 30) (.tmp 31) 49 9 rfl w.heap.size 5 i0 Tryd.underlying49 Tryd.underlying9 hi0 hz0 hz1 hz2 _ _ _ rfl ho.out _ rfl HA.out HB.out hbz ?_; intro v1 w1 hown1 hgrow1 _; have HO1 := Lib.hid hown1; have HB1 := Lib.hid (hbl.out.grown hgrow1 hbz (fun k hk => (ho.out.lt k hk).1)); have hz1' := HB1.out.size; have d1 := (HB1.out.cell (p := ⟨b, o + k, none⟩) hbb).trans HX0.out; clear hown1 hgrow1) | (at_builtin; refine Lib.wpList_append_own_string _ rfl (.tmp 33) (.tmp 37) 49 9 rfl w.heap.size 5 i0 Tryd.underlying49 Tryd.underlying9 hi0 hz0 hz1 hz2 _ _ _ rfl HO1.out _ rfl HC.out HD.out hz1' ?_; intro v2 w2 hown2 hgrow2 _; have HO2 := Lib.hid hown2; have HB2 := Lib.hid (HB1.out.grown hgrow2 hz1' (fun k hk => (HO1.out.lt k hk).1)); clear hown2 hgrow2))
            go_roundw
            case rel => exact ⟨k + 1, by omega, by go_num, row_two HO2.out (by rw [HS.out, if_pos hk0]), HB2.out⟩
            case measure => simp [intOf]; omega
          · rw [if_neg hk0, List.length_append, Array.length_toList] at hlen
            have hlen' : (J k).length + x.size ≤ 2097152 := hlen
            have HC : Hid ((J k).length + x.size ≤ maxLen) := by
              show _ ≤ _
              unfold maxLen
              omega
            have HD : Hid ((J k).length + x.size ≤ 140737488355328) := by
              show _ ≤ _
              omega
            clear hlen hlen'
            go_wp2_with (at_builtin; refine Lib.wpList_append_own_string _ rfl (.tmp 33) (.tmp 37) 49 9 rfl w.heap.size 5 i0 Tryd.underlying49 Tryd.underlying9 hi0 hz0 hz1 hz2 _ _ _ rfl ho.out _ rfl HC.out HD.out hbz ?_; intro v2 w2 hown2 hgrow2 _; have HO2 := Lib.hid hown2; have HB2 := Lib.hid (hbl.out.grown hgrow2 hbz (fun k hk => (ho.out.lt k hk).1)); clear hown2 hgrow2)
            go_roundw
            case rel => exact ⟨k + 1, by omega, by go_num, row_one HO2.out (by rw [HS.out, if_neg hk0]), HB2.out⟩
            case measure => simp [intOf]; omega
        · obtain rfl : k = n := by omega
          have hcv := conv_row wr w.heap.size u8 (J k) ho.out
          rw [HJE.out] at hcv
          go_wp2_with fail
          go_ret
          exact ⟨by simp, hbl.out⟩
    · have h0' : s.toList.isEmpty = false := eq_false_of_ne_true h0
      have hs1 := first_oct s h0'
      clear h0
      have hsl : ∀ w, (Instr.slice 9 (.string s) none (some (.int .i64 1)) none).run Tryd.prog w = .ok (.string t) w := fun w => by
        rw [run_slice_string_h (P := Tryd.prog) w 9 s Tryd.underlying9 .i64 _ (by omega) (by omega), HT.out]
        show Result.ok (Value.string (s.extract 0 1)) w = Result.ok (Value.string (s.extract 0 (min s.size 1))) w
        rw [Nat.min_eq_right hs1]
      clear HT hs1
      go_enter Tryd.func17, Tryd.ntmps17
      go_wp2_with fail
      go_loopw [8, 9] (fun bv i wr => ∃ k : Nat, k ≤ n ∧ i = .int .i64 k ∧ Hid (wr.ownsRow w.heap.size 5 1 bv (J k).length (octs (J k))) ∧ Hid (Below w.heap.size w wr)) (fun _ i _ => n - (intOf i).toNat)
      case atStart =>
        refine ⟨0, Nat.zero_le _, rfl, ?_, Below.refl _ _⟩
        show World.ownsRow _ _ _ _ _ _ _
        rw [HJ0.out]
        exact World.ownsRow_nil _ _ _ _
      case round =>
        obtain ⟨k, hk, rfl, ho, hbl⟩ := hrel
        have hbz : w.heap.size ≤ wr.heap.size := hbl.out.size
        by_cases hlt : k < n
        · obtain rfl := hf (by omega)
          have hbb := hb (by omega)
          have hkx : k < xs.length := by rw [← HN.out]; exact hlt
          obtain ⟨x, hxx⟩ : ∃ x, xs[k]? = some x := ⟨xs[k], List.getElem?_eq_getElem hkx⟩
          have hx0 := HXs.out k x hxx
          have d0 := (hbl.out.cell (p := ⟨b, o + k, none⟩) hbb).trans hx0
          have HX0 := Lib.hid hx0
          have HS := Lib.hid (HJS.out k x hxx)
          have hlen := HJL.out (k + 1)
          rw [HS.out] at hlen
          clear hx0 hxx
          by_cases hk0 : 0 < k
          · rw [if_pos hk0, List.length_append, List.length_append, Array.length_toList, Array.length_toList] at hlen
            have hlen' : (J k).length + t.size + x.size ≤ 2097152 := hlen
            have HA : Hid ((J k).length + t.size ≤ maxLen) := by
              show _ ≤ _
              unfold maxLen
              omega
            have HB : Hid ((J k).length + t.size ≤ 140737488355328) := by
              show _ ≤ _
              omega
            have HC : Hid ((J k).length + t.size + x.size ≤ maxLen) := by
              show _ ≤ _
              unfold maxLen
              omega
            have HD : Hid ((J k).length + t.size + x.size ≤ 140737488355328) := by
              show _ ≤ _
              omega
            clear hlen hlen'
            go_wp2_with (first | (at_builtin; refine Lib.wpList_append_own_string _ rfl (.tmp 30) (.tmp 31) 49 9 rfl w.heap.size 5 i0 Tryd.underlying49 Tryd.underlying9 hi0 hz0 hz1 hz2 _ _ _ rfl ho.out _ rfl HA.out HB.out hbz ?_; intro v1 w1 hown1 hgrow1 _; have HO1 := Lib.hid hown1; have HB1 := Lib.hid (hbl.out.grown hgrow1 hbz (fun k hk => (ho.out.lt k hk).1)); have hz1' := HB1.out.size; have d1 := (HB1.out.cell (p := ⟨b, o + k, none⟩) hbb).trans HX0.out; clear hown1 hgrow1) | (at_builtin; refine Lib.wpList_append_own_string _ rfl (.tmp 33) (.tmp 37) 49 9 rfl w.heap.size 5 i0 Tryd.underlying49 Tryd.underlying9 hi0 hz0 hz1 hz2 _ _ _ rfl HO1.out _ rfl HC.out HD.out hz1' ?_; intro v2 w2 hown2 hgrow2 _; have HO2 := Lib.hid hown2; have HB2 := Lib.hid (HB1.out.grown hgrow2 hz1' (fun k hk => (HO1.out.lt k hk).1)); clear hown2 hgrow2))
            go_roundw
            case rel => exact ⟨k + 1, by omega, by go_num, row_two HO2.out (by rw [HS.out, if_pos hk0]), HB2.out⟩
            case measure => simp [intOf]; omega
          · rw [if_neg hk0, List.length_append, Array.length_toList] at hlen
            have hlen' : (J k).length + x.size ≤ 2097152 := hlen
            have HC : Hid ((J k).length + x.size ≤ maxLen) := by
              show _ ≤ _
              unfold maxLen
              omega
            have HD : Hid ((J k).length + x.size ≤ 140737488355328) := by
              show _ ≤ _
              omega
            clear hlen hlen'
            go_wp2_with (at_builtin; refine Lib.wpList_append_own_string _ rfl (.tmp 33) (.tmp 37) 49 9 rfl w.heap.size 5 i0 Tryd.underlying49 Tryd.underlying9 hi0 hz0 hz1 hz2 _ _ _ rfl ho.out _ rfl HC.out HD.out hbz ?_; intro v2 w2 hown2 hgrow2 _; have HO2 := Lib.hid hown2; have HB2 := Lib.hid (hbl.out.grown hgrow2 hbz (fun k hk => (ho.out.lt k hk).1)); clear hown2 hgrow2)
            go_roundw
            case rel => exact ⟨k + 1, by omega, by go_num, row_one HO2.out (by rw [HS.out, if_neg hk0]), HB2.out⟩
            case measure => simp [intOf]; omega
        · obtain rfl : k = n := by omega
          have hcv := conv_row wr w.heap.size u8 (J k) ho.out
          rw [HJE.out] at hcv
          go_wp2_with fail
          go_ret
          exact ⟨by simp, hbl.out⟩
end Go.Proofs.YtmjdlilmackneaaDoor

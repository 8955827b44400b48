/- The walk of GlobSets; conditions: as each theorem states. -/
import Derived.Test.YtmjdlilmackneaaGd
import Derived.Test.YtmjdlilmackneaaOp
import Derived.Lib.SlBytesConst
namespace Go.Proofs.Ytmjdlilmackneaa
open Go.RowKit

def setA (s : List UInt8) : List Ch := (91, false) :: plain true s
def setB (s : List UInt8) : List Ch := (91, false) :: (33, false) :: plain true s
theorem plain_snoc (q : Bool) (s : ByteArray) (k : Nat) (h : k < s.size) : plain q (s.data.toList.take (k + 1)) = plain q (s.data.toList.take k) ++ [(s[k], q)] := by
  rw [take_snoc s k h]
  simp [plain]
theorem any_snoc (s : ByteArray) (c : UInt8) (k : Nat) (h : k < s.size) : (s.data.toList.take (k + 1)).any (· == c) = ((s.data.toList.take k).any (· == c) || (s[k] == c)) := by
  rw [take_snoc s k h, List.any_append]
  simp
theorem setA_snoc (s : ByteArray) (k : Nat) (h : k < s.size) : chCells (setA (s.data.toList.take (k + 1))) = chCells (setA (s.data.toList.take k)) ++ [.int .u8 s[k].toNat, .bool true] := by
  unfold setA
  rw [plain_snoc true s k h]
  simp [chCells, chCells_append]
theorem setB_snoc (s : ByteArray) (k : Nat) (h : k < s.size) : chCells (setB (s.data.toList.take (k + 1))) = chCells (setB (s.data.toList.take k)) ++ [.int .u8 s[k].toNat, .bool true] := by
  unfold setB
  rw [plain_snoc true s k h]
  simp [chCells, chCells_append]

theorem ownsRow_base {w : World} {base base' : Nat} {e : TypeId} {size : Nat} {v : Value} {n : Nat} {xs : List Value} (h : w.ownsRow base e size v n xs) (hb : base' ≤ base) : w.ownsRow base' e size v n xs := by
  refine ⟨h.1, ?_⟩
  rcases h.2 with h2 | ⟨g, cap, cur, hv, h1, h2⟩
  · exact Or.inl h2
  · exact Or.inr ⟨g, cap, cur, hv, Nat.le_trans hb h1, h2⟩
theorem own_ne {ga gb g H n c : Nat} (hat : (Value.slice (some ⟨ga, 0, none⟩) n c).ownBlock = some g ∨ g = H) (hne : ga ≠ gb) (hlt : gb < H) : g ≠ gb := by
  rcases hat with h | h
  · have : some ga = some g := h
    injection this with h
    omega
  · omega
theorem convAt (w : World) (g : Nat) (c : UInt8) (hc : w.cell? ⟨g, 0, none⟩ = some (.int .u8 c.toNat)) : (convert 29 9 (.slice (some ⟨g, 0, none⟩) 1 1)).run Try.prog w = .ok (.string ⟨#[c]⟩) w := by
  refine run_convert_bytes_back w 29 9 5 ⟨g, 0, none⟩ 1 [c] Try.underlying29 Try.underlying5 Try.underlying9 fun j hj => ?_
  match j, hj with
  | 0, _ => simpa [Addr.add] using hc

set_option maxRecDepth 100000 in
set_option maxHeartbeats 2000000 in
theorem sets_walk (s : ByteArray) (c : UInt8) (w : World) (hs : s.size ≤ 1048576) :
    Calls Try.prog 4 #[.string s, .int .u8 c.toNat] w fun e w' => e = .returned (.bool true) ∧ Below w.heap.size w w' := by
  obtain ⟨i0, hi0, hz0, hz1, hz2⟩ := info_parts info_ch
  have hmx : Hid (0 + 1 ≤ maxLen) := by show _ ≤ _; decide
  have hmb : Hid ((0 + 1) * 2 ≤ 140737488355328) := by show _ ≤ _; decide
  have hmx2 : Hid (0 + 2 ≤ maxLen) := by show _ ≤ _; decide
  have hmb2 : Hid ((0 + 2) * 2 ≤ 140737488355328) := by show _ ≤ _; decide
  go_enter Try.func4, Try.ntmps4
  go_wp2_with fail
  refine (alive_any _).mono ?_
  rintro e w1 ⟨rfl, hb1⟩
  have HB := Lib.hid hb1
  clear hb1
  have hz1' : w.heap.size ≤ w1.heap.size := HB.out.size
  go_upto_region 4 with fail
  go_cut [5] (fun s5 w4 => ∃ g cap, s5 = .slice (some ⟨g, 0, none⟩) 1 cap ∧ Hid (w4.ownsRow w1.heap.size 25 2 (.slice (some ⟨g, 0, none⟩) 1 cap) 1 [.int .u8 91, .bool false]) ∧ g < w4.heap.size ∧ Hid (Below w1.heap.size w1 w4))
  case first =>
    go_wp2_with (at_builtin; refine wpList_append_lies _ rfl (.tmp 12) (.tmp 14) 22 rfl w1.heap.size 25 i0 _ 2 2 Try.underlying22 hi0 hz0 hz1 hz2 rfl (by omega) (.slice none 0 0) 0 [] rfl (World.ownsRow_nil _ _ _ _) ⟨w1.heap.size, 0, none⟩ 1 1 [.int .u8 91, .bool false] rfl rfl (World.news_of_block (cs := #[.int .u8 91, .bool false]) (t := 25) (fr := (0, 0)) (heap_alloc_new w1 _)) (by simp [Value.oneCell']) (by omega) hmx.out hmb.out (by simp) (w1.heap.size + 1) (by simp) ?_; intro g2 cap2 w2 hown2 hgrow2 hat2 hlt2)
    go_meet
    exact ⟨g2, cap2, rfl, hown2, hlt2, (((Below.refl w1.heap.size w1).alloc (Nat.le_refl _) _)).grown hgrow2 (by simp) (fun k hk => by cases hk)⟩
  case rest =>
    obtain ⟨ga, ca, rfl, hoa, hga, hbw⟩ := hcut
    have hz2' : w1.heap.size ≤ wc.heap.size := hbw.out.size
    have HBW := Lib.hid (HB.out.trans (hbw.out.mono hz1'))
    go_upto_region 5 with fail
    obtain ⟨w2, hw2⟩ : ∃ w2, w2 = wc := ⟨_, rfl⟩
    rw [← hw2] at hoa hga hbw hz2' HBW ⊢
    clear hw2
    go_cut [6] (fun s6 w4 => ∃ g cap, s6 = .slice (some ⟨g, 0, none⟩) 2 cap ∧ Hid (w4.ownsRow w2.heap.size 25 2 (.slice (some ⟨g, 0, none⟩) 2 cap) 2 [.int .u8 91, .bool false, .int .u8 33, .bool false]) ∧ g < w4.heap.size ∧ w2.heap.size ≤ g ∧ Hid (Below w2.heap.size w2 w4))
    case first =>
      go_wp2_with (at_builtin; refine wpList_append_lies _ rfl (.tmp 16) (.tmp 19) 22 rfl w2.heap.size 25 i0 _ 2 2 Try.underlying22 hi0 hz0 hz1 hz2 rfl (by omega) (.slice none 0 0) 0 [] rfl (World.ownsRow_nil _ _ _ _) ⟨w2.heap.size, 0, none⟩ 2 2 [.int .u8 91, .bool false, .int .u8 33, .bool false] rfl rfl (World.news_of_block (cs := #[.int .u8 91, .bool false, .int .u8 33, .bool false]) (t := 25) (fr := (0, 0)) (heap_alloc_new w2 _)) (by simp [Value.oneCell']) (by omega) hmx2.out hmb2.out (by simp) (w2.heap.size + 1) (by simp) ?_; intro g3 cap3 w3 hown3 hgrow3 hat3 hlt3)
      go_meet
      exact ⟨g3, cap3, rfl, hown3, hlt3, (hown3.lt _ rfl).1, (((Below.refl w2.heap.size w2).alloc (Nat.le_refl _) _)).grown hgrow3 (by simp) (fun k hk => by cases hk)⟩
    case rest =>
      obtain ⟨gb, cb, rfl, hob, hgb, hgb2, hbw2⟩ := hcut
      have hoa' : Hid (wc.ownsRow w1.heap.size 25 2 (.slice (some ⟨ga, 0, none⟩) 1 ca) 1 [.int .u8 91, .bool false]) := ownsRow_keep hoa.out fun k hk => hbw2.out.block k (hoa.out.lt k hk).2
      have HBW2 := Lib.hid (HBW.out.trans (hbw2.out.mono HBW.out.size))
      have hob' : Hid (wc.ownsRow w1.heap.size 25 2 (.slice (some ⟨gb, 0, none⟩) 2 cb) 2 [.int .u8 91, .bool false, .int .u8 33, .bool false]) := ownsRow_base hob.out hz2'
      have hbwc : Hid (Below w1.heap.size w1 wc) := hbw.out.trans (hbw2.out.mono hz2')
      clear hoa hob hbw hbw2
      go_wp2_with fail
      go_loopw [5, 6, 7, 8] (fun av bv iv i wr => ∃ (k ga ca gb cb : Nat) (r : Bool), k ≤ s.size ∧ i = .int .i64 k ∧ av = .slice (some ⟨ga, 0, none⟩) (1 + k) ca ∧ bv = .slice (some ⟨gb, 0, none⟩) (2 + k) cb ∧ iv = .bool r ∧ Hid (r = (s.data.toList.take k).any (· == c)) ∧ ga ≠ gb ∧ ga < wr.heap.size ∧ gb < wr.heap.size ∧
        Hid (wr.ownsRow w1.heap.size 25 2 (.slice (some ⟨ga, 0, none⟩) (1 + k) ca) (1 + k) (chCells (setA (s.data.toList.take k)))) ∧ Hid (wr.ownsRow w1.heap.size 25 2 (.slice (some ⟨gb, 0, none⟩) (2 + k) cb) (2 + k) (chCells (setB (s.data.toList.take k)))) ∧ Hid (Below w1.heap.size w1 wr))
        (fun _ _ _ i _ => s.size - (intOf i).toNat)
      case atStart => exact ⟨0, ga, ca, gb, cb, false, Nat.zero_le _, rfl, rfl, rfl, rfl, rfl, by omega, by have := (hoa'.out.lt _ rfl).2; omega, hgb, hoa'.out, hob'.out, hbwc.out⟩
      case round =>
        clear hgb hgb2 hoa' hob' hbwc HBW2 HBW hga
        obtain ⟨k, ga, ca, gb, cb, r, hk, rfl, rfl, rfl, rfl, hr, hne, hga, hgb, hoa, hob, hbr⟩ := hrel
        have hbz : w1.heap.size ≤ wr.heap.size := hbr.out.size
        by_cases hlt : k < s.size
        · have hmxa : Hid (1 + k + 1 ≤ maxLen) := by show _ ≤ _; unfold maxLen; omega
          have hmba : Hid ((1 + k + 1) * 2 ≤ 140737488355328) := by show _ ≤ _; omega
          have hmxb : Hid (2 + k + 1 ≤ maxLen) := by show _ ≤ _; unfold maxLen; omega
          have hmbb : Hid ((2 + k + 1) * 2 ≤ 140737488355328) := by show _ ≤ _; omega
          obtain ⟨r2, hr2⟩ : ∃ r2, r2 = (s[k] == c) := ⟨_, rfl⟩
          have hx : ((s[k].toNat : Int) == (c.toNat : Int)) = r2 := by
            rw [hr2, Bool.eq_iff_iff, beq_iff_eq, beq_iff_eq]
            exact ⟨fun e => UInt8.toNat_inj.1 (Int.ofNat.inj e), fun e => by rw [e]⟩
          have hr' : Hid ((r || r2) = (s.data.toList.take (k + 1)).any (· == c)) := by
            show _ = _
            rw [any_snoc s c k hlt, ← hr.out, ← hr2]
          clear hr2
          cases r
          · go_wp2_with (first | (at_builtin; refine wpList_append_lies _ rfl (.tmp 27) (.tmp 32) 22 rfl w1.heap.size 25 i0 _ 2 2 Try.underlying22 hi0 hz0 hz1 hz2 rfl (by omega) (.slice (some ⟨ga, 0, none⟩) (1 + k) ca) (1 + k) _ rfl (hoa.out.alloc _) ⟨wr.heap.size, 0, none⟩ 1 1 [.int .u8 s[k].toNat, .bool true] rfl rfl (World.news_of_block (cs := #[.int .u8 s[k].toNat, .bool true]) (t := 25) (fr := (0, 0)) (heap_alloc_new wr _)) (by simp [Value.oneCell']) (by omega) hmxa.out hmba.out (by simp; omega) (wr.heap.size + 1) (by simp) ?_; intro g3 cap3 w3 hown3 hgrow3 hat3 hlt3; have HOA3 := Lib.hid hown3; have hrow3 := Lib.hid hgrow3; have HOB3 := Lib.hid ((hob.out.alloc _).kept hgrow3 (Or.inr (fun h => hne (Option.some.inj h).symm))); have hb3 := Lib.hid ((hbr.out.alloc hbz _).grown hgrow3 (by simp; omega) (fun k hk => (hoa.out.lt k hk).1)); have hz3 : w1.heap.size ≤ w3.heap.size := hb3.out.size; have hs3 : wr.heap.size + 1 ≤ w3.heap.size := (by have := hgrow3.size; simpa using this); have HAT3 := Lib.hid hat3; clear hown3 hgrow3 hat3) | (at_builtin; refine wpList_append_lies _ rfl (.tmp 34) (.tmp 39) 22 rfl w1.heap.size 25 i0 _ 2 2 Try.underlying22 hi0 hz0 hz1 hz2 rfl (by omega) (.slice (some ⟨gb, 0, none⟩) (2 + k) cb) (2 + k) _ rfl (HOB3.out.alloc _) ⟨w3.heap.size, 0, none⟩ 1 1 [.int .u8 s[k].toNat, .bool true] rfl rfl (World.news_of_block (cs := #[.int .u8 s[k].toNat, .bool true]) (t := 25) (fr := (0, 0)) (heap_alloc_new w3 _)) (by simp [Value.oneCell']) (by omega) hmxb.out hmbb.out (by simp; omega) (w3.heap.size + 1) (by simp) ?_; intro g4 cap4 w4 hown4 hgrow4 hat4 hlt4; have HAT4 := Lib.hid hat4; have HOB4 := Lib.hid hown4; have HOA4 := Lib.hid ((HOA3.out.alloc _).kept hgrow4 (Or.inr (fun h => own_ne HAT3.out hne (by omega) (Option.some.inj h)))); have hb4 := Lib.hid ((hb3.out.alloc hz3 _).grown hgrow4 (by simp; omega) (fun k hk => (HOB3.out.lt k hk).1)); have hs4 : w3.heap.size + 1 ≤ w4.heap.size := (by have := hgrow4.size; simpa using this); have hne4 : g3 ≠ g4 := (own_ne HAT4.out (Ne.symm (own_ne HAT3.out hne (by omega))) (by omega)).symm; clear hown4 hgrow4 HAT3 HAT4 hat4))
            go_roundw
            case rel =>
              refine ⟨k + 1, g3, cap3, g4, cap4, r2, by omega, by go_num, rfl, rfl, rfl, hr'.out, hne4, by omega, hlt4, ?_, ?_, hb4.out⟩
              · show World.ownsRow _ _ _ _ _ _ _
                rw [setA_snoc s k hlt]
                exact HOA4.out
              · show World.ownsRow _ _ _ _ _ _ _
                rw [setB_snoc s k hlt]
                exact HOB4.out
            case measure => simp [intOf]; omega
          · go_wp2_with (first | (at_builtin; refine wpList_append_lies _ rfl (.tmp 27) (.tmp 32) 22 rfl w1.heap.size 25 i0 _ 2 2 Try.underlying22 hi0 hz0 hz1 hz2 rfl (by omega) (.slice (some ⟨ga, 0, none⟩) (1 + k) ca) (1 + k) _ rfl (hoa.out.alloc _) ⟨wr.heap.size, 0, none⟩ 1 1 [.int .u8 s[k].toNat, .bool true] rfl rfl (World.news_of_block (cs := #[.int .u8 s[k].toNat, .bool true]) (t := 25) (fr := (0, 0)) (heap_alloc_new wr _)) (by simp [Value.oneCell']) (by omega) hmxa.out hmba.out (by simp; omega) (wr.heap.size + 1) (by simp) ?_; intro g3 cap3 w3 hown3 hgrow3 hat3 hlt3; have HOA3 := Lib.hid hown3; have hrow3 := Lib.hid hgrow3; have HOB3 := Lib.hid ((hob.out.alloc _).kept hgrow3 (Or.inr (fun h => hne (Option.some.inj h).symm))); have hb3 := Lib.hid ((hbr.out.alloc hbz _).grown hgrow3 (by simp; omega) (fun k hk => (hoa.out.lt k hk).1)); have hz3 : w1.heap.size ≤ w3.heap.size := hb3.out.size; have hs3 : wr.heap.size + 1 ≤ w3.heap.size := (by have := hgrow3.size; simpa using this); have HAT3 := Lib.hid hat3; clear hown3 hgrow3 hat3) | (at_builtin; refine wpList_append_lies _ rfl (.tmp 34) (.tmp 39) 22 rfl w1.heap.size 25 i0 _ 2 2 Try.underlying22 hi0 hz0 hz1 hz2 rfl (by omega) (.slice (some ⟨gb, 0, none⟩) (2 + k) cb) (2 + k) _ rfl (HOB3.out.alloc _) ⟨w3.heap.size, 0, none⟩ 1 1 [.int .u8 s[k].toNat, .bool true] rfl rfl (World.news_of_block (cs := #[.int .u8 s[k].toNat, .bool true]) (t := 25) (fr := (0, 0)) (heap_alloc_new w3 _)) (by simp [Value.oneCell']) (by omega) hmxb.out hmbb.out (by simp; omega) (w3.heap.size + 1) (by simp) ?_; intro g4 cap4 w4 hown4 hgrow4 hat4 hlt4; have HAT4 := Lib.hid hat4; have HOB4 := Lib.hid hown4; have HOA4 := Lib.hid ((HOA3.out.alloc _).kept hgrow4 (Or.inr (fun h => own_ne HAT3.out hne (by omega) (Option.some.inj h)))); have hb4 := Lib.hid ((hb3.out.alloc hz3 _).grown hgrow4 (by simp; omega) (fun k hk => (HOB3.out.lt k hk).1)); have hs4 : w3.heap.size + 1 ≤ w4.heap.size := (by have := hgrow4.size; simpa using this); have hne4 : g3 ≠ g4 := (own_ne HAT4.out (Ne.symm (own_ne HAT3.out hne (by omega))) (by omega)).symm; clear hown4 hgrow4 HAT3 HAT4 hat4))
            go_roundw
            case rel =>
              refine ⟨k + 1, g3, cap3, g4, cap4, true, by omega, by go_num, rfl, rfl, rfl, hr'.out, hne4, by omega, hlt4, ?_, ?_, hb4.out⟩
              · show World.ownsRow _ _ _ _ _ _ _
                rw [setA_snoc s k hlt]
                exact HOA4.out
              · show World.ownsRow _ _ _ _ _ _ _
                rw [setB_snoc s k hlt]
                exact HOB4.out
            case measure => simp [intOf]; omega
        · have hks : k = s.size := by omega
          have hmxa : Hid (1 + k + 1 ≤ maxLen) := by show _ ≤ _; unfold maxLen; omega
          have hmba : Hid ((1 + k + 1) * 2 ≤ 140737488355328) := by show _ ≤ _; omega
          have hmxb : Hid (2 + k + 1 ≤ maxLen) := by show _ ≤ _; unfold maxLen; omega
          have hmbb : Hid ((2 + k + 1) * 2 ≤ 140737488355328) := by show _ ≤ _; omega
          have htk : s.data.toList.take k = s.data.toList := List.take_of_length_le (by simp; omega)
          rw [htk] at hr hoa hob
          have hsl : Hid (s.data.toList.length = k) := by
            show _ = _
            simp
            omega
          have hks' : Hid (k = s.size) := hks
          have hk0 : k ≤ 1048576 := by omega
          have hge : ¬ (k < s.size) := hlt
          clear htk hks
          have hconv := fun (w : World) (g : Nat) (h : w.cell? ⟨g, 0, none⟩ = some (.int .u8 c.toNat)) => convAt w g c h
          have HCV := Lib.hid hconv
          clear hconv
          go_upto_region 14 with (first | (at_builtin; refine wpList_append_lies _ rfl (.tmp 49) (.tmp 51) 22 rfl w1.heap.size 25 i0 _ 2 2 Try.underlying22 hi0 hz0 hz1 hz2 rfl (by omega) (.slice (some ⟨ga, 0, none⟩) (1 + k) ca) (1 + k) _ rfl (hoa.out.alloc _) ⟨wr.heap.size, 0, none⟩ 1 1 [.int .u8 93, .bool false] rfl rfl (World.news_of_block (cs := #[.int .u8 93, .bool false]) (t := 25) (fr := (0, 0)) (heap_alloc_new wr _)) (by simp [Value.oneCell']) (by omega) hmxa.out hmba.out (by simp; omega) (wr.heap.size + 1) (by simp) ?_; intro g3 cap3 w3 hown3 hgrow3 hat3 hlt3; have HAT3 := Lib.hid hat3; have HOA3 := Lib.hid hown3; have hrow3 := Lib.hid hgrow3; have HOB3 := Lib.hid ((hob.out.alloc _).kept hgrow3 (Or.inr (fun h => hne (Option.some.inj h).symm))); have hb3 := Lib.hid ((hbr.out.alloc hbz _).grown hgrow3 (by simp; omega) (fun k hk => (hoa.out.lt k hk).1)); have hz3 : w1.heap.size ≤ w3.heap.size := hb3.out.size; have hs3 : wr.heap.size + 1 ≤ w3.heap.size := (by have := hgrow3.size; simpa using this); clear hown3 hgrow3 hat3) | (at_builtin; refine wpList_append_lies _ rfl (.tmp 53) (.tmp 55) 22 rfl w1.heap.size 25 i0 _ 2 2 Try.underlying22 hi0 hz0 hz1 hz2 rfl (by omega) (.slice (some ⟨gb, 0, none⟩) (2 + k) cb) (2 + k) _ rfl (HOB3.out.alloc _) ⟨w3.heap.size, 0, none⟩ 1 1 [.int .u8 93, .bool false] rfl rfl (World.news_of_block (cs := #[.int .u8 93, .bool false]) (t := 25) (fr := (0, 0)) (heap_alloc_new w3 _)) (by simp [Value.oneCell']) (by omega) hmxb.out hmbb.out (by simp; omega) (w3.heap.size + 1) (by simp) ?_; intro g4 cap4 w4 hown4 hgrow4 hat4 hlt4; have HAT4 := Lib.hid hat4; have HOB4 := Lib.hid hown4; have HOA4 := Lib.hid ((HOA3.out.alloc _).kept hgrow4 (Or.inr (fun h => own_ne HAT3.out hne (by omega) (Option.some.inj h)))); have hb4 := Lib.hid ((hb3.out.alloc hz3 _).grown hgrow4 (by simp; omega) (fun k hk => (HOB3.out.lt k hk).1)); clear hown4 hgrow4 HAT3 HAT4 hat4))
          have hcv : (convert 29 9 (.slice (some ⟨w4.heap.size, 0, none⟩) 1 1)).run Try.prog (w4.alloc (.cells #[.int .u8 c.toNat] 5)) = .ok (.string ⟨#[c]⟩) (w4.alloc (.cells #[.int .u8 c.toNat] 5)) := HCV.out _ _ (World.cell?_alloc_new ..)
          have hz4 : w1.heap.size ≤ w4.heap.size := hb4.out.size
          have hb5 : Hid (Below w.heap.size w (w4.alloc (.cells #[.int .u8 c.toNat] 5))) := (HB.out.trans (hb4.out.mono hz1')).alloc (by omega) _
          have HPA : Hid (PatOf (setA s.data.toList ++ [(93, false)]) (.slice (some ⟨g3, 0, none⟩) (1 + k + 1) cap3) (w4.alloc (.cells #[.int .u8 c.toNat] 5))) := by
            refine PatOf.of_row (base := w1.heap.size) ?_
            have hl : (setA s.data.toList ++ [(93, false)]).length = 1 + k + 1 := by
              simp [setA, plain]
              have := hks'.out
              omega
            rw [hl, chCells_append]
            exact HOA4.out.alloc _
          have HPB : Hid (PatOf (setB s.data.toList ++ [(93, false)]) (.slice (some ⟨g4, 0, none⟩) (2 + k + 1) cap4) (w4.alloc (.cells #[.int .u8 c.toNat] 5))) := by
            refine PatOf.of_row (base := w1.heap.size) ?_
            have hl : (setB s.data.toList ++ [(93, false)]).length = 2 + k + 1 := by
              simp [setB, plain]
              have := hks'.out
              omega
            rw [hl, chCells_append]
            exact HOB4.out.alloc _
          by_cases hs0 : s.size = 0
          · have he : s.toList.isEmpty = true := by
              rw [ByteArray.toList_eq, List.isEmpty_iff, ← List.length_eq_zero_iff]
              exact hs0
            clear hs0
            go_wp2_with fail
            go_ret
            exact ⟨rfl, hb5.out⟩
          · have hne0 : Hid (s.data.toList ≠ []) := by
              intro h
              exact hs0 (congrArg List.length h)
            have he : s.toList.isEmpty = false := by
              rw [ByteArray.toList_eq, List.isEmpty_eq_false_iff]
              exact hne0.out
            clear hs0
            have HMA : Hid (∀ W, PatOf (setA s.data.toList ++ [(93, false)]) (.slice (some ⟨g3, 0, none⟩) (1 + k + 1) cap3) W → Calls Try.prog 13 #[.slice (some ⟨g3, 0, none⟩) (1 + k + 1) cap3, .string ⟨#[c]⟩] W fun e w' => e = .returned (.bool r) ∧ Below W.heap.size W w') := by
              intro W hW
              have := Match_any _ _ ⟨#[c]⟩ W hW (by simp [setA, plain]; have := hks'.out; omega) (by show 1 ≤ _; decide)
              rw [show setA s.data.toList ++ [(93, false)] = (91, false) :: (plain true s.data.toList ++ [(93, false)]) from rfl, set_in _ hne0.out, show (⟨#[c]⟩ : ByteArray).data.toList = [c] from rfl, Mt_one, ← hr.out] at this
              exact this
            have HMB : Hid (∀ W, PatOf (setB s.data.toList ++ [(93, false)]) (.slice (some ⟨g4, 0, none⟩) (2 + k + 1) cap4) W → Calls Try.prog 13 #[.slice (some ⟨g4, 0, none⟩) (2 + k + 1) cap4, .string ⟨#[c]⟩] W fun e w' => e = .returned (.bool !r) ∧ Below W.heap.size W w') := by
              intro W hW
              have := Match_any _ _ ⟨#[c]⟩ W hW (by simp [setB, plain]; have := hks'.out; omega) (by show 1 ≤ _; decide)
              rw [show setB s.data.toList ++ [(93, false)] = (91, false) :: (33, false) :: (plain true s.data.toList ++ [(93, false)]) from rfl, set_out _ hne0.out, show (⟨#[c]⟩ : ByteArray).data.toList = [c] from rfl, Mt_one, ← hr.out] at this
              exact this
            go_wp2_with fail
            refine (HMA.out _ HPA.out).mono ?_
            rintro e w6 ⟨rfl, hb6⟩
            have HB6 := Lib.hid (hb5.out.trans (hb6.mono hb5.out.size))
            have HPB6 := Lib.hid (HPB.out.below hb6)
            clear hb6
            go_wp2_with fail
            refine (HMB.out _ HPB6.out).mono ?_
            rintro e w7 ⟨rfl, hb7⟩
            have HB7 := Lib.hid (HB6.out.trans (hb7.mono HB6.out.size))
            clear hb7
            go_wp2_with fail
            go_ret
            exact ⟨rfl, HB7.out⟩
theorem sets_law (s : ByteArray) (n : Int) (w : World) (hs : s.size ≤ 1048576) (hn : (Lit.int .u8 n).wf = true) :
    Calls Try.prog 4 #[.string s, .int .u8 n] w fun e w' => e = .returned (.bool true) ∧ Below w.heap.size w w' := by
  obtain ⟨c, rfl⟩ := nat_of_wf hn
  exact sets_walk s c w hs
end Go.Proofs.Ytmjdlilmackneaa

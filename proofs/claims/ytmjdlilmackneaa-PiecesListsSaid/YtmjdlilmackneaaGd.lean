/- glob.Match, Plain, Special at quoted patterns; cowrieplain.SameChars at alike ones; alive; conditions: as each theorem states. -/
import Derived.Test.YtmjdlilmackneaaGc
namespace Go.Proofs.Ytmjdlilmackneaa
open Go.RowKit

set_option maxRecDepth 100000 in
set_option maxHeartbeats 2000000 in
theorem Match_any (p : List Ch) (v : Value) (s : ByteArray) (w : World) (h : PatOf p v w) (hm : p.length ≤ 4194304) (hs : s.size ≤ 4611686018427387904) :
    Calls Try.prog 13 #[v, .string s] w fun e w' => e = .returned (.bool (Mt (els p) s.data.toList)) ∧ Below w.heap.size w w' := by
  have hel : (els p).length ≤ 4611686018427387904 := by have := els_length p; omega
  go_enter Try.func13, Try.ntmps13
  go_wp2_with fail
  refine (elements_pat p v _ h hm).mono ?_
  rintro e w1 ⟨v1, rfl, he, hb⟩
  have HE := Lib.hid he
  have HB := Lib.hid hb
  clear he hb
  go_wp2_with fail
  refine (match_any (els p) v1 s _ HE.out hel hs).mono ?_
  rintro e w2 ⟨rfl, hb⟩
  have HB2 := Lib.hid (HB.out.trans (hb.mono HB.out.size))
  clear hb
  go_wp2_with fail
  go_ret
  exact ⟨rfl, HB2.out⟩

set_option maxRecDepth 100000 in
set_option maxHeartbeats 2000000 in
theorem plain_any (s : ByteArray) (q : Bool) (w : World) (hs : s.size ≤ 4194304) :
    Calls Try.prog 14 #[.string s, .bool q] w fun e w' => ∃ v, e = .returned v ∧ w'.ownsRow w.heap.size 25 2 v s.size (chCells (plain q s.data.toList)) ∧ Below w.heap.size w w' := by
  obtain ⟨i0, hi0, hz0, hz1, hz2⟩ := info_parts info_ch
  go_enter Try.func14, Try.ntmps14
  go_wp2_with fail
  go_loopw [5, 9] (fun ov i wr => ∃ k : Nat, k ≤ s.size ∧ i = .int .i64 k ∧ Hid (wr.ownsRow w.heap.size 25 2 ov k (chCells (plain q (s.data.toList.take k)))) ∧ Hid (Below w.heap.size w wr)) (fun _ i _ => s.size - (intOf i).toNat)
  case atStart => exact ⟨0, Nat.zero_le _, rfl, World.ownsRow_nil _ _ _ _, Below.refl _ _⟩
  case round =>
    obtain ⟨k, hk, rfl, ho, hb⟩ := hrel
    by_cases hlt : k < s.size
    · have hnn : Hid (k + 1 ≤ maxLen) := by
        show _ ≤ _
        unfold maxLen
        omega
      have hnb : Hid ((k + 1) * 2 ≤ 140737488355328) := by
        show _ ≤ _
        omega
      have hbz : w.heap.size ≤ wr.heap.size := hb.out.size
      go_wp2_with (at_builtin; refine wpList_append_lies _ rfl _ _ 22 rfl w.heap.size 25 i0 _ 2 2 Try.underlying22 hi0 hz0 hz1 hz2 rfl (by omega) u5 k _ rfl (ho.out.alloc _) ⟨wr.heap.size, 0, none⟩ 1 1 [.int .u8 s[k].toNat, .bool q] rfl rfl (World.news_of_block (cs := #[.int .u8 s[k].toNat, .bool q]) (t := 25) (fr := (0, 0)) (heap_alloc_new wr _)) (by simp [Value.oneCell']) (by omega) hnn.out hnb.out (by simp; omega) (wr.heap.size + 1) (by simp) ?_; intro gg cap1 w1 hown1 hgrow hat hlt1)
      go_roundw
      case rel =>
        refine ⟨k + 1, by omega, by go_num, ?_, ?_⟩
        · show World.ownsRow _ _ _ _ _ _ _
          rw [take_snoc s k hlt]
          unfold plain
          rw [List.map_append, chCells_append]
          exact hown1
        · exact ((hb.out.alloc hb.out.size _).grown hgrow (by simp; omega) (fun k hk => (ho.out.lt k hk).1))
      case measure => simp [intOf]; omega
    · go_wp2_with fail
      have : k = s.size := by omega
      subst this
      go_ret
      refine ⟨_, rfl, ?_, hb.out⟩
      have := ho.out
      rw [List.take_of_length_le (by simp)] at this
      exact this
theorem plain_length (q : Bool) (s : ByteArray) : (plain q s.data.toList).length = s.size := by simp [plain]
theorem plain_pat {s : ByteArray} {q : Bool} {v : Value} {w w' : World} (h : w'.ownsRow w.heap.size 25 2 v s.size (chCells (plain q s.data.toList))) : PatOf (plain q s.data.toList) v w' := by
  refine PatOf.of_row (base := w.heap.size) ?_
  rw [plain_length]
  exact h

set_option maxRecDepth 100000 in
set_option maxHeartbeats 2000000 in
theorem special1_q (x : UInt8) (w : World) :
    Calls Try.prog 29 #[.agg #[.int .u8 x.toNat, .bool true]] w fun e w' => e = .returned (.bool false) ∧ Below w.heap.size w w' := by
  go_enter Try.func29, Try.ntmps29
  go_wp2_with fail
  go_ret
  exact ⟨rfl, (Below.refl _ _).alloc (Nat.le_refl _) _⟩

set_option maxRecDepth 100000 in
set_option maxHeartbeats 2000000 in
theorem ifq_any (v : Value) (p : List Ch) (w : World) (hq : ∀ j (h : j < p.length), p[j].2 = true) (hp : PatOf p v w) (hm : p.length ≤ 4611686018427387904) :
    Calls Try.prog 40 #[v, .func (.func 29) #[] #[]] w fun e w' => e = .returned (.int .i64 (-1)) ∧ Below w.heap.size w w' := by
  obtain ⟨ao, b, o, cap, rfl, hcap, ha, hg, hl⟩ := hp
  obtain ⟨m, hmm⟩ : ∃ m, m = p.length := ⟨_, rfl⟩
  rw [← hmm] at ha hm hg hcap ⊢
  have HM := Lib.hid hmm
  clear hmm
  have HL := Lib.hid hl
  have HQ := Lib.hid hq
  clear hl hq
  go_enter Try.func40, Try.ntmps40
  go_wp2_with fail
  go_loopw [8] (fun i wr => ∃ k : Nat, k ≤ m ∧ i = .int .i64 k ∧ Hid (Below w.heap.size w wr)) (fun i _ => m - (intOf i).toNat)
  case atStart => exact ⟨0, Nat.zero_le _, rfl, Below.refl _ _⟩
  case round =>
    obtain ⟨k, hk, rfl, hb⟩ := hrel
    by_cases hlt : k < m
    · have hkl : k < p.length := by rw [← HM.out]; exact hlt
      obtain rfl := ha (by omega)
      have hg := hg (by omega)
      obtain ⟨c0, c1⟩ := HL.out k hkl
      have d0 := (hb.out.cell (p := ⟨b, o + k * 2, none⟩) hg).trans c0
      have d1 := (hb.out.cell (p := ⟨b, o + k * 2 + 1, none⟩) hg).trans c1
      rw [HQ.out k hkl] at d1
      obtain ⟨x, hx⟩ : ∃ x, x = p[k].1 := ⟨_, rfl⟩
      rw [← hx] at d0
      clear hx c0 c1
      go_wp2_with fail
      refine (special1_q x _).mono ?_
      rintro e' w1 ⟨rfl, hb1⟩
      have HB1 := Lib.hid (hb.out.trans (hb1.mono hb.out.size))
      clear hb1
      go_wp2_with fail
      go_round
      case rel => exact ⟨k + 1, by omega, by go_num, HB1.out⟩
      case measure => simp [intOf]; omega
    · go_wp2_with fail
      go_ret
      exact ⟨rfl, hb.out⟩

set_option maxRecDepth 100000 in
set_option maxHeartbeats 2000000 in
theorem special_q (v : Value) (p : List Ch) (w : World) (hq : ∀ j (h : j < p.length), p[j].2 = true) (hp : PatOf p v w) (hm : p.length ≤ 4611686018427387904) :
    Calls Try.prog 17 #[v] w fun e w' => e = .returned (.bool false) ∧ Below w.heap.size w w' := by
  have HQ := Lib.hid hq
  clear hq
  have HC : Hid (∀ W, PatOf p v W → Calls Try.prog 28 #[v, .func (.func 29) #[] #[]] W fun e w' => e = .returned (.bool false) ∧ Below W.heap.size W w') := by
    intro W hW
    go_enter Try.func28, Try.ntmps28
    go_wp2_with fail
    refine (ifq_any v p _ HQ.out hW hm).mono ?_
    rintro e w1 ⟨rfl, hb⟩
    have HB := Lib.hid hb
    clear hb
    go_wp2_with fail
    go_ret
    exact ⟨rfl, HB.out⟩
  go_enter Try.func17, Try.ntmps17
  go_wp2_with fail
  refine (HC.out _ hp).mono ?_
  rintro e w1 ⟨rfl, hb⟩
  have HB := Lib.hid hb
  clear hb
  go_wp2_with fail
  go_ret
  exact ⟨rfl, HB.out⟩

def aliveP : List Ch := [(97, false), (42, false), (99, false)]
theorem alive_1 : Mt (els aliveP) [97, 98, 98, 99] = true := by
  simp [aliveP, els, elsF, fstD, opn, Mt]
theorem alive_2 : Mt (els aliveP) [97, 98, 98] = false := by
  simp [aliveP, els, elsF, fstD, opn, Mt]

set_option maxRecDepth 100000 in
set_option maxHeartbeats 2000000 in
theorem alive_any (w : World) : Calls Try.prog 11 #[] w fun e w' => e = .returned (.bool true) ∧ Below w.heap.size w w' := by
  obtain ⟨W, hW⟩ : ∃ W, W = w.alloc (.cells #[.int .u8 97, .bool false, .int .u8 42, .bool false, .int .u8 99, .bool false] 25) := ⟨_, rfl⟩
  have hp : PatOf aliveP (.slice (some ⟨w.heap.size, 0, none⟩) 3 3) W := by
    refine ⟨some ⟨w.heap.size, 0, none⟩, w.heap.size, 0, 3, rfl, by decide, fun _ => rfl, fun _ => by rw [hW]; simp, ?_⟩
    intro j hj
    rw [hW, World.cell?_alloc_new, World.cell?_alloc_new]
    match j, hj with
    | 0, _ => exact ⟨rfl, rfl⟩
    | 1, _ => exact ⟨rfl, rfl⟩
    | 2, _ => exact ⟨rfl, rfl⟩
  have hbW : Hid (Below w.heap.size w W) := by rw [hW]; exact (Below.refl _ _).alloc (Nat.le_refl _) _
  have HP := Lib.hid hp
  clear hp
  have h1 : Hid (∀ V, Below W.heap.size W V → Calls Try.prog 13 #[.slice (some ⟨w.heap.size, 0, none⟩) 3 3, .string ⟨#[97, 98, 98, 99]⟩] V fun e w' => e = .returned (.bool true) ∧ Below V.heap.size V w') := by
    intro V hV
    have := Match_any aliveP (.slice (some ⟨w.heap.size, 0, none⟩) 3 3) ⟨#[97, 98, 98, 99]⟩ V (HP.out.below hV) (by decide) (by show 4 ≤ _; decide)
    rw [show (⟨#[97, 98, 98, 99]⟩ : ByteArray).data.toList = [97, 98, 98, 99] from rfl, alive_1] at this
    exact this
  have h2 : Hid (∀ V, Below W.heap.size W V → Calls Try.prog 13 #[.slice (some ⟨w.heap.size, 0, none⟩) 3 3, .string ⟨#[97, 98, 98]⟩] V fun e w' => e = .returned (.bool false) ∧ Below V.heap.size V w') := by
    intro V hV
    have := Match_any aliveP (.slice (some ⟨w.heap.size, 0, none⟩) 3 3) ⟨#[97, 98, 98]⟩ V (HP.out.below hV) (by decide) (by show 3 ≤ _; decide)
    rw [show (⟨#[97, 98, 98]⟩ : ByteArray).data.toList = [97, 98, 98] from rfl, alive_2] at this
    exact this
  have h3 : Hid (∀ V : World, Calls Try.prog 14 #[.string ⟨#[97, 98]⟩, .bool true] V fun e w' => ∃ ao cap, e = .returned (.slice ao 2 cap) ∧ Below V.heap.size V w') := by
    intro V
    refine (plain_any ⟨#[97, 98]⟩ true V (by show 2 ≤ _; decide)).mono ?_
    rintro e w' ⟨v, rfl, ho, hb⟩
    obtain ⟨ao, b, o, cap, rfl, _⟩ := plain_pat ho
    exact ⟨ao, cap, rfl, hb⟩
  go_enter Try.func11, Try.ntmps11
  go_wp2_with fail
  rw [← hW]
  refine (h1.out W (Below.refl _ _)).mono ?_
  rintro e w1 ⟨rfl, hb1⟩
  have HB1 := Lib.hid hb1
  clear hb1
  go_wp2_with fail
  refine (h2.out w1 HB1.out).mono ?_
  rintro e w2 ⟨rfl, hb2⟩
  have HB2 := Lib.hid (HB1.out.trans (hb2.mono HB1.out.size))
  clear hb2
  go_wp2_with fail
  refine (h3.out w2).mono ?_
  rintro e w3 ⟨ao, cap, rfl, hb3⟩
  have HB3 := Lib.hid ((hbW.out.trans (HB2.out.mono hbW.out.size)).trans (hb3.mono (Nat.le_trans hbW.out.size HB2.out.size)))
  clear hb3
  go_wp2_with fail
  go_ret
  exact ⟨rfl, HB3.out⟩
end Go.Proofs.Ytmjdlilmackneaa

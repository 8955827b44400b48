/- Patterns as slices tell them; cowrieref03.Plain; conditions: as each theorem states. -/
import Derived.Test.YtmjdlilmackneaaGe
namespace Go.Proofs.Ytmjdlilmackneaa
open Go.RowKit

def chCells : List Ch → List Value
  | [] => []
  | x :: p => .int .u8 x.1.toNat :: .bool x.2 :: chCells p
theorem chCells_length : ∀ p : List Ch, (chCells p).length = p.length * 2
  | [] => rfl
  | x :: p => by
    simp only [chCells, List.length_cons, chCells_length p]
    omega
theorem chCells_append : ∀ p q : List Ch, chCells (p ++ q) = chCells p ++ chCells q
  | [], q => rfl
  | x :: p, q => by simp only [List.cons_append, chCells, chCells_append p q]
theorem chCells_at : ∀ (p : List Ch) (j : Nat) (h : j < p.length), (chCells p)[j * 2]? = some (.int .u8 p[j].1.toNat) ∧ (chCells p)[j * 2 + 1]? = some (.bool p[j].2)
  | x :: p, 0, _ => ⟨rfl, rfl⟩
  | x :: p, j + 1, h => by
    have := chCells_at p j (by simpa using h)
    rw [show (j + 1) * 2 = j * 2 + 1 + 1 by omega]
    simpa [chCells] using this
theorem chCells_one : ∀ (p : List Ch), ∀ u ∈ chCells p, u.oneCell' = true
  | [], u, h => by simp [chCells] at h
  | x :: p, u, h => by
    simp only [chCells, List.mem_cons] at h
    rcases h with rfl | rfl | h
    · rfl
    · rfl
    · exact chCells_one p u h
/-- A pattern as a slice tells it. -/
def PatOf (p : List Ch) (v : Value) (w : World) : Prop := ∃ ao b o cap, v = .slice ao p.length cap ∧ p.length ≤ cap ∧ (0 < p.length → ao = some ⟨b, o, none⟩) ∧ (0 < p.length → b < w.heap.size) ∧ Reads b o p w
theorem PatOf.below {p : List Ch} {v : Value} {w w' : World} (h : PatOf p v w) (hb : Below w.heap.size w w') : PatOf p v w' := by
  obtain ⟨ao, b, o, cap, h1, h2, h3, h4, h5⟩ := h
  exact ⟨ao, b, o, cap, h1, h2, h3, fun h => Nat.lt_of_lt_of_le (h4 h) hb.size, fun j hj => ⟨(hb.cell (p := ⟨b, _, none⟩) (h4 (by omega))).trans (h5 j hj).1, (hb.cell (p := ⟨b, _, none⟩) (h4 (by omega))).trans (h5 j hj).2⟩⟩
theorem PatOf.of_row {base : Nat} {p : List Ch} {v : Value} {w : World} (h : w.ownsRow base 25 2 v p.length (chCells p)) : PatOf p v w := by
  have hlt := h.lt
  rcases h.2 with ⟨h1, h2⟩ | ⟨g, cap, cur, hv, h1, h2, h3, h4⟩
  · have : p = [] := List.length_eq_zero_iff.1 h2
    subst this
    exact ⟨none, 0, 0, 0, h1, Nat.le_refl _, fun h => by simp at h, fun h => by simp at h, fun j hj => by simp at hj⟩
  · subst hv
    refine ⟨some ⟨g, 0, none⟩, g, 0, cap, rfl, h3, fun _ => rfl, fun _ => (hlt g rfl).2, fun j hj => ?_⟩
    have hc := chCells_at p j hj
    rw [Nat.zero_add, h.cellAt (j * 2) (by omega), h.cellAt (j * 2 + 1) (by omega)]
    exact hc
theorem elements_pat (p : List Ch) (v : Value) (w : World) (h : PatOf p v w) (hm : p.length ≤ 4194304) :
    Calls Try.prog 27 #[v] w fun e w' => ∃ v, e = .returned v ∧ ElemsOf (els p) v w' ∧ Below w.heap.size w w' := by
  obtain ⟨ao, b, o, cap, rfl, h2, h3, h4, h5⟩ := h
  exact elements_any ao b o cap p w h3 h2 h4 h5 hm
theorem info_ch : (Try.prog.info? 25).map (fun i => (i.zero, i.size, i.bytes)) = some (some (.agg #[.int .u8 0, .bool false]), 2, 2) := by kernel_rfl
theorem take_snoc (s : ByteArray) (k : Nat) (h : k < s.size) : s.data.toList.take (k + 1) = s.data.toList.take k ++ [s[k]] := by
  rw [List.take_succ_eq_append_getElem (by simpa using h)]
  rfl

set_option maxRecDepth 100000 in
set_option maxHeartbeats 2000000 in
theorem rplain_any (s : ByteArray) (q : Bool) (w : World) (hs : s.size ≤ 4194304) :
    Calls Try.prog 16 #[.string s, .bool q] w fun e w' => ∃ v, e = .returned v ∧ w'.ownsRow w.heap.size 25 2 v s.size (chCells (plain q s.data.toList)) ∧ Below w.heap.size w w' := by
  obtain ⟨i0, hi0, hz0, hz1, hz2⟩ := info_parts info_ch
  go_enter Try.func16, Try.ntmps16
  go_wp2_with fail
  go_loopw [5, 6] (fun ov i wr => ∃ k : Nat, k ≤ s.size ∧ i = .int .i64 k ∧ Hid (wr.ownsRow w.heap.size 25 2 ov k (chCells (plain q (s.data.toList.take k)))) ∧ Hid (Below w.heap.size w wr)) (fun _ i _ => s.size - (intOf i).toNat)
  case atStart => exact ⟨0, Nat.zero_le _, rfl, World.ownsRow_nil _ _ _ _, Below.refl _ _⟩
  case round =>
    obtain ⟨k, hk, rfl, ho, hb⟩ := hrel
    by_cases hlt : k < s.size
    · have hnn : Hid (k + 1 ≤ maxLen) := by
        show _ ≤ _
        unfold maxLen
        omega
      have hnb : Hid ((k + 1) * 2 ≤ 140737488355328) := by
        show _ ≤ _
        omega
      have hbz : w.heap.size ≤ wr.heap.size := hb.out.size
      go_wp2_with (at_builtin; refine wpList_append_lies _ rfl _ _ 22 rfl w.heap.size 25 i0 _ 2 2 Try.underlying22 hi0 hz0 hz1 hz2 rfl (by omega) u5 k _ rfl (ho.out.alloc _) ⟨wr.heap.size, 0, none⟩ 1 1 [.int .u8 s[k].toNat, .bool q] rfl rfl (World.news_of_block (cs := #[.int .u8 s[k].toNat, .bool q]) (t := 25) (fr := (0, 0)) (heap_alloc_new wr _)) (by simp [Value.oneCell']) (by omega) hnn.out hnb.out (by simp; omega) (wr.heap.size + 1) (by simp) ?_; intro gg cap1 w1 hown1 hgrow hat hlt1)
      go_roundw
      case rel =>
        refine ⟨k + 1, by omega, by go_num, ?_, ?_⟩
        · show World.ownsRow _ _ _ _ _ _ _
          rw [take_snoc s k hlt]
          unfold plain
          rw [List.map_append, chCells_append]
          exact hown1
        · exact ((hb.out.alloc hb.out.size _).grown hgrow (by simp; omega) (fun k hk => (ho.out.lt k hk).1))
      case measure => simp [intOf]; omega
    · go_wp2_with fail
      have : k = s.size := by omega
      subst this
      go_ret
      refine ⟨_, rfl, ?_, hb.out⟩
      have := ho.out
      rw [List.take_of_length_le (by simp)] at this
      exact this
end Go.Proofs.Ytmjdlilmackneaa

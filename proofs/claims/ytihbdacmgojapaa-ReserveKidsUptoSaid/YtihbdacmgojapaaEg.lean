/- arith.Names; conditions: as each theorem states. -/
import Derived.Test.YtihbdacmgojapaaEf
namespace Go.Proofs.Ytihbdacmgojapaa
open Go.RowKit

set_option maxRecDepth 100000 in
set_option maxHeartbeats 2000000 in
theorem anames_any (W0 : World) (x : Nd) (w : World) (hw : Wf W0 .sum x) (hb : Below W0.heap.size W0 w) (hm : wt x ≤ 1048576) :
    Calls Try.prog 44 #[.agg x.c.toArray] w fun e w' => ∃ (v : Value) (xs : List ByteArray), e = .returned v ∧ w'.ownsRow w.heap.size 9 1 v xs.length (xs.map Value.string) ∧ xs.any res = sr x ∧ xs.length ≤ wt x ∧ Below w.heap.size w w' := by
  have HC : Hid (∀ V : World, Below W0.heap.size W0 V → SetAt w.heap.size 28 V (w.heap.size + 1) (.slice none 0 0) [] → Calls Try.prog 58 #[.agg x.c.toArray, NM (w.heap.size + 1)] V fun e w' => e = .returned (.bool false) ∧ After w.heap.size 28 (w.heap.size + 1) (.slice none 0 0) [] V (sr x) (wt x) w') := fun V h1 h2 =>
    anyOf_any W0 w.heap.size (w.heap.size + 1) hb.size (wt x) hm x (Nat.le_refl _) hw V _ [] h1 h2 (by simp; omega)
  cases hw with
  | sum a0 a1 a2 a3 l3 h3 q3 =>
    obtain ⟨oa3, cp3, rfl⟩ := h3.form
    rw [show (Nd.mk [.string a0, .string a1, .int .i64 a2, .slice oa3 l3.length cp3] [l3]).c.toArray = #[.string a0, .string a1, .int .i64 a2, .slice oa3 l3.length cp3] from rfl] at HC ⊢
    obtain ⟨r, hr⟩ : ∃ r, r = sr (.mk [.string a0, .string a1, .int .i64 a2, .slice oa3 l3.length cp3] [l3]) := ⟨_, rfl⟩
    obtain ⟨c, hc⟩ : ∃ c, c = wt (.mk [.string a0, .string a1, .int .i64 a2, .slice oa3 l3.length cp3] [l3]) := ⟨_, rfl⟩
    obtain ⟨k, hk⟩ : ∃ k, k = l3.length := ⟨_, rfl⟩
    rw [← hr, ← hc, ← hk] at HC
    rw [← hr, ← hc, ← hk]
    clear hr hc hk h3 q3 hm
    obtain ⟨V, hV⟩ : ∃ V, V = (w.alloc (.cells #[.string a0, .string a1, .int .i64 a2, .slice oa3 k cp3] 100)).alloc (.cells #[.slice none 0 0] 28) := ⟨_, rfl⟩
    have hbV : Below w.heap.size w V := hV ▸ ((Below.refl _ _).alloc (Nat.le_refl _) _).alloc (by simp) _
    have hst : SetAt w.heap.size 28 V (w.heap.size + 1) (.slice none 0 0) [] := by
      refine ⟨?_, World.ownsRow_nil _ _ _ _, Nat.le_succ _⟩
      rw [hV]
      have := Boxed.new (w.alloc (.cells #[.string a0, .string a1, .int .i64 a2, .slice oa3 k cp3] 100)) 28 (.slice none 0 0)
      rw [World.size_alloc] at this
      exact this
    have HC2 := Lib.hid (HC.out V (hb.trans (hbV.mono hb.size)) hst)
    have HBV := Lib.hid hbV
    have HST := Lib.hid hst
    have k0 : V.cell? ⟨w.heap.size, 0, none⟩ = some (.string a0) := by rw [hV]; go_simp
    have k1 : V.cell? ⟨w.heap.size, 1, none⟩ = some (.string a1) := by rw [hV]; go_simp
    have k2 : V.cell? ⟨w.heap.size, 2, none⟩ = some (.int .i64 a2) := by rw [hV]; go_simp
    have k3 : V.cell? ⟨w.heap.size, 3, none⟩ = some (.slice oa3 k cp3) := by rw [hV]; go_simp
    clear HC hbV hst hb
    go_enter Try.func44, Try.ntmps44
    go_wp2_with fail
    rw [← hV]
    clear hV k0 k1 k2 k3
    refine HC2.out.mono ?_
    rintro e w1 ⟨rfl, ha⟩
    obtain ⟨v1, xs1, g1, g2, g3, g4⟩ := ha
    have e0 := g1.box.cell
    have G1 := Lib.hid g1.row
    have G2 := Lib.hid g2
    have G3 := Lib.hid g3
    have GB := Lib.hid (HBV.out.trans (g4.below HST.out))
    clear g1 g2 g3 g4
    go_wp2_with fail
    go_ret
    refine ⟨v1, xs1, by simp, G1.out, by rw [G2.out]; simp, by have := G3.out; simpa using this, GB.out⟩
end Go.Proofs.Ytihbdacmgojapaa

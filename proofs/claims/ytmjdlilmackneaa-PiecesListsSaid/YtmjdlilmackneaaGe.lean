/- glob.elements: what it tells; conditions: as each theorem states. -/
import Derived.Test.YtmjdlilmackneaaGt
import Derived.Deep.AppendLies
import Derived.Deep.RegionHeld3
import Derived.Deep.DrawnRows
namespace Go.Proofs.Ytmjdlilmackneaa
open Go.RowKit

/-- An element's two cells; its function's blocks are none of a list's own. -/
def ElOk (own : Option Nat) (e : El) (v0 v1 : Value) (w : World) : Prop := match e with
  | .star => v0 = .bool true ∧ v1 = .nilFunc
  | .test f => v0 = .bool false ∧ ∃ gf lb fp, v1 = .func (.func gf) #[] lb ∧ TstF gf lb f fp w ∧ ∀ x ∈ fp, own ≠ some x
theorem ElOk.one {own : Option Nat} {e : El} {v0 v1 : Value} {w : World} (h : ElOk own e v0 v1 w) : v0.oneCell' = true ∧ v1.oneCell' = true := by
  cases e with
  | star => obtain ⟨rfl, rfl⟩ := h; exact ⟨rfl, rfl⟩
  | test f => obtain ⟨rfl, _, _, _, rfl, _⟩ := h; exact ⟨rfl, rfl⟩
theorem ElOk.keep {own own' : Option Nat} {e : El} {v0 v1 : Value} {w w' : World} (h : ElOk own e v0 v1 w) (hz : w.heap.size ≤ w'.heap.size) (hc : ∀ x, x < w.heap.size → own ≠ some x → (∀ o, w'.cell? ⟨x, o, none⟩ = w.cell? ⟨x, o, none⟩) ∧ own' ≠ some x) : ElOk own' e v0 v1 w' := by
  cases e with
  | star => exact h
  | test f =>
    obtain ⟨h0, gf, lb, fp, h1, ht, hx⟩ := h
    exact ⟨h0, gf, lb, fp, h1, ht.keep hz (fun x hm => (hc x (ht.2.1 x hm) (hx x hm)).1), fun x hm => (hc x (ht.2.1 x hm) (hx x hm)).2⟩
/-- A list of elements that the call itself makes. -/
def OutInv (base : Nat) (ov : Value) (es : List El) (w : World) : Prop := ∃ xs : List Value, w.ownsRow base 59 2 ov es.length xs ∧ ∀ j (h : j < es.length), ∃ v0 v1, xs[j * 2]? = some v0 ∧ xs[j * 2 + 1]? = some v1 ∧ ElOk ov.ownBlock es[j] v0 v1 w
theorem OutInv.nil (base : Nat) (w : World) : OutInv base (.slice none 0 0) [] w := ⟨[], World.ownsRow_nil _ _ _ _, fun j h => by simp at h⟩
theorem ownsRow_keep {w w' : World} {base : Nat} {e : TypeId} {size : Nat} {v : Value} {n : Nat} {xs : List Value} (h : w.ownsRow base e size v n xs) (hh : ∀ k, v.ownBlock = some k → w'.heap[k]? = w.heap[k]?) : w'.ownsRow base e size v n xs := by
  refine ⟨h.1, ?_⟩
  rcases h.2 with h2 | ⟨g, cap, cur, hv, h1, h2, h3⟩
  · exact Or.inl h2
  · exact Or.inr ⟨g, cap, cur, hv, h1, by rw [hh g (by rw [hv]; rfl), h2], h3⟩
theorem OutInv.below {base : Nat} {ov : Value} {es : List El} {w w' : World} (h : OutInv base ov es w) (hb : Below w.heap.size w w') : OutInv base ov es w' := by
  obtain ⟨xs, ho, hx⟩ := h
  refine ⟨xs, ownsRow_keep ho fun k hk => hb.block k (ho.lt k hk).2, fun j hj => ?_⟩
  obtain ⟨v0, v1, h0, h1, h2⟩ := hx j hj
  exact ⟨v0, v1, h0, h1, h2.keep hb.size fun x hx hn => ⟨fun o => hb.cell (p := ⟨x, o, none⟩) hx, hn⟩⟩
theorem OutInv.push {base : Nat} {ov : Value} {es : List El} {e : El} {v0 v1 : Value} {w wa w' : World} {g cap H : Nat} {xs : List Value}
    (hx : ∀ j (h : j < es.length), ∃ v0 v1, xs[j * 2]? = some v0 ∧ xs[j * 2 + 1]? = some v1 ∧ ElOk ov.ownBlock es[j] v0 v1 w) (hlen : xs.length = es.length * 2) (he : ElOk ov.ownBlock e v0 v1 w) (ha : Below w.heap.size w wa)
    (hown : w'.ownsRow base 59 2 (.slice (some ⟨g, 0, none⟩) (es.length + 1) cap) (es.length + 1) (xs ++ [v0, v1])) (hgrow : wa.grownBy w' ov.ownBlock) (hat : ov.ownBlock = some g ∨ g = H) (hH : w.heap.size ≤ H) :
    OutInv base (.slice (some ⟨g, 0, none⟩) (es.length + 1) cap) (es ++ [e]) w' := by
  have hsz : w.heap.size ≤ w'.heap.size := Nat.le_trans ha.size hgrow.size
  have hk : ∀ x, x < w.heap.size → ov.ownBlock ≠ some x → (∀ o, w'.cell? ⟨x, o, none⟩ = w.cell? ⟨x, o, none⟩) ∧ (Value.slice (some ⟨g, 0, none⟩) (es.length + 1) cap).ownBlock ≠ some x := by
    intro x hx hn
    refine ⟨fun o => ?_, ?_⟩
    · rw [hgrow.cell_far ⟨x, o, none⟩ (Nat.lt_of_lt_of_le hx ha.size) (fun h => hn h.symm)]
      exact ha.cell (p := ⟨x, o, none⟩) hx
    · show some g ≠ some x
      intro hgx
      rcases hat with h | h
      · exact hn (h.trans hgx)
      · injection hgx with hgx
        omega
  refine ⟨xs ++ [v0, v1], by rw [List.length_append]; exact hown, fun j hj => ?_⟩
  by_cases hj' : j < es.length
  · obtain ⟨u0, u1, h0, h1, h2⟩ := hx j hj'
    refine ⟨u0, u1, ?_, ?_, ?_⟩
    · rw [List.getElem?_append_left (by omega), h0]
    · rw [List.getElem?_append_left (by omega), h1]
    · rw [List.getElem_append_left hj']
      exact h2.keep hsz hk
  · have : j = es.length := by simp at hj; omega
    subst this
    refine ⟨v0, v1, ?_, ?_, ?_⟩
    · rw [List.getElem?_append_right (by omega), hlen, Nat.sub_self]
      rfl
    · rw [List.getElem?_append_right (by omega), hlen, show es.length * 2 + 1 - es.length * 2 = 1 by omega]
      rfl
    · rw [List.getElem_append_right (by omega)]
      simp only [Nat.sub_self, List.getElem_cons_zero]
      exact he.keep hsz hk

/-- Elements as a slice tells them. -/
def ElemsOf (es : List El) (v : Value) (w : World) : Prop := ∃ ao g cap, v = .slice ao es.length cap ∧ es.length ≤ cap ∧ (0 < es.length → ao = some ⟨g, 0, none⟩) ∧ (0 < es.length → g < w.heap.size) ∧ Stand g 0 es w
theorem OutInv.elems {base : Nat} {ov : Value} {es : List El} {w : World} (h : OutInv base ov es w) : ElemsOf es ov w := by
  obtain ⟨xs, ho, hx⟩ := h
  have hlt := ho.lt
  rcases ho.2 with ⟨h1, h2⟩ | ⟨g, cap, cur, hv, h1, h2, h3, h4⟩
  · have : es = [] := List.length_eq_zero_iff.1 h2
    subst this
    exact ⟨none, 0, 0, h1, Nat.le_refl _, fun h => by simp at h, fun h => by simp at h, fun j hj => by simp at hj⟩
  · subst hv
    refine ⟨some ⟨g, 0, none⟩, g, cap, rfl, h3, fun _ => rfl, fun _ => (hlt g rfl).2, fun j hj => ?_⟩
    obtain ⟨v0, v1, c0, c1, he⟩ := hx j hj
    have d0 := ho.cellAt (j * 2) (by omega)
    have d1 := ho.cellAt (j * 2 + 1) (by omega)
    rw [c0] at d0
    rw [c1] at d1
    rw [Nat.zero_add]
    generalize es[j] = x at he ⊢
    cases x with
    | star =>
      obtain ⟨rfl, rfl⟩ := he
      exact ⟨_, d0, d1, rfl⟩
    | test f =>
      obtain ⟨rfl, gf, lb, fp, rfl, ht, _⟩ := he
      exact ⟨gf, lb, d0, d1, ht.tests⟩
theorem Tests.below {gf : Nat} {lb : Array Value} {f : UInt8 → Bool} {w w' : World} (h : Tests gf lb f w) (hb : Below w.heap.size w w') : Tests gf lb f w' :=
  ⟨h.1, fun W hW c => h.2 W (hb.trans (hW.mono hb.size)) c⟩
theorem ElemsOf.below {es : List El} {v : Value} {w w' : World} (h : ElemsOf es v w) (hb : Below w.heap.size w w') : ElemsOf es v w' := by
  obtain ⟨ao, g, cap, h1, h2, h3, h4, h5⟩ := h
  refine ⟨ao, g, cap, h1, h2, h3, fun h => Nat.lt_of_lt_of_le (h4 h) hb.size, fun j hj => ?_⟩
  have h6 := h5 j hj
  have hg := h4 (by omega)
  generalize es[j] = x at h6 ⊢
  cases x with
  | star =>
    obtain ⟨v, c0, c1, c2⟩ := h6
    exact ⟨v, (hb.cell (p := ⟨g, _, none⟩) hg).trans c0, (hb.cell (p := ⟨g, _, none⟩) hg).trans c1, c2⟩
  | test f =>
    obtain ⟨gf, lb, c0, c1, ht⟩ := h6
    exact ⟨gf, lb, (hb.cell (p := ⟨g, _, none⟩) hg).trans c0, (hb.cell (p := ⟨g, _, none⟩) hg).trans c1, ht.below hb⟩
theorem match_any (es : List El) (v : Value) (s : ByteArray) (w : World) (h : ElemsOf es v w) (hm : es.length ≤ 4611686018427387904) (hs : s.size ≤ 4611686018427387904) :
    Calls Try.prog 26 #[v, .string s] w fun e w' => e = .returned (.bool (Mt es s.data.toList)) ∧ Below w.heap.size w w' := by
  obtain ⟨ao, g, cap, rfl, h2, h3, h4, h5⟩ := h
  exact match_row ao g cap es s w h3 h2 h4 h5 hm hs

theorem cf_lit (args : Array Value) (w : World) : (callFunc 36 args).run Try.prog w = .ok (.enter 36 args) w := by kernel_rfl
theorem cf_anyf (args : Array Value) (w : World) : (callFunc 38 args).run Try.prog w = .ok (.enter 38 args) w := by kernel_rfl
theorem lit_tst (b : Nat) (x : UInt8) (w : World) (h : w.cell? ⟨b, 0, none⟩ = some (.int .u8 x.toNat)) (hb : b < w.heap.size) : TstF 36 #[.pointer (some ⟨b, 0, none⟩)] (x == ·) [b] w := by
  refine ⟨fun args w' => cf_lit args w', fun y hy => by simp at hy; subst hy; exact hb, fun W hz hc c => ?_⟩
  refine (lit_any b x c W ((hc b (by simp) 0).trans h)).mono ?_
  rintro e w' ⟨rfl, rfl⟩
  exact ⟨rfl, Below.refl _ _⟩
theorem anyf_tst (w : World) : TstF 38 #[] (fun _ => true) [] w := by
  refine ⟨fun args w' => cf_anyf args w', fun y hy => by simp at hy, fun W hz hc c => ?_⟩
  refine (anyf_any c W).mono ?_
  rintro e w' ⟨rfl, rfl⟩
  exact ⟨rfl, Below.refl _ _⟩
theorem info_el : (Try.prog.info? 59).map (fun i => (i.zero, i.size, i.bytes)) = some (some (.agg #[.bool false, .nilFunc]), 2, 16) := by kernel_rfl

set_option maxRecDepth 100000 in
set_option maxHeartbeats 2000000 in
theorem elements_any (ao : Option Addr) (b o cap : Nat) (p : List Ch) (w : World) (ha : 0 < p.length → ao = some ⟨b, o, none⟩) (hcap : p.length ≤ cap) (hg : 0 < p.length → b < w.heap.size) (hl : Reads b o p w) (hm : p.length ≤ 4194304) :
    Calls Try.prog 27 #[.slice ao p.length cap] w fun e w' => ∃ v, e = .returned v ∧ ElemsOf (els p) v w' ∧ Below w.heap.size w w' := by
  obtain ⟨m, hmm⟩ : ∃ m, m = p.length := ⟨_, rfl⟩
  rw [← hmm] at ha hm hcap hg ⊢
  have HM := Lib.hid hmm
  clear hmm
  have HL := Lib.hid hl
  clear hl
  obtain ⟨i0, hi0, hz0, hz1, hz2⟩ := info_parts info_el
  go_enter Try.func27, Try.ntmps27
  go_wp2_with fail
  go_loopw [0, 3] (fun pv ov wr => ∃ (k ml cl : Nat) (ap : Option Addr) (es : List El), pv = .slice ap ml cl ∧ k + ml = m ∧ ml ≤ cl ∧ Hid (0 < ml → ap = some ⟨b, o + k * 2, none⟩) ∧ Hid (els p = es ++ els (p.drop k)) ∧ Hid (es.length ≤ k) ∧ Hid (OutInv w.heap.size ov es wr) ∧ Hid (Below w.heap.size w wr))
    (fun pv _ _ => match pv with | .slice _ n _ => n | _ => 0)
  case atStart => exact ⟨0, m, cap, ao, [], rfl, by omega, hcap, (by simpa using ha : 0 < m → ao = some ⟨b, o + 0 * 2, none⟩), by simp [Hid], by simp [Hid], OutInv.nil _ _, Below.refl _ _⟩
  case round =>
    obtain ⟨k, ml, cl, ap, es, rfl, hkm, hmc, hap, hes, hel, hout, hb⟩ := hrel
    by_cases hlt : 0 < ml
    · have hkl : k < p.length := by rw [← HM.out]; omega
      obtain rfl := hap.out hlt
      have hg := hg (by omega)
      have hbw : b < wr.heap.size := Nat.lt_of_lt_of_le hg hb.out.size
      obtain ⟨c0, c1⟩ := HL.out k hkl
      have d0 := (hb.out.cell (p := ⟨b, o + k * 2, none⟩) hg).trans c0
      have d1 := (hb.out.cell (p := ⟨b, o + k * 2 + 1, none⟩) hg).trans c1
      obtain ⟨e, he⟩ : ∃ e, e = p[k] := ⟨_, rfl⟩
      have HE := Lib.hid he
      rw [← he] at d0 d1
      clear he c0 c1
      obtain ⟨x, q⟩ := e
      obtain ⟨fe, hfe⟩ : ∃ fe, fe = fstD (x, q) (p.drop (k + 1)) := ⟨_, rfl⟩
      have hfl := fstD_le (x, q) (p.drop (k + 1))
      rw [← hfe] at hfl
      have hdl : (p.drop (k + 1)).length + 1 = ml := by rw [List.length_drop, ← HM.out]; omega
      rw [hdl] at hfl
      clear hdl
      obtain ⟨fx, kx⟩ := fe
      obtain ⟨hkx1, hkx2⟩ := hfl
      simp only at hkx1 hkx2
      have HFE := Lib.hid hfe
      clear hfe
      have hpd : Hid (p.drop k = (x, q) :: p.drop (k + 1)) := by
        show _ = _
        rw [List.drop_eq_getElem_cons hkl, ← HE.out]
      obtain ⟨r1, hr1⟩ : ∃ r, r = (!q && (x == 42)) := ⟨_, rfl⟩
      obtain ⟨r2, hr2⟩ : ∃ r, r = (!q && (x == 63)) := ⟨_, rfl⟩
      obtain ⟨r3, hr3⟩ : ∃ r, r = (!q && (x == 91)) := ⟨_, rfl⟩
      have HC1 : Hid (∀ W, Calls Try.prog 37 #[.agg #[.int .u8 x.toNat, .bool q], .int .u8 42] W fun e w' => e = .returned (.bool r1) ∧ w' = W.alloc (.cells #[.int .u8 x.toNat, .bool q] 25)) := fun W => hr1 ▸ open_any x 42 q W
      have HC2 : Hid (∀ W, Calls Try.prog 37 #[.agg #[.int .u8 x.toNat, .bool q], .int .u8 63] W fun e w' => e = .returned (.bool r2) ∧ w' = W.alloc (.cells #[.int .u8 x.toNat, .bool q] 25)) := fun W => hr2 ▸ open_any x 63 q W
      have HC3 : Hid (∀ W, Calls Try.prog 37 #[.agg #[.int .u8 x.toNat, .bool q], .int .u8 91] W fun e w' => e = .returned (.bool r3) ∧ w' = W.alloc (.cells #[.int .u8 x.toNat, .bool q] 25)) := fun W => hr3 ▸ open_any x 91 q W
      have HFD : Hid ((fx, kx) = if r1 then (El.star, 1) else if r2 then (El.test fun _ => true, 1) else if r3 then (match setD (p.drop k) with | some (f, k) => (El.test f, k) | none => (El.test (x == ·), 1)) else (El.test (x == ·), 1)) := by
        show _ = _
        rw [HFE.out, hpd.out, hr1, hr2, hr3]
        rfl
      clear hr1 hr2 hr3
      have hsc : Hid (∀ W, wr.heap.size ≤ W.heap.size → Below wr.heap.size wr W → Calls Try.prog 39 #[.slice (some ⟨b, o + k * 2, none⟩) ml cl] W fun e w' => SetPost b (p.drop k) W e w') := by
        intro W hz hW
        have hlen : (p.drop k).length = ml := by rw [List.length_drop, ← HM.out]; omega
        have := set_any (some ⟨b, o + k * 2, none⟩) b (o + k * 2) cl (p.drop k) W (fun _ => rfl) (by omega) (by omega) ((HL.out.below hg (hb.out.trans (hW.mono hb.out.size))).drop k) (by omega)
        rw [hlen] at this
        exact this
      go_upto_block 2 with fail
      go_cut [6] (fun s6 wx => ∃ v0 v1, s6 = .int .i64 (kx : Int) ∧ wr.heap.size + 1 < wx.heap.size ∧ wx.cell? ⟨wr.heap.size + 1, 0, none⟩ = some v0 ∧ wx.cell? ⟨wr.heap.size + 1, 1, none⟩ = some v1 ∧
        Hid (∀ own, (∀ y, own = some y → w.heap.size ≤ y ∧ y < wr.heap.size) → ElOk own fx v0 v1 wx) ∧ Hid (Below wr.heap.size wr wx))
      case first =>
        cases r1 with
        | true =>
          obtain ⟨rfl, rfl⟩ : fx = El.star ∧ kx = 1 := by
            have := HFD.out
            rw [if_pos rfl] at this
            exact Prod.mk.injEq _ _ _ _ ▸ this
          go_wp2_with (go_at_call 37; ((with_reducible refine (HC1.out _).mono ?_); rintro e w1 ⟨rfl, rfl⟩))
          go_meet
          refine ⟨.bool true, .nilFunc, rfl, ?_, ?_, ?_, fun own _ => ⟨rfl, rfl⟩, ?_⟩
          go_light
          all_goals (first | (simp; done) | (simp; omega) | (go_simp; done) | (show Below _ _ _; repeat (first | (with_reducible exact Below.refl _ _) | (with_reducible refine Below.setCell ?_ (by first | omega | (simp <;> omega)) _) | (with_reducible refine Below.alloc ?_ (by first | omega | (simp <;> omega)) _))))
        | false =>
          cases r2 with
          | true =>
            obtain ⟨rfl, rfl⟩ : fx = (El.test fun _ => true) ∧ kx = 1 := by
              have := HFD.out
              rw [if_neg (by simp), if_pos rfl] at this
              exact Prod.mk.injEq _ _ _ _ ▸ this
            go_wp2_with (first | (go_at_call 37; ((with_reducible refine (HC1.out _).mono ?_); rintro e w1 ⟨rfl, rfl⟩)) | (go_at_call 37; ((with_reducible refine (HC2.out _).mono ?_); rintro e w1 ⟨rfl, rfl⟩)))
            go_meet
            refine ⟨.bool false, .func (.func 38) #[] #[], rfl, ?_, ?_, ?_, fun own _ => ⟨rfl, _, _, [], rfl, anyf_tst _, by simp⟩, ?_⟩
            go_light
            all_goals (first | (simp; done) | (simp; omega) | (go_simp; done) | (show Below _ _ _; repeat (first | (with_reducible exact Below.refl _ _) | (with_reducible exact HBW.out) | (with_reducible refine Below.setCell ?_ (by first | omega | (simp <;> omega)) _) | (with_reducible refine Below.alloc ?_ (by first | omega | (simp <;> omega)) _))))
          | false =>
            cases r3 with
            | true =>
              have hpost := hsc.out
              have HFD' := HFD.out
              rw [if_neg (by simp), if_neg (by simp), if_pos rfl] at HFD'
              cases hs : setD (p.drop k) with
              | none =>
                rw [hs] at HFD'
                obtain ⟨rfl, rfl⟩ : fx = (El.test (x == ·)) ∧ kx = 1 := Prod.mk.injEq _ _ _ _ ▸ HFD'
                have HSC : Hid (∀ W, wr.heap.size ≤ W.heap.size → Below wr.heap.size wr W → Calls Try.prog 39 #[.slice (some ⟨b, o + k * 2, none⟩) ml cl] W fun e w' => e = .returned (.tuple #[.agg #[.bool false, .nilFunc], .int .i64 0, .bool false]) ∧ Below W.heap.size W w') := by
                  intro W h1 h2
                  refine (hpost W h1 h2).mono fun e w' h => ?_
                  unfold SetPost at h
                  rw [hs] at h
                  exact ⟨h.2, h.1⟩
                clear hpost hs HFD' HFD hsc
                go_wp2_with (first | (go_at_call 37; ((with_reducible refine (HC1.out _).mono ?_); rintro e w1 ⟨rfl, rfl⟩)) | (go_at_call 37; ((with_reducible refine (HC2.out _).mono ?_); rintro e w1 ⟨rfl, rfl⟩)) | (go_at_call 37; ((with_reducible refine (HC3.out _).mono ?_); rintro e w1 ⟨rfl, rfl⟩)))
                obtain ⟨W, hWe⟩ : ∃ W : World, W = ((((wr.alloc (.cells #[.int .u8 x.toNat, .bool q] 25)).alloc (.cells #[.bool false, .func (.func 36) #[] #[.pointer (some ⟨wr.heap.size, 0, none⟩)]] 59)).alloc (.cells #[.int .u8 x.toNat, .bool q] 25)).alloc (.cells #[.int .u8 x.toNat, .bool q] 25)).alloc (.cells #[.int .u8 x.toNat, .bool q] 25) := ⟨_, rfl⟩
                have k0 : W.cell? ⟨wr.heap.size, 0, none⟩ = some (.int .u8 x.toNat) := by rw [hWe]; go_simp
                have k1 : W.cell? ⟨wr.heap.size + 1, 0, none⟩ = some (.bool false) := by rw [hWe]; go_simp
                have k2 : W.cell? ⟨wr.heap.size + 1, 1, none⟩ = some (.func (.func 36) #[] #[.pointer (some ⟨wr.heap.size, 0, none⟩)]) := by rw [hWe]; go_simp
                have k3 : W.frozen? ⟨wr.heap.size + 1, 0, none⟩ = false := by rw [hWe]; go_simp
                have k4 : W.frozen? ⟨wr.heap.size + 1, 1, none⟩ = false := by rw [hWe]; go_simp
                have kz : wr.heap.size + 4 < W.heap.size := by rw [hWe]; simp
                have HBW : Hid (Below wr.heap.size wr W) := by
                  rw [hWe]
                  show Below _ _ _
                  repeat (first | (with_reducible exact Below.refl _ _) | (with_reducible exact HBW.out) | (with_reducible refine Below.setCell ?_ (by first | omega | (simp <;> omega)) _) | (with_reducible refine Below.alloc ?_ (by first | omega | (simp <;> omega)) _))
                rw [← hWe]
                clear hWe
                refine (HSC.out W (by omega) HBW.out).mono ?_
                rintro e w1 ⟨rfl, hb1⟩
                have e0 := (hb1.cell (p := ⟨wr.heap.size, 0, none⟩) (by show wr.heap.size < _; omega)).trans k0
                have e1 := (hb1.cell (p := ⟨wr.heap.size + 1, 0, none⟩) (by show wr.heap.size + 1 < _; omega)).trans k1
                have e2 := (hb1.cell (p := ⟨wr.heap.size + 1, 1, none⟩) (by show wr.heap.size + 1 < _; omega)).trans k2
                have e3 := (hb1.frozen (p := ⟨wr.heap.size + 1, 0, none⟩) (by show wr.heap.size + 1 < _; omega)).trans k3
                have e4 := (hb1.frozen (p := ⟨wr.heap.size + 1, 1, none⟩) (by show wr.heap.size + 1 < _; omega)).trans k4
                have ez : wr.heap.size + 4 < w1.heap.size := by have := hb1.size; omega
                have ez0 : wr.heap.size < w1.heap.size := by omega
                have ez1 : wr.heap.size + 1 < w1.heap.size := by omega
                have HBW1 : Hid (Below wr.heap.size wr w1) := HBW.out.trans (hb1.mono (by omega))
                have hWz : wr.heap.size + 4 < W.heap.size := kz
                clear k0 k1 k2 k3 k4 kz hb1
                go_wp2_with fail
                go_meet
                refine ⟨.bool false, .func (.func 36) #[] #[.pointer (some ⟨wr.heap.size, 0, none⟩)], rfl, ?_, ?_, ?_, fun own ho => ⟨rfl, _, _, [wr.heap.size], rfl, lit_tst _ x _ ?_ ?_, ?_⟩, ?_⟩
                rotate_right 2
                · intro y hy hown
                  simp at hy
                  subst hy
                  exact absurd (ho _ hown).2 (Nat.lt_irrefl _)
                go_light
                all_goals (first | (simp; done) | (simp; omega) | (go_simp; done) | (show Below _ _ _; repeat (first | (with_reducible exact Below.refl _ _) | (with_reducible exact HBW1.out) | (with_reducible refine Below.setCell ?_ (by first | omega | (simp <;> omega)) _) | (with_reducible refine Below.alloc ?_ (by first | omega | (simp <;> omega)) _))))
              | some fk =>
                obtain ⟨f, kk⟩ := fk
                rw [hs] at HFD'
                obtain ⟨rfl, rfl⟩ : fx = El.test f ∧ kx = kk := Prod.mk.injEq _ _ _ _ ▸ HFD'
                have HSC : Hid (∀ W, wr.heap.size ≤ W.heap.size → Below wr.heap.size wr W → Calls Try.prog 39 #[.slice (some ⟨b, o + k * 2, none⟩) ml cl] W fun e w' => ∃ gf lb fp, e = .returned (.tuple #[.agg #[.bool false, .func (.func gf) #[] lb], .int .i64 (kx : Int), .bool true]) ∧ Hid (TstF gf lb f fp w') ∧ Hid (∀ x ∈ fp, x = b ∨ W.heap.size ≤ x) ∧ Below W.heap.size W w') := by
                  intro W h1 h2
                  refine (hpost W h1 h2).mono fun e w' h => ?_
                  unfold SetPost at h
                  rw [hs] at h
                  obtain ⟨hbb, gf, lb, fp, he, h3, h4⟩ := h
                  exact ⟨gf, lb, fp, he, h3, h4, hbb⟩
                clear hpost hs HFD' HFD hsc
                go_wp2_with (first | (go_at_call 37; ((with_reducible refine (HC1.out _).mono ?_); rintro e w1 ⟨rfl, rfl⟩)) | (go_at_call 37; ((with_reducible refine (HC2.out _).mono ?_); rintro e w1 ⟨rfl, rfl⟩)) | (go_at_call 37; ((with_reducible refine (HC3.out _).mono ?_); rintro e w1 ⟨rfl, rfl⟩)))
                obtain ⟨W, hWe⟩ : ∃ W : World, W = ((((wr.alloc (.cells #[.int .u8 x.toNat, .bool q] 25)).alloc (.cells #[.bool false, .func (.func 36) #[] #[.pointer (some ⟨wr.heap.size, 0, none⟩)]] 59)).alloc (.cells #[.int .u8 x.toNat, .bool q] 25)).alloc (.cells #[.int .u8 x.toNat, .bool q] 25)).alloc (.cells #[.int .u8 x.toNat, .bool q] 25) := ⟨_, rfl⟩
                have k0 : W.cell? ⟨wr.heap.size, 0, none⟩ = some (.int .u8 x.toNat) := by rw [hWe]; go_simp
                have k1 : W.cell? ⟨wr.heap.size + 1, 0, none⟩ = some (.bool false) := by rw [hWe]; go_simp
                have k2 : W.cell? ⟨wr.heap.size + 1, 1, none⟩ = some (.func (.func 36) #[] #[.pointer (some ⟨wr.heap.size, 0, none⟩)]) := by rw [hWe]; go_simp
                have k3 : W.frozen? ⟨wr.heap.size + 1, 0, none⟩ = false := by rw [hWe]; go_simp
                have k4 : W.frozen? ⟨wr.heap.size + 1, 1, none⟩ = false := by rw [hWe]; go_simp
                have kz : wr.heap.size + 4 < W.heap.size := by rw [hWe]; simp
                have HBW : Hid (Below wr.heap.size wr W) := by
                  rw [hWe]
                  show Below _ _ _
                  repeat (first | (with_reducible exact Below.refl _ _) | (with_reducible exact HBW.out) | (with_reducible refine Below.setCell ?_ (by first | omega | (simp <;> omega)) _) | (with_reducible refine Below.alloc ?_ (by first | omega | (simp <;> omega)) _))
                rw [← hWe]
                clear hWe
                refine (HSC.out W (by omega) HBW.out).mono ?_
                rintro e w1 ⟨gf, lb, fp, rfl, htf, hfp, hb1⟩
                have e0 := (hb1.cell (p := ⟨wr.heap.size, 0, none⟩) (by show wr.heap.size < _; omega)).trans k0
                have e1 := (hb1.cell (p := ⟨wr.heap.size + 1, 0, none⟩) (by show wr.heap.size + 1 < _; omega)).trans k1
                have e2 := (hb1.cell (p := ⟨wr.heap.size + 1, 1, none⟩) (by show wr.heap.size + 1 < _; omega)).trans k2
                have e3 := (hb1.frozen (p := ⟨wr.heap.size + 1, 0, none⟩) (by show wr.heap.size + 1 < _; omega)).trans k3
                have e4 := (hb1.frozen (p := ⟨wr.heap.size + 1, 1, none⟩) (by show wr.heap.size + 1 < _; omega)).trans k4
                have ez : wr.heap.size + 4 < w1.heap.size := by have := hb1.size; omega
                have ez0 : wr.heap.size < w1.heap.size := by omega
                have ez1 : wr.heap.size + 1 < w1.heap.size := by omega
                have HBW1 : Hid (Below wr.heap.size wr w1) := HBW.out.trans (hb1.mono (by omega))
                have hWz : wr.heap.size + 4 < W.heap.size := kz
                clear k0 k1 k2 k3 k4 kz hb1
                go_wp2_with fail
                go_meet
                refine ⟨.bool false, .func (.func gf) #[] lb, rfl, ?_, ?_, ?_, fun own ho => ⟨rfl, _, _, fp, rfl, htf.out.keep ?_ ?hkeep, ?_⟩, ?_⟩
                case hkeep =>
                  intro y hy o'
                  have h1 := htf.out.2.1 y hy
                  have h2 : y ≠ wr.heap.size + 1 := by
                    rcases hfp.out y hy with rfl | h2 <;> omega
                  go_light
                  go_simp
                rotate_right 2
                · intro y hy hown
                  have h1 := ho _ hown
                  rcases hfp.out y hy with rfl | h2
                  · omega
                  · omega
                go_light
                all_goals (first | (simp; done) | (simp; omega) | (go_simp; done) | (show Below _ _ _; repeat (first | (with_reducible exact Below.refl _ _) | (with_reducible exact HBW1.out) | (with_reducible refine Below.setCell ?_ (by first | omega | (simp <;> omega)) _) | (with_reducible refine Below.alloc ?_ (by first | omega | (simp <;> omega)) _))))
            | false =>
              obtain ⟨rfl, rfl⟩ : fx = (El.test (x == ·)) ∧ kx = 1 := by
                have := HFD.out
                rw [if_neg (by simp), if_neg (by simp), if_neg (by simp)] at this
                exact Prod.mk.injEq _ _ _ _ ▸ this
              go_wp2_with (first | (go_at_call 37; ((with_reducible refine (HC1.out _).mono ?_); rintro e w1 ⟨rfl, rfl⟩)) | (go_at_call 37; ((with_reducible refine (HC2.out _).mono ?_); rintro e w1 ⟨rfl, rfl⟩)) | (go_at_call 37; ((with_reducible refine (HC3.out _).mono ?_); rintro e w1 ⟨rfl, rfl⟩)))
              go_meet
              refine ⟨.bool false, .func (.func 36) #[] #[.pointer (some ⟨wr.heap.size, 0, none⟩)], rfl, ?_, ?_, ?_, fun own ho => ⟨rfl, _, _, [wr.heap.size], rfl, lit_tst _ x _ ?_ ?_, ?_⟩, ?_⟩
              rotate_right 2
              · intro y hy hown
                simp at hy
                subst hy
                exact absurd (ho _ hown).2 (Nat.lt_irrefl _)
              go_light
              all_goals (first | (simp; done) | (simp; omega) | (go_simp; done) | (show Below _ _ _; repeat (first | (with_reducible exact Below.refl _ _) | (with_reducible exact HBW.out) | (with_reducible refine Below.setCell ?_ (by first | omega | (simp <;> omega)) _) | (with_reducible refine Below.alloc ?_ (by first | omega | (simp <;> omega)) _))))
      case rest =>
        obtain ⟨v0, v1, rfl, hz5, e0, e1, hok, hbx⟩ := hcut
        obtain ⟨xs, ho, hx⟩ := hout.out
        have hlen : xs.length = es.length * 2 := ho.1
        have holt := ho.lt
        have hHO : Hid (wc.ownsRow w.heap.size 59 2 u3 es.length xs) := ownsRow_keep ho fun k hk => hbx.out.block k (holt k hk).2
        have HX := Lib.hid hx
        have HLEN := Lib.hid hlen
        have HOLT := Lib.hid holt
        clear ho hx hlen holt
        have hel' : es.length ≤ k := hel.out
        have hnn : Hid (es.length + 1 ≤ maxLen) := by
          show _ ≤ _
          unfold maxLen
          omega
        have hnb : Hid ((es.length + 1) * 16 ≤ 140737488355328) := by
          show _ ≤ _
          omega
        obtain ⟨a2, ha2⟩ : ∃ a2, a2 = cutA (some ⟨b, o + k * 2, none⟩) cl kx := ⟨_, rfl⟩
        obtain ⟨m2, hm2⟩ : ∃ m2, m2 = ml - kx := ⟨_, rfl⟩
        obtain ⟨c2, hc2⟩ : ∃ c2, c2 = cl - kx := ⟨_, rfl⟩
        have hsl : ∀ w, (Instr.slice 22 (.slice (some ⟨b, o + k * 2, none⟩) ml cl) (some (.int .i64 (kx : Int))) none none).run Try.prog w = .ok (.slice a2 m2 c2) w := fun w => by
          rw [ha2, hm2, hc2]
          exact from_ch _ ml cl kx w hkx2
        have hone := (hok.out none (fun _ h => by cases h)).one
        have HONE : Hid (∀ u ∈ [v0, v1], u.oneCell' = true) := by
          intro u hu
          simp only [List.mem_cons, List.not_mem_nil, or_false] at hu
          rcases hu with rfl | rfl
          · exact hone.1
          · exact hone.2
        clear hone
        have HA2 := Lib.hid ha2
        have HM2 := Lib.hid hm2
        have HC2' := Lib.hid hc2
        clear ha2 hm2 hc2
        have hbz : w.heap.size ≤ wc.heap.size := Nat.le_trans hb.out.size hbx.out.size
        have hne : Hid (some (wr.heap.size + 1) ≠ u3.ownBlock) := fun h => by
          have := (HOLT.out _ h.symm).2
          omega
        go_wp2_with fail
        go_region_held3 (fun w' => w'.cell? ⟨wr.heap.size + 1, 0, none⟩ = some v0 ∧ w'.cell? ⟨wr.heap.size + 1, 1, none⟩ = some v1) (first | go_keep | (go_split_ands; refine ⟨?_, ?_⟩; all_goals (rw [hgrow.cell_far _ (by simp; omega) hne.out]; assumption)))
          ((refine step_append_lies _ (by rfl) _ _ _ (by rfl) w.heap.size 59 i0 _ 2 16 Try.underlying48 hi0 hz0 hz1 hz2 rfl (by omega) u3 es.length xs (by rfl) ((hHO.out.alloc _).drew) ⟨wc.heap.size, 0, none⟩ 1 1 [v0, v1] (by rfl) (by rfl) (World.news_of_block (cs := #[v0, v1]) (t := 59) (fr := (0, 0)) (heap_alloc_new wc _)) HONE.out (by omega) hnn.out hnb.out (by simp; omega) (wc.heap.size + 1) (by simp) ?_; intro gg cap1 w1 hown1 hgrow hat hlt1))
        go_wp2_with fail
        go_roundw
        case rel =>
          have hxc : ∀ j (h : j < es.length), ∃ v0 v1, xs[j * 2]? = some v0 ∧ xs[j * 2 + 1]? = some v1 ∧ ElOk u3.ownBlock es[j] v0 v1 wc := fun j hj => by
            obtain ⟨u0, u1, h0, h1, h2⟩ := HX.out j hj
            exact ⟨u0, u1, h0, h1, h2.keep hbx.out.size fun x hx hn => ⟨fun o => hbx.out.cell (p := ⟨x, o, none⟩) hx, hn⟩⟩
          have hBa : Below wc.heap.size wc (wc.alloc (.cells #[v0, v1] 59)).drew := ((Below.refl _ _).alloc (Nat.le_refl _) _).drew
          have hout1 : OutInv w.heap.size (.slice (some ⟨gg, 0, none⟩) (es.length + 1) cap1) (es ++ [fx]) w1 :=
            OutInv.push hxc HLEN.out (hok.out _ HOLT.out) hBa hown1 hgrow hat (Nat.le_succ _)
          have hb1 : Below w.heap.size w w1 := ((hb.out.trans (hbx.out.mono hb.out.size)).trans (hBa.mono hbz)).grown hgrow (by simp; omega) (fun k hk => (HOLT.out k hk).1)
          have h1 := HM2.out
          have h2 := HC2'.out
          refine ⟨k + kx, m2, c2, a2, es ++ [fx], rfl, by omega, by omega, ?_, ?_, ?_, hout1, hb1⟩
          · intro h
            rw [HA2.out, cutA_lt (by omega), show o + k * 2 + kx * 2 = o + (k + kx) * 2 by omega]
          · show _ = _
            rw [hes.out, hpd.out, els_cons, ← HFE.out, ← hpd.out, List.drop_drop, List.append_assoc]
            rfl
          · show _ ≤ _
            rw [List.length_append]
            simp
            omega
        case measure =>
          have h1 := HM2.out
          simp only
          omega
    · go_wp2_with fail
      have hml : ml = 0 := by omega
      subst hml
      go_ret
      have : k = m := by omega
      refine ⟨_, rfl, ?_, hb.out⟩
      have h2 := hes.out
      rw [List.drop_eq_nil_of_le (by rw [← HM.out]; omega), els_nil, List.append_nil] at h2
      rw [h2]
      exact hout.out.elems
end Go.Proofs.Ytmjdlilmackneaa

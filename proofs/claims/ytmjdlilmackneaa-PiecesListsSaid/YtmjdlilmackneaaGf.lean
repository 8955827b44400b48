/- glob.Prefix, Suffix: how much of a text's beginning or end elements match; conditions: as each theorem states. -/
import Derived.Test.YtmjdlilmackneaaGr
import Derived.Lib.Strings
namespace Go.Proofs.Ytmjdlilmackneaa
open Go.RowKit Go.Shelf
attribute [local go_sem] Oper.semAt_some

theorem keeps_of_below {W W' : World} (h : Below W.heap.size W W') : KeepsOthers W W' := ⟨h.size, fun k o hk _ => by
  have hlt : k < W.heap.size := (Array.getElem?_eq_some_iff.1 hk).1
  rw [h.block k hlt, hk]⟩
theorem firstL_of {N : Nat} {P : Nat → Bool} {lg : Bool} {k : Nat} {pre : List (LenA N)} {x : LenA N} (hk : k ≤ N + 1) (he : pre ++ [x] = uptoA (lenA N lg) k) (hp : ∀ y ∈ pre, P y.1 = false) (hx : P x.1 = true) : firstL N P lg = (x.1 : Nat) := by
  match k, he with
  | 0, he => simp [uptoA] at he
  | k + 1, he =>
    rw [uptoA_succ] at he
    obtain ⟨rfl, h2⟩ := List.append_inj' he rfl
    have hx2 : x = lenA N lg k := by simpa using h2
    subst hx2
    have hv : (lenA N lg k).1 = ix N lg k := lenA_val (by omega)
    rw [hv] at hx ⊢
    refine firstL_hit (by omega) hx fun j hj => ?_
    have := hp _ (uptoA_mem (f := lenA N lg) hj)
    rwa [lenA_val (by omega)] at this
theorem firstL_none {N : Nat} {P : Nat → Bool} {lg : Bool} (hp : ∀ y ∈ uptoA (lenA N lg) (N + 1), P y.1 = false) : firstL N P lg = -1 := by
  refine firstL_miss fun j hj => ?_
  have := hp _ (uptoA_mem (f := lenA N lg) (by omega : j < N + 1))
  rwa [lenA_val hj] at this

set_option maxRecDepth 100000 in
set_option maxHeartbeats 2000000 in
theorem prefix_any (p : List Ch) (v : Value) (s : ByteArray) (lg : Bool) (w : World) (hp : PatOf p v w) (hm : p.length ≤ 4194304) (hs : s.size ≤ 4611686018427387000) :
    Calls Try.prog 18 #[v, .string s, .bool lg] w fun e w' => e = .returned (.int .i64 (preI (els p) s.data.toList lg)) ∧ Below w.heap.size w w' := by
  have hel : (els p).length ≤ 4611686018427387904 := by have := els_length p; omega
  have hpw : Hid (PatOf p v ((w.alloc (.cells #[.string s] 9)).alloc (.cells #[.int .i64 0] 3))) := hp.below (((Below.refl _ _).alloc (Nat.le_refl _) _).alloc (by simp) _)
  clear hp
  refine (callsIn_wide (n := 5)).1 ?_
  refine callsIn_of_wp_marks Try.func18 rfl trivial ?_ rfl
  simp only [Try.ntmps18, List.size_toArray, List.length_cons, List.length_nil, Nat.reduceAdd, Nat.reduceSub, Array.replicate_succ, Array.replicate_zero, List.push_toArray, List.append_toArray, List.nil_append, List.cons_append]
  gi_wp2
  refine ⟨trivial, ?_⟩
  refine (callsIn_wide.2 (elements_pat p v _ hpw.out hm)).mono ?_
  rintro e w1 ⟨v1, rfl, he, hb⟩
  obtain ⟨n1, cap1, ao1, rfl⟩ : ∃ n cap ao, v1 = .slice ao n cap := by
    obtain ⟨ao, _, cap, h, _⟩ := he
    exact ⟨_, cap, ao, h⟩
  have HE := Lib.hid he
  have hz := hb.size
  simp only [World.size_alloc] at hz
  have hz0 : w.heap.size < w1.heap.size := by omega
  have hz1 : w.heap.size + 1 < w1.heap.size := by omega
  have c0 := (hb.cell (p := ⟨w.heap.size, 0, none⟩) (by simp; omega)).trans (World.cell?_alloc2_first (w := w) #[.string s] 9 (.cells #[.int .i64 0] 3) 0)
  have c1 := (hb.cell (p := ⟨w.heap.size + 1, 0, none⟩) (by simp)).trans (World.cell?_alloc2_new (w := w) (.cells #[.string s] 9) #[.int .i64 0] 3 0)
  have c2 : w1.frozen? ⟨w.heap.size + 1, 0, none⟩ = false := (hb.frozen (p := ⟨w.heap.size + 1, 0, none⟩) (by simp)).trans (by go_simp)
  simp only [List.getElem?_toArray, List.getElem?_cons_zero] at c0 c1
  have HB := Lib.hid ((((Below.refl w.heap.size w).alloc (Nat.le_refl _) (.cells #[.string s] 9)).alloc (by simp) (.cells #[.int .i64 0] 3)).trans (hb.mono (by simp; omega)))
  clear he hb hpw
  gi_wp2
  refine ⟨trivial, ?_⟩
  refine (lens_any _ s.size lg _).mono ?_
  rintro e w2 ⟨rfl, rfl⟩
  gi_wp2
  obtain ⟨W0, hW0⟩ : ∃ W0, W0 = ((w1.alloc (.cells #[.slice ao1 n1 cap1] 48)).alloc (.cells #[.int .i64 (s.size : Int)] 3)).alloc (.cells #[.bool lg] 4) := ⟨_, rfl⟩
  have hB0 : Below w1.heap.size w1 W0 := by
    rw [hW0]
    exact (((Below.refl _ _).alloc (Nat.le_refl _) _).alloc (by simp) _).alloc (by simp; omega) _
  have hs0 : W0.heap.size = w1.heap.size + 1 + 1 + 1 := by rw [hW0]; simp
  have k0 : W0.cell? ⟨w.heap.size, 0, none⟩ = some (.string s) := (hB0.cell (p := ⟨w.heap.size, 0, none⟩) hz0).trans c0
  have k1 : W0.cell? ⟨w.heap.size + 1, 0, none⟩ = some (.int .i64 0) := (hB0.cell (p := ⟨w.heap.size + 1, 0, none⟩) hz1).trans c1
  have k2 : W0.frozen? ⟨w.heap.size + 1, 0, none⟩ = false := (hB0.frozen (p := ⟨w.heap.size + 1, 0, none⟩) hz1).trans c2
  have k3 : W0.cell? ⟨w1.heap.size, 0, none⟩ = some (.slice ao1 n1 cap1) := by rw [hW0]; go_simp
  have k4 : W0.cell? ⟨w1.heap.size + 1, 0, none⟩ = some (.int .i64 (s.size : Int)) := by rw [hW0]; go_simp
  have k5 : W0.cell? ⟨w1.heap.size + 1 + 1, 0, none⟩ = some (.bool lg) := by rw [hW0]; go_simp
  have HE0 := Lib.hid (HE.out.below hB0)
  have HBW := Lib.hid (HB.out.trans (hB0.mono (by omega)))
  rw [← hW0]
  clear hW0 c0 c1 c2 HE HB hB0
  have hsz : Hid (s.data.toList.length = s.size) := rfl
  refine wpIn_rangeFunc_ownF rfl (by omega) (gf := 42) (lb := #[.pointer (some ⟨w1.heap.size + 1, 0, none⟩), .pointer (some ⟨w1.heap.size + 1 + 1, 0, none⟩)]) rfl trivial (enters_of Try.func42 (by kernel_rfl) rfl)
    (lens_stops _ (by omega) (w1.heap.size + 1) (w1.heap.size + 1 + 1) W0.heap.size s.size lg (by omega) W0 (by omega) (by omega) (Nat.le_refl _) k4 k5) belowK_t (belowK_b (Nat.le_refl _)) (Below.refl _ _) (fun _ => rfl)
    (fun pre W => (∀ y ∈ pre, Mt (els p) (s.data.toList.take y.1) = false) ∧ Below W0.heap.size W0 W)
    (fun c pre W => (c = .ret ∧ ∃ pre' x, pre = pre' ++ [x] ∧ (∀ y ∈ pre', Mt (els p) (s.data.toList.take y.1) = false) ∧ Mt (els p) (s.data.toList.take x.1) = true ∧ W.cell? ⟨w.heap.size + 1, 0, none⟩ = some (.int .i64 (x.1 : Int))) ∧ Below w.heap.size w W)
    (OwnFrom.and (fun _ _ _ _ hs _ _ => hs) (ownFrom_below (Nat.le_refl _) (Nat.le_refl _)))
    (fun c => OwnFrom.and (Own.from (fun s A B row hs hg hr => by
      obtain ⟨h1, pre', x, h2, h3, h4, h5⟩ := hs
      exact ⟨h1, pre', x, h2, h3, h4, cell_kept h5 hg hr⟩) _) (ownFrom_below (Nat.le_refl _) (by omega)))
    ⟨by simp, Below.refl _ _⟩
    (fun x => { tmps := #[v, .string s, .bool lg, undef, .pointer (some ⟨w.heap.size, 0, none⟩), undef, .pointer (some ⟨w.heap.size + 1, 0, none⟩), .pointer (some ⟨w1.heap.size, 0, none⟩), .int .i64 (x.1 : Int), v, .slice ao1 n1 cap1, .string s, .int .i64 (s.size : Int), .bool lg, .func (.func 42) #[] #[.pointer (some ⟨w1.heap.size + 1, 0, none⟩), .pointer (some ⟨w1.heap.size + 1 + 1, 0, none⟩)], .int .i64 (x.1 : Int), undef, undef, undef, undef, undef, undef], defers := [] }) ?assign ?body ?done ?stop
  case assign =>
    intro l x W K hK
    gi_wp2
    exact hK
  case body =>
    rintro l pre ⟨x, hx⟩ W ⟨hp, hB⟩ _
    have d4 := (hB.cell (p := ⟨w.heap.size, 0, none⟩) (by show w.heap.size < _; omega)).trans k0
    have d6 := (hB.cell (p := ⟨w.heap.size + 1, 0, none⟩) (by show w.heap.size + 1 < _; omega)).trans k1
    have f6 := (hB.frozen (p := ⟨w.heap.size + 1, 0, none⟩) (by show w.heap.size + 1 < _; omega)).trans k2
    have d7 := (hB.cell (p := ⟨w1.heap.size, 0, none⟩) (by show w1.heap.size < _; omega)).trans k3
    have hzW := hB.size
    have hzd : w.heap.size + 1 < W.heap.size := by omega
    obtain ⟨r, hr⟩ : ∃ r, r = Mt (els p) (s.data.toList.take x) := ⟨_, rfl⟩
    have HMT : Hid (∀ V, ElemsOf (els p) (.slice ao1 n1 cap1) V → Calls Try.prog 26 #[.slice ao1 n1 cap1, .string (s.extract 0 x)] V fun e w' => e = .returned (.bool r) ∧ Below V.heap.size V w') := by
      intro V hV
      have := match_any (els p) (.slice ao1 n1 cap1) (s.extract 0 x) V hV hel (by rw [ByteArray.size_extract]; omega)
      rw [Lib.extract_data, List.drop_zero, Nat.sub_zero, ← hr] at this
      exact this
    have HEW : Hid (ElemsOf (els p) (.slice ao1 n1 cap1) W.drew) := HE0.out.below (hB.trans (Below.refl _ W).drew)
    have HR := Lib.hid hr
    have HBB := Lib.hid hB
    have HP := Lib.hid hp
    have hx0 : (0 : Int) ≤ (x : Int) := Int.natCast_nonneg _
    have hx1 : (x : Int) ≤ (s.size : Int) := by omega
    clear hr hB hp
    have hmx : Try.prog.follows .mixedOrders = true := by kernel_rfl
    gi_wp2
    gi_region_with_o (refine ⟨trivial, ?_⟩; gi_at_call 26; refine (CallsIn.inRound l (callsIn_wide.2 (HMT.out _ HEW.out))).mono ?_; rintro e w3 ⟨rfl, hb3⟩; have g6 := (hb3.cell (p := ⟨w.heap.size + 1, 0, none⟩) hzd).trans d6; have q6 := (hb3.frozen (p := ⟨w.heap.size + 1, 0, none⟩) hzd).trans f6; have HB3 := Lib.hid hb3; clear hb3)
    all_goals
      have hb3 : Below W.heap.size W.drew w3 := HB3.out
      have hbw3 : Below W.heap.size W w3 := ((Below.refl _ W).drew).trans hb3
      have HBW3 := Lib.hid hbw3
      have hz3 : w.heap.size + 1 < w3.heap.size := by have := hbw3.size; omega
      clear hb3 hbw3
      cases r
      · gi_wp2
        refine ⟨keeps_of_below HBW3.out, HBW3.out.mono hzW, ?_, HBB.out.trans (HBW3.out.mono hzW)⟩
        intro y hy
        rcases List.mem_append.1 hy with hy | hy
        · exact HP.out y hy
        · simp at hy
          subst hy
          exact HR.out.symm
      · gi_wp2
        refine ⟨(keeps_of_below HBW3.out).trans (KeepsOthers.setCell _ _ _), ⟨rfl, pre, ⟨x, hx⟩, rfl, HP.out, HR.out.symm, World.cell?_setCell_same' _ _ _ (by rw [g6]; rfl)⟩, ((HBW.out.trans (HBB.out.mono (by omega))).trans (HBW3.out.mono (by omega))).setCell (p := ⟨w.heap.size + 1, 0, none⟩) (by show w.heap.size ≤ w.heap.size + 1; omega) _⟩
  case done =>
    rintro D ys W hD rfl ⟨hp, hB⟩ hK
    have d6 := (hB.cell (p := ⟨w.heap.size + 1, 0, none⟩) (by show w.heap.size + 1 < _; omega)).trans k1
    have f6 := (hB.frozen (p := ⟨w.heap.size + 1, 0, none⟩) (by show w.heap.size + 1 < _; omega)).trans k2
    have HB := Lib.hid hB
    have hfl : Hid (preI (els p) s.data.toList lg = -1) := firstL_none hp
    clear hB hp
    gi_wp2
    have hK' := (KeepsOthers.setCell W ⟨w.heap.size + 1, 0, none⟩ (.int .i64 (-1))).same D _ hK rfl
    refine ⟨by simp, .inl ⟨_, _, rfl, run_takeDeferred hK', ?_⟩⟩
    have hc5 := cell_kept (World.cell?_setCell_same' W ⟨w.heap.size + 1, 0, none⟩ (.int .i64 (-1)) (by rw [d6]; rfl)) (grownBy_putObj' _ D (.deferred none)) (fun r e => by cases e; exact ⟨_, hK', rfl⟩)
    refine ⟨.int .i64 (-1), ?_, by rw [hfl.out], ((HBW.out.trans (HB.out.mono (by omega))).setCell (p := ⟨w.heap.size + 1, 0, none⟩) (by show w.heap.size ≤ w.heap.size + 1; omega) _).trans (belowK_b (w := W0) (by omega) _ D _ _ hD hK' rfl rfl)⟩
    simp [results, Try.f18, go_sem, hc5]
  case stop =>
    rintro D c pre W hD hpre ⟨⟨rfl, pre', x, hpre', hf, hx, hc⟩, hB⟩ hK
    obtain ⟨k, hk, hpk⟩ := hpre
    have hfl : Hid (preI (els p) s.data.toList lg = (x.1 : Int)) := firstL_of hk (hpre'.symm.trans hpk) hf hx
    have HB := Lib.hid hB
    clear hB hf hx hpk hpre'
    gi_wp2
    refine ⟨by simp, .inl ⟨_, _, rfl, run_takeDeferred hK, ?_⟩⟩
    have hc5 := cell_kept hc (grownBy_putObj' _ D (.deferred none)) (fun r e => by cases e; exact ⟨_, hK, rfl⟩)
    refine ⟨.int .i64 (x.1 : Int), ?_, by rw [hfl.out], HB.out.trans (belowK_b (w := W0) (by omega) W D _ _ hD hK rfl rfl)⟩
    simp [results, Try.f18, go_sem, hc5]
end Go.Proofs.Ytmjdlilmackneaa

/- dialect.Names; conditions: as each theorem states. -/
import Derived.Test.YtihbdacmgojapaaEp
namespace Go.Proofs.Ytihbdacmgojapaa
open Go.RowKit Go.Shelf
attribute [local go_sem] Oper.semAt_some

/-- Whether a command tells a reserved name. -/
noncomputable def resAll (x : Nd) : Bool := (cp x).any ores
theorem resAll_kid {x k : Nd} (h : k ∈ kids x) (hk : resAll k = true) : resAll x = true := by
  unfold resAll at hk ⊢
  obtain ⟨y, hy, hr⟩ := List.any_eq_true.1 hk
  refine List.any_eq_true.2 ⟨y, ?_, hr⟩
  rw [cp_is]
  exact List.mem_cons_of_mem _ (List.mem_flatMap.2 ⟨k, h, hy⟩)
set_option maxRecDepth 100000 in
set_option maxHeartbeats 8000000 in
theorem names_any (W0 : World) (x : Nd) (w : World) (hw : Wf W0 .cmd x) (hm : wt x ≤ 1048576) (hb : Below W0.heap.size W0 w) :
    Calls Try.prog 23 #[.agg x.c.toArray] w fun e w' => ∃ (v : Value) (xs : List ByteArray), e = .returned v ∧ w'.ownsRow w.heap.size 9 1 v xs.length (xs.map Value.string) ∧ xs.any res = resAll x ∧ xs.length ≤ 8796093022208 ∧ Below w.heap.size w w' := by
  have hcl := cp_length x
  have HSTOP : Hid (∀ d bc (V : World), Below W0.heap.size W0 V → w.heap.size ≤ V.heap.size → (∀ i (hi : i < x.c.length), V.cell? ⟨bc, i, none⟩ = some x.c[i]) → bc < V.heap.size →
      SeqStopsK Fence.wide d Try.prog 38 #[.pointer (some ⟨bc, 0, none⟩)] (fun y : CmdA W0 (wt x) => #[Value.agg y.1.c.toArray]) (KT T1 w.heap.size) (fun ys => ys.map (·.1) = cp x) (fun pre => pre.map (·.1) <+: cp x) (cp x).length V) := fun d bc V h1 h2 h3 h4 =>
    all_stops W0 T1 rfl w.heap.size hb.size (wt x) hm d x hw (Nat.le_refl _) bc V h1 h2 h3 h4
  have hra : resAll x = (cp x).any ores := rfl
  rw [hra]
  clear hra
  obtain ⟨Z, hZ⟩ : ∃ Z, Z = cp x := ⟨_, rfl⟩
  obtain ⟨M, hM⟩ : ∃ M, M = wt x := ⟨_, rfl⟩
  rw [← hZ] at HSTOP hcl ⊢
  rw [← hM] at HSTOP hcl hm
  clear hZ hM
  cases hw with
  | cmd a0 a1 a2 l2 a3 l3 a4 l4 a5 l5 a6 l6 a7 l7 a8 l8 a9 h2 q2 h3 q3 h4 q4 h5 q5 h6 q6 h7 q7 h8 q8 =>
    obtain ⟨oa2, cp2, rfl⟩ := h2.form
    obtain ⟨oa3, cp3, rfl⟩ := h3.form
    obtain ⟨oa4, cp4, rfl⟩ := h4.form
    obtain ⟨oa5, cp5, rfl⟩ := h5.form
    obtain ⟨oa6, cp6, rfl⟩ := h6.form
    obtain ⟨oa7, cp7, rfl⟩ := h7.form
    obtain ⟨oa8, cp8, rfl⟩ := h8.form
    rw [show (Nd.mk [.int .i64 a0, .string a1, .slice oa2 l2.length cp2, .slice oa3 l3.length cp3, .slice oa4 l4.length cp4, .slice oa5 l5.length cp5, .slice oa6 l6.length cp6, .slice oa7 l7.length cp7, .slice oa8 l8.length cp8, .int .i64 a9] [l2, l3, l4, l5, l6, l7, l8]).c = [.int .i64 a0, .string a1, .slice oa2 l2.length cp2, .slice oa3 l3.length cp3, .slice oa4 l4.length cp4, .slice oa5 l5.length cp5, .slice oa6 l6.length cp6, .slice oa7 l7.length cp7, .slice oa8 l8.length cp8, .int .i64 a9] from rfl] at HSTOP ⊢
    have HCL := Lib.hid hcl
    have HML := Lib.hid hm
    clear h2 h3 h4 h5 h6 h7 h8 q2 q3 q4 q5 q6 q7 q8 hcl hm
    obtain ⟨Wb, hWb⟩ : ∃ W, W = ((w.alloc (.cells #[.int .i64 a0, .string a1, .slice oa2 l2.length cp2, .slice oa3 l3.length cp3, .slice oa4 l4.length cp4, .slice oa5 l5.length cp5, .slice oa6 l6.length cp6, .slice oa7 l7.length cp7, .slice oa8 l8.length cp8, .int .i64 a9] 48)).alloc (.cells #[.slice none 0 0] 82)).alloc (.cells #[.pointer (some ⟨w.heap.size + 1, 0, none⟩)] 80) := ⟨_, rfl⟩
    have hbWb : Below w.heap.size w Wb := hWb ▸ (((Below.refl _ _).alloc (Nat.le_refl _) _).alloc (by simp) _).alloc (by simp; omega) _
    have hWs : Wb.heap.size = w.heap.size + 1 + 1 + 1 := by rw [hWb]; simp
    have HbW := Lib.hid hbWb
    have HB : Hid (Below W0.heap.size W0 Wb) := hb.trans (hbWb.mono hb.size)
    have HBS : Hid (W0.heap.size ≤ w.heap.size) := hb.size
    have HSB : Hid (SetAt w.heap.size 82 Wb (w.heap.size + 1) (.slice none 0 0) []) := by
      refine ⟨?_, World.ownsRow_nil _ _ _ _, Nat.le_succ _⟩
      rw [hWb]
      have h1 := Boxed.new (w.alloc (.cells #[.int .i64 a0, .string a1, .slice oa2 l2.length cp2, .slice oa3 l3.length cp3, .slice oa4 l4.length cp4, .slice oa5 l5.length cp5, .slice oa6 l6.length cp6, .slice oa7 l7.length cp7, .slice oa8 l8.length cp8, .int .i64 a9] 48)) 82 (.slice none 0 0)
      rw [World.size_alloc] at h1
      exact h1.alloc _
    have HCP : Hid (∀ r c W, After w.heap.size 82 (w.heap.size + 1) (.slice none 0 0) [] Wb r c W → W.cell? ⟨w.heap.size + 1 + 1, 0, none⟩ = some (.pointer (some ⟨w.heap.size + 1, 0, none⟩))) := fun r c W ha => by
      rw [ha.cell (w.heap.size + 1 + 1) (by omega) (by omega) (by simp [Value.ownBlock]) 0, hWb]
      have := World.cell?_alloc_new (w := (w.alloc (.cells #[.int .i64 a0, .string a1, .slice oa2 l2.length cp2, .slice oa3 l3.length cp3, .slice oa4 l4.length cp4, .slice oa5 l5.length cp5, .slice oa6 l6.length cp6, .slice oa7 l7.length cp7, .slice oa8 l8.length cp8, .int .i64 a9] 48)).alloc (.cells #[.slice none 0 0] 82)) #[Value.pointer (some ⟨w.heap.size + 1, 0, none⟩)] 80 0
      rw [World.size_alloc, World.size_alloc] at this
      exact this
    have HCC : Hid (∀ i, Wb.cell? ⟨w.heap.size, i, none⟩ = (#[.int .i64 a0, .string a1, .slice oa2 l2.length cp2, .slice oa3 l3.length cp3, .slice oa4 l4.length cp4, .slice oa5 l5.length cp5, .slice oa6 l6.length cp6, .slice oa7 l7.length cp7, .slice oa8 l8.length cp8, .int .i64 a9] : Array Value)[i]?) := fun i => by
      rw [hWb]
      exact (World.cell?_alloc_lt _ _ _ (by simp; omega)).trans ((World.cell?_alloc_lt _ _ _ (by simp)).trans (World.cell?_alloc_new (w := w) #[.int .i64 a0, .string a1, .slice oa2 l2.length cp2, .slice oa3 l3.length cp3, .slice oa4 l4.length cp4, .slice oa5 l5.length cp5, .slice oa6 l6.length cp6, .slice oa7 l7.length cp7, .slice oa8 l8.length cp8, .int .i64 a9] 48 i))
    clear hb hbWb
    have d0 : Wb.cell? ⟨w.heap.size, 0, none⟩ = some (.int .i64 a0) := HCC.out 0
    have d1 : Wb.cell? ⟨w.heap.size, 1, none⟩ = some (.string a1) := HCC.out 1
    have d2 : Wb.cell? ⟨w.heap.size, 2, none⟩ = some (.slice oa2 l2.length cp2) := HCC.out 2
    have d3 : Wb.cell? ⟨w.heap.size, 3, none⟩ = some (.slice oa3 l3.length cp3) := HCC.out 3
    have d4 : Wb.cell? ⟨w.heap.size, 4, none⟩ = some (.slice oa4 l4.length cp4) := HCC.out 4
    have d5 : Wb.cell? ⟨w.heap.size, 5, none⟩ = some (.slice oa5 l5.length cp5) := HCC.out 5
    have d6 : Wb.cell? ⟨w.heap.size, 6, none⟩ = some (.slice oa6 l6.length cp6) := HCC.out 6
    have d7 : Wb.cell? ⟨w.heap.size, 7, none⟩ = some (.slice oa7 l7.length cp7) := HCC.out 7
    have d8 : Wb.cell? ⟨w.heap.size, 8, none⟩ = some (.slice oa8 l8.length cp8) := HCC.out 8
    have d9 : Wb.cell? ⟨w.heap.size, 9, none⟩ = some (.int .i64 a9) := HCC.out 9
    refine (callsIn_wide (n := 6)).1 ?_
    refine callsIn_of_wp_marks Try.func23 rfl trivial ?_ rfl
    simp only [Try.ntmps23, List.size_toArray, List.length_cons, List.length_nil, Nat.reduceAdd, Nat.reduceSub, Array.replicate_succ, Array.replicate_zero, List.push_toArray, List.append_toArray, List.nil_append, List.cons_append]
    gi_wp2
    rw [← hWb]
    refine ⟨trivial, ?_⟩
    refine (allc_any _ _ _ ⟨_, _, _, _, _, _, _, _, _, _, rfl⟩).mono ?_
    rintro e w3 ⟨rfl, rfl⟩
    obtain ⟨V, hV⟩ : ∃ V, V = Wb.alloc (.cells #[.int .i64 a0, .string a1, .slice oa2 l2.length cp2, .slice oa3 l3.length cp3, .slice oa4 l4.length cp4, .slice oa5 l5.length cp5, .slice oa6 l6.length cp6, .slice oa7 l7.length cp7, .slice oa8 l8.length cp8, .int .i64 a9] 48) := ⟨_, rfl⟩
    have hbV : Below Wb.heap.size Wb V := hV ▸ (Below.refl _ _).alloc (Nat.le_refl _) _
    have hVz : V.heap.size = Wb.heap.size + 1 := by rw [hV]; simp
    have hVc : ∀ i, V.cell? ⟨Wb.heap.size, i, none⟩ = (#[.int .i64 a0, .string a1, .slice oa2 l2.length cp2, .slice oa3 l3.length cp3, .slice oa4 l4.length cp4, .slice oa5 l5.length cp5, .slice oa6 l6.length cp6, .slice oa7 l7.length cp7, .slice oa8 l8.length cp8, .int .i64 a9] : Array Value)[i]? := fun i => by rw [hV, World.cell?_alloc_new]
    rw [← hV]
    have HBV : Hid (Below W0.heap.size W0 V) := HB.out.trans (hbV.mono HB.out.size)
    have HAV : Hid (After w.heap.size 82 (w.heap.size + 1) (.slice none 0 0) [] Wb false 0 V) := After.quiet HSB.out hbV
    have hVb : w.heap.size ≤ V.heap.size := by omega
    have hHS := HSTOP.out 5 Wb.heap.size V HBV.out hVb (fun i hi => by
      rw [hVc i]
      simp only [List.getElem?_toArray]
      exact List.getElem?_eq_getElem hi) (by omega)
    have hBV : Wb.heap.size ≤ V.heap.size := by omega
    clear hVc hV hWb d0 d1 d2 d3 d4 d5 d6 d7 d8 d9
    rw [hWs] at hHS ⊢
    gi_wp2
    refine wpIn_rangeFunc_ownH rfl (by decide) (gf := 38) (lb := #[.pointer (some ⟨w.heap.size + 1 + 1 + 1, 0, none⟩)]) rfl trivial (enters_of Try.func38 (by kernel_rfl) rfl)
      hHS KT.trans (fun W l o o' h1 h2 h3 _ => KT.putObj W l o o' (by omega) h2 h3) (Below.refl _ _) (fun _ => rfl)
      (fun pre W => After w.heap.size 82 (w.heap.size + 1) (.slice none 0 0) [] Wb ((pre.map (·.1)).any ores) (6 * M * pre.length) W)
      (fun _ _ _ => False)
      (after_own w.heap.size V.heap.size (w.heap.size + 1) (.slice none 0 0) [] Wb hBV (fun pre : List (CmdA W0 M) => (pre.map (·.1)).any ores) (fun pre : List (CmdA W0 M) => 6 * M * pre.length))
      (fun _ _ _ _ _ hs _ _ => hs)
      (by rw [List.map_nil, List.any_nil]; exact HAV.out)
      (fun x a' W => ∃ Bx, W.heap[Bx]? = some (.cells x.1.c.toArray 48 (0, 0)) ∧ a' = { tmps := #[.agg #[.int .i64 a0, .string a1, .slice oa2 l2.length cp2, .slice oa3 l3.length cp3, .slice oa4 l4.length cp4, .slice oa5 l5.length cp5, .slice oa6 l6.length cp6, .slice oa7 l7.length cp7, .slice oa8 l8.length cp8, .int .i64 a9], .pointer (some ⟨w.heap.size, 0, none⟩), .slice none 0 0, .pointer (some ⟨w.heap.size + 1 + 1, 0, none⟩), .pointer (some ⟨Bx, 0, none⟩), .agg #[.slice none 0 0], .pointer (some ⟨w.heap.size + 1, 0, none⟩), .agg #[.int .i64 a0, .string a1, .slice oa2 l2.length cp2, .slice oa3 l3.length cp3, .slice oa4 l4.length cp4, .slice oa5 l5.length cp5, .slice oa6 l6.length cp6, .slice oa7 l7.length cp7, .slice oa8 l8.length cp8, .int .i64 a9], .func (.func 38) #[] #[.pointer (some ⟨w.heap.size + 1 + 1 + 1, 0, none⟩)], .agg x.1.c.toArray, undef, undef, undef, undef, undef, undef, undef], defers := [] })
      (fun x a' _ X Y row hs hg hr => by
        obtain ⟨Bx, h1, h2⟩ := hs
        refine ⟨Bx, (hg.block Bx (Array.getElem?_eq_some_iff.1 h1).1 (fun e => ?_)).trans h1, h2⟩
        obtain ⟨_, o, ho, hc⟩ := hr Bx e.symm
        rw [h1] at ho
        cases ho
        cases hc)
      ?asg ?bdy ?dne ?stp
    case asg =>
      rintro l pre ⟨x, hx1, hx2⟩ W K hI hK
      cases hx1 with
      | cmd ya0 ya1 ya2 yl2 ya3 yl3 ya4 yl4 ya5 yl5 ya6 yl6 ya7 yl7 ya8 yl8 ya9 yh2 yq2 yh3 yq3 yh4 yq4 yh5 yq5 yh6 yq6 yh7 yq7 yh8 yq8 =>
        obtain ⟨yo2, yc2, rfl⟩ := yh2.form
        obtain ⟨yo3, yc3, rfl⟩ := yh3.form
        obtain ⟨yo4, yc4, rfl⟩ := yh4.form
        obtain ⟨yo5, yc5, rfl⟩ := yh5.form
        obtain ⟨yo6, yc6, rfl⟩ := yh6.form
        obtain ⟨yo7, yc7, rfl⟩ := yh7.form
        obtain ⟨yo8, yc8, rfl⟩ := yh8.form
        have hz : w.heap.size ≤ W.heap.size := by have := hI.size; omega
        have HI := Lib.hid hI
        clear hI
        dsimp only [Nd.c] at hK ⊢
        gi_wp2
        exact hK _ _ ((KeepsOthers.alloc _ _).from _) (KT.quiet hz ((Below.refl _ _).alloc (Nat.le_refl _) _)) (HI.out.more ((Below.refl _ _).alloc (Nat.le_refl _) _)) ⟨W.heap.size, World.alloc_heap_new _ _, rfl⟩
    case bdy =>
      rintro l pre ⟨x, hx1, hx2⟩ a' W hl ⟨r, hr⟩ hI ⟨Bx, hBx, rfl⟩ hlt
      have hI' : After w.heap.size 82 (w.heap.size + 1) (.slice none 0 0) [] Wb ((pre.map (·.1)).any ores) (6 * M * pre.length) W := hI
      have hsn : ((pre ++ [(⟨x, hx1, hx2⟩ : CmdA W0 M)]).map (·.1)).any ores = ((pre.map (·.1)).any ores || ores x) := by
        rw [List.map_append, List.any_append]
        simp
      have hnn : 6 * M * (pre ++ [(⟨x, hx1, hx2⟩ : CmdA W0 M)]).length = 6 * M * pre.length + 6 * M := by
        rw [List.length_append, List.length_singleton, Nat.mul_add, Nat.mul_one]
      have hmul : 6 * M * pre.length + 6 * M ≤ 8796093022208 := by
        have h1 := HCL.out
        have h2 := HML.out
        have h3 : 6 * M * (pre.length + 1) ≤ 6 * 1048576 * 1048576 := Nat.mul_le_mul (by omega) (by omega)
        rw [Nat.mul_add, Nat.mul_one] at h3
        omega
      obtain ⟨v1, xs1, s1, n1, st1⟩ := hI'.and
      have hbW : Below W0.heap.size W0 W := hI'.belowW HBS.out HSB.out HB.out
      have p3 := HCP.out _ _ _ hI'
      have HC := Lib.hid (own_any W0 x hx1 (by have := HML.out; omega) w.heap.size (w.heap.size + 1) HBS.out W v1 xs1 hbW s1 (by simp only [List.length_nil] at n1; omega))
      have S1 := Lib.hid s1
      have ST := Lib.hid st1
      have HSN := Lib.hid hsn
      have HNN := Lib.hid hnn
      have H6 : Hid (6 * wt x ≤ 6 * M) := by show _ ≤ _; omega
      clear hI hI' hsn hnn hmul s1 n1 st1 hbW
      cases hx1 with
      | cmd ya0 ya1 ya2 yl2 ya3 yl3 ya4 yl4 ya5 yl5 ya6 yl6 ya7 yl7 ya8 yl8 ya9 yh2 yq2 yh3 yq3 yh4 yq4 yh5 yq5 yh6 yq6 yh7 yq7 yh8 yq8 =>
        obtain ⟨yo2, yc2, rfl⟩ := yh2.form
        obtain ⟨yo3, yc3, rfl⟩ := yh3.form
        obtain ⟨yo4, yc4, rfl⟩ := yh4.form
        obtain ⟨yo5, yc5, rfl⟩ := yh5.form
        obtain ⟨yo6, yc6, rfl⟩ := yh6.form
        obtain ⟨yo7, yc7, rfl⟩ := yh7.form
        obtain ⟨yo8, yc8, rfl⟩ := yh8.form
        have e0 : ∀ i, W.cell? ⟨Bx, i, none⟩ = (#[.int .i64 ya0, .string ya1, .slice yo2 yl2.length yc2, .slice yo3 yl3.length yc3, .slice yo4 yl4.length yc4, .slice yo5 yl5.length yc5, .slice yo6 yl6.length yc6, .slice yo7 yl7.length yc7, .slice yo8 yl8.length yc8, .int .i64 ya9] : Array Value)[i]? := fun i => by simp [World.cell?, hBx, Nd.c]
        have d0 : W.cell? ⟨Bx, 0, none⟩ = some (.int .i64 ya0) := e0 0
        have d1 : W.cell? ⟨Bx, 1, none⟩ = some (.string ya1) := e0 1
        have d2 : W.cell? ⟨Bx, 2, none⟩ = some (.slice yo2 yl2.length yc2) := e0 2
        have d3 : W.cell? ⟨Bx, 3, none⟩ = some (.slice yo3 yl3.length yc3) := e0 3
        have d4 : W.cell? ⟨Bx, 4, none⟩ = some (.slice yo4 yl4.length yc4) := e0 4
        have d5 : W.cell? ⟨Bx, 5, none⟩ = some (.slice yo5 yl5.length yc5) := e0 5
        have d6 : W.cell? ⟨Bx, 6, none⟩ = some (.slice yo6 yl6.length yc6) := e0 6
        have d7 : W.cell? ⟨Bx, 7, none⟩ = some (.slice yo7 yl7.length yc7) := e0 7
        have d8 : W.cell? ⟨Bx, 8, none⟩ = some (.slice yo8 yl8.length yc8) := e0 8
        have d9 : W.cell? ⟨Bx, 9, none⟩ = some (.int .i64 ya9) := e0 9
        rw [show (Nd.mk [.int .i64 ya0, .string ya1, .slice yo2 yl2.length yc2, .slice yo3 yl3.length yc3, .slice yo4 yl4.length yc4, .slice yo5 yl5.length yc5, .slice yo6 yl6.length yc6, .slice yo7 yl7.length yc7, .slice yo8 yl8.length yc8, .int .i64 ya9] [yl2, yl3, yl4, yl5, yl6, yl7, yl8]).c.toArray = #[.int .i64 ya0, .string ya1, .slice yo2 yl2.length yc2, .slice yo3 yl3.length yc3, .slice yo4 yl4.length yc4, .slice yo5 yl5.length yc5, .slice yo6 yl6.length yc6, .slice yo7 yl7.length yc7, .slice yo8 yl8.length yc8, .int .i64 ya9] from rfl] at HC
        clear hBx hr e0
        gi_wp2
        refine ⟨trivial, ?_⟩
        refine (CallsIn.inRound l (callsIn_wide.2 HC.out)).mono ?_
        rintro e W4 ⟨rfl, ha4⟩
        have HA4 := Lib.hid ha4
        clear ha4
        gi_wp2
        have hk4 := After.kt HA4.out S1.out
        refine ⟨hk4.2.from _, hk4.1, ?_⟩
        show After _ _ _ _ _ _ _ _ _
        rw [HSN.out, HNN.out]
        exact After.le (ST.out _ _ _ HA4.out) (by have := H6.out; omega)
    case dne =>
      rintro D zs W hD hS hI hK
      have hzl : zs.length = Z.length := by rw [← hS, List.length_map]
      have hI' : After w.heap.size 82 (w.heap.size + 1) (.slice none 0 0) [] Wb ((zs.map (·.1)).any ores) (6 * M * zs.length) W := hI
      rw [hS, hzl] at hI'
      have hmul : 6 * M * Z.length ≤ 8796093022208 := by
        have h1 := HCL.out
        have h2 := HML.out
        have h3 : 6 * M * Z.length ≤ 6 * 1048576 * 1048576 := Nat.mul_le_mul (by omega) (by omega)
        omega
      have p3 := HCP.out _ _ _ hI'
      obtain ⟨v1, xs1, s1, n1, n2, ch⟩ := hI'
      obtain ⟨g, ao, cap, rfl, _⟩ := strs_block s1.row (by have := s1.le; have := s1.box.lt; omega)
      have hf : Hid (∀ o, Below w.heap.size w (W.putObj D o)) := fun o => HbW.out.trans ((ch.below HSB.out).trans (belowK_b (w := w) (Nat.le_refl _) W D _ _ (by omega) hK rfl rfl))
      have hrow : Hid (∀ o, (W.putObj D o).ownsRow w.heap.size 9 1 (.slice ao xs1.length cap) xs1.length (xs1.map Value.string)) := fun o => ownsRow_putObj s1.row _ hK rfl
      have hr : Hid (xs1.any res = Z.any ores) := by show _ = _; rw [n1]; rfl
      have hn : Hid (xs1.length ≤ 8796093022208) := by show _ ≤ _; simp only [List.length_nil] at n2; omega
      have d1 := s1.box.cell
      have HK := Lib.hid hK
      clear s1 n1 n2 ch hI hS hzl hmul hK
      gi_wp2
      refine ⟨by simp, .inl ⟨_, _, rfl, run_takeDeferred HK.out, ?_⟩⟩
      exact ⟨_, results_tmp rfl _ _ _, _, xs1, rfl, hrow.out _, hr.out, hn.out, hf.out _⟩
    case stp =>
      rintro D c pre W _ _ h _
      exact h.elim
end Go.Proofs.Ytihbdacmgojapaa

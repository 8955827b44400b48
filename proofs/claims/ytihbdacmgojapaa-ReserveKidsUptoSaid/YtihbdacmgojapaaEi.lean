/- dialect.own: the iterator over the parts of a command's own words; conditions: as each theorem states. -/
import Derived.Test.YtihbdacmgojapaaEh
namespace Go.Proofs.Ytihbdacmgojapaa
open Go.RowKit Go.Shelf
attribute [local go_sem] Oper.semAt_some

def wparts (w : Nd) : List Nd := (w.sub 0).flatMap pp
/-- The parts of a command's own words. -/
def oparts (x : Nd) : List Nd := (words x).flatMap wparts
theorem Own.block {w : World} {base : Nat} {e : TypeId} {k : Nat} {v : Value} {L : List Nd} (h : Own w base e k v L) (hk : ∀ y ∈ L, y.c.length = k) (hb : base ≤ w.heap.size) : ∃ g ao cap, v = .slice ao L.length cap ∧ base ≤ g ∧ (0 < L.length → ao = some ⟨g, 0, none⟩ ∧ g < w.heap.size ∧ ∃ cur, w.heap[g]? = some (Obj.cells cur e (0, 0))) ∧ L.length ≤ cap ∧
    ∀ j (h : j < L.length) i, i < k → w.cell? ⟨g, j * k + i, none⟩ = (L[j].c)[i]? := by
  have hlt := h.lt
  rcases h.2 with ⟨h1, h2⟩ | ⟨g, cap, cur, hv, h1, h2, h3, h4⟩
  · have : L = [] := List.length_eq_zero_iff.1 h2
    subst this
    exact ⟨w.heap.size, none, 0, h1, hb, fun h => by simp at h, Nat.le_refl _, fun j hj => by simp at hj⟩
  · subst hv
    refine ⟨g, some ⟨g, 0, none⟩, cap, rfl, h1, fun _ => ⟨rfl, (hlt g rfl).2, cur, h2⟩, h3, fun j hj i hi => ?_⟩
    have hlt2 : j * k + i < L.length * k := by
      have := Nat.mul_le_mul_right k (show j + 1 ≤ L.length by omega)
      rw [Nat.add_mul] at this
      omega
    rw [h.cellAt (j * k + i) hlt2]
    have hk' : ∀ c ∈ L.map Nd.c, c.length = k := by
      intro c hc
      obtain ⟨y, hy, rfl⟩ := List.mem_map.1 hc
      exact hk y hy
    have := flatten_at _ hk' j i (by rw [List.length_map]; exact hj) hi
    rw [List.getElem_map] at this
    exact this
theorem grown_of_below {W W' : World} (h : Below W.heap.size W W') : W.grownBy W' none := ⟨h.os, h.tape, h.output, h.size, fun k hk _ => h.block k hk⟩
theorem abide {β : Type} {B : Nat} {J : β → World → Prop} (hJ : AbidesFrom B J) {s : β} {W W' : World} (h : J s W) (hb : Below W.heap.size W W') : J s W' := hJ s W W' none h (grown_of_below hb) (fun r e => by cases e)
/-- J, of lists of structs. -/
def Jn {W0 : World} {M : Nat} (J : List (PartA W0 M) → World → Prop) (l : List Nd) (W : World) : Prop := ∃ l' : List (PartA W0 M), l'.map (·.1) = l ∧ J l' W
theorem Jn.len {W0 : World} {M : Nat} {l' : List (PartA W0 M)} {l : List Nd} (h : l'.map (·.1) = l) : l'.length = l.length := by rw [← h, List.length_map]

set_option maxRecDepth 100000 in
set_option maxHeartbeats 4000000 in
theorem own_stops (W0 : World) (T : TypeId → Bool) (hT : T 92 = false) (hT2 : T 67 = false) (n0 : Nat) (hn0 : W0.heap.size ≤ n0) (M : Nat) (hM0 : M ≤ 1048576) (d : Nat) (x : Nd) (hw : Wf W0 .cmd x) (hx : wt x ≤ M) (bc : Nat) (w : World) (hbw : Below W0.heap.size W0 w) (hn0w : n0 ≤ w.heap.size)
    (hc : ∀ i (hi : i < x.c.length), w.cell? ⟨bc, i, none⟩ = some x.c[i]) (hbc : bc < w.heap.size) :
    SeqStopsK Fence.wide d Try.prog 50 #[.pointer (some ⟨bc, 0, none⟩)] (fun y : PartA W0 M => #[Value.agg y.1.c.toArray]) (KT T n0) (fun ys => ys.map (·.1) = oparts x) (fun pre => pre.map (·.1) <+: oparts x) (oparts x).length w := by
  intro l J Jx W hW hJa hJxa hY h0
  have hYn : ∀ m pre y V, Wf W0 .part y → wt y ≤ M → Jn J pre V → pre.length < (oparts x).length → YieldAt Fence.wide m Try.prog l #[.agg y.c.toArray] V (RoundP (KT T n0) (Jn J) (Jn Jx) pre y V) := by
    rintro m pre y V hy1 hy2 ⟨pre', rfl, hJ'⟩ hlen
    rw [List.length_map] at hlen
    refine YieldAt.anyD rfl m (YieldAt.mono (hY pre' ⟨y, hy1, hy2⟩ V hJ' hlen) ?_)
    rintro e V' (⟨h1, h2, h3⟩ | ⟨h1, h2⟩)
    · exact .inl ⟨h1, ⟨pre' ++ [⟨y, hy1, hy2⟩], by simp, h2⟩, h3⟩
    · exact .inr ⟨h1, ⟨pre' ++ [⟨y, hy1, hy2⟩], by simp, h2⟩⟩
  have hJn : ∀ pre V o, n0 ≤ V.heap.size → Jn J pre V → Jn J pre (V.alloc o) := by
    rintro pre V o _ ⟨pre', h1, h2⟩
    exact ⟨pre', h1, abide hJa h2 ((Below.refl _ _).alloc (Nat.le_refl _) o)⟩
  have HPA := Lib.hid (fun n d ps v pre W h1 h2 h3 h4 h5 h6 h7 h8 => parts_in W0 T hT n0 hn0 M l (oparts x).length hM0 (Jn J) (Jn Jx) hJn hYn n d ps v pre W h1 h2 h3 h4 h5 h6 h7 h8)
  have hww := words_wf hw
  have hbW : Below W0.heap.size W0 W := hbw.trans (hW.mono hbw.size)
  have HWD := Lib.hid (words_any W0 x W hw (by omega) hbW)
  have hcW : ∀ i (hi : i < x.c.length), W.cell? ⟨bc, i, none⟩ = some x.c[i] := fun i hi => (hW.cell (p := ⟨bc, i, none⟩) hbc).trans (hc i hi)
  have HLE : Hid (∀ y ∈ words x, Wl (y.sub 0) ≤ M) := fun y hy => Nat.le_trans (wsub_le hy) hx
  have HJ0 : Hid (Jn J [] W) := ⟨[], rfl, h0⟩
  have HJA := Lib.hid hJa
  have HW0W := Lib.hid hbW
  have hn0W : n0 ≤ W.heap.size := Nat.le_trans hn0w hW.size
  have HWW := Lib.hid hww
  obtain ⟨WD, hWD⟩ : ∃ L, L = words x := ⟨_, rfl⟩
  have hop : oparts x = WD.flatMap wparts := by rw [hWD]; rfl
  have hwl : WD.length ≤ 1048576 := by rw [hWD]; have := words_len x; omega
  have HOP := Lib.hid hop
  rw [← hWD] at HWD HLE HWW
  clear hYn hJn hY hbw hW hc hww hbW hop hWD hJa hJxa h0
  cases hw with
  | cmd a0 a1 a2 l2 a3 l3 a4 l4 a5 l5 a6 l6 a7 l7 a8 l8 a9 h2 q2 h3 q3 h4 q4 h5 q5 h6 q6 h7 q7 h8 q8 =>
    obtain ⟨oa2, cp2, rfl⟩ := h2.form
    obtain ⟨oa3, cp3, rfl⟩ := h3.form
    obtain ⟨oa4, cp4, rfl⟩ := h4.form
    obtain ⟨oa5, cp5, rfl⟩ := h5.form
    obtain ⟨oa6, cp6, rfl⟩ := h6.form
    obtain ⟨oa7, cp7, rfl⟩ := h7.form
    obtain ⟨oa8, cp8, rfl⟩ := h8.form
    have d0 : W.cell? ⟨bc, 0, none⟩ = some (.int .i64 a0) := hcW 0 (by simp [Nd.c])
    have d1 : W.cell? ⟨bc, 1, none⟩ = some (.string a1) := hcW 1 (by simp [Nd.c])
    have d2 : W.cell? ⟨bc, 2, none⟩ = some (.slice oa2 l2.length cp2) := hcW 2 (by simp [Nd.c])
    have d3 : W.cell? ⟨bc, 3, none⟩ = some (.slice oa3 l3.length cp3) := hcW 3 (by simp [Nd.c])
    have d4 : W.cell? ⟨bc, 4, none⟩ = some (.slice oa4 l4.length cp4) := hcW 4 (by simp [Nd.c])
    have d5 : W.cell? ⟨bc, 5, none⟩ = some (.slice oa5 l5.length cp5) := hcW 5 (by simp [Nd.c])
    have d6 : W.cell? ⟨bc, 6, none⟩ = some (.slice oa6 l6.length cp6) := hcW 6 (by simp [Nd.c])
    have d7 : W.cell? ⟨bc, 7, none⟩ = some (.slice oa7 l7.length cp7) := hcW 7 (by simp [Nd.c])
    have d8 : W.cell? ⟨bc, 8, none⟩ = some (.slice oa8 l8.length cp8) := hcW 8 (by simp [Nd.c])
    have d9 : W.cell? ⟨bc, 9, none⟩ = some (.int .i64 a9) := hcW 9 (by simp [Nd.c])
    rw [show (Nd.mk [.int .i64 a0, .string a1, .slice oa2 l2.length cp2, .slice oa3 l3.length cp3, .slice oa4 l4.length cp4, .slice oa5 l5.length cp5, .slice oa6 l6.length cp6, .slice oa7 l7.length cp7, .slice oa8 l8.length cp8, .int .i64 a9] [l2, l3, l4, l5, l6, l7, l8]).c.toArray = #[.int .i64 a0, .string a1, .slice oa2 l2.length cp2, .slice oa3 l3.length cp3, .slice oa4 l4.length cp4, .slice oa5 l5.length cp5, .slice oa6 l6.length cp6, .slice oa7 l7.length cp7, .slice oa8 l8.length cp8, .int .i64 a9] from rfl] at HWD
    clear hcW h2 h3 h4 h5 h6 h7 h8 q2 q3 q4 q5 q6 q7 q8
    refine callsIn_of_wp Try.func50 rfl trivial ?_ rfl
    simp only [Try.ntmps50, List.size_toArray, List.length_cons, List.length_nil, Nat.reduceAdd, Nat.reduceSub, Array.replicate_succ, Array.replicate_zero, List.push_toArray, List.append_toArray, List.nil_append, List.cons_append]
    gi_wp2
    refine ⟨trivial, ?_⟩
    refine ⟨fun h => (by cases h), ?_⟩
    refine (callsIn_wide.2 HWD.out).mono ?_
    rintro e W2 ⟨v2, rfl, ho2, hb2⟩
    obtain ⟨g, aw, cw', rfl, hg1, hg2, hg3, hcl⟩ := ho2.block (fun y hy => (one_word (HWW.out y hy)).1) hb2.size
    obtain ⟨mw, hmw⟩ : ∃ m, m = WD.length := ⟨_, rfl⟩
    have hmwl : mw ≤ 1048576 := by omega
    rw [← hmw] at hg2 hg3 ⊢
    have HMW := Lib.hid hmw
    have HCL := Lib.hid hcl
    have HJ2 : Hid (Jn J [] W2) := by
      obtain ⟨l', h1, h2⟩ := HJ0.out
      exact ⟨l', h1, abide HJA.out h2 hb2⟩
    have HB2 : Hid (Below W0.heap.size W0 W2) := HW0W.out.trans (hb2.mono HW0W.out.size)
    have hn02 : n0 ≤ W2.heap.size := Nat.le_trans hn0W hb2.size
    clear ho2 hb2 hcl hmw
    gi_wp2
    gi_loopw [8] (fun i wr => ∃ k : Nat, k ≤ mw ∧ i = .int .i64 k ∧ Hid (Jn J ((WD.take k).flatMap wparts) wr) ∧ Hid (KT T n0 W2 wr)) (fun i _ => mw - (intOf i).toNat)
    case atStart => exact ⟨0, Nat.zero_le _, rfl, by show Jn _ _ _; rw [List.take_zero, List.flatMap_nil]; exact HJ2.out, KT.refl _ _ _⟩
    case round =>
      obtain ⟨k, hk, rfl, hJk, hkt⟩ := hrel
      by_cases hlt : k < mw
      · have hkl : k < WD.length := by rw [← HMW.out]; exact hlt
        obtain ⟨haw, hgl, cur, hblk⟩ := hg2 (by omega)
        subst haw
        have hwf := HWW.out WD[k] (List.getElem_mem hkl)
        have hle := HLE.out WD[k] (List.getElem_mem hkl)
        have hat := HCL.out k hkl 0 (by decide)
        have hsn := fm_snoc wparts WD k hkl
        have hpl := fm_take_len wparts WD (k + 1)
        have hpx := fm_prefix wparts WD (k + 1)
        obtain ⟨y, hy⟩ : ∃ y, y = WD[k] := ⟨_, rfl⟩
        rw [← hy] at hwf hle hat hsn
        clear hy
        cases hwf with
        | word b0 k0 g0 r0 =>
          obtain ⟨p0, c0, rfl⟩ := g0.form
          have hle' : Wl k0 ≤ M := hle
          have hwp : wparts (.mk [.slice p0 k0.length c0] [k0]) = k0.flatMap pp := rfl
          rw [hwp] at hsn
          have d0 : wr.cell? ⟨g, k, none⟩ = some (.slice p0 k0.length c0) := by
            have h1 := hkt.out.boxcell hblk hT2 k
            rw [h1]
            have h2 := hat
            simp only [Nat.mul_one, Nat.add_zero] at h2
            exact h2
          have hwz : n0 ≤ wr.heap.size := Nat.le_trans hn02 hkt.out.below.size
          obtain ⟨V, hV⟩ : ∃ V, V = wr.alloc (Obj.cells #[.slice p0 k0.length c0] 67) := ⟨_, rfl⟩
          have hbV : Below wr.heap.size wr V := hV ▸ (Below.refl _ _).alloc (Nat.le_refl _) _
          have hJV : Jn J ((WD.take k).flatMap wparts) V := by
            obtain ⟨l', h1, h2⟩ := hJk.out
            exact ⟨l', h1, abide HJA.out h2 hbV⟩
          have hKV : KT T n0 W2 V := hkt.out.trans (KT.quiet hwz hbV)
          have HC := Lib.hid (HPA.out (Wl k0) (d - 1) k0 (.slice p0 k0.length c0) ((WD.take k).flatMap wparts) V (Nat.le_refl _) hle' r0 g0 (HB2.out.trans (hKV.below.mono hn0)) (Nat.le_trans hn02 hKV.below.size) hJV (by rw [hsn] at hpl; rw [HOP.out]; simp only [List.length_append] at hpl ⊢; omega))
          have HKV := Lib.hid hKV
          have HSN := Lib.hid hsn
          have HPX := Lib.hid hpx
          have hgr : g < wr.heap.size := Nat.lt_of_lt_of_le hgl hkt.out.below.size
          clear hat hle hle' hwp g0 r0 hbV hJV hKV hsn hpl hpx
          gi_wp2
          rw [← hV]
          refine ⟨trivial, fun h => (by cases h), ?_⟩
          refine HC.out.mono ?_
          rintro e W5 (⟨rfl, hJ5, hk5⟩ | ⟨rfl, q, hq, hx5⟩)
          · have HK5 := Lib.hid (HKV.out.trans hk5)
            have HJ5 : Hid (Jn J ((WD.take (k + 1)).flatMap wparts) W5) := by
              show Jn _ _ _
              rw [HSN.out]
              exact hJ5
            clear hk5 hJ5
            gi_wp2
            go_roundw
            case rel => exact ⟨k + 1, by omega, by go_num, HJ5.out, HK5.out⟩
            case measure => simp [intOf]; omega
          · gi_wp2
            refine bodyPost_ret (results_none rfl _ _ _) rfl ?_
            obtain ⟨l', h1, h2⟩ := hx5
            refine ⟨⟨_, rfl⟩, .inr ⟨l', ?_, h2⟩⟩
            rw [h1, HOP.out]
            refine List.IsPrefix.trans ?_ HPX.out
            rw [HSN.out]
            obtain ⟨r, hr⟩ := hq
            exact ⟨r, by rw [← hr]; simp⟩
      · obtain rfl : k = mw := by omega
        gi_wp2
        go_end0
        obtain ⟨l', h1, h2⟩ := hJk.out
        refine ⟨⟨_, rfl⟩, .inl ⟨l', ?_, h2⟩⟩
        rw [h1, List.take_of_length_le (by rw [HMW.out]; exact Nat.le_refl _), HOP.out]
end Go.Proofs.Ytihbdacmgojapaa

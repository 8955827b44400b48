/- A command as it lies in memory, out of its reading; conditions: as each theorem states. -/
import Derived.Test.YtihbdacmgojapaaDa
import Derived.Test.YtihbdacmgojapaaRows
import Derived.Below
import Derived.ProofKit
import Derived.ChangeArms
import Derived.DataReads
import Derived.OpenShut
namespace Go.Proofs.Ytihbdacmgojapaa
open Go.RowKit Go.ChangeShapes Go.WideShapes

inductive Sh where
  | sum
  | part
  | word
  | redir
  | assign
  | cond
  | case
  | cmd
/-- Where a slice of structs of k cells lies, and what its cells are. -/
def SlA (w : World) (k : Nat) (v : Value) (cs : List (List Value)) : Prop := ∃ ao b o cap, v = .slice ao cs.length cap ∧ cs.length ≤ cap ∧ (ao = none → cap = 0) ∧ (0 < cs.length → ao = some ⟨b, o, none⟩) ∧ (0 < cs.length → b < w.heap.size) ∧
  ∀ j (h : j < cs.length), cs[j].length = k ∧ ∀ i, i < k → w.cell? ⟨b, o + j * k + i, none⟩ = cs[j][i]?
theorem SlA.same {w w' : World} {k : Nat} {v : Value} {cs : List (List Value)} (h : SlA w k v cs) (hz : w.heap.size ≤ w'.heap.size) (hc : ∀ x, x < w.heap.size → ∀ o, w'.cell? ⟨x, o, none⟩ = w.cell? ⟨x, o, none⟩) : SlA w' k v cs := by
  obtain ⟨ao, b, o, cap, h1, h2, h0, h3, h4, h5⟩ := h
  exact ⟨ao, b, o, cap, h1, h2, h0, h3, fun h => Nat.lt_of_lt_of_le (h4 h) hz, fun j hj => ⟨(h5 j hj).1, fun i hi => (hc b (h4 (by omega)) _).trans ((h5 j hj).2 i hi)⟩⟩
theorem SlA.below {w w' : World} {n k : Nat} {v : Value} {cs : List (List Value)} (h : SlA w k v cs) (hn : w.heap.size ≤ n) (hb : Below n w w') : SlA w' k v cs :=
  h.same hb.size fun x hx o => hb.cell (p := ⟨x, o, none⟩) (by show x < n; omega)
/-- What stands where. -/
inductive Wf (w : World) : Sh → Nd → Prop
  | sum (a0 : ByteArray) (a1 : ByteArray) (a2 : Int) (a3 : Value) (l3 : List Nd) : SlA w 4 a3 (l3.map Nd.c) → (∀ y ∈ l3, Wf w .sum y) → Wf w .sum (.mk [.string a0, .string a1, .int .i64 a2, a3] [l3])
  | part (a0 : Int) (a1 : ByteArray) (a2 : ByteArray) (a3 : ByteArray) (a4 : Bool) (a5 : Value) (l5 : List Nd) (a6 : Value) (l6 : List Nd) (a7 : Value) (l7 : List Nd) (a8 : Value) (l8 : List Nd) (a9 : Int) : SlA w 10 a5 (l5.map Nd.c) → (∀ y ∈ l5, Wf w .part y) → SlA w 10 a6 (l6.map Nd.c) → (∀ y ∈ l6, Wf w .part y) → SlA w 4 a7 (l7.map Nd.c) → (∀ y ∈ l7, Wf w .sum y) → SlA w 10 a8 (l8.map Nd.c) → (∀ y ∈ l8, Wf w .cmd y) → Wf w .part (.mk [.int .i64 a0, .string a1, .string a2, .string a3, .bool a4, a5, a6, a7, a8, .int .i64 a9] [l5, l6, l7, l8])
  | word (a0 : Value) (l0 : List Nd) : SlA w 10 a0 (l0.map Nd.c) → (∀ y ∈ l0, Wf w .part y) → Wf w .word (.mk [a0] [l0])
  | redir (a0 : Int) (a1 : ByteArray) (a2 : Value) (l2 : List Nd) : SlA w 10 a2 (l2.map Nd.c) → (∀ y ∈ l2, Wf w .part y) → Wf w .redir (.mk [.int .i64 a0, .string a1, a2] [l2])
  | assign (a0 : ByteArray) (a1 : ByteArray) (a2 : Value) (l2 : List Nd) (a3 : Value) (l3 : List Nd) (a4 : Bool) (a5 : Value) (l5 : List Nd) : SlA w 10 a2 (l2.map Nd.c) → (∀ y ∈ l2, Wf w .part y) → SlA w 4 a3 (l3.map Nd.c) → (∀ y ∈ l3, Wf w .sum y) → SlA w 1 a5 (l5.map Nd.c) → (∀ y ∈ l5, Wf w .word y) → Wf w .assign (.mk [.string a0, .string a1, a2, a3, .bool a4, a5] [l2, l3, l5])
  | cond (a0 : ByteArray) (a1 : Value) (l1 : List Nd) (a2 : Value) (l2 : List Nd) : SlA w 1 a1 (l1.map Nd.c) → (∀ y ∈ l1, Wf w .word y) → SlA w 3 a2 (l2.map Nd.c) → (∀ y ∈ l2, Wf w .cond y) → Wf w .cond (.mk [.string a0, a1, a2] [l1, l2])
  | case (a0 : Value) (l0 : List Nd) (b1 : Nd) : SlA w 1 a0 (l0.map Nd.c) → (∀ y ∈ l0, Wf w .word y) → Wf w .cmd b1 → Wf w .case (.mk (a0 :: b1.c) [l0, [b1]])
  | cmd (a0 : Int) (a1 : ByteArray) (a2 : Value) (l2 : List Nd) (a3 : Value) (l3 : List Nd) (a4 : Value) (l4 : List Nd) (a5 : Value) (l5 : List Nd) (a6 : Value) (l6 : List Nd) (a7 : Value) (l7 : List Nd) (a8 : Value) (l8 : List Nd) (a9 : Int) : SlA w 1 a2 (l2.map Nd.c) → (∀ y ∈ l2, Wf w .word y) → SlA w 6 a3 (l3.map Nd.c) → (∀ y ∈ l3, Wf w .assign y) → SlA w 3 a4 (l4.map Nd.c) → (∀ y ∈ l4, Wf w .redir y) → SlA w 10 a5 (l5.map Nd.c) → (∀ y ∈ l5, Wf w .cmd y) → SlA w 11 a6 (l6.map Nd.c) → (∀ y ∈ l6, Wf w .case y) → SlA w 3 a7 (l7.map Nd.c) → (∀ y ∈ l7, Wf w .cond y) → SlA w 4 a8 (l8.map Nd.c) → (∀ y ∈ l8, Wf w .sum y) → Wf w .cmd (.mk [.int .i64 a0, .string a1, a2, a3, a4, a5, a6, a7, a8, .int .i64 a9] [l2, l3, l4, l5, l6, l7, l8])
def tyOf : Sh → TypeId
  | .sum => 100
  | .part => 92
  | .word => 67
  | .redir => 89
  | .assign => 87
  | .cond => 103
  | .case => 62
  | .cmd => 48
def slOf : Sh → TypeId
  | .sum => 46
  | .part => 65
  | .word => 40
  | .redir => 42
  | .assign => 41
  | .cond => 45
  | .case => 44
  | .cmd => 43
def szOf : Sh → Nat
  | .sum => 4
  | .part => 10
  | .word => 1
  | .redir => 3
  | .assign => 6
  | .cond => 3
  | .case => 11
  | .cmd => 10
theorem vsz_int (k : IntKind) (n : Int) : vsz (.int k n) = 0 := rfl
theorem vsz_str (s : ByteArray) : vsz (.string s) = s.size := rfl
theorem vsz_bool (b : Bool) : vsz (.bool b) = 0 := rfl
theorem bulk_pos {H : Type} (d : DataW H) : 1 ≤ Rows.uptoBulk d := by
  cases d with
  | lit l => cases l <;> simp [Rows.uptoBulk]
  | _ => simp [Rows.uptoBulk]
set_option maxRecDepth 100000 in
theorem cl_sum : Try.prog.cellsOf 100 = 4 := by kernel_rfl
set_option maxRecDepth 100000 in
theorem cl_part : Try.prog.cellsOf 92 = 10 := by kernel_rfl
set_option maxRecDepth 100000 in
theorem cl_word : Try.prog.cellsOf 67 = 1 := by kernel_rfl
set_option maxRecDepth 100000 in
theorem cl_redir : Try.prog.cellsOf 89 = 3 := by kernel_rfl
set_option maxRecDepth 100000 in
theorem cl_assign : Try.prog.cellsOf 87 = 6 := by kernel_rfl
set_option maxRecDepth 100000 in
theorem cl_cond : Try.prog.cellsOf 103 = 3 := by kernel_rfl
set_option maxRecDepth 100000 in
theorem cl_case : Try.prog.cellsOf 62 = 11 := by kernel_rfl
set_option maxRecDepth 100000 in
theorem cl_cmd : Try.prog.cellsOf 48 = 10 := by kernel_rfl
set_option maxRecDepth 100000 in
theorem ct_int : Try.prog.cellsOf 3 = 1 := by kernel_rfl
set_option maxRecDepth 100000 in
theorem ct_str : Try.prog.cellsOf 9 = 1 := by kernel_rfl
set_option maxRecDepth 100000 in
theorem ct_bool : Try.prog.cellsOf 4 = 1 := by kernel_rfl
set_option maxRecDepth 100000 in
theorem ct_l46 : Try.prog.cellsOf 46 = 1 := by kernel_rfl
set_option maxRecDepth 100000 in
theorem ct_l65 : Try.prog.cellsOf 65 = 1 := by kernel_rfl
set_option maxRecDepth 100000 in
theorem ct_l40 : Try.prog.cellsOf 40 = 1 := by kernel_rfl
set_option maxRecDepth 100000 in
theorem ct_l41 : Try.prog.cellsOf 41 = 1 := by kernel_rfl
set_option maxRecDepth 100000 in
theorem ct_l42 : Try.prog.cellsOf 42 = 1 := by kernel_rfl
set_option maxRecDepth 100000 in
theorem ct_l43 : Try.prog.cellsOf 43 = 1 := by kernel_rfl
set_option maxRecDepth 100000 in
theorem ct_l44 : Try.prog.cellsOf 44 = 1 := by kernel_rfl
set_option maxRecDepth 100000 in
theorem ct_l45 : Try.prog.cellsOf 45 = 1 := by kernel_rfl
variable {H : Type} {enc : TypeId × Value → H} {W : World}
/-- A reading as a command's argument is read. -/
abbrev Rd (enc : TypeId × Value → H) (W : World) (fuel : Nat) (t : TypeId) (cs : List Value) (x : DataW H × List MemPlace) : Prop := DataW.trod enc Try.prog W 0 (fun _ => true) true fuel t cs = some x
theorem rd_int {n : Nat} {a : Value} {x : DataW H × List MemPlace} (h : Rd enc W n 3 [a] x) : ∃ k, a = .int .i64 k := by
  obtain ⟨k, h1, _⟩ := DataW.trod_int Try.underlying3 h
  exact ⟨k, by simpa using h1⟩
theorem rd_str {n : Nat} {a : Value} {x : DataW H × List MemPlace} (h : Rd enc W n 9 [a] x) : ∃ s : ByteArray, a = .string s ∧ Rows.uptoBulk x.1 = s.size + 1 := by
  obtain ⟨s, h1, rfl, _⟩ := DataW.trod_string Try.underlying9 h
  exact ⟨s, by simpa using h1, by rw [Rows.uptoBulk, Array.length_toList]; rfl⟩
theorem rd_bool {n : Nat} {a : Value} {x : DataW H × List MemPlace} (h : Rd enc W n 4 [a] x) : ∃ k, a = .bool k := by
  obtain ⟨k, h1, _⟩ := DataW.trod_bool Try.underlying4 h
  exact ⟨k, by simpa using h1⟩
/-- What is known of readings of less fuel. -/
abbrev Known (enc : TypeId × Value → H) (W : World) (sh : Sh) (m : Nat) : Prop := ∀ n, n < m → ∀ cs x, Rd enc W n (tyOf sh) cs x → ∃ nd, nd.c = cs ∧ Wf W sh nd ∧ wt nd ≤ Rows.uptoBulk x.1
theorem bulk_all {H : Type} : ∀ (l : List Nd) (es : List (DataW H × List MemPlace)), l.length = es.length → (∀ i (h : i < l.length) (h' : i < es.length), wt l[i] ≤ Rows.uptoBulk es[i].1) → Wl l ≤ Rows.uptoBulkAll (es.map (·.1))
  | [], [], _, _ => Nat.zero_le _
  | a :: l, e :: es, hl, h => by
    have h0 := h 0 (by simp) (by simp)
    have h1 := bulk_all l es (by simpa using hl) fun i hi hi' => h (i + 1) (by simpa using hi) (by simpa using hi')
    rw [Wl_cons, List.map_cons, Rows.uptoBulkAll]
    simp at h0
    omega
theorem rd_list {sh : Sh} {k m fuel : Nat} {t : TypeId} {a : Value} {x : DataW H × List MemPlace} (ht : Try.prog.underlying t = some (.slice (tyOf sh))) (hk : Try.prog.cellsOf (tyOf sh) = k) (hk0 : 0 < k) (IH : Known enc W sh m) (hm : fuel ≤ m)
    (h : Rd enc W fuel t [a] x) : ∃ l : List Nd, SlA W k a (l.map Nd.c) ∧ (∀ y ∈ l, Wf W sh y) ∧ Wl l + 1 ≤ Rows.uptoBulk x.1 := by
  rcases DataW.trod_slice ht h with ⟨hcs, rfl⟩ | ⟨ad, len, cap, elems, rest, n, rfl, hcs, rfl, hb, hl, hmx, hlen, hel, hsp, hns⟩
  · have : a = .slice none 0 0 := by simpa using hcs
    subst this
    exact ⟨[], ⟨none, 0, 0, 0, rfl, Nat.le_refl _, fun _ => rfl, fun h => by simp at h, fun h => by simp at h, fun j hj => by simp at hj⟩, fun y hy => by simp at hy, by simp [Wl, Rows.uptoBulk]⟩
  · have : a = .slice (some ad) len cap := by simpa using hcs
    subst this
    have hall : ∀ i, i < len → ∃ nd : Nd, Wf W sh nd ∧ nd.c.length = k ∧ (∀ j, j < k → W.cell? ((ad.add (i * k)).add j) = nd.c[j]?) ∧ ∀ hi : i < elems.length, wt nd ≤ Rows.uptoBulk elems[i].1 := by
      intro i hi
      have h1 := hel i hi
      rw [List.getElem?_eq_getElem (by omega)] at h1
      obtain ⟨cs', hc1, hc2⟩ := Option.bind_eq_some_iff.1 h1
      rw [hk] at hc1
      obtain ⟨_, hcl, hat⟩ := World.cells?_some hc1
      obtain ⟨nd, rfl, h3, h4⟩ := IH n (by omega) cs' _ hc2
      exact ⟨nd, h3, hcl, hat, fun _ => h4⟩
    let f : Nat → Nd := fun i => if h : i < len then (hall i h).choose else .mk [] []
    have hf : ∀ i, i < len → Wf W sh (f i) ∧ (f i).c.length = k ∧ (∀ j, j < k → W.cell? ((ad.add (i * k)).add j) = (f i).c[j]?) ∧ ∀ hi : i < elems.length, wt (f i) ≤ Rows.uptoBulk elems[i].1 := by
      intro i hi
      have := (hall i hi).choose_spec
      simp only [f, dif_pos hi]
      exact this
    obtain ⟨b, o, sp⟩ := ad
    have hsp0 : 0 < len → sp = none := fun h0 => by
      obtain ⟨_, h2, h3, _⟩ := hf 0 h0
      have h4 := h3 0 hk0
      rw [List.getElem?_eq_getElem (by omega)] at h4
      have := World.cell?_spot h4
      simpa [Addr.add] using this
    refine ⟨(List.range len).map f, ⟨some ⟨b, o, sp⟩, b, o, cap, by simp, by simpa using hl, fun h => by simp at h, fun h0 => ?_, fun h0 => ?_, fun j hj => ?_⟩, fun y hy => ?_, ?_⟩
    · simp at h0
      rw [hsp0 h0]
    · simp at h0
      obtain ⟨_, h2, h3, _⟩ := hf 0 h0
      have h4 := h3 0 hk0
      rw [hsp0 h0, Addr.add_lit, Addr.add_lit, List.getElem?_eq_getElem (by omega)] at h4
      exact World.block_lt_of_cell? W _ h4
    · have hj' : j < len := by simpa using hj
      obtain ⟨_, h2, h3, _⟩ := hf j hj'
      simp only [List.getElem_map, List.getElem_range]
      refine ⟨h2, fun i hi => ?_⟩
      have h4 := h3 i hi
      rw [hsp0 (by omega), Addr.add_lit, Addr.add_lit] at h4
      exact h4
    · obtain ⟨i, hi, rfl⟩ := List.mem_map.1 hy
      exact (hf i (List.mem_range.1 hi)).1
    · rw [Rows.uptoBulk]
      have := bulk_all ((List.range len).map f) elems (by simp [hlen]) fun i hi hi' => by
        simp only [List.getElem_map, List.getElem_range]
        exact (hf i (by simpa using hi)).2.2.2 hi'
      omega
theorem rd_wfield {m fuel : Nat} {a : Value} {x : DataW H × List MemPlace} (IH : Known enc W .part m) (hm : fuel ≤ m + 1) (h : Rd enc W fuel 67 [a] x) : ∃ l : List Nd, SlA W 10 a (l.map Nd.c) ∧ (∀ y ∈ l, Wf W .part y) ∧ Wl l + 1 ≤ Rows.uptoBulk x.1 := by
  obtain ⟨xs, n, rfl, rfl, _, hxl, hf⟩ := DataW.trod_struct Try.underlying67 h
  match xs, hxl with
  | [y0], _ =>
    have h0 : Rd enc W n 65 [a] y0 := by
      have h0 : DataW.trod enc Try.prog W 0 (fun _ => true) true n 65 (([a].drop 0).take (Try.prog.cellsOf 65)) = [y0][0]? := hf 0 _ rfl
      rw [ct_l65] at h0
      exact h0
    obtain ⟨l, h1, h2, h3⟩ := rd_list (sh := .part) Try.underlying65 cl_part (by decide) IH (by omega) h0
    refine ⟨l, h1, h2, ?_⟩
    simp only [List.map_cons, List.map_nil, Rows.uptoBulk, Rows.uptoBulkAll]
    omega
set_option maxRecDepth 100000 in
theorem rd_sum {m fuel : Nat} {cs : List Value} {x : DataW H × List MemPlace} (I_sum : Known enc W .sum m) (hm : fuel ≤ m) (h : Rd enc W fuel 100 cs x) : ∃ nd, nd.c = cs ∧ Wf W .sum nd ∧ wt nd ≤ Rows.uptoBulk x.1 := by
  obtain ⟨xs, n, rfl, rfl, hcl, hxl, hf⟩ := DataW.trod_struct Try.underlying100 h
  rw [cl_sum] at hcl
  match cs, hcl, xs, hxl with
  | [c0, c1, c2, c3], _, [y0, y1, y2, y3], _ =>
    have h0 : Rd enc W n 9 [c0] y0 := by
      have h0 : DataW.trod enc Try.prog W 0 (fun _ => true) true n 9 (([c0, c1, c2, c3].drop 0).take (Try.prog.cellsOf 9)) = [y0, y1, y2, y3][0]? := hf 0 _ rfl
      rw [ct_str] at h0
      exact h0
    have h1 : Rd enc W n 9 [c1] y1 := by
      have h0 : DataW.trod enc Try.prog W 0 (fun _ => true) true n 9 (([c0, c1, c2, c3].drop 1).take (Try.prog.cellsOf 9)) = [y0, y1, y2, y3][1]? := hf 1 _ rfl
      rw [ct_str] at h0
      exact h0
    have h2 : Rd enc W n 3 [c2] y2 := by
      have h0 : DataW.trod enc Try.prog W 0 (fun _ => true) true n 3 (([c0, c1, c2, c3].drop 2).take (Try.prog.cellsOf 3)) = [y0, y1, y2, y3][2]? := hf 2 _ rfl
      rw [ct_int] at h0
      exact h0
    have h3 : Rd enc W n 46 [c3] y3 := by
      have h0 : DataW.trod enc Try.prog W 0 (fun _ => true) true n 46 (([c0, c1, c2, c3].drop 3).take (Try.prog.cellsOf 46)) = [y0, y1, y2, y3][3]? := hf 3 _ rfl
      rw [ct_l46] at h0
      exact h0
    obtain ⟨k0, rfl, z0⟩ := rd_str h0
    obtain ⟨k1, rfl, z1⟩ := rd_str h1
    obtain ⟨k2, rfl⟩ := rd_int h2
    have z2 := bulk_pos y2.1
    obtain ⟨l3, p3, q3, z3⟩ := rd_list (sh := .sum) Try.underlying46 cl_sum (by decide) I_sum (by omega) h3
    refine ⟨_, rfl, .sum k0 k1 k2 c3 l3 p3 q3, ?_⟩
    rw [wt_mk]
    have v3 : vsz c3 = 0 := by
      obtain ⟨_, _, _, _, e, _⟩ := p3
      rw [e]
      rfl
    simp only [cz, List.length_cons, List.length_nil, List.map_cons, List.map_nil, List.sum_cons, List.sum_nil, Rows.uptoBulk, Rows.uptoBulkAll, vsz_int, vsz_str, v3]
    split <;> omega
set_option maxRecDepth 100000 in
theorem rd_part {m fuel : Nat} {cs : List Value} {x : DataW H × List MemPlace} (I_cmd : Known enc W .cmd m) (I_part : Known enc W .part m) (I_sum : Known enc W .sum m) (hm : fuel ≤ m) (h : Rd enc W fuel 92 cs x) : ∃ nd, nd.c = cs ∧ Wf W .part nd ∧ wt nd ≤ Rows.uptoBulk x.1 := by
  obtain ⟨xs, n, rfl, rfl, hcl, hxl, hf⟩ := DataW.trod_struct Try.underlying92 h
  rw [cl_part] at hcl
  match cs, hcl, xs, hxl with
  | [c0, c1, c2, c3, c4, c5, c6, c7, c8, c9], _, [y0, y1, y2, y3, y4, y5, y6, y7, y8, y9], _ =>
    have h0 : Rd enc W n 3 [c0] y0 := by
      have h0 : DataW.trod enc Try.prog W 0 (fun _ => true) true n 3 (([c0, c1, c2, c3, c4, c5, c6, c7, c8, c9].drop 0).take (Try.prog.cellsOf 3)) = [y0, y1, y2, y3, y4, y5, y6, y7, y8, y9][0]? := hf 0 _ rfl
      rw [ct_int] at h0
      exact h0
    have h1 : Rd enc W n 9 [c1] y1 := by
      have h0 : DataW.trod enc Try.prog W 0 (fun _ => true) true n 9 (([c0, c1, c2, c3, c4, c5, c6, c7, c8, c9].drop 1).take (Try.prog.cellsOf 9)) = [y0, y1, y2, y3, y4, y5, y6, y7, y8, y9][1]? := hf 1 _ rfl
      rw [ct_str] at h0
      exact h0
    have h2 : Rd enc W n 9 [c2] y2 := by
      have h0 : DataW.trod enc Try.prog W 0 (fun _ => true) true n 9 (([c0, c1, c2, c3, c4, c5, c6, c7, c8, c9].drop 2).take (Try.prog.cellsOf 9)) = [y0, y1, y2, y3, y4, y5, y6, y7, y8, y9][2]? := hf 2 _ rfl
      rw [ct_str] at h0
      exact h0
    have h3 : Rd enc W n 9 [c3] y3 := by
      have h0 : DataW.trod enc Try.prog W 0 (fun _ => true) true n 9 (([c0, c1, c2, c3, c4, c5, c6, c7, c8, c9].drop 3).take (Try.prog.cellsOf 9)) = [y0, y1, y2, y3, y4, y5, y6, y7, y8, y9][3]? := hf 3 _ rfl
      rw [ct_str] at h0
      exact h0
    have h4 : Rd enc W n 4 [c4] y4 := by
      have h0 : DataW.trod enc Try.prog W 0 (fun _ => true) true n 4 (([c0, c1, c2, c3, c4, c5, c6, c7, c8, c9].drop 4).take (Try.prog.cellsOf 4)) = [y0, y1, y2, y3, y4, y5, y6, y7, y8, y9][4]? := hf 4 _ rfl
      rw [ct_bool] at h0
      exact h0
    have h5 : Rd enc W n 65 [c5] y5 := by
      have h0 : DataW.trod enc Try.prog W 0 (fun _ => true) true n 65 (([c0, c1, c2, c3, c4, c5, c6, c7, c8, c9].drop 5).take (Try.prog.cellsOf 65)) = [y0, y1, y2, y3, y4, y5, y6, y7, y8, y9][5]? := hf 5 _ rfl
      rw [ct_l65] at h0
      exact h0
    have h6 : Rd enc W n 65 [c6] y6 := by
      have h0 : DataW.trod enc Try.prog W 0 (fun _ => true) true n 65 (([c0, c1, c2, c3, c4, c5, c6, c7, c8, c9].drop 6).take (Try.prog.cellsOf 65)) = [y0, y1, y2, y3, y4, y5, y6, y7, y8, y9][6]? := hf 6 _ rfl
      rw [ct_l65] at h0
      exact h0
    have h7 : Rd enc W n 46 [c7] y7 := by
      have h0 : DataW.trod enc Try.prog W 0 (fun _ => true) true n 46 (([c0, c1, c2, c3, c4, c5, c6, c7, c8, c9].drop 7).take (Try.prog.cellsOf 46)) = [y0, y1, y2, y3, y4, y5, y6, y7, y8, y9][7]? := hf 7 _ rfl
      rw [ct_l46] at h0
      exact h0
    have h8 : Rd enc W n 43 [c8] y8 := by
      have h0 : DataW.trod enc Try.prog W 0 (fun _ => true) true n 43 (([c0, c1, c2, c3, c4, c5, c6, c7, c8, c9].drop 8).take (Try.prog.cellsOf 43)) = [y0, y1, y2, y3, y4, y5, y6, y7, y8, y9][8]? := hf 8 _ rfl
      rw [ct_l43] at h0
      exact h0
    have h9 : Rd enc W n 3 [c9] y9 := by
      have h0 : DataW.trod enc Try.prog W 0 (fun _ => true) true n 3 (([c0, c1, c2, c3, c4, c5, c6, c7, c8, c9].drop 9).take (Try.prog.cellsOf 3)) = [y0, y1, y2, y3, y4, y5, y6, y7, y8, y9][9]? := hf 9 _ rfl
      rw [ct_int] at h0
      exact h0
    obtain ⟨k0, rfl⟩ := rd_int h0
    have z0 := bulk_pos y0.1
    obtain ⟨k1, rfl, z1⟩ := rd_str h1
    obtain ⟨k2, rfl, z2⟩ := rd_str h2
    obtain ⟨k3, rfl, z3⟩ := rd_str h3
    obtain ⟨k4, rfl⟩ := rd_bool h4
    have z4 := bulk_pos y4.1
    obtain ⟨l5, p5, q5, z5⟩ := rd_list (sh := .part) Try.underlying65 cl_part (by decide) I_part (by omega) h5
    obtain ⟨l6, p6, q6, z6⟩ := rd_list (sh := .part) Try.underlying65 cl_part (by decide) I_part (by omega) h6
    obtain ⟨l7, p7, q7, z7⟩ := rd_list (sh := .sum) Try.underlying46 cl_sum (by decide) I_sum (by omega) h7
    obtain ⟨l8, p8, q8, z8⟩ := rd_list (sh := .cmd) Try.underlying43 cl_cmd (by decide) I_cmd (by omega) h8
    obtain ⟨k9, rfl⟩ := rd_int h9
    have z9 := bulk_pos y9.1
    refine ⟨_, rfl, .part k0 k1 k2 k3 k4 c5 l5 c6 l6 c7 l7 c8 l8 k9 p5 q5 p6 q6 p7 q7 p8 q8, ?_⟩
    rw [wt_mk]
    have v5 : vsz c5 = 0 := by
      obtain ⟨_, _, _, _, e, _⟩ := p5
      rw [e]
      rfl
    have v6 : vsz c6 = 0 := by
      obtain ⟨_, _, _, _, e, _⟩ := p6
      rw [e]
      rfl
    have v7 : vsz c7 = 0 := by
      obtain ⟨_, _, _, _, e, _⟩ := p7
      rw [e]
      rfl
    have v8 : vsz c8 = 0 := by
      obtain ⟨_, _, _, _, e, _⟩ := p8
      rw [e]
      rfl
    simp only [cz, List.length_cons, List.length_nil, List.map_cons, List.map_nil, List.sum_cons, List.sum_nil, Rows.uptoBulk, Rows.uptoBulkAll, vsz_int, vsz_str, vsz_bool, v5, v6, v7, v8]
    split <;> omega
set_option maxRecDepth 100000 in
theorem rd_word {m fuel : Nat} {cs : List Value} {x : DataW H × List MemPlace} (I_part : Known enc W .part m) (hm : fuel ≤ m) (h : Rd enc W fuel 67 cs x) : ∃ nd, nd.c = cs ∧ Wf W .word nd ∧ wt nd ≤ Rows.uptoBulk x.1 := by
  obtain ⟨xs, n, rfl, rfl, hcl, hxl, hf⟩ := DataW.trod_struct Try.underlying67 h
  rw [cl_word] at hcl
  match cs, hcl, xs, hxl with
  | [c0], _, [y0], _ =>
    have h0 : Rd enc W n 65 [c0] y0 := by
      have h0 : DataW.trod enc Try.prog W 0 (fun _ => true) true n 65 (([c0].drop 0).take (Try.prog.cellsOf 65)) = [y0][0]? := hf 0 _ rfl
      rw [ct_l65] at h0
      exact h0
    obtain ⟨l0, p0, q0, z0⟩ := rd_list (sh := .part) Try.underlying65 cl_part (by decide) I_part (by omega) h0
    refine ⟨_, rfl, .word c0 l0 p0 q0, ?_⟩
    rw [wt_mk]
    have v0 : vsz c0 = 0 := by
      obtain ⟨_, _, _, _, e, _⟩ := p0
      rw [e]
      rfl
    simp only [cz, List.length_cons, List.length_nil, List.map_cons, List.map_nil, List.sum_cons, List.sum_nil, Rows.uptoBulk, Rows.uptoBulkAll, v0]
    split <;> omega
set_option maxRecDepth 100000 in
theorem rd_redir {m fuel : Nat} {cs : List Value} {x : DataW H × List MemPlace} (I_part : Known enc W .part m) (hm : fuel ≤ m) (h : Rd enc W fuel 89 cs x) : ∃ nd, nd.c = cs ∧ Wf W .redir nd ∧ wt nd ≤ Rows.uptoBulk x.1 := by
  obtain ⟨xs, n, rfl, rfl, hcl, hxl, hf⟩ := DataW.trod_struct Try.underlying89 h
  rw [cl_redir] at hcl
  match cs, hcl, xs, hxl with
  | [c0, c1, c2], _, [y0, y1, y2], _ =>
    have h0 : Rd enc W n 3 [c0] y0 := by
      have h0 : DataW.trod enc Try.prog W 0 (fun _ => true) true n 3 (([c0, c1, c2].drop 0).take (Try.prog.cellsOf 3)) = [y0, y1, y2][0]? := hf 0 _ rfl
      rw [ct_int] at h0
      exact h0
    have h1 : Rd enc W n 9 [c1] y1 := by
      have h0 : DataW.trod enc Try.prog W 0 (fun _ => true) true n 9 (([c0, c1, c2].drop 1).take (Try.prog.cellsOf 9)) = [y0, y1, y2][1]? := hf 1 _ rfl
      rw [ct_str] at h0
      exact h0
    have h2 : Rd enc W n 67 [c2] y2 := by
      have h0 : DataW.trod enc Try.prog W 0 (fun _ => true) true n 67 (([c0, c1, c2].drop 2).take (Try.prog.cellsOf 67)) = [y0, y1, y2][2]? := hf 2 _ rfl
      rw [cl_word] at h0
      exact h0
    obtain ⟨k0, rfl⟩ := rd_int h0
    have z0 := bulk_pos y0.1
    obtain ⟨k1, rfl, z1⟩ := rd_str h1
    obtain ⟨l2, p2, q2, z2⟩ := rd_wfield I_part (by omega) h2
    refine ⟨_, rfl, .redir k0 k1 c2 l2 p2 q2, ?_⟩
    rw [wt_mk]
    have v2 : vsz c2 = 0 := by
      obtain ⟨_, _, _, _, e, _⟩ := p2
      rw [e]
      rfl
    simp only [cz, List.length_cons, List.length_nil, List.map_cons, List.map_nil, List.sum_cons, List.sum_nil, Rows.uptoBulk, Rows.uptoBulkAll, vsz_int, vsz_str, v2]
    split <;> omega
set_option maxRecDepth 100000 in
theorem rd_assign {m fuel : Nat} {cs : List Value} {x : DataW H × List MemPlace} (I_part : Known enc W .part m) (I_sum : Known enc W .sum m) (I_word : Known enc W .word m) (hm : fuel ≤ m) (h : Rd enc W fuel 87 cs x) : ∃ nd, nd.c = cs ∧ Wf W .assign nd ∧ wt nd ≤ Rows.uptoBulk x.1 := by
  obtain ⟨xs, n, rfl, rfl, hcl, hxl, hf⟩ := DataW.trod_struct Try.underlying87 h
  rw [cl_assign] at hcl
  match cs, hcl, xs, hxl with
  | [c0, c1, c2, c3, c4, c5], _, [y0, y1, y2, y3, y4, y5], _ =>
    have h0 : Rd enc W n 9 [c0] y0 := by
      have h0 : DataW.trod enc Try.prog W 0 (fun _ => true) true n 9 (([c0, c1, c2, c3, c4, c5].drop 0).take (Try.prog.cellsOf 9)) = [y0, y1, y2, y3, y4, y5][0]? := hf 0 _ rfl
      rw [ct_str] at h0
      exact h0
    have h1 : Rd enc W n 9 [c1] y1 := by
      have h0 : DataW.trod enc Try.prog W 0 (fun _ => true) true n 9 (([c0, c1, c2, c3, c4, c5].drop 1).take (Try.prog.cellsOf 9)) = [y0, y1, y2, y3, y4, y5][1]? := hf 1 _ rfl
      rw [ct_str] at h0
      exact h0
    have h2 : Rd enc W n 67 [c2] y2 := by
      have h0 : DataW.trod enc Try.prog W 0 (fun _ => true) true n 67 (([c0, c1, c2, c3, c4, c5].drop 2).take (Try.prog.cellsOf 67)) = [y0, y1, y2, y3, y4, y5][2]? := hf 2 _ rfl
      rw [cl_word] at h0
      exact h0
    have h3 : Rd enc W n 46 [c3] y3 := by
      have h0 : DataW.trod enc Try.prog W 0 (fun _ => true) true n 46 (([c0, c1, c2, c3, c4, c5].drop 3).take (Try.prog.cellsOf 46)) = [y0, y1, y2, y3, y4, y5][3]? := hf 3 _ rfl
      rw [ct_l46] at h0
      exact h0
    have h4 : Rd enc W n 4 [c4] y4 := by
      have h0 : DataW.trod enc Try.prog W 0 (fun _ => true) true n 4 (([c0, c1, c2, c3, c4, c5].drop 4).take (Try.prog.cellsOf 4)) = [y0, y1, y2, y3, y4, y5][4]? := hf 4 _ rfl
      rw [ct_bool] at h0
      exact h0
    have h5 : Rd enc W n 40 [c5] y5 := by
      have h0 : DataW.trod enc Try.prog W 0 (fun _ => true) true n 40 (([c0, c1, c2, c3, c4, c5].drop 5).take (Try.prog.cellsOf 40)) = [y0, y1, y2, y3, y4, y5][5]? := hf 5 _ rfl
      rw [ct_l40] at h0
      exact h0
    obtain ⟨k0, rfl, z0⟩ := rd_str h0
    obtain ⟨k1, rfl, z1⟩ := rd_str h1
    obtain ⟨l2, p2, q2, z2⟩ := rd_wfield I_part (by omega) h2
    obtain ⟨l3, p3, q3, z3⟩ := rd_list (sh := .sum) Try.underlying46 cl_sum (by decide) I_sum (by omega) h3
    obtain ⟨k4, rfl⟩ := rd_bool h4
    have z4 := bulk_pos y4.1
    obtain ⟨l5, p5, q5, z5⟩ := rd_list (sh := .word) Try.underlying40 cl_word (by decide) I_word (by omega) h5
    refine ⟨_, rfl, .assign k0 k1 c2 l2 c3 l3 k4 c5 l5 p2 q2 p3 q3 p5 q5, ?_⟩
    rw [wt_mk]
    have v2 : vsz c2 = 0 := by
      obtain ⟨_, _, _, _, e, _⟩ := p2
      rw [e]
      rfl
    have v3 : vsz c3 = 0 := by
      obtain ⟨_, _, _, _, e, _⟩ := p3
      rw [e]
      rfl
    have v5 : vsz c5 = 0 := by
      obtain ⟨_, _, _, _, e, _⟩ := p5
      rw [e]
      rfl
    simp only [cz, List.length_cons, List.length_nil, List.map_cons, List.map_nil, List.sum_cons, List.sum_nil, Rows.uptoBulk, Rows.uptoBulkAll, vsz_str, vsz_bool, v2, v3, v5]
    split <;> omega
set_option maxRecDepth 100000 in
theorem rd_cond {m fuel : Nat} {cs : List Value} {x : DataW H × List MemPlace} (I_cond : Known enc W .cond m) (I_word : Known enc W .word m) (hm : fuel ≤ m) (h : Rd enc W fuel 103 cs x) : ∃ nd, nd.c = cs ∧ Wf W .cond nd ∧ wt nd ≤ Rows.uptoBulk x.1 := by
  obtain ⟨xs, n, rfl, rfl, hcl, hxl, hf⟩ := DataW.trod_struct Try.underlying103 h
  rw [cl_cond] at hcl
  match cs, hcl, xs, hxl with
  | [c0, c1, c2], _, [y0, y1, y2], _ =>
    have h0 : Rd enc W n 9 [c0] y0 := by
      have h0 : DataW.trod enc Try.prog W 0 (fun _ => true) true n 9 (([c0, c1, c2].drop 0).take (Try.prog.cellsOf 9)) = [y0, y1, y2][0]? := hf 0 _ rfl
      rw [ct_str] at h0
      exact h0
    have h1 : Rd enc W n 40 [c1] y1 := by
      have h0 : DataW.trod enc Try.prog W 0 (fun _ => true) true n 40 (([c0, c1, c2].drop 1).take (Try.prog.cellsOf 40)) = [y0, y1, y2][1]? := hf 1 _ rfl
      rw [ct_l40] at h0
      exact h0
    have h2 : Rd enc W n 45 [c2] y2 := by
      have h0 : DataW.trod enc Try.prog W 0 (fun _ => true) true n 45 (([c0, c1, c2].drop 2).take (Try.prog.cellsOf 45)) = [y0, y1, y2][2]? := hf 2 _ rfl
      rw [ct_l45] at h0
      exact h0
    obtain ⟨k0, rfl, z0⟩ := rd_str h0
    obtain ⟨l1, p1, q1, z1⟩ := rd_list (sh := .word) Try.underlying40 cl_word (by decide) I_word (by omega) h1
    obtain ⟨l2, p2, q2, z2⟩ := rd_list (sh := .cond) Try.underlying45 cl_cond (by decide) I_cond (by omega) h2
    refine ⟨_, rfl, .cond k0 c1 l1 c2 l2 p1 q1 p2 q2, ?_⟩
    rw [wt_mk]
    have v1 : vsz c1 = 0 := by
      obtain ⟨_, _, _, _, e, _⟩ := p1
      rw [e]
      rfl
    have v2 : vsz c2 = 0 := by
      obtain ⟨_, _, _, _, e, _⟩ := p2
      rw [e]
      rfl
    simp only [cz, List.length_cons, List.length_nil, List.map_cons, List.map_nil, List.sum_cons, List.sum_nil, Rows.uptoBulk, Rows.uptoBulkAll, vsz_str, v1, v2]
    split <;> omega
set_option maxRecDepth 100000 in
theorem rd_case {m fuel : Nat} {cs : List Value} {x : DataW H × List MemPlace} (I_word : Known enc W .word m) (I_cmd : Known enc W .cmd m) (hm : fuel ≤ m) (h : Rd enc W fuel 62 cs x) : ∃ nd, nd.c = cs ∧ Wf W .case nd ∧ wt nd ≤ Rows.uptoBulk x.1 := by
  obtain ⟨xs, n, rfl, rfl, hcl, hxl, hf⟩ := DataW.trod_struct Try.underlying62 h
  rw [cl_case] at hcl
  match cs, hcl, xs, hxl with
  | [c0, c1, c2, c3, c4, c5, c6, c7, c8, c9, c10], _, [y0, y1], _ =>
    have h0 : Rd enc W n 40 [c0] y0 := by
      have h0 : DataW.trod enc Try.prog W 0 (fun _ => true) true n 40 (([c0, c1, c2, c3, c4, c5, c6, c7, c8, c9, c10].drop 0).take (Try.prog.cellsOf 40)) = [y0, y1][0]? := hf 0 _ rfl
      rw [ct_l40] at h0
      exact h0
    have h1 : Rd enc W n 48 [c1, c2, c3, c4, c5, c6, c7, c8, c9, c10] y1 := by
      have h0 : DataW.trod enc Try.prog W 0 (fun _ => true) true n 48 (([c0, c1, c2, c3, c4, c5, c6, c7, c8, c9, c10].drop 1).take (Try.prog.cellsOf 48)) = [y0, y1][1]? := hf 1 _ rfl
      rw [cl_cmd] at h0
      exact h0
    obtain ⟨l0, p0, q0, z0⟩ := rd_list (sh := .word) Try.underlying40 cl_word (by decide) I_word (by omega) h0
    obtain ⟨b1, e1, q1, z1⟩ := I_cmd n (by omega) _ _ h1
    refine ⟨.mk (c0 :: b1.c) [l0, [b1]], by rw [e1]; rfl, .case c0 l0 b1 p0 q0 q1, ?_⟩
    rw [wt_mk]
    have hc11 : (c0 :: b1.c).length = 11 := by rw [e1]; rfl
    unfold cz
    rw [if_pos hc11]
    simp only [List.map_cons, List.map_nil, List.sum_cons, List.sum_nil, Rows.uptoBulk, Rows.uptoBulkAll, Wl]
    simp only [Wl] at z0
    omega
set_option maxRecDepth 100000 in
theorem rd_cmd {m fuel : Nat} {cs : List Value} {x : DataW H × List MemPlace} (I_assign : Known enc W .assign m) (I_case : Known enc W .case m) (I_cmd : Known enc W .cmd m) (I_cond : Known enc W .cond m) (I_redir : Known enc W .redir m) (I_sum : Known enc W .sum m) (I_word : Known enc W .word m) (hm : fuel ≤ m) (h : Rd enc W fuel 48 cs x) : ∃ nd, nd.c = cs ∧ Wf W .cmd nd ∧ wt nd ≤ Rows.uptoBulk x.1 := by
  obtain ⟨xs, n, rfl, rfl, hcl, hxl, hf⟩ := DataW.trod_struct Try.underlying48 h
  rw [cl_cmd] at hcl
  match cs, hcl, xs, hxl with
  | [c0, c1, c2, c3, c4, c5, c6, c7, c8, c9], _, [y0, y1, y2, y3, y4, y5, y6, y7, y8, y9], _ =>
    have h0 : Rd enc W n 3 [c0] y0 := by
      have h0 : DataW.trod enc Try.prog W 0 (fun _ => true) true n 3 (([c0, c1, c2, c3, c4, c5, c6, c7, c8, c9].drop 0).take (Try.prog.cellsOf 3)) = [y0, y1, y2, y3, y4, y5, y6, y7, y8, y9][0]? := hf 0 _ rfl
      rw [ct_int] at h0
      exact h0
    have h1 : Rd enc W n 9 [c1] y1 := by
      have h0 : DataW.trod enc Try.prog W 0 (fun _ => true) true n 9 (([c0, c1, c2, c3, c4, c5, c6, c7, c8, c9].drop 1).take (Try.prog.cellsOf 9)) = [y0, y1, y2, y3, y4, y5, y6, y7, y8, y9][1]? := hf 1 _ rfl
      rw [ct_str] at h0
      exact h0
    have h2 : Rd enc W n 40 [c2] y2 := by
      have h0 : DataW.trod enc Try.prog W 0 (fun _ => true) true n 40 (([c0, c1, c2, c3, c4, c5, c6, c7, c8, c9].drop 2).take (Try.prog.cellsOf 40)) = [y0, y1, y2, y3, y4, y5, y6, y7, y8, y9][2]? := hf 2 _ rfl
      rw [ct_l40] at h0
      exact h0
    have h3 : Rd enc W n 41 [c3] y3 := by
      have h0 : DataW.trod enc Try.prog W 0 (fun _ => true) true n 41 (([c0, c1, c2, c3, c4, c5, c6, c7, c8, c9].drop 3).take (Try.prog.cellsOf 41)) = [y0, y1, y2, y3, y4, y5, y6, y7, y8, y9][3]? := hf 3 _ rfl
      rw [ct_l41] at h0
      exact h0
    have h4 : Rd enc W n 42 [c4] y4 := by
      have h0 : DataW.trod enc Try.prog W 0 (fun _ => true) true n 42 (([c0, c1, c2, c3, c4, c5, c6, c7, c8, c9].drop 4).take (Try.prog.cellsOf 42)) = [y0, y1, y2, y3, y4, y5, y6, y7, y8, y9][4]? := hf 4 _ rfl
      rw [ct_l42] at h0
      exact h0
    have h5 : Rd enc W n 43 [c5] y5 := by
      have h0 : DataW.trod enc Try.prog W 0 (fun _ => true) true n 43 (([c0, c1, c2, c3, c4, c5, c6, c7, c8, c9].drop 5).take (Try.prog.cellsOf 43)) = [y0, y1, y2, y3, y4, y5, y6, y7, y8, y9][5]? := hf 5 _ rfl
      rw [ct_l43] at h0
      exact h0
    have h6 : Rd enc W n 44 [c6] y6 := by
      have h0 : DataW.trod enc Try.prog W 0 (fun _ => true) true n 44 (([c0, c1, c2, c3, c4, c5, c6, c7, c8, c9].drop 6).take (Try.prog.cellsOf 44)) = [y0, y1, y2, y3, y4, y5, y6, y7, y8, y9][6]? := hf 6 _ rfl
      rw [ct_l44] at h0
      exact h0
    have h7 : Rd enc W n 45 [c7] y7 := by
      have h0 : DataW.trod enc Try.prog W 0 (fun _ => true) true n 45 (([c0, c1, c2, c3, c4, c5, c6, c7, c8, c9].drop 7).take (Try.prog.cellsOf 45)) = [y0, y1, y2, y3, y4, y5, y6, y7, y8, y9][7]? := hf 7 _ rfl
      rw [ct_l45] at h0
      exact h0
    have h8 : Rd enc W n 46 [c8] y8 := by
      have h0 : DataW.trod enc Try.prog W 0 (fun _ => true) true n 46 (([c0, c1, c2, c3, c4, c5, c6, c7, c8, c9].drop 8).take (Try.prog.cellsOf 46)) = [y0, y1, y2, y3, y4, y5, y6, y7, y8, y9][8]? := hf 8 _ rfl
      rw [ct_l46] at h0
      exact h0
    have h9 : Rd enc W n 3 [c9] y9 := by
      have h0 : DataW.trod enc Try.prog W 0 (fun _ => true) true n 3 (([c0, c1, c2, c3, c4, c5, c6, c7, c8, c9].drop 9).take (Try.prog.cellsOf 3)) = [y0, y1, y2, y3, y4, y5, y6, y7, y8, y9][9]? := hf 9 _ rfl
      rw [ct_int] at h0
      exact h0
    obtain ⟨k0, rfl⟩ := rd_int h0
    have z0 := bulk_pos y0.1
    obtain ⟨k1, rfl, z1⟩ := rd_str h1
    obtain ⟨l2, p2, q2, z2⟩ := rd_list (sh := .word) Try.underlying40 cl_word (by decide) I_word (by omega) h2
    obtain ⟨l3, p3, q3, z3⟩ := rd_list (sh := .assign) Try.underlying41 cl_assign (by decide) I_assign (by omega) h3
    obtain ⟨l4, p4, q4, z4⟩ := rd_list (sh := .redir) Try.underlying42 cl_redir (by decide) I_redir (by omega) h4
    obtain ⟨l5, p5, q5, z5⟩ := rd_list (sh := .cmd) Try.underlying43 cl_cmd (by decide) I_cmd (by omega) h5
    obtain ⟨l6, p6, q6, z6⟩ := rd_list (sh := .case) Try.underlying44 cl_case (by decide) I_case (by omega) h6
    obtain ⟨l7, p7, q7, z7⟩ := rd_list (sh := .cond) Try.underlying45 cl_cond (by decide) I_cond (by omega) h7
    obtain ⟨l8, p8, q8, z8⟩ := rd_list (sh := .sum) Try.underlying46 cl_sum (by decide) I_sum (by omega) h8
    obtain ⟨k9, rfl⟩ := rd_int h9
    have z9 := bulk_pos y9.1
    refine ⟨_, rfl, .cmd k0 k1 c2 l2 c3 l3 c4 l4 c5 l5 c6 l6 c7 l7 c8 l8 k9 p2 q2 p3 q3 p4 q4 p5 q5 p6 q6 p7 q7 p8 q8, ?_⟩
    rw [wt_mk]
    have v2 : vsz c2 = 0 := by
      obtain ⟨_, _, _, _, e, _⟩ := p2
      rw [e]
      rfl
    have v3 : vsz c3 = 0 := by
      obtain ⟨_, _, _, _, e, _⟩ := p3
      rw [e]
      rfl
    have v4 : vsz c4 = 0 := by
      obtain ⟨_, _, _, _, e, _⟩ := p4
      rw [e]
      rfl
    have v5 : vsz c5 = 0 := by
      obtain ⟨_, _, _, _, e, _⟩ := p5
      rw [e]
      rfl
    have v6 : vsz c6 = 0 := by
      obtain ⟨_, _, _, _, e, _⟩ := p6
      rw [e]
      rfl
    have v7 : vsz c7 = 0 := by
      obtain ⟨_, _, _, _, e, _⟩ := p7
      rw [e]
      rfl
    have v8 : vsz c8 = 0 := by
      obtain ⟨_, _, _, _, e, _⟩ := p8
      rw [e]
      rfl
    simp only [cz, List.length_cons, List.length_nil, List.map_cons, List.map_nil, List.sum_cons, List.sum_nil, Rows.uptoBulk, Rows.uptoBulkAll, vsz_int, vsz_str, v2, v3, v4, v5, v6, v7, v8]
    split <;> omega
/-- Every reading of a struct is of a tree of structs, of no more than its bulk. -/
theorem known_all (m : Nat) : ∀ sh, Known enc W sh m := by
  induction m with
  | zero => intro sh n hn; omega
  | succ m ih =>
    intro sh n hn cs x h
    have hm : n ≤ m := by omega
    cases sh with
    | sum => exact rd_sum (ih .sum) hm h
    | part => exact rd_part (ih .cmd) (ih .part) (ih .sum) hm h
    | word => exact rd_word (ih .part) hm h
    | redir => exact rd_redir (ih .part) hm h
    | assign => exact rd_assign (ih .part) (ih .sum) (ih .word) hm h
    | cond => exact rd_cond (ih .cond) (ih .word) hm h
    | case => exact rd_case (ih .word) (ih .cmd) hm h
    | cmd => exact rd_cmd (ih .assign) (ih .case) (ih .cmd) (ih .cond) (ih .redir) (ih .sum) (ih .word) hm h
set_option maxRecDepth 100000 in
theorem cmd_open {v : Value} {d : DataW H} {ps : List MemPlace} {r : Reach} {b0 : Nat} (hv : Value.okWide Try.prog W r b0 48 v) (h : DataW.Trod enc Try.prog W 0 (fun _ => true) true 48 v d ps) : ∃ nd : Nd, v = .agg nd.c.toArray ∧ Wf W .cmd nd ∧ wt nd ≤ Rows.uptoBulk d := by
  obtain ⟨cs, rfl, _⟩ := okWide_struct Try.underlying48 hv
  obtain ⟨fuel, hf⟩ := h
  obtain ⟨nd, h1, h2, h3⟩ := known_all (fuel + 1) .cmd fuel (by omega) cs.toList (d, ps) hf
  exact ⟨nd, by rw [h1], h2, h3⟩
end Go.Proofs.Ytihbdacmgojapaa

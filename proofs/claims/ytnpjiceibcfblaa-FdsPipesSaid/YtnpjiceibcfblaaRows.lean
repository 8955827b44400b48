/-
  No cell of these rows narrows 'for every input' (looked for: loops, veiled, ifaces, maps, wideKeys, modest, calm, conditions, laid).
  DERIVED. THE GIVEN ROWS OF THIS SEAT. 5 by the template 'for every input the law returns true; each argument reads behind the call as it read before'; 0 by the template 'total and deterministic' (their statements: YtnpjiceibcfblaaTotals.lean).
  GIVEN WITH THE SEED: the statements are not yours to turn. If you find one false, say at which input.
  Laid BY PROGRAM, IN A SANDBOX (cutbox-rows.mjs): the forced cells as the released guide's own fill.sh prints them over the translation 4334bbcb1984eb47… (all of the seat's roots in one cut). By AI agents, Wed Nov 11 2026. No macro, syntax, notation, axiom, sorry.
-/
import Derived.Test.YtnpjiceibcfblaaChecked
import GoSem.Claim
import GoSem.ClaimJoined
import GoSem.ClaimMapViews
import Derived.JoinedTies
import Derived.KernelRfl
namespace Go.Proofs.Ytnpjiceibcfblaa
/- THE CELL 'sum', in the pinned program and in every row, IS THE sha256 OF THE DUMP (.gsa) THAT YtnpjiceibcfblaaProg.lean LOADS. Nothing in Lean hashes anything: it is a label: what it is worth is what the hold of that sum in a sandbox is worth. -/
noncomputable def Try.pinned : Pinned := { name := "ytnpjiceibcfblaa", sum := "4334bbcb1984eb4705478f8d871554fa7f7dabb5e7661c6c06e8179636295c29", checked := Try.checked }
namespace Rows
def none {H : Type} : Left H := { results := [], args := [] }

/-- 'cowrielaw22.FdsCopies': WHATEVER THE INPUT: true; the input reads as it did. -/
def fdsCopiesSpec : ChangeSpec := { name := "fdsCopies", fn := fun _ => fun
  | [d1, d2, d3, d4] => { results := [.lit (.bool true)], args := [d1, d2, d3, d4] }
  | _ => none }
def fdsCopiesRow : OpenClaim := { program := "ytnpjiceibcfblaa", sum := "4334bbcb1984eb4705478f8d871554fa7f7dabb5e7661c6c06e8179636295c29", func := "cowrie/cowrielaw22.FdsCopies", spec := "fdsCopies", apart := false }
def FdsCopiesSaid : Prop := fdsCopiesRow.holds Try.pinned (OpenSpec.ofChange fdsCopiesSpec)

/-- ITS FALSE NEIGHBOUR: 'it returns false'. Refute it at one input. -/
def fdsCopiesWrong : ChangeSpec := { name := "fdsCopies", fn := fun _ => fun
  | [d1, d2, d3, d4] => { results := [.lit (.bool false)], args := [d1, d2, d3, d4] }
  | _ => none }
def FdsCopiesWrongFalsely : Prop := fdsCopiesRow.holds Try.pinned (OpenSpec.ofChange fdsCopiesWrong)

/-- 'cowrielaw22.FdsBoth': WHATEVER THE INPUT: true; the input reads as it did. -/
def fdsBothSpec : ChangeSpec := { name := "fdsBoth", fn := fun _ => fun
  | [d1, d2] => { results := [.lit (.bool true)], args := [d1, d2] }
  | _ => none }
def fdsBothRow : OpenClaim := { program := "ytnpjiceibcfblaa", sum := "4334bbcb1984eb4705478f8d871554fa7f7dabb5e7661c6c06e8179636295c29", func := "cowrie/cowrielaw22.FdsBoth", spec := "fdsBoth", apart := false }
def FdsBothSaid : Prop := fdsBothRow.holds Try.pinned (OpenSpec.ofChange fdsBothSpec)

/-- ITS FALSE NEIGHBOUR: 'it returns false'. Refute it at one input. -/
def fdsBothWrong : ChangeSpec := { name := "fdsBoth", fn := fun _ => fun
  | [d1, d2] => { results := [.lit (.bool false)], args := [d1, d2] }
  | _ => none }
def FdsBothWrongFalsely : Prop := fdsBothRow.holds Try.pinned (OpenSpec.ofChange fdsBothWrong)

/-- 'cowrielaw22.FdsWrites': WHATEVER THE INPUT: true; the input reads as it did. -/
def fdsWritesSpec : ChangeSpec := { name := "fdsWrites", fn := fun _ => fun
  | [d1, d2, d3, d4] => { results := [.lit (.bool true)], args := [d1, d2, d3, d4] }
  | _ => none }
def fdsWritesRow : OpenClaim := { program := "ytnpjiceibcfblaa", sum := "4334bbcb1984eb4705478f8d871554fa7f7dabb5e7661c6c06e8179636295c29", func := "cowrie/cowrielaw22.FdsWrites", spec := "fdsWrites", apart := false }
def FdsWritesSaid : Prop := fdsWritesRow.holds Try.pinned (OpenSpec.ofChange fdsWritesSpec)

/-- ITS FALSE NEIGHBOUR: 'it returns false'. Refute it at one input. -/
def fdsWritesWrong : ChangeSpec := { name := "fdsWrites", fn := fun _ => fun
  | [d1, d2, d3, d4] => { results := [.lit (.bool false)], args := [d1, d2, d3, d4] }
  | _ => none }
def FdsWritesWrongFalsely : Prop := fdsWritesRow.holds Try.pinned (OpenSpec.ofChange fdsWritesWrong)

/-- 'cowrielaw22.FdsPipes': WHATEVER THE INPUT: true; the input reads as it did. -/
def fdsPipesSpec : ChangeSpec := { name := "fdsPipes", fn := fun _ => fun
  | [d1, d2] => { results := [.lit (.bool true)], args := [d1, d2] }
  | _ => none }
def fdsPipesRow : OpenClaim := { program := "ytnpjiceibcfblaa", sum := "4334bbcb1984eb4705478f8d871554fa7f7dabb5e7661c6c06e8179636295c29", func := "cowrie/cowrielaw22.FdsPipes", spec := "fdsPipes", apart := false }
def FdsPipesSaid : Prop := fdsPipesRow.holds Try.pinned (OpenSpec.ofChange fdsPipesSpec)

/-- ITS FALSE NEIGHBOUR: 'it returns false'. Refute it at one input. -/
def fdsPipesWrong : ChangeSpec := { name := "fdsPipes", fn := fun _ => fun
  | [d1, d2] => { results := [.lit (.bool false)], args := [d1, d2] }
  | _ => none }
def FdsPipesWrongFalsely : Prop := fdsPipesRow.holds Try.pinned (OpenSpec.ofChange fdsPipesWrong)

/-- 'cowrielaw22.FdsNone': WHATEVER THE INPUT: true; the input reads as it did. -/
def fdsNoneSpec : ChangeSpec := { name := "fdsNone", fn := fun _ => fun
  | [d] => { results := [.lit (.bool true)], args := [d] }
  | _ => none }
def fdsNoneRow : OpenClaim := { program := "ytnpjiceibcfblaa", sum := "4334bbcb1984eb4705478f8d871554fa7f7dabb5e7661c6c06e8179636295c29", func := "cowrie/cowrielaw22.FdsNone", spec := "fdsNone", apart := false }
def FdsNoneSaid : Prop := fdsNoneRow.holds Try.pinned (OpenSpec.ofChange fdsNoneSpec)

/-- ITS FALSE NEIGHBOUR: 'it returns false'. Refute it at one input. -/
def fdsNoneWrong : ChangeSpec := { name := "fdsNone", fn := fun _ => fun
  | [d] => { results := [.lit (.bool false)], args := [d] }
  | _ => none }
def FdsNoneWrongFalsely : Prop := fdsNoneRow.holds Try.pinned (OpenSpec.ofChange fdsNoneWrong)

/- THE SECOND FORM. 'bulk': how many values and letters a reading holds, each counted each time it is reached (what is shared counts as often as it is met; a slice's spare places count too). A statement '..UptoSaid' is the law's where the arguments, and the package variables that the reading takes, are together of bulk at most 1048576: NARROWER than '..Said'. Prove '..Said' where nothing that the law and all that it calls make is longer than what came in: it says more and counts as full. Else prove '..UptoSaid'. A law counts once. -/
mutual
def uptoBulk {H : Type} : DataW H → Nat
  | .lit (.string bytes) => bytes.length + 1
  | .lit _ => 1
  | .nil => 1
  | .ptr d => uptoBulk d + 1
  | .slice elems spare => uptoBulkAll elems + uptoBulkAll spare + 1
  | .agg parts => uptoBulkAll parts + 1
  | .iface _ d => uptoBulk d + 1
  | .map entries => uptoBulkEntries entries + 1
  | .held _ => 1
def uptoBulkAll {H : Type} : List (DataW H) → Nat
  | [] => 0
  | d :: r => uptoBulk d + uptoBulkAll r
def uptoBulkEntries {H : Type} : List (Lit × DataW H) → Nat
  | [] => 0
  | x :: r => uptoBulkEntry x + uptoBulkEntries r
def uptoBulkEntry {H : Type} : Lit × DataW H → Nat
  | (.string bytes, d) => bytes.length + uptoBulk d + 1
  | (_, d) => uptoBulk d + 1
 end
def uptoSmall : (H : Type) → List (DataW H) → Bool := fun _ ds => decide (uptoBulkAll ds ≤ 1048576)
def OpenSpec.upto (s : _root_.Go.ChangeSpec) : _root_.Go.OpenSpec := { _root_.Go.OpenSpec.ofChange s with cond := some uptoSmall }

/-- 'cowrielaw22.FdsCopies', WHERE WHAT IT READS IS OF BULK AT MOST 1048576: true; the input reads as it did. -/
def fdsCopiesUptoRow : OpenClaim := { program := "ytnpjiceibcfblaa", sum := "4334bbcb1984eb4705478f8d871554fa7f7dabb5e7661c6c06e8179636295c29", func := "cowrie/cowrielaw22.FdsCopies", spec := "fdsCopies", apart := false, narrowed := true }
def FdsCopiesUptoSaid : Prop := fdsCopiesUptoRow.holds Try.pinned (OpenSpec.upto fdsCopiesSpec)

/-- 'cowrielaw22.FdsBoth', WHERE WHAT IT READS IS OF BULK AT MOST 1048576: true; the input reads as it did. -/
def fdsBothUptoRow : OpenClaim := { program := "ytnpjiceibcfblaa", sum := "4334bbcb1984eb4705478f8d871554fa7f7dabb5e7661c6c06e8179636295c29", func := "cowrie/cowrielaw22.FdsBoth", spec := "fdsBoth", apart := false, narrowed := true }
def FdsBothUptoSaid : Prop := fdsBothUptoRow.holds Try.pinned (OpenSpec.upto fdsBothSpec)

/-- 'cowrielaw22.FdsWrites', WHERE WHAT IT READS IS OF BULK AT MOST 1048576: true; the input reads as it did. -/
def fdsWritesUptoRow : OpenClaim := { program := "ytnpjiceibcfblaa", sum := "4334bbcb1984eb4705478f8d871554fa7f7dabb5e7661c6c06e8179636295c29", func := "cowrie/cowrielaw22.FdsWrites", spec := "fdsWrites", apart := false, narrowed := true }
def FdsWritesUptoSaid : Prop := fdsWritesUptoRow.holds Try.pinned (OpenSpec.upto fdsWritesSpec)

/-- 'cowrielaw22.FdsPipes', WHERE WHAT IT READS IS OF BULK AT MOST 1048576: true; the input reads as it did. -/
def fdsPipesUptoRow : OpenClaim := { program := "ytnpjiceibcfblaa", sum := "4334bbcb1984eb4705478f8d871554fa7f7dabb5e7661c6c06e8179636295c29", func := "cowrie/cowrielaw22.FdsPipes", spec := "fdsPipes", apart := false, narrowed := true }
def FdsPipesUptoSaid : Prop := fdsPipesUptoRow.holds Try.pinned (OpenSpec.upto fdsPipesSpec)

/-- 'cowrielaw22.FdsNone', WHERE WHAT IT READS IS OF BULK AT MOST 1048576: true; the input reads as it did. -/
def fdsNoneUptoRow : OpenClaim := { program := "ytnpjiceibcfblaa", sum := "4334bbcb1984eb4705478f8d871554fa7f7dabb5e7661c6c06e8179636295c29", func := "cowrie/cowrielaw22.FdsNone", spec := "fdsNone", apart := false, narrowed := true }
def FdsNoneUptoSaid : Prop := fdsNoneUptoRow.holds Try.pinned (OpenSpec.upto fdsNoneSpec)

end Rows
end Go.Proofs.Ytnpjiceibcfblaa

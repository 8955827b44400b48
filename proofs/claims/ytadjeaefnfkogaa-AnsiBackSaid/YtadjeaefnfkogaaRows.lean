/-
  No cell of these rows narrows 'for every input' (looked for: loops, veiled, ifaces, maps, wideKeys, modest, calm, conditions, laid).
  DERIVED. THE GIVEN ROWS OF THIS SEAT. 4 by the template 'for every input the law returns true; each argument reads behind the call as it read before'; 0 by the template 'total and deterministic' (their statements: YtadjeaefnfkogaaTotals.lean).
  GIVEN WITH THE SEED: the statements are not yours to turn. If you find one false, say at which input.
  Laid BY PROGRAM, IN A SANDBOX (cutbox-rows.mjs): the forced cells as the released guide's own fill.sh prints them over the translation 9f535d4bf9cd32d4… (all of the seat's roots in one cut). By AI agents, Wed Nov 11 2026. No macro, syntax, notation, axiom, sorry.
-/
import Derived.Test.YtadjeaefnfkogaaChecked
import GoSem.Claim
import GoSem.ClaimJoined
import GoSem.ClaimMapViews
import Derived.JoinedTies
import Derived.KernelRfl
namespace Go.Proofs.Ytadjeaefnfkogaa
/- THE CELL 'sum', in the pinned program and in every row, IS THE sha256 OF THE DUMP (.gsa) THAT YtadjeaefnfkogaaProg.lean LOADS. Nothing in Lean hashes anything: it is a label: what it is worth is what the hold of that sum in a sandbox is worth. -/
noncomputable def Try.pinned : Pinned := { name := "ytadjeaefnfkogaa", sum := "9f535d4bf9cd32d474f72d803a358ae7cea60de25376d8618deaf009569dc5bf", checked := Try.checked }
namespace Rows
def none {H : Type} : Left H := { results := [], args := [] }

/-- 'cowrielaw02.AnsiParts': WHATEVER THE INPUT: true; the input reads as it did. -/
def ansiPartsSpec : ChangeSpec := { name := "ansiParts", fn := fun _ => fun
  | [d1, d2] => { results := [.lit (.bool true)], args := [d1, d2] }
  | _ => none }
def ansiPartsRow : OpenClaim := { program := "ytadjeaefnfkogaa", sum := "9f535d4bf9cd32d474f72d803a358ae7cea60de25376d8618deaf009569dc5bf", func := "cowrie/cowrielaw02.AnsiParts", spec := "ansiParts", inPlace := ["internal/bytealg.IndexByteString"], unfollowed := true, recurses := true, apart := false }
def AnsiPartsSaid : Prop := ansiPartsRow.holds Try.pinned (OpenSpec.ofChange ansiPartsSpec)

/-- ITS FALSE NEIGHBOUR: 'it returns false'. Refute it at one input. -/
def ansiPartsWrong : ChangeSpec := { name := "ansiParts", fn := fun _ => fun
  | [d1, d2] => { results := [.lit (.bool false)], args := [d1, d2] }
  | _ => none }
def AnsiPartsWrongFalsely : Prop := ansiPartsRow.holds Try.pinned (OpenSpec.ofChange ansiPartsWrong)

/-- 'cowrielaw02.AnsiFaults': WHATEVER THE INPUT: true; the input reads as it did. -/
def ansiFaultsSpec : ChangeSpec := { name := "ansiFaults", fn := fun _ => fun
  | [d] => { results := [.lit (.bool true)], args := [d] }
  | _ => none }
def ansiFaultsRow : OpenClaim := { program := "ytadjeaefnfkogaa", sum := "9f535d4bf9cd32d474f72d803a358ae7cea60de25376d8618deaf009569dc5bf", func := "cowrie/cowrielaw02.AnsiFaults", spec := "ansiFaults", inPlace := ["internal/bytealg.IndexByteString"], unfollowed := true, recurses := true, apart := false }
def AnsiFaultsSaid : Prop := ansiFaultsRow.holds Try.pinned (OpenSpec.ofChange ansiFaultsSpec)

/-- ITS FALSE NEIGHBOUR: 'it returns false'. Refute it at one input. -/
def ansiFaultsWrong : ChangeSpec := { name := "ansiFaults", fn := fun _ => fun
  | [d] => { results := [.lit (.bool false)], args := [d] }
  | _ => none }
def AnsiFaultsWrongFalsely : Prop := ansiFaultsRow.holds Try.pinned (OpenSpec.ofChange ansiFaultsWrong)

/-- 'cowrielaw02.AnsiBack': WHATEVER THE INPUT: true; the input reads as it did. -/
def ansiBackSpec : ChangeSpec := { name := "ansiBack", fn := fun _ => fun
  | [d] => { results := [.lit (.bool true)], args := [d] }
  | _ => none }
def ansiBackRow : OpenClaim := { program := "ytadjeaefnfkogaa", sum := "9f535d4bf9cd32d474f72d803a358ae7cea60de25376d8618deaf009569dc5bf", func := "cowrie/cowrielaw02.AnsiBack", spec := "ansiBack", inPlace := ["internal/bytealg.IndexByteString", "internal/abi.NoEscape"], unfollowed := true, recurses := true, apart := false }
def AnsiBackSaid : Prop := ansiBackRow.holds Try.pinned (OpenSpec.ofChange ansiBackSpec)

/-- ITS FALSE NEIGHBOUR: 'it returns false'. Refute it at one input. -/
def ansiBackWrong : ChangeSpec := { name := "ansiBack", fn := fun _ => fun
  | [d] => { results := [.lit (.bool false)], args := [d] }
  | _ => none }
def AnsiBackWrongFalsely : Prop := ansiBackRow.holds Try.pinned (OpenSpec.ofChange ansiBackWrong)

/-- 'cowrielaw02.AnsiPlain': WHATEVER THE INPUT: true; the input reads as it did. -/
def ansiPlainSpec : ChangeSpec := { name := "ansiPlain", fn := fun _ => fun
  | [d] => { results := [.lit (.bool true)], args := [d] }
  | _ => none }
def ansiPlainRow : OpenClaim := { program := "ytadjeaefnfkogaa", sum := "9f535d4bf9cd32d474f72d803a358ae7cea60de25376d8618deaf009569dc5bf", func := "cowrie/cowrielaw02.AnsiPlain", spec := "ansiPlain", inPlace := ["internal/bytealg.IndexByteString", "internal/abi.NoEscape"], unfollowed := true, recurses := true, apart := false }
def AnsiPlainSaid : Prop := ansiPlainRow.holds Try.pinned (OpenSpec.ofChange ansiPlainSpec)

/-- ITS FALSE NEIGHBOUR: 'it returns false'. Refute it at one input. -/
def ansiPlainWrong : ChangeSpec := { name := "ansiPlain", fn := fun _ => fun
  | [d] => { results := [.lit (.bool false)], args := [d] }
  | _ => none }
def AnsiPlainWrongFalsely : Prop := ansiPlainRow.holds Try.pinned (OpenSpec.ofChange ansiPlainWrong)

/- THE SECOND FORM. 'bulk': how many values and letters a reading holds, each counted each time it is reached (what is shared counts as often as it is met; a slice's spare places count too). A statement '..UptoSaid' is the law's where the arguments, and the package variables that the reading takes, are together of bulk at most 1048576: NARROWER than '..Said'. Prove '..Said' where nothing that the law and all that it calls make is longer than what came in: it says more and counts as full. Else prove '..UptoSaid'. A law counts once. -/
mutual
def uptoBulk {H : Type} : DataW H → Nat
  | .lit (.string bytes) => bytes.length + 1
  | .lit _ => 1
  | .nil => 1
  | .ptr d => uptoBulk d + 1
  | .slice elems spare => uptoBulkAll elems + uptoBulkAll spare + 1
  | .agg parts => uptoBulkAll parts + 1
  | .iface _ d => uptoBulk d + 1
  | .map entries => uptoBulkEntries entries + 1
  | .held _ => 1
def uptoBulkAll {H : Type} : List (DataW H) → Nat
  | [] => 0
  | d :: r => uptoBulk d + uptoBulkAll r
def uptoBulkEntries {H : Type} : List (Lit × DataW H) → Nat
  | [] => 0
  | x :: r => uptoBulkEntry x + uptoBulkEntries r
def uptoBulkEntry {H : Type} : Lit × DataW H → Nat
  | (.string bytes, d) => bytes.length + uptoBulk d + 1
  | (_, d) => uptoBulk d + 1
 end
def uptoSmall : (H : Type) → List (DataW H) → Bool := fun _ ds => decide (uptoBulkAll ds ≤ 1048576)
def OpenSpec.upto (s : _root_.Go.ChangeSpec) : _root_.Go.OpenSpec := { _root_.Go.OpenSpec.ofChange s with cond := some uptoSmall }

/-- 'cowrielaw02.AnsiParts', WHERE WHAT IT READS IS OF BULK AT MOST 1048576: true; the input reads as it did. -/
def ansiPartsUptoRow : OpenClaim := { program := "ytadjeaefnfkogaa", sum := "9f535d4bf9cd32d474f72d803a358ae7cea60de25376d8618deaf009569dc5bf", func := "cowrie/cowrielaw02.AnsiParts", spec := "ansiParts", inPlace := ["internal/bytealg.IndexByteString"], unfollowed := true, recurses := true, apart := false, narrowed := true }
def AnsiPartsUptoSaid : Prop := ansiPartsUptoRow.holds Try.pinned (OpenSpec.upto ansiPartsSpec)

/-- 'cowrielaw02.AnsiFaults', WHERE WHAT IT READS IS OF BULK AT MOST 1048576: true; the input reads as it did. -/
def ansiFaultsUptoRow : OpenClaim := { program := "ytadjeaefnfkogaa", sum := "9f535d4bf9cd32d474f72d803a358ae7cea60de25376d8618deaf009569dc5bf", func := "cowrie/cowrielaw02.AnsiFaults", spec := "ansiFaults", inPlace := ["internal/bytealg.IndexByteString"], unfollowed := true, recurses := true, apart := false, narrowed := true }
def AnsiFaultsUptoSaid : Prop := ansiFaultsUptoRow.holds Try.pinned (OpenSpec.upto ansiFaultsSpec)

/-- 'cowrielaw02.AnsiBack', WHERE WHAT IT READS IS OF BULK AT MOST 1048576: true; the input reads as it did. -/
def ansiBackUptoRow : OpenClaim := { program := "ytadjeaefnfkogaa", sum := "9f535d4bf9cd32d474f72d803a358ae7cea60de25376d8618deaf009569dc5bf", func := "cowrie/cowrielaw02.AnsiBack", spec := "ansiBack", inPlace := ["internal/bytealg.IndexByteString", "internal/abi.NoEscape"], unfollowed := true, recurses := true, apart := false, narrowed := true }
def AnsiBackUptoSaid : Prop := ansiBackUptoRow.holds Try.pinned (OpenSpec.upto ansiBackSpec)

/-- 'cowrielaw02.AnsiPlain', WHERE WHAT IT READS IS OF BULK AT MOST 1048576: true; the input reads as it did. -/
def ansiPlainUptoRow : OpenClaim := { program := "ytadjeaefnfkogaa", sum := "9f535d4bf9cd32d474f72d803a358ae7cea60de25376d8618deaf009569dc5bf", func := "cowrie/cowrielaw02.AnsiPlain", spec := "ansiPlain", inPlace := ["internal/bytealg.IndexByteString", "internal/abi.NoEscape"], unfollowed := true, recurses := true, apart := false, narrowed := true }
def AnsiPlainUptoSaid : Prop := ansiPlainUptoRow.holds Try.pinned (OpenSpec.upto ansiPlainSpec)

end Rows
end Go.Proofs.Ytadjeaefnfkogaa

/-
  No cell of these rows narrows 'for every input' (looked for: loops, veiled, ifaces, maps, wideKeys, modest, calm, conditions, laid).
  DERIVED. THE GIVEN ROWS OF THIS SEAT. 8 by the template 'for every input the law returns true; each argument reads behind the call as it read before'; 0 by the template 'total and deterministic' (their statements: YtmjdlilmackneaaTotals.lean).
  GIVEN WITH THE SEED: the statements are not yours to turn. If you find one false, say at which input.
  Laid BY PROGRAM, IN A SANDBOX (cutbox-rows.mjs): the forced cells as the released guide's own fill.sh prints them over the translation bfa6d5e8f32bfa27… (all of the seat's roots in one cut). By AI agents, Wed Nov 11 2026. No macro, syntax, notation, axiom, sorry.
-/
import Derived.Test.YtmjdlilmackneaaChecked
import GoSem.Claim
import GoSem.ClaimJoined
import GoSem.ClaimMapViews
import Derived.JoinedTies
import Derived.KernelRfl
namespace Go.Proofs.Ytmjdlilmackneaa
/- THE CELL 'sum', in the pinned program and in every row, IS THE sha256 OF THE DUMP (.gsa) THAT YtmjdlilmackneaaProg.lean LOADS. Nothing in Lean hashes anything: it is a label: what it is worth is what the hold of that sum in a sandbox is worth. -/
noncomputable def Try.pinned : Pinned := { name := "ytmjdlilmackneaa", sum := "bfa6d5e8f32bfa2725bcb300f5d96b33a78b38c4c49ce44986e7ee06b38ba90b", checked := Try.checked }
namespace Rows
def none {H : Type} : Left H := { results := [], args := [] }

/-- 'cowrielaw03.GlobStars': WHATEVER THE INPUT: true; the input reads as it did. -/
def globStarsSpec : ChangeSpec := { name := "globStars", fn := fun _ => fun
  | [d1, d2, d3, d4] => { results := [.lit (.bool true)], args := [d1, d2, d3, d4] }
  | _ => none }
def globStarsRow : OpenClaim := { program := "ytmjdlilmackneaa", sum := "bfa6d5e8f32bfa2725bcb300f5d96b33a78b38c4c49ce44986e7ee06b38ba90b", func := "cowrie/cowrielaw03.GlobStars", spec := "globStars", unfollowed := true, recurses := true, apart := false }
def GlobStarsSaid : Prop := globStarsRow.holds Try.pinned (OpenSpec.ofChange globStarsSpec)

/-- ITS FALSE NEIGHBOUR: 'it returns false'. Refute it at one input. -/
def globStarsWrong : ChangeSpec := { name := "globStars", fn := fun _ => fun
  | [d1, d2, d3, d4] => { results := [.lit (.bool false)], args := [d1, d2, d3, d4] }
  | _ => none }
def GlobStarsWrongFalsely : Prop := globStarsRow.holds Try.pinned (OpenSpec.ofChange globStarsWrong)

/-- 'cowrielaw03.GlobSets': WHATEVER THE INPUT: true; the input reads as it did. -/
def globSetsSpec : ChangeSpec := { name := "globSets", fn := fun _ => fun
  | [d1, d2] => { results := [.lit (.bool true)], args := [d1, d2] }
  | _ => none }
def globSetsRow : OpenClaim := { program := "ytmjdlilmackneaa", sum := "bfa6d5e8f32bfa2725bcb300f5d96b33a78b38c4c49ce44986e7ee06b38ba90b", func := "cowrie/cowrielaw03.GlobSets", spec := "globSets", unfollowed := true, recurses := true, apart := false }
def GlobSetsSaid : Prop := globSetsRow.holds Try.pinned (OpenSpec.ofChange globSetsSpec)

/-- ITS FALSE NEIGHBOUR: 'it returns false'. Refute it at one input. -/
def globSetsWrong : ChangeSpec := { name := "globSets", fn := fun _ => fun
  | [d1, d2] => { results := [.lit (.bool false)], args := [d1, d2] }
  | _ => none }
def GlobSetsWrongFalsely : Prop := globSetsRow.holds Try.pinned (OpenSpec.ofChange globSetsWrong)

/-- 'cowrielaw03.GlobOwn': WHATEVER THE INPUT: true; the input reads as it did. -/
def globOwnSpec : ChangeSpec := { name := "globOwn", fn := fun _ => fun
  | [d] => { results := [.lit (.bool true)], args := [d] }
  | _ => none }
def globOwnRow : OpenClaim := { program := "ytmjdlilmackneaa", sum := "bfa6d5e8f32bfa2725bcb300f5d96b33a78b38c4c49ce44986e7ee06b38ba90b", func := "cowrie/cowrielaw03.GlobOwn", spec := "globOwn", unfollowed := true, recurses := true, apart := false }
def GlobOwnSaid : Prop := globOwnRow.holds Try.pinned (OpenSpec.ofChange globOwnSpec)

/-- ITS FALSE NEIGHBOUR: 'it returns false'. Refute it at one input. -/
def globOwnWrong : ChangeSpec := { name := "globOwn", fn := fun _ => fun
  | [d] => { results := [.lit (.bool false)], args := [d] }
  | _ => none }
def GlobOwnWrongFalsely : Prop := globOwnRow.holds Try.pinned (OpenSpec.ofChange globOwnWrong)

/-- 'cowrielaw03.GlobQuoted': WHATEVER THE INPUT: true; the input reads as it did. -/
def globQuotedSpec : ChangeSpec := { name := "globQuoted", fn := fun _ => fun
  | [d1, d2] => { results := [.lit (.bool true)], args := [d1, d2] }
  | _ => none }
def globQuotedRow : OpenClaim := { program := "ytmjdlilmackneaa", sum := "bfa6d5e8f32bfa2725bcb300f5d96b33a78b38c4c49ce44986e7ee06b38ba90b", func := "cowrie/cowrielaw03.GlobQuoted", spec := "globQuoted", inPlace := ["internal/bytealg.IndexByteString"], unfollowed := true, recurses := true, apart := false }
def GlobQuotedSaid : Prop := globQuotedRow.holds Try.pinned (OpenSpec.ofChange globQuotedSpec)

/-- ITS FALSE NEIGHBOUR: 'it returns false'. Refute it at one input. -/
def globQuotedWrong : ChangeSpec := { name := "globQuoted", fn := fun _ => fun
  | [d1, d2] => { results := [.lit (.bool false)], args := [d1, d2] }
  | _ => none }
def GlobQuotedWrongFalsely : Prop := globQuotedRow.holds Try.pinned (OpenSpec.ofChange globQuotedWrong)

/-- 'cowrielaw03.GlobParts': WHATEVER THE INPUT: true; the input reads as it did. -/
def globPartsSpec : ChangeSpec := { name := "globParts", fn := fun _ => fun
  | [d1, d2] => { results := [.lit (.bool true)], args := [d1, d2] }
  | _ => none }
def globPartsRow : OpenClaim := { program := "ytmjdlilmackneaa", sum := "bfa6d5e8f32bfa2725bcb300f5d96b33a78b38c4c49ce44986e7ee06b38ba90b", func := "cowrie/cowrielaw03.GlobParts", spec := "globParts", unfollowed := true, recurses := true, apart := false }
def GlobPartsSaid : Prop := globPartsRow.holds Try.pinned (OpenSpec.ofChange globPartsSpec)

/-- ITS FALSE NEIGHBOUR: 'it returns false'. Refute it at one input. -/
def globPartsWrong : ChangeSpec := { name := "globParts", fn := fun _ => fun
  | [d1, d2] => { results := [.lit (.bool false)], args := [d1, d2] }
  | _ => none }
def GlobPartsWrongFalsely : Prop := globPartsRow.holds Try.pinned (OpenSpec.ofChange globPartsWrong)

/-- 'cowrielaw19.PiecesCuts': WHATEVER THE INPUT: true; the input reads as it did. -/
def piecesCutsSpec : ChangeSpec := { name := "piecesCuts", fn := fun _ => fun
  | [d1, d2] => { results := [.lit (.bool true)], args := [d1, d2] }
  | _ => none }
def piecesCutsRow : OpenClaim := { program := "ytmjdlilmackneaa", sum := "bfa6d5e8f32bfa2725bcb300f5d96b33a78b38c4c49ce44986e7ee06b38ba90b", func := "cowrie/cowrielaw19.PiecesCuts", spec := "piecesCuts", unfollowed := true, recurses := true, apart := false }
def PiecesCutsSaid : Prop := piecesCutsRow.holds Try.pinned (OpenSpec.ofChange piecesCutsSpec)

/-- ITS FALSE NEIGHBOUR: 'it returns false'. Refute it at one input. -/
def piecesCutsWrong : ChangeSpec := { name := "piecesCuts", fn := fun _ => fun
  | [d1, d2] => { results := [.lit (.bool false)], args := [d1, d2] }
  | _ => none }
def PiecesCutsWrongFalsely : Prop := piecesCutsRow.holds Try.pinned (OpenSpec.ofChange piecesCutsWrong)

/-- 'cowrielaw19.PiecesReplace': WHATEVER THE INPUT: true; the input reads as it did. -/
def piecesReplaceSpec : ChangeSpec := { name := "piecesReplace", fn := fun _ => fun
  | [d1, d2] => { results := [.lit (.bool true)], args := [d1, d2] }
  | _ => none }
def piecesReplaceRow : OpenClaim := { program := "ytmjdlilmackneaa", sum := "bfa6d5e8f32bfa2725bcb300f5d96b33a78b38c4c49ce44986e7ee06b38ba90b", func := "cowrie/cowrielaw19.PiecesReplace", spec := "piecesReplace", unfollowed := true, recurses := true, apart := false }
def PiecesReplaceSaid : Prop := piecesReplaceRow.holds Try.pinned (OpenSpec.ofChange piecesReplaceSpec)

/-- ITS FALSE NEIGHBOUR: 'it returns false'. Refute it at one input. -/
def piecesReplaceWrong : ChangeSpec := { name := "piecesReplace", fn := fun _ => fun
  | [d1, d2] => { results := [.lit (.bool false)], args := [d1, d2] }
  | _ => none }
def PiecesReplaceWrongFalsely : Prop := piecesReplaceRow.holds Try.pinned (OpenSpec.ofChange piecesReplaceWrong)

/-- 'cowrielaw19.PiecesLists': WHATEVER THE INPUT: true; the input reads as it did. -/
def piecesListsSpec : ChangeSpec := { name := "piecesLists", fn := fun _ => fun
  | [d1, d2, d3] => { results := [.lit (.bool true)], args := [d1, d2, d3] }
  | _ => none }
def piecesListsRow : OpenClaim := { program := "ytmjdlilmackneaa", sum := "bfa6d5e8f32bfa2725bcb300f5d96b33a78b38c4c49ce44986e7ee06b38ba90b", func := "cowrie/cowrielaw19.PiecesLists", spec := "piecesLists", unfollowed := true, recurses := true, apart := false }
def PiecesListsSaid : Prop := piecesListsRow.holds Try.pinned (OpenSpec.ofChange piecesListsSpec)

/-- ITS FALSE NEIGHBOUR: 'it returns false'. Refute it at one input. -/
def piecesListsWrong : ChangeSpec := { name := "piecesLists", fn := fun _ => fun
  | [d1, d2, d3] => { results := [.lit (.bool false)], args := [d1, d2, d3] }
  | _ => none }
def PiecesListsWrongFalsely : Prop := piecesListsRow.holds Try.pinned (OpenSpec.ofChange piecesListsWrong)

/- THE SECOND FORM. 'bulk': how many values and letters a reading holds, each counted each time it is reached (what is shared counts as often as it is met; a slice's spare places count too). A statement '..UptoSaid' is the law's where the arguments, and the package variables that the reading takes, are together of bulk at most 1048576: NARROWER than '..Said'. Prove '..Said' where nothing that the law and all that it calls make is longer than what came in: it says more and counts as full. Else prove '..UptoSaid'. A law counts once. -/
mutual
def uptoBulk {H : Type} : DataW H → Nat
  | .lit (.string bytes) => bytes.length + 1
  | .lit _ => 1
  | .nil => 1
  | .ptr d => uptoBulk d + 1
  | .slice elems spare => uptoBulkAll elems + uptoBulkAll spare + 1
  | .agg parts => uptoBulkAll parts + 1
  | .iface _ d => uptoBulk d + 1
  | .map entries => uptoBulkEntries entries + 1
  | .held _ => 1
def uptoBulkAll {H : Type} : List (DataW H) → Nat
  | [] => 0
  | d :: r => uptoBulk d + uptoBulkAll r
def uptoBulkEntries {H : Type} : List (Lit × DataW H) → Nat
  | [] => 0
  | x :: r => uptoBulkEntry x + uptoBulkEntries r
def uptoBulkEntry {H : Type} : Lit × DataW H → Nat
  | (.string bytes, d) => bytes.length + uptoBulk d + 1
  | (_, d) => uptoBulk d + 1
 end
def uptoSmall : (H : Type) → List (DataW H) → Bool := fun _ ds => decide (uptoBulkAll ds ≤ 1048576)
def OpenSpec.upto (s : _root_.Go.ChangeSpec) : _root_.Go.OpenSpec := { _root_.Go.OpenSpec.ofChange s with cond := some uptoSmall }

/-- 'cowrielaw03.GlobStars', WHERE WHAT IT READS IS OF BULK AT MOST 1048576: true; the input reads as it did. -/
def globStarsUptoRow : OpenClaim := { program := "ytmjdlilmackneaa", sum := "bfa6d5e8f32bfa2725bcb300f5d96b33a78b38c4c49ce44986e7ee06b38ba90b", func := "cowrie/cowrielaw03.GlobStars", spec := "globStars", unfollowed := true, recurses := true, apart := false, narrowed := true }
def GlobStarsUptoSaid : Prop := globStarsUptoRow.holds Try.pinned (OpenSpec.upto globStarsSpec)

/-- 'cowrielaw03.GlobSets', WHERE WHAT IT READS IS OF BULK AT MOST 1048576: true; the input reads as it did. -/
def globSetsUptoRow : OpenClaim := { program := "ytmjdlilmackneaa", sum := "bfa6d5e8f32bfa2725bcb300f5d96b33a78b38c4c49ce44986e7ee06b38ba90b", func := "cowrie/cowrielaw03.GlobSets", spec := "globSets", unfollowed := true, recurses := true, apart := false, narrowed := true }
def GlobSetsUptoSaid : Prop := globSetsUptoRow.holds Try.pinned (OpenSpec.upto globSetsSpec)

/-- 'cowrielaw03.GlobOwn', WHERE WHAT IT READS IS OF BULK AT MOST 1048576: true; the input reads as it did. -/
def globOwnUptoRow : OpenClaim := { program := "ytmjdlilmackneaa", sum := "bfa6d5e8f32bfa2725bcb300f5d96b33a78b38c4c49ce44986e7ee06b38ba90b", func := "cowrie/cowrielaw03.GlobOwn", spec := "globOwn", unfollowed := true, recurses := true, apart := false, narrowed := true }
def GlobOwnUptoSaid : Prop := globOwnUptoRow.holds Try.pinned (OpenSpec.upto globOwnSpec)

/-- 'cowrielaw03.GlobQuoted', WHERE WHAT IT READS IS OF BULK AT MOST 1048576: true; the input reads as it did. -/
def globQuotedUptoRow : OpenClaim := { program := "ytmjdlilmackneaa", sum := "bfa6d5e8f32bfa2725bcb300f5d96b33a78b38c4c49ce44986e7ee06b38ba90b", func := "cowrie/cowrielaw03.GlobQuoted", spec := "globQuoted", inPlace := ["internal/bytealg.IndexByteString"], unfollowed := true, recurses := true, apart := false, narrowed := true }
def GlobQuotedUptoSaid : Prop := globQuotedUptoRow.holds Try.pinned (OpenSpec.upto globQuotedSpec)

/-- 'cowrielaw03.GlobParts', WHERE WHAT IT READS IS OF BULK AT MOST 1048576: true; the input reads as it did. -/
def globPartsUptoRow : OpenClaim := { program := "ytmjdlilmackneaa", sum := "bfa6d5e8f32bfa2725bcb300f5d96b33a78b38c4c49ce44986e7ee06b38ba90b", func := "cowrie/cowrielaw03.GlobParts", spec := "globParts", unfollowed := true, recurses := true, apart := false, narrowed := true }
def GlobPartsUptoSaid : Prop := globPartsUptoRow.holds Try.pinned (OpenSpec.upto globPartsSpec)

/-- 'cowrielaw19.PiecesCuts', WHERE WHAT IT READS IS OF BULK AT MOST 1048576: true; the input reads as it did. -/
def piecesCutsUptoRow : OpenClaim := { program := "ytmjdlilmackneaa", sum := "bfa6d5e8f32bfa2725bcb300f5d96b33a78b38c4c49ce44986e7ee06b38ba90b", func := "cowrie/cowrielaw19.PiecesCuts", spec := "piecesCuts", unfollowed := true, recurses := true, apart := false, narrowed := true }
def PiecesCutsUptoSaid : Prop := piecesCutsUptoRow.holds Try.pinned (OpenSpec.upto piecesCutsSpec)

/-- 'cowrielaw19.PiecesReplace', WHERE WHAT IT READS IS OF BULK AT MOST 1048576: true; the input reads as it did. -/
def piecesReplaceUptoRow : OpenClaim := { program := "ytmjdlilmackneaa", sum := "bfa6d5e8f32bfa2725bcb300f5d96b33a78b38c4c49ce44986e7ee06b38ba90b", func := "cowrie/cowrielaw19.PiecesReplace", spec := "piecesReplace", unfollowed := true, recurses := true, apart := false, narrowed := true }
def PiecesReplaceUptoSaid : Prop := piecesReplaceUptoRow.holds Try.pinned (OpenSpec.upto piecesReplaceSpec)

/-- 'cowrielaw19.PiecesLists', WHERE WHAT IT READS IS OF BULK AT MOST 1048576: true; the input reads as it did. -/
def piecesListsUptoRow : OpenClaim := { program := "ytmjdlilmackneaa", sum := "bfa6d5e8f32bfa2725bcb300f5d96b33a78b38c4c49ce44986e7ee06b38ba90b", func := "cowrie/cowrielaw19.PiecesLists", spec := "piecesLists", unfollowed := true, recurses := true, apart := false, narrowed := true }
def PiecesListsUptoSaid : Prop := piecesListsUptoRow.holds Try.pinned (OpenSpec.upto piecesListsSpec)

end Rows
end Go.Proofs.Ytmjdlilmackneaa

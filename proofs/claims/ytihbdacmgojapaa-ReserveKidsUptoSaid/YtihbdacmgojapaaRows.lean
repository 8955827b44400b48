/-
  NARROWER THAN 'FOR EVERY INPUT', by the rows' own cells (each row's printed sentence says how): ReserveKids: loops.
  DERIVED. THE GIVEN ROWS OF THIS SEAT. 4 by the template 'for every input the law returns true; each argument reads behind the call as it read before'; 0 by the template 'total and deterministic' (their statements: YtihbdacmgojapaaTotals.lean).
  GIVEN WITH THE SEED: the statements are not yours to turn. If you find one false, say at which input.
  Laid BY PROGRAM, IN A SANDBOX (cutbox-rows.mjs): the forced cells as the released guide's own fill.sh prints them over the translation e52bae32d9c1b625… (all of the seat's roots in one cut). By AI agents, Wed Nov 11 2026. No macro, syntax, notation, axiom, sorry.
-/
import Derived.Test.YtihbdacmgojapaaChecked
import GoSem.Claim
import GoSem.ClaimJoined
import GoSem.ClaimMapViews
import Derived.JoinedTies
import Derived.KernelRfl
namespace Go.Proofs.Ytihbdacmgojapaa
/- THE CELL 'sum', in the pinned program and in every row, IS THE sha256 OF THE DUMP (.gsa) THAT YtihbdacmgojapaaProg.lean LOADS. Nothing in Lean hashes anything: it is a label: what it is worth is what the hold of that sum in a sandbox is worth. -/
noncomputable def Try.pinned : Pinned := { name := "ytihbdacmgojapaa", sum := "e52bae32d9c1b625169746fd28337fa91fc561cc651ea115a692aa42f36b97cd", checked := Try.checked }
namespace Rows
def none {H : Type} : Left H := { results := [], args := [] }

/-- 'cowrielaw25.ReserveMangles': WHATEVER THE INPUT: true; the input reads as it did. -/
def reserveManglesSpec : ChangeSpec := { name := "reserveMangles", fn := fun _ => fun
  | [d1, d2, d3, d4] => { results := [.lit (.bool true)], args := [d1, d2, d3, d4] }
  | _ => none }
def reserveManglesRow : OpenClaim := { program := "ytihbdacmgojapaa", sum := "e52bae32d9c1b625169746fd28337fa91fc561cc651ea115a692aa42f36b97cd", func := "cowrie/cowrielaw25.ReserveMangles", spec := "reserveMangles", inPlace := ["internal/abi.NoEscape", "internal/bytealg.MakeNoZero"], apart := false }
def ReserveManglesSaid : Prop := reserveManglesRow.holds Try.pinned (OpenSpec.ofChange reserveManglesSpec)

/-- ITS FALSE NEIGHBOUR: 'it returns false'. Refute it at one input. -/
def reserveManglesWrong : ChangeSpec := { name := "reserveMangles", fn := fun _ => fun
  | [d1, d2, d3, d4] => { results := [.lit (.bool false)], args := [d1, d2, d3, d4] }
  | _ => none }
def ReserveManglesWrongFalsely : Prop := reserveManglesRow.holds Try.pinned (OpenSpec.ofChange reserveManglesWrong)

/-- 'cowrielaw25.ReserveWorld': WHATEVER THE INPUT: true; the input reads as it did. -/
def reserveWorldSpec : ChangeSpec := { name := "reserveWorld", fn := fun _ => fun
  | [d] => { results := [.lit (.bool true)], args := [d] }
  | _ => none }
def reserveWorldRow : OpenClaim := { program := "ytihbdacmgojapaa", sum := "e52bae32d9c1b625169746fd28337fa91fc561cc651ea115a692aa42f36b97cd", func := "cowrie/cowrielaw25.ReserveWorld", spec := "reserveWorld", inPlace := ["internal/abi.NoEscape", "internal/bytealg.MakeNoZero"], unfollowed := true, recurses := true, apart := false }
def ReserveWorldSaid : Prop := reserveWorldRow.holds Try.pinned (OpenSpec.ofChange reserveWorldSpec)

/-- ITS FALSE NEIGHBOUR: 'it returns false'. Refute it at one input. -/
def reserveWorldWrong : ChangeSpec := { name := "reserveWorld", fn := fun _ => fun
  | [d] => { results := [.lit (.bool false)], args := [d] }
  | _ => none }
def ReserveWorldWrongFalsely : Prop := reserveWorldRow.holds Try.pinned (OpenSpec.ofChange reserveWorldWrong)

/-- 'cowrielaw25.ReserveFresh': WHATEVER THE INPUT: true; the input reads as it did. -/
def reserveFreshSpec : ChangeSpec := { name := "reserveFresh", fn := fun _ => fun
  | [d1, d2] => { results := [.lit (.bool true)], args := [d1, d2] }
  | _ => none }
def reserveFreshRow : OpenClaim := { program := "ytihbdacmgojapaa", sum := "e52bae32d9c1b625169746fd28337fa91fc561cc651ea115a692aa42f36b97cd", func := "cowrie/cowrielaw25.ReserveFresh", spec := "reserveFresh", inPlace := ["internal/abi.NoEscape", "internal/bytealg.MakeNoZero"], apart := false }
def ReserveFreshSaid : Prop := reserveFreshRow.holds Try.pinned (OpenSpec.ofChange reserveFreshSpec)

/-- ITS FALSE NEIGHBOUR: 'it returns false'. Refute it at one input. -/
def reserveFreshWrong : ChangeSpec := { name := "reserveFresh", fn := fun _ => fun
  | [d1, d2] => { results := [.lit (.bool false)], args := [d1, d2] }
  | _ => none }
def ReserveFreshWrongFalsely : Prop := reserveFreshRow.holds Try.pinned (OpenSpec.ofChange reserveFreshWrong)

/-- 'cowrielaw25.ReserveKids': WHATEVER THE INPUT: true; the input reads as it did. -/
def reserveKidsSpec : ChangeSpec := { name := "reserveKids", fn := fun _ => fun
  | [d] => { results := [.lit (.bool true)], args := [d] }
  | _ => none }
def reserveKidsRow : OpenClaim := { program := "ytihbdacmgojapaa", sum := "e52bae32d9c1b625169746fd28337fa91fc561cc651ea115a692aa42f36b97cd", func := "cowrie/cowrielaw25.ReserveKids", spec := "reserveKids", inPlace := ["internal/abi.NoEscape", "internal/bytealg.MakeNoZero"], unfollowed := true, recurses := true, loops := true, apart := false }
def ReserveKidsSaid : Prop := reserveKidsRow.holds Try.pinned (OpenSpec.ofChange reserveKidsSpec)

/-- ITS FALSE NEIGHBOUR: 'it returns false'. Refute it at one input. -/
def reserveKidsWrong : ChangeSpec := { name := "reserveKids", fn := fun _ => fun
  | [d] => { results := [.lit (.bool false)], args := [d] }
  | _ => none }
def ReserveKidsWrongFalsely : Prop := reserveKidsRow.holds Try.pinned (OpenSpec.ofChange reserveKidsWrong)

/- THE SECOND FORM. 'bulk': how many values and letters a reading holds, each counted each time it is reached (what is shared counts as often as it is met; a slice's spare places count too). A statement '..UptoSaid' is the law's where the arguments, and the package variables that the reading takes, are together of bulk at most 1048576: NARROWER than '..Said'. Prove '..Said' where nothing that the law and all that it calls make is longer than what came in: it says more and counts as full. Else prove '..UptoSaid'. A law counts once. -/
mutual
def uptoBulk {H : Type} : DataW H → Nat
  | .lit (.string bytes) => bytes.length + 1
  | .lit _ => 1
  | .nil => 1
  | .ptr d => uptoBulk d + 1
  | .slice elems spare => uptoBulkAll elems + uptoBulkAll spare + 1
  | .agg parts => uptoBulkAll parts + 1
  | .iface _ d => uptoBulk d + 1
  | .map entries => uptoBulkEntries entries + 1
  | .held _ => 1
def uptoBulkAll {H : Type} : List (DataW H) → Nat
  | [] => 0
  | d :: r => uptoBulk d + uptoBulkAll r
def uptoBulkEntries {H : Type} : List (Lit × DataW H) → Nat
  | [] => 0
  | x :: r => uptoBulkEntry x + uptoBulkEntries r
def uptoBulkEntry {H : Type} : Lit × DataW H → Nat
  | (.string bytes, d) => bytes.length + uptoBulk d + 1
  | (_, d) => uptoBulk d + 1
 end
def uptoSmall : (H : Type) → List (DataW H) → Bool := fun _ ds => decide (uptoBulkAll ds ≤ 1048576)
def OpenSpec.upto (s : _root_.Go.ChangeSpec) : _root_.Go.OpenSpec := { _root_.Go.OpenSpec.ofChange s with cond := some uptoSmall }

/-- 'cowrielaw25.ReserveMangles', WHERE WHAT IT READS IS OF BULK AT MOST 1048576: true; the input reads as it did. -/
def reserveManglesUptoRow : OpenClaim := { program := "ytihbdacmgojapaa", sum := "e52bae32d9c1b625169746fd28337fa91fc561cc651ea115a692aa42f36b97cd", func := "cowrie/cowrielaw25.ReserveMangles", spec := "reserveMangles", inPlace := ["internal/abi.NoEscape", "internal/bytealg.MakeNoZero"], apart := false, narrowed := true }
def ReserveManglesUptoSaid : Prop := reserveManglesUptoRow.holds Try.pinned (OpenSpec.upto reserveManglesSpec)

/-- 'cowrielaw25.ReserveWorld', WHERE WHAT IT READS IS OF BULK AT MOST 1048576: true; the input reads as it did. -/
def reserveWorldUptoRow : OpenClaim := { program := "ytihbdacmgojapaa", sum := "e52bae32d9c1b625169746fd28337fa91fc561cc651ea115a692aa42f36b97cd", func := "cowrie/cowrielaw25.ReserveWorld", spec := "reserveWorld", inPlace := ["internal/abi.NoEscape", "internal/bytealg.MakeNoZero"], unfollowed := true, recurses := true, apart := false, narrowed := true }
def ReserveWorldUptoSaid : Prop := reserveWorldUptoRow.holds Try.pinned (OpenSpec.upto reserveWorldSpec)

/-- 'cowrielaw25.ReserveFresh', WHERE WHAT IT READS IS OF BULK AT MOST 1048576: true; the input reads as it did. -/
def reserveFreshUptoRow : OpenClaim := { program := "ytihbdacmgojapaa", sum := "e52bae32d9c1b625169746fd28337fa91fc561cc651ea115a692aa42f36b97cd", func := "cowrie/cowrielaw25.ReserveFresh", spec := "reserveFresh", inPlace := ["internal/abi.NoEscape", "internal/bytealg.MakeNoZero"], apart := false, narrowed := true }
def ReserveFreshUptoSaid : Prop := reserveFreshUptoRow.holds Try.pinned (OpenSpec.upto reserveFreshSpec)

/-- 'cowrielaw25.ReserveKids', WHERE WHAT IT READS IS OF BULK AT MOST 1048576: true; the input reads as it did. -/
def reserveKidsUptoRow : OpenClaim := { program := "ytihbdacmgojapaa", sum := "e52bae32d9c1b625169746fd28337fa91fc561cc651ea115a692aa42f36b97cd", func := "cowrie/cowrielaw25.ReserveKids", spec := "reserveKids", inPlace := ["internal/abi.NoEscape", "internal/bytealg.MakeNoZero"], unfollowed := true, recurses := true, loops := true, apart := false, narrowed := true }
def ReserveKidsUptoSaid : Prop := reserveKidsUptoRow.holds Try.pinned (OpenSpec.upto reserveKidsSpec)

end Rows
end Go.Proofs.Ytihbdacmgojapaa

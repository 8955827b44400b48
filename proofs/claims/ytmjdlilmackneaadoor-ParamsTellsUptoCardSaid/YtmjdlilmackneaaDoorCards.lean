/-
  DERIVED. GIVEN WITH THE SEED: THE CARDS: each row of YtmjdlilmackneaaDoorRows.lean that lists a variable, with what it lists TIED to the program's text (the seventh form; the later family's looks); each row that meets fmt, with fmt's text TOLD by the authors' own Lean function (tested against real Go, not proved from fmt's source: count such statements apart). THE CARD IS WHAT COUNTS. Prove the row's statement (the work); the ties are given (YtmjdlilmackneaaDoorTie.lean); close each card by the builder's one call (the guide's Derived/Test/ToyasCard.lean, 'card_holds'). Laid BY PROGRAM, IN A SANDBOX (cutbox-door.mjs). By AI agents, Wed Nov 11 2026. No macro, syntax, notation, axiom, sorry.
-/
import Derived.Test.YtmjdlilmackneaaDoorRows
import GoSem.ClaimSeven
namespace Go.Proofs.YtmjdlilmackneaaDoor
namespace Rows

/-- THE TIED CARD OF 'cowrielaw18.ParamsJoin'. -/
def paramsJoinCard : Claim7 := { stood := { row := paramsJoinRow, standIns := [], harness := (true, "1e58fa16aade4a5314fd73ed6cd6bba80d28139e4d2a510966da4990b4a0b20e"), looks := false }, kinds := [], alts := [], laidByText := true, laidKinds := [.listed, .data], laidTests := true, laidLooks := .later }
def ParamsJoinCardSaid : Prop := Claim7.holds Tryd.pinned (.plain (OpenSpec.ofChange paramsJoinSpec)) paramsJoinCard

/-- THE TIED CARD OF 'cowrielaw18.ParamsTells'. -/
def paramsTellsCard : Claim7 := { stood := { row := paramsTellsRow, standIns := [], harness := (true, "1e58fa16aade4a5314fd73ed6cd6bba80d28139e4d2a510966da4990b4a0b20e"), looks := false }, kinds := [], alts := [], laidByText := true, laidKinds := [.listed, .data], laidTests := true, laidLooks := .later }
def ParamsTellsCardSaid : Prop := Claim7.holds Tryd.pinned (.plain (OpenSpec.ofChange paramsTellsSpec)) paramsTellsCard

/-- THE TIED CARD OF 'cowrielaw18.ParamsParts'. -/
def paramsPartsCard : Claim7 := { stood := { row := paramsPartsRow, standIns := [], harness := (true, "1e58fa16aade4a5314fd73ed6cd6bba80d28139e4d2a510966da4990b4a0b20e"), looks := false }, kinds := [], alts := [], laidByText := true, laidKinds := [.listed, .data], laidTests := true, laidLooks := .later }
def ParamsPartsCardSaid : Prop := Claim7.holds Tryd.pinned (.plain (OpenSpec.ofChange paramsPartsSpec)) paramsPartsCard

/-- THE TIED CARD OF 'cowrielaw18.ParamsQuoted'. -/
def paramsQuotedCard : Claim7 := { stood := { row := paramsQuotedRow, standIns := [], harness := (true, "1e58fa16aade4a5314fd73ed6cd6bba80d28139e4d2a510966da4990b4a0b20e"), looks := false }, kinds := [], alts := [], laidByText := true, laidKinds := [.listed, .data], laidTests := true, laidLooks := .later }
def ParamsQuotedCardSaid : Prop := Claim7.holds Tryd.pinned (.plain (OpenSpec.ofChange paramsQuotedSpec)) paramsQuotedCard

/-- THE TIED CARD OF 'cowrielaw18.ParamsAbsent'. -/
def paramsAbsentCard : Claim7 := { stood := { row := paramsAbsentRow, standIns := [], harness := (true, "1e58fa16aade4a5314fd73ed6cd6bba80d28139e4d2a510966da4990b4a0b20e"), looks := false }, kinds := [], alts := [], laidByText := true, laidKinds := [.listed, .data], laidTests := true, laidLooks := .later }
def ParamsAbsentCardSaid : Prop := Claim7.holds Tryd.pinned (.plain (OpenSpec.ofChange paramsAbsentSpec)) paramsAbsentCard

/-- THE SECOND FORM's CARD OF 'cowrielaw18.ParamsJoin'. -/
def paramsJoinUptoCard : Claim7 := { stood := { row := paramsJoinUptoRow, standIns := [], harness := (true, "1e58fa16aade4a5314fd73ed6cd6bba80d28139e4d2a510966da4990b4a0b20e"), looks := false }, kinds := [], alts := [], laidByText := true, laidKinds := [.listed, .data], laidTests := true, laidLooks := .later }
def ParamsJoinUptoCardSaid : Prop := Claim7.holds Tryd.pinned (.plain (OpenSpec.upto paramsJoinSpec)) paramsJoinUptoCard

/-- THE SECOND FORM's CARD OF 'cowrielaw18.ParamsTells'. -/
def paramsTellsUptoCard : Claim7 := { stood := { row := paramsTellsUptoRow, standIns := [], harness := (true, "1e58fa16aade4a5314fd73ed6cd6bba80d28139e4d2a510966da4990b4a0b20e"), looks := false }, kinds := [], alts := [], laidByText := true, laidKinds := [.listed, .data], laidTests := true, laidLooks := .later }
def ParamsTellsUptoCardSaid : Prop := Claim7.holds Tryd.pinned (.plain (OpenSpec.upto paramsTellsSpec)) paramsTellsUptoCard

/-- THE SECOND FORM's CARD OF 'cowrielaw18.ParamsParts'. -/
def paramsPartsUptoCard : Claim7 := { stood := { row := paramsPartsUptoRow, standIns := [], harness := (true, "1e58fa16aade4a5314fd73ed6cd6bba80d28139e4d2a510966da4990b4a0b20e"), looks := false }, kinds := [], alts := [], laidByText := true, laidKinds := [.listed, .data], laidTests := true, laidLooks := .later }
def ParamsPartsUptoCardSaid : Prop := Claim7.holds Tryd.pinned (.plain (OpenSpec.upto paramsPartsSpec)) paramsPartsUptoCard

/-- THE SECOND FORM's CARD OF 'cowrielaw18.ParamsQuoted'. -/
def paramsQuotedUptoCard : Claim7 := { stood := { row := paramsQuotedUptoRow, standIns := [], harness := (true, "1e58fa16aade4a5314fd73ed6cd6bba80d28139e4d2a510966da4990b4a0b20e"), looks := false }, kinds := [], alts := [], laidByText := true, laidKinds := [.listed, .data], laidTests := true, laidLooks := .later }
def ParamsQuotedUptoCardSaid : Prop := Claim7.holds Tryd.pinned (.plain (OpenSpec.upto paramsQuotedSpec)) paramsQuotedUptoCard

/-- THE SECOND FORM's CARD OF 'cowrielaw18.ParamsAbsent'. -/
def paramsAbsentUptoCard : Claim7 := { stood := { row := paramsAbsentUptoRow, standIns := [], harness := (true, "1e58fa16aade4a5314fd73ed6cd6bba80d28139e4d2a510966da4990b4a0b20e"), looks := false }, kinds := [], alts := [], laidByText := true, laidKinds := [.listed, .data], laidTests := true, laidLooks := .later }
def ParamsAbsentUptoCardSaid : Prop := Claim7.holds Tryd.pinned (.plain (OpenSpec.upto paramsAbsentSpec)) paramsAbsentUptoCard
end Rows
end Go.Proofs.YtmjdlilmackneaaDoor

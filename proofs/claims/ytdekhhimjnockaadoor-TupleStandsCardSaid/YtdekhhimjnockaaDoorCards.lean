/-
  DERIVED. GIVEN WITH THE SEED: THE CARDS: each row of YtdekhhimjnockaaDoorRows.lean that lists a variable, with what it lists TIED to the program's text (the seventh form; the later family's looks); each row that meets fmt, with fmt's text TOLD by the authors' own Lean function (tested against real Go, not proved from fmt's source: count such statements apart). THE CARD IS WHAT COUNTS. Prove the row's statement (the work); the ties are given (YtdekhhimjnockaaDoorTie.lean); close each card by the builder's one call (the guide's Derived/Test/ToyasCard.lean, 'card_holds'). Laid BY PROGRAM, IN A SANDBOX (cutbox-door.mjs). By AI agents, Wed Nov 11 2026. No macro, syntax, notation, axiom, sorry.
-/
import Derived.Test.YtdekhhimjnockaaDoorRows
import GoSem.ClaimSeven
namespace Go.Proofs.YtdekhhimjnockaaDoor
namespace Rows

/-- THE TIED CARD OF 'sluicegatelaw37.TupleReads'. -/
def tupleReadsCard : Claim7 := { stood := { row := tupleReadsRow, standIns := [], harness := (true, "7be912b9683a3bb697de7dba5126dadd782d934560ddb181ec3c8b3461101554"), looks := false }, kinds := [], alts := [], laidByText := true, laidKinds := [.data, .pinned], laidTests := true, laidLooks := .later }
def TupleReadsCardSaid : Prop := Claim7.holds Tryd.pinned (.plain (OpenSpec.ofChange tupleReadsSpec)) tupleReadsCard

/-- THE TIED CARD OF 'sluicegatelaw37.TupleBegins'. -/
def tupleBeginsCard : Claim7 := { stood := { row := tupleBeginsRow, standIns := [], harness := (true, "7be912b9683a3bb697de7dba5126dadd782d934560ddb181ec3c8b3461101554"), looks := false }, kinds := [], alts := [], laidByText := true, laidKinds := [.data, .pinned], laidTests := true, laidLooks := .later }
def TupleBeginsCardSaid : Prop := Claim7.holds Tryd.pinned (.plain (OpenSpec.ofChange tupleBeginsSpec)) tupleBeginsCard

/-- THE TIED CARD OF 'sluicegatelaw37.TupleKeys'. -/
def tupleKeysCard : Claim7 := { stood := { row := tupleKeysRow, standIns := [], harness := (true, "7be912b9683a3bb697de7dba5126dadd782d934560ddb181ec3c8b3461101554"), looks := false }, kinds := [], alts := [], laidByText := true, laidKinds := [.data, .pinned], laidTests := true, laidLooks := .later }
def TupleKeysCardSaid : Prop := Claim7.holds Tryd.pinned (.plain (OpenSpec.ofChange tupleKeysSpec)) tupleKeysCard

/-- THE TIED CARD OF 'sluicegatelaw37.TupleStands'. -/
def tupleStandsCard : Claim7 := { stood := { row := tupleStandsRow, standIns := [], harness := (true, "7be912b9683a3bb697de7dba5126dadd782d934560ddb181ec3c8b3461101554"), looks := false }, kinds := [], alts := [], laidByText := true, laidKinds := [.data, .pinned], laidTests := true, laidLooks := .later }
def TupleStandsCardSaid : Prop := Claim7.holds Tryd.pinned (.plain (OpenSpec.ofChange tupleStandsSpec)) tupleStandsCard

/-- THE SECOND FORM's CARD OF 'sluicegatelaw37.TupleReads'. -/
def tupleReadsUptoCard : Claim7 := { stood := { row := tupleReadsUptoRow, standIns := [], harness := (true, "7be912b9683a3bb697de7dba5126dadd782d934560ddb181ec3c8b3461101554"), looks := false }, kinds := [], alts := [], laidByText := true, laidKinds := [.data, .pinned], laidTests := true, laidLooks := .later }
def TupleReadsUptoCardSaid : Prop := Claim7.holds Tryd.pinned (.plain (OpenSpec.upto tupleReadsSpec)) tupleReadsUptoCard

/-- THE SECOND FORM's CARD OF 'sluicegatelaw37.TupleBegins'. -/
def tupleBeginsUptoCard : Claim7 := { stood := { row := tupleBeginsUptoRow, standIns := [], harness := (true, "7be912b9683a3bb697de7dba5126dadd782d934560ddb181ec3c8b3461101554"), looks := false }, kinds := [], alts := [], laidByText := true, laidKinds := [.data, .pinned], laidTests := true, laidLooks := .later }
def TupleBeginsUptoCardSaid : Prop := Claim7.holds Tryd.pinned (.plain (OpenSpec.upto tupleBeginsSpec)) tupleBeginsUptoCard

/-- THE SECOND FORM's CARD OF 'sluicegatelaw37.TupleKeys'. -/
def tupleKeysUptoCard : Claim7 := { stood := { row := tupleKeysUptoRow, standIns := [], harness := (true, "7be912b9683a3bb697de7dba5126dadd782d934560ddb181ec3c8b3461101554"), looks := false }, kinds := [], alts := [], laidByText := true, laidKinds := [.data, .pinned], laidTests := true, laidLooks := .later }
def TupleKeysUptoCardSaid : Prop := Claim7.holds Tryd.pinned (.plain (OpenSpec.upto tupleKeysSpec)) tupleKeysUptoCard

/-- THE SECOND FORM's CARD OF 'sluicegatelaw37.TupleStands'. -/
def tupleStandsUptoCard : Claim7 := { stood := { row := tupleStandsUptoRow, standIns := [], harness := (true, "7be912b9683a3bb697de7dba5126dadd782d934560ddb181ec3c8b3461101554"), looks := false }, kinds := [], alts := [], laidByText := true, laidKinds := [.data, .pinned], laidTests := true, laidLooks := .later }
def TupleStandsUptoCardSaid : Prop := Claim7.holds Tryd.pinned (.plain (OpenSpec.upto tupleStandsSpec)) tupleStandsUptoCard
end Rows
end Go.Proofs.YtdekhhimjnockaaDoor

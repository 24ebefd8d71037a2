/-
  DERIVED. GIVEN WITH THE SEED: THE CARDS: each row of YtiioklboaookiaaDoorRows.lean that lists a variable, with what it lists TIED to the program's text (the seventh form; the later family's looks); each row that meets fmt, with fmt's text TOLD by the authors' own Lean function (tested against real Go, not proved from fmt's source: count such statements apart). THE CARD IS WHAT COUNTS. Prove the row's statement (the work); the ties are given (YtiioklboaookiaaDoorTie.lean); close each card by the builder's one call (the guide's Derived/Test/ToyasCard.lean, 'card_holds'). Laid BY PROGRAM, IN A SANDBOX (cutbox-door.mjs). By AI agents, Wed Nov 11 2026. No macro, syntax, notation, axiom, sorry.
-/
import Derived.Test.YtiioklboaookiaaDoorRows
import GoSem.ClaimSeven
namespace Go.Proofs.YtiioklboaookiaaDoor
namespace Rows

/-- THE TIED CARD OF 'silversidetop.TopShift'. -/
def topShiftCard : Claim7 := { stood := { row := topShiftRow, standIns := [], harness := (true, "ba2591ffae879231354a8d0794da60529ae193f4d30c7609f3e1b71ac640870e"), looks := false }, kinds := [], alts := [], laidByText := true, laidKinds := [.data], laidTests := true, laidLooks := .later }
def TopShiftCardSaid : Prop := Claim7.holds Tryd.pinned (.plain (OpenSpec.ofChange topShiftSpec)) topShiftCard

/-- THE SECOND FORM's CARD OF 'silversidetop.TopShift'. -/
def topShiftUptoCard : Claim7 := { stood := { row := topShiftUptoRow, standIns := [], harness := (true, "ba2591ffae879231354a8d0794da60529ae193f4d30c7609f3e1b71ac640870e"), looks := false }, kinds := [], alts := [], laidByText := true, laidKinds := [.data], laidTests := true, laidLooks := .later }
def TopShiftUptoCardSaid : Prop := Claim7.holds Tryd.pinned (.plain (OpenSpec.upto topShiftSpec)) topShiftUptoCard
end Rows
end Go.Proofs.YtiioklboaookiaaDoor

/-
  DERIVED. GIVEN WITH THE SEED: THE CARDS: each row of YtiioklboaookiaaGreatDoorRows.lean that lists a variable, with what it lists TIED to the program's text (the seventh form; the later family's looks); each row that meets fmt, with fmt's text TOLD by the authors' own Lean function (tested against real Go, not proved from fmt's source: count such statements apart). THE CARD IS WHAT COUNTS. Prove the row's statement (the work); the ties are given (YtiioklboaookiaaGreatDoorTie.lean); close each card by the builder's one call (the guide's Derived/Test/ToyasCard.lean, 'card_holds'). Laid BY PROGRAM, IN A SANDBOX (cutbox-door.mjs). By AI agents, Wed Nov 11 2026. No macro, syntax, notation, axiom, sorry.
-/
import Derived.Test.YtiioklboaookiaaGreatDoorRows
import GoSem.ClaimSeven
namespace Go.Proofs.YtiioklboaookiaaGreatDoor
namespace Rows

/-- THE TIED CARD OF 'silversidetop.TopCounted'. -/
def topCountedCard : Claim7 := { stood := { row := topCountedRow, standIns := [], harness := (true, "744520c2b6d8322e1bc1ec0f17a963318e9281c49e6ac543569704da068f76cf"), looks := false }, kinds := [], alts := [], laidByText := true, laidKinds := [.data], laidTests := true, laidLooks := .later }
def TopCountedCardSaid : Prop := Claim7.holds Tryz.pinned (.plain (OpenSpec.ofChange topCountedSpec)) topCountedCard

/-- THE TIED CARD OF 'silversidetop.TopHours'. -/
def topHoursCard : Claim7 := { stood := { row := topHoursRow, standIns := [], harness := (true, "744520c2b6d8322e1bc1ec0f17a963318e9281c49e6ac543569704da068f76cf"), looks := false }, kinds := [], alts := [], laidByText := true, laidKinds := [.data], laidTests := true, laidLooks := .later }
def TopHoursCardSaid : Prop := Claim7.holds Tryz.pinned (.plain (OpenSpec.ofChange topHoursSpec)) topHoursCard

/-- THE TIED CARD OF 'silversidetop.TopSold'. -/
def topSoldCard : Claim7 := { stood := { row := topSoldRow, standIns := [], harness := (true, "744520c2b6d8322e1bc1ec0f17a963318e9281c49e6ac543569704da068f76cf"), looks := false }, kinds := [], alts := [], laidByText := true, laidKinds := [.data], laidTests := true, laidLooks := .later }
def TopSoldCardSaid : Prop := Claim7.holds Tryz.pinned (.plain (OpenSpec.ofChange topSoldSpec)) topSoldCard

/-- THE TIED CARD OF 'silversidetop.TopSlots'. -/
def topSlotsCard : Claim7 := { stood := { row := topSlotsRow, standIns := [], harness := (true, "744520c2b6d8322e1bc1ec0f17a963318e9281c49e6ac543569704da068f76cf"), looks := false }, kinds := [], alts := [], laidByText := true, laidKinds := [.data], laidTests := true, laidLooks := .later }
def TopSlotsCardSaid : Prop := Claim7.holds Tryz.pinned (.plain (OpenSpec.ofChange topSlotsSpec)) topSlotsCard

/-- THE SECOND FORM's CARD OF 'silversidetop.TopCounted'. -/
def topCountedUptoCard : Claim7 := { stood := { row := topCountedUptoRow, standIns := [], harness := (true, "744520c2b6d8322e1bc1ec0f17a963318e9281c49e6ac543569704da068f76cf"), looks := false }, kinds := [], alts := [], laidByText := true, laidKinds := [.data], laidTests := true, laidLooks := .later }
def TopCountedUptoCardSaid : Prop := Claim7.holds Tryz.pinned (.plain (OpenSpec.upto topCountedSpec)) topCountedUptoCard

/-- THE SECOND FORM's CARD OF 'silversidetop.TopHours'. -/
def topHoursUptoCard : Claim7 := { stood := { row := topHoursUptoRow, standIns := [], harness := (true, "744520c2b6d8322e1bc1ec0f17a963318e9281c49e6ac543569704da068f76cf"), looks := false }, kinds := [], alts := [], laidByText := true, laidKinds := [.data], laidTests := true, laidLooks := .later }
def TopHoursUptoCardSaid : Prop := Claim7.holds Tryz.pinned (.plain (OpenSpec.upto topHoursSpec)) topHoursUptoCard

/-- THE SECOND FORM's CARD OF 'silversidetop.TopSold'. -/
def topSoldUptoCard : Claim7 := { stood := { row := topSoldUptoRow, standIns := [], harness := (true, "744520c2b6d8322e1bc1ec0f17a963318e9281c49e6ac543569704da068f76cf"), looks := false }, kinds := [], alts := [], laidByText := true, laidKinds := [.data], laidTests := true, laidLooks := .later }
def TopSoldUptoCardSaid : Prop := Claim7.holds Tryz.pinned (.plain (OpenSpec.upto topSoldSpec)) topSoldUptoCard

/-- THE SECOND FORM's CARD OF 'silversidetop.TopSlots'. -/
def topSlotsUptoCard : Claim7 := { stood := { row := topSlotsUptoRow, standIns := [], harness := (true, "744520c2b6d8322e1bc1ec0f17a963318e9281c49e6ac543569704da068f76cf"), looks := false }, kinds := [], alts := [], laidByText := true, laidKinds := [.data], laidTests := true, laidLooks := .later }
def TopSlotsUptoCardSaid : Prop := Claim7.holds Tryz.pinned (.plain (OpenSpec.upto topSlotsSpec)) topSlotsUptoCard
end Rows
end Go.Proofs.YtiioklboaookiaaGreatDoor

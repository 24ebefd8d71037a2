/-
  NARROWER THAN 'FOR EVERY INPUT', by the rows' own cells (each row's printed sentence says how): TopCounted: laid · TopHours: laid · TopSold: laid · TopSlots: laid.
  DERIVED. THE GIVEN ROWS OF THIS SEAT. 4 by the template 'for every input the law returns true; each argument reads behind the call as it read before'; 0 by the template 'total and deterministic' (their statements: YtiioklboaookiaaGreatDoorTotals.lean).
  GIVEN WITH THE SEED: the statements are not yours to turn. If you find one false, say at which input.
  Laid BY PROGRAM, IN A SANDBOX (cutbox-rows.mjs): the forced cells as the released guide's own fill.sh prints them over the translation c0302787c5c09633… (all of the seat's roots in one cut). By AI agents, Wed Nov 11 2026. No macro, syntax, notation, axiom, sorry.
-/
import Derived.Test.YtiioklboaookiaaGreatDoorChecked
import GoSem.Claim
import GoSem.ClaimJoined
import GoSem.ClaimMapViews
import Derived.JoinedTies
import Derived.KernelRfl
namespace Go.Proofs.YtiioklboaookiaaGreatDoor
/- THE CELL 'sum', in the pinned program and in every row, IS THE sha256 OF THE DUMP (.gsa) THAT YtiioklboaookiaaGreatDoorProg.lean LOADS. Nothing in Lean hashes anything: it is a label: what it is worth is what the hold of that sum in a sandbox is worth. -/
noncomputable def Tryz.pinned : Pinned := { name := "ytiioklboaookiaagreatdoor", sum := "c0302787c5c09633a073870c0b6ca26a3f5dd3d48619ff6417dcf0583a048347", checked := Tryz.checked }
namespace Rows
def none {H : Type} : Left H := { results := [], args := [] }

/- WHAT THE LISTED PACKAGE-LEVEL VARIABLES READ AS WHEN THE CALL BEGINS. Each datum BY PROGRAM (the guide's laid-datum.mjs) off the statement by which the dump's own 'gosem.cut.vars' lays the variable. In a bare row this is a premise. The card (YtiioklboaookiaaGreatDoorCards.lean) ties it to the program's text. -/
def laid_silverside_bench_none {H : Type} : DataW H := .agg [.lit (.int .i64 (-1)), .lit (.int .i64 (-1))]

/-- 'silversidetop.TopCounted': WHATEVER THE INPUT: true; the input reads as it did. -/
def topCountedSpec : ChangeSpec := { name := "topCounted", fn := fun _ => fun
  | [d1, d2, d3] => { results := [.lit (.bool true)], args := [d1, d2, d3] }
  | _ => none }
def topCountedRow : OpenClaim := { program := "ytiioklboaookiaagreatdoor", sum := "c0302787c5c09633a073870c0b6ca26a3f5dd3d48619ff6417dcf0583a048347", func := "silverside/silversidetop.TopCounted", spec := "topCounted", unfollowed := true, recurses := true, named := ["silverside/bench.none"], plainKeys := false, apart := false, laid := [("silverside/bench.none", laid_silverside_bench_none)] }
def TopCountedSaid : Prop := topCountedRow.holds Tryz.pinned (OpenSpec.ofChange topCountedSpec)

/-- ITS FALSE NEIGHBOUR: 'it returns false'. Refute it at one input. -/
def topCountedWrong : ChangeSpec := { name := "topCounted", fn := fun _ => fun
  | [d1, d2, d3] => { results := [.lit (.bool false)], args := [d1, d2, d3] }
  | _ => none }
def TopCountedWrongFalsely : Prop := topCountedRow.holds Tryz.pinned (OpenSpec.ofChange topCountedWrong)

/-- 'silversidetop.TopHours': WHATEVER THE INPUT: true; the input reads as it did. -/
def topHoursSpec : ChangeSpec := { name := "topHours", fn := fun _ => fun
  | [d1, d2, d3] => { results := [.lit (.bool true)], args := [d1, d2, d3] }
  | _ => none }
def topHoursRow : OpenClaim := { program := "ytiioklboaookiaagreatdoor", sum := "c0302787c5c09633a073870c0b6ca26a3f5dd3d48619ff6417dcf0583a048347", func := "silverside/silversidetop.TopHours", spec := "topHours", unfollowed := true, recurses := true, named := ["silverside/bench.none"], plainKeys := false, apart := false, laid := [("silverside/bench.none", laid_silverside_bench_none)] }
def TopHoursSaid : Prop := topHoursRow.holds Tryz.pinned (OpenSpec.ofChange topHoursSpec)

/-- ITS FALSE NEIGHBOUR: 'it returns false'. Refute it at one input. -/
def topHoursWrong : ChangeSpec := { name := "topHours", fn := fun _ => fun
  | [d1, d2, d3] => { results := [.lit (.bool false)], args := [d1, d2, d3] }
  | _ => none }
def TopHoursWrongFalsely : Prop := topHoursRow.holds Tryz.pinned (OpenSpec.ofChange topHoursWrong)

/-- 'silversidetop.TopSold': WHATEVER THE INPUT: true; the input reads as it did. -/
def topSoldSpec : ChangeSpec := { name := "topSold", fn := fun _ => fun
  | [d1, d2, d3] => { results := [.lit (.bool true)], args := [d1, d2, d3] }
  | _ => none }
def topSoldRow : OpenClaim := { program := "ytiioklboaookiaagreatdoor", sum := "c0302787c5c09633a073870c0b6ca26a3f5dd3d48619ff6417dcf0583a048347", func := "silverside/silversidetop.TopSold", spec := "topSold", unfollowed := true, recurses := true, named := ["silverside/bench.none"], plainKeys := false, apart := false, laid := [("silverside/bench.none", laid_silverside_bench_none)] }
def TopSoldSaid : Prop := topSoldRow.holds Tryz.pinned (OpenSpec.ofChange topSoldSpec)

/-- ITS FALSE NEIGHBOUR: 'it returns false'. Refute it at one input. -/
def topSoldWrong : ChangeSpec := { name := "topSold", fn := fun _ => fun
  | [d1, d2, d3] => { results := [.lit (.bool false)], args := [d1, d2, d3] }
  | _ => none }
def TopSoldWrongFalsely : Prop := topSoldRow.holds Tryz.pinned (OpenSpec.ofChange topSoldWrong)

/-- 'silversidetop.TopSlots': WHATEVER THE INPUT: true; the input reads as it did. -/
def topSlotsSpec : ChangeSpec := { name := "topSlots", fn := fun _ => fun
  | [d1, d2] => { results := [.lit (.bool true)], args := [d1, d2] }
  | _ => none }
def topSlotsRow : OpenClaim := { program := "ytiioklboaookiaagreatdoor", sum := "c0302787c5c09633a073870c0b6ca26a3f5dd3d48619ff6417dcf0583a048347", func := "silverside/silversidetop.TopSlots", spec := "topSlots", unfollowed := true, recurses := true, named := ["silverside/bench.none"], plainKeys := false, apart := false, laid := [("silverside/bench.none", laid_silverside_bench_none)] }
def TopSlotsSaid : Prop := topSlotsRow.holds Tryz.pinned (OpenSpec.ofChange topSlotsSpec)

/-- ITS FALSE NEIGHBOUR: 'it returns false'. Refute it at one input. -/
def topSlotsWrong : ChangeSpec := { name := "topSlots", fn := fun _ => fun
  | [d1, d2] => { results := [.lit (.bool false)], args := [d1, d2] }
  | _ => none }
def TopSlotsWrongFalsely : Prop := topSlotsRow.holds Tryz.pinned (OpenSpec.ofChange topSlotsWrong)

/- THE SECOND FORM. 'bulk': how many values and letters a reading holds, each counted each time it is reached (what is shared counts as often as it is met; a slice's spare places count too). A statement '..UptoSaid' is the law's where the arguments, and the package variables that the reading takes, are together of bulk at most 1048576: NARROWER than '..Said'. Prove '..Said' where nothing that the law and all that it calls make is longer than what came in: it says more and counts as full. Else prove '..UptoSaid'. A law counts once. -/
mutual
def uptoBulk {H : Type} : DataW H → Nat
  | .lit (.string bytes) => bytes.length + 1
  | .lit _ => 1
  | .nil => 1
  | .ptr d => uptoBulk d + 1
  | .slice elems spare => uptoBulkAll elems + uptoBulkAll spare + 1
  | .agg parts => uptoBulkAll parts + 1
  | .iface _ d => uptoBulk d + 1
  | .map entries => uptoBulkEntries entries + 1
  | .held _ => 1
def uptoBulkAll {H : Type} : List (DataW H) → Nat
  | [] => 0
  | d :: r => uptoBulk d + uptoBulkAll r
def uptoBulkEntries {H : Type} : List (Lit × DataW H) → Nat
  | [] => 0
  | x :: r => uptoBulkEntry x + uptoBulkEntries r
def uptoBulkEntry {H : Type} : Lit × DataW H → Nat
  | (.string bytes, d) => bytes.length + uptoBulk d + 1
  | (_, d) => uptoBulk d + 1
 end
def uptoSmall : (H : Type) → List (DataW H) → Bool := fun _ ds => decide (uptoBulkAll ds ≤ 1048576)
def OpenSpec.upto (s : _root_.Go.ChangeSpec) : _root_.Go.OpenSpec := { _root_.Go.OpenSpec.ofChange s with cond := some uptoSmall }

/-- 'silversidetop.TopCounted', WHERE WHAT IT READS IS OF BULK AT MOST 1048576: true; the input reads as it did. -/
def topCountedUptoRow : OpenClaim := { program := "ytiioklboaookiaagreatdoor", sum := "c0302787c5c09633a073870c0b6ca26a3f5dd3d48619ff6417dcf0583a048347", func := "silverside/silversidetop.TopCounted", spec := "topCounted", unfollowed := true, recurses := true, named := ["silverside/bench.none"], plainKeys := false, apart := false, laid := [("silverside/bench.none", laid_silverside_bench_none)], narrowed := true }
def TopCountedUptoSaid : Prop := topCountedUptoRow.holds Tryz.pinned (OpenSpec.upto topCountedSpec)

/-- 'silversidetop.TopHours', WHERE WHAT IT READS IS OF BULK AT MOST 1048576: true; the input reads as it did. -/
def topHoursUptoRow : OpenClaim := { program := "ytiioklboaookiaagreatdoor", sum := "c0302787c5c09633a073870c0b6ca26a3f5dd3d48619ff6417dcf0583a048347", func := "silverside/silversidetop.TopHours", spec := "topHours", unfollowed := true, recurses := true, named := ["silverside/bench.none"], plainKeys := false, apart := false, laid := [("silverside/bench.none", laid_silverside_bench_none)], narrowed := true }
def TopHoursUptoSaid : Prop := topHoursUptoRow.holds Tryz.pinned (OpenSpec.upto topHoursSpec)

/-- 'silversidetop.TopSold', WHERE WHAT IT READS IS OF BULK AT MOST 1048576: true; the input reads as it did. -/
def topSoldUptoRow : OpenClaim := { program := "ytiioklboaookiaagreatdoor", sum := "c0302787c5c09633a073870c0b6ca26a3f5dd3d48619ff6417dcf0583a048347", func := "silverside/silversidetop.TopSold", spec := "topSold", unfollowed := true, recurses := true, named := ["silverside/bench.none"], plainKeys := false, apart := false, laid := [("silverside/bench.none", laid_silverside_bench_none)], narrowed := true }
def TopSoldUptoSaid : Prop := topSoldUptoRow.holds Tryz.pinned (OpenSpec.upto topSoldSpec)

/-- 'silversidetop.TopSlots', WHERE WHAT IT READS IS OF BULK AT MOST 1048576: true; the input reads as it did. -/
def topSlotsUptoRow : OpenClaim := { program := "ytiioklboaookiaagreatdoor", sum := "c0302787c5c09633a073870c0b6ca26a3f5dd3d48619ff6417dcf0583a048347", func := "silverside/silversidetop.TopSlots", spec := "topSlots", unfollowed := true, recurses := true, named := ["silverside/bench.none"], plainKeys := false, apart := false, laid := [("silverside/bench.none", laid_silverside_bench_none)], narrowed := true }
def TopSlotsUptoSaid : Prop := topSlotsUptoRow.holds Tryz.pinned (OpenSpec.upto topSlotsSpec)

end Rows
end Go.Proofs.YtiioklboaookiaaGreatDoor

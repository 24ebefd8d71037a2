/-
  No cell of these rows narrows 'for every input' (looked for: loops, veiled, ifaces, maps, wideKeys, modest, calm, conditions, laid).
  DERIVED. THE GIVEN ROWS OF THIS SEAT. 10 by the template 'for every input the law returns true; each argument reads behind the call as it read before'; 0 by the template 'total and deterministic' (their statements: YtdgjanjoiabgfaaTotals.lean).
  GIVEN WITH THE SEED: the statements are not yours to turn. If you find one false, say at which input.
  Laid BY PROGRAM, IN A SANDBOX (cutbox-rows.mjs): the forced cells as the released guide's own fill.sh prints them over the translation e0a1acf15285b665… (all of the seat's roots in one cut). By AI agents, Wed Nov 11 2026. No macro, syntax, notation, axiom, sorry.
-/
import Derived.Test.YtdgjanjoiabgfaaChecked
import GoSem.Claim
import GoSem.ClaimJoined
import GoSem.ClaimMapViews
import Derived.JoinedTies
import Derived.KernelRfl
namespace Go.Proofs.Ytdgjanjoiabgfaa
/- THE CELL 'sum', in the pinned program and in every row, IS THE sha256 OF THE DUMP (.gsa) THAT YtdgjanjoiabgfaaProg.lean LOADS. Nothing in Lean hashes anything: it is a label: what it is worth is what the hold of that sum in a sandbox is worth. -/
noncomputable def Try.pinned : Pinned := { name := "ytdgjanjoiabgfaa", sum := "e0a1acf15285b6652bfa4b343dd247b1560d907ee6c8b5e72b392c4d8d08c45e", checked := Try.checked }
namespace Rows
def none {H : Type} : Left H := { results := [], args := [] }

/-- 'silversidelaw03.LabelEncodes': WHATEVER THE INPUT: true; the input reads as it did. -/
def labelEncodesSpec : ChangeSpec := { name := "labelEncodes", fn := fun _ => fun
  | [d1, d2] => { results := [.lit (.bool true)], args := [d1, d2] }
  | _ => none }
def labelEncodesRow : OpenClaim := { program := "ytdgjanjoiabgfaa", sum := "e0a1acf15285b6652bfa4b343dd247b1560d907ee6c8b5e72b392c4d8d08c45e", func := "silverside/silversidelaw03.LabelEncodes", spec := "labelEncodes", unfollowed := true, recurses := true, apart := false }
def LabelEncodesSaid : Prop := labelEncodesRow.holds Try.pinned (OpenSpec.ofChange labelEncodesSpec)

/-- ITS FALSE NEIGHBOUR: 'it returns false'. Refute it at one input. -/
def labelEncodesWrong : ChangeSpec := { name := "labelEncodes", fn := fun _ => fun
  | [d1, d2] => { results := [.lit (.bool false)], args := [d1, d2] }
  | _ => none }
def LabelEncodesWrongFalsely : Prop := labelEncodesRow.holds Try.pinned (OpenSpec.ofChange labelEncodesWrong)

/-- 'silversidelaw03.LabelDecodes': WHATEVER THE INPUT: true; the input reads as it did. -/
def labelDecodesSpec : ChangeSpec := { name := "labelDecodes", fn := fun _ => fun
  | [d1, d2, d3] => { results := [.lit (.bool true)], args := [d1, d2, d3] }
  | _ => none }
def labelDecodesRow : OpenClaim := { program := "ytdgjanjoiabgfaa", sum := "e0a1acf15285b6652bfa4b343dd247b1560d907ee6c8b5e72b392c4d8d08c45e", func := "silverside/silversidelaw03.LabelDecodes", spec := "labelDecodes", unfollowed := true, recurses := true, apart := false }
def LabelDecodesSaid : Prop := labelDecodesRow.holds Try.pinned (OpenSpec.ofChange labelDecodesSpec)

/-- ITS FALSE NEIGHBOUR: 'it returns false'. Refute it at one input. -/
def labelDecodesWrong : ChangeSpec := { name := "labelDecodes", fn := fun _ => fun
  | [d1, d2, d3] => { results := [.lit (.bool false)], args := [d1, d2, d3] }
  | _ => none }
def LabelDecodesWrongFalsely : Prop := labelDecodesRow.holds Try.pinned (OpenSpec.ofChange labelDecodesWrong)

/-- 'silversidelaw03.LabelMends': WHATEVER THE INPUT: true; the input reads as it did. -/
def labelMendsSpec : ChangeSpec := { name := "labelMends", fn := fun _ => fun
  | [d1, d2, d3] => { results := [.lit (.bool true)], args := [d1, d2, d3] }
  | _ => none }
def labelMendsRow : OpenClaim := { program := "ytdgjanjoiabgfaa", sum := "e0a1acf15285b6652bfa4b343dd247b1560d907ee6c8b5e72b392c4d8d08c45e", func := "silverside/silversidelaw03.LabelMends", spec := "labelMends", unfollowed := true, recurses := true, apart := false }
def LabelMendsSaid : Prop := labelMendsRow.holds Try.pinned (OpenSpec.ofChange labelMendsSpec)

/-- ITS FALSE NEIGHBOUR: 'it returns false'. Refute it at one input. -/
def labelMendsWrong : ChangeSpec := { name := "labelMends", fn := fun _ => fun
  | [d1, d2, d3] => { results := [.lit (.bool false)], args := [d1, d2, d3] }
  | _ => none }
def LabelMendsWrongFalsely : Prop := labelMendsRow.holds Try.pinned (OpenSpec.ofChange labelMendsWrong)

/-- 'silversidelaw03.LabelFills': WHATEVER THE INPUT: true; the input reads as it did. -/
def labelFillsSpec : ChangeSpec := { name := "labelFills", fn := fun _ => fun
  | [d1, d2, d3, d4] => { results := [.lit (.bool true)], args := [d1, d2, d3, d4] }
  | _ => none }
def labelFillsRow : OpenClaim := { program := "ytdgjanjoiabgfaa", sum := "e0a1acf15285b6652bfa4b343dd247b1560d907ee6c8b5e72b392c4d8d08c45e", func := "silverside/silversidelaw03.LabelFills", spec := "labelFills", unfollowed := true, recurses := true, apart := false }
def LabelFillsSaid : Prop := labelFillsRow.holds Try.pinned (OpenSpec.ofChange labelFillsSpec)

/-- ITS FALSE NEIGHBOUR: 'it returns false'. Refute it at one input. -/
def labelFillsWrong : ChangeSpec := { name := "labelFills", fn := fun _ => fun
  | [d1, d2, d3, d4] => { results := [.lit (.bool false)], args := [d1, d2, d3, d4] }
  | _ => none }
def LabelFillsWrongFalsely : Prop := labelFillsRow.holds Try.pinned (OpenSpec.ofChange labelFillsWrong)

/-- 'silversidelaw03.LabelApart': WHATEVER THE INPUT: true; the input reads as it did. -/
def labelApartSpec : ChangeSpec := { name := "labelApart", fn := fun _ => fun
  | [d1, d2, d3] => { results := [.lit (.bool true)], args := [d1, d2, d3] }
  | _ => none }
def labelApartRow : OpenClaim := { program := "ytdgjanjoiabgfaa", sum := "e0a1acf15285b6652bfa4b343dd247b1560d907ee6c8b5e72b392c4d8d08c45e", func := "silverside/silversidelaw03.LabelApart", spec := "labelApart", unfollowed := true, recurses := true, apart := false }
def LabelApartSaid : Prop := labelApartRow.holds Try.pinned (OpenSpec.ofChange labelApartSpec)

/-- ITS FALSE NEIGHBOUR: 'it returns false'. Refute it at one input. -/
def labelApartWrong : ChangeSpec := { name := "labelApart", fn := fun _ => fun
  | [d1, d2, d3] => { results := [.lit (.bool false)], args := [d1, d2, d3] }
  | _ => none }
def LabelApartWrongFalsely : Prop := labelApartRow.holds Try.pinned (OpenSpec.ofChange labelApartWrong)

/-- 'silversidelaw03.LabelNear': WHATEVER THE INPUT: true; the input reads as it did. -/
def labelNearSpec : ChangeSpec := { name := "labelNear", fn := fun _ => fun
  | [d1, d2, d3] => { results := [.lit (.bool true)], args := [d1, d2, d3] }
  | _ => none }
def labelNearRow : OpenClaim := { program := "ytdgjanjoiabgfaa", sum := "e0a1acf15285b6652bfa4b343dd247b1560d907ee6c8b5e72b392c4d8d08c45e", func := "silverside/silversidelaw03.LabelNear", spec := "labelNear", unfollowed := true, recurses := true, apart := false }
def LabelNearSaid : Prop := labelNearRow.holds Try.pinned (OpenSpec.ofChange labelNearSpec)

/-- ITS FALSE NEIGHBOUR: 'it returns false'. Refute it at one input. -/
def labelNearWrong : ChangeSpec := { name := "labelNear", fn := fun _ => fun
  | [d1, d2, d3] => { results := [.lit (.bool false)], args := [d1, d2, d3] }
  | _ => none }
def LabelNearWrongFalsely : Prop := labelNearRow.holds Try.pinned (OpenSpec.ofChange labelNearWrong)

/-- 'silversidelaw03.LabelField': WHATEVER THE INPUT: true; the input reads as it did. -/
def labelFieldSpec : ChangeSpec := { name := "labelField", fn := fun _ => fun
  | [d1, d2] => { results := [.lit (.bool true)], args := [d1, d2] }
  | _ => none }
def labelFieldRow : OpenClaim := { program := "ytdgjanjoiabgfaa", sum := "e0a1acf15285b6652bfa4b343dd247b1560d907ee6c8b5e72b392c4d8d08c45e", func := "silverside/silversidelaw03.LabelField", spec := "labelField", unfollowed := true, recurses := true, apart := false }
def LabelFieldSaid : Prop := labelFieldRow.holds Try.pinned (OpenSpec.ofChange labelFieldSpec)

/-- ITS FALSE NEIGHBOUR: 'it returns false'. Refute it at one input. -/
def labelFieldWrong : ChangeSpec := { name := "labelField", fn := fun _ => fun
  | [d1, d2] => { results := [.lit (.bool false)], args := [d1, d2] }
  | _ => none }
def LabelFieldWrongFalsely : Prop := labelFieldRow.holds Try.pinned (OpenSpec.ofChange labelFieldWrong)

/-- 'silversidelaw03.LabelRing': WHATEVER THE INPUT: true; the input reads as it did. -/
def labelRingSpec : ChangeSpec := { name := "labelRing", fn := fun _ => fun
  | [d1, d2, d3] => { results := [.lit (.bool true)], args := [d1, d2, d3] }
  | _ => none }
def labelRingRow : OpenClaim := { program := "ytdgjanjoiabgfaa", sum := "e0a1acf15285b6652bfa4b343dd247b1560d907ee6c8b5e72b392c4d8d08c45e", func := "silverside/silversidelaw03.LabelRing", spec := "labelRing", unfollowed := true, recurses := true, apart := false }
def LabelRingSaid : Prop := labelRingRow.holds Try.pinned (OpenSpec.ofChange labelRingSpec)

/-- ITS FALSE NEIGHBOUR: 'it returns false'. Refute it at one input. -/
def labelRingWrong : ChangeSpec := { name := "labelRing", fn := fun _ => fun
  | [d1, d2, d3] => { results := [.lit (.bool false)], args := [d1, d2, d3] }
  | _ => none }
def LabelRingWrongFalsely : Prop := labelRingRow.holds Try.pinned (OpenSpec.ofChange labelRingWrong)

/-- 'silversidelaw03.LabelWords': WHATEVER THE INPUT: true; the input reads as it did. -/
def labelWordsSpec : ChangeSpec := { name := "labelWords", fn := fun _ => fun
  | [d1, d2] => { results := [.lit (.bool true)], args := [d1, d2] }
  | _ => none }
def labelWordsRow : OpenClaim := { program := "ytdgjanjoiabgfaa", sum := "e0a1acf15285b6652bfa4b343dd247b1560d907ee6c8b5e72b392c4d8d08c45e", func := "silverside/silversidelaw03.LabelWords", spec := "labelWords", unfollowed := true, recurses := true, apart := false }
def LabelWordsSaid : Prop := labelWordsRow.holds Try.pinned (OpenSpec.ofChange labelWordsSpec)

/-- ITS FALSE NEIGHBOUR: 'it returns false'. Refute it at one input. -/
def labelWordsWrong : ChangeSpec := { name := "labelWords", fn := fun _ => fun
  | [d1, d2] => { results := [.lit (.bool false)], args := [d1, d2] }
  | _ => none }
def LabelWordsWrongFalsely : Prop := labelWordsRow.holds Try.pinned (OpenSpec.ofChange labelWordsWrong)

/-- 'silversidelaw03.LabelSums': WHATEVER THE INPUT: true; the input reads as it did. -/
def labelSumsSpec : ChangeSpec := { name := "labelSums", fn := fun _ => fun
  | [d1, d2, d3, d4] => { results := [.lit (.bool true)], args := [d1, d2, d3, d4] }
  | _ => none }
def labelSumsRow : OpenClaim := { program := "ytdgjanjoiabgfaa", sum := "e0a1acf15285b6652bfa4b343dd247b1560d907ee6c8b5e72b392c4d8d08c45e", func := "silverside/silversidelaw03.LabelSums", spec := "labelSums", unfollowed := true, recurses := true, apart := false }
def LabelSumsSaid : Prop := labelSumsRow.holds Try.pinned (OpenSpec.ofChange labelSumsSpec)

/-- ITS FALSE NEIGHBOUR: 'it returns false'. Refute it at one input. -/
def labelSumsWrong : ChangeSpec := { name := "labelSums", fn := fun _ => fun
  | [d1, d2, d3, d4] => { results := [.lit (.bool false)], args := [d1, d2, d3, d4] }
  | _ => none }
def LabelSumsWrongFalsely : Prop := labelSumsRow.holds Try.pinned (OpenSpec.ofChange labelSumsWrong)

/- THE SECOND FORM. 'bulk': how many values and letters a reading holds, each counted each time it is reached (what is shared counts as often as it is met; a slice's spare places count too). A statement '..UptoSaid' is the law's where the arguments, and the package variables that the reading takes, are together of bulk at most 1048576: NARROWER than '..Said'. Prove '..Said' where nothing that the law and all that it calls make is longer than what came in: it says more and counts as full. Else prove '..UptoSaid'. A law counts once. -/
mutual
def uptoBulk {H : Type} : DataW H → Nat
  | .lit (.string bytes) => bytes.length + 1
  | .lit _ => 1
  | .nil => 1
  | .ptr d => uptoBulk d + 1
  | .slice elems spare => uptoBulkAll elems + uptoBulkAll spare + 1
  | .agg parts => uptoBulkAll parts + 1
  | .iface _ d => uptoBulk d + 1
  | .map entries => uptoBulkEntries entries + 1
  | .held _ => 1
def uptoBulkAll {H : Type} : List (DataW H) → Nat
  | [] => 0
  | d :: r => uptoBulk d + uptoBulkAll r
def uptoBulkEntries {H : Type} : List (Lit × DataW H) → Nat
  | [] => 0
  | x :: r => uptoBulkEntry x + uptoBulkEntries r
def uptoBulkEntry {H : Type} : Lit × DataW H → Nat
  | (.string bytes, d) => bytes.length + uptoBulk d + 1
  | (_, d) => uptoBulk d + 1
 end
def uptoSmall : (H : Type) → List (DataW H) → Bool := fun _ ds => decide (uptoBulkAll ds ≤ 1048576)
def OpenSpec.upto (s : _root_.Go.ChangeSpec) : _root_.Go.OpenSpec := { _root_.Go.OpenSpec.ofChange s with cond := some uptoSmall }

/-- 'silversidelaw03.LabelEncodes', WHERE WHAT IT READS IS OF BULK AT MOST 1048576: true; the input reads as it did. -/
def labelEncodesUptoRow : OpenClaim := { program := "ytdgjanjoiabgfaa", sum := "e0a1acf15285b6652bfa4b343dd247b1560d907ee6c8b5e72b392c4d8d08c45e", func := "silverside/silversidelaw03.LabelEncodes", spec := "labelEncodes", unfollowed := true, recurses := true, apart := false, narrowed := true }
def LabelEncodesUptoSaid : Prop := labelEncodesUptoRow.holds Try.pinned (OpenSpec.upto labelEncodesSpec)

/-- 'silversidelaw03.LabelDecodes', WHERE WHAT IT READS IS OF BULK AT MOST 1048576: true; the input reads as it did. -/
def labelDecodesUptoRow : OpenClaim := { program := "ytdgjanjoiabgfaa", sum := "e0a1acf15285b6652bfa4b343dd247b1560d907ee6c8b5e72b392c4d8d08c45e", func := "silverside/silversidelaw03.LabelDecodes", spec := "labelDecodes", unfollowed := true, recurses := true, apart := false, narrowed := true }
def LabelDecodesUptoSaid : Prop := labelDecodesUptoRow.holds Try.pinned (OpenSpec.upto labelDecodesSpec)

/-- 'silversidelaw03.LabelMends', WHERE WHAT IT READS IS OF BULK AT MOST 1048576: true; the input reads as it did. -/
def labelMendsUptoRow : OpenClaim := { program := "ytdgjanjoiabgfaa", sum := "e0a1acf15285b6652bfa4b343dd247b1560d907ee6c8b5e72b392c4d8d08c45e", func := "silverside/silversidelaw03.LabelMends", spec := "labelMends", unfollowed := true, recurses := true, apart := false, narrowed := true }
def LabelMendsUptoSaid : Prop := labelMendsUptoRow.holds Try.pinned (OpenSpec.upto labelMendsSpec)

/-- 'silversidelaw03.LabelFills', WHERE WHAT IT READS IS OF BULK AT MOST 1048576: true; the input reads as it did. -/
def labelFillsUptoRow : OpenClaim := { program := "ytdgjanjoiabgfaa", sum := "e0a1acf15285b6652bfa4b343dd247b1560d907ee6c8b5e72b392c4d8d08c45e", func := "silverside/silversidelaw03.LabelFills", spec := "labelFills", unfollowed := true, recurses := true, apart := false, narrowed := true }
def LabelFillsUptoSaid : Prop := labelFillsUptoRow.holds Try.pinned (OpenSpec.upto labelFillsSpec)

/-- 'silversidelaw03.LabelApart', WHERE WHAT IT READS IS OF BULK AT MOST 1048576: true; the input reads as it did. -/
def labelApartUptoRow : OpenClaim := { program := "ytdgjanjoiabgfaa", sum := "e0a1acf15285b6652bfa4b343dd247b1560d907ee6c8b5e72b392c4d8d08c45e", func := "silverside/silversidelaw03.LabelApart", spec := "labelApart", unfollowed := true, recurses := true, apart := false, narrowed := true }
def LabelApartUptoSaid : Prop := labelApartUptoRow.holds Try.pinned (OpenSpec.upto labelApartSpec)

/-- 'silversidelaw03.LabelNear', WHERE WHAT IT READS IS OF BULK AT MOST 1048576: true; the input reads as it did. -/
def labelNearUptoRow : OpenClaim := { program := "ytdgjanjoiabgfaa", sum := "e0a1acf15285b6652bfa4b343dd247b1560d907ee6c8b5e72b392c4d8d08c45e", func := "silverside/silversidelaw03.LabelNear", spec := "labelNear", unfollowed := true, recurses := true, apart := false, narrowed := true }
def LabelNearUptoSaid : Prop := labelNearUptoRow.holds Try.pinned (OpenSpec.upto labelNearSpec)

/-- 'silversidelaw03.LabelField', WHERE WHAT IT READS IS OF BULK AT MOST 1048576: true; the input reads as it did. -/
def labelFieldUptoRow : OpenClaim := { program := "ytdgjanjoiabgfaa", sum := "e0a1acf15285b6652bfa4b343dd247b1560d907ee6c8b5e72b392c4d8d08c45e", func := "silverside/silversidelaw03.LabelField", spec := "labelField", unfollowed := true, recurses := true, apart := false, narrowed := true }
def LabelFieldUptoSaid : Prop := labelFieldUptoRow.holds Try.pinned (OpenSpec.upto labelFieldSpec)

/-- 'silversidelaw03.LabelRing', WHERE WHAT IT READS IS OF BULK AT MOST 1048576: true; the input reads as it did. -/
def labelRingUptoRow : OpenClaim := { program := "ytdgjanjoiabgfaa", sum := "e0a1acf15285b6652bfa4b343dd247b1560d907ee6c8b5e72b392c4d8d08c45e", func := "silverside/silversidelaw03.LabelRing", spec := "labelRing", unfollowed := true, recurses := true, apart := false, narrowed := true }
def LabelRingUptoSaid : Prop := labelRingUptoRow.holds Try.pinned (OpenSpec.upto labelRingSpec)

/-- 'silversidelaw03.LabelWords', WHERE WHAT IT READS IS OF BULK AT MOST 1048576: true; the input reads as it did. -/
def labelWordsUptoRow : OpenClaim := { program := "ytdgjanjoiabgfaa", sum := "e0a1acf15285b6652bfa4b343dd247b1560d907ee6c8b5e72b392c4d8d08c45e", func := "silverside/silversidelaw03.LabelWords", spec := "labelWords", unfollowed := true, recurses := true, apart := false, narrowed := true }
def LabelWordsUptoSaid : Prop := labelWordsUptoRow.holds Try.pinned (OpenSpec.upto labelWordsSpec)

/-- 'silversidelaw03.LabelSums', WHERE WHAT IT READS IS OF BULK AT MOST 1048576: true; the input reads as it did. -/
def labelSumsUptoRow : OpenClaim := { program := "ytdgjanjoiabgfaa", sum := "e0a1acf15285b6652bfa4b343dd247b1560d907ee6c8b5e72b392c4d8d08c45e", func := "silverside/silversidelaw03.LabelSums", spec := "labelSums", unfollowed := true, recurses := true, apart := false, narrowed := true }
def LabelSumsUptoSaid : Prop := labelSumsUptoRow.holds Try.pinned (OpenSpec.upto labelSumsSpec)

end Rows
end Go.Proofs.Ytdgjanjoiabgfaa

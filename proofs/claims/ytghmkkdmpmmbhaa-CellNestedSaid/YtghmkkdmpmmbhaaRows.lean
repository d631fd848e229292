/-
  No cell of these rows narrows 'for every input' (looked for: loops, veiled, ifaces, maps, wideKeys, modest, calm, conditions, laid).
  DERIVED. THE GIVEN ROWS OF THIS SEAT. 11 by the template 'for every input the law returns true; each argument reads behind the call as it read before'; 0 by the template 'total and deterministic' (their statements: YtghmkkdmpmmbhaaTotals.lean).
  GIVEN WITH THE SEED: the statements are not yours to turn. If you find one false, say at which input.
  Laid BY PROGRAM, IN A SANDBOX (cutbox-rows.mjs): the forced cells as the released guide's own fill.sh prints them over the translation 46280f8003511571… (all of the seat's roots in one cut). By AI agents, Wed Nov 11 2026. No macro, syntax, notation, axiom, sorry.
-/
import Derived.Test.YtghmkkdmpmmbhaaChecked
import GoSem.Claim
import GoSem.ClaimJoined
import GoSem.ClaimMapViews
import Derived.JoinedTies
import Derived.KernelRfl
namespace Go.Proofs.Ytghmkkdmpmmbhaa
/- THE CELL 'sum', in the pinned program and in every row, IS THE sha256 OF THE DUMP (.gsa) THAT YtghmkkdmpmmbhaaProg.lean LOADS. Nothing in Lean hashes anything: it is a label: what it is worth is what the hold of that sum in a sandbox is worth. -/
noncomputable def Try.pinned : Pinned := { name := "ytghmkkdmpmmbhaa", sum := "46280f8003511571532cbb2ead3c1933b224d1aa52a172d3ccf00d97242790de", checked := Try.checked }
namespace Rows
def none {H : Type} : Left H := { results := [], args := [] }

/-- 'coulomblaw02.CellAges': WHATEVER THE INPUT: true; the input reads as it did. -/
def cellAgesSpec : ChangeSpec := { name := "cellAges", fn := fun _ => fun
  | [d1, d2, d3] => { results := [.lit (.bool true)], args := [d1, d2, d3] }
  | _ => none }
def cellAgesRow : OpenClaim := { program := "ytghmkkdmpmmbhaa", sum := "46280f8003511571532cbb2ead3c1933b224d1aa52a172d3ccf00d97242790de", func := "coulomb/coulomblaw02.CellAges", spec := "cellAges", unfollowed := true, recurses := true, apart := false }
def CellAgesSaid : Prop := cellAgesRow.holds Try.pinned (OpenSpec.ofChange cellAgesSpec)

/-- ITS FALSE NEIGHBOUR: 'it returns false'. Refute it at one input. -/
def cellAgesWrong : ChangeSpec := { name := "cellAges", fn := fun _ => fun
  | [d1, d2, d3] => { results := [.lit (.bool false)], args := [d1, d2, d3] }
  | _ => none }
def CellAgesWrongFalsely : Prop := cellAgesRow.holds Try.pinned (OpenSpec.ofChange cellAgesWrong)

/-- 'coulomblaw02.CellOrder': WHATEVER THE INPUT: true; the input reads as it did. -/
def cellOrderSpec : ChangeSpec := { name := "cellOrder", fn := fun _ => fun
  | [d1, d2, d3, d4, d5] => { results := [.lit (.bool true)], args := [d1, d2, d3, d4, d5] }
  | _ => none }
def cellOrderRow : OpenClaim := { program := "ytghmkkdmpmmbhaa", sum := "46280f8003511571532cbb2ead3c1933b224d1aa52a172d3ccf00d97242790de", func := "coulomb/coulomblaw02.CellOrder", spec := "cellOrder", unfollowed := true, recurses := true, apart := false }
def CellOrderSaid : Prop := cellOrderRow.holds Try.pinned (OpenSpec.ofChange cellOrderSpec)

/-- ITS FALSE NEIGHBOUR: 'it returns false'. Refute it at one input. -/
def cellOrderWrong : ChangeSpec := { name := "cellOrder", fn := fun _ => fun
  | [d1, d2, d3, d4, d5] => { results := [.lit (.bool false)], args := [d1, d2, d3, d4, d5] }
  | _ => none }
def CellOrderWrongFalsely : Prop := cellOrderRow.holds Try.pinned (OpenSpec.ofChange cellOrderWrong)

/-- 'coulomblaw02.CellSeeds': WHATEVER THE INPUT: true; the input reads as it did. -/
def cellSeedsSpec : ChangeSpec := { name := "cellSeeds", fn := fun _ => fun
  | [d1, d2] => { results := [.lit (.bool true)], args := [d1, d2] }
  | _ => none }
def cellSeedsRow : OpenClaim := { program := "ytghmkkdmpmmbhaa", sum := "46280f8003511571532cbb2ead3c1933b224d1aa52a172d3ccf00d97242790de", func := "coulomb/coulomblaw02.CellSeeds", spec := "cellSeeds", unfollowed := true, recurses := true, apart := false }
def CellSeedsSaid : Prop := cellSeedsRow.holds Try.pinned (OpenSpec.ofChange cellSeedsSpec)

/-- ITS FALSE NEIGHBOUR: 'it returns false'. Refute it at one input. -/
def cellSeedsWrong : ChangeSpec := { name := "cellSeeds", fn := fun _ => fun
  | [d1, d2] => { results := [.lit (.bool false)], args := [d1, d2] }
  | _ => none }
def CellSeedsWrongFalsely : Prop := cellSeedsRow.holds Try.pinned (OpenSpec.ofChange cellSeedsWrong)

/-- 'coulomblaw02.CellVectors': WHATEVER THE INPUT: true; the input reads as it did. -/
def cellVectorsSpec : ChangeSpec := { name := "cellVectors", fn := fun _ => fun
  | [d1, d2] => { results := [.lit (.bool true)], args := [d1, d2] }
  | _ => none }
def cellVectorsRow : OpenClaim := { program := "ytghmkkdmpmmbhaa", sum := "46280f8003511571532cbb2ead3c1933b224d1aa52a172d3ccf00d97242790de", func := "coulomb/coulomblaw02.CellVectors", spec := "cellVectors", unfollowed := true, recurses := true, apart := false }
def CellVectorsSaid : Prop := cellVectorsRow.holds Try.pinned (OpenSpec.ofChange cellVectorsSpec)

/-- ITS FALSE NEIGHBOUR: 'it returns false'. Refute it at one input. -/
def cellVectorsWrong : ChangeSpec := { name := "cellVectors", fn := fun _ => fun
  | [d1, d2] => { results := [.lit (.bool false)], args := [d1, d2] }
  | _ => none }
def CellVectorsWrongFalsely : Prop := cellVectorsRow.holds Try.pinned (OpenSpec.ofChange cellVectorsWrong)

/-- 'coulomblaw02.CellNil': WHATEVER THE INPUT: true; the input reads as it did. -/
def cellNilSpec : ChangeSpec := { name := "cellNil", fn := fun _ => fun
  | [d] => { results := [.lit (.bool true)], args := [d] }
  | _ => none }
def cellNilRow : OpenClaim := { program := "ytghmkkdmpmmbhaa", sum := "46280f8003511571532cbb2ead3c1933b224d1aa52a172d3ccf00d97242790de", func := "coulomb/coulomblaw02.CellNil", spec := "cellNil", unfollowed := true, recurses := true, apart := false }
def CellNilSaid : Prop := cellNilRow.holds Try.pinned (OpenSpec.ofChange cellNilSpec)

/-- ITS FALSE NEIGHBOUR: 'it returns false'. Refute it at one input. -/
def cellNilWrong : ChangeSpec := { name := "cellNil", fn := fun _ => fun
  | [d] => { results := [.lit (.bool false)], args := [d] }
  | _ => none }
def CellNilWrongFalsely : Prop := cellNilRow.holds Try.pinned (OpenSpec.ofChange cellNilWrong)

/-- 'coulomblaw02.CellDraws': WHATEVER THE INPUT: true; the input reads as it did. -/
def cellDrawsSpec : ChangeSpec := { name := "cellDraws", fn := fun _ => fun
  | [d1, d2] => { results := [.lit (.bool true)], args := [d1, d2] }
  | _ => none }
def cellDrawsRow : OpenClaim := { program := "ytghmkkdmpmmbhaa", sum := "46280f8003511571532cbb2ead3c1933b224d1aa52a172d3ccf00d97242790de", func := "coulomb/coulomblaw02.CellDraws", spec := "cellDraws", unfollowed := true, recurses := true, apart := false }
def CellDrawsSaid : Prop := cellDrawsRow.holds Try.pinned (OpenSpec.ofChange cellDrawsSpec)

/-- ITS FALSE NEIGHBOUR: 'it returns false'. Refute it at one input. -/
def cellDrawsWrong : ChangeSpec := { name := "cellDraws", fn := fun _ => fun
  | [d1, d2] => { results := [.lit (.bool false)], args := [d1, d2] }
  | _ => none }
def CellDrawsWrongFalsely : Prop := cellDrawsRow.holds Try.pinned (OpenSpec.ofChange cellDrawsWrong)

/-- 'coulomblaw02.CellMost': WHATEVER THE INPUT: true; the input reads as it did. -/
def cellMostSpec : ChangeSpec := { name := "cellMost", fn := fun _ => fun
  | [d1, d2, d3, d4] => { results := [.lit (.bool true)], args := [d1, d2, d3, d4] }
  | _ => none }
def cellMostRow : OpenClaim := { program := "ytghmkkdmpmmbhaa", sum := "46280f8003511571532cbb2ead3c1933b224d1aa52a172d3ccf00d97242790de", func := "coulomb/coulomblaw02.CellMost", spec := "cellMost", unfollowed := true, recurses := true, apart := false }
def CellMostSaid : Prop := cellMostRow.holds Try.pinned (OpenSpec.ofChange cellMostSpec)

/-- ITS FALSE NEIGHBOUR: 'it returns false'. Refute it at one input. -/
def cellMostWrong : ChangeSpec := { name := "cellMost", fn := fun _ => fun
  | [d1, d2, d3, d4] => { results := [.lit (.bool false)], args := [d1, d2, d3, d4] }
  | _ => none }
def CellMostWrongFalsely : Prop := cellMostRow.holds Try.pinned (OpenSpec.ofChange cellMostWrong)

/-- 'coulomblaw02.CellApplies': WHATEVER THE INPUT: true; the input reads as it did. -/
def cellAppliesSpec : ChangeSpec := { name := "cellApplies", fn := fun _ => fun
  | [d1, d2, d3, d4] => { results := [.lit (.bool true)], args := [d1, d2, d3, d4] }
  | _ => none }
def cellAppliesRow : OpenClaim := { program := "ytghmkkdmpmmbhaa", sum := "46280f8003511571532cbb2ead3c1933b224d1aa52a172d3ccf00d97242790de", func := "coulomb/coulomblaw02.CellApplies", spec := "cellApplies", unfollowed := true, recurses := true, apart := false }
def CellAppliesSaid : Prop := cellAppliesRow.holds Try.pinned (OpenSpec.ofChange cellAppliesSpec)

/-- ITS FALSE NEIGHBOUR: 'it returns false'. Refute it at one input. -/
def cellAppliesWrong : ChangeSpec := { name := "cellApplies", fn := fun _ => fun
  | [d1, d2, d3, d4] => { results := [.lit (.bool false)], args := [d1, d2, d3, d4] }
  | _ => none }
def CellAppliesWrongFalsely : Prop := cellAppliesRow.holds Try.pinned (OpenSpec.ofChange cellAppliesWrong)

/-- 'coulomblaw02.CellNested': WHATEVER THE INPUT: true; the input reads as it did. -/
def cellNestedSpec : ChangeSpec := { name := "cellNested", fn := fun _ => fun
  | [d1, d2, d3] => { results := [.lit (.bool true)], args := [d1, d2, d3] }
  | _ => none }
def cellNestedRow : OpenClaim := { program := "ytghmkkdmpmmbhaa", sum := "46280f8003511571532cbb2ead3c1933b224d1aa52a172d3ccf00d97242790de", func := "coulomb/coulomblaw02.CellNested", spec := "cellNested", unfollowed := true, recurses := true, apart := false }
def CellNestedSaid : Prop := cellNestedRow.holds Try.pinned (OpenSpec.ofChange cellNestedSpec)

/-- ITS FALSE NEIGHBOUR: 'it returns false'. Refute it at one input. -/
def cellNestedWrong : ChangeSpec := { name := "cellNested", fn := fun _ => fun
  | [d1, d2, d3] => { results := [.lit (.bool false)], args := [d1, d2, d3] }
  | _ => none }
def CellNestedWrongFalsely : Prop := cellNestedRow.holds Try.pinned (OpenSpec.ofChange cellNestedWrong)

/-- 'coulomblaw02.CellPoints': WHATEVER THE INPUT: true; the input reads as it did. -/
def cellPointsSpec : ChangeSpec := { name := "cellPoints", fn := fun _ => fun
  | [d1, d2, d3] => { results := [.lit (.bool true)], args := [d1, d2, d3] }
  | _ => none }
def cellPointsRow : OpenClaim := { program := "ytghmkkdmpmmbhaa", sum := "46280f8003511571532cbb2ead3c1933b224d1aa52a172d3ccf00d97242790de", func := "coulomb/coulomblaw02.CellPoints", spec := "cellPoints", unfollowed := true, recurses := true, apart := false }
def CellPointsSaid : Prop := cellPointsRow.holds Try.pinned (OpenSpec.ofChange cellPointsSpec)

/-- ITS FALSE NEIGHBOUR: 'it returns false'. Refute it at one input. -/
def cellPointsWrong : ChangeSpec := { name := "cellPoints", fn := fun _ => fun
  | [d1, d2, d3] => { results := [.lit (.bool false)], args := [d1, d2, d3] }
  | _ => none }
def CellPointsWrongFalsely : Prop := cellPointsRow.holds Try.pinned (OpenSpec.ofChange cellPointsWrong)

/-- 'coulomblaw02.CellKnown': WHATEVER THE INPUT: true; the input reads as it did. -/
def cellKnownSpec : ChangeSpec := { name := "cellKnown", fn := fun _ => fun
  | [] => { results := [.lit (.bool true)], args := [] }
  | _ => none }
def cellKnownRow : OpenClaim := { program := "ytghmkkdmpmmbhaa", sum := "46280f8003511571532cbb2ead3c1933b224d1aa52a172d3ccf00d97242790de", func := "coulomb/coulomblaw02.CellKnown", spec := "cellKnown", unfollowed := true, recurses := true, apart := false }
def CellKnownSaid : Prop := cellKnownRow.holds Try.pinned (OpenSpec.ofChange cellKnownSpec)

/-- ITS FALSE NEIGHBOUR: 'it returns false'. Refute it at one input. -/
def cellKnownWrong : ChangeSpec := { name := "cellKnown", fn := fun _ => fun
  | [] => { results := [.lit (.bool false)], args := [] }
  | _ => none }
def CellKnownWrongFalsely : Prop := cellKnownRow.holds Try.pinned (OpenSpec.ofChange cellKnownWrong)

/- THE SECOND FORM. 'bulk': how many values and letters a reading holds, each counted each time it is reached (what is shared counts as often as it is met; a slice's spare places count too). A statement '..UptoSaid' is the law's where the arguments, and the package variables that the reading takes, are together of bulk at most 1048576: NARROWER than '..Said'. Prove '..Said' where nothing that the law and all that it calls make is longer than what came in: it says more and counts as full. Else prove '..UptoSaid'. A law counts once. -/
mutual
def uptoBulk {H : Type} : DataW H → Nat
  | .lit (.string bytes) => bytes.length + 1
  | .lit _ => 1
  | .nil => 1
  | .ptr d => uptoBulk d + 1
  | .slice elems spare => uptoBulkAll elems + uptoBulkAll spare + 1
  | .agg parts => uptoBulkAll parts + 1
  | .iface _ d => uptoBulk d + 1
  | .map entries => uptoBulkEntries entries + 1
  | .held _ => 1
def uptoBulkAll {H : Type} : List (DataW H) → Nat
  | [] => 0
  | d :: r => uptoBulk d + uptoBulkAll r
def uptoBulkEntries {H : Type} : List (Lit × DataW H) → Nat
  | [] => 0
  | x :: r => uptoBulkEntry x + uptoBulkEntries r
def uptoBulkEntry {H : Type} : Lit × DataW H → Nat
  | (.string bytes, d) => bytes.length + uptoBulk d + 1
  | (_, d) => uptoBulk d + 1
 end
def uptoSmall : (H : Type) → List (DataW H) → Bool := fun _ ds => decide (uptoBulkAll ds ≤ 1048576)
def OpenSpec.upto (s : _root_.Go.ChangeSpec) : _root_.Go.OpenSpec := { _root_.Go.OpenSpec.ofChange s with cond := some uptoSmall }

/-- 'coulomblaw02.CellAges', WHERE WHAT IT READS IS OF BULK AT MOST 1048576: true; the input reads as it did. -/
def cellAgesUptoRow : OpenClaim := { program := "ytghmkkdmpmmbhaa", sum := "46280f8003511571532cbb2ead3c1933b224d1aa52a172d3ccf00d97242790de", func := "coulomb/coulomblaw02.CellAges", spec := "cellAges", unfollowed := true, recurses := true, apart := false, narrowed := true }
def CellAgesUptoSaid : Prop := cellAgesUptoRow.holds Try.pinned (OpenSpec.upto cellAgesSpec)

/-- 'coulomblaw02.CellOrder', WHERE WHAT IT READS IS OF BULK AT MOST 1048576: true; the input reads as it did. -/
def cellOrderUptoRow : OpenClaim := { program := "ytghmkkdmpmmbhaa", sum := "46280f8003511571532cbb2ead3c1933b224d1aa52a172d3ccf00d97242790de", func := "coulomb/coulomblaw02.CellOrder", spec := "cellOrder", unfollowed := true, recurses := true, apart := false, narrowed := true }
def CellOrderUptoSaid : Prop := cellOrderUptoRow.holds Try.pinned (OpenSpec.upto cellOrderSpec)

/-- 'coulomblaw02.CellSeeds', WHERE WHAT IT READS IS OF BULK AT MOST 1048576: true; the input reads as it did. -/
def cellSeedsUptoRow : OpenClaim := { program := "ytghmkkdmpmmbhaa", sum := "46280f8003511571532cbb2ead3c1933b224d1aa52a172d3ccf00d97242790de", func := "coulomb/coulomblaw02.CellSeeds", spec := "cellSeeds", unfollowed := true, recurses := true, apart := false, narrowed := true }
def CellSeedsUptoSaid : Prop := cellSeedsUptoRow.holds Try.pinned (OpenSpec.upto cellSeedsSpec)

/-- 'coulomblaw02.CellVectors', WHERE WHAT IT READS IS OF BULK AT MOST 1048576: true; the input reads as it did. -/
def cellVectorsUptoRow : OpenClaim := { program := "ytghmkkdmpmmbhaa", sum := "46280f8003511571532cbb2ead3c1933b224d1aa52a172d3ccf00d97242790de", func := "coulomb/coulomblaw02.CellVectors", spec := "cellVectors", unfollowed := true, recurses := true, apart := false, narrowed := true }
def CellVectorsUptoSaid : Prop := cellVectorsUptoRow.holds Try.pinned (OpenSpec.upto cellVectorsSpec)

/-- 'coulomblaw02.CellNil', WHERE WHAT IT READS IS OF BULK AT MOST 1048576: true; the input reads as it did. -/
def cellNilUptoRow : OpenClaim := { program := "ytghmkkdmpmmbhaa", sum := "46280f8003511571532cbb2ead3c1933b224d1aa52a172d3ccf00d97242790de", func := "coulomb/coulomblaw02.CellNil", spec := "cellNil", unfollowed := true, recurses := true, apart := false, narrowed := true }
def CellNilUptoSaid : Prop := cellNilUptoRow.holds Try.pinned (OpenSpec.upto cellNilSpec)

/-- 'coulomblaw02.CellDraws', WHERE WHAT IT READS IS OF BULK AT MOST 1048576: true; the input reads as it did. -/
def cellDrawsUptoRow : OpenClaim := { program := "ytghmkkdmpmmbhaa", sum := "46280f8003511571532cbb2ead3c1933b224d1aa52a172d3ccf00d97242790de", func := "coulomb/coulomblaw02.CellDraws", spec := "cellDraws", unfollowed := true, recurses := true, apart := false, narrowed := true }
def CellDrawsUptoSaid : Prop := cellDrawsUptoRow.holds Try.pinned (OpenSpec.upto cellDrawsSpec)

/-- 'coulomblaw02.CellMost', WHERE WHAT IT READS IS OF BULK AT MOST 1048576: true; the input reads as it did. -/
def cellMostUptoRow : OpenClaim := { program := "ytghmkkdmpmmbhaa", sum := "46280f8003511571532cbb2ead3c1933b224d1aa52a172d3ccf00d97242790de", func := "coulomb/coulomblaw02.CellMost", spec := "cellMost", unfollowed := true, recurses := true, apart := false, narrowed := true }
def CellMostUptoSaid : Prop := cellMostUptoRow.holds Try.pinned (OpenSpec.upto cellMostSpec)

/-- 'coulomblaw02.CellApplies', WHERE WHAT IT READS IS OF BULK AT MOST 1048576: true; the input reads as it did. -/
def cellAppliesUptoRow : OpenClaim := { program := "ytghmkkdmpmmbhaa", sum := "46280f8003511571532cbb2ead3c1933b224d1aa52a172d3ccf00d97242790de", func := "coulomb/coulomblaw02.CellApplies", spec := "cellApplies", unfollowed := true, recurses := true, apart := false, narrowed := true }
def CellAppliesUptoSaid : Prop := cellAppliesUptoRow.holds Try.pinned (OpenSpec.upto cellAppliesSpec)

/-- 'coulomblaw02.CellNested', WHERE WHAT IT READS IS OF BULK AT MOST 1048576: true; the input reads as it did. -/
def cellNestedUptoRow : OpenClaim := { program := "ytghmkkdmpmmbhaa", sum := "46280f8003511571532cbb2ead3c1933b224d1aa52a172d3ccf00d97242790de", func := "coulomb/coulomblaw02.CellNested", spec := "cellNested", unfollowed := true, recurses := true, apart := false, narrowed := true }
def CellNestedUptoSaid : Prop := cellNestedUptoRow.holds Try.pinned (OpenSpec.upto cellNestedSpec)

/-- 'coulomblaw02.CellPoints', WHERE WHAT IT READS IS OF BULK AT MOST 1048576: true; the input reads as it did. -/
def cellPointsUptoRow : OpenClaim := { program := "ytghmkkdmpmmbhaa", sum := "46280f8003511571532cbb2ead3c1933b224d1aa52a172d3ccf00d97242790de", func := "coulomb/coulomblaw02.CellPoints", spec := "cellPoints", unfollowed := true, recurses := true, apart := false, narrowed := true }
def CellPointsUptoSaid : Prop := cellPointsUptoRow.holds Try.pinned (OpenSpec.upto cellPointsSpec)

/-- 'coulomblaw02.CellKnown', WHERE WHAT IT READS IS OF BULK AT MOST 1048576: true; the input reads as it did. -/
def cellKnownUptoRow : OpenClaim := { program := "ytghmkkdmpmmbhaa", sum := "46280f8003511571532cbb2ead3c1933b224d1aa52a172d3ccf00d97242790de", func := "coulomb/coulomblaw02.CellKnown", spec := "cellKnown", unfollowed := true, recurses := true, apart := false, narrowed := true }
def CellKnownUptoSaid : Prop := cellKnownUptoRow.holds Try.pinned (OpenSpec.upto cellKnownSpec)

end Rows
end Go.Proofs.Ytghmkkdmpmmbhaa

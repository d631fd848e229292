/-
  No cell of these rows narrows 'for every input' (looked for: loops, veiled, ifaces, maps, wideKeys, modest, calm, conditions, laid).
  DERIVED. THE GIVEN ROWS OF THIS SEAT. 3 by the template 'for every input the law returns true; each argument reads behind the call as it read before'; 0 by the template 'total and deterministic' (their statements: YthpigoanppehbaaGreatTotals.lean).
  GIVEN WITH THE SEED: the statements are not yours to turn. If you find one false, say at which input.
  Laid BY PROGRAM, IN A SANDBOX (cutbox-rows.mjs): the forced cells as the released guide's own fill.sh prints them over the translation 9c98c99702de8a9b… (all of the seat's roots in one cut). By AI agents, Wed Nov 11 2026. No macro, syntax, notation, axiom, sorry.
-/
import Derived.Test.YthpigoanppehbaaGreatChecked
import GoSem.Claim
import GoSem.ClaimJoined
import GoSem.ClaimMapViews
import Derived.JoinedTies
import Derived.KernelRfl
namespace Go.Proofs.YthpigoanppehbaaGreat
/- THE CELL 'sum', in the pinned program and in every row, IS THE sha256 OF THE DUMP (.gsa) THAT YthpigoanppehbaaGreatProg.lean LOADS. Nothing in Lean hashes anything: it is a label: what it is worth is what the hold of that sum in a sandbox is worth. -/
noncomputable def Tryz.pinned : Pinned := { name := "ythpigoanppehbaagreat", sum := "9c98c99702de8a9becc3d284777bc50f2a799802161fe672637387bb2134dd74", checked := Tryz.checked }
namespace Rows
def none {H : Type} : Left H := { results := [], args := [] }

/-- 'coulomblaw02.CellBoxes': WHATEVER THE INPUT: true; the input reads as it did. -/
def cellBoxesSpec : ChangeSpec := { name := "cellBoxes", fn := fun _ => fun
  | [d1, d2] => { results := [.lit (.bool true)], args := [d1, d2] }
  | _ => none }
def cellBoxesRow : OpenClaim := { program := "ythpigoanppehbaagreat", sum := "9c98c99702de8a9becc3d284777bc50f2a799802161fe672637387bb2134dd74", func := "coulomb/coulomblaw02.CellBoxes", spec := "cellBoxes", unfollowed := true, recurses := true, apart := false }
def CellBoxesSaid : Prop := cellBoxesRow.holds Tryz.pinned (OpenSpec.ofChange cellBoxesSpec)

/-- ITS FALSE NEIGHBOUR: 'it returns false'. Refute it at one input. -/
def cellBoxesWrong : ChangeSpec := { name := "cellBoxes", fn := fun _ => fun
  | [d1, d2] => { results := [.lit (.bool false)], args := [d1, d2] }
  | _ => none }
def CellBoxesWrongFalsely : Prop := cellBoxesRow.holds Tryz.pinned (OpenSpec.ofChange cellBoxesWrong)

/-- 'coulomblaw02.CellContains': WHATEVER THE INPUT: true; the input reads as it did. -/
def cellContainsSpec : ChangeSpec := { name := "cellContains", fn := fun _ => fun
  | [d1, d2, d3, d4] => { results := [.lit (.bool true)], args := [d1, d2, d3, d4] }
  | _ => none }
def cellContainsRow : OpenClaim := { program := "ythpigoanppehbaagreat", sum := "9c98c99702de8a9becc3d284777bc50f2a799802161fe672637387bb2134dd74", func := "coulomb/coulomblaw02.CellContains", spec := "cellContains", unfollowed := true, recurses := true, apart := false }
def CellContainsSaid : Prop := cellContainsRow.holds Tryz.pinned (OpenSpec.ofChange cellContainsSpec)

/-- ITS FALSE NEIGHBOUR: 'it returns false'. Refute it at one input. -/
def cellContainsWrong : ChangeSpec := { name := "cellContains", fn := fun _ => fun
  | [d1, d2, d3, d4] => { results := [.lit (.bool false)], args := [d1, d2, d3, d4] }
  | _ => none }
def CellContainsWrongFalsely : Prop := cellContainsRow.holds Tryz.pinned (OpenSpec.ofChange cellContainsWrong)

/-- 'coulomblaw02.CellSafe': WHATEVER THE INPUT: true; the input reads as it did. -/
def cellSafeSpec : ChangeSpec := { name := "cellSafe", fn := fun _ => fun
  | [d1, d2, d3, d4] => { results := [.lit (.bool true)], args := [d1, d2, d3, d4] }
  | _ => none }
def cellSafeRow : OpenClaim := { program := "ythpigoanppehbaagreat", sum := "9c98c99702de8a9becc3d284777bc50f2a799802161fe672637387bb2134dd74", func := "coulomb/coulomblaw02.CellSafe", spec := "cellSafe", unfollowed := true, recurses := true, apart := false }
def CellSafeSaid : Prop := cellSafeRow.holds Tryz.pinned (OpenSpec.ofChange cellSafeSpec)

/-- ITS FALSE NEIGHBOUR: 'it returns false'. Refute it at one input. -/
def cellSafeWrong : ChangeSpec := { name := "cellSafe", fn := fun _ => fun
  | [d1, d2, d3, d4] => { results := [.lit (.bool false)], args := [d1, d2, d3, d4] }
  | _ => none }
def CellSafeWrongFalsely : Prop := cellSafeRow.holds Tryz.pinned (OpenSpec.ofChange cellSafeWrong)

/- THE SECOND FORM. 'bulk': how many values and letters a reading holds, each counted each time it is reached (what is shared counts as often as it is met; a slice's spare places count too). A statement '..UptoSaid' is the law's where the arguments, and the package variables that the reading takes, are together of bulk at most 1048576: NARROWER than '..Said'. Prove '..Said' where nothing that the law and all that it calls make is longer than what came in: it says more and counts as full. Else prove '..UptoSaid'. A law counts once. -/
mutual
def uptoBulk {H : Type} : DataW H → Nat
  | .lit (.string bytes) => bytes.length + 1
  | .lit _ => 1
  | .nil => 1
  | .ptr d => uptoBulk d + 1
  | .slice elems spare => uptoBulkAll elems + uptoBulkAll spare + 1
  | .agg parts => uptoBulkAll parts + 1
  | .iface _ d => uptoBulk d + 1
  | .map entries => uptoBulkEntries entries + 1
  | .held _ => 1
def uptoBulkAll {H : Type} : List (DataW H) → Nat
  | [] => 0
  | d :: r => uptoBulk d + uptoBulkAll r
def uptoBulkEntries {H : Type} : List (Lit × DataW H) → Nat
  | [] => 0
  | x :: r => uptoBulkEntry x + uptoBulkEntries r
def uptoBulkEntry {H : Type} : Lit × DataW H → Nat
  | (.string bytes, d) => bytes.length + uptoBulk d + 1
  | (_, d) => uptoBulk d + 1
 end
def uptoSmall : (H : Type) → List (DataW H) → Bool := fun _ ds => decide (uptoBulkAll ds ≤ 1048576)
def OpenSpec.upto (s : _root_.Go.ChangeSpec) : _root_.Go.OpenSpec := { _root_.Go.OpenSpec.ofChange s with cond := some uptoSmall }

/-- 'coulomblaw02.CellBoxes', WHERE WHAT IT READS IS OF BULK AT MOST 1048576: true; the input reads as it did. -/
def cellBoxesUptoRow : OpenClaim := { program := "ythpigoanppehbaagreat", sum := "9c98c99702de8a9becc3d284777bc50f2a799802161fe672637387bb2134dd74", func := "coulomb/coulomblaw02.CellBoxes", spec := "cellBoxes", unfollowed := true, recurses := true, apart := false, narrowed := true }
def CellBoxesUptoSaid : Prop := cellBoxesUptoRow.holds Tryz.pinned (OpenSpec.upto cellBoxesSpec)

/-- 'coulomblaw02.CellContains', WHERE WHAT IT READS IS OF BULK AT MOST 1048576: true; the input reads as it did. -/
def cellContainsUptoRow : OpenClaim := { program := "ythpigoanppehbaagreat", sum := "9c98c99702de8a9becc3d284777bc50f2a799802161fe672637387bb2134dd74", func := "coulomb/coulomblaw02.CellContains", spec := "cellContains", unfollowed := true, recurses := true, apart := false, narrowed := true }
def CellContainsUptoSaid : Prop := cellContainsUptoRow.holds Tryz.pinned (OpenSpec.upto cellContainsSpec)

/-- 'coulomblaw02.CellSafe', WHERE WHAT IT READS IS OF BULK AT MOST 1048576: true; the input reads as it did. -/
def cellSafeUptoRow : OpenClaim := { program := "ythpigoanppehbaagreat", sum := "9c98c99702de8a9becc3d284777bc50f2a799802161fe672637387bb2134dd74", func := "coulomb/coulomblaw02.CellSafe", spec := "cellSafe", unfollowed := true, recurses := true, apart := false, narrowed := true }
def CellSafeUptoSaid : Prop := cellSafeUptoRow.holds Tryz.pinned (OpenSpec.upto cellSafeSpec)

end Rows
end Go.Proofs.YthpigoanppehbaaGreat

/-
  No cell of these rows narrows 'for every input' (looked for: loops, veiled, ifaces, maps, wideKeys, modest, calm, conditions, laid).
  DERIVED. THE GIVEN ROWS OF THIS SEAT. 4 by the template 'for every input the law returns true; each argument reads behind the call as it read before'; 0 by the template 'total and deterministic' (their statements: YteoaeodalknkiaaTotals.lean).
  GIVEN WITH THE SEED: the statements are not yours to turn. If you find one false, say at which input.
  Laid BY PROGRAM, IN A SANDBOX (cutbox-rows.mjs): the forced cells as the released guide's own fill.sh prints them over the translation 20907955a730f370… (all of the seat's roots in one cut). By AI agents, Wed Nov 11 2026. No macro, syntax, notation, axiom, sorry.
-/
import Derived.Test.YteoaeodalknkiaaChecked
import GoSem.Claim
import GoSem.ClaimJoined
import GoSem.ClaimMapViews
import Derived.JoinedTies
import Derived.KernelRfl
namespace Go.Proofs.Yteoaeodalknkiaa
/- THE CELL 'sum', in the pinned program and in every row, IS THE sha256 OF THE DUMP (.gsa) THAT YteoaeodalknkiaaProg.lean LOADS. Nothing in Lean hashes anything: it is a label: what it is worth is what the hold of that sum in a sandbox is worth. -/
noncomputable def Try.pinned : Pinned := { name := "yteoaeodalknkiaa", sum := "20907955a730f370869d06db1559be3240d47949a89628d69e273ad7ef2c3c23", checked := Try.checked }
namespace Rows
def none {H : Type} : Left H := { results := [], args := [] }

/-- 'coulomblaw03.EstimateSenses': WHATEVER THE INPUT: true; the input reads as it did. -/
def estimateSensesSpec : ChangeSpec := { name := "estimateSenses", fn := fun _ => fun
  | [d1, d2, d3, d4, d5] => { results := [.lit (.bool true)], args := [d1, d2, d3, d4, d5] }
  | _ => none }
def estimateSensesRow : OpenClaim := { program := "yteoaeodalknkiaa", sum := "20907955a730f370869d06db1559be3240d47949a89628d69e273ad7ef2c3c23", func := "coulomb/coulomblaw03.EstimateSenses", spec := "estimateSenses", unfollowed := true, recurses := true, apart := false }
def EstimateSensesSaid : Prop := estimateSensesRow.holds Try.pinned (OpenSpec.ofChange estimateSensesSpec)

/-- ITS FALSE NEIGHBOUR: 'it returns false'. Refute it at one input. -/
def estimateSensesWrong : ChangeSpec := { name := "estimateSenses", fn := fun _ => fun
  | [d1, d2, d3, d4, d5] => { results := [.lit (.bool false)], args := [d1, d2, d3, d4, d5] }
  | _ => none }
def EstimateSensesWrongFalsely : Prop := estimateSensesRow.holds Try.pinned (OpenSpec.ofChange estimateSensesWrong)

/-- 'coulomblaw03.EstimateFilters': WHATEVER THE INPUT: true; the input reads as it did. -/
def estimateFiltersSpec : ChangeSpec := { name := "estimateFilters", fn := fun _ => fun
  | [d1, d2, d3, d4, d5] => { results := [.lit (.bool true)], args := [d1, d2, d3, d4, d5] }
  | _ => none }
def estimateFiltersRow : OpenClaim := { program := "yteoaeodalknkiaa", sum := "20907955a730f370869d06db1559be3240d47949a89628d69e273ad7ef2c3c23", func := "coulomb/coulomblaw03.EstimateFilters", spec := "estimateFilters", unfollowed := true, recurses := true, apart := false }
def EstimateFiltersSaid : Prop := estimateFiltersRow.holds Try.pinned (OpenSpec.ofChange estimateFiltersSpec)

/-- ITS FALSE NEIGHBOUR: 'it returns false'. Refute it at one input. -/
def estimateFiltersWrong : ChangeSpec := { name := "estimateFilters", fn := fun _ => fun
  | [d1, d2, d3, d4, d5] => { results := [.lit (.bool false)], args := [d1, d2, d3, d4, d5] }
  | _ => none }
def EstimateFiltersWrongFalsely : Prop := estimateFiltersRow.holds Try.pinned (OpenSpec.ofChange estimateFiltersWrong)

/-- 'coulomblaw03.EstimateFuses': WHATEVER THE INPUT: true; the input reads as it did. -/
def estimateFusesSpec : ChangeSpec := { name := "estimateFuses", fn := fun _ => fun
  | [d1, d2, d3] => { results := [.lit (.bool true)], args := [d1, d2, d3] }
  | _ => none }
def estimateFusesRow : OpenClaim := { program := "yteoaeodalknkiaa", sum := "20907955a730f370869d06db1559be3240d47949a89628d69e273ad7ef2c3c23", func := "coulomb/coulomblaw03.EstimateFuses", spec := "estimateFuses", unfollowed := true, recurses := true, apart := false }
def EstimateFusesSaid : Prop := estimateFusesRow.holds Try.pinned (OpenSpec.ofChange estimateFusesSpec)

/-- ITS FALSE NEIGHBOUR: 'it returns false'. Refute it at one input. -/
def estimateFusesWrong : ChangeSpec := { name := "estimateFuses", fn := fun _ => fun
  | [d1, d2, d3] => { results := [.lit (.bool false)], args := [d1, d2, d3] }
  | _ => none }
def EstimateFusesWrongFalsely : Prop := estimateFusesRow.holds Try.pinned (OpenSpec.ofChange estimateFusesWrong)

/-- 'coulomblaw03.EstimateFused': WHATEVER THE INPUT: true; the input reads as it did. -/
def estimateFusedSpec : ChangeSpec := { name := "estimateFused", fn := fun _ => fun
  | [d1, d2] => { results := [.lit (.bool true)], args := [d1, d2] }
  | _ => none }
def estimateFusedRow : OpenClaim := { program := "yteoaeodalknkiaa", sum := "20907955a730f370869d06db1559be3240d47949a89628d69e273ad7ef2c3c23", func := "coulomb/coulomblaw03.EstimateFused", spec := "estimateFused", unfollowed := true, recurses := true, apart := false }
def EstimateFusedSaid : Prop := estimateFusedRow.holds Try.pinned (OpenSpec.ofChange estimateFusedSpec)

/-- ITS FALSE NEIGHBOUR: 'it returns false'. Refute it at one input. -/
def estimateFusedWrong : ChangeSpec := { name := "estimateFused", fn := fun _ => fun
  | [d1, d2] => { results := [.lit (.bool false)], args := [d1, d2] }
  | _ => none }
def EstimateFusedWrongFalsely : Prop := estimateFusedRow.holds Try.pinned (OpenSpec.ofChange estimateFusedWrong)

/- THE SECOND FORM. 'bulk': how many values and letters a reading holds, each counted each time it is reached (what is shared counts as often as it is met; a slice's spare places count too). A statement '..UptoSaid' is the law's where the arguments, and the package variables that the reading takes, are together of bulk at most 1048576: NARROWER than '..Said'. Prove '..Said' where nothing that the law and all that it calls make is longer than what came in: it says more and counts as full. Else prove '..UptoSaid'. A law counts once. -/
mutual
def uptoBulk {H : Type} : DataW H → Nat
  | .lit (.string bytes) => bytes.length + 1
  | .lit _ => 1
  | .nil => 1
  | .ptr d => uptoBulk d + 1
  | .slice elems spare => uptoBulkAll elems + uptoBulkAll spare + 1
  | .agg parts => uptoBulkAll parts + 1
  | .iface _ d => uptoBulk d + 1
  | .map entries => uptoBulkEntries entries + 1
  | .held _ => 1
def uptoBulkAll {H : Type} : List (DataW H) → Nat
  | [] => 0
  | d :: r => uptoBulk d + uptoBulkAll r
def uptoBulkEntries {H : Type} : List (Lit × DataW H) → Nat
  | [] => 0
  | x :: r => uptoBulkEntry x + uptoBulkEntries r
def uptoBulkEntry {H : Type} : Lit × DataW H → Nat
  | (.string bytes, d) => bytes.length + uptoBulk d + 1
  | (_, d) => uptoBulk d + 1
 end
def uptoSmall : (H : Type) → List (DataW H) → Bool := fun _ ds => decide (uptoBulkAll ds ≤ 1048576)
def OpenSpec.upto (s : _root_.Go.ChangeSpec) : _root_.Go.OpenSpec := { _root_.Go.OpenSpec.ofChange s with cond := some uptoSmall }

/-- 'coulomblaw03.EstimateSenses', WHERE WHAT IT READS IS OF BULK AT MOST 1048576: true; the input reads as it did. -/
def estimateSensesUptoRow : OpenClaim := { program := "yteoaeodalknkiaa", sum := "20907955a730f370869d06db1559be3240d47949a89628d69e273ad7ef2c3c23", func := "coulomb/coulomblaw03.EstimateSenses", spec := "estimateSenses", unfollowed := true, recurses := true, apart := false, narrowed := true }
def EstimateSensesUptoSaid : Prop := estimateSensesUptoRow.holds Try.pinned (OpenSpec.upto estimateSensesSpec)

/-- 'coulomblaw03.EstimateFilters', WHERE WHAT IT READS IS OF BULK AT MOST 1048576: true; the input reads as it did. -/
def estimateFiltersUptoRow : OpenClaim := { program := "yteoaeodalknkiaa", sum := "20907955a730f370869d06db1559be3240d47949a89628d69e273ad7ef2c3c23", func := "coulomb/coulomblaw03.EstimateFilters", spec := "estimateFilters", unfollowed := true, recurses := true, apart := false, narrowed := true }
def EstimateFiltersUptoSaid : Prop := estimateFiltersUptoRow.holds Try.pinned (OpenSpec.upto estimateFiltersSpec)

/-- 'coulomblaw03.EstimateFuses', WHERE WHAT IT READS IS OF BULK AT MOST 1048576: true; the input reads as it did. -/
def estimateFusesUptoRow : OpenClaim := { program := "yteoaeodalknkiaa", sum := "20907955a730f370869d06db1559be3240d47949a89628d69e273ad7ef2c3c23", func := "coulomb/coulomblaw03.EstimateFuses", spec := "estimateFuses", unfollowed := true, recurses := true, apart := false, narrowed := true }
def EstimateFusesUptoSaid : Prop := estimateFusesUptoRow.holds Try.pinned (OpenSpec.upto estimateFusesSpec)

/-- 'coulomblaw03.EstimateFused', WHERE WHAT IT READS IS OF BULK AT MOST 1048576: true; the input reads as it did. -/
def estimateFusedUptoRow : OpenClaim := { program := "yteoaeodalknkiaa", sum := "20907955a730f370869d06db1559be3240d47949a89628d69e273ad7ef2c3c23", func := "coulomb/coulomblaw03.EstimateFused", spec := "estimateFused", unfollowed := true, recurses := true, apart := false, narrowed := true }
def EstimateFusedUptoSaid : Prop := estimateFusedUptoRow.holds Try.pinned (OpenSpec.upto estimateFusedSpec)

end Rows
end Go.Proofs.Yteoaeodalknkiaa

/-
  No cell of these rows narrows 'for every input' (looked for: loops, veiled, ifaces, maps, wideKeys, modest, calm, conditions, laid).
  DERIVED. THE GIVEN ROWS OF THIS SEAT. 3 by the template 'for every input the law returns true; each argument reads behind the call as it read before'; 0 by the template 'total and deterministic' (their statements: YtaiilbgknjlmoaaTotals.lean).
  GIVEN WITH THE SEED: the statements are not yours to turn. If you find one false, say at which input.
  Laid BY PROGRAM, IN A SANDBOX (cutbox-rows.mjs): the forced cells as the released guide's own fill.sh prints them over the translation e6fbc5de34b3dc6b… (all of the seat's roots in one cut). By AI agents, Wed Nov 11 2026. No macro, syntax, notation, axiom, sorry.
-/
import Derived.Test.YtaiilbgknjlmoaaChecked
import GoSem.Claim
import GoSem.ClaimJoined
import GoSem.ClaimMapViews
import Derived.JoinedTies
import Derived.KernelRfl
namespace Go.Proofs.Ytaiilbgknjlmoaa
/- THE CELL 'sum', in the pinned program and in every row, IS THE sha256 OF THE DUMP (.gsa) THAT YtaiilbgknjlmoaaProg.lean LOADS. Nothing in Lean hashes anything: it is a label: what it is worth is what the hold of that sum in a sandbox is worth. -/
noncomputable def Try.pinned : Pinned := { name := "ytaiilbgknjlmoaa", sum := "e6fbc5de34b3dc6bfedd6c5b1d9be0a249c8af5de556759db86fd84b3d68b843", checked := Try.checked }
namespace Rows
def none {H : Type} : Left H := { results := [], args := [] }

/-- 'coulomblaw03.EstimateSensors': WHATEVER THE INPUT: true; the input reads as it did. -/
def estimateSensorsSpec : ChangeSpec := { name := "estimateSensors", fn := fun _ => fun
  | [d1, d2, d3, d4] => { results := [.lit (.bool true)], args := [d1, d2, d3, d4] }
  | _ => none }
def estimateSensorsRow : OpenClaim := { program := "ytaiilbgknjlmoaa", sum := "e6fbc5de34b3dc6bfedd6c5b1d9be0a249c8af5de556759db86fd84b3d68b843", func := "coulomb/coulomblaw03.EstimateSensors", spec := "estimateSensors", apart := false }
def EstimateSensorsSaid : Prop := estimateSensorsRow.holds Try.pinned (OpenSpec.ofChange estimateSensorsSpec)

/-- ITS FALSE NEIGHBOUR: 'it returns false'. Refute it at one input. -/
def estimateSensorsWrong : ChangeSpec := { name := "estimateSensors", fn := fun _ => fun
  | [d1, d2, d3, d4] => { results := [.lit (.bool false)], args := [d1, d2, d3, d4] }
  | _ => none }
def EstimateSensorsWrongFalsely : Prop := estimateSensorsRow.holds Try.pinned (OpenSpec.ofChange estimateSensorsWrong)

/-- 'coulomblaw03.EstimateBehind': WHATEVER THE INPUT: true; the input reads as it did. -/
def estimateBehindSpec : ChangeSpec := { name := "estimateBehind", fn := fun _ => fun
  | [d1, d2, d3] => { results := [.lit (.bool true)], args := [d1, d2, d3] }
  | _ => none }
def estimateBehindRow : OpenClaim := { program := "ytaiilbgknjlmoaa", sum := "e6fbc5de34b3dc6bfedd6c5b1d9be0a249c8af5de556759db86fd84b3d68b843", func := "coulomb/coulomblaw03.EstimateBehind", spec := "estimateBehind", unfollowed := true, recurses := true, apart := false }
def EstimateBehindSaid : Prop := estimateBehindRow.holds Try.pinned (OpenSpec.ofChange estimateBehindSpec)

/-- ITS FALSE NEIGHBOUR: 'it returns false'. Refute it at one input. -/
def estimateBehindWrong : ChangeSpec := { name := "estimateBehind", fn := fun _ => fun
  | [d1, d2, d3] => { results := [.lit (.bool false)], args := [d1, d2, d3] }
  | _ => none }
def EstimateBehindWrongFalsely : Prop := estimateBehindRow.holds Try.pinned (OpenSpec.ofChange estimateBehindWrong)

/-- 'coulomblaw03.EstimateCompares': WHATEVER THE INPUT: true; the input reads as it did. -/
def estimateComparesSpec : ChangeSpec := { name := "estimateCompares", fn := fun _ => fun
  | [d1, d2] => { results := [.lit (.bool true)], args := [d1, d2] }
  | _ => none }
def estimateComparesRow : OpenClaim := { program := "ytaiilbgknjlmoaa", sum := "e6fbc5de34b3dc6bfedd6c5b1d9be0a249c8af5de556759db86fd84b3d68b843", func := "coulomb/coulomblaw03.EstimateCompares", spec := "estimateCompares", unfollowed := true, recurses := true, apart := false }
def EstimateComparesSaid : Prop := estimateComparesRow.holds Try.pinned (OpenSpec.ofChange estimateComparesSpec)

/-- ITS FALSE NEIGHBOUR: 'it returns false'. Refute it at one input. -/
def estimateComparesWrong : ChangeSpec := { name := "estimateCompares", fn := fun _ => fun
  | [d1, d2] => { results := [.lit (.bool false)], args := [d1, d2] }
  | _ => none }
def EstimateComparesWrongFalsely : Prop := estimateComparesRow.holds Try.pinned (OpenSpec.ofChange estimateComparesWrong)

/- THE SECOND FORM. 'bulk': how many values and letters a reading holds, each counted each time it is reached (what is shared counts as often as it is met; a slice's spare places count too). A statement '..UptoSaid' is the law's where the arguments, and the package variables that the reading takes, are together of bulk at most 1048576: NARROWER than '..Said'. Prove '..Said' where nothing that the law and all that it calls make is longer than what came in: it says more and counts as full. Else prove '..UptoSaid'. A law counts once. -/
mutual
def uptoBulk {H : Type} : DataW H → Nat
  | .lit (.string bytes) => bytes.length + 1
  | .lit _ => 1
  | .nil => 1
  | .ptr d => uptoBulk d + 1
  | .slice elems spare => uptoBulkAll elems + uptoBulkAll spare + 1
  | .agg parts => uptoBulkAll parts + 1
  | .iface _ d => uptoBulk d + 1
  | .map entries => uptoBulkEntries entries + 1
  | .held _ => 1
def uptoBulkAll {H : Type} : List (DataW H) → Nat
  | [] => 0
  | d :: r => uptoBulk d + uptoBulkAll r
def uptoBulkEntries {H : Type} : List (Lit × DataW H) → Nat
  | [] => 0
  | x :: r => uptoBulkEntry x + uptoBulkEntries r
def uptoBulkEntry {H : Type} : Lit × DataW H → Nat
  | (.string bytes, d) => bytes.length + uptoBulk d + 1
  | (_, d) => uptoBulk d + 1
 end
def uptoSmall : (H : Type) → List (DataW H) → Bool := fun _ ds => decide (uptoBulkAll ds ≤ 1048576)
def OpenSpec.upto (s : _root_.Go.ChangeSpec) : _root_.Go.OpenSpec := { _root_.Go.OpenSpec.ofChange s with cond := some uptoSmall }

/-- 'coulomblaw03.EstimateSensors', WHERE WHAT IT READS IS OF BULK AT MOST 1048576: true; the input reads as it did. -/
def estimateSensorsUptoRow : OpenClaim := { program := "ytaiilbgknjlmoaa", sum := "e6fbc5de34b3dc6bfedd6c5b1d9be0a249c8af5de556759db86fd84b3d68b843", func := "coulomb/coulomblaw03.EstimateSensors", spec := "estimateSensors", apart := false, narrowed := true }
def EstimateSensorsUptoSaid : Prop := estimateSensorsUptoRow.holds Try.pinned (OpenSpec.upto estimateSensorsSpec)

/-- 'coulomblaw03.EstimateBehind', WHERE WHAT IT READS IS OF BULK AT MOST 1048576: true; the input reads as it did. -/
def estimateBehindUptoRow : OpenClaim := { program := "ytaiilbgknjlmoaa", sum := "e6fbc5de34b3dc6bfedd6c5b1d9be0a249c8af5de556759db86fd84b3d68b843", func := "coulomb/coulomblaw03.EstimateBehind", spec := "estimateBehind", unfollowed := true, recurses := true, apart := false, narrowed := true }
def EstimateBehindUptoSaid : Prop := estimateBehindUptoRow.holds Try.pinned (OpenSpec.upto estimateBehindSpec)

/-- 'coulomblaw03.EstimateCompares', WHERE WHAT IT READS IS OF BULK AT MOST 1048576: true; the input reads as it did. -/
def estimateComparesUptoRow : OpenClaim := { program := "ytaiilbgknjlmoaa", sum := "e6fbc5de34b3dc6bfedd6c5b1d9be0a249c8af5de556759db86fd84b3d68b843", func := "coulomb/coulomblaw03.EstimateCompares", spec := "estimateCompares", unfollowed := true, recurses := true, apart := false, narrowed := true }
def EstimateComparesUptoSaid : Prop := estimateComparesUptoRow.holds Try.pinned (OpenSpec.upto estimateComparesSpec)

end Rows
end Go.Proofs.Ytaiilbgknjlmoaa

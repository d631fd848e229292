/-
  No cell of these rows narrows 'for every input' (looked for: loops, veiled, ifaces, maps, wideKeys, modest, calm, conditions, laid).
  DERIVED. THE GIVEN ROWS OF THIS SEAT. 4 by the template 'for every input the law returns true; each argument reads behind the call as it read before'; 0 by the template 'total and deterministic' (their statements: YtlabbaglbcmofaaGreatTotals.lean).
  GIVEN WITH THE SEED: the statements are not yours to turn. If you find one false, say at which input.
  Laid BY PROGRAM, IN A SANDBOX (cutbox-rows.mjs): the forced cells as the released guide's own fill.sh prints them over the translation ef94e2e5c07a85f2… (all of the seat's roots in one cut). By AI agents, Wed Nov 11 2026. No macro, syntax, notation, axiom, sorry.
-/
import Derived.Test.YtlabbaglbcmofaaGreatChecked
import GoSem.Claim
import GoSem.ClaimJoined
import GoSem.ClaimMapViews
import Derived.JoinedTies
import Derived.KernelRfl
namespace Go.Proofs.YtlabbaglbcmofaaGreat
/- THE CELL 'sum', in the pinned program and in every row, IS THE sha256 OF THE DUMP (.gsa) THAT YtlabbaglbcmofaaGreatProg.lean LOADS. Nothing in Lean hashes anything: it is a label: what it is worth is what the hold of that sum in a sandbox is worth. -/
noncomputable def Tryz.pinned : Pinned := { name := "ytlabbaglbcmofaagreat", sum := "ef94e2e5c07a85f2afb54b24cad74af372fd24db54eda309153bc2a68dfdea57", checked := Tryz.checked }
namespace Rows
def none {H : Type} : Left H := { results := [], args := [] }

/-- 'coulomblaw03.EstimateWatches': WHATEVER THE INPUT: true; the input reads as it did. -/
def estimateWatchesSpec : ChangeSpec := { name := "estimateWatches", fn := fun _ => fun
  | [d1, d2, d3] => { results := [.lit (.bool true)], args := [d1, d2, d3] }
  | _ => none }
def estimateWatchesRow : OpenClaim := { program := "ytlabbaglbcmofaagreat", sum := "ef94e2e5c07a85f2afb54b24cad74af372fd24db54eda309153bc2a68dfdea57", func := "coulomb/coulomblaw03.EstimateWatches", spec := "estimateWatches", unfollowed := true, recurses := true, apart := false }
def EstimateWatchesSaid : Prop := estimateWatchesRow.holds Tryz.pinned (OpenSpec.ofChange estimateWatchesSpec)

/-- ITS FALSE NEIGHBOUR: 'it returns false'. Refute it at one input. -/
def estimateWatchesWrong : ChangeSpec := { name := "estimateWatches", fn := fun _ => fun
  | [d1, d2, d3] => { results := [.lit (.bool false)], args := [d1, d2, d3] }
  | _ => none }
def EstimateWatchesWrongFalsely : Prop := estimateWatchesRow.holds Tryz.pinned (OpenSpec.ofChange estimateWatchesWrong)

/-- 'coulomblaw03.EstimateNarrows': WHATEVER THE INPUT: true; the input reads as it did. -/
def estimateNarrowsSpec : ChangeSpec := { name := "estimateNarrows", fn := fun _ => fun
  | [d1, d2, d3] => { results := [.lit (.bool true)], args := [d1, d2, d3] }
  | _ => none }
def estimateNarrowsRow : OpenClaim := { program := "ytlabbaglbcmofaagreat", sum := "ef94e2e5c07a85f2afb54b24cad74af372fd24db54eda309153bc2a68dfdea57", func := "coulomb/coulomblaw03.EstimateNarrows", spec := "estimateNarrows", unfollowed := true, recurses := true, apart := false }
def EstimateNarrowsSaid : Prop := estimateNarrowsRow.holds Tryz.pinned (OpenSpec.ofChange estimateNarrowsSpec)

/-- ITS FALSE NEIGHBOUR: 'it returns false'. Refute it at one input. -/
def estimateNarrowsWrong : ChangeSpec := { name := "estimateNarrows", fn := fun _ => fun
  | [d1, d2, d3] => { results := [.lit (.bool false)], args := [d1, d2, d3] }
  | _ => none }
def EstimateNarrowsWrongFalsely : Prop := estimateNarrowsRow.holds Tryz.pinned (OpenSpec.ofChange estimateNarrowsWrong)

/-- 'coulomblaw03.EstimateKeeps': WHATEVER THE INPUT: true; the input reads as it did. -/
def estimateKeepsSpec : ChangeSpec := { name := "estimateKeeps", fn := fun _ => fun
  | [d1, d2] => { results := [.lit (.bool true)], args := [d1, d2] }
  | _ => none }
def estimateKeepsRow : OpenClaim := { program := "ytlabbaglbcmofaagreat", sum := "ef94e2e5c07a85f2afb54b24cad74af372fd24db54eda309153bc2a68dfdea57", func := "coulomb/coulomblaw03.EstimateKeeps", spec := "estimateKeeps", unfollowed := true, recurses := true, apart := false }
def EstimateKeepsSaid : Prop := estimateKeepsRow.holds Tryz.pinned (OpenSpec.ofChange estimateKeepsSpec)

/-- ITS FALSE NEIGHBOUR: 'it returns false'. Refute it at one input. -/
def estimateKeepsWrong : ChangeSpec := { name := "estimateKeeps", fn := fun _ => fun
  | [d1, d2] => { results := [.lit (.bool false)], args := [d1, d2] }
  | _ => none }
def EstimateKeepsWrongFalsely : Prop := estimateKeepsRow.holds Tryz.pinned (OpenSpec.ofChange estimateKeepsWrong)

/-- 'coulomblaw03.EstimateNow': WHATEVER THE INPUT: true; the input reads as it did. -/
def estimateNowSpec : ChangeSpec := { name := "estimateNow", fn := fun _ => fun
  | [d1, d2, d3, d4, d5] => { results := [.lit (.bool true)], args := [d1, d2, d3, d4, d5] }
  | _ => none }
def estimateNowRow : OpenClaim := { program := "ytlabbaglbcmofaagreat", sum := "ef94e2e5c07a85f2afb54b24cad74af372fd24db54eda309153bc2a68dfdea57", func := "coulomb/coulomblaw03.EstimateNow", spec := "estimateNow", unfollowed := true, recurses := true, apart := false }
def EstimateNowSaid : Prop := estimateNowRow.holds Tryz.pinned (OpenSpec.ofChange estimateNowSpec)

/-- ITS FALSE NEIGHBOUR: 'it returns false'. Refute it at one input. -/
def estimateNowWrong : ChangeSpec := { name := "estimateNow", fn := fun _ => fun
  | [d1, d2, d3, d4, d5] => { results := [.lit (.bool false)], args := [d1, d2, d3, d4, d5] }
  | _ => none }
def EstimateNowWrongFalsely : Prop := estimateNowRow.holds Tryz.pinned (OpenSpec.ofChange estimateNowWrong)

/- THE SECOND FORM. 'bulk': how many values and letters a reading holds, each counted each time it is reached (what is shared counts as often as it is met; a slice's spare places count too). A statement '..UptoSaid' is the law's where the arguments, and the package variables that the reading takes, are together of bulk at most 1048576: NARROWER than '..Said'. Prove '..Said' where nothing that the law and all that it calls make is longer than what came in: it says more and counts as full. Else prove '..UptoSaid'. A law counts once. -/
mutual
def uptoBulk {H : Type} : DataW H → Nat
  | .lit (.string bytes) => bytes.length + 1
  | .lit _ => 1
  | .nil => 1
  | .ptr d => uptoBulk d + 1
  | .slice elems spare => uptoBulkAll elems + uptoBulkAll spare + 1
  | .agg parts => uptoBulkAll parts + 1
  | .iface _ d => uptoBulk d + 1
  | .map entries => uptoBulkEntries entries + 1
  | .held _ => 1
def uptoBulkAll {H : Type} : List (DataW H) → Nat
  | [] => 0
  | d :: r => uptoBulk d + uptoBulkAll r
def uptoBulkEntries {H : Type} : List (Lit × DataW H) → Nat
  | [] => 0
  | x :: r => uptoBulkEntry x + uptoBulkEntries r
def uptoBulkEntry {H : Type} : Lit × DataW H → Nat
  | (.string bytes, d) => bytes.length + uptoBulk d + 1
  | (_, d) => uptoBulk d + 1
 end
def uptoSmall : (H : Type) → List (DataW H) → Bool := fun _ ds => decide (uptoBulkAll ds ≤ 1048576)
def OpenSpec.upto (s : _root_.Go.ChangeSpec) : _root_.Go.OpenSpec := { _root_.Go.OpenSpec.ofChange s with cond := some uptoSmall }

/-- 'coulomblaw03.EstimateWatches', WHERE WHAT IT READS IS OF BULK AT MOST 1048576: true; the input reads as it did. -/
def estimateWatchesUptoRow : OpenClaim := { program := "ytlabbaglbcmofaagreat", sum := "ef94e2e5c07a85f2afb54b24cad74af372fd24db54eda309153bc2a68dfdea57", func := "coulomb/coulomblaw03.EstimateWatches", spec := "estimateWatches", unfollowed := true, recurses := true, apart := false, narrowed := true }
def EstimateWatchesUptoSaid : Prop := estimateWatchesUptoRow.holds Tryz.pinned (OpenSpec.upto estimateWatchesSpec)

/-- 'coulomblaw03.EstimateNarrows', WHERE WHAT IT READS IS OF BULK AT MOST 1048576: true; the input reads as it did. -/
def estimateNarrowsUptoRow : OpenClaim := { program := "ytlabbaglbcmofaagreat", sum := "ef94e2e5c07a85f2afb54b24cad74af372fd24db54eda309153bc2a68dfdea57", func := "coulomb/coulomblaw03.EstimateNarrows", spec := "estimateNarrows", unfollowed := true, recurses := true, apart := false, narrowed := true }
def EstimateNarrowsUptoSaid : Prop := estimateNarrowsUptoRow.holds Tryz.pinned (OpenSpec.upto estimateNarrowsSpec)

/-- 'coulomblaw03.EstimateKeeps', WHERE WHAT IT READS IS OF BULK AT MOST 1048576: true; the input reads as it did. -/
def estimateKeepsUptoRow : OpenClaim := { program := "ytlabbaglbcmofaagreat", sum := "ef94e2e5c07a85f2afb54b24cad74af372fd24db54eda309153bc2a68dfdea57", func := "coulomb/coulomblaw03.EstimateKeeps", spec := "estimateKeeps", unfollowed := true, recurses := true, apart := false, narrowed := true }
def EstimateKeepsUptoSaid : Prop := estimateKeepsUptoRow.holds Tryz.pinned (OpenSpec.upto estimateKeepsSpec)

/-- 'coulomblaw03.EstimateNow', WHERE WHAT IT READS IS OF BULK AT MOST 1048576: true; the input reads as it did. -/
def estimateNowUptoRow : OpenClaim := { program := "ytlabbaglbcmofaagreat", sum := "ef94e2e5c07a85f2afb54b24cad74af372fd24db54eda309153bc2a68dfdea57", func := "coulomb/coulomblaw03.EstimateNow", spec := "estimateNow", unfollowed := true, recurses := true, apart := false, narrowed := true }
def EstimateNowUptoSaid : Prop := estimateNowUptoRow.holds Tryz.pinned (OpenSpec.upto estimateNowSpec)

end Rows
end Go.Proofs.YtlabbaglbcmofaaGreat

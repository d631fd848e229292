/-
  No cell of these rows narrows 'for every input' (looked for: loops, veiled, ifaces, maps, wideKeys, modest, calm, conditions, laid).
  DERIVED. THE GIVEN ROWS OF THIS SEAT. 9 by the template 'for every input the law returns true; each argument reads behind the call as it read before'; 0 by the template 'total and deterministic' (their statements: YtdhbbdljiidgiaaTotals.lean).
  GIVEN WITH THE SEED: the statements are not yours to turn. If you find one false, say at which input.
  Laid BY PROGRAM, IN A SANDBOX (cutbox-rows.mjs): the forced cells as the released guide's own fill.sh prints them over the translation b26bef2984d3c12c… (all of the seat's roots in one cut). By AI agents, Wed Nov 11 2026. No macro, syntax, notation, axiom, sorry.
-/
import Derived.Test.YtdhbbdljiidgiaaChecked
import GoSem.Claim
import GoSem.ClaimJoined
import GoSem.ClaimMapViews
import Derived.JoinedTies
import Derived.KernelRfl
namespace Go.Proofs.Ytdhbbdljiidgiaa
/- THE CELL 'sum', in the pinned program and in every row, IS THE sha256 OF THE DUMP (.gsa) THAT YtdhbbdljiidgiaaProg.lean LOADS. Nothing in Lean hashes anything: it is a label: what it is worth is what the hold of that sum in a sandbox is worth. -/
noncomputable def Try.pinned : Pinned := { name := "ytdhbbdljiidgiaa", sum := "b26bef2984d3c12cb31d70bb165dcc9f4cd413f5b03677624e9c897782d7779a", checked := Try.checked }
namespace Rows
def none {H : Type} : Left H := { results := [], args := [] }

/-- 'coulomblaw04.PackNotBeaten': WHATEVER THE INPUT: true; the input reads as it did. -/
def packNotBeatenSpec : ChangeSpec := { name := "packNotBeaten", fn := fun _ => fun
  | [d1, d2, d3] => { results := [.lit (.bool true)], args := [d1, d2, d3] }
  | _ => none }
def packNotBeatenRow : OpenClaim := { program := "ytdhbbdljiidgiaa", sum := "b26bef2984d3c12cb31d70bb165dcc9f4cd413f5b03677624e9c897782d7779a", func := "coulomb/coulomblaw04.PackNotBeaten", spec := "packNotBeaten", unfollowed := true, recurses := true, apart := false }
def PackNotBeatenSaid : Prop := packNotBeatenRow.holds Try.pinned (OpenSpec.ofChange packNotBeatenSpec)

/-- ITS FALSE NEIGHBOUR: 'it returns false'. Refute it at one input. -/
def packNotBeatenWrong : ChangeSpec := { name := "packNotBeaten", fn := fun _ => fun
  | [d1, d2, d3] => { results := [.lit (.bool false)], args := [d1, d2, d3] }
  | _ => none }
def PackNotBeatenWrongFalsely : Prop := packNotBeatenRow.holds Try.pinned (OpenSpec.ofChange packNotBeatenWrong)

/-- 'coulomblaw04.PackDrains': WHATEVER THE INPUT: true; the input reads as it did. -/
def packDrainsSpec : ChangeSpec := { name := "packDrains", fn := fun _ => fun
  | [d1, d2, d3, d4] => { results := [.lit (.bool true)], args := [d1, d2, d3, d4] }
  | _ => none }
def packDrainsRow : OpenClaim := { program := "ytdhbbdljiidgiaa", sum := "b26bef2984d3c12cb31d70bb165dcc9f4cd413f5b03677624e9c897782d7779a", func := "coulomb/coulomblaw04.PackDrains", spec := "packDrains", unfollowed := true, recurses := true, apart := false }
def PackDrainsSaid : Prop := packDrainsRow.holds Try.pinned (OpenSpec.ofChange packDrainsSpec)

/-- ITS FALSE NEIGHBOUR: 'it returns false'. Refute it at one input. -/
def packDrainsWrong : ChangeSpec := { name := "packDrains", fn := fun _ => fun
  | [d1, d2, d3, d4] => { results := [.lit (.bool false)], args := [d1, d2, d3, d4] }
  | _ => none }
def PackDrainsWrongFalsely : Prop := packDrainsRow.holds Try.pinned (OpenSpec.ofChange packDrainsWrong)

/-- 'coulomblaw04.PackNarrow': WHATEVER THE INPUT: true; the input reads as it did. -/
def packNarrowSpec : ChangeSpec := { name := "packNarrow", fn := fun _ => fun
  | [d1, d2, d3, d4] => { results := [.lit (.bool true)], args := [d1, d2, d3, d4] }
  | _ => none }
def packNarrowRow : OpenClaim := { program := "ytdhbbdljiidgiaa", sum := "b26bef2984d3c12cb31d70bb165dcc9f4cd413f5b03677624e9c897782d7779a", func := "coulomb/coulomblaw04.PackNarrow", spec := "packNarrow", unfollowed := true, recurses := true, apart := false }
def PackNarrowSaid : Prop := packNarrowRow.holds Try.pinned (OpenSpec.ofChange packNarrowSpec)

/-- ITS FALSE NEIGHBOUR: 'it returns false'. Refute it at one input. -/
def packNarrowWrong : ChangeSpec := { name := "packNarrow", fn := fun _ => fun
  | [d1, d2, d3, d4] => { results := [.lit (.bool false)], args := [d1, d2, d3, d4] }
  | _ => none }
def PackNarrowWrongFalsely : Prop := packNarrowRow.holds Try.pinned (OpenSpec.ofChange packNarrowWrong)

/-- 'coulomblaw04.PackFlows': WHATEVER THE INPUT: true; the input reads as it did. -/
def packFlowsSpec : ChangeSpec := { name := "packFlows", fn := fun _ => fun
  | [d1, d2, d3] => { results := [.lit (.bool true)], args := [d1, d2, d3] }
  | _ => none }
def packFlowsRow : OpenClaim := { program := "ytdhbbdljiidgiaa", sum := "b26bef2984d3c12cb31d70bb165dcc9f4cd413f5b03677624e9c897782d7779a", func := "coulomb/coulomblaw04.PackFlows", spec := "packFlows", unfollowed := true, recurses := true, apart := false }
def PackFlowsSaid : Prop := packFlowsRow.holds Try.pinned (OpenSpec.ofChange packFlowsSpec)

/-- ITS FALSE NEIGHBOUR: 'it returns false'. Refute it at one input. -/
def packFlowsWrong : ChangeSpec := { name := "packFlows", fn := fun _ => fun
  | [d1, d2, d3] => { results := [.lit (.bool false)], args := [d1, d2, d3] }
  | _ => none }
def PackFlowsWrongFalsely : Prop := packFlowsRow.holds Try.pinned (OpenSpec.ofChange packFlowsWrong)

/-- 'coulomblaw04.PackBounds': WHATEVER THE INPUT: true; the input reads as it did. -/
def packBoundsSpec : ChangeSpec := { name := "packBounds", fn := fun _ => fun
  | [d1, d2, d3, d4, d5, d6, d7] => { results := [.lit (.bool true)], args := [d1, d2, d3, d4, d5, d6, d7] }
  | _ => none }
def packBoundsRow : OpenClaim := { program := "ytdhbbdljiidgiaa", sum := "b26bef2984d3c12cb31d70bb165dcc9f4cd413f5b03677624e9c897782d7779a", func := "coulomb/coulomblaw04.PackBounds", spec := "packBounds", unfollowed := true, recurses := true, apart := false }
def PackBoundsSaid : Prop := packBoundsRow.holds Try.pinned (OpenSpec.ofChange packBoundsSpec)

/-- ITS FALSE NEIGHBOUR: 'it returns false'. Refute it at one input. -/
def packBoundsWrong : ChangeSpec := { name := "packBounds", fn := fun _ => fun
  | [d1, d2, d3, d4, d5, d6, d7] => { results := [.lit (.bool false)], args := [d1, d2, d3, d4, d5, d6, d7] }
  | _ => none }
def PackBoundsWrongFalsely : Prop := packBoundsRow.holds Try.pinned (OpenSpec.ofChange packBoundsWrong)

/-- 'coulomblaw04.PackBleeds': WHATEVER THE INPUT: true; the input reads as it did. -/
def packBleedsSpec : ChangeSpec := { name := "packBleeds", fn := fun _ => fun
  | [d1, d2, d3, d4] => { results := [.lit (.bool true)], args := [d1, d2, d3, d4] }
  | _ => none }
def packBleedsRow : OpenClaim := { program := "ytdhbbdljiidgiaa", sum := "b26bef2984d3c12cb31d70bb165dcc9f4cd413f5b03677624e9c897782d7779a", func := "coulomb/coulomblaw04.PackBleeds", spec := "packBleeds", unfollowed := true, recurses := true, apart := false }
def PackBleedsSaid : Prop := packBleedsRow.holds Try.pinned (OpenSpec.ofChange packBleedsSpec)

/-- ITS FALSE NEIGHBOUR: 'it returns false'. Refute it at one input. -/
def packBleedsWrong : ChangeSpec := { name := "packBleeds", fn := fun _ => fun
  | [d1, d2, d3, d4] => { results := [.lit (.bool false)], args := [d1, d2, d3, d4] }
  | _ => none }
def PackBleedsWrongFalsely : Prop := packBleedsRow.holds Try.pinned (OpenSpec.ofChange packBleedsWrong)

/-- 'coulomblaw04.PackFewest': WHATEVER THE INPUT: true; the input reads as it did. -/
def packFewestSpec : ChangeSpec := { name := "packFewest", fn := fun _ => fun
  | [d1, d2, d3] => { results := [.lit (.bool true)], args := [d1, d2, d3] }
  | _ => none }
def packFewestRow : OpenClaim := { program := "ytdhbbdljiidgiaa", sum := "b26bef2984d3c12cb31d70bb165dcc9f4cd413f5b03677624e9c897782d7779a", func := "coulomb/coulomblaw04.PackFewest", spec := "packFewest", unfollowed := true, recurses := true, apart := false }
def PackFewestSaid : Prop := packFewestRow.holds Try.pinned (OpenSpec.ofChange packFewestSpec)

/-- ITS FALSE NEIGHBOUR: 'it returns false'. Refute it at one input. -/
def packFewestWrong : ChangeSpec := { name := "packFewest", fn := fun _ => fun
  | [d1, d2, d3] => { results := [.lit (.bool false)], args := [d1, d2, d3] }
  | _ => none }
def PackFewestWrongFalsely : Prop := packFewestRow.holds Try.pinned (OpenSpec.ofChange packFewestWrong)

/-- 'coulomblaw04.PackQuickest': WHATEVER THE INPUT: true; the input reads as it did. -/
def packQuickestSpec : ChangeSpec := { name := "packQuickest", fn := fun _ => fun
  | [d1, d2, d3, d4, d5] => { results := [.lit (.bool true)], args := [d1, d2, d3, d4, d5] }
  | _ => none }
def packQuickestRow : OpenClaim := { program := "ytdhbbdljiidgiaa", sum := "b26bef2984d3c12cb31d70bb165dcc9f4cd413f5b03677624e9c897782d7779a", func := "coulomb/coulomblaw04.PackQuickest", spec := "packQuickest", unfollowed := true, recurses := true, apart := false }
def PackQuickestSaid : Prop := packQuickestRow.holds Try.pinned (OpenSpec.ofChange packQuickestSpec)

/-- ITS FALSE NEIGHBOUR: 'it returns false'. Refute it at one input. -/
def packQuickestWrong : ChangeSpec := { name := "packQuickest", fn := fun _ => fun
  | [d1, d2, d3, d4, d5] => { results := [.lit (.bool false)], args := [d1, d2, d3, d4, d5] }
  | _ => none }
def PackQuickestWrongFalsely : Prop := packQuickestRow.holds Try.pinned (OpenSpec.ofChange packQuickestWrong)

/-- 'coulomblaw04.PackKnown': WHATEVER THE INPUT: true; the input reads as it did. -/
def packKnownSpec : ChangeSpec := { name := "packKnown", fn := fun _ => fun
  | [] => { results := [.lit (.bool true)], args := [] }
  | _ => none }
def packKnownRow : OpenClaim := { program := "ytdhbbdljiidgiaa", sum := "b26bef2984d3c12cb31d70bb165dcc9f4cd413f5b03677624e9c897782d7779a", func := "coulomb/coulomblaw04.PackKnown", spec := "packKnown", unfollowed := true, recurses := true, apart := false }
def PackKnownSaid : Prop := packKnownRow.holds Try.pinned (OpenSpec.ofChange packKnownSpec)

/-- ITS FALSE NEIGHBOUR: 'it returns false'. Refute it at one input. -/
def packKnownWrong : ChangeSpec := { name := "packKnown", fn := fun _ => fun
  | [] => { results := [.lit (.bool false)], args := [] }
  | _ => none }
def PackKnownWrongFalsely : Prop := packKnownRow.holds Try.pinned (OpenSpec.ofChange packKnownWrong)

/- THE SECOND FORM. 'bulk': how many values and letters a reading holds, each counted each time it is reached (what is shared counts as often as it is met; a slice's spare places count too). A statement '..UptoSaid' is the law's where the arguments, and the package variables that the reading takes, are together of bulk at most 1048576: NARROWER than '..Said'. Prove '..Said' where nothing that the law and all that it calls make is longer than what came in: it says more and counts as full. Else prove '..UptoSaid'. A law counts once. -/
mutual
def uptoBulk {H : Type} : DataW H → Nat
  | .lit (.string bytes) => bytes.length + 1
  | .lit _ => 1
  | .nil => 1
  | .ptr d => uptoBulk d + 1
  | .slice elems spare => uptoBulkAll elems + uptoBulkAll spare + 1
  | .agg parts => uptoBulkAll parts + 1
  | .iface _ d => uptoBulk d + 1
  | .map entries => uptoBulkEntries entries + 1
  | .held _ => 1
def uptoBulkAll {H : Type} : List (DataW H) → Nat
  | [] => 0
  | d :: r => uptoBulk d + uptoBulkAll r
def uptoBulkEntries {H : Type} : List (Lit × DataW H) → Nat
  | [] => 0
  | x :: r => uptoBulkEntry x + uptoBulkEntries r
def uptoBulkEntry {H : Type} : Lit × DataW H → Nat
  | (.string bytes, d) => bytes.length + uptoBulk d + 1
  | (_, d) => uptoBulk d + 1
 end
def uptoSmall : (H : Type) → List (DataW H) → Bool := fun _ ds => decide (uptoBulkAll ds ≤ 1048576)
def OpenSpec.upto (s : _root_.Go.ChangeSpec) : _root_.Go.OpenSpec := { _root_.Go.OpenSpec.ofChange s with cond := some uptoSmall }

/-- 'coulomblaw04.PackNotBeaten', WHERE WHAT IT READS IS OF BULK AT MOST 1048576: true; the input reads as it did. -/
def packNotBeatenUptoRow : OpenClaim := { program := "ytdhbbdljiidgiaa", sum := "b26bef2984d3c12cb31d70bb165dcc9f4cd413f5b03677624e9c897782d7779a", func := "coulomb/coulomblaw04.PackNotBeaten", spec := "packNotBeaten", unfollowed := true, recurses := true, apart := false, narrowed := true }
def PackNotBeatenUptoSaid : Prop := packNotBeatenUptoRow.holds Try.pinned (OpenSpec.upto packNotBeatenSpec)

/-- 'coulomblaw04.PackDrains', WHERE WHAT IT READS IS OF BULK AT MOST 1048576: true; the input reads as it did. -/
def packDrainsUptoRow : OpenClaim := { program := "ytdhbbdljiidgiaa", sum := "b26bef2984d3c12cb31d70bb165dcc9f4cd413f5b03677624e9c897782d7779a", func := "coulomb/coulomblaw04.PackDrains", spec := "packDrains", unfollowed := true, recurses := true, apart := false, narrowed := true }
def PackDrainsUptoSaid : Prop := packDrainsUptoRow.holds Try.pinned (OpenSpec.upto packDrainsSpec)

/-- 'coulomblaw04.PackNarrow', WHERE WHAT IT READS IS OF BULK AT MOST 1048576: true; the input reads as it did. -/
def packNarrowUptoRow : OpenClaim := { program := "ytdhbbdljiidgiaa", sum := "b26bef2984d3c12cb31d70bb165dcc9f4cd413f5b03677624e9c897782d7779a", func := "coulomb/coulomblaw04.PackNarrow", spec := "packNarrow", unfollowed := true, recurses := true, apart := false, narrowed := true }
def PackNarrowUptoSaid : Prop := packNarrowUptoRow.holds Try.pinned (OpenSpec.upto packNarrowSpec)

/-- 'coulomblaw04.PackFlows', WHERE WHAT IT READS IS OF BULK AT MOST 1048576: true; the input reads as it did. -/
def packFlowsUptoRow : OpenClaim := { program := "ytdhbbdljiidgiaa", sum := "b26bef2984d3c12cb31d70bb165dcc9f4cd413f5b03677624e9c897782d7779a", func := "coulomb/coulomblaw04.PackFlows", spec := "packFlows", unfollowed := true, recurses := true, apart := false, narrowed := true }
def PackFlowsUptoSaid : Prop := packFlowsUptoRow.holds Try.pinned (OpenSpec.upto packFlowsSpec)

/-- 'coulomblaw04.PackBounds', WHERE WHAT IT READS IS OF BULK AT MOST 1048576: true; the input reads as it did. -/
def packBoundsUptoRow : OpenClaim := { program := "ytdhbbdljiidgiaa", sum := "b26bef2984d3c12cb31d70bb165dcc9f4cd413f5b03677624e9c897782d7779a", func := "coulomb/coulomblaw04.PackBounds", spec := "packBounds", unfollowed := true, recurses := true, apart := false, narrowed := true }
def PackBoundsUptoSaid : Prop := packBoundsUptoRow.holds Try.pinned (OpenSpec.upto packBoundsSpec)

/-- 'coulomblaw04.PackBleeds', WHERE WHAT IT READS IS OF BULK AT MOST 1048576: true; the input reads as it did. -/
def packBleedsUptoRow : OpenClaim := { program := "ytdhbbdljiidgiaa", sum := "b26bef2984d3c12cb31d70bb165dcc9f4cd413f5b03677624e9c897782d7779a", func := "coulomb/coulomblaw04.PackBleeds", spec := "packBleeds", unfollowed := true, recurses := true, apart := false, narrowed := true }
def PackBleedsUptoSaid : Prop := packBleedsUptoRow.holds Try.pinned (OpenSpec.upto packBleedsSpec)

/-- 'coulomblaw04.PackFewest', WHERE WHAT IT READS IS OF BULK AT MOST 1048576: true; the input reads as it did. -/
def packFewestUptoRow : OpenClaim := { program := "ytdhbbdljiidgiaa", sum := "b26bef2984d3c12cb31d70bb165dcc9f4cd413f5b03677624e9c897782d7779a", func := "coulomb/coulomblaw04.PackFewest", spec := "packFewest", unfollowed := true, recurses := true, apart := false, narrowed := true }
def PackFewestUptoSaid : Prop := packFewestUptoRow.holds Try.pinned (OpenSpec.upto packFewestSpec)

/-- 'coulomblaw04.PackQuickest', WHERE WHAT IT READS IS OF BULK AT MOST 1048576: true; the input reads as it did. -/
def packQuickestUptoRow : OpenClaim := { program := "ytdhbbdljiidgiaa", sum := "b26bef2984d3c12cb31d70bb165dcc9f4cd413f5b03677624e9c897782d7779a", func := "coulomb/coulomblaw04.PackQuickest", spec := "packQuickest", unfollowed := true, recurses := true, apart := false, narrowed := true }
def PackQuickestUptoSaid : Prop := packQuickestUptoRow.holds Try.pinned (OpenSpec.upto packQuickestSpec)

/-- 'coulomblaw04.PackKnown', WHERE WHAT IT READS IS OF BULK AT MOST 1048576: true; the input reads as it did. -/
def packKnownUptoRow : OpenClaim := { program := "ytdhbbdljiidgiaa", sum := "b26bef2984d3c12cb31d70bb165dcc9f4cd413f5b03677624e9c897782d7779a", func := "coulomb/coulomblaw04.PackKnown", spec := "packKnown", unfollowed := true, recurses := true, apart := false, narrowed := true }
def PackKnownUptoSaid : Prop := packKnownUptoRow.holds Try.pinned (OpenSpec.upto packKnownSpec)

end Rows
end Go.Proofs.Ytdhbbdljiidgiaa

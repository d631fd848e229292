/-
  No cell of these rows narrows 'for every input' (looked for: loops, veiled, ifaces, maps, wideKeys, modest, calm, conditions, laid).
  DERIVED. THE GIVEN ROWS OF THIS SEAT. 7 by the template 'for every input the law returns true; each argument reads behind the call as it read before'; 0 by the template 'total and deterministic' (their statements: YtdfdjlijghjdaaaTotals.lean).
  GIVEN WITH THE SEED: the statements are not yours to turn. If you find one false, say at which input.
  Laid BY PROGRAM, IN A SANDBOX (cutbox-rows.mjs): the forced cells as the released guide's own fill.sh prints them over the translation 878f05cdf32899b9… (all of the seat's roots in one cut). By AI agents, Wed Nov 11 2026. No macro, syntax, notation, axiom, sorry.
-/
import Derived.Test.YtdfdjlijghjdaaaChecked
import GoSem.Claim
import GoSem.ClaimJoined
import GoSem.ClaimMapViews
import Derived.JoinedTies
import Derived.KernelRfl
namespace Go.Proofs.Ytdfdjlijghjdaaa
/- THE CELL 'sum', in the pinned program and in every row, IS THE sha256 OF THE DUMP (.gsa) THAT YtdfdjlijghjdaaaProg.lean LOADS. Nothing in Lean hashes anything: it is a label: what it is worth is what the hold of that sum in a sandbox is worth. -/
noncomputable def Try.pinned : Pinned := { name := "ytdfdjlijghjdaaa", sum := "878f05cdf32899b92269e9355e6966b71a00dcbec1898b3284827b203653fa03", checked := Try.checked }
namespace Rows
def none {H : Type} : Left H := { results := [], args := [] }

/-- 'coulomblaw11.ThermalProves': WHATEVER THE INPUT: true; the input reads as it did. -/
def thermalProvesSpec : ChangeSpec := { name := "thermalProves", fn := fun _ => fun
  | [d1, d2, d3] => { results := [.lit (.bool true)], args := [d1, d2, d3] }
  | _ => none }
def thermalProvesRow : OpenClaim := { program := "ytdfdjlijghjdaaa", sum := "878f05cdf32899b92269e9355e6966b71a00dcbec1898b3284827b203653fa03", func := "coulomb/coulomblaw11.ThermalProves", spec := "thermalProves", unfollowed := true, recurses := true, plainKeys := false, apart := false }
def ThermalProvesSaid : Prop := thermalProvesRow.holds Try.pinned (OpenSpec.ofChange thermalProvesSpec)

/-- ITS FALSE NEIGHBOUR: 'it returns false'. Refute it at one input. -/
def thermalProvesWrong : ChangeSpec := { name := "thermalProves", fn := fun _ => fun
  | [d1, d2, d3] => { results := [.lit (.bool false)], args := [d1, d2, d3] }
  | _ => none }
def ThermalProvesWrongFalsely : Prop := thermalProvesRow.holds Try.pinned (OpenSpec.ofChange thermalProvesWrong)

/-- 'coulomblaw11.ThermalLeast': WHATEVER THE INPUT: true; the input reads as it did. -/
def thermalLeastSpec : ChangeSpec := { name := "thermalLeast", fn := fun _ => fun
  | [d] => { results := [.lit (.bool true)], args := [d] }
  | _ => none }
def thermalLeastRow : OpenClaim := { program := "ytdfdjlijghjdaaa", sum := "878f05cdf32899b92269e9355e6966b71a00dcbec1898b3284827b203653fa03", func := "coulomb/coulomblaw11.ThermalLeast", spec := "thermalLeast", unfollowed := true, recurses := true, plainKeys := false, apart := false }
def ThermalLeastSaid : Prop := thermalLeastRow.holds Try.pinned (OpenSpec.ofChange thermalLeastSpec)

/-- ITS FALSE NEIGHBOUR: 'it returns false'. Refute it at one input. -/
def thermalLeastWrong : ChangeSpec := { name := "thermalLeast", fn := fun _ => fun
  | [d] => { results := [.lit (.bool false)], args := [d] }
  | _ => none }
def ThermalLeastWrongFalsely : Prop := thermalLeastRow.holds Try.pinned (OpenSpec.ofChange thermalLeastWrong)

/-- 'coulomblaw11.ThermalPlans': WHATEVER THE INPUT: true; the input reads as it did. -/
def thermalPlansSpec : ChangeSpec := { name := "thermalPlans", fn := fun _ => fun
  | [d] => { results := [.lit (.bool true)], args := [d] }
  | _ => none }
def thermalPlansRow : OpenClaim := { program := "ytdfdjlijghjdaaa", sum := "878f05cdf32899b92269e9355e6966b71a00dcbec1898b3284827b203653fa03", func := "coulomb/coulomblaw11.ThermalPlans", spec := "thermalPlans", unfollowed := true, recurses := true, plainKeys := false, apart := false }
def ThermalPlansSaid : Prop := thermalPlansRow.holds Try.pinned (OpenSpec.ofChange thermalPlansSpec)

/-- ITS FALSE NEIGHBOUR: 'it returns false'. Refute it at one input. -/
def thermalPlansWrong : ChangeSpec := { name := "thermalPlans", fn := fun _ => fun
  | [d] => { results := [.lit (.bool false)], args := [d] }
  | _ => none }
def ThermalPlansWrongFalsely : Prop := thermalPlansRow.holds Try.pinned (OpenSpec.ofChange thermalPlansWrong)

/-- 'coulomblaw11.ThermalMany': WHATEVER THE INPUT: true; the input reads as it did. -/
def thermalManySpec : ChangeSpec := { name := "thermalMany", fn := fun _ => fun
  | [d] => { results := [.lit (.bool true)], args := [d] }
  | _ => none }
def thermalManyRow : OpenClaim := { program := "ytdfdjlijghjdaaa", sum := "878f05cdf32899b92269e9355e6966b71a00dcbec1898b3284827b203653fa03", func := "coulomb/coulomblaw11.ThermalMany", spec := "thermalMany", unfollowed := true, recurses := true, plainKeys := false, apart := false }
def ThermalManySaid : Prop := thermalManyRow.holds Try.pinned (OpenSpec.ofChange thermalManySpec)

/-- ITS FALSE NEIGHBOUR: 'it returns false'. Refute it at one input. -/
def thermalManyWrong : ChangeSpec := { name := "thermalMany", fn := fun _ => fun
  | [d] => { results := [.lit (.bool false)], args := [d] }
  | _ => none }
def ThermalManyWrongFalsely : Prop := thermalManyRow.holds Try.pinned (OpenSpec.ofChange thermalManyWrong)

/-- 'coulomblaw11.ThermalNarrower': WHATEVER THE INPUT: true; the input reads as it did. -/
def thermalNarrowerSpec : ChangeSpec := { name := "thermalNarrower", fn := fun _ => fun
  | [d1, d2, d3, d4] => { results := [.lit (.bool true)], args := [d1, d2, d3, d4] }
  | _ => none }
def thermalNarrowerRow : OpenClaim := { program := "ytdfdjlijghjdaaa", sum := "878f05cdf32899b92269e9355e6966b71a00dcbec1898b3284827b203653fa03", func := "coulomb/coulomblaw11.ThermalNarrower", spec := "thermalNarrower", unfollowed := true, recurses := true, plainKeys := false, apart := false }
def ThermalNarrowerSaid : Prop := thermalNarrowerRow.holds Try.pinned (OpenSpec.ofChange thermalNarrowerSpec)

/-- ITS FALSE NEIGHBOUR: 'it returns false'. Refute it at one input. -/
def thermalNarrowerWrong : ChangeSpec := { name := "thermalNarrower", fn := fun _ => fun
  | [d1, d2, d3, d4] => { results := [.lit (.bool false)], args := [d1, d2, d3, d4] }
  | _ => none }
def ThermalNarrowerWrongFalsely : Prop := thermalNarrowerRow.holds Try.pinned (OpenSpec.ofChange thermalNarrowerWrong)

/-- 'coulomblaw11.ThermalGreedy': WHATEVER THE INPUT: true; the input reads as it did. -/
def thermalGreedySpec : ChangeSpec := { name := "thermalGreedy", fn := fun _ => fun
  | [d] => { results := [.lit (.bool true)], args := [d] }
  | _ => none }
def thermalGreedyRow : OpenClaim := { program := "ytdfdjlijghjdaaa", sum := "878f05cdf32899b92269e9355e6966b71a00dcbec1898b3284827b203653fa03", func := "coulomb/coulomblaw11.ThermalGreedy", spec := "thermalGreedy", unfollowed := true, recurses := true, plainKeys := false, apart := false }
def ThermalGreedySaid : Prop := thermalGreedyRow.holds Try.pinned (OpenSpec.ofChange thermalGreedySpec)

/-- ITS FALSE NEIGHBOUR: 'it returns false'. Refute it at one input. -/
def thermalGreedyWrong : ChangeSpec := { name := "thermalGreedy", fn := fun _ => fun
  | [d] => { results := [.lit (.bool false)], args := [d] }
  | _ => none }
def ThermalGreedyWrongFalsely : Prop := thermalGreedyRow.holds Try.pinned (OpenSpec.ofChange thermalGreedyWrong)

/-- 'coulomblaw11.ThermalProof': WHATEVER THE INPUT: true; the input reads as it did. -/
def thermalProofSpec : ChangeSpec := { name := "thermalProof", fn := fun _ => fun
  | [d1, d2, d3, d4] => { results := [.lit (.bool true)], args := [d1, d2, d3, d4] }
  | _ => none }
def thermalProofRow : OpenClaim := { program := "ytdfdjlijghjdaaa", sum := "878f05cdf32899b92269e9355e6966b71a00dcbec1898b3284827b203653fa03", func := "coulomb/coulomblaw11.ThermalProof", spec := "thermalProof", unfollowed := true, recurses := true, plainKeys := false, apart := false }
def ThermalProofSaid : Prop := thermalProofRow.holds Try.pinned (OpenSpec.ofChange thermalProofSpec)

/-- ITS FALSE NEIGHBOUR: 'it returns false'. Refute it at one input. -/
def thermalProofWrong : ChangeSpec := { name := "thermalProof", fn := fun _ => fun
  | [d1, d2, d3, d4] => { results := [.lit (.bool false)], args := [d1, d2, d3, d4] }
  | _ => none }
def ThermalProofWrongFalsely : Prop := thermalProofRow.holds Try.pinned (OpenSpec.ofChange thermalProofWrong)

/- THE SECOND FORM. 'bulk': how many values and letters a reading holds, each counted each time it is reached (what is shared counts as often as it is met; a slice's spare places count too). A statement '..UptoSaid' is the law's where the arguments, and the package variables that the reading takes, are together of bulk at most 1048576: NARROWER than '..Said'. Prove '..Said' where nothing that the law and all that it calls make is longer than what came in: it says more and counts as full. Else prove '..UptoSaid'. A law counts once. -/
mutual
def uptoBulk {H : Type} : DataW H → Nat
  | .lit (.string bytes) => bytes.length + 1
  | .lit _ => 1
  | .nil => 1
  | .ptr d => uptoBulk d + 1
  | .slice elems spare => uptoBulkAll elems + uptoBulkAll spare + 1
  | .agg parts => uptoBulkAll parts + 1
  | .iface _ d => uptoBulk d + 1
  | .map entries => uptoBulkEntries entries + 1
  | .held _ => 1
def uptoBulkAll {H : Type} : List (DataW H) → Nat
  | [] => 0
  | d :: r => uptoBulk d + uptoBulkAll r
def uptoBulkEntries {H : Type} : List (Lit × DataW H) → Nat
  | [] => 0
  | x :: r => uptoBulkEntry x + uptoBulkEntries r
def uptoBulkEntry {H : Type} : Lit × DataW H → Nat
  | (.string bytes, d) => bytes.length + uptoBulk d + 1
  | (_, d) => uptoBulk d + 1
 end
def uptoSmall : (H : Type) → List (DataW H) → Bool := fun _ ds => decide (uptoBulkAll ds ≤ 1048576)
def OpenSpec.upto (s : _root_.Go.ChangeSpec) : _root_.Go.OpenSpec := { _root_.Go.OpenSpec.ofChange s with cond := some uptoSmall }

/-- 'coulomblaw11.ThermalProves', WHERE WHAT IT READS IS OF BULK AT MOST 1048576: true; the input reads as it did. -/
def thermalProvesUptoRow : OpenClaim := { program := "ytdfdjlijghjdaaa", sum := "878f05cdf32899b92269e9355e6966b71a00dcbec1898b3284827b203653fa03", func := "coulomb/coulomblaw11.ThermalProves", spec := "thermalProves", unfollowed := true, recurses := true, plainKeys := false, apart := false, narrowed := true }
def ThermalProvesUptoSaid : Prop := thermalProvesUptoRow.holds Try.pinned (OpenSpec.upto thermalProvesSpec)

/-- 'coulomblaw11.ThermalLeast', WHERE WHAT IT READS IS OF BULK AT MOST 1048576: true; the input reads as it did. -/
def thermalLeastUptoRow : OpenClaim := { program := "ytdfdjlijghjdaaa", sum := "878f05cdf32899b92269e9355e6966b71a00dcbec1898b3284827b203653fa03", func := "coulomb/coulomblaw11.ThermalLeast", spec := "thermalLeast", unfollowed := true, recurses := true, plainKeys := false, apart := false, narrowed := true }
def ThermalLeastUptoSaid : Prop := thermalLeastUptoRow.holds Try.pinned (OpenSpec.upto thermalLeastSpec)

/-- 'coulomblaw11.ThermalPlans', WHERE WHAT IT READS IS OF BULK AT MOST 1048576: true; the input reads as it did. -/
def thermalPlansUptoRow : OpenClaim := { program := "ytdfdjlijghjdaaa", sum := "878f05cdf32899b92269e9355e6966b71a00dcbec1898b3284827b203653fa03", func := "coulomb/coulomblaw11.ThermalPlans", spec := "thermalPlans", unfollowed := true, recurses := true, plainKeys := false, apart := false, narrowed := true }
def ThermalPlansUptoSaid : Prop := thermalPlansUptoRow.holds Try.pinned (OpenSpec.upto thermalPlansSpec)

/-- 'coulomblaw11.ThermalMany', WHERE WHAT IT READS IS OF BULK AT MOST 1048576: true; the input reads as it did. -/
def thermalManyUptoRow : OpenClaim := { program := "ytdfdjlijghjdaaa", sum := "878f05cdf32899b92269e9355e6966b71a00dcbec1898b3284827b203653fa03", func := "coulomb/coulomblaw11.ThermalMany", spec := "thermalMany", unfollowed := true, recurses := true, plainKeys := false, apart := false, narrowed := true }
def ThermalManyUptoSaid : Prop := thermalManyUptoRow.holds Try.pinned (OpenSpec.upto thermalManySpec)

/-- 'coulomblaw11.ThermalNarrower', WHERE WHAT IT READS IS OF BULK AT MOST 1048576: true; the input reads as it did. -/
def thermalNarrowerUptoRow : OpenClaim := { program := "ytdfdjlijghjdaaa", sum := "878f05cdf32899b92269e9355e6966b71a00dcbec1898b3284827b203653fa03", func := "coulomb/coulomblaw11.ThermalNarrower", spec := "thermalNarrower", unfollowed := true, recurses := true, plainKeys := false, apart := false, narrowed := true }
def ThermalNarrowerUptoSaid : Prop := thermalNarrowerUptoRow.holds Try.pinned (OpenSpec.upto thermalNarrowerSpec)

/-- 'coulomblaw11.ThermalGreedy', WHERE WHAT IT READS IS OF BULK AT MOST 1048576: true; the input reads as it did. -/
def thermalGreedyUptoRow : OpenClaim := { program := "ytdfdjlijghjdaaa", sum := "878f05cdf32899b92269e9355e6966b71a00dcbec1898b3284827b203653fa03", func := "coulomb/coulomblaw11.ThermalGreedy", spec := "thermalGreedy", unfollowed := true, recurses := true, plainKeys := false, apart := false, narrowed := true }
def ThermalGreedyUptoSaid : Prop := thermalGreedyUptoRow.holds Try.pinned (OpenSpec.upto thermalGreedySpec)

/-- 'coulomblaw11.ThermalProof', WHERE WHAT IT READS IS OF BULK AT MOST 1048576: true; the input reads as it did. -/
def thermalProofUptoRow : OpenClaim := { program := "ytdfdjlijghjdaaa", sum := "878f05cdf32899b92269e9355e6966b71a00dcbec1898b3284827b203653fa03", func := "coulomb/coulomblaw11.ThermalProof", spec := "thermalProof", unfollowed := true, recurses := true, plainKeys := false, apart := false, narrowed := true }
def ThermalProofUptoSaid : Prop := thermalProofUptoRow.holds Try.pinned (OpenSpec.upto thermalProofSpec)

end Rows
end Go.Proofs.Ytdfdjlijghjdaaa

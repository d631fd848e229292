/- What Check, CheckStates, Split, Voltage, Step and Run return for a pack is what the definition says, or refused; for all packs, states, groups and inputs; no condition. -/
import Derived.Test.YtlacopdaibhkkaaGreatQGc474aa4a
import Derived.Test.YtlacopdaibhkkaaGreatRows
set_option linter.unusedSimpArgs false
set_option linter.unusedVariables false
namespace Go.Proofs.YtlacopdaibhkkaaGreat
namespace Abs
open Go Go.RowKit
attribute [local irreducible] FnSat
noncomputable section
def pstI : DatL [pkSh, sxSh, .int .i64, inpsSh] -> Anns := fun (_, _, _, (n, _), _) => [
 (10, [], fun fr hp => ⟨Nat, fun g => ⟨frI [.k 13, .s (.si .i64 (icast g)), .t 12, .k 46, .t 108] fr, hp⟩, Nat × Nat, fun g => (g, n), fun (g, n) => g <= n, fun g => nsub 9 g⟩)]
end
set_option maxRecDepth 100000 in
set_option maxHeartbeats 4000000 in
theorem packSteps_law : LawFn Tryz.prog 3 [pkSh, sxSh, .int .i64, inpsSh] := by
 refine FnSpec.of HH2_ok mixed (U := 0) (I := pstI) Tryz.func3 rfl (by kernel_rfl) rfl rfl (by decide +kernel) ?_
 rintro ⟨p, s, (g : Int), ⟨n, el⟩, ⟨⟩⟩ hv
 obtain ⟨p, rfl⟩ := pk_ex p
 obtain ⟨s, rfl⟩ := sx_ex s
 obtain ⟨il, al, rfl⟩ : ∃ il al : Nat -> Int, el = fun k => (il k, al k, ()) := ⟨fun k => (el k).1, fun k => (el k).2.1, rfl⟩
 unfold FnSat
 conv => arg 2; reduce
 simp [truS, grS, pckS, scsS, runS, smsS, smcS, vtS, vtR, stxS, splS, splR, sxOf_len, sxOf_sz, ElEq, getB, goneB, aliveB, and_assoc]
 have ei : (fun k => il k) = il := rfl
 have ea : (fun k => al k) = al := rfl
 simp only [ei, ea]
 intro hg hn
 obtain ⟨g1, g2, hP, g3, g4⟩ := grB_f hg
 have hk : ∀ (e : Int) (m : Nat), okN e m <= m := fun e m => by unfold okN; split <;> omega
 have hX : (rnX p s il al n).len <= 20 /\ ∀ i, i < (rnX p s il al n).len -> (rnX p s il al n).sz i <= 6 := by
  cases n with
  | zero => rw [rnX_0]; exact ⟨g2, g4⟩
  | succ k => rw [rnX_s, stxN_len, stxN_sz]; exact ⟨g1, g3⟩
 refine ⟨hP, by have := hk (runE p s n il al) (rnX p s il al n).len; omega, fun i hi => ?_, ⟨0, rfl, by omega⟩, fun q hq hlt => ⟨hlt, hP, hlt, hP, hlt, hP, hlt, hP, by have := hk (stxE p s (il q) (al q)) p.len; omega, fun i hi => ?_, hlt, hP, hlt, hP, ?_, by omega, by omega, q + 1, by omega, by omega, by omega⟩⟩
 ·have h1 := hk (runE p s n il al) (rnX p s il al n).len
  have h2 := hX.2 i (by omega)
  omega
 ·have h1 := hk (stxE p s (il q) (al q)) p.len
  have h2 := g3 i (by omega)
  omega
 ·unfold splN
  by_cases h : splE p s g (il q) = 0
  ·obtain ⟨hss, ⟨⟨h0, h1⟩, _⟩, _⟩ := splE_0.1 h
   have h2 := g3 g.toNat (by omega)
   rw [okN_0 h]; omega
  ·rw [okN_e h]; omega
end Abs
open Go.ChangeShapes Go.WideShapes Go.ChangeAt Go.RowKit
set_option maxRecDepth 100000 in
theorem packSteps_lifted (os : Os) (started : os.Started) (H : Type) (enc : TypeId × Value -> H) :
  ReturnsInHanded {} Tryz.checked os 3 .any (Rows.packStepsSpec.pre6 enc Tryz.prog Tryz.f3 Rows.packStepsRow.domain false) (Rows.packStepsSpec.post enc Tryz.prog Tryz.f3 false true false false) := by
 refine returnsInHanded_of_change (C := Tryz.checked) (show ownKnob Tryz.prog.godebug = none by kernel_rfl) started (by kernel_rfl) Tryz.func3
  (ChangeSpec.witness6 (enc := enc) (C := Tryz.checked) false ⟨#[], #[.agg #[.slice none 0 0], .slice none 0 0, .int .i64 0, .slice none 0 0], []⟩ 8 (by kernel_rfl) (by kernel_rfl) (by kernel_rfl) (by kernel_rfl)) ?_
 intro W base args ds gs before hval0 hW hcnd _
 have hW0 := hW
 obtain ⟨p, q, hA, hV, rfl, hfz, hnd⟩ := hW0
 refine (Abs.law_calls (enc' := enc) Abs.packSteps_law (fn := Tryz.f3) (d := 8) (by kernel_rfl) hA hval0).mono fun e W' hh => ?_
 obtain ⟨he, hb⟩ := hh
 subst he
 exact ⟨_, rfl, Abs.law_post (s := Rows.packStepsSpec) (f := Tryz.f3) (by kernel_rfl) rfl (by kernel_rfl) (by kernel_rfl) rfl 4 (by kernel_rfl) (fun ds hl => by
  rcases ds with _ | ⟨d0, _ | ⟨d1, _ | ⟨d2, _ | ⟨d3, _ | ⟨d4, _⟩⟩⟩⟩⟩
  all_goals first | exact ⟨rfl, rfl, rfl⟩ | (exfalso; simp only [List.length_cons, List.length_nil] at hl; omega)) hW hb⟩
theorem packSteps_holds : Rows.PackStepsSaid :=
 OpenClaim.holds_of_wide 3 Tryz.f3 rfl rfl rfl rfl rfl rfl rfl ⟨rfl, rfl, rfl, rfl, rfl⟩ rfl rfl rfl rfl rfl (by kernel_rfl) Tryz.func3 (by kernel_rfl)
  (of_decide_eq_true (by kernel_rfl)) (by unfold Func.isWrapper; first | (rw [if_pos (by decide +kernel)]; kernel_rfl) | (rw [if_neg (by decide +kernel)]; exact ⟨rfl, rfl⟩))
  (fun os started H enc _ => packSteps_lifted os started H enc)
end Go.Proofs.YtlacopdaibhkkaaGreat

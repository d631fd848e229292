/- For all seeds, made less than 2^63, the program's generators draw different numbers first where the seeds differ, and never 0; no condition. -/
import Derived.Test.YtghmkkdmpmmbhaaQG8d8479e0
import Derived.Test.YtghmkkdmpmmbhaaRows
set_option linter.unusedSimpArgs false
set_option linter.unusedVariables false
namespace Go.Proofs.Ytghmkkdmpmmbhaa
namespace Abs
open Go Go.RowKit
attribute [local irreducible] FnSat
set_option maxRecDepth 100000 in
theorem cellSeeds_law : LawFn Try.prog 5 [.int .u64, .int .u64] := by
  refine FnSpec.of SDc_ok mixed (U := 0) (I := fun _ => []) Try.func5 rfl (by kernel_rfl) rfl rfl (by decide +kernel) ?_
  rintro ⟨(a : Int), (b : Int), ⟨⟩⟩ hv
  unfold FnSat
  conv => arg 2; reduce
  simp [trueS, nextF, newN, and_assoc]
  have ha : InR .u64 a := hv.1
  have hb : InR .u64 b := hv.2.1
  have ha0 : 0 ≤ a := by have := ha.1; simpa [IntKind.min, IntKind.signed] using this
  have hb0 : 0 ≤ b := by have := hb.1; simpa [IntKind.min, IntKind.signed] using this
  rw [Int.tmod_eq_emod_of_nonneg ha0, Int.tmod_eq_emod_of_nonneg hb0]
  have a1 := Int.emod_nonneg a (show (9223372036854775808 : Int) ≠ 0 by decide)
  have a2 := Int.emod_lt_of_pos a (show (0 : Int) < 9223372036854775808 by decide)
  have b1 := Int.emod_nonneg b (show (9223372036854775808 : Int) ≠ 0 by decide)
  have b2 := Int.emod_lt_of_pos b (show (0 : Int) < 9223372036854775808 by decide)
  generalize a % 9223372036854775808 = x at *
  generalize b % 9223372036854775808 = y at *
  refine ⟨sdV_u x, sdV_u y, outV_ne (sdV_u x) (sdV_ne x), outV_ne (sdV_u y) (sdV_ne y), ?_⟩
  rw [Bool.eq_iff_iff]
  simp only [beq_iff_eq]
  constructor
  · intro h
    have := outV_inj (sdV_u x) (sdV_u y) h
    unfold sdV at this
    omega
  · intro h; rw [h]
end Abs
open Go.ChangeShapes Go.WideShapes Go.ChangeAt Go.RowKit
set_option maxRecDepth 100000 in
theorem cellSeeds_lifted (os : Os) (started : os.Started) (H : Type) (enc : TypeId × Value → H) :
    ReturnsInHanded {} Try.checked os 5 .any (Rows.cellSeedsSpec.pre6 enc Try.prog Try.f5 Rows.cellSeedsRow.domain false) (Rows.cellSeedsSpec.post enc Try.prog Try.f5 false true false false) := by
  refine returnsInHanded_of_change (C := Try.checked) (show ownKnob Try.prog.godebug = none by kernel_rfl) started (by kernel_rfl) Try.func5
    (ChangeSpec.witness6 (enc := enc) (C := Try.checked) false ⟨#[], #[.int .u64 0, .int .u64 0], []⟩ 8 (by kernel_rfl) (by kernel_rfl) (by kernel_rfl) (by kernel_rfl)) ?_
  intro W base args ds gs before hval0 hW hcnd _
  have hW0 := hW
  obtain ⟨p, q, hA, hV, rfl, hfz, hnd⟩ := hW0
  refine (Abs.law_calls (enc' := enc) Abs.cellSeeds_law (fn := Try.f5) (d := 2) (by kernel_rfl) hA hval0).mono fun e W' hh => ?_
  obtain ⟨he, hb⟩ := hh
  subst he
  exact ⟨_, rfl, Abs.law_post (s := Rows.cellSeedsSpec) (f := Try.f5) (by kernel_rfl) rfl (by kernel_rfl) (by kernel_rfl) rfl 2 (by kernel_rfl) (fun ds hl => by
    rcases ds with _ | ⟨d0, _ | ⟨d1, _ | ⟨d2, _⟩⟩⟩
    all_goals first | exact ⟨rfl, rfl, rfl⟩ | (exfalso; simp only [List.length_cons, List.length_nil] at hl; omega)) hW hb⟩
theorem cellSeeds_holds : Rows.CellSeedsSaid :=
  OpenClaim.holds_of_wide 5 Try.f5 rfl rfl rfl rfl rfl rfl rfl ⟨rfl, rfl, rfl, rfl, rfl⟩ rfl rfl rfl rfl rfl (by kernel_rfl) Try.func5 (by kernel_rfl)
    (of_decide_eq_true (by kernel_rfl)) (by unfold Func.isWrapper; first | (rw [if_pos (by decide +kernel)]; kernel_rfl) | (rw [if_neg (by decide +kernel)]; exact ⟨rfl, rfl⟩))
    (fun os started H enc _ => cellSeeds_lifted os started H enc)
end Go.Proofs.Ytghmkkdmpmmbhaa

/- For all states and at most 20 numbers the program's vector of a state has its numbers, and the state is found from it, as the document says; no condition. -/
import Derived.Test.YtghmkkdmpmmbhaaQGdacbf90a
import Derived.Test.YtghmkkdmpmmbhaaRows
set_option linter.unusedSimpArgs false
set_option linter.unusedVariables false
namespace Go.Proofs.Ytghmkkdmpmmbhaa
namespace Abs
open Go Go.RowKit
attribute [local irreducible] FnSat
set_option maxRecDepth 100000 in
theorem cellVectors_law : LawFn Try.prog 6 [staSh, intsSh] := by
  refine FnSpec.of SVb_ok mixed (U := 0) (I := fun _ => []) Try.func6 rfl (by kernel_rfl) rfl rfl (by decide +kernel) ?_
  rintro ⟨⟨(a : Int), (b : Int), (c : Int), (d : Int), (e : Int), ⟨⟩⟩, ⟨n, el⟩, ⟨⟩⟩ hv
  obtain ⟨v, rfl⟩ : ∃ v : Nat → Int, el = fun k => (v k, ()) := ⟨fun k => (el k).1, rfl⟩
  unfold FnSat
  conv => arg 2; reduce
  simp [trueS, ofS, sameS, ElEq, and_assoc]
  intro _
  refine ⟨by decide, sameV_self _ _, ?_⟩
  simp [ofE, ofV]
end Abs
open Go.ChangeShapes Go.WideShapes Go.ChangeAt Go.RowKit
set_option maxRecDepth 100000 in
theorem cellVectors_lifted (os : Os) (started : os.Started) (H : Type) (enc : TypeId × Value → H) :
    ReturnsInHanded {} Try.checked os 6 .any (Rows.cellVectorsSpec.pre6 enc Try.prog Try.f6 Rows.cellVectorsRow.domain false) (Rows.cellVectorsSpec.post enc Try.prog Try.f6 false true false false) := by
  refine returnsInHanded_of_change (C := Try.checked) (show ownKnob Try.prog.godebug = none by kernel_rfl) started (by kernel_rfl) Try.func6
    (ChangeSpec.witness6 (enc := enc) (C := Try.checked) false ⟨#[], #[.agg #[.int .i64 0, .int .i64 0, .int .i64 0, .int .i64 0, .int .i64 0], .slice none 0 0], []⟩ 8 (by kernel_rfl) (by kernel_rfl) (by kernel_rfl) (by kernel_rfl)) ?_
  intro W base args ds gs before hval0 hW hcnd _
  have hW0 := hW
  obtain ⟨p, q, hA, hV, rfl, hfz, hnd⟩ := hW0
  refine (Abs.law_calls (enc' := enc) Abs.cellVectors_law (fn := Try.f6) (d := 2) (by kernel_rfl) hA hval0).mono fun e W' hh => ?_
  obtain ⟨he, hb⟩ := hh
  subst he
  exact ⟨_, rfl, Abs.law_post (s := Rows.cellVectorsSpec) (f := Try.f6) (by kernel_rfl) rfl (by kernel_rfl) (by kernel_rfl) rfl 2 (by kernel_rfl) (fun ds hl => by
    rcases ds with _ | ⟨d0, _ | ⟨d1, _ | ⟨d2, _⟩⟩⟩
    all_goals first | exact ⟨rfl, rfl, rfl⟩ | (exfalso; simp only [List.length_cons, List.length_nil] at hl; omega)) hW hb⟩
theorem cellVectors_holds : Rows.CellVectorsSaid :=
  OpenClaim.holds_of_wide 6 Try.f6 rfl rfl rfl rfl rfl rfl rfl ⟨rfl, rfl, rfl, rfl, rfl⟩ rfl rfl rfl rfl rfl (by kernel_rfl) Try.func6 (by kernel_rfl)
    (of_decide_eq_true (by kernel_rfl)) (by unfold Func.isWrapper; first | (rw [if_pos (by decide +kernel)]; kernel_rfl) | (rw [if_neg (by decide +kernel)]; exact ⟨rfl, rfl⟩))
    (fun os started H enc _ => cellVectors_lifted os started H enc)
end Go.Proofs.Ytghmkkdmpmmbhaa

/- For all sensors, numbers, noises and readings the program's CheckSensor, Show and Behind return what the document says; no condition. -/
import Derived.Test.YtaiilbgknjlmoaaQEstimateSensors2
import Derived.Test.YtaiilbgknjlmoaaRows
namespace Go.Proofs.Ytaiilbgknjlmoaa
namespace Abs
open Go Go.RowKit
def SEs : Sums := ⟨(12, mkSum _ trueS) :: (9, mkSum _ behind) :: SR3.one, SR3.two, SR3.lo, SR3.eqs⟩
theorem SEs_ok : SumsOK Try.prog SEs := ((SR3_ok.cons Try.func9 (by kernel_rfl) (by kernel_rfl) rbehind_ok).cons Try.func12 (by kernel_rfl) (by kernel_rfl) works_ok)
set_option maxRecDepth 100000 in
theorem estimateSensors_law : LawFn Try.prog 3 [senSh, .int .i64, .int .i64, .int .i64] := by
  refine FnSpec.of SEs_ok mixed (U := 0) (I := fun _ => []) Try.func3 rfl (by kernel_rfl) rfl rfl (by decide +kernel) ?_
  rintro ⟨⟨(a : Int), (b : Int), (c : Int), (d : Int), ⟨⟩⟩, (x : Int), (n : Int), (r : Int), ⟨⟩⟩ hv
  unfold FnSat
  conv => arg 2; reduce
  simp [show_, behind, check, trueS]
end Abs
open Go.ChangeShapes Go.WideShapes Go.ChangeAt Go.RowKit
set_option maxRecDepth 100000 in
theorem estimateSensors_lifted (os : Os) (started : os.Started) (H : Type) (enc : TypeId × Value → H) :
    ReturnsInHanded {} Try.checked os 3 .any (Rows.estimateSensorsSpec.pre6 enc Try.prog Try.f3 Rows.estimateSensorsRow.domain false) (Rows.estimateSensorsSpec.post enc Try.prog Try.f3 false true false false) := by
  refine returnsInHanded_of_change (C := Try.checked) (show ownKnob Try.prog.godebug = none by kernel_rfl) started (by kernel_rfl) Try.func3
    (ChangeSpec.witness6 (enc := enc) (C := Try.checked) false ⟨#[], #[.agg #[.int .i64 0, .int .i64 0, .int .i64 0, .int .i64 0], .int .i64 0, .int .i64 0, .int .i64 0], []⟩ 8 (by kernel_rfl) (by kernel_rfl) (by kernel_rfl) (by kernel_rfl)) ?_
  intro W base args ds gs before hval0 hW hcnd _
  have hW0 := hW
  obtain ⟨p, q, hA, hV, rfl, hfz, hnd⟩ := hW0
  refine (Abs.law_calls (enc' := enc) Abs.estimateSensors_law (fn := Try.f3) (d := 3) (by kernel_rfl) hA hval0).mono fun e W' hh => ?_
  obtain ⟨he, hb⟩ := hh
  subst he
  exact ⟨_, rfl, Abs.law_post (s := Rows.estimateSensorsSpec) (f := Try.f3) (by kernel_rfl) rfl (by kernel_rfl) (by kernel_rfl) rfl 4 (by kernel_rfl) (fun ds hl => by
    rcases ds with _ | ⟨d0, _ | ⟨d1, _ | ⟨d2, _ | ⟨d3, _ | ⟨d4, _⟩⟩⟩⟩⟩
    all_goals first | exact ⟨rfl, rfl, rfl⟩ | (exfalso; simp only [List.length_cons, List.length_nil] at hl; omega)) hW hb⟩
theorem estimateSensors_holds : Rows.EstimateSensorsSaid :=
  OpenClaim.holds_of_wide 3 Try.f3 rfl rfl rfl rfl rfl rfl rfl ⟨rfl, rfl, rfl, rfl, rfl⟩ rfl rfl rfl rfl rfl (by kernel_rfl) Try.func3 (by kernel_rfl)
    (of_decide_eq_true (by kernel_rfl)) (by unfold Func.isWrapper; first | (rw [if_pos (by decide +kernel)]; kernel_rfl) | (rw [if_neg (by decide +kernel)]; exact ⟨rfl, rfl⟩))
    (fun os started H enc _ => estimateSensors_lifted os started H enc)
end Go.Proofs.Ytaiilbgknjlmoaa

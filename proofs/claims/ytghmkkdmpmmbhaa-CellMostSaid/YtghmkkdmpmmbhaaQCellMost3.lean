/- The greatest safe currents out of and into a cell are those of the document, or refused alike; no condition. -/
import Derived.Test.YtghmkkdmpmmbhaaQG3f8e9af8
import Derived.Test.YtghmkkdmpmmbhaaRows
set_option linter.unusedSimpArgs false
set_option linter.unusedVariables false
namespace Go.Proofs.Ytghmkkdmpmmbhaa
namespace Abs
open Go Go.RowKit
noncomputable section
attribute [local irreducible] FnSat
def SLm : Sums := ⟨(37, mkSum _ inmo) :: (35, mkSum _ outmo) :: (36, mkSum _ inmo) :: (34, mkSum _ outmo) :: SRk.one, SRk.two, SRk.lo, SRk.eqs, SRk.its⟩
theorem SLm_ok : SumsOK Try.prog SLm := ((((SRk_ok.cons Try.func34 (by kernel_rfl) (by kernel_rfl) outmo_ok).cons Try.func36 (by kernel_rfl) (by kernel_rfl) inmo_ok).cons Try.func35 (by kernel_rfl) (by kernel_rfl) routm_ok).cons Try.func37 (by kernel_rfl) (by kernel_rfl) rinm_ok)
set_option maxRecDepth 100000 in
set_option maxHeartbeats 4000000 in
theorem cellMost_law : LawFn Try.prog 9 [celSh, staSh, limSh, .int .i64] := by
  refine FnSpec.of SLm_ok mixed (U := 0) (I := fun _ => []) Try.func9 rfl (by kernel_rfl) rfl rfl (by decide +kernel) ?_
  rintro ⟨c, s, ⟨(l : Int), (m : Int), (o : Int), (k : Int), (h : Int), ⟨⟩⟩, (a : Int), ⟨⟩⟩ hv
  obtain ⟨c, rfl⟩ := cel_ex c
  obtain ⟨s, rfl⟩ := sta_ex s
  unfold FnSat
  conv => arg 2; reduce
  simp [-Bool.forall_bool, trueS, grtS, outmo, inmo, and_assoc]
  exact grtB_no
end
end Abs
open Go.ChangeShapes Go.WideShapes Go.ChangeAt Go.RowKit
set_option maxRecDepth 100000 in
theorem cellMost_lifted (os : Os) (started : os.Started) (H : Type) (enc : TypeId × Value → H) :
    ReturnsInHanded {} Try.checked os 9 .any (Rows.cellMostSpec.pre6 enc Try.prog Try.f9 Rows.cellMostRow.domain false) (Rows.cellMostSpec.post enc Try.prog Try.f9 false true false false) := by
  refine returnsInHanded_of_change (C := Try.checked) (show ownKnob Try.prog.godebug = none by kernel_rfl) started (by kernel_rfl) Try.func9
    (ChangeSpec.witness6 (enc := enc) (C := Try.checked) false ⟨#[], #[.agg #[.int .i64 0, .slice none 0 0, .slice none 0 0, .int .i64 0, .slice none 0 0, .slice none 0 0, .int .i64 0, .int .i64 0, .int .i64 0, .int .i64 0, .int .i64 0, .int .i64 0, .slice none 0 0, .slice none 0 0, .int .i64 0, .int .i64 0, .int .i64 0], .agg #[.int .i64 0, .int .i64 0, .int .i64 0, .int .i64 0, .int .i64 0], .agg #[.int .i64 0, .int .i64 0, .int .i64 0, .int .i64 0, .int .i64 0], .int .i64 0], []⟩ 8 (by kernel_rfl) (by kernel_rfl) (by kernel_rfl) (by kernel_rfl)) ?_
  intro W base args ds gs before hval0 hW hcnd _
  have hW0 := hW
  obtain ⟨p, q, hA, hV, rfl, hfz, hnd⟩ := hW0
  refine (Abs.law_calls (enc' := enc) Abs.cellMost_law (fn := Try.f9) (d := 4) (by kernel_rfl) hA hval0).mono fun e W' hh => ?_
  obtain ⟨he, hb⟩ := hh
  subst he
  exact ⟨_, rfl, Abs.law_post (s := Rows.cellMostSpec) (f := Try.f9) (by kernel_rfl) rfl (by kernel_rfl) (by kernel_rfl) rfl 4 (by kernel_rfl) (fun ds hl => by
    rcases ds with _ | ⟨d0, _ | ⟨d1, _ | ⟨d2, _ | ⟨d3, _ | ⟨d4, _⟩⟩⟩⟩⟩
    all_goals first | exact ⟨rfl, rfl, rfl⟩ | (exfalso; simp only [List.length_cons, List.length_nil] at hl; omega)) hW hb⟩
theorem cellMost_holds : Rows.CellMostSaid :=
  OpenClaim.holds_of_wide 9 Try.f9 rfl rfl rfl rfl rfl rfl rfl ⟨rfl, rfl, rfl, rfl, rfl⟩ rfl rfl rfl rfl rfl (by kernel_rfl) Try.func9 (by kernel_rfl)
    (of_decide_eq_true (by kernel_rfl)) (by unfold Func.isWrapper; first | (rw [if_pos (by decide +kernel)]; kernel_rfl) | (rw [if_neg (by decide +kernel)]; exact ⟨rfl, rfl⟩))
    (fun os started H enc _ => cellMost_lifted os started H enc)
end Go.Proofs.Ytghmkkdmpmmbhaa

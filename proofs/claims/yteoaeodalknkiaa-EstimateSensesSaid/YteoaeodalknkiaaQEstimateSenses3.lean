/- What the sensors of a cell show is what the document says, or refused alike; no condition. -/
import Derived.Test.YteoaeodalknkiaaQG065a5c81
import Derived.Test.YteoaeodalknkiaaRows
set_option linter.unusedSimpArgs false
set_option linter.unusedVariables false
namespace Go.Proofs.Yteoaeodalknkiaa
namespace Abs
open Go Go.RowKit
noncomputable section
attribute [local irreducible] FnSat
@[reducible] def rd8 : List (Option IntKind) := [none, none, none, none, some .i64, some .i64, some .i64, some .i64]
def eqsR : List (Nat × List (Option IntKind)) := [(39, rd8)]
theorem eqsR_ok : ∀ t ks, findS eqsR t = some ks → EqOK Try.prog t ks := by
  intro t ks h
  unfold eqsR at h
  simp only [findS] at h
  split at h
  · rename_i e
    obtain rfl := Nat.eq_of_beq_eq_true e
    injection h with h; subst h
    exact EqOK.of 3 (by decide) (by kernel_rfl) (by kernel_rfl) (by kernel_rfl)
  · cases h
def SLn0 : Sums := ⟨SEt.one, SEt.two, SEt.lo, eqsR, SEt.its, SEt.imm⟩
theorem SLn0_ok : SumsOK Try.prog SLn0 := SEt_ok.setEqs eqsR_ok
def SLn : Sums := ⟨(7, mkSum _ shtS) :: (8, mkSum _ tru3) :: SLn0.one, SLn0.two, SLn0.lo, SLn0.eqs, SLn0.its, SLn0.imm⟩
theorem SLn_ok : SumsOK Try.prog SLn := ((SLn0_ok.cons Try.func8 (by kernel_rfl) (by kernel_rfl) works_ok).cons Try.func7 (by kernel_rfl) (by kernel_rfl) sht_ok)
set_option maxRecDepth 100000 in
set_option maxHeartbeats 4000000 in
theorem estimateSenses_law : LawFn Try.prog 3 [sen4, celSh, staSh, inSh, int4] := by
  refine FnSpec.of SLn_ok mixed (U := 0) (I := fun _ => []) Try.func3 rfl (by kernel_rfl) rfl rfl (by decide +kernel) ?_
  rintro ⟨⟨(a0 : Int), (b0 : Int), (c0 : Int), (d0 : Int), (a1 : Int), (b1 : Int), (c1 : Int), (d1 : Int), (a2 : Int), (b2 : Int), (c2 : Int), (d2 : Int), (a3 : Int), (b3 : Int), (c3 : Int), (d3 : Int), ⟨⟩⟩, c, s, ⟨(i : Int), (am : Int), ⟨⟩⟩, ⟨(n0 : Int), (n1 : Int), (n2 : Int), (n3 : Int), ⟨⟩⟩, ⟨⟩⟩ hv
  obtain ⟨c, rfl⟩ := cel_ex c
  obtain ⟨s, rfl⟩ := sta_ex s
  unfold FnSat
  conv => arg 2; reduce
  simp [-Bool.forall_bool, tru3, shtS, senS, and_assoc]
  exact shtB_max
end
end Abs
open Go.ChangeShapes Go.WideShapes Go.ChangeAt Go.RowKit
set_option maxRecDepth 100000 in
theorem estimateSenses_lifted (os : Os) (started : os.Started) (H : Type) (enc : TypeId × Value → H) :
    ReturnsInHanded {} Try.checked os 3 .any (Rows.estimateSensesSpec.pre6 enc Try.prog Try.f3 Rows.estimateSensesRow.domain false) (Rows.estimateSensesSpec.post enc Try.prog Try.f3 false true false false) := by
  refine returnsInHanded_of_change (C := Try.checked) (show ownKnob Try.prog.godebug = none by kernel_rfl) started (by kernel_rfl) Try.func3
    (ChangeSpec.witness6 (enc := enc) (C := Try.checked) false ⟨#[], #[.agg #[.int .i64 0, .int .i64 0, .int .i64 0, .int .i64 0, .int .i64 0, .int .i64 0, .int .i64 0, .int .i64 0, .int .i64 0, .int .i64 0, .int .i64 0, .int .i64 0, .int .i64 0, .int .i64 0, .int .i64 0, .int .i64 0], .agg #[.int .i64 0, .slice none 0 0, .slice none 0 0, .int .i64 0, .slice none 0 0, .slice none 0 0, .int .i64 0, .int .i64 0, .int .i64 0, .int .i64 0, .int .i64 0, .int .i64 0, .slice none 0 0, .slice none 0 0, .int .i64 0, .int .i64 0, .int .i64 0], .agg #[.int .i64 0, .int .i64 0, .int .i64 0, .int .i64 0, .int .i64 0], .agg #[.int .i64 0, .int .i64 0], .agg #[.int .i64 0, .int .i64 0, .int .i64 0, .int .i64 0]], []⟩ 8 (by kernel_rfl) (by kernel_rfl) (by kernel_rfl) (by kernel_rfl)) ?_
  intro W base args ds gs before hval0 hW hcnd _
  have hW0 := hW
  obtain ⟨p, q, hA, hV, rfl, hfz, hnd⟩ := hW0
  refine (Abs.law_calls (enc' := enc) Abs.estimateSenses_law (fn := Try.f3) (d := 5) (by kernel_rfl) hA hval0).mono fun e W' hh => ?_
  obtain ⟨he, hb⟩ := hh
  subst he
  exact ⟨_, rfl, Abs.law_post (s := Rows.estimateSensesSpec) (f := Try.f3) (by kernel_rfl) rfl (by kernel_rfl) (by kernel_rfl) rfl 5 (by kernel_rfl) (fun ds hl => by
    rcases ds with _ | ⟨d0, _ | ⟨d1, _ | ⟨d2, _ | ⟨d3, _ | ⟨d4, _ | ⟨d5, _⟩⟩⟩⟩⟩⟩
    all_goals first | exact ⟨rfl, rfl, rfl⟩ | (exfalso; simp only [List.length_cons, List.length_nil] at hl; omega)) hW hb⟩
theorem estimateSenses_holds : Rows.EstimateSensesSaid :=
  OpenClaim.holds_of_wide 3 Try.f3 rfl rfl rfl rfl rfl rfl rfl ⟨rfl, rfl, rfl, rfl, rfl⟩ rfl rfl rfl rfl rfl (by kernel_rfl) Try.func3 (by kernel_rfl)
    (of_decide_eq_true (by kernel_rfl)) (by unfold Func.isWrapper; first | (rw [if_pos (by decide +kernel)]; kernel_rfl) | (rw [if_neg (by decide +kernel)]; exact ⟨rfl, rfl⟩))
    (fun os started H enc _ => estimateSenses_lifted os started H enc)
end Go.Proofs.Yteoaeodalknkiaa

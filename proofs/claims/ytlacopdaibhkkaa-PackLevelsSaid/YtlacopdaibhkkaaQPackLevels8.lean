/- The usable charge, the weakest group, and the levels are those of the definitions, or refused; for all packs, states and units; no condition. -/
import Derived.Test.YtlacopdaibhkkaaQG90fa952b
import Derived.Test.YtlacopdaibhkkaaRows
set_option linter.unusedSimpArgs false
set_option linter.unusedVariables false
namespace Go.Proofs.Ytlacopdaibhkkaa
namespace Abs
open Go Go.RowKit
attribute [local irreducible] FnSat
set_option maxRecDepth 100000 in
theorem packLevels_law : LawFn Try.prog 3 [pkSh, sxSh, .int .i64] := by
 refine FnSpec.of SL8_ok mixed (U := 0) (I := fun _ => []) Try.func3 rfl (by kernel_rfl) rfl rfl (by decide +kernel) ?_
 rintro ⟨p, s, (u : Int), ⟨⟩⟩ hv
 obtain ⟨p, rfl⟩ := pk_ex p
 obtain ⟨s, rfl⟩ := sx_ex s
 unfold FnSat
 conv => arg 2; reduce
 simp [truS, grS, uaS, lvsS, smS, ElEq, getB, goneB, aliveB, and_assoc]
 intro hg
 obtain ⟨g1, g2, g3, _⟩ := grB_f hg
 have eV : (fun k => lvlV s u k) = lvlV s u := rfl
 rw [eV]
 refine ⟨g3, ?_, smB_self _ _⟩
 have : okN (lvlE (ssE p s) u) s.len <= s.len := by unfold okN; split <;> omega
 unfold maxLen; omega
end Abs
open Go.ChangeShapes Go.WideShapes Go.ChangeAt Go.RowKit
set_option maxRecDepth 100000 in
theorem packLevels_lifted (os : Os) (started : os.Started) (H : Type) (enc : TypeId × Value -> H) :
  ReturnsInHanded {} Try.checked os 3 .any (Rows.packLevelsSpec.pre6 enc Try.prog Try.f3 Rows.packLevelsRow.domain false) (Rows.packLevelsSpec.post enc Try.prog Try.f3 false true false false) := by
 refine returnsInHanded_of_change (C := Try.checked) (show ownKnob Try.prog.godebug = none by kernel_rfl) started (by kernel_rfl) Try.func3
  (ChangeSpec.witness6 (enc := enc) (C := Try.checked) false ⟨#[], #[.agg #[.slice none 0 0], .slice none 0 0, .int .i64 0], []⟩ 8 (by kernel_rfl) (by kernel_rfl) (by kernel_rfl) (by kernel_rfl)) ?_
 intro W base args ds gs before hval0 hW hcnd _
 have hW0 := hW
 obtain ⟨p, q, hA, hV, rfl, hfz, hnd⟩ := hW0
 refine (Abs.law_calls (enc' := enc) Abs.packLevels_law (fn := Try.f3) (d := 8) (by kernel_rfl) hA hval0).mono fun e W' hh => ?_
 obtain ⟨he, hb⟩ := hh
 subst he
 exact ⟨_, rfl, Abs.law_post (s := Rows.packLevelsSpec) (f := Try.f3) (by kernel_rfl) rfl (by kernel_rfl) (by kernel_rfl) rfl 3 (by kernel_rfl) (fun ds hl => by
  rcases ds with _ | ⟨d0, _ | ⟨d1, _ | ⟨d2, _ | ⟨d3, _⟩⟩⟩⟩
  all_goals first | exact ⟨rfl, rfl, rfl⟩ | (exfalso; simp only [List.length_cons, List.length_nil] at hl; omega)) hW hb⟩
theorem packLevels_holds : Rows.PackLevelsSaid :=
 OpenClaim.holds_of_wide 3 Try.f3 rfl rfl rfl rfl rfl rfl rfl ⟨rfl, rfl, rfl, rfl, rfl⟩ rfl rfl rfl rfl rfl (by kernel_rfl) Try.func3 (by kernel_rfl)
  (of_decide_eq_true (by kernel_rfl)) (by unfold Func.isWrapper; first | (rw [if_pos (by decide +kernel)]; kernel_rfl) | (rw [if_neg (by decide +kernel)]; exact ⟨rfl, rfl⟩))
  (fun os started H enc _ => packLevels_lifted os started H enc)
end Go.Proofs.Ytlacopdaibhkkaa

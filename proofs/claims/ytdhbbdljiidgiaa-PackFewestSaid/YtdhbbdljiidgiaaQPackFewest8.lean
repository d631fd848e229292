/- A plan with the fewest moves is the one of the definition, or refused, and its prices prove it; for all levels and bands; no condition. -/
import Derived.Test.YtdhbbdljiidgiaaQGcf582472
import Derived.Test.YtdhbbdljiidgiaaRows
set_option linter.unusedSimpArgs false
set_option linter.unusedVariables false
namespace Go.Proofs.Ytdhbbdljiidgiaa
namespace Abs
open Go Go.RowKit
attribute [local irreducible] FnSat
set_option maxRecDepth 100000 in
theorem packFewest_law : LawFn Try.prog 9 [.slice 1 [.int .i64], .int .i64, .int .i64] := by
 refine FnSpec.of SQ2_ok mixed (U := 0) (I := fun _ => []) Try.func9 rfl (by kernel_rfl) rfl rfl (by decide +kernel) ?_
 rintro ⟨⟨n, c'⟩, (lo : Int), (hi : Int), ⟨⟩⟩ hv
 obtain ⟨c, rfl⟩ : ∃ c : Nat -> Int, c' = fun k => (c k, ()) := ⟨fun k => (c' k).1, rfl⟩
 unfold FnSat
 conv => arg 2; reduce
 simp [truS, lgS, fewS, rfwS, smS, cfS, ElEq, getB, goneB, aliveB, and_assoc]
 have e1 : (fun k => c k) = c := rfl
 simp only [e1]
 have eF : (fun k => fwF n c lo hi k) = fwF n c lo hi := rfl
 have eP : (fun k => fewP n c lo hi k) = fewP n c lo hi := rfl
 rw [eF, eP, smB_self]
 refine ⟨fun h => by omega, fun h _ => ⟨?_, rfl, fun _ => ⟨fun he => okN_e he, fun he => ?_⟩⟩⟩
 ·have : okN (fewE n c lo hi) (n - 1) <= n - 1 := by unfold okN; split <;> omega
  unfold maxLen; omega
 ·have K := fewK he
  have hb : ∀ k, k < n -> -1000 <= fewP n c lo hi k /\ fewP n c lo hi k <= 1000 := fun k hk => by have := K.b k hk; omega
  rw [he, okN_0 rfl, okN_0 rfl, okI_0 rfl, few_checks he]
  exact ⟨by omega, hb, fun _ => ⟨by omega, hb⟩, rfl⟩
end Abs
open Go.ChangeShapes Go.WideShapes Go.ChangeAt Go.RowKit
set_option maxRecDepth 100000 in
theorem packFewest_lifted (os : Os) (started : os.Started) (H : Type) (enc : TypeId × Value -> H) :
  ReturnsInHanded {} Try.checked os 9 .any (Rows.packFewestSpec.pre6 enc Try.prog Try.f9 Rows.packFewestRow.domain false) (Rows.packFewestSpec.post enc Try.prog Try.f9 false true false false) := by
 refine returnsInHanded_of_change (C := Try.checked) (show ownKnob Try.prog.godebug = none by kernel_rfl) started (by kernel_rfl) Try.func9
  (ChangeSpec.witness6 (enc := enc) (C := Try.checked) false ⟨#[], #[.slice none 0 0, .int .i64 0, .int .i64 0], []⟩ 8 (by kernel_rfl) (by kernel_rfl) (by kernel_rfl) (by kernel_rfl)) ?_
 intro W base args ds gs before hval0 hW hcnd _
 have hW0 := hW
 obtain ⟨p, q, hA, hV, rfl, hfz, hnd⟩ := hW0
 refine (Abs.law_calls (enc' := enc) Abs.packFewest_law (fn := Try.f9) (d := 2) (by kernel_rfl) hA hval0).mono fun e W' hh => ?_
 obtain ⟨he, hb⟩ := hh
 subst he
 exact ⟨_, rfl, Abs.law_post (s := Rows.packFewestSpec) (f := Try.f9) (by kernel_rfl) rfl (by kernel_rfl) (by kernel_rfl) rfl 3 (by kernel_rfl) (fun ds hl => by
  rcases ds with _ | ⟨d0, _ | ⟨d1, _ | ⟨d2, _ | ⟨d3, _⟩⟩⟩⟩
  all_goals first | exact ⟨rfl, rfl, rfl⟩ | (exfalso; simp only [List.length_cons, List.length_nil] at hl; omega)) hW hb⟩
theorem packFewest_holds : Rows.PackFewestSaid :=
 OpenClaim.holds_of_wide 9 Try.f9 rfl rfl rfl rfl rfl rfl rfl ⟨rfl, rfl, rfl, rfl, rfl⟩ rfl rfl rfl rfl rfl (by kernel_rfl) Try.func9 (by kernel_rfl)
  (of_decide_eq_true (by kernel_rfl)) (by unfold Func.isWrapper; first | (rw [if_pos (by decide +kernel)]; kernel_rfl) | (rw [if_neg (by decide +kernel)]; exact ⟨rfl, rfl⟩))
  (fun os started H enc _ => packFewest_lifted os started H enc)
end Go.Proofs.Ytdhbbdljiidgiaa

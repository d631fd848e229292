/- For all levels (at most 20), bands, plans (at most 30 flows) and ticks a plan with the fewest ticks is the one of the definition, or refused, and its interval proves it; so is what is said of any interval and plan, and the narrowest band; no condition. -/
import Derived.Test.YtdhbbdljiidgiaaQG09ac9bdc
import Derived.Test.YtdhbbdljiidgiaaRows
set_option linter.unusedSimpArgs false
set_option linter.unusedVariables false
namespace Go.Proofs.Ytdhbbdljiidgiaa
namespace Abs
open Go Go.RowKit
attribute [local irreducible] FnSat
set_option maxRecDepth 100000 in
theorem packQuickest_law : LawFn Try.prog 10 [inSh, .int .i64, .int .i64, .agg [inSh, .int .i64, .int .i64, .int .i64], .int .i64] := by
 refine FnSpec.of SI5_ok mixed (U := 0) (I := fun _ => []) Try.func10 rfl (by kernel_rfl) rfl rfl (by decide +kernel) ?_
 rintro ⟨⟨n, c'⟩, (lo : Int), (hi : Int), ⟨⟨m, f'⟩, (qt : Int), (qa : Int), (qb : Int), ⟨⟩⟩, (t : Int), ⟨⟩⟩ hv
 obtain ⟨c, rfl⟩ : ∃ c : Nat -> Int, c' = fun k => (c k, ()) := ⟨fun k => (c' k).1, rfl⟩
 obtain ⟨f, rfl⟩ : ∃ f : Nat -> Int, f' = fun k => (f k, ()) := ⟨fun k => (f' k).1, rfl⟩
 unfold FnSat
 conv => arg 2; reduce
 simp [truS, qckS, cqS, neS, nwS, smS, ElEq, getB, goneB, aliveB, and_assoc]
 have e1 : (fun k => c k) = c := rfl
 have e2 : (fun k => f k) = f := rfl
 simp only [e1, e2]
 intro hn hm
 have hL : qckL n c lo hi <= 20 := by
  by_cases h : fewE n c lo hi = 0
  ·rw [(qPlan h).L]; omega
  ·unfold qckL; rw [okN_e h]; omega
 refine ⟨by unfold maxLen; omega, smB_self _ _, fun _ h => ?_⟩
 rw [okI_0 h, okI_0 h, okI_0 h, (qPlan h).L]
 exact qck_checks h
end Abs
open Go.ChangeShapes Go.WideShapes Go.ChangeAt Go.RowKit
set_option maxRecDepth 100000 in
theorem packQuickest_lifted (os : Os) (started : os.Started) (H : Type) (enc : TypeId × Value -> H) :
  ReturnsInHanded {} Try.checked os 10 .any (Rows.packQuickestSpec.pre6 enc Try.prog Try.f10 Rows.packQuickestRow.domain false) (Rows.packQuickestSpec.post enc Try.prog Try.f10 false true false false) := by
 refine returnsInHanded_of_change (C := Try.checked) (show ownKnob Try.prog.godebug = none by kernel_rfl) started (by kernel_rfl) Try.func10
  (ChangeSpec.witness6 (enc := enc) (C := Try.checked) false ⟨#[], #[.slice none 0 0, .int .i64 0, .int .i64 0, .agg #[.slice none 0 0, .int .i64 0, .int .i64 0, .int .i64 0], .int .i64 0], []⟩ 8 (by kernel_rfl) (by kernel_rfl) (by kernel_rfl) (by kernel_rfl)) ?_
 intro W base args ds gs before hval0 hW hcnd _
 have hW0 := hW
 obtain ⟨p, q, hA, hV, rfl, hfz, hnd⟩ := hW0
 refine (Abs.law_calls (enc' := enc) Abs.packQuickest_law (fn := Try.f10) (d := 3) (by kernel_rfl) hA hval0).mono fun e W' hh => ?_
 obtain ⟨he, hb⟩ := hh
 subst he
 exact ⟨_, rfl, Abs.law_post (s := Rows.packQuickestSpec) (f := Try.f10) (by kernel_rfl) rfl (by kernel_rfl) (by kernel_rfl) rfl 5 (by kernel_rfl) (fun ds hl => by
  rcases ds with _ | ⟨d0, _ | ⟨d1, _ | ⟨d2, _ | ⟨d3, _ | ⟨d4, _ | ⟨d5, _⟩⟩⟩⟩⟩⟩
  all_goals first | exact ⟨rfl, rfl, rfl⟩ | (exfalso; simp only [List.length_cons, List.length_nil] at hl; omega)) hW hb⟩
theorem packQuickest_holds : Rows.PackQuickestSaid :=
 OpenClaim.holds_of_wide 10 Try.f10 rfl rfl rfl rfl rfl rfl rfl ⟨rfl, rfl, rfl, rfl, rfl⟩ rfl rfl rfl rfl rfl (by kernel_rfl) Try.func10 (by kernel_rfl)
  (of_decide_eq_true (by kernel_rfl)) (by unfold Func.isWrapper; first | (rw [if_pos (by decide +kernel)]; kernel_rfl) | (rw [if_neg (by decide +kernel)]; exact ⟨rfl, rfl⟩))
  (fun os started H enc _ => packQuickest_lifted os started H enc)
end Go.Proofs.Ytdhbbdljiidgiaa

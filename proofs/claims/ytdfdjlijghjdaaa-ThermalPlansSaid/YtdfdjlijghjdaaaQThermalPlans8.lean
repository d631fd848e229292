/- Law: for all systems, Plan, Greedy and Nodes return what the document says. -/
import Derived.Test.YtdfdjlijghjdaaaQGa83e5284
import Derived.Test.YtdfdjlijghjdaaaRows
set_option linter.unusedSimpArgs false
set_option linter.unusedVariables false
namespace Go.Proofs.Ytdfdjlijghjdaaa
namespace Abs
open Go Go.RowKit
set_option maxRecDepth 100000 in
set_option maxHeartbeats 4000000 in
theorem thermalPlans_law : LawFn Try.prog 5 [sysSh] := by
 refine FnSpec.of SYs0_ok mixed (U := 0) (I := fun _ => []) Try.func5 rfl (by kernel_rfl) rfl rfl (by decide +kernel) ?_
 rintro ⟨s, ⟨⟩⟩ hv
 obtain ⟨s, rfl⟩ := sys_ex s
 clear hv
 unfold FnSat
 conv => arg 2; reduce
 simp [worksS, fewS11, pplS, grdS, nodesS, smnS, eqlS, ElEq, and_assoc]
 intro hf
 have hs := (fewB_iff.1 hf).1
 have hl := (shortB_iff.1 hs).2.2.2.1
 have h1 : plnN s <= maxLen := by
  unfold plnN maxLen
  split <;> omega
 have h2 : gdN s <= maxLen := by
  unfold gdN maxLen
  split <;> omega
 refine ⟨short_max hs, h1, eqlB_self _ _, fun _ => ⟨short_max hs, h2, eqlB_self _ _, fun _ => ⟨short_max hs, ?_, fun k hk => ?_, smnB_self _ _⟩⟩⟩
 ·by_cases he : exE s = 0
  ·rw [nodN_ok he]; have := (grV_ok he).n5; unfold maxLen; omega
  ·rw [nodN_bad he]; exact Nat.zero_le _
 ·by_cases he : exE s = 0
  ·rw [nodN_ok he] at hk
   have gr := grV_ok he
   rw [gr.ln k hk]
   exact (short_max hs).1
  ·rw [nodN_bad he] at hk; omega
end Abs
open Go.ChangeShapes Go.WideShapes Go.ChangeAt Go.RowKit
set_option maxRecDepth 100000 in
theorem thermalPlans_lifted (os : Os) (started : os.Started) (H : Type) (enc : TypeId × Value -> H) :
  ReturnsInHanded {} Try.checked os 5 .any (Rows.thermalPlansSpec.pre6 enc Try.prog Try.f5 Rows.thermalPlansRow.domain false) (Rows.thermalPlansSpec.post enc Try.prog Try.f5 false true false false) := by
 refine returnsInHanded_of_change (C := Try.checked) (show ownKnob Try.prog.godebug = none by kernel_rfl) started (by kernel_rfl) Try.func5
  (ChangeSpec.witness6 (enc := enc) (C := Try.checked) false ⟨#[], #[.agg #[.slice none 0 0, .slice none 0 0, .slice none 0 0, .slice none 0 0]], []⟩ 8 (by kernel_rfl) (by kernel_rfl) (by kernel_rfl) (by kernel_rfl)) ?_
 intro W base args ds gs before hval0 hW hcnd _
 have hW0 := hW
 obtain ⟨p, q, hA, hV, rfl, hfz, hnd⟩ := hW0
 refine (Abs.law_calls (enc' := enc) Abs.thermalPlans_law (fn := Try.f5) (d := 6) (by kernel_rfl) hA hval0).mono fun e W' hh => ?_
 obtain ⟨he, hb⟩ := hh
 subst he
 exact ⟨_, rfl, Abs.law_post (s := Rows.thermalPlansSpec) (f := Try.f5) (by kernel_rfl) rfl (by kernel_rfl) (by kernel_rfl) rfl 1 (by kernel_rfl) (fun ds hl => by
  rcases ds with _ | ⟨d0, _ | ⟨d1, _⟩⟩
  all_goals first | exact ⟨rfl, rfl, rfl⟩ | (exfalso; simp only [List.length_cons, List.length_nil] at hl; omega)) hW hb⟩
theorem thermalPlans_holds : Rows.ThermalPlansSaid :=
 OpenClaim.holds_of_wide 5 Try.f5 rfl rfl rfl rfl rfl rfl rfl ⟨rfl, rfl, rfl, rfl, rfl⟩ rfl rfl rfl rfl rfl (by kernel_rfl) Try.func5 (by kernel_rfl)
  (of_decide_eq_true (by kernel_rfl)) (by unfold Func.isWrapper; first | (rw [if_pos (by decide +kernel)]; kernel_rfl) | (rw [if_neg (by decide +kernel)]; exact ⟨rfl, rfl⟩))
  (fun os started H enc _ => thermalPlans_lifted os started H enc)
end Go.Proofs.Ytdfdjlijghjdaaa

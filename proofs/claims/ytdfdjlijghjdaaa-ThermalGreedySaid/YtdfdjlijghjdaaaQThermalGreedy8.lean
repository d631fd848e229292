/- Law: what Greedy returns is safe, and costs at least as much as the plan. -/
import Derived.Test.YtdfdjlijghjdaaaQG6ae8e1c5
import Derived.Test.YtdfdjlijghjdaaaRows
set_option linter.unusedSimpArgs false
set_option linter.unusedVariables false
namespace Go.Proofs.Ytdfdjlijghjdaaa
namespace Abs
open Go Go.RowKit
theorem vx_gd (s : Sys) : vxOf (gdN s, fun k => (gdK s k, ())) = gdW s := by unfold vxOf gdW; rfl
set_option maxRecDepth 100000 in
set_option maxHeartbeats 4000000 in
theorem thermalGreedy_law : LawFn Try.prog 8 [sysSh] := by
 refine FnSpec.of SYs0_ok mixed (U := 0) (I := fun _ => []) Try.func8 rfl (by kernel_rfl) rfl rfl (by decide +kernel) ?_
 rintro ⟨s, ⟨⟩⟩ hv
 obtain ⟨s, rfl⟩ := sys_ex s
 clear hv
 unfold FnSat
 conv => arg 2; reduce
 simp [worksS, fewS11, checkS, pplS, grdS, safeS, costS, ElEq, and_assoc]
 simp only [vx_gd]
 refine ⟨fun hf => short_max (fewB_iff.1 hf).1, fun hf hc => ?_⟩
 obtain ⟨hm, he, -⟩ := few_ex hf hc
 refine ⟨hm, fun h18 => ?_⟩
 have hg : gdE s = 0 := by
  unfold gdE at h18 ⊢
  rw [if_pos hc] at h18 ⊢
  split at h18
  ·exact absurd rfl h18
  ·rename_i h; rw [if_neg h]
 obtain ⟨h1, h2, h3⟩ := gdW_safe hg
 obtain ⟨h4, h5⟩ := sf_least he h2
 have hn : gdN s <= maxLen := by rw [gdN_ok hg]; exact hm.2.2.2.1
 have hp := plnE_ok he (by omega)
 have hcs : csV s (gdW s) = costN s (gdW s) s.nld := by unfold csV; rw [if_pos h1, (sf_at h2).2.1]
 exact ⟨hm, hn, hm, hn, hg, hp, h1, h2, h3, by rw [plnC_ok hp, <- h3, hcs]; exact h4⟩
end Abs
open Go.ChangeShapes Go.WideShapes Go.ChangeAt Go.RowKit
set_option maxRecDepth 100000 in
theorem thermalGreedy_lifted (os : Os) (started : os.Started) (H : Type) (enc : TypeId × Value -> H) :
  ReturnsInHanded {} Try.checked os 8 .any (Rows.thermalGreedySpec.pre6 enc Try.prog Try.f8 Rows.thermalGreedyRow.domain false) (Rows.thermalGreedySpec.post enc Try.prog Try.f8 false true false false) := by
 refine returnsInHanded_of_change (C := Try.checked) (show ownKnob Try.prog.godebug = none by kernel_rfl) started (by kernel_rfl) Try.func8
  (ChangeSpec.witness6 (enc := enc) (C := Try.checked) false ⟨#[], #[.agg #[.slice none 0 0, .slice none 0 0, .slice none 0 0, .slice none 0 0]], []⟩ 8 (by kernel_rfl) (by kernel_rfl) (by kernel_rfl) (by kernel_rfl)) ?_
 intro W base args ds gs before hval0 hW hcnd _
 have hW0 := hW
 obtain ⟨p, q, hA, hV, rfl, hfz, hnd⟩ := hW0
 refine (Abs.law_calls (enc' := enc) Abs.thermalGreedy_law (fn := Try.f8) (d := 6) (by kernel_rfl) hA hval0).mono fun e W' hh => ?_
 obtain ⟨he, hb⟩ := hh
 subst he
 exact ⟨_, rfl, Abs.law_post (s := Rows.thermalGreedySpec) (f := Try.f8) (by kernel_rfl) rfl (by kernel_rfl) (by kernel_rfl) rfl 1 (by kernel_rfl) (fun ds hl => by
  rcases ds with _ | ⟨d0, _ | ⟨d1, _⟩⟩
  all_goals first | exact ⟨rfl, rfl, rfl⟩ | (exfalso; simp only [List.length_cons, List.length_nil] at hl; omega)) hW hb⟩
theorem thermalGreedy_holds : Rows.ThermalGreedySaid :=
 OpenClaim.holds_of_wide 8 Try.f8 rfl rfl rfl rfl rfl rfl rfl ⟨rfl, rfl, rfl, rfl, rfl⟩ rfl rfl rfl rfl rfl (by kernel_rfl) Try.func8 (by kernel_rfl)
  (of_decide_eq_true (by kernel_rfl)) (by unfold Func.isWrapper; first | (rw [if_pos (by decide +kernel)]; kernel_rfl) | (rw [if_neg (by decide +kernel)]; exact ⟨rfl, rfl⟩))
  (fun os started H enc _ => thermalGreedy_lifted os started H enc)
end Go.Proofs.Ytdfdjlijghjdaaa

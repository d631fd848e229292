/- Law: for all systems, modes, temperatures, loads and boxes, Check, Next, NextBox and Keep return what the document says. -/
import Derived.Test.YtjblicdceafcpaaQThermalSteps1
import Derived.Test.YtjblicdceafcpaaRows
namespace Go.Proofs.Ytjblicdceafcpaa
namespace Abs
open Go Go.RowKit
set_option maxRecDepth 100000 in
set_option maxHeartbeats 4000000 in
theorem thermalSteps_law : LawFn Try.prog 5 [sysSh, .int .i64, .int .i64, intsSh, intsSh, spansSh] := by
  refine FnSpec.of SK3_ok mixed (U := 0) (I := fun _ => []) Try.func5 rfl (by kernel_rfl) rfl rfl (by decide +kernel) ?_
  rintro ⟨s, (sl : Int), (mo : Int), t, w, b, ⟨⟩⟩ hv
  obtain ⟨s, rfl⟩ := sys_ex s
  obtain ⟨t, rfl⟩ := vx_ex t
  obtain ⟨w, rfl⟩ := vx_ex w
  obtain ⟨b, rfl⟩ := bx_ex b
  clear hv
  unfold FnSat
  conv => arg 2; reduce
  simp [worksS, shortS, nxtS, nbS, keepS, checkS, sameS, sameBS, and_assoc]
  intro h0 h1 h2 h3
  have hm := short_max h0
  have hm' := hm
  unfold SysMax at hm'
  have l1 : t.len ≤ maxLen := by unfold maxLen; omega
  have l2 : w.len ≤ maxLen := by unfold maxLen; omega
  have l3 : b.len ≤ maxLen := by unfold maxLen; omega
  have l4 : nxN s mo t w ≤ maxLen := by unfold nxN; split; exact l1; exact Nat.zero_le _
  have l5 : nbN s sl mo b ≤ maxLen := by unfold nbN; split; exact l3; exact Nat.zero_le _
  obtain ⟨q1, q2, q3, q4, q5, q6⟩ := hm'
  repeat' first | assumption | refine And.intro ?_ ?_
end Abs
open Go.ChangeShapes Go.WideShapes Go.ChangeAt Go.RowKit
set_option maxRecDepth 100000 in
theorem thermalSteps_lifted (os : Os) (started : os.Started) (H : Type) (enc : TypeId × Value → H) :
    ReturnsInHanded {} Try.checked os 5 .any (Rows.thermalStepsSpec.pre6 enc Try.prog Try.f5 Rows.thermalStepsRow.domain false) (Rows.thermalStepsSpec.post enc Try.prog Try.f5 false true false false) := by
  refine returnsInHanded_of_change (C := Try.checked) (show ownKnob Try.prog.godebug = none by kernel_rfl) started (by kernel_rfl) Try.func5
    (ChangeSpec.witness6 (enc := enc) (C := Try.checked) false ⟨#[], #[.agg #[.slice none 0 0, .slice none 0 0, .slice none 0 0, .slice none 0 0], .int .i64 0, .int .i64 0, .slice none 0 0, .slice none 0 0, .slice none 0 0], []⟩ 8 (by kernel_rfl) (by kernel_rfl) (by kernel_rfl) (by kernel_rfl)) ?_
  intro W base args ds gs before hval0 hW hcnd _
  have hW0 := hW
  obtain ⟨p, q, hA, hV, rfl, hfz, hnd⟩ := hW0
  refine (Abs.law_calls (enc' := enc) Abs.thermalSteps_law (fn := Try.f5) (d := 6) (by kernel_rfl) hA hval0).mono fun e W' hh => ?_
  obtain ⟨he, hb⟩ := hh
  subst he
  exact ⟨_, rfl, Abs.law_post (s := Rows.thermalStepsSpec) (f := Try.f5) (by kernel_rfl) rfl (by kernel_rfl) (by kernel_rfl) rfl 6 (by kernel_rfl) (fun ds hl => by
    rcases ds with _ | ⟨d0, _ | ⟨d1, _ | ⟨d2, _ | ⟨d3, _ | ⟨d4, _ | ⟨d5, _ | ⟨d6, _⟩⟩⟩⟩⟩⟩⟩
    all_goals first | exact ⟨rfl, rfl, rfl⟩ | (exfalso; simp only [List.length_cons, List.length_nil] at hl; omega)) hW hb⟩
theorem thermalSteps_holds : Rows.ThermalStepsSaid :=
  OpenClaim.holds_of_wide 5 Try.f5 rfl rfl rfl rfl rfl rfl rfl ⟨rfl, rfl, rfl, rfl, rfl⟩ rfl rfl rfl rfl rfl (by kernel_rfl) Try.func5 (by kernel_rfl)
    (of_decide_eq_true (by kernel_rfl)) (by unfold Func.isWrapper; first | (rw [if_pos (by decide +kernel)]; kernel_rfl) | (rw [if_neg (by decide +kernel)]; exact ⟨rfl, rfl⟩))
    (fun os started H enc _ => thermalSteps_lifted os started H enc)
end Go.Proofs.Ytjblicdceafcpaa

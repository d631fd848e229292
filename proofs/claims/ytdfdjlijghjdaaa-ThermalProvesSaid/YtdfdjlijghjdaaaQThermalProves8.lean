/- Law: for all systems, costs and nodes, Prove returns what the document says. -/
import Derived.Test.YtdfdjlijghjdaaaQG3705dfca
import Derived.Test.YtdfdjlijghjdaaaRows
set_option linter.unusedSimpArgs false
set_option linter.unusedVariables false
namespace Go.Proofs.Ytdfdjlijghjdaaa
namespace Abs
open Go Go.RowKit
noncomputable def SYg0 : Sums := ⟨(13, mkSum _ proveS) :: SYf0.one, SYf0.two, SYf0.lo, SYf0.eqs, SYf0.its, SYf0.imm⟩
theorem SYg0_ok : SumsOK Try.prog SYg0 := (SYf0_ok.cons Try.func13 (by kernel_rfl) (by kernel_rfl) rprove_ok)
noncomputable def provesI : DatL [sysSh, .int .i64, nodesSh] -> Anns := fun (_, (_ : Int), (n, el), _) => [
 (4, [], fun fr hp => ⟨Nat, fun g => ⟨frI [.k 7, .s (.si .i64 (icast g)), .t 35] fr, hp⟩, Nat × Nat × (Nat -> Nd), fun g => (g, n, fun k => ndOf (el k)), fun (g, n, nd) => g <= n /\ ∀ k, k < g -> (nd k).box.len <= 20, fun g => nsub n g⟩)]
set_option maxRecDepth 100000 in
set_option maxHeartbeats 4000000 in
theorem thermalProves_law : LawFn Try.prog 3 [sysSh, .int .i64, nodesSh] := by
 refine FnSpec.of SYg0_ok mixed (U := 0) (I := provesI) Try.func3 rfl (by kernel_rfl) rfl rfl (by decide +kernel) ?_
 rintro ⟨s, (c : Int), ⟨n, el⟩, ⟨⟩⟩ hv
 obtain ⟨s, rfl⟩ := sys_ex s
 obtain ⟨nd, rfl⟩ := nds_ex el
 clear hv
 unfold FnSat
 conv => arg 2; reduce
 simp [worksS, shortS, proveS, and_assoc]
 intro h0 h1
 have hm := short_max h0
 refine ⟨⟨0, rfl, by omega, fun k hk => by omega⟩, fun g hg hf => ⟨fun hlt => ⟨hlt, fun hb => ⟨by omega, by omega, g + 1, by omega, by omega, fun k hk => ?_, by omega⟩⟩, fun hge => ⟨hm, by unfold maxLen; omega, fun k hk => ?_⟩⟩⟩
 ·by_cases e : k = g
  ·subst e; omega
  ·exact hf k (by omega)
 ·have := hf k (by omega)
  unfold maxLen; omega
end Abs
open Go.ChangeShapes Go.WideShapes Go.ChangeAt Go.RowKit
set_option maxRecDepth 100000 in
theorem thermalProves_lifted (os : Os) (started : os.Started) (H : Type) (enc : TypeId × Value -> H) :
  ReturnsInHanded {} Try.checked os 3 .any (Rows.thermalProvesSpec.pre6 enc Try.prog Try.f3 Rows.thermalProvesRow.domain false) (Rows.thermalProvesSpec.post enc Try.prog Try.f3 false true false false) := by
 refine returnsInHanded_of_change (C := Try.checked) (show ownKnob Try.prog.godebug = none by kernel_rfl) started (by kernel_rfl) Try.func3
  (ChangeSpec.witness6 (enc := enc) (C := Try.checked) false ⟨#[], #[.agg #[.slice none 0 0, .slice none 0 0, .slice none 0 0, .slice none 0 0], .int .i64 0, .slice none 0 0], []⟩ 8 (by kernel_rfl) (by kernel_rfl) (by kernel_rfl) (by kernel_rfl)) ?_
 intro W base args ds gs before hval0 hW hcnd _
 have hW0 := hW
 obtain ⟨p, q, hA, hV, rfl, hfz, hnd⟩ := hW0
 refine (Abs.law_calls (enc' := enc) Abs.thermalProves_law (fn := Try.f3) (d := 6) (by kernel_rfl) hA hval0).mono fun e W' hh => ?_
 obtain ⟨he, hb⟩ := hh
 subst he
 exact ⟨_, rfl, Abs.law_post (s := Rows.thermalProvesSpec) (f := Try.f3) (by kernel_rfl) rfl (by kernel_rfl) (by kernel_rfl) rfl 3 (by kernel_rfl) (fun ds hl => by
  rcases ds with _ | ⟨d0, _ | ⟨d1, _ | ⟨d2, _ | ⟨d3, _⟩⟩⟩⟩
  all_goals first | exact ⟨rfl, rfl, rfl⟩ | (exfalso; simp only [List.length_cons, List.length_nil] at hl; omega)) hW hb⟩
theorem thermalProves_holds : Rows.ThermalProvesSaid :=
 OpenClaim.holds_of_wide 3 Try.f3 rfl rfl rfl rfl rfl rfl rfl ⟨rfl, rfl, rfl, rfl, rfl⟩ rfl rfl rfl rfl rfl (by kernel_rfl) Try.func3 (by kernel_rfl)
  (of_decide_eq_true (by kernel_rfl)) (by unfold Func.isWrapper; first | (rw [if_pos (by decide +kernel)]; kernel_rfl) | (rw [if_neg (by decide +kernel)]; exact ⟨rfl, rfl⟩))
  (fun os started H enc _ => thermalProves_lifted os started H enc)
end Go.Proofs.Ytdfdjlijghjdaaa

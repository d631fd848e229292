/- Fused spans, and who lies, are what the document says, or refused alike; no condition. -/
import Derived.Test.YteoaeodalknkiaaQG368c4798
import Derived.Test.YteoaeodalknkiaaRows
set_option linter.unusedSimpArgs false
set_option linter.unusedVariables false
namespace Go.Proofs.Yteoaeodalknkiaa
namespace Abs
open Go Go.RowKit
noncomputable section
attribute [local irreducible] FnSat
def intsS : Spec [intsSh, intsSh] := ⟨fun (x, y, _) => x.1 ≤ maxLen, fun ((n, f), (m, g), _) => .sb (sameV n m (fun k => (f k).1) (fun k => (g k).1))⟩
def intsI : DatL [intsSh, intsSh] → Anns := fun ((n, f), (m, g), _) =>
  [(4, [], fun fr hp => ⟨Nat, fun k => ⟨frI [.k 5, .s (.si .i64 (icast k)), .k 5, .t 15] fr, hp⟩, Nat, fun k => k, fun k => k ≤ n ∧ ∀ j, j < k → (f j).1 = (g j).1, fun k => nsub n k⟩)]
set_option maxRecDepth 100000 in
theorem ints_ok : FnSpec Try.prog 22 _ intsS := by
  refine FnSpec.of SFv2_ok mixed (U := 0) (I := intsI) Try.func22 rfl (by kernel_rfl) rfl rfl (by decide +kernel) ?_
  rintro ⟨⟨n, f⟩, ⟨m, g⟩, ⟨⟩⟩ (hn : n ≤ maxLen)
  obtain ⟨v, rfl⟩ : ∃ v : Nat → Int, f = fun k => (v k, ()) := ⟨fun k => (f k).1, rfl⟩
  obtain ⟨u, rfl⟩ : ∃ u : Nat → Int, g = fun k => (u k, ()) := ⟨fun k => (g k).1, rfl⟩
  unfold FnSat
  conv => arg 2; reduce
  unfold maxLen at hn
  simp [intsS, and_assoc]
  refine ⟨fun h => ?_, fun h => ⟨⟨0, rfl, by omega, fun j hj => by omega⟩, fun k hk hall => ⟨fun h1 => ⟨h1, by omega, fun h2 => ?_, fun h2 => ⟨by omega, by omega, k + 1, by omega, by omega, fun j hj => ?_, by omega⟩⟩, fun h1 => ?_⟩⟩⟩
  · cases hs : sameV n m v u with
    | false => rfl
    | true => have := (sameV_iff.1 hs).1; omega
  · cases hs : sameV n m v u with
    | false => rfl
    | true => exact absurd ((sameV_iff.1 hs).2 k h1) h2
  · by_cases hj' : j < k
    · exact hall j hj'
    · obtain rfl : j = k := by omega
      exact h2
  · exact sameV_iff.2 ⟨by omega, fun j hj => hall j (by omega)⟩
def SFw : Sums := ⟨(22, mkSum _ intsS) :: SFv2.one, SFv2.two, SFv2.lo, SFv2.eqs, SFv2.its, SFv2.imm⟩
theorem SFw_ok : SumsOK Try.prog SFw := (SFv2_ok.cons Try.func22 (by kernel_rfl) (by kernel_rfl) ints_ok)
theorem liN_le {n : Nat} {lo hi : Nat → Int} {x : Int} : liN n lo hi x ≤ n := by
  unfold liN
  split
  · exact cntF_le _ _
  · omega
set_option maxRecDepth 100000 in
set_option maxHeartbeats 2000000 in
theorem estimateFuses_law : LawFn Try.prog 5 [spansSh, .int .i64, .int .i64] := by
  refine FnSpec.of SFw_ok mixed (U := 0) (I := fun _ => []) Try.func5 rfl (by kernel_rfl) rfl rfl (by decide +kernel) ?_
  rintro ⟨⟨n, el⟩, (f : Int), (x : Int), ⟨⟩⟩ hv
  obtain ⟨lo, hi, rfl⟩ : ∃ lo hi : Nat → Int, el = fun k => (lo k, hi k, ()) := ⟨fun k => (el k).1, fun k => (el k).2.1, rfl⟩
  unfold FnSat
  conv => arg 2; reduce
  simp [-Bool.forall_bool, tru3, fusS, liaS, intsS, CanL, okSh, CanSh, and_assoc]
  exact fun h => ⟨by omega, Nat.le_trans liN_le (by unfold maxLen; omega), sameV_self _ _⟩
end
end Abs
open Go.ChangeShapes Go.WideShapes Go.ChangeAt Go.RowKit
set_option maxRecDepth 100000 in
theorem estimateFuses_lifted (os : Os) (started : os.Started) (H : Type) (enc : TypeId × Value → H) :
    ReturnsInHanded {} Try.checked os 5 .any (Rows.estimateFusesSpec.pre6 enc Try.prog Try.f5 Rows.estimateFusesRow.domain false) (Rows.estimateFusesSpec.post enc Try.prog Try.f5 false true false false) := by
  refine returnsInHanded_of_change (C := Try.checked) (show ownKnob Try.prog.godebug = none by kernel_rfl) started (by kernel_rfl) Try.func5
    (ChangeSpec.witness6 (enc := enc) (C := Try.checked) false ⟨#[], #[.slice none 0 0, .int .i64 0, .int .i64 0], []⟩ 8 (by kernel_rfl) (by kernel_rfl) (by kernel_rfl) (by kernel_rfl)) ?_
  intro W base args ds gs before hval0 hW hcnd _
  have hW0 := hW
  obtain ⟨p, q, hA, hV, rfl, hfz, hnd⟩ := hW0
  refine (Abs.law_calls (enc' := enc) Abs.estimateFuses_law (fn := Try.f5) (d := 3) (by kernel_rfl) hA hval0).mono fun e W' hh => ?_
  obtain ⟨he, hb⟩ := hh
  subst he
  exact ⟨_, rfl, Abs.law_post (s := Rows.estimateFusesSpec) (f := Try.f5) (by kernel_rfl) rfl (by kernel_rfl) (by kernel_rfl) rfl 3 (by kernel_rfl) (fun ds hl => by
    rcases ds with _ | ⟨d0, _ | ⟨d1, _ | ⟨d2, _ | ⟨d3, _⟩⟩⟩⟩
    all_goals first | exact ⟨rfl, rfl, rfl⟩ | (exfalso; simp only [List.length_cons, List.length_nil] at hl; omega)) hW hb⟩
theorem estimateFuses_holds : Rows.EstimateFusesSaid :=
  OpenClaim.holds_of_wide 5 Try.f5 rfl rfl rfl rfl rfl rfl rfl ⟨rfl, rfl, rfl, rfl, rfl⟩ rfl rfl rfl rfl rfl (by kernel_rfl) Try.func5 (by kernel_rfl)
    (of_decide_eq_true (by kernel_rfl)) (by unfold Func.isWrapper; first | (rw [if_pos (by decide +kernel)]; kernel_rfl) | (rw [if_neg (by decide +kernel)]; exact ⟨rfl, rfl⟩))
    (fun os started H enc _ => estimateFuses_lifted os started H enc)
end Go.Proofs.Yteoaeodalknkiaa

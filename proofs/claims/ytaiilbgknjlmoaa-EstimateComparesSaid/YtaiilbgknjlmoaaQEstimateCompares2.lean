/- For all boxes and states the program's Apart and Pull return what the document says; what Pull returns is in the box, and Pull leaves it as it is; no condition. -/
import Derived.Test.YtaiilbgknjlmoaaQEstimateCompares1
import Derived.Test.YtaiilbgknjlmoaaRows
namespace Go.Proofs.Ytaiilbgknjlmoaa
namespace Abs
open Go Go.RowKit
def SCo : Sums := ⟨(12, mkSum _ trueS) :: SV6.one, SV6.two, 0, eqs1⟩
theorem SCo_ok : SumsOK Try.prog SCo := (SV6_ok.setEqs eqs1_ok).cons Try.func12 (by kernel_rfl) (by kernel_rfl) works_ok
set_option maxRecDepth 100000 in
theorem estimateCompares_law : LawFn Try.prog 5 [spansSh, stateSh] := by
  refine FnSpec.of SCo_ok mixed (U := 0) (I := fun _ => []) Try.func5 rfl (by kernel_rfl) rfl rfl (by decide +kernel) ?_
  rintro ⟨⟨n, el⟩, ⟨(a : Int), (b : Int), (c : Int), (d : Int), (e : Int), ⟨⟩⟩, ⟨⟩⟩ hv
  have hv : n ≤ maxLen := hv.1.1
  obtain ⟨lo, hi, rfl⟩ : ∃ lo hi : Nat → Int, el = fun k => (lo k, hi k, ()) := ⟨fun k => (el k).1, fun k => (el k).2.1, rfl⟩
  unfold FnSat
  conv => arg 2; reduce
  simp [apartS, pullS, intsS, trueS, CanL, okSh, CanSh, and_assoc]
  intro _
  refine ⟨fun k hk => by simp [CanL, okSh, CanSh], Nat.le_trans (apN_le n lo hi a b c d e) (by decide), sameV_self _ _, fun _ hE => ?_⟩
  have hE : apE n lo hi = 0 := hE
  have h : boxOK n (fun k => (lo k, hi k, ())) = true := by
    cases hb : boxOK n (fun k => (lo k, hi k, ())) with
    | true => rfl
    | false => simp [apE, hb] at hE
  exact ⟨hE, ap_pul h a b c d e, pul_fix (pul_in h (k := 0) (by omega) a) h, pul_fix (pul_in h (k := 1) (by omega) b) h, pul_fix (pul_in h (k := 2) (by omega) c) h, pul_fix (pul_in h (k := 3) (by omega) d) h, pul_fix (pul_in h (k := 4) (by omega) e) h⟩
end Abs
open Go.ChangeShapes Go.WideShapes Go.ChangeAt Go.RowKit
set_option maxRecDepth 100000 in
theorem estimateCompares_lifted (os : Os) (started : os.Started) (H : Type) (enc : TypeId × Value → H) :
    ReturnsInHanded {} Try.checked os 5 .any (Rows.estimateComparesSpec.pre6 enc Try.prog Try.f5 Rows.estimateComparesRow.domain false) (Rows.estimateComparesSpec.post enc Try.prog Try.f5 false true false false) := by
  refine returnsInHanded_of_change (C := Try.checked) (show ownKnob Try.prog.godebug = none by kernel_rfl) started (by kernel_rfl) Try.func5
    (ChangeSpec.witness6 (enc := enc) (C := Try.checked) false ⟨#[], #[.slice none 0 0, .agg #[.int .i64 0, .int .i64 0, .int .i64 0, .int .i64 0, .int .i64 0]], []⟩ 8 (by kernel_rfl) (by kernel_rfl) (by kernel_rfl) (by kernel_rfl)) ?_
  intro W base args ds gs before hval0 hW hcnd _
  have hW0 := hW
  obtain ⟨p, q, hA, hV, rfl, hfz, hnd⟩ := hW0
  refine (Abs.law_calls (enc' := enc) Abs.estimateCompares_law (fn := Try.f5) (d := 3) (by kernel_rfl) hA hval0).mono fun e W' hh => ?_
  obtain ⟨he, hb⟩ := hh
  subst he
  exact ⟨_, rfl, Abs.law_post (s := Rows.estimateComparesSpec) (f := Try.f5) (by kernel_rfl) rfl (by kernel_rfl) (by kernel_rfl) rfl 2 (by kernel_rfl) (fun ds hl => by
    rcases ds with _ | ⟨d0, _ | ⟨d1, _ | ⟨d2, _⟩⟩⟩
    all_goals first | exact ⟨rfl, rfl, rfl⟩ | (exfalso; simp only [List.length_cons, List.length_nil] at hl; omega)) hW hb⟩
theorem estimateCompares_holds : Rows.EstimateComparesSaid :=
  OpenClaim.holds_of_wide 5 Try.f5 rfl rfl rfl rfl rfl rfl rfl ⟨rfl, rfl, rfl, rfl, rfl⟩ rfl rfl rfl rfl rfl (by kernel_rfl) Try.func5 (by kernel_rfl)
    (of_decide_eq_true (by kernel_rfl)) (by unfold Func.isWrapper; first | (rw [if_pos (by decide +kernel)]; kernel_rfl) | (rw [if_neg (by decide +kernel)]; exact ⟨rfl, rfl⟩))
    (fun os started H enc _ => estimateCompares_lifted os started H enc)
end Go.Proofs.Ytaiilbgknjlmoaa

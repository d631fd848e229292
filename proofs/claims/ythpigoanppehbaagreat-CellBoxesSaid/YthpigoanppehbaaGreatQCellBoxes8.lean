/- The spans of the voltage and of the fill, the next box, and the current that is safe for a box, are those of the definitions, or refused; no condition. -/
import Derived.Test.YthpigoanppehbaaGreatQG01081da8
import Derived.Test.YthpigoanppehbaaGreatRows
set_option linter.unusedSimpArgs false
set_option linter.unusedVariables false
namespace Go.Proofs.YthpigoanppehbaaGreat
namespace Abs
open Go Go.RowKit
noncomputable section
attribute [local irreducible] FnSat
noncomputable def SLb : Sums := ⟨(16, mkSum _ sfoS) :: (15, mkSum _ sfoS) :: (7, mkSum _ fewS) :: SWg.one, SWg.two, SWg.lo, SWg.eqs, SWg.its, SWg.imm⟩
theorem SLb_ok : SumsOK Tryz.prog SLb := (((SWg_ok.cons Tryz.func7 (by kernel_rfl) (by kernel_rfl) few_ok).cons Tryz.func15 (by kernel_rfl) (by kernel_rfl) sfo_ok).cons Tryz.func16 (by kernel_rfl) (by kernel_rfl) rsfo_ok)
set_option maxRecDepth 100000 in
set_option maxHeartbeats 8000000 in
theorem cellBoxes_law : LawFn Tryz.prog 3 [celSh, wideSh] := by
  refine FnSpec.of SLb_ok mixed (U := 0) (I := fun _ => []) Tryz.func3 rfl (by kernel_rfl) rfl rfl (by decide +kernel) ?_
  rintro ⟨c, ⟨⟨n, el⟩, ⟨m, em⟩, ⟨p, en⟩, (a1 : Int), (a2 : Int), (a3 : Int), (a4 : Int), (a5 : Int), (a6 : Int), (a7 : Int), (a8 : Int), (a9 : Int), ⟨⟩⟩, ⟨⟩⟩ hv
  obtain ⟨c, rfl⟩ := cel_ex c
  obtain ⟨lo, hi, rfl⟩ : ∃ lo hi : Nat → Int, el = fun k => (lo k, hi k, ()) := ⟨fun k => (el k).1, fun k => (el k).2.1, rfl⟩
  obtain ⟨bl, bh, rfl⟩ : ∃ bl bh : Nat → Int, em = fun k => (bl k, bh k, ()) := ⟨fun k => (em k).1, fun k => (em k).2.1, rfl⟩
  obtain ⟨il, ih, rfl⟩ : ∃ il ih : Nat → Int, en = fun k => (il k, ih k, ()) := ⟨fun k => (en k).1, fun k => (en k).2.1, rfl⟩
  unfold FnSat
  conv => arg 2; reduce
  simp [-Bool.forall_bool, trueS, grtS, fewS, vbS, fbS, sbS, sfoS, smsS, ElEq, getB, goneB, aliveB, and_assoc]
  intro hg hf
  have hc := grtB_no hg
  obtain ⟨f1, f2, f3⟩ := fewB_iff.1 hf
  have hn : n ≤ maxLen := by unfold maxLen; omega
  have hm : m ≤ maxLen := by unfold maxLen; omega
  have hp : p ≤ maxLen := by unfold maxLen; omega
  have hs : ∀ e, sbN e ≤ maxLen := fun e => by
    unfold sbN maxLen
    split <;> omega
  exact ⟨hc, hn, hm, hc, hn, hm, hc, hn, hm, hc, hn, hm, hc, hn, hm, hp, hc, hn, hm, hp, hc, hn, hm, hc, hn, hm, hs _, smsV_iff.2 ⟨rfl, fun k _ => ⟨rfl, rfl⟩⟩⟩
end
end Abs
open Go.ChangeShapes Go.WideShapes Go.ChangeAt Go.RowKit
set_option maxRecDepth 100000 in
theorem cellBoxes_lifted (os : Os) (started : os.Started) (H : Type) (enc : TypeId × Value → H) :
    ReturnsInHanded {} Tryz.checked os 3 .any (Rows.cellBoxesSpec.pre6 enc Tryz.prog Tryz.f3 Rows.cellBoxesRow.domain false) (Rows.cellBoxesSpec.post enc Tryz.prog Tryz.f3 false true false false) := by
  refine returnsInHanded_of_change (C := Tryz.checked) (show ownKnob Tryz.prog.godebug = none by kernel_rfl) started (by kernel_rfl) Tryz.func3
    (ChangeSpec.witness6 (enc := enc) (C := Tryz.checked) false ⟨#[], #[.agg #[.int .i64 0, .slice none 0 0, .slice none 0 0, .int .i64 0, .slice none 0 0, .slice none 0 0, .int .i64 0, .int .i64 0, .int .i64 0, .int .i64 0, .int .i64 0, .int .i64 0, .slice none 0 0, .slice none 0 0, .int .i64 0, .int .i64 0, .int .i64 0], .agg #[.slice none 0 0, .slice none 0 0, .slice none 0 0, .int .i64 0, .int .i64 0, .int .i64 0, .int .i64 0, .int .i64 0, .int .i64 0, .int .i64 0, .int .i64 0, .int .i64 0]], []⟩ 8 (by kernel_rfl) (by kernel_rfl) (by kernel_rfl) (by kernel_rfl)) ?_
  intro W base args ds gs before hval0 hW hcnd _
  have hW0 := hW
  obtain ⟨p, q, hA, hV, rfl, hfz, hnd⟩ := hW0
  refine (Abs.law_calls (enc' := enc) Abs.cellBoxes_law (fn := Tryz.f3) (d := 5) (by kernel_rfl) hA hval0).mono fun e W' hh => ?_
  obtain ⟨he, hb⟩ := hh
  subst he
  exact ⟨_, rfl, Abs.law_post (s := Rows.cellBoxesSpec) (f := Tryz.f3) (by kernel_rfl) rfl (by kernel_rfl) (by kernel_rfl) rfl 2 (by kernel_rfl) (fun ds hl => by
    rcases ds with _ | ⟨d0, _ | ⟨d1, _ | ⟨d2, _⟩⟩⟩
    all_goals first | exact ⟨rfl, rfl, rfl⟩ | (exfalso; simp only [List.length_cons, List.length_nil] at hl; omega)) hW hb⟩
theorem cellBoxes_holds : Rows.CellBoxesSaid :=
  OpenClaim.holds_of_wide 3 Tryz.f3 rfl rfl rfl rfl rfl rfl rfl ⟨rfl, rfl, rfl, rfl, rfl⟩ rfl rfl rfl rfl rfl (by kernel_rfl) Tryz.func3 (by kernel_rfl)
    (of_decide_eq_true (by kernel_rfl)) (by unfold Func.isWrapper; first | (rw [if_pos (by decide +kernel)]; kernel_rfl) | (rw [if_neg (by decide +kernel)]; exact ⟨rfl, rfl⟩))
    (fun os started H enc _ => cellBoxes_lifted os started H enc)
end Go.Proofs.YthpigoanppehbaaGreat

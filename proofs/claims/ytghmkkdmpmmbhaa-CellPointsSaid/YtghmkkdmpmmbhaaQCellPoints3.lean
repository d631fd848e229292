/- Over boxes of one state, one input and no tolerances, the results are those of the model, as points; no condition. -/
import Derived.Test.YtghmkkdmpmmbhaaQG0bbf2379
import Derived.Test.YtghmkkdmpmmbhaaRows
set_option linter.unusedSimpArgs false
set_option linter.unusedVariables false
namespace Go.Proofs.Ytghmkkdmpmmbhaa
namespace Abs
open Go Go.RowKit
noncomputable section
attribute [local irreducible] FnSat decL
set_option maxRecDepth 100000 in
set_option maxHeartbeats 4000000 in
theorem cellPoints_law : LawFn Try.prog 12 [celSh, staSh, inSh] := by
  refine FnSpec.of SPo_ok mixed (U := 0) (I := fun _ => []) Try.func12 rfl (by kernel_rfl) rfl rfl (by decide +kernel) ?_
  rintro ⟨c, s, ⟨(i : Int), (a : Int), ⟨⟩⟩, ⟨⟩⟩ hv
  obtain ⟨c, rfl⟩ := cel_ex c
  obtain ⟨s, rfl⟩ := sta_ex s
  unfold FnSat
  conv => arg 2; reduce
  simp [-Bool.forall_bool, trueS, grtS, cstS, stpT, filS, volS, vecN, ptsS, smsS, sel5_st, vbS, fbS, sbS, maxRow, dec_row2, decL_cons, dec_int, dec_inl, sel2_0, sel2_1, ElEq, getB, goneB, aliveB, and_assoc]
  refine ⟨grtB_no, fun hg hs => ?_⟩
  have hmax := grtB_no hg
  obtain ⟨hcb, hst⟩ := csE_iff.1 hs
  have K : chkV c 7 (fun _ => 0) (fun _ => 0) 5 (fun k => stV s k) (fun k => stV s k) = 0 := chk_iff.2 (pt_chk hcb hst)
  have E := pt_sbE (i := i) (a := a) hs (fun k => sel2 i a k) (fun k => sel2 i a k) (sel2_0 i a) (sel2_0 i a) (sel2_1 i a) (sel2_1 i a)
  have E' : sbE c 7 (fun _ => 0) (fun _ => 0) 5 (fun k => stV s k) (fun k => stV s k) 2 (fun k => sel2 i a k) (fun k => sel2 i a k) = 0 ↔ stAE c s i a = 0 := E
  refine ⟨fun _ _ => rfl, fun _ _ => rfl, hmax, can_row2 i a, fun _ _ => rfl, hmax, by decide, by decide, by decide, fun h q => h (E'.1 q), fun h => ?_⟩
  have E0 := E'.2 h
  obtain ⟨hst', i1, i2, a1, a2⟩ := stA_ok hs h
  have hi : insV (-1048576) i i 1048576 = true := insV_iff.2 ⟨i1, Int.le_refl _, i2⟩
  have ci := curI_iff.2 ⟨i1, i2⟩
  have wi : aE c s (wiE i) = 0 := by unfold wiE; rw [if_pos ci]; exact aE_yes hs
  have w0 : aE c s 0 = 0 := aE_yes hs
  have o : orE 0 true 2 = 0 := orE_t rfl rfl
  simp only [K, E0, hi, wi, w0, o]
  have n5 : sbN 0 = 5 := sbN_5 rfl
  have w : widV c (fun _ => 0) (fun _ => 0) 5 (fun k => stV s k) (fun k => stV s k) = ptW c s := by unfold ptW; rfl
  have es := stA_0 hs h
  obtain ⟨v1, v2⟩ := pt_volt c s i
  have vi : aV c s (wiV i (voltV c s i)) = voltV c s i := by rw [aV_yes hs]; unfold wiV; rw [if_pos ci]
  have vf : aV c s (fillV c s) = fillV c s := aV_yes hs
  obtain ⟨f1, f2, f3, f4, f5, f6, f7, f8⟩ := ptW_n c s
  rw [n5, w, v1, v2, vi, vf, f5, f6, okV_0 rfl, okV_0 rfl]
  refine ⟨hmax, by decide, by decide, hmax, by decide, by decide, by decide, by decide, by decide, by decide, by decide, by decide, by decide, by decide, fun _ k _ => rfl, fun _ => by decide, by decide, ?_, rfl, rfl, rfl, rfl⟩
  refine smsV_iff.2 ⟨rfl, fun k hk => ?_⟩
  rw [es]
  exact pt_next c s i a k hk
end
end Abs
open Go.ChangeShapes Go.WideShapes Go.ChangeAt Go.RowKit
set_option maxRecDepth 100000 in
theorem cellPoints_lifted (os : Os) (started : os.Started) (H : Type) (enc : TypeId × Value → H) :
    ReturnsInHanded {} Try.checked os 12 .any (Rows.cellPointsSpec.pre6 enc Try.prog Try.f12 Rows.cellPointsRow.domain false) (Rows.cellPointsSpec.post enc Try.prog Try.f12 false true false false) := by
  refine returnsInHanded_of_change (C := Try.checked) (show ownKnob Try.prog.godebug = none by kernel_rfl) started (by kernel_rfl) Try.func12
    (ChangeSpec.witness6 (enc := enc) (C := Try.checked) false ⟨#[], #[.agg #[.int .i64 0, .slice none 0 0, .slice none 0 0, .int .i64 0, .slice none 0 0, .slice none 0 0, .int .i64 0, .int .i64 0, .int .i64 0, .int .i64 0, .int .i64 0, .int .i64 0, .slice none 0 0, .slice none 0 0, .int .i64 0, .int .i64 0, .int .i64 0], .agg #[.int .i64 0, .int .i64 0, .int .i64 0, .int .i64 0, .int .i64 0], .agg #[.int .i64 0, .int .i64 0]], []⟩ 8 (by kernel_rfl) (by kernel_rfl) (by kernel_rfl) (by kernel_rfl)) ?_
  intro W base args ds gs before hval0 hW hcnd _
  have hW0 := hW
  obtain ⟨p, q, hA, hV, rfl, hfz, hnd⟩ := hW0
  refine (Abs.law_calls (enc' := enc) Abs.cellPoints_law (fn := Try.f12) (d := 4) (by kernel_rfl) hA hval0).mono fun e W' hh => ?_
  obtain ⟨he, hb⟩ := hh
  subst he
  exact ⟨_, rfl, Abs.law_post (s := Rows.cellPointsSpec) (f := Try.f12) (by kernel_rfl) rfl (by kernel_rfl) (by kernel_rfl) rfl 3 (by kernel_rfl) (fun ds hl => by
    rcases ds with _ | ⟨d0, _ | ⟨d1, _ | ⟨d2, _ | ⟨d3, _⟩⟩⟩⟩
    all_goals first | exact ⟨rfl, rfl, rfl⟩ | (exfalso; simp only [List.length_cons, List.length_nil] at hl; omega)) hW hb⟩
theorem cellPoints_holds : Rows.CellPointsSaid :=
  OpenClaim.holds_of_wide 12 Try.f12 rfl rfl rfl rfl rfl rfl rfl ⟨rfl, rfl, rfl, rfl, rfl⟩ rfl rfl rfl rfl rfl (by kernel_rfl) Try.func12 (by kernel_rfl)
    (of_decide_eq_true (by kernel_rfl)) (by unfold Func.isWrapper; first | (rw [if_pos (by decide +kernel)]; kernel_rfl) | (rw [if_neg (by decide +kernel)]; exact ⟨rfl, rfl⟩))
    (fun os started H enc _ => cellPoints_lifted os started H enc)
end Go.Proofs.Ytghmkkdmpmmbhaa

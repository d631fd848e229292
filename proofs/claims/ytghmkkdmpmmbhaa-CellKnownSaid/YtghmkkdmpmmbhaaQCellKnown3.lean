/- The examples of the chapter on cells; a closed statement. -/
import Derived.Test.YtghmkkdmpmmbhaaQG482b1375
import Derived.Test.YtghmkkdmpmmbhaaRows
set_option linter.unusedSimpArgs false
set_option linter.unusedVariables false
namespace Go.Proofs.Ytghmkkdmpmmbhaa
namespace Abs
open Go Go.RowKit
noncomputable section
attribute [local irreducible] FnSat decL
def SLk : Sums := ⟨(59, mkSum _ hetS) :: (34, mkSum _ outmo) :: (55, mkSum _ smsS) :: (54, mkSumN _ ptsS) :: SAd.one, SAd.two, SAd.lo, SAd.eqs, SAd.its, SAd.imm⟩
theorem SLk_ok : SumsOK Try.prog SLk := ((((SAd_ok.add Try.func54 (by kernel_rfl) (by kernel_rfl) (mkSumN_ok pts_ok)).cons Try.func55 (by kernel_rfl) (by kernel_rfl) sms_ok).cons Try.func34 (by kernel_rfl) (by kernel_rfl) outmo_ok).cons Try.func59 (by kernel_rfl) (by kernel_rfl) het_ok)
set_option maxRecDepth 100000 in
set_option maxHeartbeats 8000000 in
theorem cellKnown_law : LawFn Try.prog 13 [] := by
  refine FnSpec.of SLk_ok mixed (U := 0) (I := fun _ => []) Try.func13 rfl (by kernel_rfl) rfl rfl (by decide +kernel) ?_
  rintro ⟨⟩ hv
  unfold FnSat
  conv => arg 2; reduce
  have e0 : staOf (500000, 0, 300000, 0, 0, PUnit.unit) = exSta := by unfold exSta staOf; rfl
  simp [-Bool.forall_bool, trueS, exS, capS, filS, hltS, opnS, rsiS, volS, hetS, eneS, stpT, outmo, sbS, fauS, vecN, ptsS, smsS, sel5_st, maxRow, dec_row2, decL_cons, dec_int, dec_inl, sel2_0, sel2_1, ElEq, getB, goneB, aliveB, e0, kx_e, kx_v, kx_fill, kx_opn, kx_hl, kx_k, kx_r, kx_volt1, ex_heat, kx_ener, kx_w1, kx_w2, kx_w3, kx_w4, kx_w5, kx_s1, kx_te, kx_tv, kx_tk, kx_s3, kx_s4, kx_m1, kx_m2, and_assoc]
  rw [kx_st]
  have w : widV exCel (fun k => 0) (fun k => 0) 5 (stV exSta) (stV exSta) = kxW := by unfold kxW ptW; rfl
  have E : sbE exCel 7 (fun k => 0) (fun k => 0) 5 (stV exSta) (stV exSta) 2
      (fun k => (decL [Sh.int IntKind.i64, Sh.int IntKind.i64] (rowAt 2 [AV.li IntKind.i64 9000, AV.li IntKind.i64 10000, AV.li IntKind.i64 300000, AV.li IntKind.i64 300000] k)).1)
      (fun k => (decL [Sh.int IntKind.i64, Sh.int IntKind.i64] (rowAt 2 [AV.li IntKind.i64 9000, AV.li IntKind.i64 10000, AV.li IntKind.i64 300000, AV.li IntKind.i64 300000] k)).2.1) = 0 := kx_sb (by with_unfolding_all rfl) (by with_unfolding_all rfl) (by with_unfolding_all rfl) (by with_unfolding_all rfl)
  rw [E, w, kx_flt.1, kx_flt.2, kx_flt3, sbN_5 rfl]
  have hm := (celB_iff.1 ex_cel).max
  obtain ⟨t1, t2, t3, t4⟩ := kx_tl
  have r2 : ∀ (a b c d : Int) (k : Nat), k < 2 → CanL [Sh.int IntKind.i64, Sh.int IntKind.i64] (rowAt 2 [AV.li IntKind.i64 a, AV.li IntKind.i64 b, AV.li IntKind.i64 c, AV.li IntKind.i64 d] k) := fun a b c d k hk => by
    match k, hk with
    | 0, _ => simp [rowAt, takeL, dropL]
    | 1, _ => simp [rowAt, takeL, dropL]
  have r5 : ∀ (k : Nat), k < 5 → CanL [Sh.int IntKind.i64, Sh.int IntKind.i64] (rowAt 2 [AV.li IntKind.i64 489990, AV.li IntKind.i64 490990, AV.li IntKind.i64 2250, AV.li IntKind.i64 2500, AV.li IntKind.i64 300081, AV.li IntKind.i64 300100, AV.li IntKind.i64 9000, AV.li IntKind.i64 10000, AV.li IntKind.i64 1, AV.li IntKind.i64 1] k) := fun k hk => by
    match k, hk with
    | 0, _ => simp [rowAt, takeL, dropL]
    | 1, _ => simp [rowAt, takeL, dropL]
    | 2, _ => simp [rowAt, takeL, dropL]
    | 3, _ => simp [rowAt, takeL, dropL]
    | 4, _ => simp [rowAt, takeL, dropL]
  refine ⟨hm, fun _ _ => rfl, fun _ _ => rfl, r2 _ _ _ _, hm, by decide, by decide, by decide, hm, by decide, by decide, fun _ => r5, fun _ => by decide, by decide, ?_, rfl, rfl⟩
  refine smsV_iff.2 ⟨rfl, fun k hk => ?_⟩
  match k, hk with
  | 0, _ => exact ⟨(nb_0 kxW 9000 10000 300000 300000).1.trans (kx_q.1.trans (by with_unfolding_all rfl)), (nb_0 kxW 9000 10000 300000 300000).2.trans (kx_q.2.trans (by with_unfolding_all rfl))⟩
  | 1, _ => exact ⟨(nb_1 kxW 9000 10000 300000 300000).1.trans (kx_rel.1.trans (by with_unfolding_all rfl)), (nb_1 kxW 9000 10000 300000 300000).2.trans (kx_rel.2.trans (by with_unfolding_all rfl))⟩
  | 2, _ => exact ⟨(nb_2 kxW 9000 10000 300000 300000).1.trans (kx_temp.1.trans (by with_unfolding_all rfl)), (nb_2 kxW 9000 10000 300000 300000).2.trans (kx_temp.2.trans (by with_unfolding_all rfl))⟩
  | 3, _ => exact ⟨(nb_3 kxW 9000 10000 300000 300000).1.trans (t1.trans (by with_unfolding_all rfl)), (nb_3 kxW 9000 10000 300000 300000).2.trans (t2.trans (by with_unfolding_all rfl))⟩
  | 4, _ => exact ⟨(nb_4 kxW 9000 10000 300000 300000).1.trans (t3.trans (by with_unfolding_all rfl)), (nb_4 kxW 9000 10000 300000 300000).2.trans (t4.trans (by with_unfolding_all rfl))⟩
end
end Abs
open Go.ChangeShapes Go.WideShapes Go.ChangeAt Go.RowKit
set_option maxRecDepth 100000 in
theorem cellKnown_lifted (os : Os) (started : os.Started) (H : Type) (enc : TypeId × Value → H) :
    ReturnsInHanded {} Try.checked os 13 .any (Rows.cellKnownSpec.pre6 enc Try.prog Try.f13 Rows.cellKnownRow.domain false) (Rows.cellKnownSpec.post enc Try.prog Try.f13 false true false false) := by
  refine returnsInHanded_of_change (C := Try.checked) (show ownKnob Try.prog.godebug = none by kernel_rfl) started (by kernel_rfl) Try.func13
    (ChangeSpec.witness6 (enc := enc) (C := Try.checked) false ⟨#[], #[], []⟩ 8 (by kernel_rfl) (by kernel_rfl) (by kernel_rfl) (by kernel_rfl)) ?_
  intro W base args ds gs before hval0 hW hcnd _
  have hW0 := hW
  obtain ⟨p, q, hA, hV, rfl, hfz, hnd⟩ := hW0
  refine (Abs.law_calls (enc' := enc) Abs.cellKnown_law (fn := Try.f13) (d := 4) (by kernel_rfl) hA hval0).mono fun e W' hh => ?_
  obtain ⟨he, hb⟩ := hh
  subst he
  exact ⟨_, rfl, Abs.law_post (s := Rows.cellKnownSpec) (f := Try.f13) (by kernel_rfl) rfl (by kernel_rfl) (by kernel_rfl) rfl 0 (by kernel_rfl) (fun ds hl => by
    rcases ds with _ | ⟨d0, _⟩
    all_goals first | exact ⟨rfl, rfl, rfl⟩ | (exfalso; simp only [List.length_cons, List.length_nil] at hl; omega)) hW hb⟩
theorem cellKnown_holds : Rows.CellKnownSaid :=
  OpenClaim.holds_of_wide 13 Try.f13 rfl rfl rfl rfl rfl rfl rfl ⟨rfl, rfl, rfl, rfl, rfl⟩ rfl rfl rfl rfl rfl (by kernel_rfl) Try.func13 (by kernel_rfl)
    (of_decide_eq_true (by kernel_rfl)) (by unfold Func.isWrapper; first | (rw [if_pos (by decide +kernel)]; kernel_rfl) | (rw [if_neg (by decide +kernel)]; exact ⟨rfl, rfl⟩))
    (fun os started H enc _ => cellKnown_lifted os started H enc)
end Go.Proofs.Ytghmkkdmpmmbhaa

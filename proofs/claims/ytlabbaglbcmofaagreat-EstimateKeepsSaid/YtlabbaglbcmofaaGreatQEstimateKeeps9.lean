/- Nothing is lost: whatever the sensors show of a cell within the tolerances that was in the box, the watcher's box holds its state, its fill and its health are in what the watcher says; no condition. -/
import Derived.Test.YtlabbaglbcmofaaGreatQG2bf4fd6c
import Derived.Test.YtlabbaglbcmofaaGreatRows
set_option linter.unusedSimpArgs false
set_option linter.unusedVariables false
namespace Go.Proofs.YtlabbaglbcmofaaGreat
namespace Abs
open Go Go.RowKit
noncomputable section
attribute [local irreducible] FnSat
noncomputable def SKp0 : Sums := ⟨(32, mkSum _ hlwS) :: (30, mkSum _ flwS) :: (26, mkSum _ lstS) :: (27, mkSum _ tknS) :: (34, mkSum _ hvS) :: (28, mkSum _ bhsS) :: (29, mkSumN _ vecN) :: (33, mkSum _ hltS) :: (31, mkSum _ filS) :: (24, mkSum _ stpT) :: (25, mkSum _ inpW3) :: (21, mkSum _ rdnS) :: (8, mkSum _ tru3) :: SKt.one, SKt.two, SKt.lo, SKt.eqs, SKt.its, SKt.imm⟩
theorem SKp0_ok : SumsOK Tryz.prog SKp0 := (((((((((((((SKt_ok.cons Tryz.func8 (by kernel_rfl) (by kernel_rfl) works_ok).cons Tryz.func21 (by kernel_rfl) (by kernel_rfl) rdn_ok).cons Tryz.func25 (by kernel_rfl) (by kernel_rfl) inpW_ok).cons Tryz.func24 (by kernel_rfl) (by kernel_rfl) stpT_ok).cons Tryz.func31 (by kernel_rfl) (by kernel_rfl) fil_ok).cons Tryz.func33 (by kernel_rfl) (by kernel_rfl) hlt_ok).add Tryz.func29 (by kernel_rfl) (by kernel_rfl) (mkSumN_ok vector_ok)).cons Tryz.func28 (by kernel_rfl) (by kernel_rfl) bhs_ok).cons Tryz.func34 (by kernel_rfl) (by kernel_rfl) hv_okQ).cons Tryz.func27 (by kernel_rfl) (by kernel_rfl) tkn_ok).cons Tryz.func26 (by kernel_rfl) (by kernel_rfl) lst_ok).cons Tryz.func30 (by kernel_rfl) (by kernel_rfl) flw_ok).cons Tryz.func32 (by kernel_rfl) (by kernel_rfl) hlw_ok)
noncomputable def SKp1 : Sums := ⟨(18, mkSumN _ bxN) :: (11, mkSumN _ nwN) :: (20, mkSum _ truB) :: SKp0.one, SKp0.two, SKp0.lo, SKp0.eqs, SKp0.its, SKp0.imm⟩
theorem SKp1_ok : SumsOK Tryz.prog SKp1 := (((SKp0_ok.cons Tryz.func20 (by kernel_rfl) (by kernel_rfl) truB_ok).add Tryz.func11 (by kernel_rfl) (by kernel_rfl) (mkSumN_ok nwN_ok)).add Tryz.func18 (by kernel_rfl) (by kernel_rfl) (mkSumN_ok bxN_ok))
noncomputable def SKpA : Sums := ⟨(20, mkSum _ truA) :: SKp0.one, SKp0.two, SKp0.lo, SKp0.eqs, SKp0.its, SKp0.imm⟩
theorem SKpA_ok : SumsOK Tryz.prog SKpA := (SKp0_ok.cons Tryz.func20 (by kernel_rfl) (by kernel_rfl) truA_ok)
noncomputable def SKp : Sums := ⟨SKp1.one, (14, mkSumG _ _ tkwF) :: SKp1.two, SKp1.lo, SKp1.eqs, SKp1.its, SKp1.imm⟩
theorem SKp_ok : SumsOK Tryz.prog SKp := SKp1_ok.addTwo Tryz.func14 (by kernel_rfl) (by kernel_rfl) (mkSumG_ok tkw_ok)
@[reducible] def kpSh : List Sh := [casSh, tksSh]
def kpA : Spec kpSh := ⟨fun x => ValidL kpSh x /\ ¬ (shtB (casOf x.1).w.cel = true /\ wcB (casOf x.1).w = true), fun _ => .sb true⟩
def kpB : Spec kpSh := ⟨fun x => ValidL kpSh x /\ shtB (casOf x.1).w.cel = true /\ wcB (casOf x.1).w = true, fun _ => .sb true⟩
set_option maxRecDepth 100000 in
set_option maxHeartbeats 4000000 in
theorem kpA_ok : FnSpec Tryz.prog 5 _ kpA := by
 refine FnSpec.of SKpA_ok mixed (U := 0) (I := fun _ => []) Tryz.func5 rfl (by kernel_rfl) rfl rfl (by decide +kernel) ?_
 rintro ⟨x, ⟨n, el⟩, ⟨⟩⟩ hpre
 obtain ⟨x, rfl⟩ := cas_ex x
 have hi := cas_in2 hpre.1
 have hpre : ¬ (shtB x.w.cel = true /\ wcB x.w = true) := by have := hpre.2; rwa [casOf_D] at this
 unfold FnSat
 conv => arg 2; reduce
 simp [-Bool.forall_bool, kpA, tru3, truA, and_assoc]
 refine ⟨hi, fun h => ?_⟩
 cases hc : wcB x.w with
 | false => rfl
 | true => exact absurd ⟨h, hc⟩ hpre
def kpI : DatL kpSh -> Anns := fun (x, (n, el), _) => [(1048578, [], cutTr (casOf x) 5 1 163), (1048587, [], cutRd (casOf x) el 11 10 2 5 163), (1048590, [], cutTk 13 4 5 163),
 (8, [], fun fr hp => ⟨Nat × Sta × Ew, fun (g, s, e) => ⟨frI [.k 10, .s (.si .i64 (icast g)), .t 152] fr, setB (setB hp 2 (.cells 70 [.si .i64 s.q, .si .i64 s.rx, .si .i64 s.tp, .si .i64 s.th, .si .i64 s.ag])) 4 (.cells 114 (.sb true :: ewCs e.w e.n e.l e.h e.tk e.gn))⟩,
  Nat × Cas × (Nat × Sta × Ew), fun y => (n, casOf x, y), fun (n, x, (g, s, e)) => KInv n 16 x g s e, fun (g, _) => nsub n g⟩),
 (4194324, [], fun _ _ => unitA)]
set_option maxRecDepth 100000 in
set_option maxRecDepth 100000 in
set_option maxHeartbeats 8000000 in
theorem kpB_ok : FnSpec Tryz.prog 5 _ kpB := by
 refine FnSpec.of SKp_ok mixed (U := 0) (I := kpI) Tryz.func5 rfl (by kernel_rfl) rfl rfl (by decide +kernel) ?_
 rintro ⟨x, ⟨n, el⟩, ⟨⟩⟩ hpre
 obtain ⟨x, rfl⟩ := cas_ex x
 have hi := cas_in2 hpre.1
 have hpre' : shtB x.w.cel = true /\ wcB x.w = true := by have := hpre.2; rwa [casOf_D] at this
 have eI : kpI (casD x, (n, el), ()) = [(1048578, [], cutTr x 5 1 163), (1048587, [], cutRd x el 11 10 2 5 163), (1048590, [], cutTk 13 4 5 163),
  (8, [], fun fr hp => ⟨Nat × Sta × Ew, fun (g, s, e) => ⟨frI [.k 10, .s (.si .i64 (icast g)), .t 152] fr, setB (setB hp 2 (.cells 70 [.si .i64 s.q, .si .i64 s.rx, .si .i64 s.tp, .si .i64 s.th, .si .i64 s.ag])) 4 (.cells 114 (.sb true :: ewCs e.w e.n e.l e.h e.tk e.gn))⟩,
   Nat × Cas × (Nat × Sta × Ew), fun y => (n, x, y), fun (n, x, (g, s, e)) => KInv n 16 x g s e, fun (g, _) => nsub n g⟩),
  (4194324, [], fun _ _ => unitA)] := by
  unfold kpI
  simp only [casOf_D]
 rw [eI]
 clear eI
 unfold FnSat
 conv => arg 2; reduce
 simp [-Bool.forall_bool, kpB, tru3, truB, nwN, bxN, rdnS, inpW3, tkwF, stpT, lstS, tknS, vecN, bhsS, flwS, filS, hlwS, hltS, hvS, ew_up, sel5_st, enc_cel, ElEq, getB, goneB, aliveB, and_assoc]
 obtain ⟨hs, hw⟩ := hpre'
 have hm := shtB_max hs
 have hv := hpre.1
 clear hpre
 have hel : ∀ k, k < n -> ValidL [.int .u16, .int .u16, .int .i16, .int .i16, .int .i16, .int .i16, .int .u8] (el k) := hv.2.1.2
 refine ⟨hi, hs, hw, fun hok => ⟨hm, hi.tn, hw, ⟨0, rfl, casS x, rfl, rfl, rfl, rfl, rfl, ⟨x.w, x.w.bn, x.w.bl, x.w.bh, 0, false⟩, ?_⟩, fun g s e hinv h1 h2 => ?_⟩⟩
 ·simp only [Ew.w_mk, Ew.n_mk, Ew.l_mk, Ew.h_mk, Ew.tk_mk, Ew.gn_mk]
  simp
  exact kInv_0 hi hm hw (truOK_iff.1 hok)
 obtain ⟨hT, hH0, hH1⟩ := tick_in (hel g h1)
 obtain ⟨_, _, hk, hg, htk, hwe, hb⟩ := kInv_iff.1 hinv
 have hcs : csE (casC x) s = 0 := by
  have := hb.cs
  rw [hwe] at this
  rwa [casC_eq]
 have hcm := casC_max hm
 have st := keep_step (r := rdT x s (el g)) (by decide) hinv h1 h2 hT rfl
 have er : ∀ r : R8, (r.1, r.2.1, r.2.2.1, r.2.2.2.1, r.2.2.2.2.1, r.2.2.2.2.2.1, r.2.2.2.2.2.2.1, r.2.2.2.2.2.2.2) = r := fun _ => rfl
 have nw : (tkP e (rdT x s (el g))).1.w = e.w := by unfold tkP; exact ewN_w _ _ _ _ _ _ _ _ _
 have nn : (tkP e (rdT x s (el g))).1.n = e.n := by unfold tkP; exact ewN_n _ _ _ _ _ _ _ _ _
 have et : rdT x s (el g) = (hkB (el g).2.2.2.2.2.2.1 0, hkB (el g).2.2.2.2.2.2.1 1, hkB (el g).2.2.2.2.2.2.1 2, hkB (el g).2.2.2.2.2.2.1 3, rv0 x.w (casC x) s (el g).1 (el g).2.2.1, rv1 x.w (el g).1 (el g).2.2.2.1, rv2 x.w s (el g).2.2.2.2.1, rv3 x.w (el g).2.1 (el g).2.2.2.2.2.1) := by unfold rdT; rfl
 simp only [ew_eta, er, tkP_1, tkP_2]
 refine ⟨h1, hw, hcm, hcs, hT, hH0, hH1, et.symm, hk, ⟨(tkP e (rdT x s (el g))).1, ?_⟩, h1, hw, hT, hcm, ?_⟩
 ·simp only [nw, nn, eq_self, true_and, and_self, implies_true]
 generalize tkP e (rdT x s (el g)) = NE at *
 obtain ⟨N, E⟩ := NE
 simp only at st nw nn ⊢
 rcases st with st | ⟨s1, s2, s3⟩
 ·exact ⟨fun _ => st, fun h => absurd st h⟩
 obtain ⟨k1, k2, kk, kg, kt, kw, kb⟩ := kInv_iff.1 s3
 have n5 := ew_five kk
 have hst := kb.cs
 rw [kw, <- casC_eq] at hst
 have F := fil_has kk kb
 have Hh := hea_has kk kb
 rw [kw, <- casC_eq] at F Hh
 refine ⟨fun h => ?_, fun _ _ => ⟨fun _ _ _ => ⟨by omega, by omega⟩, s1, s2, kg, by omega, fun _ _ _ _ => ⟨by omega, by omega, fun k _ => rfl, by omega, n5, fun k hk2 => ew_n kb k (by omega), kk, hcm, kk, hcm, by rw [aE_yes hst], by rw [aV_yes hst]; exact F, by rw [aV_yes hst]; exact Hh,
  fun _ _ _ => ⟨by omega, by omega, g + 1, by omega, _, rfl, rfl, rfl, rfl, rfl, N, ?_⟩⟩⟩⟩
 ·rcases h with h | h
  ·exact h
  ·exact absurd (s2.symm.trans h) (by decide)
 ·simp only [eq_self, true_and, and_self, implies_true]
  exact ⟨s3, by omega⟩
theorem estimateKeeps_law : LawFn Tryz.prog 5 kpSh := fun x hv => by
 by_cases h : shtB (casOf x.1).w.cel = true /\ wcB (casOf x.1).w = true
 ·exact kpB_ok x ⟨hv, h⟩
 ·exact kpA_ok x ⟨hv, h⟩
end
end Abs
open Go.ChangeShapes Go.WideShapes Go.ChangeAt Go.RowKit
set_option maxRecDepth 100000 in
theorem estimateKeeps_lifted (os : Os) (started : os.Started) (H : Type) (enc : TypeId × Value -> H) :
  ReturnsInHanded {} Tryz.checked os 5 .any (Rows.estimateKeepsSpec.pre6 enc Tryz.prog Tryz.f5 Rows.estimateKeepsRow.domain false) (Rows.estimateKeepsSpec.post enc Tryz.prog Tryz.f5 false true false false) := by
 refine returnsInHanded_of_change (C := Tryz.checked) (show ownKnob Tryz.prog.godebug = none by kernel_rfl) started (by kernel_rfl) Tryz.func5
  (ChangeSpec.witness6 (enc := enc) (C := Tryz.checked) false ⟨#[], #[.agg #[.int .i64 0, .slice none 0 0, .slice none 0 0, .int .i64 0, .slice none 0 0, .slice none 0 0, .int .i64 0, .int .i64 0, .int .i64 0, .int .i64 0, .int .i64 0, .int .i64 0, .slice none 0 0, .slice none 0 0, .int .i64 0, .int .i64 0, .int .i64 0, .slice none 0 0, .slice none 0 0, .int .i64 0, .int .i64 0, .int .i64 0, .int .i64 0, .int .i64 0, .int .i64 0, .int .i64 0, .int .i64 0, .int .i64 0, .int .i64 0, .int .i64 0, .int .i64 0, .int .i64 0, .int .i64 0, .int .i64 0, .int .i64 0, .int .i64 0, .int .i64 0, .int .i64 0, .int .i64 0, .int .i64 0, .int .u16 0, .int .u16 0, .int .u16 0, .int .u16 0, .int .u16 0, .int .u16 0, .int .u16 0, .int .u16 0, .int .u16 0, .int .u16 0, .int .u16 0, .int .u16 0], .slice none 0 0], []⟩ 8 (by kernel_rfl) (by kernel_rfl) (by kernel_rfl) (by kernel_rfl)) ?_
 intro W base args ds gs before hval0 hW hcnd _
 have hW0 := hW
 obtain ⟨p, q, hA, hV, rfl, hfz, hnd⟩ := hW0
 refine (Abs.law_calls (enc' := enc) Abs.estimateKeeps_law (fn := Tryz.f5) (d := 6) (by kernel_rfl) hA hval0).mono fun e W' hh => ?_
 obtain ⟨he, hb⟩ := hh
 subst he
 exact ⟨_, rfl, Abs.law_post (s := Rows.estimateKeepsSpec) (f := Tryz.f5) (by kernel_rfl) rfl (by kernel_rfl) (by kernel_rfl) rfl 2 (by kernel_rfl) (fun ds hl => by
  rcases ds with _ | ⟨d0, _ | ⟨d1, _ | ⟨d2, _⟩⟩⟩
  all_goals first | exact ⟨rfl, rfl, rfl⟩ | (exfalso; simp only [List.length_cons, List.length_nil] at hl; omega)) hW hb⟩
theorem estimateKeeps_holds : Rows.EstimateKeepsSaid :=
 OpenClaim.holds_of_wide 5 Tryz.f5 rfl rfl rfl rfl rfl rfl rfl ⟨rfl, rfl, rfl, rfl, rfl⟩ rfl rfl rfl rfl rfl (by kernel_rfl) Tryz.func5 (by kernel_rfl)
  (of_decide_eq_true (by kernel_rfl)) (by unfold Func.isWrapper; first | (rw [if_pos (by decide +kernel)]; kernel_rfl) | (rw [if_neg (by decide +kernel)]; exact ⟨rfl, rfl⟩))
  (fun os started H enc _ => estimateKeeps_lifted os started H enc)
end Go.Proofs.YtlabbaglbcmofaaGreat

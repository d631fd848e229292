/- A watcher that is lost refuses every reading, and nothing of it changes any more; what is refused changes nothing; no condition. -/
import Derived.Test.YtlabbaglbcmofaaQG2fe296e2
import Derived.Test.YtlabbaglbcmofaaRows
set_option linter.unusedSimpArgs false
set_option linter.unusedVariables false
namespace Go.Proofs.Ytlabbaglbcmofaa
namespace Abs
open Go Go.RowKit
noncomputable section
attribute [local irreducible] FnSat
theorem tlX_or (e : Ew) (a0 a1 a2 a3 a4 a5 a6 a7 : Int) : tlX e a0 a1 a2 a3 a4 a5 a6 a7 = 0 ∨ tlX e a0 a1 a2 a3 a4 a5 a6 a7 = 4 := by unfold tlX; split <;> simp
theorem tk_facts (e : Ew) (q : Bool) (a0 a1 a2 a3 a4 a5 a6 a7 : Int) : (tkG e q a0 a1 a2 a3 a4 a5 a6 a7 = true ↔ e.gn = true ∨ tkE e q a0 a1 a2 a3 a4 a5 a6 a7 = 21) ∧ (tkK e q a0 a1 a2 a3 a4 a5 a6 a7 = true ↔ tkE e q a0 a1 a2 a3 a4 a5 a6 a7 = 0) := by
  unfold tkG tkK tkE
  have hx := tlX_or e a0 a1 a2 a3 a4 a5 a6 a7
  generalize tlX e a0 a1 a2 a3 a4 a5 a6 a7 = X at *
  cases e.gn <;> cases q <;> cases tlB e a0 a1 a2 a3 a4 a5 a6 a7 <;> simp
  omega
theorem ew_facts (e : Ew) (h0 h1 h2 h3 : Bool) (v0 v1 v2 v3 : Int) : ((ewN e h0 h1 h2 h3 v0 v1 v2 v3).gn = true ↔ e.gn = true ∨ ewE e h0 h1 h2 h3 v0 v1 v2 v3 = 21) ∧
    (ewE e h0 h1 h2 h3 v0 v1 v2 v3 ≠ 0 → (∀ j, (ewN e h0 h1 h2 h3 v0 v1 v2 v3).l j = e.l j ∧ (ewN e h0 h1 h2 h3 v0 v1 v2 v3).h j = e.h j) ∧ (ewN e h0 h1 h2 h3 v0 v1 v2 v3).tk = e.tk) ∧
    (ewE e h0 h1 h2 h3 v0 v1 v2 v3 = 0 → (ewN e h0 h1 h2 h3 v0 v1 v2 v3).tk = e.tk + 1) ∧ (e.gn = true → ewE e h0 h1 h2 h3 v0 v1 v2 v3 = 21) := by
  unfold ewE ewN
  simp only [Ew.gn_mk, Ew.l_mk, Ew.h_mk, Ew.tk_mk]
  obtain ⟨f1, f2⟩ := tk_facts e (rdB e.w h0 h1 h2 h3 v0 v1 v2 v3) (spL h0 e.w.s00 e.w.s01 e.w.s02 e.w.s03 v0) (spH h0 e.w.s00 e.w.s01 e.w.s02 e.w.s03 v0) (spL h1 e.w.s10 e.w.s11 e.w.s12 e.w.s13 v1) (spH h1 e.w.s10 e.w.s11 e.w.s12 e.w.s13 v1)
    (spL h2 e.w.s20 e.w.s21 e.w.s22 e.w.s23 v2) (spH h2 e.w.s20 e.w.s21 e.w.s22 e.w.s23 v2) (spL h3 e.w.s30 e.w.s31 e.w.s32 e.w.s33 v3) (spH h3 e.w.s30 e.w.s31 e.w.s32 e.w.s33 v3)
  refine ⟨f1, fun h => ?_, fun h => ?_, fun h => ?_⟩
  · rw [Ne, ← f2] at h
    unfold tkL tkH tkT
    simp only [if_neg h]
    refine ⟨?_, ?_⟩
    · first | exact fun _ => ⟨rfl, rfl⟩ | exact fun _ => ⟨trivial, trivial⟩
    · first | rfl | trivial
  · rw [← f2] at h
    unfold tkT
    rw [if_pos h]
  · unfold tkE
    rw [if_pos h]
@[irreducible] def fewX (w : Wt) : Bool := shtB w.cel && (decide (w.tn ≤ 50) && decide (w.bn ≤ 50))
theorem fewX_iff {w : Wt} : fewX w = true ↔ shtB w.cel = true ∧ w.tn ≤ 50 ∧ w.bn ≤ 50 := by unfold fewX; simp
noncomputable def SFd0 : Sums := ⟨Svd.one, Svd.two, Svd.lo, eqsW, Svd.its, Svd.imm⟩
theorem SFd0_ok : SumsOK Try.prog SFd0 := Svd_ok.setEqs eqsW_ok
def smdS : Spec [spansSh, spansSh] := ⟨fun (x, y, _) => x.1 ≤ maxLen ∧ x.1 = y.1 ∧ ∀ k : Nat, k < x.1 → (x.2 k).1 = (y.2 k).1 ∧ (x.2 k).2.1 = (y.2 k).2.1, fun _ => .sb true⟩
def smdI : DatL [spansSh, spansSh] → Anns := fun (x, y, _) => [(4, [], fun fr hp => ⟨Nat, fun g => ⟨frI [.k 5, .s (.si .i64 (icast g)), .k 5, .t 15] fr, hp⟩, Nat × Nat, fun g => (g, x.1), fun (g, n) => g ≤ n, fun g => nsub x.1 g⟩)]
set_option maxRecDepth 100000 in
theorem smd_ok : FnSpec Try.prog 12 _ smdS := by
  refine FnSpec.of SFd0_ok mixed (U := 0) (I := smdI) Try.func12 rfl (by kernel_rfl) rfl rfl (by decide +kernel) ?_
  rintro ⟨⟨n, el⟩, ⟨m, em⟩, ⟨⟩⟩ hpre
  obtain ⟨lo, hi, rfl⟩ : ∃ lo hi : Nat → Int, el = fun k => (lo k, hi k, ()) := ⟨fun k => (el k).1, fun k => (el k).2.1, rfl⟩
  obtain ⟨bl, bh, rfl⟩ : ∃ bl bh : Nat → Int, em = fun k => (bl k, bh k, ()) := ⟨fun k => (em k).1, fun k => (em k).2.1, rfl⟩
  obtain ⟨h0, h1, h2⟩ : n ≤ maxLen ∧ n = m ∧ ∀ k : Nat, k < n → lo k = bl k ∧ hi k = bh k := hpre
  unfold maxLen at h0
  unfold FnSat
  conv => arg 2; reduce
  simp [-Bool.forall_bool, smdS, and_assoc]
  subst h1
  exact ⟨rfl, fun _ => ⟨⟨0, rfl, by omega⟩, fun g hg hlt => ⟨hlt, hlt, (h2 g hlt).1, (h2 g hlt).2, fun _ _ => ⟨by omega, by omega, g + 1, by omega, by omega, by omega⟩⟩⟩⟩
noncomputable def SFd1 : Sums := ⟨(10, mkSum _ lstS) :: (9, mkSum _ tknS) :: (12, mkSum _ smdS) :: (7, mkSum _ wckS) :: (4, mkSum _ shtS) :: (5, mkSum _ tru3) :: SFd0.one, SFd0.two, SFd0.lo, SFd0.eqs, SFd0.its, SFd0.imm⟩
theorem SFd1_ok : SumsOK Try.prog SFd1 := ((((((SFd0_ok.cons Try.func5 (by kernel_rfl) (by kernel_rfl) works_ok).cons Try.func4 (by kernel_rfl) (by kernel_rfl) sht_ok).cons Try.func7 (by kernel_rfl) (by kernel_rfl) wck_ok).cons Try.func12 (by kernel_rfl) (by kernel_rfl) smd_ok).cons Try.func9 (by kernel_rfl) (by kernel_rfl) tkn_ok).cons Try.func10 (by kernel_rfl) (by kernel_rfl) lst_ok)
noncomputable def SFd2 : Sums := ⟨(6, mkSum _ nwS) :: SFd1.one, SFd1.two, SFd1.lo, SFd1.eqs, SFd1.its, SFd1.imm⟩
theorem SFd2_ok : SumsOK Try.prog SFd2 := (SFd1_ok.cons Try.func6 (by kernel_rfl) (by kernel_rfl) nw_ok)
noncomputable def SFd3 : Sums := ⟨(8, mkSumN _ bxN) :: (6, mkSumN _ nwN) :: SFd1.one, SFd1.two, SFd1.lo, SFd1.eqs, SFd1.its, SFd1.imm⟩
theorem SFd3_ok : SumsOK Try.prog SFd3 := ((SFd1_ok.add Try.func6 (by kernel_rfl) (by kernel_rfl) (mkSumN_ok nwN_ok)).add Try.func8 (by kernel_rfl) (by kernel_rfl) (mkSumN_ok bxN_ok))
noncomputable def SFd : Sums := ⟨SFd3.one, (11, mkSumG _ _ tkwF) :: SFd3.two, SFd3.lo, SFd3.eqs, SFd3.its, SFd3.imm⟩
theorem SFd_ok : SumsOK Try.prog SFd := SFd3_ok.addTwo Try.func11 (by kernel_rfl) (by kernel_rfl) (mkSumG_ok tkw_ok)
@[reducible] def rdgsSh : Sh := .slice 8 [.bool, .bool, .bool, .bool, .int .i64, .int .i64, .int .i64, .int .i64]
@[reducible] def fdSh : List Sh := [wchSh, rdgsSh]
def fdA : Spec fdSh := ⟨fun x => ValidL fdSh x ∧ ¬ (fewX (wtOf x.1) = true ∧ wcB (wtOf x.1) = true), fun _ => .sb true⟩
def fdB : Spec fdSh := ⟨fun x => ValidL fdSh x ∧ fewX (wtOf x.1) = true ∧ wcB (wtOf x.1) = true, fun _ => .sb true⟩
set_option maxRecDepth 100000 in
set_option maxHeartbeats 4000000 in
theorem fdA_ok : FnSpec Try.prog 3 _ fdA := by
  refine FnSpec.of SFd2_ok mixed (U := 0) (I := fun _ => []) Try.func3 rfl (by kernel_rfl) rfl rfl (by decide +kernel) ?_
  rintro ⟨x, ⟨n, el⟩, ⟨⟩⟩ hpre
  obtain ⟨w, rfl⟩ := wt_ex x
  have hpre : ¬ (fewX w = true ∧ wcB w = true) := by have := hpre.2; rwa [wtOf_D] at this
  unfold FnSat
  conv => arg 2; reduce
  simp [-Bool.forall_bool, fdA, tru3, shtS, wckS, nwS, and_assoc]
  intro h1 h2 h3
  have hm := shtB_max h1
  have ht : w.tn ≤ maxLen := by unfold maxLen; omega
  have hw : wcB w = false := by
    cases hw : wcB w with
    | false => rfl
    | true => exact absurd ⟨fewX_iff.2 ⟨h1, by omega, by omega⟩, hw⟩ hpre
  refine ⟨hm, ht, hw, hm, ht, ?_⟩
  rw [hw]
  simp [errA]
theorem ew_init {w : Wt} (hm : CelMax w.cel) (h : wcB w = true) : EwOK ⟨w, w.bn, w.bl, w.bh, 0, false⟩ := by
  refine ⟨?_, ?_, ?_, ?_, ?_⟩
  · rw [Ew.w_mk]; exact hm
  · rw [Ew.w_mk]; exact h
  · rw [Ew.w_mk, Ew.n_mk, Ew.l_mk, Ew.h_mk]; exact chk_iff.1 (wcB_iff.1 h).1
  · rw [Ew.tk_mk]; decide
  · rw [Ew.tk_mk]; decide
theorem ew_eta (e : Ew) : (⟨e.w, e.n, e.l, e.h, e.tk, e.gn⟩ : Ew) = e := by unfold Ew.w Ew.n Ew.l Ew.h Ew.tk Ew.gn; rfl
theorem ew_up (w : Wt) (n : Nat) (L H : Nat → Int) (tk : Int) (gn : Bool) : ewOf (w.cel.cap, (w.cel.ocv.nx, fun k => (w.cel.ocv.x k, ())), (w.cel.ocv.ny, fun k => (w.cel.ocv.y k, ())), w.cel.shift, (w.cel.cold.nx, fun k => (w.cel.cold.x k, ())), (w.cel.cold.ny, fun k => (w.cel.cold.y k, ())), w.cel.extra, w.cel.pair, w.cel.keep, w.cel.leak, w.cel.hcap, w.cel.cool, (w.cel.stress.nx, fun k => (w.cel.stress.x k, ())), (w.cel.stress.ny, fun k => (w.cel.stress.y k, ())), w.cel.cyc, w.cel.agel, w.cel.grow, (w.tn, fun k => (w.tl k, w.th k, ())), (w.bn, fun k => (w.bl k, w.bh k, ())), w.s00, w.s01, w.s02, w.s03, w.s10, w.s11, w.s12, w.s13, w.s20, w.s21, w.s22, w.s23, w.s30, w.s31, w.s32, w.s33, w.dly, w.cl, w.ch, w.al, w.ah, (n, fun k => (L k, H k, ())), tk, gn, ()) = ⟨w, n, L, H, tk, gn⟩ := by
  have := ewOf_mk ⟨w, n, L, H, tk, gn⟩
  simpa only [Ew.w_mk, Ew.n_mk, Ew.l_mk, Ew.h_mk, Ew.tk_mk, Ew.gn_mk] using this
def FInv (n g : Nat) (e : Ew) : Prop := g ≤ n ∧ g ≤ 12 ∧ EwOK e ∧ e.tk ≤ g
attribute [irreducible] FInv
theorem fInv_iff {n g : Nat} {e : Ew} : FInv n g e ↔ g ≤ n ∧ g ≤ 12 ∧ EwOK e ∧ e.tk ≤ g := by unfold FInv; exact Iff.rfl
def fdI : DatL fdSh → Anns := fun (_, (n, _), _) => [
  (7, [], fun fr hp => ⟨Nat × Ew, fun (g, e) => ⟨frI [.k 7, .s (.si .i64 (icast g)), .t 99] fr, setB hp 2 (.cells 60 (.sb true :: ewCs e.w e.n e.l e.h e.tk e.gn))⟩,
    Nat × Nat × Ew, fun (g, e) => (n, g, e), fun (n, g, e) => FInv n g e, fun (g, _) => nsub n g⟩)]
set_option maxRecDepth 100000 in
set_option maxRecDepth 100000 in
set_option maxHeartbeats 8000000 in
theorem fdB_ok : FnSpec Try.prog 3 _ fdB := by
  refine FnSpec.of SFd_ok mixed (U := 0) (I := fdI) Try.func3 rfl (by kernel_rfl) rfl rfl (by decide +kernel) ?_
  rintro ⟨x, ⟨n, el⟩, ⟨⟩⟩ hpre
  obtain ⟨w, rfl⟩ := wt_ex x
  have hpre' : fewX w = true ∧ wcB w = true := by have := hpre.2; rwa [wtOf_D] at this
  unfold FnSat
  conv => arg 2; reduce
  simp [-Bool.forall_bool, fdB, tru3, shtS, wckS, nwN, bxN, smdS, tknS, lstS, tkwF, ew_up, and_assoc]
  intro hsh ht hb
  have hm := shtB_max hsh
  have htl : w.tn ≤ maxLen := by unfold maxLen; omega
  refine ⟨hm, htl, hpre'.2, ⟨0, rfl, ⟨w, w.bn, w.bl, w.bh, 0, false⟩, ?_⟩, fun g e hinv h1 h2 => ?_⟩
  · simp only [Ew.w_mk, Ew.n_mk, Ew.l_mk, Ew.h_mk, Ew.tk_mk, Ew.gn_mk]
    simp
    exact fInv_iff.2 ⟨by omega, by omega, ew_init hm hpre'.2, by rw [Ew.tk_mk]; decide⟩
  obtain ⟨hg, hg12, hk, htk⟩ := fInv_iff.1 hinv
  have h5 := ew_five hk
  have t0 := hk.tk0
  obtain ⟨k1, k2⟩ := ewN_ok hk (by omega) (el g).1 (el g).2.1 (el g).2.2.1 (el g).2.2.2.1 (el g).2.2.2.2.1 (el g).2.2.2.2.2.1 (el g).2.2.2.2.2.2.1 (el g).2.2.2.2.2.2.2.1
  obtain ⟨f1, f2, f3, f4⟩ := ew_facts e (el g).1 (el g).2.1 (el g).2.2.1 (el g).2.2.2.1 (el g).2.2.2.2.1 (el g).2.2.2.2.2.1 (el g).2.2.2.2.2.2.1 (el g).2.2.2.2.2.2.2.1
  have nw := ewN_w e (el g).1 (el g).2.1 (el g).2.2.1 (el g).2.2.2.1 (el g).2.2.2.2.1 (el g).2.2.2.2.2.1 (el g).2.2.2.2.2.2.1 (el g).2.2.2.2.2.2.2.1
  have nn := ewN_n e (el g).1 (el g).2.1 (el g).2.2.1 (el g).2.2.2.1 (el g).2.2.2.2.1 (el g).2.2.2.2.2.1 (el g).2.2.2.2.2.2.1 (el g).2.2.2.2.2.2.2.1
  clear hpre hpre'
  simp only [ew_eta e]
  generalize ewE e (el g).1 (el g).2.1 (el g).2.2.1 (el g).2.2.2.1 (el g).2.2.2.2.1 (el g).2.2.2.2.2.1 (el g).2.2.2.2.2.2.1 (el g).2.2.2.2.2.2.2.1 = E at *
  generalize ewN e (el g).1 (el g).2.1 (el g).2.2.1 (el g).2.2.2.1 (el g).2.2.2.2.1 (el g).2.2.2.2.2.1 (el g).2.2.2.2.2.2.1 (el g).2.2.2.2.2.2.2.1 = N at *
  have D : N.gn = (e.gn || E == 21) := by
    rw [Bool.eq_iff_iff, f1]
    simp
  refine ⟨by omega, by omega, fun k _ => rfl, h1, hk, fun a b => ⟨a, b⟩, fun a => ?_, f4, D, fun _ _ => ⟨fun _ => ⟨by omega, by omega⟩, fun _ k _ => rfl, fun h => ⟨by unfold maxLen; omega, fun k _ => (f2 h).1 k⟩,
    fun _ _ => ⟨by omega, by omega⟩, fun a b => ⟨a, b⟩, fun h => ?_, fun h => (f2 h).2, f3, fun _ _ => ⟨by omega, by omega, g + 1, by omega, N, ?_⟩⟩⟩
  · cases hc : e.gn with
    | false => exact Or.inl rfl
    | true => exact Or.inr (a hc)
  · by_cases hc : E = 0
    · exact Or.inl hc
    · exact Or.inr (h hc)
  · simp only [nw, nn, eq_self, true_and, and_self, implies_true]
    exact ⟨fInv_iff.2 ⟨by omega, by omega, k1, by omega⟩, by omega⟩
theorem estimateFinds_law : LawFn Try.prog 3 fdSh := fun x hv => by
  by_cases h : fewX (wtOf x.1) = true ∧ wcB (wtOf x.1) = true
  · exact fdB_ok x ⟨hv, h⟩
  · exact fdA_ok x ⟨hv, h⟩
end
end Abs
open Go.ChangeShapes Go.WideShapes Go.ChangeAt Go.RowKit
set_option maxRecDepth 100000 in
theorem estimateFinds_lifted (os : Os) (started : os.Started) (H : Type) (enc : TypeId × Value → H) :
    ReturnsInHanded {} Try.checked os 3 .any (Rows.estimateFindsSpec.pre6 enc Try.prog Try.f3 Rows.estimateFindsRow.domain false) (Rows.estimateFindsSpec.post enc Try.prog Try.f3 false true false false) := by
  refine returnsInHanded_of_change (C := Try.checked) (show ownKnob Try.prog.godebug = none by kernel_rfl) started (by kernel_rfl) Try.func3
    (ChangeSpec.witness6 (enc := enc) (C := Try.checked) false ⟨#[], #[.agg #[.int .i64 0, .slice none 0 0, .slice none 0 0, .int .i64 0, .slice none 0 0, .slice none 0 0, .int .i64 0, .int .i64 0, .int .i64 0, .int .i64 0, .int .i64 0, .int .i64 0, .slice none 0 0, .slice none 0 0, .int .i64 0, .int .i64 0, .int .i64 0, .slice none 0 0, .slice none 0 0, .int .i64 0, .int .i64 0, .int .i64 0, .int .i64 0, .int .i64 0, .int .i64 0, .int .i64 0, .int .i64 0, .int .i64 0, .int .i64 0, .int .i64 0, .int .i64 0, .int .i64 0, .int .i64 0, .int .i64 0, .int .i64 0, .int .i64 0, .int .i64 0, .int .i64 0, .int .i64 0, .int .i64 0], .slice none 0 0], []⟩ 8 (by kernel_rfl) (by kernel_rfl) (by kernel_rfl) (by kernel_rfl)) ?_
  intro W base args ds gs before hval0 hW hcnd _
  have hW0 := hW
  obtain ⟨p, q, hA, hV, rfl, hfz, hnd⟩ := hW0
  refine (Abs.law_calls (enc' := enc) Abs.estimateFinds_law (fn := Try.f3) (d := 5) (by kernel_rfl) hA hval0).mono fun e W' hh => ?_
  obtain ⟨he, hb⟩ := hh
  subst he
  exact ⟨_, rfl, Abs.law_post (s := Rows.estimateFindsSpec) (f := Try.f3) (by kernel_rfl) rfl (by kernel_rfl) (by kernel_rfl) rfl 2 (by kernel_rfl) (fun ds hl => by
    rcases ds with _ | ⟨d0, _ | ⟨d1, _ | ⟨d2, _⟩⟩⟩
    all_goals first | exact ⟨rfl, rfl, rfl⟩ | (exfalso; simp only [List.length_cons, List.length_nil] at hl; omega)) hW hb⟩
theorem estimateFinds_holds : Rows.EstimateFindsSaid :=
  OpenClaim.holds_of_wide 3 Try.f3 rfl rfl rfl rfl rfl rfl rfl ⟨rfl, rfl, rfl, rfl, rfl⟩ rfl rfl rfl rfl rfl (by kernel_rfl) Try.func3 (by kernel_rfl)
    (of_decide_eq_true (by kernel_rfl)) (by unfold Func.isWrapper; first | (rw [if_pos (by decide +kernel)]; kernel_rfl) | (rw [if_neg (by decide +kernel)]; exact ⟨rfl, rfl⟩))
    (fun os started H enc _ => estimateFinds_lifted os started H enc)
end Go.Proofs.Ytlabbaglbcmofaa

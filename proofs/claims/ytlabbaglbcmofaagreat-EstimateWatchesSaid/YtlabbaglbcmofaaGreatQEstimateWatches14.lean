/- A watcher is behind each reading as the document says: its box, what it has of now, of the fill, the health and the power; a copy goes on alike, and apart; no condition. -/
import Derived.Test.YtlabbaglbcmofaaGreatQGe1198378
import Derived.Test.YtlabbaglbcmofaaGreatRows
set_option linter.unusedSimpArgs false
set_option linter.unusedVariables false
namespace Go.Proofs.YtlabbaglbcmofaaGreat
namespace Abs
open Go Go.RowKit
noncomputable section
attribute [local irreducible] FnSat
noncomputable def SWm : Sums := ⟨(10, mkSum _ wckS) :: (9, mkSum _ wckS) :: (7, mkSum _ shtS) :: (8, mkSum _ tru3) :: SWl0.one, SWl0.two, SWl0.lo, SWl0.eqs, SWl0.its, SWl0.imm⟩
theorem SWm_ok : SumsOK Tryz.prog SWm := ((((SWl0_ok.cons Tryz.func8 (by kernel_rfl) (by kernel_rfl) works_ok).cons Tryz.func7 (by kernel_rfl) (by kernel_rfl) sht_ok).cons Tryz.func9 (by kernel_rfl) (by kernel_rfl) wck_ok).cons Tryz.func10 (by kernel_rfl) (by kernel_rfl) rwck_ok)
noncomputable def SWn : Sums := ⟨(12, mkSum _ nwS) :: (11, mkSum _ nwS) :: SWm.one, SWm.two, SWm.lo, SWm.eqs, SWm.its, SWm.imm⟩
theorem SWn_ok : SumsOK Tryz.prog SWn := ((SWm_ok.cons Tryz.func11 (by kernel_rfl) (by kernel_rfl) nw_ok).cons Tryz.func12 (by kernel_rfl) (by kernel_rfl) rnw_ok)
noncomputable def SWo : Sums := ⟨(19, mkSum _ smbS) :: (17, mkSum _ alkS) :: (18, mkSumN _ bxN) :: (12, mkSumN _ rnwN) :: (11, mkSumN _ nwN) :: SWm.one, SWm.two, SWm.lo, SWm.eqs, SWm.its, SWm.imm⟩
theorem SWo_ok : SumsOK Tryz.prog SWo := (((((SWm_ok.add Tryz.func11 (by kernel_rfl) (by kernel_rfl) (mkSumN_ok nwN_ok)).add Tryz.func12 (by kernel_rfl) (by kernel_rfl) (mkSumN_ok rnwN_ok)).add Tryz.func18 (by kernel_rfl) (by kernel_rfl) (mkSumN_ok bxN_ok)).cons Tryz.func17 (by kernel_rfl) (by kernel_rfl) alk_ok).cons Tryz.func19 (by kernel_rfl) (by kernel_rfl) smb_ok)
noncomputable def SWp : Sums := ⟨SWo.one, (15, mkSumG _ _ rwcF) :: (13, mkSumG _ _ wcpF) :: (16, mkSumG _ _ rtkF) :: (14, mkSumG _ _ tkwF) :: SWo.two, SWo.lo, SWo.eqs, SWo.its, SWo.imm⟩
theorem SWp_ok : SumsOK Tryz.prog SWp :=
 (((SWo_ok.addTwo Tryz.func14 (by kernel_rfl) (by kernel_rfl) (mkSumG_ok tkw_ok)).addTwo Tryz.func16 (by kernel_rfl) (by kernel_rfl) (mkSumG_ok rtk_ok)).addTwo Tryz.func13 (by kernel_rfl) (by kernel_rfl) (mkSumG_ok wcp_ok)).addTwo Tryz.func15 (by kernel_rfl) (by kernel_rfl) (mkSumG_ok rwc_ok)
@[reducible] def asksSh : Sh := .slice 13 [.bool, .bool, .bool, .bool, .int .i64, .int .i64, .int .i64, .int .i64, .int .i64, .int .i64, .int .i64, .int .i64, .int .i64]
@[reducible] def wlwSh : List Sh := [wchSh, asksSh, .int .u8]
@[irreducible] def fewW (w : Wt) : Bool := shtB w.cel && (decide (w.tn <= 50) && decide (w.bn <= 50))
def wlA : Spec wlwSh := ⟨fun x => ValidL wlwSh x /\ ¬ (fewW (wtOf x.1) = true /\ wcB (wtOf x.1) = true), fun _ => .sb true⟩
def wlB : Spec wlwSh := ⟨fun x => ValidL wlwSh x /\ fewW (wtOf x.1) = true /\ wcB (wtOf x.1) = true, fun _ => .sb true⟩
theorem fewW_iff {w : Wt} : fewW w = true ↔ shtB w.cel = true /\ w.tn <= 50 /\ w.bn <= 50 := by unfold fewW; simp
set_option maxRecDepth 100000 in
set_option maxHeartbeats 4000000 in
theorem wlA_ok : FnSpec Tryz.prog 3 _ wlA := by
 refine FnSpec.of SWn_ok mixed (U := 0) (I := fun _ => []) Tryz.func3 rfl (by kernel_rfl) rfl rfl (by decide +kernel) ?_
 rintro ⟨x, ⟨n, el⟩, (at' : Int), ⟨⟩⟩ hpre
 obtain ⟨w, rfl⟩ := wt_ex x
 have hpre : ¬ (fewW w = true /\ wcB w = true) := by have := hpre.2; rwa [wtOf_D] at this
 unfold FnSat
 conv => arg 2; reduce
 simp [-Bool.forall_bool, wlA, tru3, shtS, wckS, nwS, and_assoc]
 intro h1 h2 h3
 have hm := shtB_max h1
 have ht : w.tn <= maxLen := by unfold maxLen; omega
 refine ⟨hm, ht, hm, ht, hm, ht, ?_⟩
 cases hw : wcB w with
 | false => rfl
 | true => exact absurd ⟨fewW_iff.2 ⟨h1, by omega, by omega⟩, hw⟩ hpre
theorem ew_init {w : Wt} (hm : CelMax w.cel) (h : wcB w = true) : EwOK ⟨w, w.bn, w.bl, w.bh, 0, false⟩ := by
 refine ⟨?_, ?_, ?_, ?_, ?_⟩
 ·rw [Ew.w_mk]; exact hm
 ·rw [Ew.w_mk]; exact h
 ·rw [Ew.w_mk, Ew.n_mk, Ew.l_mk, Ew.h_mk]; exact chk_iff.1 (wcB_iff.1 h).1
 ·rw [Ew.tk_mk]; decide
 ·rw [Ew.tk_mk]; decide
theorem ew_eta (e : Ew) : (⟨e.w, e.n, e.l, e.h, e.tk, e.gn⟩ : Ew) = e := by unfold Ew.w Ew.n Ew.l Ew.h Ew.tk Ew.gn; rfl
theorem ew_up (w : Wt) (n : Nat) (L H : Nat -> Int) (tk : Int) (gn : Bool) : ewOf (w.cel.cap, (w.cel.ocv.nx, fun k => (w.cel.ocv.x k, ())), (w.cel.ocv.ny, fun k => (w.cel.ocv.y k, ())), w.cel.shift, (w.cel.cold.nx, fun k => (w.cel.cold.x k, ())), (w.cel.cold.ny, fun k => (w.cel.cold.y k, ())), w.cel.extra, w.cel.pair, w.cel.keep, w.cel.leak, w.cel.hcap, w.cel.cool, (w.cel.stress.nx, fun k => (w.cel.stress.x k, ())), (w.cel.stress.ny, fun k => (w.cel.stress.y k, ())), w.cel.cyc, w.cel.agel, w.cel.grow, (w.tn, fun k => (w.tl k, w.th k, ())), (w.bn, fun k => (w.bl k, w.bh k, ())), w.s00, w.s01, w.s02, w.s03, w.s10, w.s11, w.s12, w.s13, w.s20, w.s21, w.s22, w.s23, w.s30, w.s31, w.s32, w.s33, w.dly, w.cl, w.ch, w.al, w.ah, (n, fun k => (L k, H k, ())), tk, gn, ()) = ⟨w, n, L, H, tk, gn⟩ := by
 have := ewOf_mk ⟨w, n, L, H, tk, gn⟩
 simpa only [Ew.w_mk, Ew.n_mk, Ew.l_mk, Ew.h_mk, Ew.tk_mk, Ew.gn_mk] using this
def WInv (n g : Nat) (e : Ew) : Prop := g <= n /\ g <= 20 /\ EwOK e /\ e.tk <= g
attribute [irreducible] WInv
theorem wInv_iff {n g : Nat} {e : Ew} : WInv n g e ↔ g <= n /\ g <= 20 /\ EwOK e /\ e.tk <= g := by unfold WInv; exact Iff.rfl
@[irreducible] def zbV (g : Nat) (f : Nat -> Int) (k : Nat) : Int := if k < g then 0 else f k
def rowTo (hp : Heap) (i : Nat) (f : Nat -> List AV) : Heap := match getB hp i with
 | .row e sz n _ => setB hp i (.row e sz n f)
 | _ => hp
def wlI : DatL wlwSh -> Anns := fun (x, (n, _), _) => [
 (12, [], fun fr hp => ⟨Nat × Ew, fun (g, e) => ⟨frI [.k 11, .s (.si .i64 (icast g)), .t 144] fr, setB (setB hp 2 (.cells 114 (.sb true :: ewCs e.w e.n e.l e.h e.tk e.gn))) 4 (.cells 61 (ewCs e.w e.n e.l e.h e.tk e.gn))⟩,
  Nat × Nat × Ew, fun (g, e) => (n, g, e), fun (n, g, e) => WInv n g e, fun (g, _) => nsub n g⟩),
 (22, [], fun fr hp => ⟨Nat × (Nat -> Int) × (Nat -> Int), fun (g, L, H) => ⟨frI [.k 14, .s (.si .i64 (icast g)), .t 141] fr, rowTo hp 5 (fun k => [.si .i64 (L k), .si .i64 (H k)])⟩, Nat, fun (g, _) => g, fun g => g <= 5, fun (g, _) => nsub 5 g⟩)]
set_option maxRecDepth 100000 in
set_option maxRecDepth 100000 in
set_option maxHeartbeats 8000000 in
theorem wlB_ok : FnSpec Tryz.prog 3 _ wlB := by
 refine FnSpec.of SWp_ok mixed (U := 0) (I := wlI) Tryz.func3 rfl (by kernel_rfl) rfl rfl (by decide +kernel) ?_
 rintro ⟨x, ⟨n, el⟩, (at' : Int), ⟨⟩⟩ hpre
 obtain ⟨w, rfl⟩ := wt_ex x
 have hpre' : fewW w = true /\ wcB w = true := by have := hpre.2; rwa [wtOf_D] at this
 unfold FnSat
 conv => arg 2; reduce
 simp [-Bool.forall_bool, wlB, tru3, shtS, wckS, nwN, rnwN, bxN, alkS, smbS, ew_up, and_assoc]
 intro hsh ht hb
 have hm := shtB_max hsh
 have htl : w.tn <= maxLen := by unfold maxLen; omega
 refine ⟨hm, htl, hm, htl, hm, htl, hpre'.2, hm, htl, hpre'.2, ⟨0, rfl, ⟨w, w.bn, w.bl, w.bh, 0, false⟩, ?_⟩, fun g e hinv => ?_⟩
 ·simp only [Ew.w_mk, Ew.n_mk, Ew.l_mk, Ew.h_mk, Ew.tk_mk, Ew.gn_mk]
  simp
  exact wInv_iff.2 ⟨by omega, by omega, ew_init hm hpre'.2, by rw [Ew.tk_mk]; decide⟩
 have hat : InR .u8 at' := hpre.1.2.2.1
 simp [InR, IntKind.min, IntKind.max, IntKind.signed, IntKind.bits] at hat
 clear hpre hpre'
 obtain ⟨hg, hg20, hk, htk⟩ := wInv_iff.1 hinv
 have h5 := ew_five hk
 have P1 : wcpF.pre ((true, ewD e), PUnit.unit) (PUnit.unit, PUnit.unit) := by
  show true = true /\ (ewOf (ewD e)).n <= 1048576
  rw [ewOf_D]
  exact ⟨rfl, by omega⟩
 have P2 : ∀ (b0 b1 b2 b3 : Bool) (u0 u1 u2 u3 : Int), tkwF.pre ((true, ewD e), PUnit.unit) (PUnit.unit, (b0, b1, b2, b3, u0, u1, u2, u3, PUnit.unit), PUnit.unit) := by
  intros
  show true = true /\ EwOK (ewOf (ewD e))
  rw [ewOf_D]
  exact ⟨rfl, hk⟩
 have P3 : rwcF.pre (ewD e, PUnit.unit) (PUnit.unit, PUnit.unit) := trivial
 have P4 : ∀ (b0 b1 b2 b3 : Bool) (u0 u1 u2 u3 : Int), rtkF.pre (ewD e, PUnit.unit) (PUnit.unit, (b0, b1, b2, b3, u0, u1, u2, u3, PUnit.unit), PUnit.unit) := by
  intros
  show EwOK (ewOf (ewD e))
  rw [ewOf_D]
  exact hk
 have nx : ∀ (b0 b1 b2 b3 : Bool) (u0 u1 u2 u3 : Int), g < n -> (g : Int) < 20 -> WInv n (g + 1) (ewN e b0 b1 b2 b3 u0 u1 u2 u3) := fun b0 b1 b2 b3 u0 u1 u2 u3 h1 h2 => by
  obtain ⟨k1, k2⟩ := ewN_ok hk (by omega) b0 b1 b2 b3 u0 u1 u2 u3
  exact wInv_iff.2 ⟨by omega, by omega, k1, by omega⟩
 have NE : ∀ (b0 b1 b2 b3 : Bool) (u0 u1 u2 u3 : Int), EwOK ⟨e.w, e.n, fun k => (ewN e b0 b1 b2 b3 u0 u1 u2 u3).l k, fun k => (ewN e b0 b1 b2 b3 u0 u1 u2 u3).h k, (ewN e b0 b1 b2 b3 u0 u1 u2 u3).tk, (ewN e b0 b1 b2 b3 u0 u1 u2 u3).gn⟩ := fun b0 b1 b2 b3 u0 u1 u2 u3 => by
  have k1 := (ewN_ok hk (by omega) b0 b1 b2 b3 u0 u1 u2 u3).1
  have e1 := ew_eta (ewN e b0 b1 b2 b3 u0 u1 u2 u3)
  rw [ewN_w, ewN_n] at e1
  show EwOK ⟨e.w, e.n, (ewN e b0 b1 b2 b3 u0 u1 u2 u3).l, (ewN e b0 b1 b2 b3 u0 u1 u2 u3).h, (ewN e b0 b1 b2 b3 u0 u1 u2 u3).tk, (ewN e b0 b1 b2 b3 u0 u1 u2 u3).gn⟩
  rw [e1]
  exact k1
 simp only [ew_eta e]
 refine ⟨fun h1 h2 => ⟨by omega, by omega, fun _ => ⟨P1, h1, P2 _ _ _ _ _ _ _ _, P3, P4 _ _ _ _ _ _ _ _, h1, hk, h1, P2 _ _ _ _ _ _ _ _, P4 _ _ _ _ _ _ _ _, h1, NE _ _ _ _ _ _ _ _, by omega, by omega, g + 1, by omega, ewN e (el g).1 (el g).2.1 (el g).2.2.1 (el g).2.2.2.1 (el g).2.2.2.2.1 (el g).2.2.2.2.2.1 (el g).2.2.2.2.2.2.1 (el g).2.2.2.2.2.2.2.1, ?_⟩,
  fun _ => ⟨h1, P2 _ _ _ _ _ _ _ _, P4 _ _ _ _ _ _ _ _, h1, NE _ _ _ _ _ _ _ _, by omega, by omega, g + 1, by omega, ewN e (el g).1 (el g).2.1 (el g).2.2.1 (el g).2.2.2.1 (el g).2.2.2.2.1 (el g).2.2.2.2.2.1 (el g).2.2.2.2.2.2.1 (el g).2.2.2.2.2.2.2.1, ?_⟩⟩, fun hx => ?_⟩
 ·simp only [ewN_w, ewN_n, eq_self, true_and, and_self, implies_true]
  exact ⟨nx _ _ _ _ _ _ _ _ h1 h2, by omega⟩
 ·simp only [ewN_w, ewN_n, eq_self, true_and, and_self, implies_true]
  exact ⟨nx _ _ _ _ _ _ _ _ h1 h2, by omega⟩
 ·refine ⟨by omega, by omega, fun k _ => rfl, ⟨0, rfl, ⟨e.l, e.h, fun j _ => ⟨rfl, rfl⟩⟩, by omega⟩, fun a L H ha => ⟨fun hlt => ⟨hlt, by omega, by omega, a + 1, by omega, ⟨fun j => if j = a then 0 else L j, fun j => if j = a then 0 else H j, fun j _ => ⟨rfl, rfl⟩⟩, by omega, by omega⟩, fun _ => ⟨by omega, by omega, fun k _ => rfl, by rw [h5]; unfold maxLen; omega⟩⟩⟩
theorem estimateWatches_law : LawFn Tryz.prog 3 wlwSh := fun x hv => by
 by_cases h : fewW (wtOf x.1) = true /\ wcB (wtOf x.1) = true
 ·exact wlB_ok x ⟨hv, h⟩
 ·exact wlA_ok x ⟨hv, h⟩
end
end Abs
open Go.ChangeShapes Go.WideShapes Go.ChangeAt Go.RowKit
set_option maxRecDepth 100000 in
theorem estimateWatches_lifted (os : Os) (started : os.Started) (H : Type) (enc : TypeId × Value -> H) :
  ReturnsInHanded {} Tryz.checked os 3 .any (Rows.estimateWatchesSpec.pre6 enc Tryz.prog Tryz.f3 Rows.estimateWatchesRow.domain false) (Rows.estimateWatchesSpec.post enc Tryz.prog Tryz.f3 false true false false) := by
 refine returnsInHanded_of_change (C := Tryz.checked) (show ownKnob Tryz.prog.godebug = none by kernel_rfl) started (by kernel_rfl) Tryz.func3
  (ChangeSpec.witness6 (enc := enc) (C := Tryz.checked) false ⟨#[], #[.agg #[.int .i64 0, .slice none 0 0, .slice none 0 0, .int .i64 0, .slice none 0 0, .slice none 0 0, .int .i64 0, .int .i64 0, .int .i64 0, .int .i64 0, .int .i64 0, .int .i64 0, .slice none 0 0, .slice none 0 0, .int .i64 0, .int .i64 0, .int .i64 0, .slice none 0 0, .slice none 0 0, .int .i64 0, .int .i64 0, .int .i64 0, .int .i64 0, .int .i64 0, .int .i64 0, .int .i64 0, .int .i64 0, .int .i64 0, .int .i64 0, .int .i64 0, .int .i64 0, .int .i64 0, .int .i64 0, .int .i64 0, .int .i64 0, .int .i64 0, .int .i64 0, .int .i64 0, .int .i64 0, .int .i64 0], .slice none 0 0, .int .u8 0], []⟩ 8 (by kernel_rfl) (by kernel_rfl) (by kernel_rfl) (by kernel_rfl)) ?_
 intro W base args ds gs before hval0 hW hcnd _
 have hW0 := hW
 obtain ⟨p, q, hA, hV, rfl, hfz, hnd⟩ := hW0
 refine (Abs.law_calls (enc' := enc) Abs.estimateWatches_law (fn := Tryz.f3) (d := 5) (by kernel_rfl) hA hval0).mono fun e W' hh => ?_
 obtain ⟨he, hb⟩ := hh
 subst he
 exact ⟨_, rfl, Abs.law_post (s := Rows.estimateWatchesSpec) (f := Tryz.f3) (by kernel_rfl) rfl (by kernel_rfl) (by kernel_rfl) rfl 3 (by kernel_rfl) (fun ds hl => by
  rcases ds with _ | ⟨d0, _ | ⟨d1, _ | ⟨d2, _ | ⟨d3, _⟩⟩⟩⟩
  all_goals first | exact ⟨rfl, rfl, rfl⟩ | (exfalso; simp only [List.length_cons, List.length_nil] at hl; omega)) hW hb⟩
theorem estimateWatches_holds : Rows.EstimateWatchesSaid :=
 OpenClaim.holds_of_wide 3 Tryz.f3 rfl rfl rfl rfl rfl rfl rfl ⟨rfl, rfl, rfl, rfl, rfl⟩ rfl rfl rfl rfl rfl (by kernel_rfl) Tryz.func3 (by kernel_rfl)
  (of_decide_eq_true (by kernel_rfl)) (by unfold Func.isWrapper; first | (rw [if_pos (by decide +kernel)]; kernel_rfl) | (rw [if_neg (by decide +kernel)]; exact ⟨rfl, rfl⟩))
  (fun os started H enc _ => estimateWatches_lifted os started H enc)
end Go.Proofs.YtlabbaglbcmofaaGreat

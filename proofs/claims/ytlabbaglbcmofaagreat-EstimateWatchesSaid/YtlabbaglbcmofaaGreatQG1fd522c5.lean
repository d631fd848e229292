/- A part of the proof: no statement of its own. -/
import Derived.Test.YtlabbaglbcmofaaGreatQG085e5f5b
set_option linter.unusedSimpArgs false
set_option linter.unusedVariables false
namespace Go.Proofs.YtlabbaglbcmofaaGreat
namespace Abs
open Go Go.RowKit
noncomputable section
attribute [local irreducible] FnSat
def bxS : Spec [.ptr ewCells] := ⟨fun ((m, x), _) => m = true /\ (ewOf x).n <= 1048576, fun ((_, x), _) => .slc (.sym (ewOf x).n) 2 (fun k => [.si .i64 ((ewOf x).l k), .si .i64 ((ewOf x).h k)])⟩
set_option maxRecDepth 100000 in
theorem bx_ok : FnSpec Tryz.prog 18 _ bxS := by
 refine FnSpec.of Svd_ok mixed (U := 0) (I := fun _ => []) Tryz.func18 rfl (by kernel_rfl) rfl rfl (by decide +kernel) ?_
 rintro ⟨⟨m, x⟩, ⟨⟩⟩ hpre
 obtain ⟨e, rfl⟩ := ew_ex x
 have hpre : m = true /\ e.n <= 1048576 := by have : m = true /\ (ewOf (ewD e)).n <= 1048576 := hpre; rwa [ewOf_D] at this
 obtain ⟨rfl, h2⟩ := hpre
 unfold FnSat
 conv => arg 2; reduce
 simp [bxS, valW, cspS, h2, ElEq, getB, goneB, aliveB, VC.sat, and_assoc]
noncomputable def SWl0 : Sums := ⟨SWf.one, SWf.two, SWf.lo, eqsW, SWf.its, SWf.imm⟩
theorem SWl0_ok : SumsOK Tryz.prog SWl0 := SWf_ok.setEqs eqsW_ok
def smbS : Spec [spansSh, spansSh] := ⟨fun (x, y, _) => x.1 <= maxLen /\ x.1 = y.1 /\ ∀ k : Nat, k < x.1 -> (x.2 k).1 = (y.2 k).1 /\ (x.2 k).2.1 = (y.2 k).2.1, fun _ => .sb true⟩
def smbI : DatL [spansSh, spansSh] -> Anns := fun (x, y, _) => [(4, [], fun fr hp => ⟨Nat, fun g => ⟨frI [.k 5, .s (.si .i64 (icast g)), .k 5, .t 15] fr, hp⟩, Nat × Nat, fun g => (g, x.1), fun (g, n) => g <= n, fun g => nsub x.1 g⟩)]
set_option maxRecDepth 100000 in
theorem smb_ok : FnSpec Tryz.prog 19 _ smbS := by
 refine FnSpec.of SWl0_ok mixed (U := 0) (I := smbI) Tryz.func19 rfl (by kernel_rfl) rfl rfl (by decide +kernel) ?_
 rintro ⟨⟨n, el⟩, ⟨m, em⟩, ⟨⟩⟩ hpre
 obtain ⟨lo, hi, rfl⟩ : ∃ lo hi : Nat -> Int, el = fun k => (lo k, hi k, ()) := ⟨fun k => (el k).1, fun k => (el k).2.1, rfl⟩
 obtain ⟨bl, bh, rfl⟩ : ∃ bl bh : Nat -> Int, em = fun k => (bl k, bh k, ()) := ⟨fun k => (em k).1, fun k => (em k).2.1, rfl⟩
 obtain ⟨h0, h1, h2⟩ : n <= maxLen /\ n = m /\ ∀ k : Nat, k < n -> lo k = bl k /\ hi k = bh k := hpre
 unfold maxLen at h0
 unfold FnSat
 conv => arg 2; reduce
 simp [-Bool.forall_bool, smbS, and_assoc]
 subst h1
 exact ⟨rfl, fun _ => ⟨⟨0, rfl, by omega⟩, fun g hg hlt => ⟨hlt, hlt, (h2 g hlt).1, (h2 g hlt).2, fun _ _ => ⟨by omega, by omega, g + 1, by omega, by omega, by omega⟩⟩⟩⟩
noncomputable def SWl1 : Sums := ⟨(65, mkSum _ rpwS) :: (64, mkSum _ rhlS) :: (63, mkSum _ rflS) :: (62, mkSum _ rnowS) :: (36, mkSum _ pwrS) :: (32, mkSum _ hlwS) :: (30, mkSum _ flwS) :: (35, mkSum _ nowS) :: (26, mkSum _ lstS) :: (27, mkSum _ tknS) :: (18, mkSum _ bxS) :: (19, mkSum _ smbS) :: SWl0.one, SWl0.two, SWl0.lo, SWl0.eqs, SWl0.its, SWl0.imm⟩
theorem SWl1_ok : SumsOK Tryz.prog SWl1 := ((((((((((((SWl0_ok.cons Tryz.func19 (by kernel_rfl) (by kernel_rfl) smb_ok).cons Tryz.func18 (by kernel_rfl) (by kernel_rfl) bx_ok).cons Tryz.func27 (by kernel_rfl) (by kernel_rfl) tkn_ok).cons Tryz.func26 (by kernel_rfl) (by kernel_rfl) lst_ok).cons Tryz.func35 (by kernel_rfl) (by kernel_rfl) now_ok).cons Tryz.func30 (by kernel_rfl) (by kernel_rfl) flw_ok).cons Tryz.func32 (by kernel_rfl) (by kernel_rfl) hlw_ok).cons Tryz.func36 (by kernel_rfl) (by kernel_rfl) pwr_ok).cons Tryz.func62 (by kernel_rfl) (by kernel_rfl) rnow_ok).cons Tryz.func63 (by kernel_rfl) (by kernel_rfl) rfl_ok).cons Tryz.func64 (by kernel_rfl) (by kernel_rfl) rhl_ok).cons Tryz.func65 (by kernel_rfl) (by kernel_rfl) rpw_ok)
def alkS : Spec [.ptr ewCells, .ptr rewCells, limSh] := ⟨fun ((m, x), y, _) => m = true /\ EwOK (ewOf x) /\ ewOf y = ewOf x, fun _ => .sb true⟩
set_option maxRecDepth 100000 in
set_option maxHeartbeats 8000000 in
theorem alk_ok : FnSpec Tryz.prog 17 _ alkS := by
 refine FnSpec.of SWl1_ok mixed (U := 0) (I := fun _ => []) Tryz.func17 rfl (by kernel_rfl) rfl rfl (by decide +kernel) ?_
 rintro ⟨⟨m, x⟩, y, ⟨(l : Int), (q : Int), (o : Int), (w : Int), (h : Int), ⟨⟩⟩, ⟨⟩⟩ hpre
 obtain ⟨e, rfl⟩ := ew_ex x
 obtain ⟨f, rfl⟩ := ew_ex y
 have hpre : m = true /\ EwOK e /\ f = e := by have : m = true /\ EwOK (ewOf (ewD e)) /\ ewOf (ewD f) = ewOf (ewD e) := hpre; rwa [ewOf_D, ewOf_D] at this
 obtain ⟨rfl, hk, rfl⟩ := hpre
 unfold FnSat
 conv => arg 2; reduce
 simp [-Bool.forall_bool, alkS, bxS, smbS, tknS, lstS, nowS, rnowS, flwS, rflS, hlwS, rhlS, pwrS, rpwS, and_assoc]
 have h5 := ew_five hk
 have hl := now_len hk
 exact ⟨by omega, by unfold maxLen; omega, hk, by unfold maxLen; omega, hk⟩
end
end Abs
end Go.Proofs.YtlabbaglbcmofaaGreat

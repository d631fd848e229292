/- A part of the proof: no statement of its own. -/
import Derived.Test.YtlabbaglbcmofaaGreatQG8e30799a
set_option linter.unusedSimpArgs false
set_option linter.unusedVariables false
namespace Go.Proofs.YtlabbaglbcmofaaGreat
namespace Abs
open Go Go.RowKit
noncomputable section
attribute [local irreducible] FnSat
set_option maxRecDepth 100000 in
theorem rg2_ok : FnSpec Tryz.prog 51 _ insC := by
 refine FnSpec.of SWf_ok mixed (U := 0) (I := fun _ => []) Tryz.func51 rfl (by kernel_rfl) rfl rfl (by decide +kernel) ?_
 rintro ⟨⟨(l : Int), (h : Int), ⟨⟩⟩, (a : Int), (b : Int), ⟨⟩⟩ -
 unfold FnSat
 conv => arg 2; reduce
 simp [insC, insV]
 rw [Bool.and_comm (decide (l <= h)) (decide (a <= l))]
noncomputable def Sr0 : Sums := ⟨(121, mkSum _ steps) :: (51, mkSum _ insC) :: (50, mkSum _ check) :: SWf.one, SWf.two, SWf.lo, SWf.eqs, SWf.its, SWf.imm⟩
theorem Sr0_ok : SumsOK Tryz.prog Sr0 := (((SWf_ok.cons Tryz.func50 (by kernel_rfl) (by kernel_rfl) rcs_ok).cons Tryz.func51 (by kernel_rfl) (by kernel_rfl) rg2_ok).cons Tryz.func121 (by kernel_rfl) (by kernel_rfl) steps_ok)
set_option maxRecDepth 100000 in
theorem shows3_ok : FnSpec Tryz.prog 122 _ shows := by
 refine FnSpec.of Sr0_ok mixed (U := 0) (I := fun _ => []) Tryz.func122 rfl (by kernel_rfl) rfl rfl (by decide +kernel) ?_
 rintro ⟨⟨(a : Int), (b : Int), (c : Int), (d : Int), ⟨⟩⟩, (x : Int), (r : Int), ⟨⟩⟩ ⟨(h1 : sensOK a b c d = true), (h2 : -1099511627776 <= x), (h3 : x <= 1099511627777)⟩
 unfold FnSat
 conv => arg 2; reduce
 have h4 := sens_of h1
 simp [shows, steps, clipS, clip_into]
 refine ⟨by omega, by omega, by omega, by omega, fun h => ?_, fun h5 h6 => ⟨by omega, ?_⟩⟩
 ·cases hh : showsV a b c d x r with
  | false => rfl
  | true => exfalso; simp [showsV] at hh; omega
 ·unfold showsV
  rw [Bool.eq_iff_iff]; simp [tmod_z, h5, h6]
noncomputable def Sr1 : Sums := ⟨(122, mkSum _ shows) :: Sr0.one, Sr0.two, Sr0.lo, Sr0.eqs, Sr0.its, Sr0.imm⟩
theorem Sr1_ok : SumsOK Tryz.prog Sr1 := (Sr0_ok.cons Tryz.func122 (by kernel_rfl) (by kernel_rfl) shows3_ok)
def behI3 : DatL [senSh, .int .i64] -> Anns := fun ((a, b, c, d, _), r, _) =>
 [(5, [], fun fr hp => ⟨Int × Int, fun g => ⟨frI [.k 6, .s (.si .i64 g.1), .s (.si .i64 g.2), .t 1, .k 7, .t 23] fr, hp⟩, Int × Int, fun g => (g.1, g.2),
  fun g => -1099511627776 <= g.1 /\ g.1 <= g.2 /\ g.2 <= 1099511627777 /\ g.1 <= thr1 a b c d r /\ thr1 a b c d r <= g.2, fun g => nat (isub g.2 g.1)⟩),
  (12, [], fun fr hp => ⟨Int × Int, fun g => ⟨frI [.k 6, .s (.si .i64 g.1), .s (.si .i64 g.2), .k 2, .t 1, .k 29, .t 23] fr, hp⟩, Int × Int, fun g => (g.1, g.2),
   fun g => thr1 a b c d r <= g.1 /\ g.1 <= g.2 /\ g.2 <= 1099511627777 /\ (g.1 = thr1 a b c d r \/ g.1 <= thr2 a b c d r) /\ thr2 a b c d r <= g.2, fun g => nat (isub g.2 g.1)⟩)]
set_option maxRecDepth 100000 in
set_option maxHeartbeats 4000000 in
theorem rbh3_ok : FnSpec Tryz.prog 59 _ behind := by
 refine FnSpec.of Sr1_ok mixed (U := 0) (I := behI3) Tryz.func59 rfl (by kernel_rfl) rfl rfl (by decide +kernel) ?_
 rintro ⟨⟨(a : Int), (b : Int), (c : Int), (d : Int), ⟨⟩⟩, (r : Int), ⟨⟩⟩ -
 unfold FnSat
 conv => arg 2; reduce
 simp [behind, check, errB, steps, clipS, clip_into, shows, divS, and_assoc]
 have hd : ∀ x y : Int, dvI x y = x / y := fun x y => by unfold dvI; rfl
 simp only [hd]
 refine ⟨fun h => ?_, fun h => ?_⟩
 ·have := beh_2 h (r := r); omega
 have h0 := sens_of h
 have t1 := thr1_in h (r := r)
 have t2 := thr2_in h (r := r)
 refine ⟨by omega, by omega, fun lo hi g1 g2 g3 g4 g5 => ⟨fun g6 => ?_, fun g6 => ?_⟩⟩
 ·have e := thr1_iff h (r := r) (x := (lo + hi) / 2) (by omega) (by omega)
  omega
 obtain rfl : lo = thr1 a b c d r := by omega
 refine ⟨by omega, by omega, by omega, by omega, fun lo2 hi2 k1 k2 k3 k4 k5 => ⟨fun k6 => ?_, fun k6 => ?_⟩⟩
 ·have e := thr2_iff h (r := r) (x := (lo2 + hi2) / 2) (by omega) (by omega)
  omega
 have e := ref_beh h (r := r)
 cases hr : readOK b c d r with
 | true =>
   obtain ⟨e1, e2⟩ := e.2 hr
   obtain ⟨e3, e4⟩ := ref_eq h hr
   obtain ⟨_, _, e5⟩ := beh_0 h hr
   rw [e2, e3, e4, e5]
   simp [h]
   omega
 | false =>
   obtain ⟨e3, e4, e5⟩ := beh_5 h hr
   rw [e3, e4, e5]
   simp [h, hr] at e ⊢
   refine ⟨by omega, by omega, by omega, fun h1 => ?_⟩
   have := e (by omega)
   simp [this]
noncomputable def Sra : Sums := ⟨(59, mkSum _ behind) :: Sr1.one, Sr1.two, Sr1.lo, Sr1.eqs, Sr1.its, Sr1.imm⟩
theorem Sra_ok : SumsOK Tryz.prog Sra := (Sr1_ok.cons Tryz.func59 (by kernel_rfl) (by kernel_rfl) rbh3_ok)
set_option maxRecDepth 100000 in
set_option maxHeartbeats 8000000 in
theorem rwck_ok : FnSpec Tryz.prog 10 _ wckS := by
 refine FnSpec.of Sra_ok mixed (U := 5) (I := fun _ => []) Tryz.func10 rfl (by kernel_rfl) rfl rfl (by decide +kernel) ?_
 rintro ⟨x, ⟨⟩⟩ hpre
 obtain ⟨w, rfl⟩ := wt_ex x
 have hpre : CelMax w.cel /\ w.tn <= maxLen := by have : CelMax (wtOf (wtD w)).cel /\ (wtOf (wtD w)).tn <= maxLen := hpre; rwa [wtOf_D] at this
 unfold FnSat
 conv => arg 2; reduce
 simp [-Bool.forall_bool, wckS, ccheckS, posS, sbxS, insC, check, and_assoc]
 have no : (wcB w = true -> False) -> 2 = errA (wcB w) := fun h => by
  cases hw : wcB w with
  | false => rw [errA_false]
  | true => exact (h hw).elim
 refine ⟨hpre.1, fun _ => hpre, fun h => no fun hw => ?_, fun h1 h2 h3 => ⟨fun h => no fun hw => ?_, fun k0 => ⟨fun h => no fun hw => ?_, fun k1 => ⟨fun h => no fun hw => ?_, fun k2 => ⟨fun h => no fun hw => ?_, fun k3 => ⟨fun h => no fun hw => ?_, fun d0 d1 c a => ?_⟩⟩⟩⟩⟩⟩
 ·obtain ⟨g0, _⟩ := wcB_iff.1 hw
  obtain ⟨k1, k2⟩ := chkV_zero.1 g0
  have k3 := (posV_zero.1 k1).1
  rcases h with (h | h) | h
  ·rw [k3] at h; cases h
  ·exact h k1
  ·exact absurd (h.symm.trans k2) (by decide)
 ·exact h (errB_0.2 (wcB_iff.1 hw).2.2.2.2.2.1)
 ·exact h (errB_0.2 (wcB_iff.1 hw).2.2.2.2.2.2.1)
 ·exact h (errB_0.2 (wcB_iff.1 hw).2.2.2.2.2.2.2.1)
 ·exact h (errB_0.2 (wcB_iff.1 hw).2.2.2.2.2.2.2.2)
 ·obtain ⟨_, g1, g2, g3, g4, _⟩ := wcB_iff.1 hw
  rcases h with ((h | h) | h) | h
  ·omega
  ·omega
  ·rw [g3] at h; cases h
  ·rw [g4] at h; cases h
 ·rw [wcB_iff.2 ⟨chkV_zero.2 ⟨h2, h3⟩, d0, d1, c, a, errB_0.1 k0, errB_0.1 k1, errB_0.1 k2, errB_0.1 k3⟩, errA_true]
noncomputable def Srb : Sums := ⟨(10, mkSum _ wckS) :: Sra.one, Sra.two, Sra.lo, Sra.eqs, Sra.its, Sra.imm⟩
theorem Srb_ok : SumsOK Tryz.prog Srb := (Sra_ok.cons Tryz.func10 (by kernel_rfl) (by kernel_rfl) rwck_ok)
set_option maxRecDepth 100000 in
set_option maxHeartbeats 2000000 in
theorem rnw_ok : FnSpec Tryz.prog 12 _ nwS := by
 refine FnSpec.of Srb_ok mixed (U := 0) (I := fun _ => []) Tryz.func12 rfl (by kernel_rfl) rfl rfl (by decide +kernel) ?_
 rintro ⟨x, ⟨⟩⟩ hpre
 obtain ⟨w, rfl⟩ := wt_ex x
 have hpre : CelMax w.cel /\ w.tn <= maxLen /\ wcB w = false := by have : CelMax (wtOf (wtD w)).cel /\ (wtOf (wtD w)).tn <= maxLen /\ wcB (wtOf (wtD w)) = false := hpre; rwa [wtOf_D] at this
 unfold FnSat
 conv => arg 2; reduce
 obtain ⟨h1, h2, h3⟩ := hpre
 simp [-Bool.forall_bool, nwS, wckS, h1, h2, h3, and_assoc]
def rnwN : SpecN [wchSh] := ⟨fun (x, _) => CelMax (wtOf x).cel /\ (wtOf x).tn <= maxLen /\ wcB (wtOf x) = true, fun _ => .tup [.own 1 0, .li .i64 0], fun (x, _) => [.dead, .cells 61 (ewCs (wtOf x) (wtOf x).bn (wtOf x).bl (wtOf x).bh 0 false)]⟩
set_option maxRecDepth 100000 in
set_option maxHeartbeats 8000000 in
theorem rnwN_ok : FnSpecN Tryz.prog 12 _ rnwN := by
 refine FnSpecN.of Srb_ok mixed (U := 0) (I := fun _ => []) Tryz.func12 rfl (by kernel_rfl) rfl rfl (by decide +kernel) ?_
 rintro ⟨x, ⟨⟩⟩ hpre
 obtain ⟨w, rfl⟩ := wt_ex x
 have hpre : CelMax w.cel /\ w.tn <= maxLen /\ wcB w = true := by have : CelMax (wtOf (wtD w)).cel /\ (wtOf (wtD w)).tn <= maxLen /\ wcB (wtOf (wtD w)) = true := hpre; rwa [wtOf_D] at this
 unfold FnSat
 conv => arg 2; reduce
 obtain ⟨h1, h2, h3⟩ := hpre
 simp [-Bool.forall_bool, rnwN, wckS, ewCs, h1, h2, h3, ElEq, getB, goneB, aliveB, VC.sat, and_assoc]
def rwcF : SpecF [.cells 61 rewCells] [.own 0 0] := ⟨fun _ _ => True, fun _ _ => .own 1 0, fun (x, _) _ => [.cells 61 (encL rewCells x), .cells 61 (encL rewCells x)]⟩
set_option maxRecDepth 100000 in
theorem rwc_ok : FnSpecF Tryz.prog 15 _ _ rwcF := by
 refine FnSpecF.of Srb_ok mixed (U := 0) (I := fun _ _ => []) Tryz.func15 rfl (by kernel_rfl) rfl (by decide +kernel) ?_
 rintro ⟨x, ⟨⟩⟩ ⟨⟨⟩, ⟨⟩⟩ hpre
 obtain ⟨e, rfl⟩ := ew_ex x
 have e : rwcF.after (ewD e, ()) (PUnit.unit, PUnit.unit) = [.cells 61 (ewCs e.w e.n e.l e.h e.tk e.gn), .cells 61 (ewCs e.w e.n e.l e.h e.tk e.gn)] := rfl
 rw [e]
 unfold FnSat
 conv => arg 2; reduce
 simp [rwcF, ewCs, ElEq, aliveB, getB, encH, encB, VC.sat, and_assoc]
def wthS : Spec [spansSh, .int .i64, spanSh] := ⟨fun ((n, _), (i : Int), _) => n <= 1048576 /\ 0 <= i /\ i < (n : Int), fun ((n, el), (i : Int), ((u : Int), (v : Int), _), _) => .slc (.sym n) 2 (fun k => [.si .i64 (upB i.toNat u (fun j => (el j).1) k), .si .i64 (upB i.toNat v (fun j => (el j).2.1) k)])⟩
set_option maxRecDepth 100000 in
set_option maxHeartbeats 2000000 in
theorem wth_ok : FnSpec Tryz.prog 124 _ wthS := by
 refine FnSpec.of Srb_ok mixed (U := 0) (I := fun _ => []) Tryz.func124 rfl (by kernel_rfl) rfl rfl (by decide +kernel) ?_
 rintro ⟨⟨n, el⟩, (i : Int), ⟨(u : Int), (v : Int), ⟨⟩⟩, ⟨⟩⟩ ⟨(h1 : n <= 1048576), (h2 : 0 <= i), (h3 : i < (n : Int))⟩
 obtain ⟨lo, hi, rfl⟩ : ∃ lo hi : Nat -> Int, el = fun k => (lo k, hi k, ()) := ⟨fun k => (el k).1, fun k => (el k).2.1, rfl⟩
 unfold FnSat
 conv => arg 2; reduce
 simp [wthS, upB_if, maxRow, ElEq, getB, goneB, aliveB, and_assoc]
 refine ⟨by omega, h2, h3, fun j _ => ?_⟩
 unfold upB
 exact ⟨rfl, rfl⟩
noncomputable def Src : Sums := ⟨(124, mkSum _ wthS) :: Srb.one, Srb.two, Srb.lo, Srb.eqs, Srb.its, Srb.imm⟩
theorem Src_ok : SumsOK Tryz.prog Src := (Srb_ok.cons Tryz.func124 (by kernel_rfl) (by kernel_rfl) wth_ok)
def rvltS : Spec [.ptr rewCells, spansSh, .int .i64, spanSh] := ⟨fun (x, (n, _), _) => LkOK x n,
 fun (x, (n, el), (c : Int), ((c0 : Int), (c1 : Int), _), _) => .agg [.si .i64 (vbL (ewOf x).w n (upB 0 c (fun j => (el j).1)) (upB 0 c (fun j => (el j).2.1)) c0 c1), .si .i64 (vbH (ewOf x).w n (upB 0 c (fun j => (el j).1)) (upB 0 c (fun j => (el j).2.1)) c0 c1)]⟩
set_option maxRecDepth 100000 in
set_option maxHeartbeats 4000000 in
theorem rvlt_ok : FnSpec Tryz.prog 168 _ rvltS := by
 refine FnSpec.of Src_ok mixed (U := 0) (I := fun _ => []) Tryz.func168 rfl (by kernel_rfl) rfl rfl (by decide +kernel) ?_
 rintro ⟨x, ⟨n, el⟩, (c : Int), ⟨(c0 : Int), (c1 : Int), ⟨⟩⟩, ⟨⟩⟩ hpre
 obtain ⟨e, rfl⟩ := ew_ex x
 obtain ⟨lo, hi, rfl⟩ : ∃ lo hi : Nat -> Int, el = fun k => (lo k, hi k, ()) := ⟨fun k => (el k).1, fun k => (el k).2.1, rfl⟩
 have hpre : CelMax e.w.cel /\ e.w.tn <= maxLen /\ 0 < n /\ n <= 1048576 := by have : CelMax (ewOf (ewD e)).w.cel /\ (ewOf (ewD e)).w.tn <= maxLen /\ 0 < n /\ n <= 1048576 := hpre; rwa [ewOf_D] at this
 obtain ⟨h1, h2, h3, h4⟩ := hpre
 unfold FnSat
 conv => arg 2; reduce
 simp [rvltS, vbS, wthS, vbL_fold, vbH_fold, ElEq, getB, goneB, aliveB, and_assoc]
 exact ⟨h4, h3, h1, h2, by unfold maxLen; omega⟩
noncomputable def Srd : Sums := ⟨(168, mkSum _ rvltS) :: Src.one, Src.two, Src.lo, Src.eqs, Src.its, Src.imm⟩
theorem Srd_ok : SumsOK Tryz.prog Srd := (Src_ok.cons Tryz.func168 (by kernel_rfl) (by kernel_rfl) rvlt_ok)
end
end Abs
end Go.Proofs.YtlabbaglbcmofaaGreat

/- A part of the proof: no statement of its own. -/
import Derived.Test.YtlabbaglbcmofaaGreatQGc786b3c5
set_option linter.unusedSimpArgs false
set_option linter.unusedVariables false
namespace Go.Proofs.YtlabbaglbcmofaaGreat
namespace Abs
open Go Go.RowKit
noncomputable section
attribute [local irreducible] FnSat
set_option maxRecDepth 100000 in
set_option maxHeartbeats 2000000 in
theorem rhlt_ok : FnSpec Tryz.prog 132 _ hltS := by
 refine FnSpec.of SWf_ok mixed (U := 0) (I := fun _ => []) Tryz.func132 rfl (by kernel_rfl) rfl rfl (by decide +kernel) ?_
 rintro ⟨c, s, ⟨⟩⟩ hpre
 obtain ⟨c, rfl⟩ := cel_ex c
 obtain ⟨s, rfl⟩ := sta_ex s
 have hpre : CelMax c := by have : CelMax (celOf (celD c)) := hpre; rwa [celOf_D] at this
 unfold FnSat
 conv => arg 2; reduce
 simp [hltS, cstS, rwearS, divS, and_assoc]
 refine ⟨hpre, fun h => ⟨hpre, (aV_no h).symm, (aE_no h).symm⟩, fun h => ?_⟩
 obtain ⟨hc, hs⟩ := csE_iff.1 h
 have hk := celB_iff.1 hc
 have := hk.cap0
 have := hk.cap1
 have := hs.h0
 have := hs.h1
 have := hs.a0
 have := hs.a1
 rw [aV_yes h, aE_yes h]
 have w := wV_in hc hs
 have eW : wearV c s.th s.ag = wV c s := by unfold wV; rfl
 rw [eW]
 refine ⟨⟨hk.cy0, hk.cy1, hk.al0, hk.al1, by omega, by omega, by omega, by omega⟩, by omega, by omega, by omega, by omega, by omega, by omega, by omega, ?_, rfl⟩
 have hd : ∀ a b : Int, dvI a b = a / b := fun a b => by unfold dvI; rfl
 unfold hlV pcV
 rw [hd, hd, Int.mul_comm]
 have : max 0 (c.cap - wV c s) * 65536 / c.cap <= 65536 := by
  have h1 : max 0 (c.cap - wV c s) * 65536 <= c.cap * 65536 := Int.mul_le_mul_of_nonneg_right (by omega) (by decide)
  have h2 := Int.ediv_le_ediv (show 0 < c.cap by omega) h1
  rw [Int.mul_ediv_cancel_left _ (by omega)] at h2
  exact h2
 omega
@[irreducible] def enV (h : Bool) (a b : Int) : Int := if h = true then b else a
theorem enV_t (a b : Int) : enV true a b = b := by unfold enV; rfl
theorem enV_f (a b : Int) : enV false a b = a := by unfold enV; rfl
def enS : Spec [spansSh, .bool] := ⟨fun ((n, _), _) => n <= 4096, fun ((n, el), (h : Bool), _) => .slc (.sym n) 1 (fun k => [.si .i64 (enV h (el k).1 (el k).2.1)])⟩
def enI : DatL [spansSh, .bool] -> Anns := fun ((n, el), (h : Bool), _) => [
 (3, [(5, 2, 1)], fun fr hp => ⟨Nat, fun g => ⟨frI [.k 6, .s (.si .i64 (icast g)), .t 24] fr, setB hp 0 (.row 2 1 (.sym g) (fun k => [.si .i64 (enV h (el k).1 (el k).2.1)]))⟩, Nat × Nat, fun g => (g, n), fun (g, n) => g <= n, fun g => nsub n g⟩)]
set_option maxRecDepth 100000 in
theorem en_ok : FnSpec Tryz.prog 131 _ enS := by
 refine FnSpec.of SWf_ok mixed (U := 0) (I := enI) Tryz.func131 rfl (by kernel_rfl) rfl rfl (by decide +kernel) ?_
 rintro ⟨⟨n, el⟩, (h : Bool), ⟨⟩⟩ (hn : n <= 4096)
 obtain ⟨lo, hi, rfl⟩ : ∃ lo hi : Nat -> Int, el = fun k => (lo k, hi k, ()) := ⟨fun k => (el k).1, fun k => (el k).2.1, rfl⟩
 unfold FnSat
 conv => arg 2; reduce
 simp [-Bool.forall_bool, enS, maxRow, ElEq, aliveB, goneB, getB, and_assoc]
 refine ⟨⟨0, rfl, rfl, fun j => by omega, by omega⟩, fun g hg => ⟨fun hlt => ⟨fun hh => ⟨hlt, by omega, by omega, by omega, g + 1, by omega, rfl, fun j hj => app_one hj (fun _ => rfl) (fun h' => ?_), by omega, by omega⟩, fun hh => ⟨hlt, by omega, by omega, by omega, g + 1, by omega, rfl, fun j hj => app_one hj (fun _ => rfl) (fun h' => ?_), by omega, by omega⟩⟩, fun hge => by omega⟩⟩
 ·subst h'; rw [hh, enV_t]; rfl
 ·subst h'; rw [hh, enV_f]; rfl
noncomputable def Sva1 : Sums := ⟨(131, mkSum _ enS) :: (133, mkSum _ sfoS) :: (130, mkSum _ aplS) :: (132, mkSum _ hltS) :: Sra.one, Sra.two, Sra.lo, Sra.eqs, Sra.its, Sra.imm⟩
theorem Sva1_ok : SumsOK Tryz.prog Sva1 := ((((Sra_ok.cons Tryz.func132 (by kernel_rfl) (by kernel_rfl) rhlt_ok).cons Tryz.func130 (by kernel_rfl) (by kernel_rfl) rapl_ok).cons Tryz.func133 (by kernel_rfl) (by kernel_rfl) rsfo_ok).cons Tryz.func131 (by kernel_rfl) (by kernel_rfl) en_ok)
def rnowS : Spec [.ptr rewCells] := ⟨fun (x, _) => EwOK (ewOf x), fun (x, _) => .tup [.slc (.sym (nowN (ewOf x))) 2 (fun k => [.si .i64 (nowL (ewOf x) k), .si .i64 (nowH (ewOf x) k)]), .si .i64 (nowE (ewOf x))]⟩
def rnowI : DatL [.ptr rewCells] -> Anns := fun (x, _) =>
 [(3, [], fun fr hp => ⟨Nat, fun g => ⟨frI [.k 4, .s (.slc (.sym (ewOf x).n) 2 (fun k => [.si .i64 (nwL (ewOf x).w (ewOf x).l (ewOf x).h g k), .si .i64 (nwH (ewOf x).w (ewOf x).l (ewOf x).h g k)])), .s (.si .i64 (icast g)), .t 2, .k 4, .t 40] fr, hp⟩,
  Nat × Nat × Bool, fun g => (g, nat (ewOf x).w.dly, nwB (ewOf x).w (ewOf x).l (ewOf x).h g), fun (g, d, b) => g <= d /\ b = true, fun g => nsub (nat (ewOf x).w.dly) g⟩)]
section
attribute [local irreducible] decL
set_option maxRecDepth 100000 in
set_option maxHeartbeats 4000000 in
theorem rnow_ok : FnSpec Tryz.prog 62 _ rnowS := by
 refine FnSpec.of Sva1_ok mixed (U := 0) (I := rnowI) Tryz.func62 rfl (by kernel_rfl) rfl rfl (by decide +kernel) ?_
 rintro ⟨x, ⟨⟩⟩ hpre
 obtain ⟨e, rfl⟩ := ew_ex x
 have hk : EwOK e := by have : EwOK (ewOf (ewD e)) := hpre; rwa [ewOf_D] at this
 unfold FnSat
 conv => arg 2; reduce
 simp [-Bool.forall_bool, decL_cons, dec_int, rnowS, sbS, ElEq, getB, goneB, aliveB, VC.sat, and_assoc]
 have h5 := ew_five hk
 have hLk : e.w.tn <= maxLen := by rw [hk.chk.n]; unfold maxLen; omega
 obtain ⟨d0, d1, d2, d3⟩ := dec_r4 e.w.cl e.w.ch e.w.al e.w.ah
 obtain ⟨_, w0, w1, _⟩ := wcB_iff.1 hk.wat
 refine ⟨⟨0, by omega, nwB_0 _ _ _, fun j _ => by rw [nwL_0, nwH_0]; exact ⟨rfl, rfl⟩, rfl⟩, fun g hg hb => ⟨fun hlt => ⟨fun k hk2 => ?_, hk.big, hLk, by rw [h5]; unfold maxLen; omega, by unfold maxLen; omega, now_step hk hb hlt d0 d1 d2 d3⟩, fun hle => ?_⟩⟩
 ·have : k = 0 \/ k = 1 := by omega
  rcases this with rfl | rfl <;> first | exact ⟨trivial, trivial, trivial⟩ | trivial | simp [rowAt, CanL, CanSh]
 ·have e1 : g = e.w.dly.toNat := by omega
  subst e1
  obtain ⟨n1, n2⟩ := now_yes hb
  rw [n1, n2]
  refine ⟨rfl, fun j _ => ?_, rfl⟩
  unfold nowL nowH nat
  exact ⟨rfl, rfl⟩
end
noncomputable def Svb1 : Sums := ⟨(62, mkSum _ rnowS) :: Sva1.one, Sva1.two, Sva1.lo, Sva1.eqs, Sva1.its, Sva1.imm⟩
theorem Svb1_ok : SumsOK Tryz.prog Svb1 := (Sva1_ok.cons Tryz.func62 (by kernel_rfl) (by kernel_rfl) rnow_ok)
def rflS : Spec [.ptr rewCells] := ⟨fun (x, _) => EwOK (ewOf x), fun (x, _) => .tup [.agg [.si .i64 (filL (ewOf x)), .si .i64 (filH (ewOf x))], .si .i64 0]⟩
set_option maxRecDepth 100000 in
set_option maxHeartbeats 2000000 in
theorem rfl_ok : FnSpec Tryz.prog 63 _ rflS := by
 refine FnSpec.of Svb1_ok mixed (U := 0) (I := fun _ => []) Tryz.func63 rfl (by kernel_rfl) rfl rfl (by decide +kernel) ?_
 rintro ⟨x, ⟨⟩⟩ hpre
 obtain ⟨e, rfl⟩ := ew_ex x
 have hk : EwOK e := by have : EwOK (ewOf (ewD e)) := hpre; rwa [ewOf_D] at this
 unfold FnSat
 conv => arg 2; reduce
 simp [-Bool.forall_bool, rflS, fbS, and_assoc]
 have h5 := ew_five hk
 have hn := hk.chk.n
 have e0 := chk_iff.2 hk.chk
 refine ⟨hk.big, by rw [hn]; unfold maxLen; omega, by rw [h5]; unfold maxLen; omega, ?_, ?_, ?_⟩
 ·rw [okV_0 e0]; unfold filL; rfl
 ·rw [okV_0 e0]; unfold filH; rfl
 ·exact e0
def rpwS : Spec [.ptr rewCells, limSh] := ⟨fun (x, _) => EwOK (ewOf x), fun (x, ((l : Int), (q : Int), (o : Int), (w : Int), (h : Int), _), _) => .tup [.si .i64 (pwV (ewOf x) l q o w h), .si .i64 (pwE (ewOf x) l q o w h)]⟩
set_option maxRecDepth 100000 in
set_option maxHeartbeats 2000000 in
theorem rpw_ok : FnSpec Tryz.prog 65 _ rpwS := by
 refine FnSpec.of Svb1_ok mixed (U := 0) (I := fun _ => []) Tryz.func65 rfl (by kernel_rfl) rfl rfl (by decide +kernel) ?_
 rintro ⟨x, ⟨(l : Int), (q : Int), (o : Int), (w : Int), (h : Int), ⟨⟩⟩, ⟨⟩⟩ hpre
 obtain ⟨e, rfl⟩ := ew_ex x
 have hk : EwOK e := by have : EwOK (ewOf (ewD e)) := hpre; rwa [ewOf_D] at this
 unfold FnSat
 conv => arg 2; reduce
 simp [-Bool.forall_bool, rpwS, rnowS, sfoS, and_assoc]
 have hn := hk.chk.n
 have hl := now_len hk
 refine ⟨hk, fun h0 => ?_, fun h0 => ⟨hk.big, by rw [hn]; unfold maxLen; omega, by unfold maxLen; omega, ?_⟩⟩
 ·unfold pwV pwE
  rw [if_neg h0, if_neg h0]
  exact ⟨rfl, rfl⟩
 ·unfold pwV pwE
  rw [if_pos h0, if_pos h0]
  unfold pwX
  exact ⟨rfl, rfl⟩
def rhlS : Spec [.ptr rewCells] := ⟨fun (x, _) => EwOK (ewOf x), fun (x, _) => .tup [.agg [.si .i64 (heaL (ewOf x)), .si .i64 (heaH (ewOf x))], .si .i64 0]⟩
set_option maxRecDepth 100000 in
set_option maxHeartbeats 4000000 in
theorem rhl_ok : FnSpec Tryz.prog 64 _ rhlS := by
 refine FnSpec.of Svb1_ok mixed (U := 0) (I := fun _ => []) Tryz.func64 rfl (by kernel_rfl) rfl rfl (by decide +kernel) ?_
 rintro ⟨x, ⟨⟩⟩ hpre
 obtain ⟨e, rfl⟩ := ew_ex x
 have hk : EwOK e := by have : EwOK (ewOf (ewD e)) := hpre; rwa [ewOf_D] at this
 unfold FnSat
 conv => arg 2; reduce
 simp [-Bool.forall_bool, rhlS, enS, aplS, hltS, and_assoc]
 have h5 := ew_five hk
 have hn := hk.chk.n
 have eF : (fun k => enV false (e.w.tl k) (e.w.th k)) = e.w.tl := funext fun k => enV_f _ _
 have eT : (fun k => enV true (e.w.tl k) (e.w.th k)) = e.w.th := funext fun k => enV_t _ _
 have hs : ∀ t a : Int, staOf (0, 0, 0, t, a, PUnit.unit) = ⟨0, 0, 0, t, a⟩ := fun t a => by unfold staOf; rfl
 rw [eF, eT, hs, hs]
 have m1 : e.w.tn <= maxLen := by rw [hn]; unfold maxLen; omega
 exact ⟨by omega, hk.big, m1, by omega, hk.big, m1, by omega, by omega, apC_max hk.big _ _, by omega, by omega, apC_max hk.big _ _, by unfold heaL hoV; rfl, by unfold heaH hoV; rfl⟩
end
end Abs
end Go.Proofs.YtlabbaglbcmofaaGreat

/- A part of the proof: no statement of its own. -/
import Derived.Test.YteoaeodalknkiaaQGe7f3b95a
import Derived.Shelf.SortM.Plain
import Derived.Shelf.SortM.SortNone
import Derived.Shelf.SlicesG.Reverse
import Derived.Test.YteoaeodalknkiaaProg
import Derived.Sort.OwnSortedInts
set_option linter.unusedSimpArgs false
set_option linter.unusedVariables false
/- Cells, by the document: voltages, heat, the next state. -/
namespace Go.Proofs.Yteoaeodalknkiaa
namespace Abs
open Go Go.RowKit
noncomputable section
attribute [local irreducible] FnSat
def rfillS : Spec [.int .i64, .int .i64] := pcS
set_option maxRecDepth 100000 in
theorem rfill_ok : FnSpec Try.prog 97 _ pcS := by
  refine FnSpec.of SMa_ok mixed (U := 0) (I := fun _ => []) Try.func97 rfl (by kernel_rfl) rfl rfl (by decide +kernel) ?_
  rintro ⟨(x : Int), (o : Int), ⟨⟩⟩ ⟨(h1 : -17592186044416 ≤ x), (h2 : x ≤ 17592186044416), (h3 : 1 ≤ o)⟩
  unfold FnSat
  conv => arg 2; reduce
  simp [pcS, divS, and_assoc]
  unfold pcV
  omega
theorem val_pre {c : Crv} {last most : Int} (h : scB c last most = true) (h1 : last ≤ 400000) (h2 : most ≤ 8388608) : crB c = true ∧ c.x 0 = 0 ∧ c.x (c.nx - 1) ≤ 400000 ∧ 0 ≤ c.y 0 ∧ c.y (c.nx - 1) ≤ 8388608 := by
  have h := scB_iff.1 h
  exact ⟨h.1, h.2.1, by omega, h.2.2.2.1, by omega⟩
def ropenS : Spec [celSh, .int .i64] := ⟨fun (c, (f : Int), _) => celB (celOf c) = true ∧ -1099511627776 ≤ f ∧ f ≤ 1099511627776, fun (c, (f : Int), _) => .si .i64 (openV (celOf c) f)⟩
set_option maxRecDepth 100000 in
theorem ropen_ok : FnSpec Try.prog 96 _ ropenS := by
  refine FnSpec.of SMa_ok mixed (U := 0) (I := fun _ => []) Try.func96 rfl (by kernel_rfl) rfl rfl (by decide +kernel) ?_
  rintro ⟨c, (f : Int), ⟨⟩⟩ hpre
  obtain ⟨c, rfl⟩ := cel_ex c
  have hpre : celB c = true ∧ -1099511627776 ≤ f ∧ f ≤ 1099511627776 := by have : celB (celOf (celD c)) = true ∧ -1099511627776 ≤ f ∧ f ≤ 1099511627776 := hpre; rwa [celOf_D] at this
  unfold FnSat
  conv => arg 2; reduce
  simp [ropenS, rvalS, ElEq, and_assoc]
  obtain ⟨hc, f1, f2⟩ := hpre
  have hc := celB_iff.1 hc
  have hv := sc_val hc.ocv f
  have := hc.sh0
  have := hc.sh1
  have vp := val_pre hc.ocv (by decide) (by decide)
  unfold openV
  exact ⟨vp.1, vp.2.1, vp.2.2.1, vp.2.2.2.1, vp.2.2.2.2, f1, f2, by omega, by omega, rfl⟩
def rresS : Spec [celSh, .int .i64, .int .i64] := ⟨fun (c, (t : Int), (w : Int), _) => celB (celOf c) = true ∧ 0 ≤ t ∧ t ≤ 400000 ∧ 0 ≤ w ∧ w ≤ 17179869184, fun (c, (t : Int), (w : Int), _) => .si .i64 (resV (celOf c) t w)⟩
set_option maxRecDepth 100000 in
theorem rres_ok : FnSpec Try.prog 95 _ rresS := by
  refine FnSpec.of SMa_ok mixed (U := 0) (I := fun _ => []) Try.func95 rfl (by kernel_rfl) rfl rfl (by decide +kernel) ?_
  rintro ⟨c, (t : Int), (w : Int), ⟨⟩⟩ hpre
  obtain ⟨c, rfl⟩ := cel_ex c
  have hpre : celB c = true ∧ 0 ≤ t ∧ t ≤ 400000 ∧ 0 ≤ w ∧ w ≤ 17179869184 := by have : celB (celOf (celD c)) = true ∧ 0 ≤ t ∧ t ≤ 400000 ∧ 0 ≤ w ∧ w ≤ 17179869184 := hpre; rwa [celOf_D] at this
  unfold FnSat
  conv => arg 2; reduce
  simp [rresS, rvalS, divS, clipS, ElEq, and_assoc]
  obtain ⟨hc, t0, t1, w0, w1⟩ := hpre
  have hc := celB_iff.1 hc
  have hv := sc_val hc.cold (400000 - t)
  have h1 := mul_in w0 w1 hc.gr0 hc.gr1
  have h2 := dvI_le (a := w * c.grow) (d := 65536) (m := 274877906944) (by decide) (by omega)
  have h3 := dvI_nonneg (a := w * c.grow) (d := 65536) (by decide) h1.1
  have := hc.ex0
  have := hc.ex1
  have vp := val_pre hc.cold (by decide) (by decide)
  unfold resV
  exact ⟨by omega, by omega, vp.1, vp.2.1, vp.2.2.1, vp.2.2.2.1, vp.2.2.2.2, by omega, by omega, by omega, by omega, by omega, by omega, by omega, by omega, by omega, by omega, rfl⟩
@[irreducible] def secV (r p : Int) : Int := if 0 < p then dvI (r * r) (1000 * p) else 0
def rsecS : Spec [.int .i64, .int .i64] := ⟨fun ((r : Int), (p : Int), _) => -8388608 ≤ r ∧ r ≤ 8388608 ∧ 0 ≤ p ∧ p ≤ 1048576, fun ((r : Int), (p : Int), _) => .si .i64 (secV r p)⟩
set_option maxRecDepth 100000 in
theorem rsec_ok : FnSpec Try.prog 128 _ rsecS := by
  refine FnSpec.of SMa_ok mixed (U := 0) (I := fun _ => []) Try.func128 rfl (by kernel_rfl) rfl rfl (by decide +kernel) ?_
  rintro ⟨(r : Int), (p : Int), ⟨⟩⟩ ⟨(r1 : -8388608 ≤ r), (r2 : r ≤ 8388608), (p1 : 0 ≤ p), (p2 : p ≤ 1048576)⟩
  unfold FnSat
  conv => arg 2; reduce
  simp [rsecS, divS, and_assoc]
  have m3 := sq_in (a := r) (A := 8388608) r1 r2
  refine ⟨fun h => ?_, fun h => ?_⟩
  · unfold secV; rw [if_neg (by omega)]
  · exact ⟨by omega, by omega, by omega, by omega, by omega, by omega, by omega, by unfold secV; rw [if_pos (by omega)]⟩
@[irreducible] def relV (k o i p : Int) : Int := dvI (1000 * k * o + (65536 - k) * i * p) 65536000
def rrelS : Spec [.int .i64, .int .i64, .int .i64, .int .i64] := ⟨fun ((k : Int), (o : Int), (i : Int), (p : Int), _) => 0 ≤ k ∧ k ≤ 65536 ∧ -8388608 ≤ o ∧ o ≤ 8388608 ∧ -1048576 ≤ i ∧ i ≤ 1048576 ∧ 0 ≤ p ∧ p ≤ 1048576,
  fun ((k : Int), (o : Int), (i : Int), (p : Int), _) => .si .i64 (relV k o i p)⟩
set_option maxRecDepth 100000 in
theorem rrel_ok : FnSpec Try.prog 107 _ rrelS := by
  refine FnSpec.of SMa_ok mixed (U := 0) (I := fun _ => []) Try.func107 rfl (by kernel_rfl) rfl rfl (by decide +kernel) ?_
  rintro ⟨(k : Int), (o : Int), (i : Int), (p : Int), ⟨⟩⟩ ⟨(k0 : 0 ≤ k), (k1 : k ≤ 65536), (o0 : -8388608 ≤ o), (o1 : o ≤ 8388608), (i0 : -1048576 ≤ i), (i1 : i ≤ 1048576), (p0 : 0 ≤ p), (p1 : p ≤ 1048576)⟩
  unfold FnSat
  conv => arg 2; reduce
  simp [rrelS, divS, and_assoc]
  have h1 := mul_ab (a := o) (b := 1000 * k) (A := 8388608) (B := 65536000) o0 o1 (by omega) (by omega)
  have h2 := mul_ab (a := i) (b := 65536 - k) (A := 1048576) (B := 65536) i0 i1 (by omega) (by omega)
  rw [Int.mul_comm o] at h1
  rw [Int.mul_comm i] at h2
  have h3 := mul_ab (a := (65536 - k) * i) (b := p) (A := 68719476736) (B := 1048576) (by omega) (by omega) p0 p1
  have e : dvI (1000 * k * o + (65536 - k) * i * p) 65536000 = relV k o i p := by unfold relV; rfl
  rw [e]
  repeat' (first | refine And.intro ?_ ?_ | intro _)
  all_goals first | omega | rfl
def SRh : Sums := ⟨(107, mkSum _ rrelS) :: (128, mkSum _ rsecS) :: (95, mkSum _ rresS) :: (96, mkSum _ ropenS) :: (97, mkSum _ pcS) :: SMa.one, SMa.two, SMa.lo, SMa.eqs, SMa.its, SMa.imm⟩
theorem SRh_ok : SumsOK Try.prog SRh := (((((SMa_ok.cons Try.func97 (by kernel_rfl) (by kernel_rfl) rfill_ok).cons Try.func96 (by kernel_rfl) (by kernel_rfl) ropen_ok).cons Try.func95 (by kernel_rfl) (by kernel_rfl) rres_ok).cons Try.func128 (by kernel_rfl) (by kernel_rfl) rsec_ok).cons Try.func107 (by kernel_rfl) (by kernel_rfl) rrel_ok)
def rheatS : Spec [celSh, staSh, .int .i64] := ⟨fun (c, s, (i : Int), _) => csE (celOf c) (staOf s) = 0 ∧ -1048576 ≤ i ∧ i ≤ 1048576, fun (c, s, (i : Int), _) => .si .i64 (heatV (celOf c) (staOf s) i)⟩
set_option maxRecDepth 100000 in
theorem rheat_ok : FnSpec Try.prog 108 _ rheatS := by
  refine FnSpec.of SRh_ok mixed (U := 0) (I := fun _ => []) Try.func108 rfl (by kernel_rfl) rfl rfl (by decide +kernel) ?_
  rintro ⟨c, s, (i : Int), ⟨⟩⟩ hpre
  obtain ⟨c, rfl⟩ := cel_ex c
  obtain ⟨s, rfl⟩ := sta_ex s
  have hpre : csE c s = 0 ∧ -1048576 ≤ i ∧ i ≤ 1048576 := by have : csE (celOf (celD c)) (staOf (staD s)) = 0 ∧ -1048576 ≤ i ∧ i ≤ 1048576 := hpre; rwa [celOf_D, staOf_D] at this
  obtain ⟨hcs, i1, i2⟩ := hpre
  obtain ⟨h1, h2⟩ := csE_iff.1 hcs
  unfold FnSat
  conv => arg 2; reduce
  simp [rheatS, rwearS, rresS, rsecS, divS, and_assoc]
  have hk := celB_iff.1 h1
  have := h2.h1
  have := h2.a1
  have hw : WearOK c s.th s.ag := ⟨hk.cy0, hk.cy1, hk.al0, hk.al1, h2.h0, by omega, h2.a0, by omega⟩
  have hw2 := wearV_in hw
  have ew : wearV c s.th s.ag = wV c s := by unfold wV; rfl
  have er : resV c s.tp (wearV c s.th s.ag) = rV c s := by unfold rV; rw [ew]
  have r := @rV_in c s
  rw [er]
  have m1 := sq_in i1 i2
  have m2 := mul_in m1.1 m1.2 r.1 r.2
  have hh := heatV_in h1 h2 i1 i2
  have e : dvI (i * i * rV c s) 1000000000 + secV s.rx c.pair = heatV c s i := by unfold heatV secV; rfl
  rw [e]
  exact ⟨hw, h1, h2.t0, h2.t1, by omega, by omega, by omega, by omega, by omega, by omega, by omega, by omega, h2.r0, h2.r1, hk.pr0, hk.pr1, by omega, by omega, rfl⟩
def rvoltS : Spec [celSh, staSh, .int .i64] := ⟨fun (c, s, (i : Int), _) => csE (celOf c) (staOf s) = 0 ∧ -1048576 ≤ i ∧ i ≤ 1048576, fun (c, s, (i : Int), _) => .si .i64 (voltV (celOf c) (staOf s) i)⟩
set_option maxRecDepth 100000 in
theorem rvolt_ok : FnSpec Try.prog 72 _ rvoltS := by
  refine FnSpec.of SRh_ok mixed (U := 0) (I := fun _ => []) Try.func72 rfl (by kernel_rfl) rfl rfl (by decide +kernel) ?_
  rintro ⟨c, s, (i : Int), ⟨⟩⟩ hpre
  obtain ⟨c, rfl⟩ := cel_ex c
  obtain ⟨s, rfl⟩ := sta_ex s
  have hpre : csE c s = 0 ∧ -1048576 ≤ i ∧ i ≤ 1048576 := by have : csE (celOf (celD c)) (staOf (staD s)) = 0 ∧ -1048576 ≤ i ∧ i ≤ 1048576 := hpre; rwa [celOf_D, staOf_D] at this
  obtain ⟨hcs, i1, i2⟩ := hpre
  obtain ⟨h1, h2⟩ := csE_iff.1 hcs
  unfold FnSat
  conv => arg 2; reduce
  simp [rvoltS, rwearS, rresS, rcapS, pcS, ropenS, divS, and_assoc]
  have hk := celB_iff.1 h1
  have := h2.h1
  have := h2.a1
  have hw : WearOK c s.th s.ag := ⟨hk.cy0, hk.cy1, hk.al0, hk.al1, h2.h0, by omega, h2.a0, by omega⟩
  have hw2 := wearV_in hw
  have ew : wearV c s.th s.ag = wV c s := by unfold wV; rfl
  have er : resV c s.tp (wearV c s.th s.ag) = rV c s := by unfold rV; rw [ew]
  have r := @rV_in c s
  rw [er]
  have m := mul_ab (a := i) (b := rV c s) (A := 1048576) (B := 1048576) i1 i2 r.1 r.2
  have ek : roomV c (wearV c s.th s.ag) = kV c s := by unfold kV; rw [ew]
  rw [ek]
  have k1 := kV_in h1 h2
  have q1 := q_in h2
  have f1 := fillV_in h1 h2
  have ef : pcV s.q (kV c s) = fillV c s := by unfold fillV; rfl
  rw [ef]
  have o1 := opnV_in (s := s) h1
  have eo : openV c (fillV c s) = opnV c s := by unfold opnV; rfl
  rw [eo]
  have d1 := dvI_le (a := i * rV c s) (d := 1000) (m := 1099511628) (by decide) (by omega)
  have d2 := dvI_ge (a := i * rV c s) (d := 1000) (m := -1099511628) (by decide) (by omega)
  have := h2.r0
  have := h2.r1
  have e : opnV c s - s.rx - dvI (i * rV c s) 1000 = voltV c s i := by unfold voltV; rfl
  rw [e]
  have v := voltV_in h1 h2 i1 i2
  exact ⟨hw, h1, h2.t0, h2.t1, by omega, by omega, hw, by have := hk.cap0; omega, hk.cap1, by omega, by omega, by omega, h1, by omega, by omega, by omega, by omega, by omega, by omega, by omega, by omega, by omega, by omega, rfl⟩
def SRi : Sums := ⟨(72, mkSum _ rvoltS) :: (108, mkSum _ rheatS) :: SRh.one, SRh.two, SRh.lo, SRh.eqs, SRh.its, SRh.imm⟩
theorem SRi_ok : SumsOK Try.prog SRi := ((SRh_ok.cons Try.func108 (by kernel_rfl) (by kernel_rfl) rheat_ok).cons Try.func72 (by kernel_rfl) (by kernel_rfl) rvolt_ok)
def rnextS : Spec [celSh, staSh, inSh] := ⟨fun (c, s, ((i : Int), (a : Int), _), _) => csE (celOf c) (staOf s) = 0 ∧ -1048576 ≤ i ∧ i ≤ 1048576 ∧ 0 ≤ a ∧ a ≤ 400000, fun (c, s, ((i : Int), (a : Int), _), _) =>
  .agg [.si .i64 (nxQ (celOf c) (staOf s) i), .si .i64 (nxR (celOf c) (staOf s) i), .si .i64 (nxT (celOf c) (staOf s) i a), .si .i64 (nxH (staOf s) i), .si .i64 (nxA (celOf c) (staOf s))]⟩
set_option maxRecDepth 100000 in
set_option maxHeartbeats 2000000 in
theorem rnext_ok : FnSpec Try.prog 81 _ rnextS := by
  refine FnSpec.of SRi_ok mixed (U := 0) (I := fun _ => []) Try.func81 rfl (by kernel_rfl) rfl rfl (by decide +kernel) ?_
  rintro ⟨c, s, ⟨(i : Int), (a : Int), ⟨⟩⟩, ⟨⟩⟩ hpre
  obtain ⟨c, rfl⟩ := cel_ex c
  obtain ⟨s, rfl⟩ := sta_ex s
  have hpre : csE c s = 0 ∧ -1048576 ≤ i ∧ i ≤ 1048576 ∧ 0 ≤ a ∧ a ≤ 400000 := by have : csE (celOf (celD c)) (staOf (staD s)) = 0 ∧ -1048576 ≤ i ∧ i ≤ 1048576 ∧ 0 ≤ a ∧ a ≤ 400000 := hpre; rwa [celOf_D, staOf_D] at this
  obtain ⟨hcs, i1, i2, a1, a2⟩ := hpre
  obtain ⟨h1, h2⟩ := csE_iff.1 hcs
  unfold FnSat
  conv => arg 2; reduce
  simp [rnextS, rheatS, rvalS, rrelS, rcapS, clipS, divS, ElEq, and_assoc]
  have hk := celB_iff.1 h1
  have sth : ∀ a b d e f : Int, (staOf (a, b, d, e, f, PUnit.unit)).th = e := fun a b d e f => by unfold staOf; simp
  have sag : ∀ a b d e f : Int, (staOf (a, b, d, e, f, PUnit.unit)).ag = f := fun a b d e f => by unfold staOf; simp
  simp only [sth, sag]
  have vs := sc_val hk.stress s.tp
  have hh := heatV_in h1 h2 i1 i2
  have d1 := dvI_le (a := 1000 * heatV c s i) (d := c.hcap) (m := 71530000000000000) hk.hc0 (by
    have := Int.mul_le_mul_of_nonneg_left hk.hc0 (show (0 : Int) ≤ 71530000000000000 by decide)
    omega)
  have d2 := dvI_nonneg (a := 1000 * heatV c s i) (d := c.hcap) hk.hc0 (by omega)
  have := h2.t0
  have := h2.t1
  have := h2.h0
  have := h2.h1
  have := h2.a0
  have := h2.a1
  have q1 := q_in h2
  have k1 := kV_in h1 h2
  have m4 := mul_ab (a := a - s.tp) (b := c.cool) (A := 400000) (B := 65536) (by omega) (by omega) hk.co0 hk.co1
  have d3 := dvI_le (a := (a - s.tp) * c.cool) (d := 65536) (m := 400000) (by decide) (by omega)
  have d4 := dvI_ge (a := (a - s.tp) * c.cool) (d := 65536) (m := -400000) (by decide) (by omega)
  have := hk.lk0
  have := hk.lk1
  have hw : WearOK c (s.th + max i (-i)) (s.ag + valL c.stress s.tp) := ⟨hk.cy0, hk.cy1, hk.al0, hk.al1, by omega, by omega, by omega, by omega⟩
  have e3 : wearV c (s.th + max i (-i)) (s.ag + valL c.stress s.tp) = wearV c (nxH s i) (nxA c s) := by unfold nxH nxA; rfl
  have vp := val_pre hk.stress (by decide) (by decide)
  exact ⟨by omega, by omega, by omega, by omega, vp.1, vp.2.1, vp.2.2.1, vp.2.2.2.1, vp.2.2.2.2, by omega, by omega, by omega, by omega, hk.kp0, hk.kp1, h2.r0, h2.r1, i1, i2, hk.pr0, hk.pr1, hcs, i1, i2, by omega, by omega, by omega, by omega, hk.hc0, by omega, by omega, by omega, by omega, by omega, by omega, by omega, by omega,
    by omega, by omega, by omega, by omega, by omega, by omega, hw, by have := hk.cap0; omega, hk.cap1, by unfold nxQ; rw [e3], by unfold nxR slackV relV; rw [Int.mul_assoc (65536 - c.keep)], by unfold nxT; rfl, by unfold nxH; rfl, by unfold nxA; rfl⟩
def SRj : Sums := ⟨(81, mkSum _ rnextS) :: SRi.one, SRi.two, SRi.lo, SRi.eqs, SRi.its, SRi.imm⟩
theorem SRj_ok : SumsOK Try.prog SRj := (SRi_ok.cons Try.func81 (by kernel_rfl) (by kernel_rfl) rnext_ok)
def routS : Spec [celSh, staSh, limSh, .int .i64, .int .i64] := ⟨fun (c, s, _, (a : Int), (i : Int), _) => csE (celOf c) (staOf s) = 0 ∧ 0 ≤ a ∧ a ≤ 400000 ∧ 0 ≤ i ∧ i ≤ 1048576, fun (c, s, ((l : Int), (_ : Int), (_ : Int), (_ : Int), (h : Int), _), (a : Int), (i : Int), _) => .sb (outP (celOf c) (staOf s) l h a i)⟩
def rinS : Spec [celSh, staSh, limSh, .int .i64, .int .i64] := ⟨fun (c, s, _, (a : Int), (i : Int), _) => csE (celOf c) (staOf s) = 0 ∧ 0 ≤ a ∧ a ≤ 400000 ∧ 0 ≤ i ∧ i ≤ 1048576, fun (c, s, ((_ : Int), (m : Int), (_ : Int), (_ : Int), (h : Int), _), (a : Int), (i : Int), _) => .sb (inP (celOf c) (staOf s) m h a i)⟩
def SRk : Sums := ⟨SRj.one, SRj.two, SRj.lo, SRj.eqs, SRj.its, SRj.imm⟩
theorem SRk_ok : SumsOK Try.prog SRk := SRj_ok
end
end Abs
end Go.Proofs.Yteoaeodalknkiaa

/- Cells, by the document: the voltage and the step, with their refusals. -/
namespace Go.Proofs.Yteoaeodalknkiaa
namespace Abs
open Go Go.RowKit
noncomputable section
attribute [local irreducible] FnSat
def rcurS : Spec [celSh, staSh, .int .i64] := ⟨fun (c, _) => CelMax (celOf c), fun (c, s, (i : Int), _) => .si .i64 (aE (celOf c) (staOf s) (wiE i))⟩
set_option maxRecDepth 100000 in
set_option maxHeartbeats 2000000 in
theorem rcur_ok : FnSpec Try.prog 71 _ rcurS := by
  refine FnSpec.of SRk_ok mixed (U := 0) (I := fun _ => []) Try.func71 rfl (by kernel_rfl) rfl rfl (by decide +kernel) ?_
  rintro ⟨c, s, (i : Int), ⟨⟩⟩ hpre
  obtain ⟨c, rfl⟩ := cel_ex c
  obtain ⟨s, rfl⟩ := sta_ex s
  have hpre : CelMax c := by have : CelMax (celOf (celD c)) := hpre; rwa [celOf_D] at this
  unfold FnSat
  conv => arg 2; reduce
  simp [rcurS, cstS, betS, and_assoc]
  refine ⟨hpre, fun h => ⟨hpre, (aE_no h).symm⟩, fun h => ⟨fun h' => ?_, fun i1 i2 => ?_⟩⟩
  · rw [aE_yes h]
    unfold wiE
    rw [if_neg (by rw [curI_iff]; omega)]
  · rw [aE_yes h]
    unfold wiE
    rw [if_pos (curI_iff.2 ⟨i1, i2⟩)]
def SEv1 : Sums := ⟨(71, mkSum _ rcurS) :: SRk.one, SRk.two, SRk.lo, SRk.eqs, SRk.its, SRk.imm⟩
theorem SEv1_ok : SumsOK Try.prog SEv1 := (SRk_ok.cons Try.func71 (by kernel_rfl) (by kernel_rfl) rcur_ok)
theorem aEw_0 {c : Cel} {s : Sta} {i : Int} (h : aE c s (wiE i) = 0) : csE c s = 0 ∧ curI i = true := by
  by_cases hc : csE c s = 0
  · rw [aE_yes hc] at h
    refine ⟨hc, ?_⟩
    cases hi : curI i with
    | true => rfl
    | false => unfold wiE at h; rw [hi] at h; simp at h
  · rw [aE_no hc] at h; exact absurd h hc
theorem aEw_no {c : Cel} {s : Sta} {i x : Int} (h : ¬aE c s (wiE i) = 0) : aV c s (wiV i x) = 0 := by
  by_cases hc : csE c s = 0
  · rw [aV_yes hc]
    rw [aE_yes hc] at h
    unfold wiE at h
    unfold wiV
    split at h
    · exact absurd rfl h
    · rename_i h'; rw [if_neg h']
  · exact aV_no hc
set_option maxRecDepth 100000 in
set_option maxHeartbeats 2000000 in
theorem rvol_ok : FnSpec Try.prog 39 _ volS := by
  refine FnSpec.of SEv1_ok mixed (U := 0) (I := fun _ => []) Try.func39 rfl (by kernel_rfl) rfl rfl (by decide +kernel) ?_
  rintro ⟨c, s, (i : Int), ⟨⟩⟩ hpre
  obtain ⟨c, rfl⟩ := cel_ex c
  obtain ⟨s, rfl⟩ := sta_ex s
  have hpre : CelMax c := by have : CelMax (celOf (celD c)) := hpre; rwa [celOf_D] at this
  unfold FnSat
  conv => arg 2; reduce
  simp [volS, rcurS, rvoltS, and_assoc]
  refine ⟨hpre, fun h => ⟨hpre, (aEw_no h).symm⟩, fun h => ?_⟩
  obtain ⟨hc, hi⟩ := aEw_0 h
  have hi' := curI_iff.1 hi
  refine ⟨hc, hi'.1, hi'.2, ?_, h.symm⟩
  rw [aV_yes hc]; unfold wiV; rw [if_pos hi]
theorem stA_z {c : Cel} {s : Sta} {i a : Int} (h : ¬stAE c s i a = 0) : 0 = (stA c s i a).q ∧ 0 = (stA c s i a).rx ∧ 0 = (stA c s i a).tp ∧ 0 = (stA c s i a).th ∧ 0 = (stA c s i a).ag := by
  unfold stA
  rw [Sta.q_mk, Sta.rx_mk, Sta.tp_mk, Sta.th_mk, Sta.ag_mk]
  by_cases hc : csE c s = 0
  · have h2 : stpE c s i a ≠ 0 := by unfold stAE at h; rwa [aE_yes hc] at h
    simp [aV_yes hc, stpV_no h2]
  · simp [aV_no hc]
theorem stAE_1 {c : Cel} {s : Sta} {i a : Int} (h : ¬aE c s (wiE i) = 0) : aE c s (wiE i) = stAE c s i a := by
  unfold stAE
  by_cases hc : csE c s = 0
  · rw [aE_yes hc] at h ⊢
    rw [aE_yes hc]
    unfold wiE at h ⊢
    unfold stpE
    split at h
    · exact absurd rfl h
    · rename_i hi
      rw [if_neg hi, if_neg]
      rw [inB_iff]
      rw [curI_iff] at hi
      omega
  · rw [aE_no hc, aE_no hc]
theorem stAE_2 {c : Cel} {s : Sta} {i a : Int} (hc : csE c s = 0) (h : a < 0 ∨ 400000 < a) : 3 = stAE c s i a := by
  unfold stAE
  rw [aE_yes hc]
  unfold stpE
  rw [if_neg]
  rw [inB_iff]
  omega
set_option maxRecDepth 100000 in
set_option maxHeartbeats 4000000 in
theorem rstp_ok : FnSpec Try.prog 49 _ stpT := by
  refine FnSpec.of SEv1_ok mixed (U := 0) (I := fun _ => []) Try.func49 rfl (by kernel_rfl) rfl rfl (by decide +kernel) ?_
  rintro ⟨c, s, ⟨(i : Int), (a : Int), ⟨⟩⟩, ⟨⟩⟩ hpre
  obtain ⟨c, rfl⟩ := cel_ex c
  obtain ⟨s, rfl⟩ := sta_ex s
  have hpre : CelMax c := by have : CelMax (celOf (celD c)) := hpre; rwa [celOf_D] at this
  unfold FnSat
  conv => arg 2; reduce
  simp [stpT, rcurS, rnextS, betS, and_assoc]
  have fin : ∀ e : Int, e ≠ 0 → e = stAE c s i a → 0 = (stA c s i a).q ∧ 0 = (stA c s i a).rx ∧ 0 = (stA c s i a).tp ∧ 0 = (stA c s i a).th ∧ 0 = (stA c s i a).ag ∧ e = stAE c s i a := fun e h1 h2 => by
    obtain ⟨z1, z2, z3, z4, z5⟩ := stA_z (show ¬stAE c s i a = 0 by omega)
    exact ⟨z1, z2, z3, z4, z5, h2⟩
  refine ⟨hpre, fun h => ⟨hpre, fin _ h (stAE_1 h)⟩, fun h => ?_⟩
  obtain ⟨hc, hi⟩ := aEw_0 h
  have hi' := curI_iff.1 hi
  refine ⟨fun h' => fin 3 (by decide) (stAE_2 hc h'), fun a0 a1 => ⟨hc, hi'.1, hi'.2, a0, a1, fun h' => fin 4 (by decide) ?_, fun h1 h2 => ?_⟩⟩
  · unfold stAE
    rw [aE_yes hc]
    unfold stpE ovr
    rw [if_pos (inB_iff.2 ⟨hi', a0, a1⟩), if_pos (by simpa using h')]
  · have e0 : stAE c s i a = 0 := (stA_iff hc).1.2 ⟨inB_iff.2 ⟨hi', a0, a1⟩, by unfold ovr; simp; omega⟩
    rw [stA_0 hc e0, Sta.q_mk, Sta.rx_mk, Sta.tp_mk, Sta.th_mk, Sta.ag_mk, e0]
    simp
set_option maxRecDepth 100000 in
set_option maxHeartbeats 2000000 in
theorem rcpt_ok : FnSpec Try.prog 48 _ capS := by
  refine FnSpec.of SEv1_ok mixed (U := 0) (I := fun _ => []) Try.func48 rfl (by kernel_rfl) rfl rfl (by decide +kernel) ?_
  rintro ⟨c, s, ⟨⟩⟩ hpre
  obtain ⟨c, rfl⟩ := cel_ex c
  obtain ⟨s, rfl⟩ := sta_ex s
  have hpre : CelMax c := by have : CelMax (celOf (celD c)) := hpre; rwa [celOf_D] at this
  unfold FnSat
  conv => arg 2; reduce
  simp [capS, cstS, rcapS, and_assoc]
  refine ⟨hpre, fun h => ⟨hpre, (aV_no h).symm, (aE_no h).symm⟩, fun h => ?_⟩
  obtain ⟨hc, hs⟩ := csE_iff.1 h
  have hk := celB_iff.1 hc
  have := hk.cap0
  have := hk.cap1
  have := hs.h0
  have := hs.h1
  have := hs.a0
  have := hs.a1
  rw [aV_yes h, aE_yes h]
  refine ⟨⟨hk.cy0, hk.cy1, hk.al0, hk.al1, by omega, by omega, by omega, by omega⟩, by omega, by omega, ?_, rfl⟩
  unfold kV wV; rfl
def SEv : Sums := ⟨(48, mkSum _ capS) :: (49, mkSum _ stpT) :: (39, mkSum _ volS) :: SEv1.one, SEv1.two, SEv1.lo, SEv1.eqs, SEv1.its, SEv1.imm⟩
theorem SEv_ok : SumsOK Try.prog SEv := (((SEv1_ok.cons Try.func39 (by kernel_rfl) (by kernel_rfl) rvol_ok).cons Try.func49 (by kernel_rfl) (by kernel_rfl) rstp_ok).cons Try.func48 (by kernel_rfl) (by kernel_rfl) rcpt_ok)
end
end Abs
end Go.Proofs.Yteoaeodalknkiaa

/- Sensors: plain numbers. -/
namespace Go.Proofs.Yteoaeodalknkiaa
namespace Abs
open Go
@[irreducible] def sensOK (a b c d : Int) : Bool := isIn 0 a 1073741824 && isIn 1 b 1073741824 && isIn (-1073741824) c 1073741824 && isIn c d 1073741824
@[irreducible] def errB (b : Bool) : Int := if b then 0 else 2
@[reducible] def senSh : Sh := .agg [.int .i64, .int .i64, .int .i64, .int .i64]
def check : Spec [senSh] := ⟨fun _ => True, fun ((a, b, c, d, _), _) => .si .i64 (errB (sensOK a b c d))⟩
@[irreducible] def stepV (b y : Int) : Int := b * ((y + b / 2) / b)
@[irreducible] def showV (a b c d x n : Int) : Int := if sensOK a b c d && isQ x && isIn (-a) n a then intoV (stepV b (x + n)) c d else 0
@[irreducible] def showE (a b c d x n : Int) : Int := if sensOK a b c d && isQ x then (if isIn (-a) n a then 0 else 3) else 2
theorem stepV_lo (b y : Int) (hb : 1 ≤ b) : y + b / 2 - b < stepV b y := by
  unfold stepV
  have h1 := Int.mul_ediv_add_emod (y + b / 2) b
  have h2 := Int.emod_lt_of_pos (y + b / 2) (show 0 < b by omega)
  omega
theorem stepV_hi (b y : Int) (hb : 1 ≤ b) : stepV b y ≤ y + b / 2 := by
  unfold stepV
  have h1 := Int.mul_ediv_add_emod (y + b / 2) b
  have h2 := Int.emod_nonneg (y + b / 2) (show b ≠ 0 by omega)
  omega
def show_ : Spec [senSh, .int .i64, .int .i64] := ⟨fun _ => True, fun ((a, b, c, d, _), x, n, _) => .tup [.si .i64 (showV a b c d x n), .si .i64 (showE a b c d x n)]⟩
theorem showE_2 {a b c d x n : Int} (h : (sensOK a b c d && isQ x) = false) : showV a b c d x n = 0 ∧ showE a b c d x n = 2 := by
  unfold showV showE; rw [h]; simp
theorem showE_3 {a b c d x n : Int} (h : (sensOK a b c d && isQ x) = true) (h' : isIn (-a) n a = false) : showV a b c d x n = 0 ∧ showE a b c d x n = 3 := by
  unfold showV showE; rw [h, h']; simp
theorem showE_0 {a b c d x n : Int} (h : (sensOK a b c d && isQ x) = true) (h' : isIn (-a) n a = true) : showV a b c d x n = intoV (stepV b (x + n)) c d ∧ showE a b c d x n = 0 := by
  unfold showV showE; rw [h, h']; simp

-- what is behind a reading
@[irreducible] def readOK (b c d r : Int) : Bool := isIn c r d && (decide (r = c) || decide (r = d) || decide (r % b = 0))
@[irreducible] def behE (a b c d r : Int) : Int := if sensOK a b c d then (if readOK b c d r then 0 else 5) else 2
@[irreducible] def behLo (a b c d r : Int) : Int := if sensOK a b c d && readOK b c d r then (if c < r then b * -(-r / b) - b / 2 - a else -1099511627776) else 0
@[irreducible] def behHi (a b c d r : Int) : Int := if sensOK a b c d && readOK b c d r then (if r < d then b * (r / b) + b - 1 - b / 2 + a else 1099511627776) else 0
def behind : Spec [senSh, .int .i64] := ⟨fun _ => True, fun ((a, b, c, d, _), r, _) => .tup [.agg [.si .i64 (behLo a b c d r), .si .i64 (behHi a b c d r)], .si .i64 (behE a b c d r)]⟩
theorem beh_2 {a b c d r : Int} (h : sensOK a b c d = false) : behLo a b c d r = 0 ∧ behHi a b c d r = 0 ∧ behE a b c d r = 2 := by
  unfold behLo behHi behE; rw [h]; simp
theorem beh_5 {a b c d r : Int} (h : sensOK a b c d = true) (h' : readOK b c d r = false) : behLo a b c d r = 0 ∧ behHi a b c d r = 0 ∧ behE a b c d r = 5 := by
  unfold behLo behHi behE; rw [h, h']; simp
theorem beh_0 {a b c d r : Int} (h : sensOK a b c d = true) (h' : readOK b c d r = true) :
    behLo a b c d r = (if c < r then b * -(-r / b) - b / 2 - a else -1099511627776) ∧ behHi a b c d r = (if r < d then b * (r / b) + b - 1 - b / 2 + a else 1099511627776) ∧ behE a b c d r = 0 := by
  unfold behLo behHi behE; rw [h, h']; simp
theorem mul_div_le (r b : Int) (hb : 1 ≤ b) : b * (r / b) ≤ r ∧ r < b * (r / b) + b := by
  have h1 := Int.mul_ediv_add_emod r b
  have h2 := Int.emod_nonneg r (show b ≠ 0 by omega)
  have h3 := Int.emod_lt_of_pos r (show 0 < b by omega)
  omega
theorem mul_cdiv_le (r b : Int) (hb : 1 ≤ b) : r ≤ b * -(-r / b) ∧ b * -(-r / b) < r + b := by
  have := mul_div_le (-r) b hb
  rw [Int.mul_neg]
  omega
theorem le_step (b y r : Int) (hb : 1 ≤ b) : r ≤ stepV b y ↔ b * -(-r / b) ≤ y + b / 2 := by
  unfold stepV
  have h1 : b * -(-r / b) ≤ y + b / 2 ↔ -(-r / b) ≤ (y + b / 2) / b := by rw [Int.le_ediv_iff_mul_le (by omega), Int.mul_comm]
  have h2 : -((y + b / 2) / b) ≤ -r / b ↔ -((y + b / 2) / b) * b ≤ -r := Int.le_ediv_iff_mul_le (by omega)
  rw [Int.neg_mul, Int.mul_comm ((y + b / 2) / b) b] at h2
  omega
theorem lt_step (b y r : Int) (hb : 1 ≤ b) : r < stepV b y ↔ b * (r / b) + b ≤ y + b / 2 := by
  unfold stepV
  have h1 : (r / b + 1) ≤ (y + b / 2) / b ↔ (r / b + 1) * b ≤ y + b / 2 := Int.le_ediv_iff_mul_le (by omega)
  have h2 : r / b < (y + b / 2) / b ↔ r < (y + b / 2) / b * b := Int.ediv_lt_iff_lt_mul (by omega)
  rw [Int.add_mul, Int.one_mul, Int.mul_comm (r / b) b] at h1
  rw [Int.mul_comm ((y + b / 2) / b) b] at h2
  omega
@[irreducible] def thr1 (a b c d r : Int) : Int := if r ≤ c then -1099511627776 else if d < r then 1099511627777 else b * -(-r / b) - b / 2 - a
@[irreducible] def thr2 (a b c d r : Int) : Int := if d ≤ r then 1099511627777 else if r < c then -1099511627776 else b * (r / b) + b - b / 2 + a
theorem sens_of {a b c d : Int} (h : sensOK a b c d = true) : 0 ≤ a ∧ a ≤ 1073741824 ∧ 1 ≤ b ∧ b ≤ 1073741824 ∧ -1073741824 ≤ c ∧ c ≤ d ∧ d ≤ 1073741824 := by
  simp [sensOK] at h; omega
theorem thr1_in {a b c d r : Int} (h : sensOK a b c d = true) : -1099511627776 ≤ thr1 a b c d r ∧ thr1 a b c d r ≤ 1099511627777 := by
  have := sens_of h
  have := mul_cdiv_le r b (by omega)
  unfold thr1; split
  · omega
  · split <;> omega
theorem thr2_in {a b c d r : Int} (h : sensOK a b c d = true) : -1099511627776 ≤ thr2 a b c d r ∧ thr2 a b c d r ≤ 1099511627777 := by
  have := sens_of h
  have := mul_div_le r b (by omega)
  unfold thr2; split
  · omega
  · split <;> omega
theorem thr1_iff {a b c d r x : Int} (h : sensOK a b c d = true) (h1 : -1099511627776 ≤ x) (h2 : x ≤ 1099511627776) : r ≤ intoV (stepV b (x + a)) c d ↔ thr1 a b c d r ≤ x := by
  have := sens_of h
  have := le_step b (x + a) r (by omega)
  unfold thr1 intoV; split
  · omega
  · split <;> omega
theorem thr2_iff {a b c d r x : Int} (h : sensOK a b c d = true) (h1 : -1099511627776 ≤ x) (h2 : x ≤ 1099511627776) : r < intoV (stepV b (x - a)) c d ↔ thr2 a b c d r ≤ x := by
  have := sens_of h
  have := lt_step b (x - a) r (by omega)
  unfold thr2 intoV; split
  · omega
  · split <;> omega
@[irreducible] def showsV (a b c d x r : Int) : Bool := decide (intoV (stepV b (x - a)) c d ≤ r) && decide (r ≤ intoV (stepV b (x + a)) c d) &&
  (decide (r = intoV (stepV b (x - a)) c d) || decide (r = intoV (stepV b (x + a)) c d) || decide (r % b = 0))
def shows : Spec [senSh, .int .i64, .int .i64] := ⟨fun ((a, b, c, d, _), (x : Int), _) => sensOK a b c d = true ∧ -1099511627776 ≤ x ∧ x ≤ 1099511627777, fun ((a, b, c, d, _), x, r, _) => .sb (showsV a b c d x r)⟩
theorem stepV_mod (b y : Int) : stepV b y % b = 0 := by unfold stepV; exact Int.mul_emod_right _ _
theorem ref_beh {a b c d r : Int} (h : sensOK a b c d = true) : (thr1 a b c d r < thr2 a b c d r ∧ showsV a b c d (thr1 a b c d r) r = true) ↔ readOK b c d r = true := by
  have h0 := sens_of h
  have hm1 := mul_div_le r b (by omega)
  have hm2 := mul_cdiv_le r b (by omega)
  have h1 := thr1_in h (r := r)
  have h2 := thr2_in h (r := r)
  constructor
  · rintro ⟨h3, h4⟩
    simp [showsV] at h4
    have hr : c ≤ r ∧ r ≤ d := by
      have h5 := h4.1.1; have h6 := h4.1.2
      unfold intoV at h5 h6; omega
    unfold readOK
    simp
    refine ⟨hr, ?_⟩
    by_cases hc : r = c
    · exact .inl (.inl hc)
    by_cases hd : r = d
    · exact .inl (.inr hd)
    right
    have e := stepV_mod b
    rcases h4.2 with (h6 | h6) | h6
    · unfold intoV at h6
      have : r = stepV b (thr1 a b c d r - a) := by omega
      rw [this]; exact e _
    · unfold intoV at h6
      have : r = stepV b (thr1 a b c d r + a) := by omega
      rw [this]; exact e _
    · exact h6
  · intro h3
    simp [readOK] at h3
    have hz : r % b = 0 → b * (r / b) = r ∧ b * -(-r / b) = r := fun hz => by
      have h1 := Int.mul_ediv_add_emod r b
      obtain ⟨k, hk⟩ := Int.dvd_of_emod_eq_zero hz
      constructor
      · omega
      · rw [hk, ← Int.mul_neg, Int.mul_ediv_cancel_left _ (by omega)]; simp
    have ht : thr1 a b c d r < thr2 a b c d r := by
      unfold thr1 thr2
      split
      · split
        · omega
        · split <;> omega
      · split
        · omega
        · split
          · omega
          · have := hz (by omega); split <;> omega
    refine ⟨ht, ?_⟩
    have h5 : r ≤ intoV (stepV b (thr1 a b c d r + a)) c d := by
      by_cases hq : thr1 a b c d r ≤ 1099511627776
      · exact (thr1_iff h h1.1 hq).2 (Int.le_refl _)
      · omega
    have h6 : intoV (stepV b (thr1 a b c d r - a)) c d ≤ r := by
      by_cases hq : thr1 a b c d r ≤ 1099511627776
      · have := thr2_iff h (r := r) h1.1 hq; omega
      · omega
    have h7 := stepV_hi b (thr1 a b c d r + a) (by omega)
    have h8 := stepV_lo b (thr1 a b c d r + a) (by omega)
    unfold showsV
    simp
    refine ⟨⟨h6, h5⟩, ?_⟩
    by_cases hzz : r % b = 0
    · exact .inr hzz
    · left; right
      have : r = c ∨ r = d := by omega
      have e1 : thr1 a b c d r = if r ≤ c then -1099511627776 else if d < r then 1099511627777 else b * -(-r / b) - b / 2 - a := by unfold thr1; rfl
      unfold intoV at h5 ⊢
      split at e1
      · omega
      · omega
theorem ref_eq {a b c d r : Int} (h : sensOK a b c d = true) (h' : readOK b c d r = true) : behLo a b c d r = thr1 a b c d r ∧ behHi a b c d r = thr2 a b c d r - 1 := by
  obtain ⟨h1, h2, _⟩ := beh_0 h h'
  simp [readOK] at h'
  rw [h1, h2]
  unfold thr1 thr2
  constructor
  · split
    · rw [if_neg (by omega), if_neg (by omega)]
    · rw [if_pos (by omega)]
  · split
    · rw [if_neg (by omega), if_neg (by omega)]; omega
    · rw [if_pos (by omega)]; omega
end Abs
end Go.Proofs.Yteoaeodalknkiaa

/- The sensors of a cell: what they show, by the program and by the document. -/
namespace Go.Proofs.Yteoaeodalknkiaa
namespace Abs
open Go Go.RowKit
noncomputable section
attribute [local irreducible] FnSat
set_option maxRecDepth 100000 in
theorem ewi_ok : FnSpec Try.prog 34 _ betS := by
  refine FnSpec.of SEv_ok mixed (U := 0) (I := fun _ => []) Try.func34 rfl (by kernel_rfl) rfl rfl (by decide +kernel) ?_
  rintro ⟨(x : Int), (lo : Int), (hi : Int), ⟨⟩⟩ -
  unfold FnSat
  conv => arg 2; reduce
  simp [betS, isIn]
set_option maxRecDepth 100000 in
theorem efl_ok : FnSpec Try.prog 60 _ divS := by
  refine FnSpec.of SEv_ok mixed (U := 0) (I := fun _ => []) Try.func60 rfl (by kernel_rfl) rfl rfl (by decide +kernel) ?_
  rintro ⟨(n : Int), (d : Int), ⟨⟩⟩ ⟨(h1 : -4611686018427387904 ≤ n), (h2 : n ≤ 4611686018427387904), (h3 : 1 ≤ d)⟩
  unfold FnSat
  conv => arg 2; reduce
  simp [divS, and_assoc]
  exact dvI_by h1 h2 h3
set_option maxRecDepth 100000 in
theorem rin3_ok : FnSpec Try.prog 42 _ betS := by
  refine FnSpec.of SEv_ok mixed (U := 0) (I := fun _ => []) Try.func42 rfl (by kernel_rfl) rfl rfl (by decide +kernel) ?_
  rintro ⟨(x : Int), (lo : Int), (hi : Int), ⟨⟩⟩ -
  unfold FnSat
  conv => arg 2; reduce
  simp [betS, isIn]
def SEs1 : Sums := ⟨(42, mkSum _ betS) :: (60, mkSum _ divS) :: (34, mkSum _ betS) :: SEv.one, SEv.two, SEv.lo, SEv.eqs, SEv.its, SEv.imm⟩
theorem SEs1_ok : SumsOK Try.prog SEs1 := (((SEv_ok.cons Try.func34 (by kernel_rfl) (by kernel_rfl) ewi_ok).cons Try.func60 (by kernel_rfl) (by kernel_rfl) efl_ok).cons Try.func42 (by kernel_rfl) (by kernel_rfl) rin3_ok)
set_option maxRecDepth 100000 in
theorem ecs_ok : FnSpec Try.prog 30 _ check := by
  refine FnSpec.of SEs1_ok mixed (U := 0) (I := fun _ => []) Try.func30 rfl (by kernel_rfl) rfl rfl (by decide +kernel) ?_
  rintro ⟨⟨(a : Int), (b : Int), (c : Int), (d : Int), ⟨⟩⟩, ⟨⟩⟩ -
  unfold FnSat
  conv => arg 2; reduce
  simp [check, betS, errB, sensOK]
  omega
set_option maxRecDepth 100000 in
theorem rcs_ok : FnSpec Try.prog 35 _ check := by
  refine FnSpec.of SEs1_ok mixed (U := 0) (I := fun _ => []) Try.func35 rfl (by kernel_rfl) rfl rfl (by decide +kernel) ?_
  rintro ⟨⟨(a : Int), (b : Int), (c : Int), (d : Int), ⟨⟩⟩, ⟨⟩⟩ -
  unfold FnSat
  conv => arg 2; reduce
  simp [check, betS, errB, sensOK]
  omega
def steps : Spec [senSh, .int .i64] := ⟨fun ((_, (b : Int), _, _, _), (y : Int), _) => 1 ≤ b ∧ b ≤ 1073741824 ∧ -4398046511104 ≤ y ∧ y ≤ 4398046511104, fun ((_, (b : Int), _, _, _), (y : Int), _) => .si .i64 (stepV b y)⟩
set_option maxRecDepth 100000 in
theorem steps_ok : FnSpec Try.prog 73 _ steps := by
  refine FnSpec.of SEs1_ok mixed (U := 0) (I := fun _ => []) Try.func73 rfl (by kernel_rfl) rfl rfl (by decide +kernel) ?_
  rintro ⟨⟨(a : Int), (b : Int), (c : Int), (d : Int), ⟨⟩⟩, (y : Int), ⟨⟩⟩ ⟨(h1 : 1 ≤ b), (h2 : b ≤ 1073741824), (h3 : -4398046511104 ≤ y), (h4 : y ≤ 4398046511104)⟩
  unfold FnSat
  conv => arg 2; reduce
  have ht := tdiv2 b (by omega)
  have e1 : stepV b y = b * dvI (y + b / 2) b := by unfold stepV dvI; rfl
  have l1 := stepV_lo b y h1
  have l2 := stepV_hi b y h1
  simp [steps, divS, ht]
  rw [← e1]
  repeat' (first | refine And.intro ?_ ?_ | intro _)
  all_goals first | omega | rfl
def SEs2 : Sums := ⟨(73, mkSum _ steps) :: (35, mkSum _ check) :: (30, mkSum _ check) :: SEs1.one, SEs1.two, SEs1.lo, SEs1.eqs, SEs1.its, SEs1.imm⟩
theorem SEs2_ok : SumsOK Try.prog SEs2 := (((SEs1_ok.cons Try.func30 (by kernel_rfl) (by kernel_rfl) ecs_ok).cons Try.func35 (by kernel_rfl) (by kernel_rfl) rcs_ok).cons Try.func73 (by kernel_rfl) (by kernel_rfl) steps_ok)
theorem clip_into (x lo hi : Int) : clipV x lo hi = intoV x lo hi := by unfold clipV intoV; omega
set_option maxRecDepth 100000 in
theorem esh_ok : FnSpec Try.prog 27 _ show_ := by
  refine FnSpec.of SEs2_ok mixed (U := 0) (I := fun _ => []) Try.func27 rfl (by kernel_rfl) rfl rfl (by decide +kernel) ?_
  rintro ⟨⟨(a : Int), (b : Int), (c : Int), (d : Int), ⟨⟩⟩, (x : Int), (n : Int), ⟨⟩⟩ -
  unfold FnSat
  conv => arg 2; reduce
  simp [show_, check, betS, divS, errB]
  refine ⟨fun h => ?_, fun h1 x0 x1 => ?_⟩
  · have h0 := showE_2 (a := a) (b := b) (c := c) (d := d) (x := x) (n := n) (by
      cases h1 : sensOK a b c d <;> cases h2 : isQ x <;> simp_all [isQ] <;> omega)
    rw [h0.1, h0.2]; simp
  have h3 := sens_of h1
  have h0 : (sensOK a b c d && isQ x) = true := by rw [h1]; simp [isQ]; omega
  have ht := tdiv2 b (by omega)
  have e1 : stepV b (x + n) = b * dvI (x + n + b / 2) b := by unfold stepV dvI; rfl
  have l1 := stepV_lo b (x + n) (by omega)
  have l2 := stepV_hi b (x + n) (by omega)
  refine ⟨by omega, fun h => ?_, fun n0 n1 => ?_⟩
  · have := showE_3 h0 (n := n) (by
      cases hh : isIn (-a) n a with
      | false => rfl
      | true => exfalso; simp at hh; omega)
    rw [this.1, this.2]; simp
  · have := showE_0 h0 (n := n) (by simp; omega)
    rw [ht, ← e1, this.1, this.2]
    refine ⟨by omega, by omega, by omega, by omega, by omega, ?_, rfl⟩
    unfold intoV; omega
set_option maxRecDepth 100000 in
theorem rsh_ok : FnSpec Try.prog 40 _ show_ := by
  refine FnSpec.of SEs2_ok mixed (U := 0) (I := fun _ => []) Try.func40 rfl (by kernel_rfl) rfl rfl (by decide +kernel) ?_
  rintro ⟨⟨(a : Int), (b : Int), (c : Int), (d : Int), ⟨⟩⟩, (x : Int), (n : Int), ⟨⟩⟩ -
  unfold FnSat
  conv => arg 2; reduce
  simp [show_, check, betS, errB, isS, clipS, steps]
  refine ⟨fun h => ?_, fun h1 h2 => ?_⟩
  · have := showE_2 (a := a) (b := b) (c := c) (d := d) (x := x) (n := n) (by
      cases h1 : sensOK a b c d <;> cases h2 : isQ x <;> simp_all)
    rw [this.1, this.2]; simp
  have h0 : (sensOK a b c d && isQ x) = true := by rw [h1, h2]; rfl
  have h3 := sens_of h1
  simp [isQ] at h2
  refine ⟨by omega, fun h => ?_, fun h h' => ?_⟩
  · have := showE_3 h0 (n := n) (by
      cases hh : isIn (-a) n a with
      | false => rfl
      | true => exfalso; simp at hh; omega)
    rw [this.1, this.2]; simp
  · have := showE_0 h0 (n := n) (by simp; omega)
    rw [this.1, this.2, clip_into]
    refine ⟨by omega, by omega, rfl, rfl⟩
def SEs3 : Sums := ⟨(40, mkSum _ show_) :: (27, mkSum _ show_) :: SEs2.one, SEs2.two, SEs2.lo, SEs2.eqs, SEs2.its, SEs2.imm⟩
theorem SEs3_ok : SumsOK Try.prog SEs3 := ((SEs2_ok.cons Try.func27 (by kernel_rfl) (by kernel_rfl) esh_ok).cons Try.func40 (by kernel_rfl) (by kernel_rfl) rsh_ok)
end
end Abs
end Go.Proofs.Yteoaeodalknkiaa

/- The statements' small example of layer 3, beside cells. -/
namespace Go.Proofs.Yteoaeodalknkiaa
namespace Abs
open Go Go.RowKit
noncomputable section
attribute [local irreducible] FnSat
set_option maxRecDepth 100000 in
theorem ebh_ok : FnSpec Try.prog 29 _ behind := by
  refine FnSpec.of SEs3_ok mixed (U := 0) (I := fun _ => []) Try.func29 rfl (by kernel_rfl) rfl rfl (by decide +kernel) ?_
  rintro ⟨⟨(a : Int), (b : Int), (c : Int), (d : Int), ⟨⟩⟩, (r : Int), ⟨⟩⟩ -
  unfold FnSat
  conv => arg 2; reduce
  simp [behind, check, betS, divS, errB]
  have hd : ∀ x : Int, dvI x b = x / b := fun x => by unfold dvI; rfl
  constructor
  · intro h
    have := beh_2 h (r := r)
    omega
  · intro h
    have h1 := sens_of h
    rw [tdiv2 b (by omega)]
    have hm1 := mul_div_le r b (by omega)
    have hm2 := mul_cdiv_le r b (by omega)
    simp only [tmod_z, hd]
    have hq : -1099511627776 ≤ -r / b ∨ r < c ∨ d < r := by
      by_cases hr : r < c ∨ d < r
      · exact .inr hr
      · left; rw [Int.le_ediv_iff_mul_le (by omega)]
        have : -1099511627776 * b ≤ -1099511627776 * 1 := Int.mul_le_mul_of_nonpos_left (by omega) (by omega)
        omega
    have hq2 : -r / b ≤ 1099511627776 ∨ r < c ∨ d < r := by
      by_cases hr : r < c ∨ d < r
      · exact .inr hr
      · left
        have : -r / b < 1099511627777 := by
          rw [Int.ediv_lt_iff_lt_mul (by omega)]
          have : 1099511627777 * 1 ≤ 1099511627777 * b := Int.mul_le_mul_of_nonneg_left (by omega) (by omega)
          omega
        omega
    cases hr : readOK b c d r with
    | false =>
      have := beh_5 h hr
      simp [readOK] at hr
      omega
    | true =>
      obtain ⟨g1, g2, g3⟩ := beh_0 h hr
      rw [g1, g2, g3]
      simp [readOK] at hr
      generalize b * (r / b) = u at *
      generalize b * -(-r / b) = v at *
      repeat' (first | refine And.intro ?_ ?_ | intro _)
      all_goals first | omega | (split <;> omega)
def plainS : Spec [] := ⟨fun _ => True, fun _ => .agg [.li .i64 3, .li .i64 10, .li .i64 0, .li .i64 100]⟩
set_option maxRecDepth 100000 in
theorem plainS_ok : FnSpec Try.prog 28 _ plainS := by
  refine FnSpec.of SEs3_ok mixed (U := 0) (I := fun _ => []) Try.func28 rfl (by kernel_rfl) rfl rfl (by decide +kernel) ?_
  rintro ⟨⟩ -
  unfold FnSat
  conv => arg 2; reduce
  simp [plainS]
def SLw0 : Sums := ⟨(29, mkSum _ behind) :: (28, mkSum _ plainS) :: SEs3.one, SEs3.two, SEs3.lo, SEs3.eqs, SEs3.its, SEs3.imm⟩
theorem SLw0_ok : SumsOK Try.prog SLw0 := ((SEs3_ok.cons Try.func28 (by kernel_rfl) (by kernel_rfl) plainS_ok).cons Try.func29 (by kernel_rfl) (by kernel_rfl) ebh_ok)
@[reducible] def sp2w : List (Option IntKind) := [some .i64, some .i64]
def eqsW : List (Nat × List (Option IntKind)) := [(62, sp2w)]
theorem eqsW_ok : ∀ t ks, findS eqsW t = some ks → EqOK Try.prog t ks := by
  intro t ks h
  unfold eqsW at h
  simp only [findS] at h
  split at h
  · rename_i e
    obtain rfl := Nat.eq_of_beq_eq_true e
    injection h with h; subst h
    exact EqOK.of 3 (by decide) (by kernel_rfl) (by kernel_rfl) (by kernel_rfl)
  · cases h
def SLw1 : Sums := ⟨SLw0.one, SLw0.two, SLw0.lo, eqsW, SLw0.its, SLw0.imm⟩
theorem SLw1_ok : SumsOK Try.prog SLw1 := SLw0_ok.setEqs eqsW_ok
def tru3 : Spec [] := ⟨fun _ => True, fun _ => .sb true⟩
theorem works_num : showV 3 10 0 100 42 3 = 50 ∧ showE 3 10 0 100 42 3 = 0 ∧ behLo 3 10 0 100 40 = 32 ∧ behHi 3 10 0 100 40 = 47 ∧ behE 3 10 0 100 40 = 0 := by
  simp [showV, showE, behLo, behHi, behE, sensOK, isQ, intoV, stepV, readOK]; decide
set_option maxRecDepth 100000 in
theorem works_ok : FnSpec Try.prog 8 _ tru3 := by
  refine FnSpec.of SLw1_ok mixed (U := 0) (I := fun _ => []) Try.func8 rfl (by kernel_rfl) rfl rfl (by decide +kernel) ?_
  rintro ⟨⟩ -
  unfold FnSat
  conv => arg 2; reduce
  obtain ⟨h1, h2, h3, h4, h5⟩ := works_num
  simp [plainS, show_, behind, tru3, h1, h2, h3, h4, h5]
@[irreducible] def shtB (c : Cel) : Bool := decide (c.ocv.nx ≤ 100) && (decide (c.ocv.ny ≤ 100) && (decide (c.cold.nx ≤ 100) && (decide (c.cold.ny ≤ 100) && (decide (c.stress.nx ≤ 100) && decide (c.stress.ny ≤ 100)))))
theorem shtB_max {c : Cel} (h : shtB c = true) : CelMax c := by
  unfold shtB at h
  simp at h
  unfold CelMax maxLen
  omega
def shtS : Spec [celSh] := ⟨fun _ => True, fun (c, _) => .sb (shtB (celOf c))⟩
set_option maxRecDepth 100000 in
set_option maxHeartbeats 2000000 in
theorem sht_ok : FnSpec Try.prog 7 _ shtS := by
  refine FnSpec.of SLw1_ok mixed (U := 0) (I := fun _ => []) Try.func7 rfl (by kernel_rfl) rfl rfl (by decide +kernel) ?_
  rintro ⟨c, ⟨⟩⟩ -
  obtain ⟨c, rfl⟩ := cel_ex c
  unfold FnSat
  conv => arg 2; reduce
  simp [shtS, shtB]
  rw [Bool.eq_iff_iff]
  simp
  omega
end
end Abs
end Go.Proofs.Yteoaeodalknkiaa

/- The library's sort and reversal of numbers, of this program: which functions and types they are. -/
namespace Go.Proofs.Yteoaeodalknkiaa
open Go.Shelf
def sortL_ren : Go.Shelf.Ren := ⟨fun | 5 => 51 | 8 => 86 | 7 => 85 | 19 => 119 | 20 => 120 | 10 => 110 | 11 => 111 | 12 => 112 | 13 => 113 | 14 => 114 | 15 => 115 | 16 => 116 | 17 => 117 | 18 => 118 | 30 => 129 | 31 => 130 | 32 => 131 | 33 => 132 | 34 => 133 | 35 => 134 | 40 => 138 | n => n, fun | 23 => 25 | 25 => 2 | 3 => 3 | 32 => 133 | 22 => 25 | 0 => 0 | 44 => 154 | 46 => 156 | 4 => 4 | 36 => 146 | 35 => 145 | 41 => 151 | 5 => 5 | 9 => 9 | 53 => 164 | 57 => 168 | 63 => 172 | 64 => 173 | n => n, fun | n => n⟩
theorem sortL : Go.Proofs.SlLaysM.n5 Try.prog sortL_ren := {
  mixed := by kernel_rfl
  f5 := ⟨Try.f51.name, by decide, Try.func51.trans (congrArg some (by kernel_rfl))⟩
  f7 := ⟨Try.f85.name, by decide, Try.func85.trans (congrArg some (by kernel_rfl))⟩
  f8 := Try.func86.trans (congrArg some (by kernel_rfl))
  f10 := ⟨Try.f110.name, by decide, Try.func110.trans (congrArg some (by kernel_rfl))⟩
  f11 := ⟨Try.f111.name, by decide, Try.func111.trans (congrArg some (by kernel_rfl))⟩
  f12 := ⟨Try.f112.name, by decide, Try.func112.trans (congrArg some (by kernel_rfl))⟩
  f13 := ⟨Try.f113.name, by decide, Try.func113.trans (congrArg some (by kernel_rfl))⟩
  f14 := ⟨Try.f114.name, by decide, Try.func114.trans (congrArg some (by kernel_rfl))⟩
  f15 := ⟨Try.f115.name, by decide, Try.func115.trans (congrArg some (by kernel_rfl))⟩
  f16 := ⟨Try.f116.name, by decide, Try.func116.trans (congrArg some (by kernel_rfl))⟩
  f17 := ⟨Try.f117.name, by decide, Try.func117.trans (congrArg some (by kernel_rfl))⟩
  f18 := ⟨Try.f118.name, by decide, Try.func118.trans (congrArg some (by kernel_rfl))⟩
  f19 := Try.func119.trans (congrArg some (by kernel_rfl))
  f20 := Try.func120.trans (congrArg some (by kernel_rfl))
  f30 := ⟨Try.f129.name, by decide, Try.func129.trans (congrArg some (by kernel_rfl))⟩
  f31 := Try.func130.trans (congrArg some (by kernel_rfl))
  f32 := Try.func131.trans (congrArg some (by kernel_rfl))
  f33 := ⟨Try.f132.name, by decide, Try.func132.trans (congrArg some (by kernel_rfl))⟩
  f34 := ⟨Try.f133.name, by decide, Try.func133.trans (congrArg some (by kernel_rfl))⟩
  f35 := ⟨Try.f134.name, by decide, Try.func134.trans (congrArg some (by kernel_rfl))⟩
  f40 := ⟨Try.f138.name, by decide, Try.func138.trans (congrArg some (by kernel_rfl))⟩
  t0 := Try.underlying0
  a0 := Try.isAgg0
  z0 := Try.sizeOf0
  v0 := Try.zeroValue0
  t3 := Try.underlying3
  a3 := Try.isAgg3
  z3 := Try.sizeOf3
  v3 := Try.zeroValue3
  t4 := Try.underlying4
  a4 := Try.isAgg4
  z4 := Try.sizeOf4
  v4 := Try.zeroValue4
  t5 := Try.underlying5
  a5 := Try.isAgg5
  z5 := Try.sizeOf5
  v5 := Try.zeroValue5
  t9 := Try.underlying9
  a9 := Try.isAgg9
  z9 := Try.sizeOf9
  v9 := Try.zeroValue9
  t22 := Try.underlying25
  a22 := Try.isAgg25
  z22 := Try.sizeOf25
  v22 := Try.zeroValue25
  t23 := Try.underlying25
  a23 := Try.isAgg25
  z23 := Try.sizeOf25
  v23 := Try.zeroValue25
  t25 := Try.underlying2
  a25 := Try.isAgg2
  z25 := Try.sizeOf2
  v25 := Try.zeroValue2
  t32 := Try.underlying133
  a32 := Try.isAgg133
  z32 := Try.sizeOf133
  v32 := Try.zeroValue133
  t35 := Try.underlying145
  a35 := Try.isAgg145
  z35 := Try.sizeOf145
  v35 := Try.zeroValue145
  t36 := Try.underlying146
  a36 := Try.isAgg146
  z36 := Try.sizeOf146
  v36 := Try.zeroValue146
  t41 := Try.underlying151
  a41 := Try.isAgg151
  z41 := Try.sizeOf151
  v41 := Try.zeroValue151
  t44 := Try.underlying154
  a44 := Try.isAgg154
  z44 := Try.sizeOf154
  v44 := Try.zeroValue154
  t46 := Try.underlying156
  a46 := Try.isAgg156
  z46 := Try.sizeOf156
  v46 := Try.zeroValue156
  t53 := Try.underlying164
  a53 := Try.isAgg164
  z53 := Try.sizeOf164
  v53 := Try.zeroValue164
  t57 := Try.underlying168
  a57 := Try.isAgg168
  z57 := Try.sizeOf168
  v57 := Try.zeroValue168
  t63 := Try.underlying172
  a63 := Try.isAgg172
  z63 := Try.sizeOf172
  v63 := Try.zeroValue172
  t64 := Try.underlying173
  a64 := Try.isAgg173
  z64 := Try.sizeOf173
  v64 := Try.zeroValue173
}
def revL_ren : Go.Shelf.Ren := ⟨fun | 35 => 54 | n => n, fun | 22 => 25 | 23 => 2 | 3 => 3 | 4 => 4 | 0 => 0 | n => n, fun | n => n⟩
theorem revL : Go.Proofs.SlLaysN.n35 Try.prog revL_ren := {
  mixed := by kernel_rfl
  f35 := ⟨Try.f54.name, by decide, Try.func54.trans (congrArg some (by kernel_rfl))⟩
  t0 := Try.underlying0
  a0 := Try.isAgg0
  z0 := Try.sizeOf0
  v0 := Try.zeroValue0
  t3 := Try.underlying3
  a3 := Try.isAgg3
  z3 := Try.sizeOf3
  v3 := Try.zeroValue3
  t4 := Try.underlying4
  a4 := Try.isAgg4
  z4 := Try.sizeOf4
  v4 := Try.zeroValue4
  t22 := Try.underlying25
  a22 := Try.isAgg25
  z22 := Try.sizeOf25
  v22 := Try.zeroValue25
  t23 := Try.underlying2
  a23 := Try.isAgg2
  z23 := Try.sizeOf2
  v23 := Try.zeroValue2
}
end Go.Proofs.Yteoaeodalknkiaa

/- A row of one's own, sorted or turned round by the library. -/
namespace Go.Proofs.Yteoaeodalknkiaa
namespace Abs
open Go Go.RowKit Go.Sort

theorem getD_lt {l : List Int} {k : Nat} (h : k < l.length) : l.getD k 0 = l[k] := by simp [List.getD, h]
theorem row_fn {P : Program} {f : FuncId} {h : List Int → List Int} (hl : ∀ zs, (h zs).length = zs.length)
    (hc : ∀ (blk cap : Nat) (zs : List Int) (w : World), Holds (Value.int .i64) w blk 0 zs.toArray → blk < w.heap.size → zs.length < 4611686018427387904 →
      Calls P f #[.slice (some ⟨blk, 0, none⟩) zs.length cap] w fun e w' => e = .returned (.tuple #[]) ∧ ∃ n os, w' = grow (putRow (Value.int .i64) (Sort.ahead w n) blk 0 (h zs).toArray) os)
    (h0 : ∀ cap w, Calls P f #[.slice none 0 cap] w fun e w' => e = .returned (.tuple #[]) ∧ w' = w)
    (e : TypeId) (n : LN) (v : Nat → Int) (hsmall : n.val < 4611686018427387904) :
    Fn P f [.row 0] [.row e 1 n (fun k => [.si .i64 (v k)])] (.tup []) [.row e 1 n (fun k => [.si .i64 ((h ((List.range n.val).map v)).getD k 0)])] := by
  intro C w vs hH ha
  have hno : ∀ i p, 1 ≤ i → C.ρ i = some p → False := fun i p hi hp => by
    have := hH.live i p hp
    obtain ⟨j, rfl⟩ : ∃ j, i = j + 1 := ⟨i - 1, by omega⟩
    rw [show getB [Blk.row e 1 n (fun k => [.si .i64 (v k)])] (j + 1) = .dead by cases j <;> rfl] at this
    cases p <;> exact this.elim
  cases ha with
  | cons _ _ x ws hx hws =>
  cases hws
  cases hx with
  | rown _ h1 =>
    have hb := hH.live 0 _ h1
    refine (h0 0 w).mono ?_
    rintro e' w' ⟨rfl, rfl⟩
    refine ⟨_, C, rfl, ⟨fun i p hi => ?_, hH.inj, hH.fresh, hH.ilt⟩, .tup _ _ .nil, ⟨rfl, rfl, rfl, Nat.le_refl _, fun _ _ _ => rfl, fun _ h => h, fun _ h => .inl h, fun _ _ => rfl, fun i b c m hi hp => (hno i _ hi hp).elim⟩⟩
    cases i with
    | zero =>
      rw [h1] at hi
      injection hi with hi
      subst hi
      exact hb
    | succ i => exact (hno (i + 1) p (by omega) hi).elim
  | row _ b c m h1 =>
    obtain ⟨hn, hmc, ⟨h01, hcap⟩, cs, vs', hh, hsz, hcl⟩ := hH.live 0 _ h1
    subst hn
    have hzl : ((List.range n.val).map v).length = n.val := by simp
    have hcell : ∀ k, k < n.val → cs[k]? = some (.int .i64 (v k)) := fun k hk => by
      obtain ⟨hr, _, hlen, hcs⟩ := hcl k hk
      have := hcs 0 (by omega)
      rw [Nat.mul_one, Nat.add_zero] at this
      rw [this]
      generalize vs' k = u at hr
      cases hr with
      | cons _ _ y ys h2 h3 => cases h2; rfl
    have ht : cs.toList.take ((List.range n.val).map v).length = ((List.range n.val).map v).map (Value.int .i64) := by
      apply List.ext_getElem?
      intro j
      by_cases hj : j < n.val
      · rw [List.getElem?_take_of_lt (by rw [hzl]; exact hj), Array.getElem?_toList, hcell j hj, List.getElem?_map, List.getElem?_map, List.getElem?_range hj]
        rfl
      · rw [List.getElem?_take_eq_none (by omega), List.getElem?_eq_none (by rw [List.length_map, hzl]; omega)]
    have hblt := (hH.fresh 0 b c n.val h1).1
    have hcall := hc b c ((List.range n.val).map v) w (holds_of_blockI hh ht) hblt (by rw [hzl]; exact hsmall)
    rw [hzl] at hcall
    refine hcall.mono ?_
    rintro e' w' ⟨rfl, nn, os, rfl⟩
    have hs := heap_sortedI (n := nn) (os := os) (h ((List.range n.val).map v)).toArray hh
    have hg := grownBy_sortedI (w := w) (g := b) (n := nn) (os := os) (h ((List.range n.val).map v)).toArray
    have htl : (h ((List.range n.val).map v)).length = n.val := by rw [hl, hzl]
    have htk := take_putCellsI cs (h ((List.range n.val).map v)) (by rw [htl, hsz, Nat.mul_one]; exact hmc)
    generalize (h ((List.range n.val).map v)) = ts at *
    generalize grow (putRow (Value.int IntKind.i64) (Sort.ahead w nn) b 0 ts.toArray) os = w' at *
    obtain ⟨g1, g2, g3, g4, g5⟩ := hg
    refine ⟨_, C, rfl, ⟨fun i p hi => ?_, hH.inj, fun i b' c' n' hi => ?_, fun b' hb' => Nat.lt_of_lt_of_le (hH.ilt b' hb') g4⟩, .tup _ _ .nil, ⟨g1, g2, g3, g4, fun k hk hne => g5 k hk fun hkb => ?_, fun _ h => h, fun _ h => .inl h, fun _ _ => rfl, fun i b c m hi hp => (hno i _ hi hp).elim⟩⟩
    · cases i with
      | zero =>
        rw [h1] at hi
        injection hi with hi
        subst hi
        refine ⟨rfl, hmc, ⟨h01, hcap⟩, _, fun k => [.int .i64 (ts.getD k 0)], hs, by simp [putCells, hsz], fun k hk => ⟨.cons _ _ _ _ (.si _ _) .nil, rfl, rfl, fun j hj => ?_⟩⟩
        obtain rfl : j = 0 := by omega
        rw [Nat.mul_one, Nat.add_zero]
        have h3 : ((putCells (Value.int .i64) 0 ts.toArray cs).toList.take ts.length)[k]? = (ts.map (Value.int .i64))[k]? := by rw [htk]
        rw [List.getElem?_take_of_lt (by omega), Array.getElem?_toList] at h3
        rw [h3]
        simp [List.getD, show k < ts.length by omega]
      | succ i => exact (hno (i + 1) p (by omega) hi).elim
    · have := hH.fresh i b' c' n' hi
      exact ⟨Nat.lt_of_lt_of_le this.1 g4, this.2⟩
    · injection hkb with hkb
      exact hne 0 b c n.val (by simp) h1 hkb.symm

@[irreducible] def srtV (n : Nat) (v : Nat → Int) (k : Nat) : Int := (((List.range n).map v).mergeSort fun x y => decide (x ≤ y)).getD k 0
@[irreducible] def revV (n : Nat) (v : Nat → Int) (k : Nat) : Int := (((List.range n).map v).reverse).getD k 0
theorem sort_fn (e : TypeId) (n : LN) (v : Nat → Int) (hsmall : n.val < 4611686018427387904) : Fn Try.prog 51 [.row 0] [.row e 1 n (fun k => [.si .i64 (v k)])] (.tup []) [.row e 1 n (fun k => [.si .i64 (srtV n.val v k)])] := by
  have h := row_fn (P := Try.prog) (f := 51) (h := fun zs => zs.mergeSort fun x y => decide (x ≤ y)) (fun zs => List.length_mergeSort zs)
    (fun blk cap zs w hH hb hz => AnyM.slices_Sort_int sortL blk 0 cap zs w hH hb hz)
    (fun cap w => AnyM.slices_Sort_int_none sortL none cap w) e n v hsmall
  have e1 : (fun k => [AV.si .i64 (srtV n.val v k)]) = fun k => [AV.si .i64 ((((List.range n.val).map v).mergeSort fun x y => decide (x ≤ y)).getD k 0)] := by unfold srtV; rfl
  rw [e1]; exact h
theorem rev_fn (e : TypeId) (n : LN) (v : Nat → Int) (hsmall : n.val < 4611686018427387904) : Fn Try.prog 54 [.row 0] [.row e 1 n (fun k => [.si .i64 (v k)])] (.tup []) [.row e 1 n (fun k => [.si .i64 (revV n.val v k)])] := by
  have h := row_fn (P := Try.prog) (f := 54) (h := fun zs => zs.reverse) (fun zs => List.length_reverse)
    (fun blk cap zs w hH hb hz => (AnyG.slices_Reverse_int revL blk 0 cap zs w hH (by omega)).mono fun e' w' h => ⟨h.1, h.2.choose, #[], by rw [grow_empty]; exact h.2.choose_spec⟩)
    (fun cap w => AnyG.slices_Reverse_int_empty revL none cap w) e n v hsmall
  have e1 : (fun k => [AV.si .i64 (revV n.val v k)]) = fun k => [AV.si .i64 (((List.range n.val).map v).reverse.getD k 0)] := by unfold revV; rfl
  rw [e1]; exact h

-- what a sorted row holds
theorem srt_mem {n k : Nat} {v : Nat → Int} (hk : k < n) : ∃ j, j < n ∧ srtV n v k = v j := by
  unfold srtV
  have hp := List.mergeSort_perm ((List.range n).map v) (fun x y => decide (x ≤ y))
  have hlen : (((List.range n).map v).mergeSort fun x y => decide (x ≤ y)).length = n := by rw [hp.length_eq]; simp
  have hm : (((List.range n).map v).mergeSort fun x y => decide (x ≤ y)).getD k 0 ∈ ((List.range n).map v).mergeSort fun x y => decide (x ≤ y) := by
    rw [getD_lt (by omega)]; exact List.getElem_mem _
  have := hp.mem_iff.1 hm
  simp only [List.mem_map, List.mem_range] at this
  obtain ⟨j, hj, e⟩ := this
  exact ⟨j, hj, e.symm⟩
theorem srt_has {n j : Nat} {v : Nat → Int} (hj : j < n) : ∃ k, k < n ∧ srtV n v k = v j := by
  unfold srtV
  have hp := List.mergeSort_perm ((List.range n).map v) (fun x y => decide (x ≤ y))
  have hlen : (((List.range n).map v).mergeSort fun x y => decide (x ≤ y)).length = n := by rw [hp.length_eq]; simp
  have hm : v j ∈ ((List.range n).map v).mergeSort fun x y => decide (x ≤ y) := hp.mem_iff.2 (List.mem_map.2 ⟨j, List.mem_range.2 hj, rfl⟩)
  obtain ⟨k, hk, e⟩ := List.getElem_of_mem hm
  exact ⟨k, by omega, by rw [getD_lt hk]; exact e⟩
theorem srt_le {n i j : Nat} {v : Nat → Int} (hij : i ≤ j) (hj : j < n) : srtV n v i ≤ srtV n v j := by
  unfold srtV
  have hp := List.mergeSort_perm ((List.range n).map v) (fun x y => decide (x ≤ y))
  have hlen : (((List.range n).map v).mergeSort fun x y => decide (x ≤ y)).length = n := by rw [hp.length_eq]; simp
  have hs := List.pairwise_mergeSort (le := fun (x y : Int) => decide (x ≤ y)) (fun a b c h1 h2 => by simp at *; omega) (fun a b => by simp; omega) ((List.range n).map v)
  rw [getD_lt (by omega), getD_lt (by omega)]
  by_cases h : i = j
  · subst h; exact Int.le_refl _
  · have := List.pairwise_iff_getElem.1 hs i j (by omega) (by omega) (by omega)
    simpa using this
theorem rev_at {n k : Nat} {v : Nat → Int} (hk : k < n) : revV n v k = v (n - 1 - k) := by
  unfold revV
  rw [getD_lt (by simp; exact hk)]
  simp
end Abs
end Go.Proofs.Yteoaeodalknkiaa

/- Spans that are fused: plain. -/
namespace Go.Proofs.Yteoaeodalknkiaa
namespace Abs
open Go
@[irreducible] def hit (lo hi x : Int) : Bool := decide (lo ≤ x) && decide (x ≤ hi)
theorem hit_iff {lo hi x : Int} : hit lo hi x = true ↔ lo ≤ x ∧ x ≤ hi := by unfold hit; simp
def supN : Nat → (Nat → Int) → (Nat → Int) → Int → Nat
  | 0, _, _, _ => 0
  | n + 1, lo, hi, x => supN n lo hi x + (if hit (lo n) (hi n) x = true then 1 else 0)
theorem supN_zero (lo hi : Nat → Int) (x : Int) : supN 0 lo hi x = 0 := rfl
theorem supN_yes {n : Nat} {lo hi : Nat → Int} {x : Int} (h : hit (lo n) (hi n) x = true) : supN (n + 1) lo hi x = supN n lo hi x + 1 := by simp [supN, h]
theorem supN_no {n : Nat} {lo hi : Nat → Int} {x : Int} (h : hit (lo n) (hi n) x = false) : supN (n + 1) lo hi x = supN n lo hi x := by simp [supN, h]
theorem supN_le {lo hi : Nat → Int} {x : Int} : ∀ n, supN n lo hi x ≤ n
  | 0 => Nat.le_refl _
  | n + 1 => by
    have := supN_le (lo := lo) (hi := hi) (x := x) n
    simp only [supN]
    split <;> omega
theorem supN_mono {lo hi lo' hi' : Nat → Int} {x y : Int} : ∀ {n}, (∀ k, k < n → hit (lo k) (hi k) x = true → hit (lo' k) (hi' k) y = true) → supN n lo hi x ≤ supN n lo' hi' y
  | 0, _ => Nat.le_refl _
  | n + 1, h => by
    have := supN_mono (n := n) fun k hk => h k (by omega)
    cases h1 : hit (lo n) (hi n) x with
    | false => rw [supN_no h1]; simp only [supN]; omega
    | true => rw [supN_yes h1, supN_yes (h n (by omega) h1)]; omega
theorem supN_pos {lo hi : Nat → Int} {x : Int} : ∀ {n}, 1 ≤ supN n lo hi x → ∃ k, k < n ∧ hit (lo k) (hi k) x = true
  | 0, h => by simp [supN] at h
  | n + 1, h => by
    cases h1 : hit (lo n) (hi n) x with
    | true => exact ⟨n, by omega, h1⟩
    | false =>
      rw [supN_no h1] at h
      obtain ⟨k, hk, h2⟩ := supN_pos h
      exact ⟨k, by omega, h2⟩
/-- the greatest beginning, the least end, of those that hold a number -/
theorem most_lo {lo hi : Nat → Int} {x : Int} : ∀ {n}, (∃ k, k < n ∧ hit (lo k) (hi k) x = true) → ∃ k, k < n ∧ hit (lo k) (hi k) x = true ∧ ∀ j, j < n → hit (lo j) (hi j) x = true → lo j ≤ lo k
  | 0, h => by obtain ⟨k, hk, _⟩ := h; omega
  | n + 1, h => by
    by_cases h0 : ∃ k, k < n ∧ hit (lo k) (hi k) x = true
    · obtain ⟨k, hk, h1, h2⟩ := most_lo h0
      cases h3 : hit (lo n) (hi n) x with
      | false =>
        refine ⟨k, by omega, h1, fun j hj hh => ?_⟩
        by_cases e : j = n
        · subst e; rw [h3] at hh; cases hh
        · exact h2 j (by omega) hh
      | true =>
        by_cases h4 : lo k ≤ lo n
        · refine ⟨n, by omega, h3, fun j hj hh => ?_⟩
          by_cases e : j = n
          · subst e; exact Int.le_refl _
          · have := h2 j (by omega) hh; omega
        · refine ⟨k, by omega, h1, fun j hj hh => ?_⟩
          by_cases e : j = n
          · subst e; omega
          · exact h2 j (by omega) hh
    · obtain ⟨k, hk, h1⟩ := h
      have hkn : k = n := by
        by_cases e : k = n
        · exact e
        · exact absurd ⟨k, by omega, h1⟩ h0
      subst hkn
      refine ⟨k, by omega, h1, fun j hj hh => ?_⟩
      by_cases e : j = k
      · subst e; exact Int.le_refl _
      · exact absurd ⟨j, by omega, hh⟩ h0
theorem least_hi {lo hi : Nat → Int} {x : Int} {n : Nat} (h : ∃ k, k < n ∧ hit (lo k) (hi k) x = true) : ∃ k, k < n ∧ hit (lo k) (hi k) x = true ∧ ∀ j, j < n → hit (lo j) (hi j) x = true → hi k ≤ hi j := by
  have fl : ∀ k, hit (-hi k) (-lo k) (-x) = hit (lo k) (hi k) x := fun k => by
    rw [Bool.eq_iff_iff, hit_iff, hit_iff]; omega
  obtain ⟨k, hk, h1, h2⟩ := most_lo (lo := fun k => -hi k) (hi := fun k => -lo k) (x := -x) (n := n) (by
    obtain ⟨k, hk, h1⟩ := h
    exact ⟨k, hk, by rw [fl]; exact h1⟩)
  refine ⟨k, hk, by rw [← fl]; exact h1, fun j hj hh => ?_⟩
  have := h2 j hj (by rw [fl]; exact hh)
  omega
@[irreducible] def enou (n : Nat) (lo hi : Nat → Int) (f x : Int) : Bool := decide ((n : Int) - f ≤ (supN n lo hi x : Int))
theorem enou_iff {n : Nat} {lo hi : Nat → Int} {f x : Int} : enou n lo hi f x = true ↔ (n : Int) - f ≤ (supN n lo hi x : Int) := by unfold enou; simp
def minP (p : Nat → Bool) (v : Nat → Int) : Nat → Option Int
  | 0 => none
  | n + 1 => match minP p v n with
    | none => if p n = true then some (v n) else none
    | some m => if p n = true ∧ v n < m then some (v n) else some m
@[irreducible] def fdB (p : Nat → Bool) (v : Nat → Int) (n : Nat) : Bool := (minP p v n).isSome
@[irreducible] def mnV (p : Nat → Bool) (v : Nat → Int) (n : Nat) : Int := (minP p v n).getD 0
theorem fd_zero (p : Nat → Bool) (v : Nat → Int) : fdB p v 0 = false ∧ mnV p v 0 = 0 := by unfold fdB mnV; simp [minP]
theorem fd_step {p : Nat → Bool} {v : Nat → Int} {n : Nat} (hp : p n = true) (h : fdB p v n = false ∨ v n < mnV p v n) : fdB p v (n + 1) = true ∧ mnV p v (n + 1) = v n := by
  unfold fdB mnV at h ⊢
  simp only [minP]
  cases hm : minP p v n with
  | none => simp [hp]
  | some m =>
    rw [hm] at h
    simp at h
    simp [hp, h]
theorem fd_stay {p : Nat → Bool} {v : Nat → Int} {n : Nat} (h : p n = false ∨ (fdB p v n = true ∧ mnV p v n ≤ v n)) : fdB p v (n + 1) = fdB p v n ∧ mnV p v (n + 1) = mnV p v n := by
  unfold fdB mnV at h ⊢
  simp only [minP]
  cases hm : minP p v n with
  | none =>
    rw [hm] at h
    simp at h
    simp [h]
  | some m =>
    rw [hm] at h
    simp at h
    have : ¬(p n = true ∧ v n < m) := by
      rintro ⟨h1, h2⟩
      rcases h with h | h
      · rw [h] at h1; cases h1
      · omega
    simp [this]
theorem mn_spec {p : Nat → Bool} {v : Nat → Int} : ∀ {n}, (fdB p v n = true → (∃ k, k < n ∧ p k = true ∧ v k = mnV p v n) ∧ ∀ k, k < n → p k = true → mnV p v n ≤ v k) ∧ (fdB p v n = false → mnV p v n = 0 ∧ ∀ k, k < n → p k = false)
  | 0 => by
    obtain ⟨h1, h2⟩ := fd_zero p v
    rw [h1, h2]
    exact ⟨fun h => by simp at h, fun _ => ⟨rfl, fun k hk => by omega⟩⟩
  | n + 1 => by
    obtain ⟨ih1, ih2⟩ := mn_spec (p := p) (v := v) (n := n)
    by_cases hc : p n = true ∧ (fdB p v n = false ∨ v n < mnV p v n)
    · obtain ⟨h1, h2⟩ := fd_step hc.1 hc.2
      rw [h1, h2]
      refine ⟨fun _ => ⟨⟨n, by omega, hc.1, rfl⟩, fun k hk hp => ?_⟩, fun h => by cases h⟩
      by_cases e : k = n
      · subst e; exact Int.le_refl _
      · rcases hc.2 with h | h
        · have := (ih2 h).2 k (by omega); rw [this] at hp; cases hp
        · cases hf : fdB p v n with
          | false => have := (ih2 hf).2 k (by omega); rw [this] at hp; cases hp
          | true => have := (ih1 hf).2 k (by omega) hp; omega
    · have hc' : p n = false ∨ (fdB p v n = true ∧ mnV p v n ≤ v n) := by
        cases hp : p n with
        | false => exact .inl rfl
        | true =>
          right
          cases hf : fdB p v n with
          | false => exact absurd ⟨hp, .inl hf⟩ hc
          | true => exact ⟨rfl, by
              by_cases hl : v n < mnV p v n
              · exact absurd ⟨hp, .inr hl⟩ hc
              · omega⟩
      obtain ⟨h1, h2⟩ := fd_stay hc'
      rw [h1, h2]
      refine ⟨fun h => ?_, fun h => ?_⟩
      · obtain ⟨⟨k, hk, h3, h4⟩, h5⟩ := ih1 h
        refine ⟨⟨k, by omega, h3, h4⟩, fun j hj hp => ?_⟩
        by_cases e : j = n
        · subst e
          rcases hc' with h' | h'
          · rw [h'] at hp; cases hp
          · exact h'.2
        · exact h5 j (by omega) hp
      · obtain ⟨h3, h4⟩ := ih2 h
        refine ⟨h3, fun j hj => ?_⟩
        by_cases e : j = n
        · subst e
          rcases hc' with h' | h'
          · exact h'
          · rw [h] at h'; simp at h'
        · exact h4 j (by omega)
theorem mn_uniq {p : Nat → Bool} {v : Nat → Int} {n : Nat} {m : Int} (h1 : ∃ k, k < n ∧ p k = true ∧ v k = m) (h2 : ∀ k, k < n → p k = true → m ≤ v k) : fdB p v n = true ∧ mnV p v n = m := by
  obtain ⟨s1, s2⟩ := mn_spec (p := p) (v := v) (n := n)
  obtain ⟨k, hk, hp, rfl⟩ := h1
  cases hf : fdB p v n with
  | false => have := (s2 hf).2 k hk; rw [this] at hp; cases hp
  | true =>
    obtain ⟨⟨j, hj, h3, h4⟩, h5⟩ := s1 hf
    have := h5 k hk hp
    have := h2 j hj h3
    exact ⟨rfl, by omega⟩
@[irreducible] def fuOK (n : Nat) (lo hi : Nat → Int) (f : Int) : Bool := fdB (fun k => enou n lo hi f (lo k)) lo n
@[irreducible] def fuL (n : Nat) (lo hi : Nat → Int) (f : Int) : Int := mnV (fun k => enou n lo hi f (lo k)) lo n
@[irreducible] def fuH (n : Nat) (lo hi : Nat → Int) (f : Int) : Int := -mnV (fun k => enou n lo hi f (hi k)) (fun k => -hi k) n
section
variable {n : Nat} {lo hi : Nat → Int} {f x : Int}
theorem sup_lo (hf : f < n) (h : enou n lo hi f x = true) : ∃ k, k < n ∧ lo k ≤ x ∧ enou n lo hi f (lo k) = true := by
  rw [enou_iff] at h
  obtain ⟨k, hk, h1, h2⟩ := most_lo (supN_pos (n := n) (lo := lo) (hi := hi) (x := x) (by omega))
  have hx := hit_iff.1 h1
  refine ⟨k, hk, hx.1, ?_⟩
  rw [enou_iff]
  have := supN_mono (n := n) (lo := lo) (hi := hi) (lo' := lo) (hi' := hi) (x := x) (y := lo k) fun j hj hh => by
    have := h2 j hj hh
    have := hit_iff.1 hh
    rw [hit_iff]; omega
  omega
theorem sup_hi (hf : f < n) (h : enou n lo hi f x = true) : ∃ k, k < n ∧ x ≤ hi k ∧ enou n lo hi f (hi k) = true := by
  rw [enou_iff] at h
  obtain ⟨k, hk, h1, h2⟩ := least_hi (supN_pos (n := n) (lo := lo) (hi := hi) (x := x) (by omega))
  have hx := hit_iff.1 h1
  refine ⟨k, hk, hx.2, ?_⟩
  rw [enou_iff]
  have := supN_mono (n := n) (lo := lo) (hi := hi) (lo' := lo) (hi' := hi) (x := x) (y := hi k) fun j hj hh => by
    have := h2 j hj hh
    have := hit_iff.1 hh
    rw [hit_iff]; omega
  omega
theorem fuOK_hi (hf : f < n) : fdB (fun k => enou n lo hi f (hi k)) (fun k => -hi k) n = fuOK n lo hi f := by
  unfold fuOK
  have a := mn_spec (p := fun k => enou n lo hi f (lo k)) (v := lo) (n := n)
  have b := mn_spec (p := fun k => enou n lo hi f (hi k)) (v := fun k => -hi k) (n := n)
  cases h1 : fdB (fun k => enou n lo hi f (lo k)) lo n with
  | true =>
    obtain ⟨⟨k, hk, h2, _⟩, _⟩ := a.1 h1
    obtain ⟨j, hj, _, h3⟩ := sup_hi hf h2
    cases h4 : fdB (fun k => enou n lo hi f (hi k)) (fun k => -hi k) n with
    | true => rfl
    | false => have := (b.2 h4).2 j hj; rw [this] at h3; cases h3
  | false =>
    cases h4 : fdB (fun k => enou n lo hi f (hi k)) (fun k => -hi k) n with
    | false => rfl
    | true =>
      obtain ⟨⟨k, hk, h2, _⟩, _⟩ := b.1 h4
      obtain ⟨j, hj, _, h3⟩ := sup_lo hf h2
      have := (a.2 h1).2 j hj; rw [this] at h3; cases h3
/-- the ends of spans, one after the other -/
@[irreducible] def endV (lo hi : Nat → Int) (j : Nat) : Int := if j % 2 = 0 then lo (j / 2) else hi (j / 2)
theorem end_lo (k : Nat) : endV lo hi (2 * k) = lo k := by unfold endV; rw [if_pos (by omega), show 2 * k / 2 = k by omega]
theorem end_hi (k : Nat) : endV lo hi (2 * k + 1) = hi k := by unfold endV; rw [if_neg (by omega), show (2 * k + 1) / 2 = k by omega]
theorem end_or {j : Nat} (h : j < 2 * n) : ∃ k, k < n ∧ (endV lo hi j = lo k ∨ endV lo hi j = hi k) := by
  unfold endV
  refine ⟨j / 2, by omega, ?_⟩
  split
  · exact .inl rfl
  · exact .inr rfl
theorem idx_neg {p : Nat → Bool} {m : Nat} (h : idxN p m < 0) : ∀ j, j < m → p j = false := by
  unfold idxN at h
  split at h
  · omega
  · have := firstN_le p m
    exact fun j hj => firstN_not p m j (by omega)
theorem idx_pos {p : Nat → Bool} {m : Nat} (h : 0 ≤ idxN p m) : ∃ i, i < m ∧ idxN p m = (i : Int) ∧ p i = true ∧ ∀ j, j < i → p j = false := by
  unfold idxN at h ⊢
  split at h
  · rename_i hlt
    exact ⟨_, hlt, by rw [if_pos hlt], firstN_is p m hlt, fun j hj => firstN_not p m j hj⟩
  · omega
/-- the first end that is supported, in the sorted row -/
theorem srt_first (hf : f < n) : (idxN (fun k => enou n lo hi f (srtV (2 * n) (endV lo hi) k)) (2 * n) < 0 → fuOK n lo hi f = false) ∧
    (0 ≤ idxN (fun k => enou n lo hi f (srtV (2 * n) (endV lo hi) k)) (2 * n) → fuOK n lo hi f = true ∧ ∃ i, i < 2 * n ∧ idxN (fun k => enou n lo hi f (srtV (2 * n) (endV lo hi) k)) (2 * n) = (i : Int) ∧ srtV (2 * n) (endV lo hi) i = fuL n lo hi f) := by
  constructor
  · intro h
    have hn := idx_neg h
    unfold fuOK
    cases hd : fdB (fun k => enou n lo hi f (lo k)) lo n with
    | false => rfl
    | true =>
      obtain ⟨⟨k, hk, h1, _⟩, _⟩ := (mn_spec (p := fun k => enou n lo hi f (lo k)) (v := lo) (n := n)).1 hd
      obtain ⟨j, hj, e⟩ := srt_has (n := 2 * n) (v := endV lo hi) (j := 2 * k) (by omega)
      rw [end_lo] at e
      have := hn j hj
      simp only [e] at this h1
      rw [this] at h1; cases h1
  · intro h
    obtain ⟨i, hi', e, hp, hnot⟩ := idx_pos h
    skip
    have hall : ∀ j, j < 2 * n → enou n lo hi f (srtV (2 * n) (endV lo hi) j) = true → srtV (2 * n) (endV lo hi) i ≤ srtV (2 * n) (endV lo hi) j := fun j hj hh => by
      by_cases hji : j < i
      · rw [hnot j hji] at hh; cases hh
      · exact srt_le (by omega) hj
    obtain ⟨k, hk, hle, hk2⟩ := sup_lo hf hp
    obtain ⟨j, hj, ej⟩ := srt_has (n := 2 * n) (v := endV lo hi) (j := 2 * k) (by omega)
    rw [end_lo] at ej
    have h1 := hall j hj (by rw [ej]; exact hk2)
    rw [ej] at h1
    have hu := mn_uniq (p := fun k => enou n lo hi f (lo k)) (v := lo) (n := n) (m := srtV (2 * n) (endV lo hi) i) ⟨k, hk, hk2, by omega⟩ fun q hq hh => by
      obtain ⟨j2, hj2, ej2⟩ := srt_has (n := 2 * n) (v := endV lo hi) (j := 2 * q) (by omega)
      rw [end_lo] at ej2
      have := hall j2 hj2 (by rw [ej2]; exact hh)
      omega
    refine ⟨by unfold fuOK; exact hu.1, i, hi', e, ?_⟩
    unfold fuL; exact hu.2.symm
/-- the last one, in the row turned round -/
theorem srt_last (hf : f < n) (hok : fuOK n lo hi f = true) : ∃ i, i < 2 * n ∧ idxN (fun k => enou n lo hi f (revV (2 * n) (srtV (2 * n) (endV lo hi)) k)) (2 * n) = (i : Int) ∧ revV (2 * n) (srtV (2 * n) (endV lo hi)) i = fuH n lo hi f := by
  have hd := fuOK_hi (n := n) (lo := lo) (hi := hi) (f := f) hf
  rw [hok] at hd
  obtain ⟨⟨k, hk, h1, _⟩, _⟩ := (mn_spec (p := fun k => enou n lo hi f (hi k)) (v := fun k => -hi k) (n := n)).1 hd
  have hpos : 0 ≤ idxN (fun k => enou n lo hi f (revV (2 * n) (srtV (2 * n) (endV lo hi)) k)) (2 * n) := by
    rcases Int.lt_or_le (idxN (fun k => enou n lo hi f (revV (2 * n) (srtV (2 * n) (endV lo hi)) k)) (2 * n)) 0 with h | h
    · obtain ⟨j, hj, e⟩ := srt_has (n := 2 * n) (v := endV lo hi) (j := 2 * k + 1) (by omega)
      rw [end_hi] at e
      have := idx_neg h (2 * n - 1 - j) (by omega)
      skip
      rw [rev_at (by omega), show 2 * n - 1 - (2 * n - 1 - j) = j by omega, e] at this
      rw [this] at h1; cases h1
    · exact h
  obtain ⟨i, hi', e, hp, hnot⟩ := idx_pos hpos
  skip
  refine ⟨i, hi', e, ?_⟩
  have hall : ∀ j, j < 2 * n → enou n lo hi f (srtV (2 * n) (endV lo hi) j) = true → srtV (2 * n) (endV lo hi) j ≤ revV (2 * n) (srtV (2 * n) (endV lo hi)) i := fun j hj hh => by
    rw [rev_at hi']
    by_cases hji : 2 * n - 1 - j < i
    · have := hnot (2 * n - 1 - j) hji
      rw [rev_at (by omega), show 2 * n - 1 - (2 * n - 1 - j) = j by omega] at this
      rw [this] at hh; cases hh
    · exact srt_le (by omega) (by omega)
  obtain ⟨q, hq, hle, hq2⟩ := sup_hi hf hp
  obtain ⟨j, hj, ej⟩ := srt_has (n := 2 * n) (v := endV lo hi) (j := 2 * q + 1) (by omega)
  rw [end_hi] at ej
  have h2 := hall j hj (by rw [ej]; exact hq2)
  rw [ej] at h2
  have hu := mn_uniq (p := fun k => enou n lo hi f (hi k)) (v := fun k => -hi k) (n := n) (m := -revV (2 * n) (srtV (2 * n) (endV lo hi)) i) ⟨q, hq, hq2, by omega⟩ fun r hr hh => by
    obtain ⟨j2, hj2, ej2⟩ := srt_has (n := 2 * n) (v := endV lo hi) (j := 2 * r + 1) (by omega)
    rw [end_hi] at ej2
    have := hall j2 hj2 (by rw [ej2]; exact hh)
    omega
  unfold fuH
  rw [hu.2, Int.neg_neg]
end
end Abs
end Go.Proofs.Yteoaeodalknkiaa

/- Numbers that are picked; the last block. -/
namespace Go.Proofs.Yteoaeodalknkiaa
namespace Abs
open Go
/-- the numbers below k with p, and how many they are -/
def pickL (p : Nat → Bool) (k : Nat) : List Nat := (List.range k).filter p
@[irreducible] def cntF (p : Nat → Bool) (k : Nat) : Nat := (pickL p k).length
@[irreducible] def pickF (p : Nat → Bool) (k j : Nat) : Int := (((pickL p k).getD j 0 : Nat) : Int)
theorem pickL_succ (p : Nat → Bool) (k : Nat) : pickL p (k + 1) = pickL p k ++ (if p k then [k] else []) := by
  unfold pickL
  rw [List.range_succ, List.filter_append]
  cases h : p k <;> simp [h]
theorem cntF_0 (p : Nat → Bool) : cntF p 0 = 0 := by unfold cntF pickL; rfl
theorem cntF_le (p : Nat → Bool) (k : Nat) : cntF p k ≤ k := by
  unfold cntF pickL; exact Nat.le_trans (List.length_filter_le _ _) (by simp)
theorem cntF_t {p : Nat → Bool} {k : Nat} (h : p k = true) : cntF p (k + 1) = cntF p k + 1 := by unfold cntF; rw [pickL_succ, h]; simp
theorem cntF_f {p : Nat → Bool} {k : Nat} (h : p k = false) : cntF p (k + 1) = cntF p k := by unfold cntF; rw [pickL_succ, h]; simp
theorem pickF_lt {p : Nat → Bool} {k j : Nat} (h : j < cntF p k) : pickF p (k + 1) j = pickF p k j := by
  unfold cntF at h
  unfold pickF
  rw [pickL_succ, List.getD_eq_getElem?_getD, List.getElem?_append_left h, ← List.getD_eq_getElem?_getD]
theorem pickF_at {p : Nat → Bool} {k : Nat} (h : p k = true) : pickF p (k + 1) (cntF p k) = k := by
  unfold cntF pickF
  rw [pickL_succ, h, List.getD_eq_getElem?_getD, List.getElem?_append_right (Nat.le_refl _)]
  simp
theorem cntF_zero {p : Nat → Bool} {k : Nat} (h : ∀ j, j < k → p j = false) : cntF p k = 0 := by
  unfold cntF pickL
  rw [List.length_eq_zero_iff, List.filter_eq_nil_iff]
  intro a ha
  rw [h a (by simpa using ha)]; simp
/-- the last block replaced -/
def setLast : Heap → Blk → Heap
  | [], _ => []
  | [_], b => [b]
  | x :: y :: l, b => x :: setLast (y :: l) b
theorem pick_cat {p : Nat → Bool} {g : Nat} (h : p g = true) : ∀ j, j < cntF p g + 1 → catE (cntF p g) (fun j => [.si .i64 (pickF p g j)]) (rowAt 1 [.si .i64 (g : Int)]) j = [.si .i64 (pickF p (g + 1) j)] := by
  intro j hj
  by_cases h1 : j < cntF p g
  · rw [catE_lt h1, pickF_lt h1]
  · obtain rfl : j = cntF p g := by omega
    rw [catE_ge (Nat.le_refl _), pickF_at h, Nat.sub_self]; rfl
end Abs
end Go.Proofs.Yteoaeodalknkiaa

/- Fused spans, by the program and by the document. -/
namespace Go.Proofs.Yteoaeodalknkiaa
namespace Abs
open Go Go.RowKit
noncomputable section
attribute [local irreducible] FnSat
def SFu0 : Sums := ⟨(8, mkSum _ tru3) :: SLw1.one, SLw1.two, SLw1.lo, SLw1.eqs, SLw1.its, SLw1.imm⟩
theorem SFu0_ok : SumsOK Try.prog SFu0 := (SLw1_ok.cons Try.func8 (by kernel_rfl) (by kernel_rfl) works_ok)
-- the library's sort and reversal
def srtF : SpecF [.row 2 1 [.int .i64]] [.rowr 0] := ⟨fun ((n, _), _) _ => n < 4611686018427387904, fun _ _ => .tup [], fun ((n, el), _) _ => [.row 2 1 (.sym n) (fun k => [.si .i64 (srtV n (fun j => (el j).1) k)])]⟩
theorem srtF_ok : FnSpecF Try.prog 51 _ _ srtF := by
  rintro ⟨⟨n, el⟩, ⟨⟩⟩ ⟨⟨⟩, ⟨⟩⟩ (h : n < 4611686018427387904)
  exact sort_fn _ (.sym n) (fun j => (el j).1) h
def revF : SpecF [.row 2 1 [.int .i64]] [.rowr 0] := ⟨fun ((n, _), _) _ => n < 4611686018427387904, fun _ _ => .tup [], fun ((n, el), _) _ => [.row 2 1 (.sym n) (fun k => [.si .i64 (revV n (fun j => (el j).1) k)])]⟩
theorem revF_ok : FnSpecF Try.prog 54 _ _ revF := by
  rintro ⟨⟨n, el⟩, ⟨⟩⟩ ⟨⟨⟩, ⟨⟩⟩ (h : n < 4611686018427387904)
  exact rev_fn _ (.sym n) (fun j => (el j).1) h
-- how many spans hold a number
def fu1S : Spec [.int .i64, .ptr [spansSh], .ptr [.int .i64]] := ⟨fun (_, ((n, _), _), ((f : Int), _), _) => n ≤ 16 ∧ 0 ≤ f ∧ f < n, fun ((x : Int), ((n, el), _), ((f : Int), _), _) => .sb (enou n (fun k => (el k).1) (fun k => (el k).2.1) f x)⟩
def fu1I : DatL [.int .i64, .ptr [spansSh], .ptr [.int .i64]] → Anns := fun ((x : Int), ((n, el), _), ((f : Int), _), _) => [
  (3, [], fun fr hp => ⟨Nat, fun g => ⟨frI [.k 5, .s (.si .i64 (icast (supN g (fun k => (el k).1) (fun k => (el k).2.1) x))), .k 1, .t 1, .k 2, .s (.si .i64 (icast g)), .t 18] fr, hp⟩, Nat × Nat, fun g => (n, g), fun (n, g) => g ≤ n, fun g => nsub n g⟩)]
set_option maxRecDepth 100000 in
theorem fu1_ok : FnSpec Try.prog 52 _ fu1S := by
  refine FnSpec.of SFu0_ok mixed (U := 0) (I := fu1I) Try.func52 rfl (by kernel_rfl) rfl rfl (by decide +kernel) ?_
  rintro ⟨(x : Int), ⟨⟨n, el⟩, ⟨⟩⟩, ⟨(f : Int), ⟨⟩⟩, ⟨⟩⟩ ⟨(hn : n ≤ 16), (f0 : 0 ≤ f), (f1 : f < n)⟩
  obtain ⟨lo, hi, rfl⟩ : ∃ lo hi : Nat → Int, el = fun k => (lo k, hi k, ()) := ⟨fun k => (el k).1, fun k => (el k).2.1, rfl⟩
  unfold FnSat
  conv => arg 2; reduce
  simp [fu1S, betS, ElEq, getB, goneB, aliveB, and_assoc]
  have el' : (fun k => lo k) = lo := rfl
  have eh' : (fun k => hi k) = hi := rfl
  rw [el', eh']
  refine ⟨⟨0, by rw [supN_zero]; rfl, rfl, by omega⟩, fun g hg => ⟨fun hlt => ⟨hlt, fun h1 h2 => ?_, fun h => ?_⟩, fun hge => ?_⟩⟩
  · have e := supN_yes (n := g) (lo := lo) (hi := hi) (x := x) (hit_iff.2 ⟨h1, h2⟩)
    have l := supN_le (lo := lo) (hi := hi) (x := x) g
    exact ⟨by omega, by omega, by omega, by omega, g + 1, by omega, by omega, by omega, by omega⟩
  · have e := supN_no (n := g) (lo := lo) (hi := hi) (x := x) (by
      cases hh : hit (lo g) (hi g) x with
      | false => rfl
      | true => have := hit_iff.1 hh; have := h this.1; omega)
    have l := supN_le (lo := lo) (hi := hi) (x := x) g
    exact ⟨by omega, by omega, g + 1, by omega, by omega, by omega, by omega⟩
  · obtain rfl : g = n := by omega
    exact ⟨by omega, by omega, by unfold enou; rfl⟩
def SFu1 : Sums := ⟨(52, mkSum _ fu1S) :: SFu0.one, SFu0.two, SFu0.lo, SFu0.eqs, SFu0.its, SFu0.imm⟩
theorem SFu1_ok : SumsOK Try.prog SFu1 := (SFu0_ok.cons Try.func52 (by kernel_rfl) (by kernel_rfl) fu1_ok)
def fuXI : Spec [.slice 1 [.int .i64], .fn 52 [] [.ptr [spansSh], .ptr [.int .i64]]] := ⟨fun x => x.1.1 ≤ maxLen ∧ ∀ k, k < x.1.1 → (fun (el : Nat → DatL [.int .i64]) (c : DatL [.ptr [spansSh], .ptr [.int .i64]]) => c.1.1.1 ≤ 16 ∧ 0 ≤ c.2.1.1 ∧ c.2.1.1 < c.1.1.1) x.1.2 x.2.1.2, fun ((n, el), ((_, c), _)) => .si .i64 (idxN (fun k => enou c.1.1.1 (fun j => (c.1.1.2 j).1) (fun j => (c.1.1.2 j).2.1) c.2.1.1 (el k).1) n)⟩
noncomputable def fuXA : DatL [.slice 1 [.int .i64], .fn 52 [] [.ptr [spansSh], .ptr [.int .i64]]] → Anns := fun ((n, el), ((_, c), _)) => [(2, [], fun fr hp => ⟨Nat, fun g => ⟨frI [.k 5, .t 1, .k 2, .s (.si .i64 (icast g)), .t 10] fr, hp⟩, Nat, fun g => g, fun g => g ≤ firstN (fun k => enou c.1.1.1 (fun j => (c.1.1.2 j).1) (fun j => (c.1.1.2 j).2.1) c.2.1.1 (el k).1) n, fun g => nsub n g⟩)]
set_option maxRecDepth 100000 in
theorem fuXI_ok : FnSpec Try.prog 53 _ fuXI := by
  refine FnSpec.of SFu1_ok mixed (U := 0) (I := fuXA) Try.func53 rfl (by kernel_rfl) rfl rfl (by decide +kernel) ?_
  rintro ⟨⟨n, el⟩, ⟨⟨⟩, c⟩, ⟨⟩⟩ hpre
  have hn : n ≤ maxLen := hpre.1
  have hp := hpre.2
  unfold FnSat
  conv => arg 2; reduce
  unfold maxLen at hn
  have hle := firstN_le (fun k => enou c.1.1.1 (fun j => (c.1.1.2 j).1) (fun j => (c.1.1.2 j).2.1) c.2.1.1 (el k).1) n
  simp [fuXI, fu1S, and_assoc]
  refine ⟨⟨0, rfl, by omega⟩, fun k hk => ⟨fun h1 => ?_, fun h1 => ?_⟩⟩
  · refine And.intro h1 ?_
    have hq := hp k h1
    repeat refine And.intro (by first | exact hq | exact hq.1 | exact hq.2 | exact hq.2.1 | exact hq.2.2 | exact hq.2.2.1 | exact hq.2.2.2) ?_
    refine ⟨fun h2 => ?_, fun h2 => ?_⟩
    · rw [idxN, firstN_at hk (by simpa using h2), if_pos h1]; try simp
    · have := firstN_ge hk (by simpa using h2) h1
      refine ⟨by omega, by omega, k + 1, by omega, by omega, by omega⟩
  · rw [idxN, if_neg (by omega)]
def fuXC : Spec [.slice 1 [.int .i64], .fn 52 [] [.ptr [spansSh], .ptr [.int .i64]]] := ⟨fun x => x.1.1 ≤ maxLen ∧ ∀ k, k < x.1.1 → (fun (el : Nat → DatL [.int .i64]) (c : DatL [.ptr [spansSh], .ptr [.int .i64]]) => c.1.1.1 ≤ 16 ∧ 0 ≤ c.2.1.1 ∧ c.2.1.1 < c.1.1.1) x.1.2 x.2.1.2, fun ((n, el), ((_, c), _)) => .sb (anyN (fun k => enou c.1.1.1 (fun j => (c.1.1.2 j).1) (fun j => (c.1.1.2 j).2.1) c.2.1.1 (el k).1) n)⟩
def fuXS : Sums := ⟨(53, mkSum _ fuXI) :: SFu1.one, SFu1.two, SFu1.lo, SFu1.eqs, SFu1.its, SFu1.imm⟩
theorem fuXS_ok : SumsOK Try.prog fuXS := (SFu1_ok.cons Try.func53 (by kernel_rfl) (by kernel_rfl) fuXI_ok)
set_option maxRecDepth 100000 in
theorem fuXC_ok : FnSpec Try.prog 122 _ fuXC := by
  refine FnSpec.of fuXS_ok mixed (U := 0) (I := fun _ => []) Try.func122 rfl (by kernel_rfl) rfl rfl (by decide +kernel) ?_
  rintro ⟨⟨n, el⟩, ⟨⟨⟩, c⟩, ⟨⟩⟩ hpre
  unfold FnSat
  conv => arg 2; reduce
  have hpre : fuXC.pre ((n, el), (((), c), ())) := hpre
  simp [fuXC, fuXI, idxN_nonneg] at hpre ⊢
  exact hpre
-- valid ones
def rvaS : Spec [spanSh] := ⟨fun _ => True, fun ((lo, hi, _), _) => .sb (spanOK lo hi)⟩
set_option maxRecDepth 100000 in
theorem rva_ok : FnSpec Try.prog 23 _ rvaS := by
  refine FnSpec.of SFu1_ok mixed (U := 0) (I := fun _ => []) Try.func23 rfl (by kernel_rfl) rfl rfl (by decide +kernel) ?_
  rintro ⟨⟨(lo : Int), (hi : Int), ⟨⟩⟩, ⟨⟩⟩ -
  unfold FnSat
  conv => arg 2; reduce
  simp [rvaS, isS, spanOK]
@[irreducible] def havB (lo hi x : Int) : Bool := spanOK lo hi && hit lo hi x
def havS : Spec [spanSh, .int .i64] := ⟨fun _ => True, fun ((lo, hi, _), x, _) => .sb (havB lo hi x)⟩
def SFu2 : Sums := ⟨(23, mkSum _ rvaS) :: SFu1.one, SFu1.two, SFu1.lo, SFu1.eqs, SFu1.its, SFu1.imm⟩
theorem SFu2_ok : SumsOK Try.prog SFu2 := (SFu1_ok.cons Try.func23 (by kernel_rfl) (by kernel_rfl) rva_ok)
set_option maxRecDepth 100000 in
theorem rha_ok : FnSpec Try.prog 58 _ havS := by
  refine FnSpec.of SFu2_ok mixed (U := 0) (I := fun _ => []) Try.func58 rfl (by kernel_rfl) rfl rfl (by decide +kernel) ?_
  rintro ⟨⟨(lo : Int), (hi : Int), ⟨⟩⟩, (x : Int), ⟨⟩⟩ -
  unfold FnSat
  conv => arg 2; reduce
  simp [havS, rvaS, havB, hit]
  rw [Bool.and_assoc]
set_option maxRecDepth 100000 in
theorem qha_ok : FnSpec Try.prog 26 _ havS := by
  refine FnSpec.of SFu2_ok mixed (U := 0) (I := fun _ => []) Try.func26 rfl (by kernel_rfl) rfl rfl (by decide +kernel) ?_
  rintro ⟨⟨(lo : Int), (hi : Int), ⟨⟩⟩, (x : Int), ⟨⟩⟩ -
  unfold FnSat
  conv => arg 2; reduce
  simp [havS, validS, havB, hit, CanEl, CanL, CanSh, okSh, maxLen, decL, rowAt, takeL, dropL]
  rw [Bool.and_assoc]
@[irreducible] def qckE (lo hi : Int) : Int := if spanOK lo hi = true then 0 else 2
def qckS : Spec [spanSh] := ⟨fun _ => True, fun ((lo, hi, _), _) => .si .i64 (qckE lo hi)⟩
set_option maxRecDepth 100000 in
theorem qck_ok : FnSpec Try.prog 84 _ qckS := by
  refine FnSpec.of SFu2_ok mixed (U := 0) (I := fun _ => []) Try.func84 rfl (by kernel_rfl) rfl rfl (by decide +kernel) ?_
  rintro ⟨⟨(lo : Int), (hi : Int), ⟨⟩⟩, ⟨⟩⟩ -
  unfold FnSat
  conv => arg 2; reduce
  simp [qckS, validS, qckE, CanEl, CanL, CanSh, okSh, maxLen, decL, rowAt, takeL, dropL]
def SFu3 : Sums := ⟨(84, mkSum _ qckS) :: (26, mkSum _ havS) :: (58, mkSum _ havS) :: SFu2.one, SFu2.two, SFu2.lo, SFu2.eqs, SFu2.its, SFu2.imm⟩
theorem SFu3_ok : SumsOK Try.prog SFu3 := (((SFu2_ok.cons Try.func58 (by kernel_rfl) (by kernel_rfl) rha_ok).cons Try.func26 (by kernel_rfl) (by kernel_rfl) qha_ok).cons Try.func84 (by kernel_rfl) (by kernel_rfl) qck_ok)
def fs1S : Spec [spanSh] := ⟨fun _ => True, fun ((lo, hi, _), _) => .sb (badSpan lo hi)⟩
set_option maxRecDepth 100000 in
theorem fs1_ok : FnSpec Try.prog 83 _ fs1S := by
  refine FnSpec.of SFu3_ok mixed (U := 0) (I := fun _ => []) Try.func83 rfl (by kernel_rfl) rfl rfl (by decide +kernel) ?_
  rintro ⟨⟨(lo : Int), (hi : Int), ⟨⟩⟩, ⟨⟩⟩ -
  unfold FnSat
  conv => arg 2; reduce
  simp [fs1S, qckS, badSpan, qckE]
  cases spanOK lo hi <;> rfl
def SFu4 : Sums := ⟨(83, mkSum _ fs1S) :: SFu3.one, SFu3.two, SFu3.lo, SFu3.eqs, SFu3.its, SFu3.imm⟩
theorem SFu4_ok : SumsOK Try.prog SFu4 := (SFu3_ok.cons Try.func83 (by kernel_rfl) (by kernel_rfl) fs1_ok)
def fsBI : Spec [.slice 2 [.int .i64, .int .i64], .fn 83 [] []] := ⟨fun x => x.1.1 ≤ maxLen, fun ((n, el), ((_, c), _)) => .si .i64 (idxN (fun k => badSpan (el k).1 (el k).2.1) n)⟩
noncomputable def fsBA : DatL [.slice 2 [.int .i64, .int .i64], .fn 83 [] []] → Anns := fun ((n, el), ((_, c), _)) => [(2, [], fun fr hp => ⟨Nat, fun g => ⟨frI [.k 5, .t 1, .k 2, .s (.si .i64 (icast g)), .t 10] fr, hp⟩, Nat, fun g => g, fun g => g ≤ firstN (fun k => badSpan (el k).1 (el k).2.1) n, fun g => nsub n g⟩)]
set_option maxRecDepth 100000 in
theorem fsBI_ok : FnSpec Try.prog 109 _ fsBI := by
  refine FnSpec.of SFu4_ok mixed (U := 0) (I := fsBA) Try.func109 rfl (by kernel_rfl) rfl rfl (by decide +kernel) ?_
  rintro ⟨⟨n, el⟩, ⟨⟨⟩, c⟩, ⟨⟩⟩ hpre
  have hn : n ≤ maxLen := hpre
  unfold FnSat
  conv => arg 2; reduce
  unfold maxLen at hn
  have hle := firstN_le (fun k => badSpan (el k).1 (el k).2.1) n
  simp [fsBI, fs1S, and_assoc]
  refine ⟨⟨0, rfl, by omega⟩, fun k hk => ⟨fun h1 => ?_, fun h1 => ?_⟩⟩
  · refine And.intro h1 ?_
    refine ⟨fun h2 => ?_, fun h2 => ?_⟩
    · rw [idxN, firstN_at hk (by simpa using h2), if_pos h1]; try simp
    · have := firstN_ge hk (by simpa using h2) h1
      refine ⟨by omega, by omega, k + 1, by omega, by omega, by omega⟩
  · rw [idxN, if_neg (by omega)]
def fsBC : Spec [.slice 2 [.int .i64, .int .i64], .fn 83 [] []] := ⟨fun x => x.1.1 ≤ maxLen, fun ((n, el), ((_, c), _)) => .sb (anyN (fun k => badSpan (el k).1 (el k).2.1) n)⟩
def fsBS : Sums := ⟨(109, mkSum _ fsBI) :: SFu4.one, SFu4.two, SFu4.lo, SFu4.eqs, SFu4.its, SFu4.imm⟩
theorem fsBS_ok : SumsOK Try.prog fsBS := (SFu4_ok.cons Try.func109 (by kernel_rfl) (by kernel_rfl) fsBI_ok)
set_option maxRecDepth 100000 in
theorem fsBC_ok : FnSpec Try.prog 82 _ fsBC := by
  refine FnSpec.of fsBS_ok mixed (U := 0) (I := fun _ => []) Try.func82 rfl (by kernel_rfl) rfl rfl (by decide +kernel) ?_
  rintro ⟨⟨n, el⟩, ⟨⟨⟩, c⟩, ⟨⟩⟩ hpre
  unfold FnSat
  conv => arg 2; reduce
  have hpre : fsBC.pre ((n, el), (((), c), ())) := hpre
  simp [fsBC, fsBI, idxN_nonneg] at hpre ⊢
  exact hpre
def SFu5 : Sums := ⟨(82, mkSum _ fsBC) :: SFu4.one, SFu4.two, SFu4.lo, SFu4.eqs, SFu4.its, SFu4.imm⟩
theorem SFu5_ok : SumsOK Try.prog SFu5 := (SFu4_ok.cons Try.func82 (by kernel_rfl) (by kernel_rfl) fsBC_ok)
@[irreducible] def fsE (n : Nat) (bad : Bool) : Int := if 16 < n then 6 else if n = 0 then 2 else if bad = true then 2 else 0
@[irreducible] def badN (n : Nat) (el : Nat → Int × Int × Unit) : Bool := anyN (fun k => badSpan (el k).1 (el k).2.1) n
theorem bad_f {lo hi : Int} : badSpan lo hi = false ↔ spanOK lo hi = true := by unfold badSpan; cases spanOK lo hi <;> simp
theorem fsE_iff {n : Nat} {b : Bool} : fsE n b = 0 ↔ n ≤ 16 ∧ n ≠ 0 ∧ b = false := by
  unfold fsE
  split
  · constructor
    · intro h; omega
    · intro h; omega
  · split
    · constructor
      · intro h; omega
      · intro h; omega
    · cases b <;> simp <;> omega
theorem fsE_6 {n : Nat} {b : Bool} (h : 16 < n) : 6 = fsE n b := by unfold fsE; rw [if_pos h]
theorem fsE_2 {n : Nat} {b : Bool} (h : n ≤ 16) (h' : n = 0 ∨ b = true) : 2 = fsE n b := by
  unfold fsE
  rw [if_neg (by omega)]
  rcases h' with h' | h'
  · rw [if_pos h']
  · rw [h']; split <;> rfl
theorem badN_f {n : Nat} {lo hi : Nat → Int} : badN n (fun k => (lo k, hi k, ())) = false ↔ ∀ k, k < n → badSpan (lo k) (hi k) = false := by unfold badN; rw [anyN_false]
theorem badN_t {n : Nat} {lo hi : Nat → Int} {k : Nat} (hk : k < n) (h : badSpan (lo k) (hi k) = true) : badN n (fun k => (lo k, hi k, ())) = true := by unfold badN; rw [anyN_iff]; exact ⟨k, hk, h⟩
def fsS : Spec [spansSh] := ⟨fun ((n, _), _) => n ≤ 1000, fun ((n, el), _) => .si .i64 (fsE n (badN n el))⟩
set_option maxRecDepth 100000 in
theorem fsu_ok : FnSpec Try.prog 50 _ fsS := by
  refine FnSpec.of SFu5_ok mixed (U := 0) (I := fun _ => []) Try.func50 rfl (by kernel_rfl) rfl rfl (by decide +kernel) ?_
  rintro ⟨⟨n, el⟩, ⟨⟩⟩ (hn : n ≤ 1000)
  obtain ⟨lo, hi, rfl⟩ : ∃ lo hi : Nat → Int, el = fun k => (lo k, hi k, ()) := ⟨fun k => (el k).1, fun k => (el k).2.1, rfl⟩
  unfold FnSat
  conv => arg 2; reduce
  simp [fsS, fsBC, CanEl, CanL, CanSh, okSh, maxLen, and_assoc]
  have e : badN n (fun k => (lo k, hi k, ())) = anyN (fun k => badSpan (lo k) (hi k)) n := by unfold badN; rfl
  rw [e]
  refine ⟨fun h => fsE_6 (by omega), fun h => ⟨fun _ => by omega, fun h' => fsE_2 (by omega) h', fun h1 h2 => (fsE_iff.2 ⟨by omega, h1, h2⟩).symm⟩⟩
def rsI : DatL [spansSh] → Anns := fun ((n, el), _) => [
  (6, [], fun fr hp => ⟨Nat, fun g => ⟨frI [.k 3, .s (.si .i64 (icast g)), .t 18] fr, hp⟩, Nat × Nat, fun g => (n, g), fun (n, g) => g ≤ n ∧ ∀ k, k < g → badSpan (el k).1 (el k).2.1 = false, fun g => nsub n g⟩)]
set_option maxRecDepth 100000 in
theorem rsp_ok : FnSpec Try.prog 55 _ fsS := by
  refine FnSpec.of SFu5_ok mixed (U := 0) (I := rsI) Try.func55 rfl (by kernel_rfl) rfl rfl (by decide +kernel) ?_
  rintro ⟨⟨n, el⟩, ⟨⟩⟩ (hn : n ≤ 1000)
  obtain ⟨lo, hi, rfl⟩ : ∃ lo hi : Nat → Int, el = fun k => (lo k, hi k, ()) := ⟨fun k => (el k).1, fun k => (el k).2.1, rfl⟩
  unfold FnSat
  conv => arg 2; reduce
  simp [fsS, rvaS, ElEq, getB, goneB, aliveB, and_assoc]
  refine ⟨fun h => fsE_6 (by omega), fun h => ⟨fun h' => fsE_2 (by omega) (.inl h'), fun h0 => ⟨⟨0, rfl, by omega, fun k hk => by omega⟩, fun g hg hall => ⟨fun hlt => ⟨hlt, fun h1 => fsE_2 (by omega) (.inr (badN_t hlt (by unfold badSpan; rw [h1]; rfl))), fun h1 => ⟨by omega, by omega, g + 1, by omega, by omega, fun k hk => ?_, by omega⟩⟩, fun hge => ?_⟩⟩⟩⟩
  · by_cases e : k = g
    · subst e; exact bad_f.2 h1
    · exact hall k (by omega)
  · exact (fsE_iff.2 ⟨by omega, h0, badN_f.2 fun k hk => hall k (by omega)⟩).symm
def supS : Spec [spansSh, .int .i64] := ⟨fun ((n, el), _) => n ≤ 16 ∧ ∀ k, k < n → badSpan (el k).1 (el k).2.1 = false, fun ((n, el), (x : Int), _) => .si .i64 (icast (supN n (fun k => (el k).1) (fun k => (el k).2.1) x))⟩
def supI : DatL [spansSh, .int .i64] → Anns := fun ((n, el), (x : Int), _) => [
  (3, [], fun fr hp => ⟨Nat, fun g => ⟨frI [.k 5, .s (.si .i64 (icast (supN g (fun k => (el k).1) (fun k => (el k).2.1) x))), .s (.si .i64 (icast g)), .t 15] fr, hp⟩, Nat × Nat, fun g => (n, g), fun (n, g) => g ≤ n, fun g => nsub n g⟩)]
set_option maxRecDepth 100000 in
theorem sup_ok : FnSpec Try.prog 56 _ supS := by
  refine FnSpec.of SFu5_ok mixed (U := 0) (I := supI) Try.func56 rfl (by kernel_rfl) rfl rfl (by decide +kernel) ?_
  rintro ⟨⟨n, el⟩, (x : Int), ⟨⟩⟩ ⟨(hn : n ≤ 16), hb⟩
  obtain ⟨lo, hi, rfl⟩ : ∃ lo hi : Nat → Int, el = fun k => (lo k, hi k, ()) := ⟨fun k => (el k).1, fun k => (el k).2.1, rfl⟩
  unfold FnSat
  conv => arg 2; reduce
  simp [supS, havS, ElEq, getB, goneB, aliveB, and_assoc]
  have el' : (fun k => lo k) = lo := rfl
  have eh' : (fun k => hi k) = hi := rfl
  rw [el', eh']
  have hh : ∀ k, k < n → havB (lo k) (hi k) x = hit (lo k) (hi k) x := fun k hk => by
    have := bad_f.1 (hb k hk)
    unfold havB
    rw [show spanOK (lo k) (hi k) = true from this]; rfl
  refine ⟨⟨0, by rw [supN_zero]; rfl, rfl, by omega⟩, fun g hg => ⟨fun hlt => ⟨hlt, fun h => ?_, fun h => ?_⟩, fun hge => ?_⟩⟩
  · rw [hh g hlt] at h
    have e := supN_yes (n := g) (lo := lo) (hi := hi) (x := x) h
    have l := supN_le (lo := lo) (hi := hi) (x := x) g
    exact ⟨by omega, by omega, by omega, by omega, g + 1, by omega, by omega, by omega, by omega⟩
  · rw [hh g hlt] at h
    have e := supN_no (n := g) (lo := lo) (hi := hi) (x := x) h
    have l := supN_le (lo := lo) (hi := hi) (x := x) g
    exact ⟨by omega, by omega, g + 1, by omega, by omega, by omega, by omega⟩
  · rw [show g = n by omega]
def SFu6 : Sums := ⟨(56, mkSum _ supS) :: (55, mkSum _ fsS) :: (50, mkSum _ fsS) :: SFu5.one, SFu5.two, SFu5.lo, SFu5.eqs, SFu5.its, SFu5.imm⟩
theorem SFu6_ok : SumsOK Try.prog SFu6 := (((SFu5_ok.cons Try.func50 (by kernel_rfl) (by kernel_rfl) fsu_ok).cons Try.func55 (by kernel_rfl) (by kernel_rfl) rsp_ok).cons Try.func56 (by kernel_rfl) (by kernel_rfl) sup_ok)
end
end Abs
end Go.Proofs.Yteoaeodalknkiaa

/- Fused spans, by the program and by the document: the span; who lies. -/
namespace Go.Proofs.Yteoaeodalknkiaa
namespace Abs
open Go Go.RowKit
noncomputable section
attribute [local irreducible] FnSat
def SFv0 : Sums := ⟨SFu6.one, (54, mkSumF _ _ revF) :: (51, mkSumF _ _ srtF) :: SFu6.two, SFu6.lo, SFu6.eqs, SFu6.its, SFu6.imm⟩
theorem SFv0_ok : SumsOK Try.prog SFv0 := SumsOK.addTwo (SumsOK.addTwo SFu6_ok Try.func51 (by kernel_rfl) (by kernel_rfl) (mkSumF_ok srtF_ok)) Try.func54 (by kernel_rfl) (by kernel_rfl) (mkSumF_ok revF_ok)
def SFv1 : Sums := ⟨(53, mkSum _ fuXI) :: SFv0.one, SFv0.two, SFv0.lo, SFv0.eqs, SFv0.its, SFv0.imm⟩
theorem SFv1_ok : SumsOK Try.prog SFv1 := (SFv0_ok.cons Try.func53 (by kernel_rfl) (by kernel_rfl) fuXI_ok)
@[irreducible] def fuE (n : Nat) (lo hi : Nat → Int) (f : Int) : Int := if fsE n (badN n (fun k => (lo k, hi k, ()))) = 0 then (if 0 ≤ f ∧ f < n then (if fuOK n lo hi f = true then 0 else 5) else 3) else fsE n (badN n (fun k => (lo k, hi k, ())))
@[irreducible] def fuV (e x : Int) : Int := if e = 0 then x else 0
def fusS : Spec [spansSh, .int .i64] := ⟨fun ((n, _), _) => n ≤ 1000, fun ((n, el), (f : Int), _) => .tup [.agg [.si .i64 (fuV (fuE n (fun k => (el k).1) (fun k => (el k).2.1) f) (fuL n (fun k => (el k).1) (fun k => (el k).2.1) f)), .si .i64 (fuV (fuE n (fun k => (el k).1) (fun k => (el k).2.1) f) (fuH n (fun k => (el k).1) (fun k => (el k).2.1) f))], .si .i64 (fuE n (fun k => (el k).1) (fun k => (el k).2.1) f)]⟩
theorem fu_no {E : Int} (x y e : Int) (h : ¬e = 0) (h' : E = e) : 0 = fuV E x ∧ 0 = fuV E y ∧ e = E := by
  subst h'
  unfold fuV
  simp [h]
theorem fuV_0 {E x : Int} (h : E = 0) : fuV E x = x := by unfold fuV; rw [if_pos h]
theorem end_cat {lo hi : Nat → Int} {g j : Nat} (hj : j < 2 * (g + 1)) : nrmL (catE (2 * g) (fun j => [AV.si .i64 (endV lo hi j)]) (rowAt 1 [AV.si .i64 (lo g), AV.si .i64 (hi g)]) j) = [AV.si .i64 (endV lo hi j)] := by
  by_cases h : j < 2 * g
  · rw [catE_lt h]; rfl
  · rw [catE_ge (by omega)]
    by_cases h2 : j = 2 * g
    · subst h2; rw [end_lo, Nat.sub_self]; rfl
    · have h3 : j = 2 * g + 1 := by omega
      subst h3
      rw [end_hi, show 2 * g + 1 - 2 * g = 1 by omega]; rfl
def fusI : DatL [spansSh, .int .i64] → Anns := fun ((n, el), (f : Int), _) => [
  (8, [(7, 2, 1)], fun fr hp => ⟨Nat, fun g => ⟨frI [.k 9, .t 1, .k 20, .s (.si .i64 (icast g)), .t 35] fr, setLast hp (.row 2 1 (.sym (2 * g)) (fun j => [.si .i64 (endV (fun k => (el k).1) (fun k => (el k).2.1) j)]))⟩, Nat × Nat, fun g => (n, g), fun (n, g) => g ≤ n, fun g => nsub n g⟩)]
set_option maxRecDepth 100000 in
set_option maxHeartbeats 4000000 in
theorem fus_ok : FnSpec Try.prog 18 _ fusS := by
  refine FnSpec.of SFv1_ok mixed (U := 0) (I := fusI) Try.func18 rfl (by kernel_rfl) rfl rfl (by decide +kernel) ?_
  rintro ⟨⟨n, el⟩, (f : Int), ⟨⟩⟩ (hn : n ≤ 1000)
  obtain ⟨lo, hi, rfl⟩ : ∃ lo hi : Nat → Int, el = fun k => (lo k, hi k, ()) := ⟨fun k => (el k).1, fun k => (el k).2.1, rfl⟩
  unfold FnSat
  conv => arg 2; reduce
  simp [fusS, fsS, srtF, revF, fuXI, maxRow, ElEq, aliveB, goneB, getB, and_assoc, CanL, okSh, CanSh]
  have el' : (fun k => lo k) = lo := rfl
  have eh' : (fun k => hi k) = hi := rfl
  rw [el', eh']
  have e1 : (fun j => endV lo hi j) = endV lo hi := rfl
  simp only [e1]
  have e2 : ∀ m, (fun j => srtV m (endV lo hi) j) = srtV m (endV lo hi) := fun _ => rfl
  simp only [e2]
  have hE : fuE n lo hi f = if fsE n (badN n fun k => (lo k, hi k, PUnit.unit)) = 0 then (if 0 ≤ f ∧ f < n then (if fuOK n lo hi f = true then 0 else 5) else 3) else fsE n (badN n fun k => (lo k, hi k, PUnit.unit)) := by unfold fuE; rfl
  refine ⟨hn, fun h => fu_no _ _ _ h (by rw [hE, if_neg h]), fun h0 => ⟨fun h => fu_no _ _ _ (by decide) (by rw [hE, if_pos h0, if_neg (by omega)]), fun f0 f1 => ⟨⟨0, rfl, by omega, fun j => by omega, by omega⟩, fun g hg => ⟨fun hlt => ?_, fun hge => ?_⟩⟩⟩⟩
  · obtain ⟨h16, _, _⟩ := fsE_iff.1 h0
    exact ⟨hlt, by omega, by omega, by omega, g + 1, by omega, by omega, fun j hj => end_cat hj, by omega, by omega⟩
  · obtain ⟨h16, _, _⟩ := fsE_iff.1 h0
    obtain rfl : g = n := by omega
    rw [if_pos h0, if_pos ⟨f0, f1⟩] at hE
    obtain ⟨s1, s2⟩ := srt_first (n := g) (lo := lo) (hi := hi) (f := f) f1
    refine ⟨by omega, by unfold maxLen; omega, fun _ _ => ⟨h16, f0, f1⟩, fun hneg => fu_no _ _ _ (by decide) (by rw [hE, s1 hneg]; rfl), fun hpos => ?_⟩
    obtain ⟨hok, i, hi1, hi2, hi3⟩ := s2 hpos
    obtain ⟨q, hq1, hq2, hq3⟩ := srt_last (n := g) (lo := lo) (hi := hi) (f := f) f1 hok
    rw [hok, if_pos rfl] at hE
    rw [hi2, hq2, hE]
    simp only [Int.toNat_natCast]
    rw [hi3, hq3, fuV_0 rfl, fuV_0 rfl]
    exact ⟨by omega, by omega, by omega, by unfold maxLen; omega, fun _ _ => ⟨h16, f0, f1⟩, by omega, by omega, rfl, rfl, trivial⟩
def rfuI : DatL [spansSh, .int .i64] → Anns := fun ((n, el), (f : Int), _) => [
  (9, [], fun fr hp => ⟨Nat, fun g => ⟨frI [.k 7, .s (.sb (fdB (fun k => enou n (fun k => (el k).1) (fun k => (el k).2.1) f (el k).1) (fun k => (el k).1) g)), .k 1, .s (.si .i64 (icast g)), .t 101] fr,
    setB hp 1 (.cells 62 [.si .i64 (mnV (fun k => enou n (fun k => (el k).1) (fun k => (el k).2.1) f (el k).1) (fun k => (el k).1) g), .li .i64 0])⟩, Nat × Nat, fun g => (n, g), fun (n, g) => g ≤ n, fun g => nsub n g⟩),
  (16, [], fun fr hp => ⟨Nat, fun g => ⟨frI [.k 10, .s (.sb (fdB (fun k => enou n (fun k => (el k).1) (fun k => (el k).2.1) f (el k).2.1) (fun k => isub 0 (el k).2.1) g)), .s (.si .i64 (icast g)), .t 99] fr,
    setB hp 1 (.cells 62 [.si .i64 (mnV (fun k => enou n (fun k => (el k).1) (fun k => (el k).2.1) f (el k).1) (fun k => (el k).1) n), .si .i64 (isub 0 (mnV (fun k => enou n (fun k => (el k).1) (fun k => (el k).2.1) f (el k).2.1) (fun k => isub 0 (el k).2.1) g))])⟩, Nat × Nat, fun g => (n, g), fun (n, g) => g ≤ n, fun g => nsub n g⟩)]
set_option maxRecDepth 100000 in
set_option maxHeartbeats 4000000 in
theorem rfu_ok : FnSpec Try.prog 19 _ fusS := by
  refine FnSpec.of SFv1_ok mixed (U := 0) (I := rfuI) Try.func19 rfl (by kernel_rfl) rfl rfl (by decide +kernel) ?_
  rintro ⟨⟨n, el⟩, (f : Int), ⟨⟩⟩ (hn : n ≤ 1000)
  obtain ⟨lo, hi, rfl⟩ : ∃ lo hi : Nat → Int, el = fun k => (lo k, hi k, ()) := ⟨fun k => (el k).1, fun k => (el k).2.1, rfl⟩
  unfold FnSat
  conv => arg 2; reduce
  simp [fusS, fsS, supS, ElEq, aliveB, goneB, getB, and_assoc, CanL, okSh, CanSh]
  have el' : (fun k => lo k) = lo := rfl
  have eh' : (fun k => hi k) = hi := rfl
  rw [el', eh']
  have hE : fuE n lo hi f = if fsE n (badN n fun k => (lo k, hi k, PUnit.unit)) = 0 then (if 0 ≤ f ∧ f < n then (if fuOK n lo hi f = true then 0 else 5) else 3) else fsE n (badN n fun k => (lo k, hi k, PUnit.unit)) := by unfold fuE; rfl
  refine ⟨hn, fun h => fu_no _ _ _ h (by rw [hE, if_neg h]), fun h0 => ⟨fun h => fu_no _ _ _ (by decide) (by rw [hE, if_pos h0, if_neg (by omega)]), fun f0 f1 => ?_⟩⟩
  obtain ⟨h16, _, hbad⟩ := fsE_iff.1 h0
  have hbad := badN_f.1 hbad
  rw [if_pos h0, if_pos ⟨f0, f1⟩] at hE
  have hd := fuOK_hi (n := n) (lo := lo) (hi := hi) (f := f) f1
  have ok : fuOK n lo hi f = fdB (fun k => enou n lo hi f (lo k)) lo n := by unfold fuOK; rfl
  have eL : fuL n lo hi f = mnV (fun k => enou n lo hi f (lo k)) lo n := by unfold fuL; rfl
  have eH : fuH n lo hi f = -mnV (fun k => enou n lo hi f (hi k)) (fun k => -hi k) n := by unfold fuH; rfl
  have z1 := fd_zero (fun k => enou n lo hi f (lo k)) lo
  have z2 := fd_zero (fun k => enou n lo hi f (hi k)) (fun k => -hi k)
  refine ⟨⟨0, z1.1, rfl, z1.2.symm, by omega⟩, fun g hg => ⟨fun hlt => ⟨hlt, h16, hbad, by omega, by omega, fun _ _ => hlt, fun a b => ⟨a, b⟩, fun h1 h2 => ?_, fun h => ?_⟩, fun hge => ?_⟩⟩
  · have st := fd_step (p := fun k => enou n lo hi f (lo k)) (v := lo) (n := g) (enou_iff.2 h1) h2
    exact ⟨hlt, by omega, by omega, g + 1, st.1, by omega, st.2.symm, by omega, by omega⟩
  · have st := fd_stay (p := fun k => enou n lo hi f (lo k)) (v := lo) (n := g) (by
      cases hp : enou n lo hi f (lo g) with
      | false => exact .inl rfl
      | true => exact .inr (h (enou_iff.1 hp)))
    exact ⟨by omega, by omega, g + 1, st.1.symm, by omega, st.2.symm, by omega, by omega⟩
  obtain rfl : g = n := by omega
  refine ⟨⟨0, z2.1, rfl, rfl, by rw [z2.2]; rfl, by omega⟩, fun q hq => ⟨fun hlt => ⟨hlt, h16, hbad, by omega, by omega, fun _ _ => hlt, fun a b => ⟨a, b⟩, fun h1 h2 => ?_, fun h => ?_⟩, fun hge => ?_⟩⟩
  · have st := fd_step (p := fun k => enou g lo hi f (hi k)) (v := fun k => -hi k) (n := q) (enou_iff.2 h1) (by
      rcases h2 with h2 | h2
      · exact .inl h2
      · right; omega)
    exact ⟨hlt, by omega, by omega, q + 1, st.1, by omega, by rw [st.2]; omega, by omega, by omega⟩
  · have st := fd_stay (p := fun k => enou g lo hi f (hi k)) (v := fun k => -hi k) (n := q) (by
      cases hp : enou g lo hi f (hi q) with
      | false => exact .inl rfl
      | true =>
        have := h (enou_iff.1 hp)
        exact .inr ⟨this.1, by omega⟩)
    exact ⟨by omega, by omega, q + 1, st.1.symm, by omega, st.2.symm, by omega, by omega⟩
  obtain rfl : q = g := by omega
  rw [hd, ← ok, ← eL, ← eH]
  refine ⟨fun h => fu_no _ _ _ (by decide) ?_, fun h _ => ?_⟩
  · have : fuOK q lo hi f = false := by rcases h with h | h <;> exact h
    rw [hE, this]; rfl
  · rw [h, if_pos rfl] at hE
    rw [hE, fuV_0 rfl, fuV_0 rfl]
    exact ⟨rfl, rfl, rfl⟩
@[irreducible] def misP (lo hi : Nat → Int) (x : Int) (k : Nat) : Bool := !(hit (lo k) (hi k) x)
@[irreducible] def liE (n : Nat) (lo hi : Nat → Int) (x : Int) : Int := if fsE n (badN n (fun k => (lo k, hi k, ()))) = 0 then (if isQ x = true then 0 else 2) else fsE n (badN n (fun k => (lo k, hi k, ())))
@[irreducible] def liN (n : Nat) (lo hi : Nat → Int) (x : Int) : Nat := if liE n lo hi x = 0 then cntF (misP lo hi x) n else 0
def liaS : Spec [spansSh, .int .i64] := ⟨fun ((n, _), _) => n ≤ 1000, fun ((n, el), (x : Int), _) => .tup [.slc (.sym (liN n (fun k => (el k).1) (fun k => (el k).2.1) x)) 1 (fun j => [.si .i64 (pickF (misP (fun k => (el k).1) (fun k => (el k).2.1) x) n j)]), .si .i64 (liE n (fun k => (el k).1) (fun k => (el k).2.1) x)]⟩
def liaI : DatL [spansSh, .int .i64] → Anns := fun ((n, el), (x : Int), _) => [
  (8, [(7, 3, 1)], fun fr hp => ⟨Nat, fun g => ⟨frI [.k 8, .t 2, .k 10, .s (.si .i64 (icast g)), .t 14] fr,
    setLast hp (.row 3 1 (.sym (cntF (misP (fun k => (el k).1) (fun k => (el k).2.1) x) g)) (fun j => [.si .i64 (pickF (misP (fun k => (el k).1) (fun k => (el k).2.1) x) g j)]))⟩, Nat × Nat, fun g => (n, g), fun (n, g) => g ≤ n, fun g => nsub n g⟩)]
set_option maxRecDepth 100000 in
set_option maxHeartbeats 2000000 in
theorem lia_ok : FnSpec Try.prog 20 _ liaS := by
  refine FnSpec.of SFv1_ok mixed (U := 0) (I := liaI) Try.func20 rfl (by kernel_rfl) rfl rfl (by decide +kernel) ?_
  rintro ⟨⟨n, el⟩, (x : Int), ⟨⟩⟩ (hn : n ≤ 1000)
  obtain ⟨lo, hi, rfl⟩ : ∃ lo hi : Nat → Int, el = fun k => (lo k, hi k, ()) := ⟨fun k => (el k).1, fun k => (el k).2.1, rfl⟩
  unfold FnSat
  conv => arg 2; reduce
  simp [liaS, fsS, betS, havS, maxRow, ElEq, aliveB, goneB, getB, and_assoc, CanL, okSh, CanSh]
  have el' : (fun k => lo k) = lo := rfl
  have eh' : (fun k => hi k) = hi := rfl
  rw [el', eh']
  have hE : liE n lo hi x = if fsE n (badN n fun k => (lo k, hi k, PUnit.unit)) = 0 then (if isQ x = true then 0 else 2) else fsE n (badN n fun k => (lo k, hi k, PUnit.unit)) := by unfold liE; rfl
  have hN : liN n lo hi x = if liE n lo hi x = 0 then cntF (misP lo hi x) n else 0 := by unfold liN; rfl
  have no : ∀ e : Int, ¬e = 0 → liE n lo hi x = e → liN n lo hi x = 0 ∧ e = liE n lo hi x := fun e h h' => by
    rw [hN, h', if_neg h]; exact ⟨rfl, rfl⟩
  refine ⟨hn, fun h => no _ h (by rw [hE, if_neg h]), fun h0 => ⟨fun h => no 2 (by decide) (by rw [hE, if_pos h0, if_neg (by simp [isQ]; omega)]), fun x0 x1 => ?_⟩⟩
  have h2 : liE n lo hi x = 0 := by rw [hE, if_pos h0, if_pos (by simp [isQ]; omega)]
  rw [h2, if_pos rfl] at hN
  obtain ⟨h16, _, hbad⟩ := fsE_iff.1 h0
  have hbad := badN_f.1 hbad
  have hm : ∀ k, k < n → misP lo hi x k = !(havB (lo k) (hi k) x) := fun k hk => by
    have := bad_f.1 (hbad k hk)
    unfold misP havB
    rw [this]; rfl
  refine ⟨⟨0, rfl, (cntF_0 _).symm, fun j => by rw [cntF_0]; omega, by omega⟩, fun g hg => ⟨fun hlt => ⟨hlt, fun h => ?_, fun h => ?_⟩, fun hge => ?_⟩⟩
  · have hp : misP lo hi x g = true := by rw [hm g hlt, h]; rfl
    have := cntF_le (misP lo hi x) g
    exact ⟨by omega, by omega, by omega, g + 1, by omega, (cntF_t hp).symm, fun j hj => by rw [pick_cat hp j (by rw [cntF_t hp] at hj; exact hj)]; rfl, by omega, by omega⟩
  · have hp : misP lo hi x g = false := by rw [hm g hlt, h]; rfl
    exact ⟨by omega, by omega, g + 1, by omega, (cntF_f hp).symm, fun j hj => (pickF_lt (by rw [cntF_f hp] at hj; exact hj)).symm, by omega, by omega⟩
  · obtain rfl : g = n := by omega
    exact ⟨hN.symm, fun _ _ => rfl, h2.symm⟩
def rliI : DatL [spansSh, .int .i64] → Anns := fun ((n, el), (x : Int), _) => [
  (8, [(7, 3, 1)], fun fr hp => ⟨Nat, fun g => ⟨frI [.k 8, .s (.si .i64 (icast g)), .t 26] fr,
    setLast hp (.row 3 1 (.sym (cntF (misP (fun k => (el k).1) (fun k => (el k).2.1) x) g)) (fun j => [.si .i64 (pickF (misP (fun k => (el k).1) (fun k => (el k).2.1) x) g j)]))⟩, Nat × Nat, fun g => (n, g), fun (n, g) => g ≤ n, fun g => nsub n g⟩)]
set_option maxRecDepth 100000 in
set_option maxHeartbeats 2000000 in
theorem rli_ok : FnSpec Try.prog 21 _ liaS := by
  refine FnSpec.of SFv1_ok mixed (U := 0) (I := rliI) Try.func21 rfl (by kernel_rfl) rfl rfl (by decide +kernel) ?_
  rintro ⟨⟨n, el⟩, (x : Int), ⟨⟩⟩ (hn : n ≤ 1000)
  obtain ⟨lo, hi, rfl⟩ : ∃ lo hi : Nat → Int, el = fun k => (lo k, hi k, ()) := ⟨fun k => (el k).1, fun k => (el k).2.1, rfl⟩
  unfold FnSat
  conv => arg 2; reduce
  simp [liaS, fsS, isS, havS, maxRow, ElEq, aliveB, goneB, getB, and_assoc, CanL, okSh, CanSh]
  have el' : (fun k => lo k) = lo := rfl
  have eh' : (fun k => hi k) = hi := rfl
  rw [el', eh']
  have hE : liE n lo hi x = if fsE n (badN n fun k => (lo k, hi k, PUnit.unit)) = 0 then (if isQ x = true then 0 else 2) else fsE n (badN n fun k => (lo k, hi k, PUnit.unit)) := by unfold liE; rfl
  have hN : liN n lo hi x = if liE n lo hi x = 0 then cntF (misP lo hi x) n else 0 := by unfold liN; rfl
  have no : ∀ e : Int, ¬e = 0 → liE n lo hi x = e → liN n lo hi x = 0 ∧ e = liE n lo hi x := fun e h h' => by
    rw [hN, h', if_neg h]; exact ⟨rfl, rfl⟩
  refine ⟨hn, fun h => no _ h (by rw [hE, if_neg h]), fun h0 => ⟨fun h => no 2 (by decide) (by rw [hE, if_pos h0, if_neg (by rw [h]; simp)]), fun hq => ?_⟩⟩
  have h2 : liE n lo hi x = 0 := by rw [hE, if_pos h0, if_pos (by exact hq)]
  rw [h2, if_pos rfl] at hN
  obtain ⟨h16, _, hbad⟩ := fsE_iff.1 h0
  have hbad := badN_f.1 hbad
  have hm : ∀ k, k < n → misP lo hi x k = !(havB (lo k) (hi k) x) := fun k hk => by
    have := bad_f.1 (hbad k hk)
    unfold misP havB
    rw [this]; rfl
  refine ⟨⟨0, rfl, (cntF_0 _).symm, fun j => by rw [cntF_0]; omega, by omega⟩, fun g hg => ⟨fun hlt => ⟨hlt, fun h => ?_, fun h => ?_⟩, fun hge => ?_⟩⟩
  · have hp : misP lo hi x g = true := by rw [hm g hlt, h]; rfl
    have := cntF_le (misP lo hi x) g
    exact ⟨by omega, by omega, by omega, g + 1, by omega, (cntF_t hp).symm, fun j hj => by rw [pick_cat hp j (by rw [cntF_t hp] at hj; exact hj)]; rfl, by omega, by omega⟩
  · have hp : misP lo hi x g = false := by rw [hm g hlt, h]; rfl
    exact ⟨by omega, by omega, g + 1, by omega, (cntF_f hp).symm, fun j hj => (pickF_lt (by rw [cntF_f hp] at hj; exact hj)).symm, by omega, by omega⟩
  · obtain rfl : g = n := by omega
    exact ⟨hN.symm, fun _ _ => rfl, h2.symm⟩
def SFv2 : Sums := ⟨(21, mkSum _ liaS) :: (20, mkSum _ liaS) :: (19, mkSum _ fusS) :: (18, mkSum _ fusS) :: SFv1.one, SFv1.two, SFv1.lo, SFv1.eqs, SFv1.its, SFv1.imm⟩
theorem SFv2_ok : SumsOK Try.prog SFv2 := ((((SFv1_ok.cons Try.func18 (by kernel_rfl) (by kernel_rfl) fus_ok).cons Try.func19 (by kernel_rfl) (by kernel_rfl) rfu_ok).cons Try.func20 (by kernel_rfl) (by kernel_rfl) lia_ok).cons Try.func21 (by kernel_rfl) (by kernel_rfl) rli_ok)
end
end Abs
end Go.Proofs.Yteoaeodalknkiaa

/- Spans that are fused: the meeting of all; one liar more. Plain. -/
namespace Go.Proofs.Yteoaeodalknkiaa
namespace Abs
open Go
/-- the meeting of the first spans, and whether there is one -/
def mt (lo hi : Nat → Int) : Nat → Bool × Int × Int
  | 0 => (true, lo 0, hi 0)
  | g + 1 => if (mt lo hi g).1 = true ∧ max (mt lo hi g).2.1 (lo g) ≤ min (mt lo hi g).2.2 (hi g) then (true, max (mt lo hi g).2.1 (lo g), min (mt lo hi g).2.2 (hi g)) else (false, (mt lo hi g).2)
@[irreducible] def mtA (lo hi : Nat → Int) (g : Nat) : Bool := (mt lo hi g).1
@[irreducible] def mtL (lo hi : Nat → Int) (g : Nat) : Int := (mt lo hi g).2.1
@[irreducible] def mtH (lo hi : Nat → Int) (g : Nat) : Int := (mt lo hi g).2.2
section
variable {lo hi : Nat → Int} {g n : Nat} {f x : Int}
theorem mt_0 : mtA lo hi 0 = true ∧ mtL lo hi 0 = lo 0 ∧ mtH lo hi 0 = hi 0 := by unfold mtA mtL mtH; exact ⟨rfl, rfl, rfl⟩
theorem mt_yes (h1 : mtA lo hi g = true) (h2 : max (mtL lo hi g) (lo g) ≤ min (mtH lo hi g) (hi g)) : mtA lo hi (g + 1) = true ∧ mtL lo hi (g + 1) = max (mtL lo hi g) (lo g) ∧ mtH lo hi (g + 1) = min (mtH lo hi g) (hi g) := by
  unfold mtA mtL mtH at *
  rw [mt, if_pos ⟨h1, h2⟩]
  exact ⟨rfl, rfl, rfl⟩
theorem mt_no (h : ¬(mtA lo hi g = true ∧ max (mtL lo hi g) (lo g) ≤ min (mtH lo hi g) (hi g))) : mtA lo hi (g + 1) = false ∧ mtL lo hi (g + 1) = mtL lo hi g ∧ mtH lo hi (g + 1) = mtH lo hi g := by
  unfold mtA mtL mtH at *
  rw [mt, if_neg h]
  exact ⟨rfl, rfl, rfl⟩
theorem mt_in : ∀ g, (∃ k, (k < g ∨ k = 0) ∧ mtL lo hi g = lo k) ∧ ∃ k, (k < g ∨ k = 0) ∧ mtH lo hi g = hi k
  | 0 => ⟨⟨0, .inr rfl, mt_0.2.1⟩, 0, .inr rfl, mt_0.2.2⟩
  | g + 1 => by
    obtain ⟨⟨k, hk, e⟩, q, hq, e'⟩ := mt_in g
    by_cases h : mtA lo hi g = true ∧ max (mtL lo hi g) (lo g) ≤ min (mtH lo hi g) (hi g)
    · obtain ⟨_, h2, h3⟩ := mt_yes h.1 h.2
      rw [h2, h3]
      constructor
      · by_cases h4 : mtL lo hi g ≤ lo g
        · exact ⟨g, by omega, by omega⟩
        · exact ⟨k, by omega, by omega⟩
      · by_cases h4 : hi g ≤ mtH lo hi g
        · exact ⟨g, by omega, by omega⟩
        · exact ⟨q, by omega, by omega⟩
    · obtain ⟨_, h2, h3⟩ := mt_no h
      rw [h2, h3]
      exact ⟨⟨k, by omega, e⟩, q, by omega, e'⟩
theorem mt_spec (h0 : lo 0 ≤ hi 0) : ∀ g, (∀ k, k < g → lo k ≤ hi k) → (mtA lo hi g = true → mtL lo hi g ≤ mtH lo hi g ∧ ∀ k, k < g → lo k ≤ mtL lo hi g ∧ mtH lo hi g ≤ hi k) ∧ (mtA lo hi g = false → ∃ i j, i < g ∧ j < g ∧ hi i < lo j)
  | 0, _ => by
    obtain ⟨h1, h2, h3⟩ := mt_0 (lo := lo) (hi := hi)
    rw [h1, h2, h3]
    exact ⟨fun _ => ⟨h0, fun k hk => by omega⟩, fun h => by cases h⟩
  | g + 1, hv => by
    obtain ⟨i1, i2⟩ := mt_spec h0 g fun k hk => hv k (by omega)
    by_cases h : mtA lo hi g = true ∧ max (mtL lo hi g) (lo g) ≤ min (mtH lo hi g) (hi g)
    · obtain ⟨h1, h2, h3⟩ := mt_yes h.1 h.2
      obtain ⟨_, i3⟩ := i1 h.1
      rw [h1, h2, h3]
      refine ⟨fun _ => ⟨h.2, fun k hk => ?_⟩, fun h => by cases h⟩
      by_cases e : k = g
      · subst e; omega
      · have := i3 k (by omega); omega
    · obtain ⟨h1, h2, h3⟩ := mt_no h
      rw [h1]
      refine ⟨fun h => (by cases h), fun _ => ?_⟩
      cases ha : mtA lo hi g with
      | false =>
        obtain ⟨i, j, hi', hj, hij⟩ := i2 ha
        exact ⟨i, j, by omega, by omega, hij⟩
      | true =>
        obtain ⟨i3, i4⟩ := i1 ha
        obtain ⟨⟨k, hk, e⟩, q, hq, e'⟩ := mt_in (lo := lo) (hi := hi) g
        have hgt : ¬max (mtL lo hi g) (lo g) ≤ min (mtH lo hi g) (hi g) := fun h' => h ⟨ha, h'⟩
        have hg := hv g (by omega)
        by_cases h5 : mtH lo hi g < lo g
        · exact ⟨q, g, by omega, by omega, by omega⟩
        · exact ⟨g, k, by omega, by omega, by omega⟩
theorem supN_all : ∀ {n}, supN n lo hi x = n ↔ ∀ k, k < n → hit (lo k) (hi k) x = true
  | 0 => ⟨fun _ k hk => by omega, fun _ => rfl⟩
  | n + 1 => by
    have l := supN_le (lo := lo) (hi := hi) (x := x) n
    cases h : hit (lo n) (hi n) x with
    | true =>
      rw [supN_yes h]
      constructor
      · intro h1 k hk
        by_cases e : k = n
        · subst e; exact h
        · exact (supN_all (n := n)).1 (by omega) k (by omega)
      · intro h1
        have := (supN_all (n := n)).2 fun k hk => h1 k (by omega)
        omega
    | false =>
      rw [supN_no h]
      constructor
      · intro h1; omega
      · intro h1; rw [h1 n (by omega)] at h; cases h
theorem enou_0 : enou n lo hi 0 x = true ↔ ∀ k, k < n → hit (lo k) (hi k) x = true := by
  rw [enou_iff, ← supN_all]
  have := supN_le (lo := lo) (hi := hi) (x := x) n
  omega
/-- with no liar the fused span is the meeting of all -/
theorem fu_meet (hn : 1 ≤ n) (hv : ∀ k, k < n → lo k ≤ hi k) : fuOK n lo hi 0 = mtA lo hi n ∧ (mtA lo hi n = true → fuL n lo hi 0 = mtL lo hi n ∧ fuH n lo hi 0 = mtH lo hi n) := by
  obtain ⟨i1, i2⟩ := mt_spec (hv 0 (by omega)) n hv
  obtain ⟨⟨k, hk, e⟩, q, hq, e'⟩ := mt_in (lo := lo) (hi := hi) n
  have hk : k < n := by omega
  have hq : q < n := by omega
  cases ha : mtA lo hi n with
  | true =>
    obtain ⟨i3, i4⟩ := i1 ha
    have a1 := mn_uniq (p := fun k => enou n lo hi 0 (lo k)) (v := lo) (n := n) (m := mtL lo hi n) ⟨k, hk, enou_0.2 fun j hj => hit_iff.2 (by have := i4 j hj; omega), e.symm⟩ fun j hj hp => by
      have := hit_iff.1 (enou_0.1 hp k hk); omega
    have a2 := mn_uniq (p := fun k => enou n lo hi 0 (hi k)) (v := fun k => -hi k) (n := n) (m := -mtH lo hi n) ⟨q, hq, enou_0.2 fun j hj => hit_iff.2 (by have := i4 j hj; omega), by omega⟩ fun j hj hp => by
      have := hit_iff.1 (enou_0.1 hp q hq); omega
    refine ⟨by unfold fuOK; exact a1.1, fun _ => ⟨by unfold fuL; exact a1.2, by unfold fuH; rw [a2.2, Int.neg_neg]⟩⟩
  | false =>
    obtain ⟨i, j, hi', hj, hij⟩ := i2 ha
    refine ⟨?_, fun h => by cases h⟩
    cases hf : fuOK n lo hi 0 with
    | false => rfl
    | true =>
      unfold fuOK at hf
      obtain ⟨⟨r, hr, hp, _⟩, _⟩ := (mn_spec (p := fun k => enou n lo hi 0 (lo k)) (v := lo) (n := n)).1 hf
      have b1 := hit_iff.1 (enou_0.1 hp i hi')
      have b2 := hit_iff.1 (enou_0.1 hp j hj)
      omega
/-- what the fused span holds -/
theorem fu_has (hf : f < n) (h : enou n lo hi f x = true) : fuOK n lo hi f = true ∧ fuL n lo hi f ≤ x ∧ x ≤ fuH n lo hi f := by
  obtain ⟨k, hk, h1, h2⟩ := sup_lo hf h
  obtain ⟨j, hj, h3, h4⟩ := sup_hi hf h
  have hd := fuOK_hi (n := n) (lo := lo) (hi := hi) (f := f) hf
  have s1 := mn_spec (p := fun k => enou n lo hi f (lo k)) (v := lo) (n := n)
  have s2 := mn_spec (p := fun k => enou n lo hi f (hi k)) (v := fun k => -hi k) (n := n)
  have hok : fuOK n lo hi f = true := by
    unfold fuOK
    cases hh : fdB (fun k => enou n lo hi f (lo k)) lo n with
    | true => rfl
    | false => have := (s1.2 hh).2 k hk; rw [this] at h2; cases h2
  rw [hok] at hd
  unfold fuOK at hok
  have a1 := (s1.1 hok).2 k hk h2
  have a2 := (s2.1 hd).2 j hj h4
  refine ⟨by unfold fuOK; exact hok, by unfold fuL; omega, by unfold fuH; omega⟩
theorem fu_ends (hf : f < n) (h : fuOK n lo hi f = true) : (∃ k, k < n ∧ enou n lo hi f (lo k) = true ∧ fuL n lo hi f = lo k) ∧ (∃ k, k < n ∧ enou n lo hi f (hi k) = true ∧ fuH n lo hi f = hi k) ∧ fuL n lo hi f ≤ fuH n lo hi f := by
  have hd := fuOK_hi (n := n) (lo := lo) (hi := hi) (f := f) hf
  rw [h] at hd
  unfold fuOK at h
  obtain ⟨⟨k, hk, h1, h2⟩, _⟩ := (mn_spec (p := fun k => enou n lo hi f (lo k)) (v := lo) (n := n)).1 h
  obtain ⟨⟨j, hj, h3, h4⟩, _⟩ := (mn_spec (p := fun k => enou n lo hi f (hi k)) (v := fun k => -hi k) (n := n)).1 hd
  have hh := fu_has hf h1
  have e1 : fuL n lo hi f = lo k := by unfold fuL; exact h2.symm
  have e2 : fuH n lo hi f = hi j := by unfold fuH; rw [← h4, Int.neg_neg]
  exact ⟨⟨k, hk, h1, e1⟩, ⟨j, hj, h3, e2⟩, by omega⟩
theorem enou_more {d : Int} (h : enou n lo hi f x = true) (hd : f ≤ d) : enou n lo hi d x = true := by
  rw [enou_iff] at h ⊢; omega
theorem fu_more (hf : f + 1 < n) (h : fuOK n lo hi f = true) : fuOK n lo hi (f + 1) = true ∧ fuL n lo hi (f + 1) ≤ fuL n lo hi f ∧ fuH n lo hi f ≤ fuH n lo hi (f + 1) := by
  obtain ⟨⟨k, hk, h1, e1⟩, ⟨j, hj, h2, e2⟩, _⟩ := fu_ends (by omega) h
  have a := fu_has hf (enou_more h1 (by omega))
  have b := fu_has hf (enou_more h2 (by omega))
  exact ⟨a.1, by omega, by omega⟩
theorem mis_sup : ∀ n, cntF (misP lo hi x) n + supN n lo hi x = n
  | 0 => by rw [cntF_0]; rfl
  | n + 1 => by
    have ih := mis_sup n
    cases h : hit (lo n) (hi n) x with
    | true =>
      have : misP lo hi x n = false := by unfold misP; rw [h]; rfl
      rw [cntF_f this, supN_yes h]; omega
    | false =>
      have : misP lo hi x n = true := by unfold misP; rw [h]; rfl
      rw [cntF_t this, supN_no h]; omega
end
end Abs
end Go.Proofs.Yteoaeodalknkiaa

/- The meeting of spans, and whether one is inside of another, by the program. -/
namespace Go.Proofs.Yteoaeodalknkiaa
namespace Abs
open Go Go.RowKit
noncomputable section
attribute [local irreducible] FnSat
@[irreducible] def meeE (a b c d : Int) : Int := if spanOK a b = true ∧ spanOK c d = true then (if max a c ≤ min b d then 0 else 5) else 2
@[irreducible] def meeL (a b c d : Int) : Int := if meeE a b c d = 0 then max a c else 0
@[irreducible] def meeH (a b c d : Int) : Int := if meeE a b c d = 0 then min b d else 0
def meeS : Spec [spanSh, spanSh] := ⟨fun _ => True, fun ((a, b, _), (c, d, _), _) => .tup [.agg [.si .i64 (meeL a b c d), .si .i64 (meeH a b c d)], .si .i64 (meeE a b c d)]⟩
set_option maxRecDepth 100000 in
theorem mee_ok : FnSpec Try.prog 24 _ meeS := by
  refine FnSpec.of SFv2_ok mixed (U := 0) (I := fun _ => []) Try.func24 rfl (by kernel_rfl) rfl rfl (by decide +kernel) ?_
  rintro ⟨⟨(a : Int), (b : Int), ⟨⟩⟩, ⟨(c : Int), (d : Int), ⟨⟩⟩, ⟨⟩⟩ -
  unfold FnSat
  conv => arg 2; reduce
  simp [meeS, validS, CanEl, CanL, CanSh, okSh, maxLen, decL, rowAt, takeL, dropL, and_assoc]
  have eE : meeE a b c d = if spanOK a b = true ∧ spanOK c d = true then (if max a c ≤ min b d then 0 else 5) else 2 := by unfold meeE; rfl
  refine ⟨fun k hk => by rcases (show k = 0 ∨ k = 1 by omega) with rfl | rfl <;> simp [rowAt, takeL, dropL], fun h => ?_, fun h1 h2 => ⟨fun h => ?_, fun h => ?_⟩⟩
  · have : meeE a b c d = 2 := by
      rw [eE, if_neg]
      rintro ⟨h1, h2⟩
      rcases h with h | h
      · rw [h1] at h; cases h
      · rw [h2] at h; cases h
    unfold meeL meeH
    rw [this]; simp
  · have : meeE a b c d = 5 := by rw [eE, if_pos ⟨h1, h2⟩, if_neg (by omega)]
    unfold meeL meeH
    rw [this]; simp
  · have : meeE a b c d = 0 := by rw [eE, if_pos ⟨h1, h2⟩, if_pos h]
    unfold meeL meeH
    rw [this]; simp
@[irreducible] def iniB (a b c d : Int) : Bool := spanOK a b && (spanOK c d && (decide (c ≤ a) && decide (b ≤ d)))
def iniS2 : Spec [spanSh, spanSh] := ⟨fun _ => True, fun ((a, b, _), (c, d, _), _) => .sb (iniB a b c d)⟩
set_option maxRecDepth 100000 in
theorem ins2_ok : FnSpec Try.prog 25 _ iniS2 := by
  refine FnSpec.of SFv2_ok mixed (U := 0) (I := fun _ => []) Try.func25 rfl (by kernel_rfl) rfl rfl (by decide +kernel) ?_
  rintro ⟨⟨(a : Int), (b : Int), ⟨⟩⟩, ⟨(c : Int), (d : Int), ⟨⟩⟩, ⟨⟩⟩ -
  unfold FnSat
  conv => arg 2; reduce
  simp [iniS2, validS, CanEl, CanL, CanSh, okSh, maxLen, decL, rowAt, takeL, dropL, and_assoc]
  refine ⟨fun k hk => by rcases (show k = 0 ∨ k = 1 by omega) with rfl | rfl <;> simp [rowAt, takeL, dropL], ?_⟩
  unfold iniB
  rw [Bool.and_assoc, Bool.and_assoc]
def SFx : Sums := ⟨(25, mkSum _ iniS2) :: (24, mkSum _ meeS) :: SFv2.one, SFv2.two, SFv2.lo, SFv2.eqs, SFv2.its, SFv2.imm⟩
theorem SFx_ok : SumsOK Try.prog SFx := ((SFv2_ok.cons Try.func24 (by kernel_rfl) (by kernel_rfl) mee_ok).cons Try.func25 (by kernel_rfl) (by kernel_rfl) ins2_ok)
end
end Abs
end Go.Proofs.Yteoaeodalknkiaa

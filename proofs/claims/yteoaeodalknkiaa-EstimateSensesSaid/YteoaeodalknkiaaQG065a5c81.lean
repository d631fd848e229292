/- A part of the proof: no statement of its own. -/
import Derived.Test.YteoaeodalknkiaaQGe7f3b95a
set_option linter.unusedSimpArgs false
set_option linter.unusedVariables false
/- Cells, by the document: voltages, heat, the next state. -/
namespace Go.Proofs.Yteoaeodalknkiaa
namespace Abs
open Go Go.RowKit
noncomputable section
attribute [local irreducible] FnSat
def rfillS : Spec [.int .i64, .int .i64] := pcS
set_option maxRecDepth 100000 in
theorem rfill_ok : FnSpec Try.prog 97 _ pcS := by
  refine FnSpec.of SMa_ok mixed (U := 0) (I := fun _ => []) Try.func97 rfl (by kernel_rfl) rfl rfl (by decide +kernel) ?_
  rintro ⟨(x : Int), (o : Int), ⟨⟩⟩ ⟨(h1 : -17592186044416 ≤ x), (h2 : x ≤ 17592186044416), (h3 : 1 ≤ o)⟩
  unfold FnSat
  conv => arg 2; reduce
  simp [pcS, divS, and_assoc]
  unfold pcV
  omega
theorem val_pre {c : Crv} {last most : Int} (h : scB c last most = true) (h1 : last ≤ 400000) (h2 : most ≤ 8388608) : crB c = true ∧ c.x 0 = 0 ∧ c.x (c.nx - 1) ≤ 400000 ∧ 0 ≤ c.y 0 ∧ c.y (c.nx - 1) ≤ 8388608 := by
  have h := scB_iff.1 h
  exact ⟨h.1, h.2.1, by omega, h.2.2.2.1, by omega⟩
def ropenS : Spec [celSh, .int .i64] := ⟨fun (c, (f : Int), _) => celB (celOf c) = true ∧ -1099511627776 ≤ f ∧ f ≤ 1099511627776, fun (c, (f : Int), _) => .si .i64 (openV (celOf c) f)⟩
set_option maxRecDepth 100000 in
theorem ropen_ok : FnSpec Try.prog 96 _ ropenS := by
  refine FnSpec.of SMa_ok mixed (U := 0) (I := fun _ => []) Try.func96 rfl (by kernel_rfl) rfl rfl (by decide +kernel) ?_
  rintro ⟨c, (f : Int), ⟨⟩⟩ hpre
  obtain ⟨c, rfl⟩ := cel_ex c
  have hpre : celB c = true ∧ -1099511627776 ≤ f ∧ f ≤ 1099511627776 := by have : celB (celOf (celD c)) = true ∧ -1099511627776 ≤ f ∧ f ≤ 1099511627776 := hpre; rwa [celOf_D] at this
  unfold FnSat
  conv => arg 2; reduce
  simp [ropenS, rvalS, ElEq, and_assoc]
  obtain ⟨hc, f1, f2⟩ := hpre
  have hc := celB_iff.1 hc
  have hv := sc_val hc.ocv f
  have := hc.sh0
  have := hc.sh1
  have vp := val_pre hc.ocv (by decide) (by decide)
  unfold openV
  exact ⟨vp.1, vp.2.1, vp.2.2.1, vp.2.2.2.1, vp.2.2.2.2, f1, f2, by omega, by omega, rfl⟩
def rresS : Spec [celSh, .int .i64, .int .i64] := ⟨fun (c, (t : Int), (w : Int), _) => celB (celOf c) = true ∧ 0 ≤ t ∧ t ≤ 400000 ∧ 0 ≤ w ∧ w ≤ 17179869184, fun (c, (t : Int), (w : Int), _) => .si .i64 (resV (celOf c) t w)⟩
set_option maxRecDepth 100000 in
theorem rres_ok : FnSpec Try.prog 95 _ rresS := by
  refine FnSpec.of SMa_ok mixed (U := 0) (I := fun _ => []) Try.func95 rfl (by kernel_rfl) rfl rfl (by decide +kernel) ?_
  rintro ⟨c, (t : Int), (w : Int), ⟨⟩⟩ hpre
  obtain ⟨c, rfl⟩ := cel_ex c
  have hpre : celB c = true ∧ 0 ≤ t ∧ t ≤ 400000 ∧ 0 ≤ w ∧ w ≤ 17179869184 := by have : celB (celOf (celD c)) = true ∧ 0 ≤ t ∧ t ≤ 400000 ∧ 0 ≤ w ∧ w ≤ 17179869184 := hpre; rwa [celOf_D] at this
  unfold FnSat
  conv => arg 2; reduce
  simp [rresS, rvalS, divS, clipS, ElEq, and_assoc]
  obtain ⟨hc, t0, t1, w0, w1⟩ := hpre
  have hc := celB_iff.1 hc
  have hv := sc_val hc.cold (400000 - t)
  have h1 := mul_in w0 w1 hc.gr0 hc.gr1
  have h2 := dvI_le (a := w * c.grow) (d := 65536) (m := 274877906944) (by decide) (by omega)
  have h3 := dvI_nonneg (a := w * c.grow) (d := 65536) (by decide) h1.1
  have := hc.ex0
  have := hc.ex1
  have vp := val_pre hc.cold (by decide) (by decide)
  unfold resV
  exact ⟨by omega, by omega, vp.1, vp.2.1, vp.2.2.1, vp.2.2.2.1, vp.2.2.2.2, by omega, by omega, by omega, by omega, by omega, by omega, by omega, by omega, by omega, by omega, rfl⟩
@[irreducible] def secV (r p : Int) : Int := if 0 < p then dvI (r * r) (1000 * p) else 0
def rsecS : Spec [.int .i64, .int .i64] := ⟨fun ((r : Int), (p : Int), _) => -8388608 ≤ r ∧ r ≤ 8388608 ∧ 0 ≤ p ∧ p ≤ 1048576, fun ((r : Int), (p : Int), _) => .si .i64 (secV r p)⟩
set_option maxRecDepth 100000 in
theorem rsec_ok : FnSpec Try.prog 128 _ rsecS := by
  refine FnSpec.of SMa_ok mixed (U := 0) (I := fun _ => []) Try.func128 rfl (by kernel_rfl) rfl rfl (by decide +kernel) ?_
  rintro ⟨(r : Int), (p : Int), ⟨⟩⟩ ⟨(r1 : -8388608 ≤ r), (r2 : r ≤ 8388608), (p1 : 0 ≤ p), (p2 : p ≤ 1048576)⟩
  unfold FnSat
  conv => arg 2; reduce
  simp [rsecS, divS, and_assoc]
  have m3 := sq_in (a := r) (A := 8388608) r1 r2
  refine ⟨fun h => ?_, fun h => ?_⟩
  · unfold secV; rw [if_neg (by omega)]
  · exact ⟨by omega, by omega, by omega, by omega, by omega, by omega, by omega, by unfold secV; rw [if_pos (by omega)]⟩
@[irreducible] def relV (k o i p : Int) : Int := dvI (1000 * k * o + (65536 - k) * i * p) 65536000
def rrelS : Spec [.int .i64, .int .i64, .int .i64, .int .i64] := ⟨fun ((k : Int), (o : Int), (i : Int), (p : Int), _) => 0 ≤ k ∧ k ≤ 65536 ∧ -8388608 ≤ o ∧ o ≤ 8388608 ∧ -1048576 ≤ i ∧ i ≤ 1048576 ∧ 0 ≤ p ∧ p ≤ 1048576,
  fun ((k : Int), (o : Int), (i : Int), (p : Int), _) => .si .i64 (relV k o i p)⟩
set_option maxRecDepth 100000 in
theorem rrel_ok : FnSpec Try.prog 107 _ rrelS := by
  refine FnSpec.of SMa_ok mixed (U := 0) (I := fun _ => []) Try.func107 rfl (by kernel_rfl) rfl rfl (by decide +kernel) ?_
  rintro ⟨(k : Int), (o : Int), (i : Int), (p : Int), ⟨⟩⟩ ⟨(k0 : 0 ≤ k), (k1 : k ≤ 65536), (o0 : -8388608 ≤ o), (o1 : o ≤ 8388608), (i0 : -1048576 ≤ i), (i1 : i ≤ 1048576), (p0 : 0 ≤ p), (p1 : p ≤ 1048576)⟩
  unfold FnSat
  conv => arg 2; reduce
  simp [rrelS, divS, and_assoc]
  have h1 := mul_ab (a := o) (b := 1000 * k) (A := 8388608) (B := 65536000) o0 o1 (by omega) (by omega)
  have h2 := mul_ab (a := i) (b := 65536 - k) (A := 1048576) (B := 65536) i0 i1 (by omega) (by omega)
  rw [Int.mul_comm o] at h1
  rw [Int.mul_comm i] at h2
  have h3 := mul_ab (a := (65536 - k) * i) (b := p) (A := 68719476736) (B := 1048576) (by omega) (by omega) p0 p1
  have e : dvI (1000 * k * o + (65536 - k) * i * p) 65536000 = relV k o i p := by unfold relV; rfl
  rw [e]
  repeat' (first | refine And.intro ?_ ?_ | intro _)
  all_goals first | omega | rfl
def SRh : Sums := ⟨(107, mkSum _ rrelS) :: (128, mkSum _ rsecS) :: (95, mkSum _ rresS) :: (96, mkSum _ ropenS) :: (97, mkSum _ pcS) :: SMa.one, SMa.two, SMa.lo, SMa.eqs, SMa.its, SMa.imm⟩
theorem SRh_ok : SumsOK Try.prog SRh := (((((SMa_ok.cons Try.func97 (by kernel_rfl) (by kernel_rfl) rfill_ok).cons Try.func96 (by kernel_rfl) (by kernel_rfl) ropen_ok).cons Try.func95 (by kernel_rfl) (by kernel_rfl) rres_ok).cons Try.func128 (by kernel_rfl) (by kernel_rfl) rsec_ok).cons Try.func107 (by kernel_rfl) (by kernel_rfl) rrel_ok)
def rheatS : Spec [celSh, staSh, .int .i64] := ⟨fun (c, s, (i : Int), _) => csE (celOf c) (staOf s) = 0 ∧ -1048576 ≤ i ∧ i ≤ 1048576, fun (c, s, (i : Int), _) => .si .i64 (heatV (celOf c) (staOf s) i)⟩
set_option maxRecDepth 100000 in
theorem rheat_ok : FnSpec Try.prog 108 _ rheatS := by
  refine FnSpec.of SRh_ok mixed (U := 0) (I := fun _ => []) Try.func108 rfl (by kernel_rfl) rfl rfl (by decide +kernel) ?_
  rintro ⟨c, s, (i : Int), ⟨⟩⟩ hpre
  obtain ⟨c, rfl⟩ := cel_ex c
  obtain ⟨s, rfl⟩ := sta_ex s
  have hpre : csE c s = 0 ∧ -1048576 ≤ i ∧ i ≤ 1048576 := by have : csE (celOf (celD c)) (staOf (staD s)) = 0 ∧ -1048576 ≤ i ∧ i ≤ 1048576 := hpre; rwa [celOf_D, staOf_D] at this
  obtain ⟨hcs, i1, i2⟩ := hpre
  obtain ⟨h1, h2⟩ := csE_iff.1 hcs
  unfold FnSat
  conv => arg 2; reduce
  simp [rheatS, rwearS, rresS, rsecS, divS, and_assoc]
  have hk := celB_iff.1 h1
  have := h2.h1
  have := h2.a1
  have hw : WearOK c s.th s.ag := ⟨hk.cy0, hk.cy1, hk.al0, hk.al1, h2.h0, by omega, h2.a0, by omega⟩
  have hw2 := wearV_in hw
  have ew : wearV c s.th s.ag = wV c s := by unfold wV; rfl
  have er : resV c s.tp (wearV c s.th s.ag) = rV c s := by unfold rV; rw [ew]
  have r := @rV_in c s
  rw [er]
  have m1 := sq_in i1 i2
  have m2 := mul_in m1.1 m1.2 r.1 r.2
  have hh := heatV_in h1 h2 i1 i2
  have e : dvI (i * i * rV c s) 1000000000 + secV s.rx c.pair = heatV c s i := by unfold heatV secV; rfl
  rw [e]
  exact ⟨hw, h1, h2.t0, h2.t1, by omega, by omega, by omega, by omega, by omega, by omega, by omega, by omega, h2.r0, h2.r1, hk.pr0, hk.pr1, by omega, by omega, rfl⟩
def rvoltS : Spec [celSh, staSh, .int .i64] := ⟨fun (c, s, (i : Int), _) => csE (celOf c) (staOf s) = 0 ∧ -1048576 ≤ i ∧ i ≤ 1048576, fun (c, s, (i : Int), _) => .si .i64 (voltV (celOf c) (staOf s) i)⟩
set_option maxRecDepth 100000 in
theorem rvolt_ok : FnSpec Try.prog 72 _ rvoltS := by
  refine FnSpec.of SRh_ok mixed (U := 0) (I := fun _ => []) Try.func72 rfl (by kernel_rfl) rfl rfl (by decide +kernel) ?_
  rintro ⟨c, s, (i : Int), ⟨⟩⟩ hpre
  obtain ⟨c, rfl⟩ := cel_ex c
  obtain ⟨s, rfl⟩ := sta_ex s
  have hpre : csE c s = 0 ∧ -1048576 ≤ i ∧ i ≤ 1048576 := by have : csE (celOf (celD c)) (staOf (staD s)) = 0 ∧ -1048576 ≤ i ∧ i ≤ 1048576 := hpre; rwa [celOf_D, staOf_D] at this
  obtain ⟨hcs, i1, i2⟩ := hpre
  obtain ⟨h1, h2⟩ := csE_iff.1 hcs
  unfold FnSat
  conv => arg 2; reduce
  simp [rvoltS, rwearS, rresS, rcapS, pcS, ropenS, divS, and_assoc]
  have hk := celB_iff.1 h1
  have := h2.h1
  have := h2.a1
  have hw : WearOK c s.th s.ag := ⟨hk.cy0, hk.cy1, hk.al0, hk.al1, h2.h0, by omega, h2.a0, by omega⟩
  have hw2 := wearV_in hw
  have ew : wearV c s.th s.ag = wV c s := by unfold wV; rfl
  have er : resV c s.tp (wearV c s.th s.ag) = rV c s := by unfold rV; rw [ew]
  have r := @rV_in c s
  rw [er]
  have m := mul_ab (a := i) (b := rV c s) (A := 1048576) (B := 1048576) i1 i2 r.1 r.2
  have ek : roomV c (wearV c s.th s.ag) = kV c s := by unfold kV; rw [ew]
  rw [ek]
  have k1 := kV_in h1 h2
  have q1 := q_in h2
  have f1 := fillV_in h1 h2
  have ef : pcV s.q (kV c s) = fillV c s := by unfold fillV; rfl
  rw [ef]
  have o1 := opnV_in (s := s) h1
  have eo : openV c (fillV c s) = opnV c s := by unfold opnV; rfl
  rw [eo]
  have d1 := dvI_le (a := i * rV c s) (d := 1000) (m := 1099511628) (by decide) (by omega)
  have d2 := dvI_ge (a := i * rV c s) (d := 1000) (m := -1099511628) (by decide) (by omega)
  have := h2.r0
  have := h2.r1
  have e : opnV c s - s.rx - dvI (i * rV c s) 1000 = voltV c s i := by unfold voltV; rfl
  rw [e]
  have v := voltV_in h1 h2 i1 i2
  exact ⟨hw, h1, h2.t0, h2.t1, by omega, by omega, hw, by have := hk.cap0; omega, hk.cap1, by omega, by omega, by omega, h1, by omega, by omega, by omega, by omega, by omega, by omega, by omega, by omega, by omega, by omega, rfl⟩
def SRi : Sums := ⟨(72, mkSum _ rvoltS) :: (108, mkSum _ rheatS) :: SRh.one, SRh.two, SRh.lo, SRh.eqs, SRh.its, SRh.imm⟩
theorem SRi_ok : SumsOK Try.prog SRi := ((SRh_ok.cons Try.func108 (by kernel_rfl) (by kernel_rfl) rheat_ok).cons Try.func72 (by kernel_rfl) (by kernel_rfl) rvolt_ok)
def rnextS : Spec [celSh, staSh, inSh] := ⟨fun (c, s, ((i : Int), (a : Int), _), _) => csE (celOf c) (staOf s) = 0 ∧ -1048576 ≤ i ∧ i ≤ 1048576 ∧ 0 ≤ a ∧ a ≤ 400000, fun (c, s, ((i : Int), (a : Int), _), _) =>
  .agg [.si .i64 (nxQ (celOf c) (staOf s) i), .si .i64 (nxR (celOf c) (staOf s) i), .si .i64 (nxT (celOf c) (staOf s) i a), .si .i64 (nxH (staOf s) i), .si .i64 (nxA (celOf c) (staOf s))]⟩
set_option maxRecDepth 100000 in
set_option maxHeartbeats 2000000 in
theorem rnext_ok : FnSpec Try.prog 81 _ rnextS := by
  refine FnSpec.of SRi_ok mixed (U := 0) (I := fun _ => []) Try.func81 rfl (by kernel_rfl) rfl rfl (by decide +kernel) ?_
  rintro ⟨c, s, ⟨(i : Int), (a : Int), ⟨⟩⟩, ⟨⟩⟩ hpre
  obtain ⟨c, rfl⟩ := cel_ex c
  obtain ⟨s, rfl⟩ := sta_ex s
  have hpre : csE c s = 0 ∧ -1048576 ≤ i ∧ i ≤ 1048576 ∧ 0 ≤ a ∧ a ≤ 400000 := by have : csE (celOf (celD c)) (staOf (staD s)) = 0 ∧ -1048576 ≤ i ∧ i ≤ 1048576 ∧ 0 ≤ a ∧ a ≤ 400000 := hpre; rwa [celOf_D, staOf_D] at this
  obtain ⟨hcs, i1, i2, a1, a2⟩ := hpre
  obtain ⟨h1, h2⟩ := csE_iff.1 hcs
  unfold FnSat
  conv => arg 2; reduce
  simp [rnextS, rheatS, rvalS, rrelS, rcapS, clipS, divS, ElEq, and_assoc]
  have hk := celB_iff.1 h1
  have sth : ∀ a b d e f : Int, (staOf (a, b, d, e, f, PUnit.unit)).th = e := fun a b d e f => by unfold staOf; simp
  have sag : ∀ a b d e f : Int, (staOf (a, b, d, e, f, PUnit.unit)).ag = f := fun a b d e f => by unfold staOf; simp
  simp only [sth, sag]
  have vs := sc_val hk.stress s.tp
  have hh := heatV_in h1 h2 i1 i2
  have d1 := dvI_le (a := 1000 * heatV c s i) (d := c.hcap) (m := 71530000000000000) hk.hc0 (by
    have := Int.mul_le_mul_of_nonneg_left hk.hc0 (show (0 : Int) ≤ 71530000000000000 by decide)
    omega)
  have d2 := dvI_nonneg (a := 1000 * heatV c s i) (d := c.hcap) hk.hc0 (by omega)
  have := h2.t0
  have := h2.t1
  have := h2.h0
  have := h2.h1
  have := h2.a0
  have := h2.a1
  have q1 := q_in h2
  have k1 := kV_in h1 h2
  have m4 := mul_ab (a := a - s.tp) (b := c.cool) (A := 400000) (B := 65536) (by omega) (by omega) hk.co0 hk.co1
  have d3 := dvI_le (a := (a - s.tp) * c.cool) (d := 65536) (m := 400000) (by decide) (by omega)
  have d4 := dvI_ge (a := (a - s.tp) * c.cool) (d := 65536) (m := -400000) (by decide) (by omega)
  have := hk.lk0
  have := hk.lk1
  have hw : WearOK c (s.th + max i (-i)) (s.ag + valL c.stress s.tp) := ⟨hk.cy0, hk.cy1, hk.al0, hk.al1, by omega, by omega, by omega, by omega⟩
  have e3 : wearV c (s.th + max i (-i)) (s.ag + valL c.stress s.tp) = wearV c (nxH s i) (nxA c s) := by unfold nxH nxA; rfl
  have vp := val_pre hk.stress (by decide) (by decide)
  exact ⟨by omega, by omega, by omega, by omega, vp.1, vp.2.1, vp.2.2.1, vp.2.2.2.1, vp.2.2.2.2, by omega, by omega, by omega, by omega, hk.kp0, hk.kp1, h2.r0, h2.r1, i1, i2, hk.pr0, hk.pr1, hcs, i1, i2, by omega, by omega, by omega, by omega, hk.hc0, by omega, by omega, by omega, by omega, by omega, by omega, by omega, by omega,
    by omega, by omega, by omega, by omega, by omega, by omega, hw, by have := hk.cap0; omega, hk.cap1, by unfold nxQ; rw [e3], by unfold nxR slackV relV; rw [Int.mul_assoc (65536 - c.keep)], by unfold nxT; rfl, by unfold nxH; rfl, by unfold nxA; rfl⟩
def SRj : Sums := ⟨(81, mkSum _ rnextS) :: SRi.one, SRi.two, SRi.lo, SRi.eqs, SRi.its, SRi.imm⟩
theorem SRj_ok : SumsOK Try.prog SRj := (SRi_ok.cons Try.func81 (by kernel_rfl) (by kernel_rfl) rnext_ok)
def routS : Spec [celSh, staSh, limSh, .int .i64, .int .i64] := ⟨fun (c, s, _, (a : Int), (i : Int), _) => csE (celOf c) (staOf s) = 0 ∧ 0 ≤ a ∧ a ≤ 400000 ∧ 0 ≤ i ∧ i ≤ 1048576, fun (c, s, ((l : Int), (_ : Int), (_ : Int), (_ : Int), (h : Int), _), (a : Int), (i : Int), _) => .sb (outP (celOf c) (staOf s) l h a i)⟩
def rinS : Spec [celSh, staSh, limSh, .int .i64, .int .i64] := ⟨fun (c, s, _, (a : Int), (i : Int), _) => csE (celOf c) (staOf s) = 0 ∧ 0 ≤ a ∧ a ≤ 400000 ∧ 0 ≤ i ∧ i ≤ 1048576, fun (c, s, ((_ : Int), (m : Int), (_ : Int), (_ : Int), (h : Int), _), (a : Int), (i : Int), _) => .sb (inP (celOf c) (staOf s) m h a i)⟩
def SRk : Sums := ⟨SRj.one, SRj.two, SRj.lo, SRj.eqs, SRj.its, SRj.imm⟩
theorem SRk_ok : SumsOK Try.prog SRk := SRj_ok
end
end Abs
end Go.Proofs.Yteoaeodalknkiaa

/- Cells, by the document: the voltage and the step, with their refusals. -/
namespace Go.Proofs.Yteoaeodalknkiaa
namespace Abs
open Go Go.RowKit
noncomputable section
attribute [local irreducible] FnSat
def rcurS : Spec [celSh, staSh, .int .i64] := ⟨fun (c, _) => CelMax (celOf c), fun (c, s, (i : Int), _) => .si .i64 (aE (celOf c) (staOf s) (wiE i))⟩
set_option maxRecDepth 100000 in
set_option maxHeartbeats 2000000 in
theorem rcur_ok : FnSpec Try.prog 71 _ rcurS := by
  refine FnSpec.of SRk_ok mixed (U := 0) (I := fun _ => []) Try.func71 rfl (by kernel_rfl) rfl rfl (by decide +kernel) ?_
  rintro ⟨c, s, (i : Int), ⟨⟩⟩ hpre
  obtain ⟨c, rfl⟩ := cel_ex c
  obtain ⟨s, rfl⟩ := sta_ex s
  have hpre : CelMax c := by have : CelMax (celOf (celD c)) := hpre; rwa [celOf_D] at this
  unfold FnSat
  conv => arg 2; reduce
  simp [rcurS, cstS, betS, and_assoc]
  refine ⟨hpre, fun h => ⟨hpre, (aE_no h).symm⟩, fun h => ⟨fun h' => ?_, fun i1 i2 => ?_⟩⟩
  · rw [aE_yes h]
    unfold wiE
    rw [if_neg (by rw [curI_iff]; omega)]
  · rw [aE_yes h]
    unfold wiE
    rw [if_pos (curI_iff.2 ⟨i1, i2⟩)]
def SEv1 : Sums := ⟨(71, mkSum _ rcurS) :: SRk.one, SRk.two, SRk.lo, SRk.eqs, SRk.its, SRk.imm⟩
theorem SEv1_ok : SumsOK Try.prog SEv1 := (SRk_ok.cons Try.func71 (by kernel_rfl) (by kernel_rfl) rcur_ok)
theorem aEw_0 {c : Cel} {s : Sta} {i : Int} (h : aE c s (wiE i) = 0) : csE c s = 0 ∧ curI i = true := by
  by_cases hc : csE c s = 0
  · rw [aE_yes hc] at h
    refine ⟨hc, ?_⟩
    cases hi : curI i with
    | true => rfl
    | false => unfold wiE at h; rw [hi] at h; simp at h
  · rw [aE_no hc] at h; exact absurd h hc
theorem aEw_no {c : Cel} {s : Sta} {i x : Int} (h : ¬aE c s (wiE i) = 0) : aV c s (wiV i x) = 0 := by
  by_cases hc : csE c s = 0
  · rw [aV_yes hc]
    rw [aE_yes hc] at h
    unfold wiE at h
    unfold wiV
    split at h
    · exact absurd rfl h
    · rename_i h'; rw [if_neg h']
  · exact aV_no hc
set_option maxRecDepth 100000 in
set_option maxHeartbeats 2000000 in
theorem rvol_ok : FnSpec Try.prog 39 _ volS := by
  refine FnSpec.of SEv1_ok mixed (U := 0) (I := fun _ => []) Try.func39 rfl (by kernel_rfl) rfl rfl (by decide +kernel) ?_
  rintro ⟨c, s, (i : Int), ⟨⟩⟩ hpre
  obtain ⟨c, rfl⟩ := cel_ex c
  obtain ⟨s, rfl⟩ := sta_ex s
  have hpre : CelMax c := by have : CelMax (celOf (celD c)) := hpre; rwa [celOf_D] at this
  unfold FnSat
  conv => arg 2; reduce
  simp [volS, rcurS, rvoltS, and_assoc]
  refine ⟨hpre, fun h => ⟨hpre, (aEw_no h).symm⟩, fun h => ?_⟩
  obtain ⟨hc, hi⟩ := aEw_0 h
  have hi' := curI_iff.1 hi
  refine ⟨hc, hi'.1, hi'.2, ?_, h.symm⟩
  rw [aV_yes hc]; unfold wiV; rw [if_pos hi]
theorem stA_z {c : Cel} {s : Sta} {i a : Int} (h : ¬stAE c s i a = 0) : 0 = (stA c s i a).q ∧ 0 = (stA c s i a).rx ∧ 0 = (stA c s i a).tp ∧ 0 = (stA c s i a).th ∧ 0 = (stA c s i a).ag := by
  unfold stA
  rw [Sta.q_mk, Sta.rx_mk, Sta.tp_mk, Sta.th_mk, Sta.ag_mk]
  by_cases hc : csE c s = 0
  · have h2 : stpE c s i a ≠ 0 := by unfold stAE at h; rwa [aE_yes hc] at h
    simp [aV_yes hc, stpV_no h2]
  · simp [aV_no hc]
theorem stAE_1 {c : Cel} {s : Sta} {i a : Int} (h : ¬aE c s (wiE i) = 0) : aE c s (wiE i) = stAE c s i a := by
  unfold stAE
  by_cases hc : csE c s = 0
  · rw [aE_yes hc] at h ⊢
    rw [aE_yes hc]
    unfold wiE at h ⊢
    unfold stpE
    split at h
    · exact absurd rfl h
    · rename_i hi
      rw [if_neg hi, if_neg]
      rw [inB_iff]
      rw [curI_iff] at hi
      omega
  · rw [aE_no hc, aE_no hc]
theorem stAE_2 {c : Cel} {s : Sta} {i a : Int} (hc : csE c s = 0) (h : a < 0 ∨ 400000 < a) : 3 = stAE c s i a := by
  unfold stAE
  rw [aE_yes hc]
  unfold stpE
  rw [if_neg]
  rw [inB_iff]
  omega
set_option maxRecDepth 100000 in
set_option maxHeartbeats 4000000 in
theorem rstp_ok : FnSpec Try.prog 49 _ stpT := by
  refine FnSpec.of SEv1_ok mixed (U := 0) (I := fun _ => []) Try.func49 rfl (by kernel_rfl) rfl rfl (by decide +kernel) ?_
  rintro ⟨c, s, ⟨(i : Int), (a : Int), ⟨⟩⟩, ⟨⟩⟩ hpre
  obtain ⟨c, rfl⟩ := cel_ex c
  obtain ⟨s, rfl⟩ := sta_ex s
  have hpre : CelMax c := by have : CelMax (celOf (celD c)) := hpre; rwa [celOf_D] at this
  unfold FnSat
  conv => arg 2; reduce
  simp [stpT, rcurS, rnextS, betS, and_assoc]
  have fin : ∀ e : Int, e ≠ 0 → e = stAE c s i a → 0 = (stA c s i a).q ∧ 0 = (stA c s i a).rx ∧ 0 = (stA c s i a).tp ∧ 0 = (stA c s i a).th ∧ 0 = (stA c s i a).ag ∧ e = stAE c s i a := fun e h1 h2 => by
    obtain ⟨z1, z2, z3, z4, z5⟩ := stA_z (show ¬stAE c s i a = 0 by omega)
    exact ⟨z1, z2, z3, z4, z5, h2⟩
  refine ⟨hpre, fun h => ⟨hpre, fin _ h (stAE_1 h)⟩, fun h => ?_⟩
  obtain ⟨hc, hi⟩ := aEw_0 h
  have hi' := curI_iff.1 hi
  refine ⟨fun h' => fin 3 (by decide) (stAE_2 hc h'), fun a0 a1 => ⟨hc, hi'.1, hi'.2, a0, a1, fun h' => fin 4 (by decide) ?_, fun h1 h2 => ?_⟩⟩
  · unfold stAE
    rw [aE_yes hc]
    unfold stpE ovr
    rw [if_pos (inB_iff.2 ⟨hi', a0, a1⟩), if_pos (by simpa using h')]
  · have e0 : stAE c s i a = 0 := (stA_iff hc).1.2 ⟨inB_iff.2 ⟨hi', a0, a1⟩, by unfold ovr; simp; omega⟩
    rw [stA_0 hc e0, Sta.q_mk, Sta.rx_mk, Sta.tp_mk, Sta.th_mk, Sta.ag_mk, e0]
    simp
set_option maxRecDepth 100000 in
set_option maxHeartbeats 2000000 in
theorem rcpt_ok : FnSpec Try.prog 48 _ capS := by
  refine FnSpec.of SEv1_ok mixed (U := 0) (I := fun _ => []) Try.func48 rfl (by kernel_rfl) rfl rfl (by decide +kernel) ?_
  rintro ⟨c, s, ⟨⟩⟩ hpre
  obtain ⟨c, rfl⟩ := cel_ex c
  obtain ⟨s, rfl⟩ := sta_ex s
  have hpre : CelMax c := by have : CelMax (celOf (celD c)) := hpre; rwa [celOf_D] at this
  unfold FnSat
  conv => arg 2; reduce
  simp [capS, cstS, rcapS, and_assoc]
  refine ⟨hpre, fun h => ⟨hpre, (aV_no h).symm, (aE_no h).symm⟩, fun h => ?_⟩
  obtain ⟨hc, hs⟩ := csE_iff.1 h
  have hk := celB_iff.1 hc
  have := hk.cap0
  have := hk.cap1
  have := hs.h0
  have := hs.h1
  have := hs.a0
  have := hs.a1
  rw [aV_yes h, aE_yes h]
  refine ⟨⟨hk.cy0, hk.cy1, hk.al0, hk.al1, by omega, by omega, by omega, by omega⟩, by omega, by omega, ?_, rfl⟩
  unfold kV wV; rfl
def SEv : Sums := ⟨(48, mkSum _ capS) :: (49, mkSum _ stpT) :: (39, mkSum _ volS) :: SEv1.one, SEv1.two, SEv1.lo, SEv1.eqs, SEv1.its, SEv1.imm⟩
theorem SEv_ok : SumsOK Try.prog SEv := (((SEv1_ok.cons Try.func39 (by kernel_rfl) (by kernel_rfl) rvol_ok).cons Try.func49 (by kernel_rfl) (by kernel_rfl) rstp_ok).cons Try.func48 (by kernel_rfl) (by kernel_rfl) rcpt_ok)
end
end Abs
end Go.Proofs.Yteoaeodalknkiaa

/- Sensors: plain numbers. -/
namespace Go.Proofs.Yteoaeodalknkiaa
namespace Abs
open Go
@[irreducible] def sensOK (a b c d : Int) : Bool := isIn 0 a 1073741824 && isIn 1 b 1073741824 && isIn (-1073741824) c 1073741824 && isIn c d 1073741824
@[irreducible] def errB (b : Bool) : Int := if b then 0 else 2
@[reducible] def senSh : Sh := .agg [.int .i64, .int .i64, .int .i64, .int .i64]
def check : Spec [senSh] := ⟨fun _ => True, fun ((a, b, c, d, _), _) => .si .i64 (errB (sensOK a b c d))⟩
@[irreducible] def stepV (b y : Int) : Int := b * ((y + b / 2) / b)
@[irreducible] def showV (a b c d x n : Int) : Int := if sensOK a b c d && isQ x && isIn (-a) n a then intoV (stepV b (x + n)) c d else 0
@[irreducible] def showE (a b c d x n : Int) : Int := if sensOK a b c d && isQ x then (if isIn (-a) n a then 0 else 3) else 2
theorem stepV_lo (b y : Int) (hb : 1 ≤ b) : y + b / 2 - b < stepV b y := by
  unfold stepV
  have h1 := Int.mul_ediv_add_emod (y + b / 2) b
  have h2 := Int.emod_lt_of_pos (y + b / 2) (show 0 < b by omega)
  omega
theorem stepV_hi (b y : Int) (hb : 1 ≤ b) : stepV b y ≤ y + b / 2 := by
  unfold stepV
  have h1 := Int.mul_ediv_add_emod (y + b / 2) b
  have h2 := Int.emod_nonneg (y + b / 2) (show b ≠ 0 by omega)
  omega
def show_ : Spec [senSh, .int .i64, .int .i64] := ⟨fun _ => True, fun ((a, b, c, d, _), x, n, _) => .tup [.si .i64 (showV a b c d x n), .si .i64 (showE a b c d x n)]⟩
theorem showE_2 {a b c d x n : Int} (h : (sensOK a b c d && isQ x) = false) : showV a b c d x n = 0 ∧ showE a b c d x n = 2 := by
  unfold showV showE; rw [h]; simp
theorem showE_3 {a b c d x n : Int} (h : (sensOK a b c d && isQ x) = true) (h' : isIn (-a) n a = false) : showV a b c d x n = 0 ∧ showE a b c d x n = 3 := by
  unfold showV showE; rw [h, h']; simp
theorem showE_0 {a b c d x n : Int} (h : (sensOK a b c d && isQ x) = true) (h' : isIn (-a) n a = true) : showV a b c d x n = intoV (stepV b (x + n)) c d ∧ showE a b c d x n = 0 := by
  unfold showV showE; rw [h, h']; simp

-- what is behind a reading
@[irreducible] def readOK (b c d r : Int) : Bool := isIn c r d && (decide (r = c) || decide (r = d) || decide (r % b = 0))
@[irreducible] def behE (a b c d r : Int) : Int := if sensOK a b c d then (if readOK b c d r then 0 else 5) else 2
@[irreducible] def behLo (a b c d r : Int) : Int := if sensOK a b c d && readOK b c d r then (if c < r then b * -(-r / b) - b / 2 - a else -1099511627776) else 0
@[irreducible] def behHi (a b c d r : Int) : Int := if sensOK a b c d && readOK b c d r then (if r < d then b * (r / b) + b - 1 - b / 2 + a else 1099511627776) else 0
def behind : Spec [senSh, .int .i64] := ⟨fun _ => True, fun ((a, b, c, d, _), r, _) => .tup [.agg [.si .i64 (behLo a b c d r), .si .i64 (behHi a b c d r)], .si .i64 (behE a b c d r)]⟩
theorem beh_2 {a b c d r : Int} (h : sensOK a b c d = false) : behLo a b c d r = 0 ∧ behHi a b c d r = 0 ∧ behE a b c d r = 2 := by
  unfold behLo behHi behE; rw [h]; simp
theorem beh_5 {a b c d r : Int} (h : sensOK a b c d = true) (h' : readOK b c d r = false) : behLo a b c d r = 0 ∧ behHi a b c d r = 0 ∧ behE a b c d r = 5 := by
  unfold behLo behHi behE; rw [h, h']; simp
theorem beh_0 {a b c d r : Int} (h : sensOK a b c d = true) (h' : readOK b c d r = true) :
    behLo a b c d r = (if c < r then b * -(-r / b) - b / 2 - a else -1099511627776) ∧ behHi a b c d r = (if r < d then b * (r / b) + b - 1 - b / 2 + a else 1099511627776) ∧ behE a b c d r = 0 := by
  unfold behLo behHi behE; rw [h, h']; simp
theorem mul_div_le (r b : Int) (hb : 1 ≤ b) : b * (r / b) ≤ r ∧ r < b * (r / b) + b := by
  have h1 := Int.mul_ediv_add_emod r b
  have h2 := Int.emod_nonneg r (show b ≠ 0 by omega)
  have h3 := Int.emod_lt_of_pos r (show 0 < b by omega)
  omega
theorem mul_cdiv_le (r b : Int) (hb : 1 ≤ b) : r ≤ b * -(-r / b) ∧ b * -(-r / b) < r + b := by
  have := mul_div_le (-r) b hb
  rw [Int.mul_neg]
  omega
theorem le_step (b y r : Int) (hb : 1 ≤ b) : r ≤ stepV b y ↔ b * -(-r / b) ≤ y + b / 2 := by
  unfold stepV
  have h1 : b * -(-r / b) ≤ y + b / 2 ↔ -(-r / b) ≤ (y + b / 2) / b := by rw [Int.le_ediv_iff_mul_le (by omega), Int.mul_comm]
  have h2 : -((y + b / 2) / b) ≤ -r / b ↔ -((y + b / 2) / b) * b ≤ -r := Int.le_ediv_iff_mul_le (by omega)
  rw [Int.neg_mul, Int.mul_comm ((y + b / 2) / b) b] at h2
  omega
theorem lt_step (b y r : Int) (hb : 1 ≤ b) : r < stepV b y ↔ b * (r / b) + b ≤ y + b / 2 := by
  unfold stepV
  have h1 : (r / b + 1) ≤ (y + b / 2) / b ↔ (r / b + 1) * b ≤ y + b / 2 := Int.le_ediv_iff_mul_le (by omega)
  have h2 : r / b < (y + b / 2) / b ↔ r < (y + b / 2) / b * b := Int.ediv_lt_iff_lt_mul (by omega)
  rw [Int.add_mul, Int.one_mul, Int.mul_comm (r / b) b] at h1
  rw [Int.mul_comm ((y + b / 2) / b) b] at h2
  omega
@[irreducible] def thr1 (a b c d r : Int) : Int := if r ≤ c then -1099511627776 else if d < r then 1099511627777 else b * -(-r / b) - b / 2 - a
@[irreducible] def thr2 (a b c d r : Int) : Int := if d ≤ r then 1099511627777 else if r < c then -1099511627776 else b * (r / b) + b - b / 2 + a
theorem sens_of {a b c d : Int} (h : sensOK a b c d = true) : 0 ≤ a ∧ a ≤ 1073741824 ∧ 1 ≤ b ∧ b ≤ 1073741824 ∧ -1073741824 ≤ c ∧ c ≤ d ∧ d ≤ 1073741824 := by
  simp [sensOK] at h; omega
theorem thr1_in {a b c d r : Int} (h : sensOK a b c d = true) : -1099511627776 ≤ thr1 a b c d r ∧ thr1 a b c d r ≤ 1099511627777 := by
  have := sens_of h
  have := mul_cdiv_le r b (by omega)
  unfold thr1; split
  · omega
  · split <;> omega
theorem thr2_in {a b c d r : Int} (h : sensOK a b c d = true) : -1099511627776 ≤ thr2 a b c d r ∧ thr2 a b c d r ≤ 1099511627777 := by
  have := sens_of h
  have := mul_div_le r b (by omega)
  unfold thr2; split
  · omega
  · split <;> omega
theorem thr1_iff {a b c d r x : Int} (h : sensOK a b c d = true) (h1 : -1099511627776 ≤ x) (h2 : x ≤ 1099511627776) : r ≤ intoV (stepV b (x + a)) c d ↔ thr1 a b c d r ≤ x := by
  have := sens_of h
  have := le_step b (x + a) r (by omega)
  unfold thr1 intoV; split
  · omega
  · split <;> omega
theorem thr2_iff {a b c d r x : Int} (h : sensOK a b c d = true) (h1 : -1099511627776 ≤ x) (h2 : x ≤ 1099511627776) : r < intoV (stepV b (x - a)) c d ↔ thr2 a b c d r ≤ x := by
  have := sens_of h
  have := lt_step b (x - a) r (by omega)
  unfold thr2 intoV; split
  · omega
  · split <;> omega
@[irreducible] def showsV (a b c d x r : Int) : Bool := decide (intoV (stepV b (x - a)) c d ≤ r) && decide (r ≤ intoV (stepV b (x + a)) c d) &&
  (decide (r = intoV (stepV b (x - a)) c d) || decide (r = intoV (stepV b (x + a)) c d) || decide (r % b = 0))
def shows : Spec [senSh, .int .i64, .int .i64] := ⟨fun ((a, b, c, d, _), (x : Int), _) => sensOK a b c d = true ∧ -1099511627776 ≤ x ∧ x ≤ 1099511627777, fun ((a, b, c, d, _), x, r, _) => .sb (showsV a b c d x r)⟩
theorem stepV_mod (b y : Int) : stepV b y % b = 0 := by unfold stepV; exact Int.mul_emod_right _ _
theorem ref_beh {a b c d r : Int} (h : sensOK a b c d = true) : (thr1 a b c d r < thr2 a b c d r ∧ showsV a b c d (thr1 a b c d r) r = true) ↔ readOK b c d r = true := by
  have h0 := sens_of h
  have hm1 := mul_div_le r b (by omega)
  have hm2 := mul_cdiv_le r b (by omega)
  have h1 := thr1_in h (r := r)
  have h2 := thr2_in h (r := r)
  constructor
  · rintro ⟨h3, h4⟩
    simp [showsV] at h4
    have hr : c ≤ r ∧ r ≤ d := by
      have h5 := h4.1.1; have h6 := h4.1.2
      unfold intoV at h5 h6; omega
    unfold readOK
    simp
    refine ⟨hr, ?_⟩
    by_cases hc : r = c
    · exact .inl (.inl hc)
    by_cases hd : r = d
    · exact .inl (.inr hd)
    right
    have e := stepV_mod b
    rcases h4.2 with (h6 | h6) | h6
    · unfold intoV at h6
      have : r = stepV b (thr1 a b c d r - a) := by omega
      rw [this]; exact e _
    · unfold intoV at h6
      have : r = stepV b (thr1 a b c d r + a) := by omega
      rw [this]; exact e _
    · exact h6
  · intro h3
    simp [readOK] at h3
    have hz : r % b = 0 → b * (r / b) = r ∧ b * -(-r / b) = r := fun hz => by
      have h1 := Int.mul_ediv_add_emod r b
      obtain ⟨k, hk⟩ := Int.dvd_of_emod_eq_zero hz
      constructor
      · omega
      · rw [hk, ← Int.mul_neg, Int.mul_ediv_cancel_left _ (by omega)]; simp
    have ht : thr1 a b c d r < thr2 a b c d r := by
      unfold thr1 thr2
      split
      · split
        · omega
        · split <;> omega
      · split
        · omega
        · split
          · omega
          · have := hz (by omega); split <;> omega
    refine ⟨ht, ?_⟩
    have h5 : r ≤ intoV (stepV b (thr1 a b c d r + a)) c d := by
      by_cases hq : thr1 a b c d r ≤ 1099511627776
      · exact (thr1_iff h h1.1 hq).2 (Int.le_refl _)
      · omega
    have h6 : intoV (stepV b (thr1 a b c d r - a)) c d ≤ r := by
      by_cases hq : thr1 a b c d r ≤ 1099511627776
      · have := thr2_iff h (r := r) h1.1 hq; omega
      · omega
    have h7 := stepV_hi b (thr1 a b c d r + a) (by omega)
    have h8 := stepV_lo b (thr1 a b c d r + a) (by omega)
    unfold showsV
    simp
    refine ⟨⟨h6, h5⟩, ?_⟩
    by_cases hzz : r % b = 0
    · exact .inr hzz
    · left; right
      have : r = c ∨ r = d := by omega
      have e1 : thr1 a b c d r = if r ≤ c then -1099511627776 else if d < r then 1099511627777 else b * -(-r / b) - b / 2 - a := by unfold thr1; rfl
      unfold intoV at h5 ⊢
      split at e1
      · omega
      · omega
theorem ref_eq {a b c d r : Int} (h : sensOK a b c d = true) (h' : readOK b c d r = true) : behLo a b c d r = thr1 a b c d r ∧ behHi a b c d r = thr2 a b c d r - 1 := by
  obtain ⟨h1, h2, _⟩ := beh_0 h h'
  simp [readOK] at h'
  rw [h1, h2]
  unfold thr1 thr2
  constructor
  · split
    · rw [if_neg (by omega), if_neg (by omega)]
    · rw [if_pos (by omega)]
  · split
    · rw [if_neg (by omega), if_neg (by omega)]; omega
    · rw [if_pos (by omega)]; omega
end Abs
end Go.Proofs.Yteoaeodalknkiaa

/- The sensors of a cell: what they show, by the program and by the document. -/
namespace Go.Proofs.Yteoaeodalknkiaa
namespace Abs
open Go Go.RowKit
noncomputable section
attribute [local irreducible] FnSat
set_option maxRecDepth 100000 in
theorem ewi_ok : FnSpec Try.prog 34 _ betS := by
  refine FnSpec.of SEv_ok mixed (U := 0) (I := fun _ => []) Try.func34 rfl (by kernel_rfl) rfl rfl (by decide +kernel) ?_
  rintro ⟨(x : Int), (lo : Int), (hi : Int), ⟨⟩⟩ -
  unfold FnSat
  conv => arg 2; reduce
  simp [betS, isIn]
set_option maxRecDepth 100000 in
theorem efl_ok : FnSpec Try.prog 60 _ divS := by
  refine FnSpec.of SEv_ok mixed (U := 0) (I := fun _ => []) Try.func60 rfl (by kernel_rfl) rfl rfl (by decide +kernel) ?_
  rintro ⟨(n : Int), (d : Int), ⟨⟩⟩ ⟨(h1 : -4611686018427387904 ≤ n), (h2 : n ≤ 4611686018427387904), (h3 : 1 ≤ d)⟩
  unfold FnSat
  conv => arg 2; reduce
  simp [divS, and_assoc]
  exact dvI_by h1 h2 h3
set_option maxRecDepth 100000 in
theorem rin3_ok : FnSpec Try.prog 42 _ betS := by
  refine FnSpec.of SEv_ok mixed (U := 0) (I := fun _ => []) Try.func42 rfl (by kernel_rfl) rfl rfl (by decide +kernel) ?_
  rintro ⟨(x : Int), (lo : Int), (hi : Int), ⟨⟩⟩ -
  unfold FnSat
  conv => arg 2; reduce
  simp [betS, isIn]
def SEs1 : Sums := ⟨(42, mkSum _ betS) :: (60, mkSum _ divS) :: (34, mkSum _ betS) :: SEv.one, SEv.two, SEv.lo, SEv.eqs, SEv.its, SEv.imm⟩
theorem SEs1_ok : SumsOK Try.prog SEs1 := (((SEv_ok.cons Try.func34 (by kernel_rfl) (by kernel_rfl) ewi_ok).cons Try.func60 (by kernel_rfl) (by kernel_rfl) efl_ok).cons Try.func42 (by kernel_rfl) (by kernel_rfl) rin3_ok)
set_option maxRecDepth 100000 in
theorem ecs_ok : FnSpec Try.prog 30 _ check := by
  refine FnSpec.of SEs1_ok mixed (U := 0) (I := fun _ => []) Try.func30 rfl (by kernel_rfl) rfl rfl (by decide +kernel) ?_
  rintro ⟨⟨(a : Int), (b : Int), (c : Int), (d : Int), ⟨⟩⟩, ⟨⟩⟩ -
  unfold FnSat
  conv => arg 2; reduce
  simp [check, betS, errB, sensOK]
  omega
set_option maxRecDepth 100000 in
theorem rcs_ok : FnSpec Try.prog 35 _ check := by
  refine FnSpec.of SEs1_ok mixed (U := 0) (I := fun _ => []) Try.func35 rfl (by kernel_rfl) rfl rfl (by decide +kernel) ?_
  rintro ⟨⟨(a : Int), (b : Int), (c : Int), (d : Int), ⟨⟩⟩, ⟨⟩⟩ -
  unfold FnSat
  conv => arg 2; reduce
  simp [check, betS, errB, sensOK]
  omega
def steps : Spec [senSh, .int .i64] := ⟨fun ((_, (b : Int), _, _, _), (y : Int), _) => 1 ≤ b ∧ b ≤ 1073741824 ∧ -4398046511104 ≤ y ∧ y ≤ 4398046511104, fun ((_, (b : Int), _, _, _), (y : Int), _) => .si .i64 (stepV b y)⟩
set_option maxRecDepth 100000 in
theorem steps_ok : FnSpec Try.prog 73 _ steps := by
  refine FnSpec.of SEs1_ok mixed (U := 0) (I := fun _ => []) Try.func73 rfl (by kernel_rfl) rfl rfl (by decide +kernel) ?_
  rintro ⟨⟨(a : Int), (b : Int), (c : Int), (d : Int), ⟨⟩⟩, (y : Int), ⟨⟩⟩ ⟨(h1 : 1 ≤ b), (h2 : b ≤ 1073741824), (h3 : -4398046511104 ≤ y), (h4 : y ≤ 4398046511104)⟩
  unfold FnSat
  conv => arg 2; reduce
  have ht := tdiv2 b (by omega)
  have e1 : stepV b y = b * dvI (y + b / 2) b := by unfold stepV dvI; rfl
  have l1 := stepV_lo b y h1
  have l2 := stepV_hi b y h1
  simp [steps, divS, ht]
  rw [← e1]
  repeat' (first | refine And.intro ?_ ?_ | intro _)
  all_goals first | omega | rfl
def SEs2 : Sums := ⟨(73, mkSum _ steps) :: (35, mkSum _ check) :: (30, mkSum _ check) :: SEs1.one, SEs1.two, SEs1.lo, SEs1.eqs, SEs1.its, SEs1.imm⟩
theorem SEs2_ok : SumsOK Try.prog SEs2 := (((SEs1_ok.cons Try.func30 (by kernel_rfl) (by kernel_rfl) ecs_ok).cons Try.func35 (by kernel_rfl) (by kernel_rfl) rcs_ok).cons Try.func73 (by kernel_rfl) (by kernel_rfl) steps_ok)
theorem clip_into (x lo hi : Int) : clipV x lo hi = intoV x lo hi := by unfold clipV intoV; omega
set_option maxRecDepth 100000 in
theorem esh_ok : FnSpec Try.prog 27 _ show_ := by
  refine FnSpec.of SEs2_ok mixed (U := 0) (I := fun _ => []) Try.func27 rfl (by kernel_rfl) rfl rfl (by decide +kernel) ?_
  rintro ⟨⟨(a : Int), (b : Int), (c : Int), (d : Int), ⟨⟩⟩, (x : Int), (n : Int), ⟨⟩⟩ -
  unfold FnSat
  conv => arg 2; reduce
  simp [show_, check, betS, divS, errB]
  refine ⟨fun h => ?_, fun h1 x0 x1 => ?_⟩
  · have h0 := showE_2 (a := a) (b := b) (c := c) (d := d) (x := x) (n := n) (by
      cases h1 : sensOK a b c d <;> cases h2 : isQ x <;> simp_all [isQ] <;> omega)
    rw [h0.1, h0.2]; simp
  have h3 := sens_of h1
  have h0 : (sensOK a b c d && isQ x) = true := by rw [h1]; simp [isQ]; omega
  have ht := tdiv2 b (by omega)
  have e1 : stepV b (x + n) = b * dvI (x + n + b / 2) b := by unfold stepV dvI; rfl
  have l1 := stepV_lo b (x + n) (by omega)
  have l2 := stepV_hi b (x + n) (by omega)
  refine ⟨by omega, fun h => ?_, fun n0 n1 => ?_⟩
  · have := showE_3 h0 (n := n) (by
      cases hh : isIn (-a) n a with
      | false => rfl
      | true => exfalso; simp at hh; omega)
    rw [this.1, this.2]; simp
  · have := showE_0 h0 (n := n) (by simp; omega)
    rw [ht, ← e1, this.1, this.2]
    refine ⟨by omega, by omega, by omega, by omega, by omega, ?_, rfl⟩
    unfold intoV; omega
set_option maxRecDepth 100000 in
theorem rsh_ok : FnSpec Try.prog 40 _ show_ := by
  refine FnSpec.of SEs2_ok mixed (U := 0) (I := fun _ => []) Try.func40 rfl (by kernel_rfl) rfl rfl (by decide +kernel) ?_
  rintro ⟨⟨(a : Int), (b : Int), (c : Int), (d : Int), ⟨⟩⟩, (x : Int), (n : Int), ⟨⟩⟩ -
  unfold FnSat
  conv => arg 2; reduce
  simp [show_, check, betS, errB, isS, clipS, steps]
  refine ⟨fun h => ?_, fun h1 h2 => ?_⟩
  · have := showE_2 (a := a) (b := b) (c := c) (d := d) (x := x) (n := n) (by
      cases h1 : sensOK a b c d <;> cases h2 : isQ x <;> simp_all)
    rw [this.1, this.2]; simp
  have h0 : (sensOK a b c d && isQ x) = true := by rw [h1, h2]; rfl
  have h3 := sens_of h1
  simp [isQ] at h2
  refine ⟨by omega, fun h => ?_, fun h h' => ?_⟩
  · have := showE_3 h0 (n := n) (by
      cases hh : isIn (-a) n a with
      | false => rfl
      | true => exfalso; simp at hh; omega)
    rw [this.1, this.2]; simp
  · have := showE_0 h0 (n := n) (by simp; omega)
    rw [this.1, this.2, clip_into]
    refine ⟨by omega, by omega, rfl, rfl⟩
def SEs3 : Sums := ⟨(40, mkSum _ show_) :: (27, mkSum _ show_) :: SEs2.one, SEs2.two, SEs2.lo, SEs2.eqs, SEs2.its, SEs2.imm⟩
theorem SEs3_ok : SumsOK Try.prog SEs3 := ((SEs2_ok.cons Try.func27 (by kernel_rfl) (by kernel_rfl) esh_ok).cons Try.func40 (by kernel_rfl) (by kernel_rfl) rsh_ok)
end
end Abs
end Go.Proofs.Yteoaeodalknkiaa

/- What the sensors of a cell show, by the program and by the document. -/
namespace Go.Proofs.Yteoaeodalknkiaa
namespace Abs
open Go Go.RowKit
noncomputable section
attribute [local irreducible] FnSat
@[reducible] def sen4 : Sh := .agg [.int .i64, .int .i64, .int .i64, .int .i64, .int .i64, .int .i64, .int .i64, .int .i64, .int .i64, .int .i64, .int .i64, .int .i64, .int .i64, .int .i64, .int .i64, .int .i64]
@[reducible] def int4 : Sh := .agg [.int .i64, .int .i64, .int .i64, .int .i64]
/-- the error, by whether the sensors are valid, by the error of the state, by whether the input is possible, and the noise -/
@[irreducible] def snE (ok : Bool) (cs : Int) (inp nz : Bool) : Int := if ok = true then (if cs = 0 then (if (inp && nz) = true then 0 else 3) else cs) else 2
@[irreducible] def snV (e x : Int) : Int := if e = 0 then x else 0
@[irreducible] def snB (e : Int) : Bool := decide (e = 0)
@[irreducible] def an4 (a b c d : Bool) : Bool := a && (b && (c && d))
@[irreducible] def noiB (a n : Int) : Bool := isIn (-a) n a
@[irreducible] def senE (c : Cel) (s : Sta) (i am a0 b0 c0 d0 a1 b1 c1 d1 a2 b2 c2 d2 a3 b3 c3 d3 n0 n1 n2 n3 : Int) : Int :=
  snE (an4 (sensOK a0 b0 c0 d0) (sensOK a1 b1 c1 d1) (sensOK a2 b2 c2 d2) (sensOK a3 b3 c3 d3)) (csE c s) (inB i am) (an4 (noiB a0 n0) (noiB a1 n1) (noiB a2 n2) (noiB a3 n3))
def senS : Spec [sen4, celSh, staSh, inSh, int4] := ⟨fun (_, c, _) => CelMax (celOf c), fun ((a0, b0, c0, d0, a1, b1, c1, d1, a2, b2, c2, d2, a3, b3, c3, d3, _), c, s, ((i : Int), (am : Int), _), (n0, n1, n2, n3, _), _) =>
  .tup [.agg [.sb (snB (senE (celOf c) (staOf s) i am a0 b0 c0 d0 a1 b1 c1 d1 a2 b2 c2 d2 a3 b3 c3 d3 n0 n1 n2 n3)), .sb (snB (senE (celOf c) (staOf s) i am a0 b0 c0 d0 a1 b1 c1 d1 a2 b2 c2 d2 a3 b3 c3 d3 n0 n1 n2 n3)), .sb (snB (senE (celOf c) (staOf s) i am a0 b0 c0 d0 a1 b1 c1 d1 a2 b2 c2 d2 a3 b3 c3 d3 n0 n1 n2 n3)), .sb (snB (senE (celOf c) (staOf s) i am a0 b0 c0 d0 a1 b1 c1 d1 a2 b2 c2 d2 a3 b3 c3 d3 n0 n1 n2 n3)),
    .si .i64 (snV (senE (celOf c) (staOf s) i am a0 b0 c0 d0 a1 b1 c1 d1 a2 b2 c2 d2 a3 b3 c3 d3 n0 n1 n2 n3) (showV a0 b0 c0 d0 (voltV (celOf c) (staOf s) i) n0)), .si .i64 (snV (senE (celOf c) (staOf s) i am a0 b0 c0 d0 a1 b1 c1 d1 a2 b2 c2 d2 a3 b3 c3 d3 n0 n1 n2 n3) (showV a1 b1 c1 d1 i n1)),
    .si .i64 (snV (senE (celOf c) (staOf s) i am a0 b0 c0 d0 a1 b1 c1 d1 a2 b2 c2 d2 a3 b3 c3 d3 n0 n1 n2 n3) (showV a2 b2 c2 d2 (staOf s).tp n2)), .si .i64 (snV (senE (celOf c) (staOf s) i am a0 b0 c0 d0 a1 b1 c1 d1 a2 b2 c2 d2 a3 b3 c3 d3 n0 n1 n2 n3) (showV a3 b3 c3 d3 am n3))],
    .si .i64 (senE (celOf c) (staOf s) i am a0 b0 c0 d0 a1 b1 c1 d1 a2 b2 c2 d2 a3 b3 c3 d3 n0 n1 n2 n3)]⟩
def inpS : Spec [inSh] := ⟨fun _ => True, fun (((i : Int), (am : Int), _), _) => .sb (inB i am)⟩
set_option maxRecDepth 100000 in
theorem inp_ok : FnSpec Try.prog 38 _ inpS := by
  refine FnSpec.of SEs3_ok mixed (U := 0) (I := fun _ => []) Try.func38 rfl (by kernel_rfl) rfl rfl (by decide +kernel) ?_
  rintro ⟨⟨(i : Int), (am : Int), ⟨⟩⟩, ⟨⟩⟩ -
  unfold FnSat
  conv => arg 2; reduce
  simp [inpS, betS, inB]
def SEt1 : Sums := ⟨(38, mkSum _ inpS) :: SEs3.one, SEs3.two, SEs3.lo, SEs3.eqs, SEs3.its, SEs3.imm⟩
theorem SEt1_ok : SumsOK Try.prog SEt1 := (SEs3_ok.cons Try.func38 (by kernel_rfl) (by kernel_rfl) inp_ok)
theorem errB_n {b : Bool} (h : ¬errB b = 0) : b = false ∧ errB b = 2 := by
  cases b with
  | true => exact absurd (by unfold errB; simp) h
  | false => exact ⟨rfl, by unfold errB; simp⟩
theorem errB_y {b : Bool} (h : errB b = 0) : b = true := by
  cases b with
  | true => rfl
  | false => unfold errB at h; simp at h
theorem sn_fin {E : Int} (v0 v1 v2 v3 e : Int) (h : ¬e = 0) (h' : e = E) : snB E = false ∧ 0 = snV E v0 ∧ 0 = snV E v1 ∧ 0 = snV E v2 ∧ 0 = snV E v3 ∧ e = E := by
  subst h'
  unfold snB snV
  simp [h]
theorem sh_E {a b c d x n : Int} (h : sensOK a b c d = true) (hx : -1099511627776 ≤ x) (hx' : x ≤ 1099511627776) : showE a b c d x n = if noiB a n = true then 0 else 3 := by
  have h0 : (sensOK a b c d && isQ x) = true := by rw [h]; simp [isQ]; omega
  unfold noiB
  cases hn : isIn (-a) n a with
  | true => rw [if_pos rfl]; exact (showE_0 h0 hn).2
  | false => rw [if_neg (by simp)]; exact (showE_3 h0 hn).2
theorem sh_n {a b c d x n : Int} (h : sensOK a b c d = true) (hx : -1099511627776 ≤ x) (hx' : x ≤ 1099511627776) (k : ¬showE a b c d x n = 0) : noiB a n = false ∧ showE a b c d x n = 3 := by
  rw [sh_E h hx hx'] at k ⊢
  cases hn : noiB a n with
  | true => rw [hn] at k; simp at k
  | false => simp
theorem sh_y {a b c d x n : Int} (h : sensOK a b c d = true) (hx : -1099511627776 ≤ x) (hx' : x ≤ 1099511627776) (k : showE a b c d x n = 0) : noiB a n = true := by
  rw [sh_E h hx hx'] at k
  cases hn : noiB a n with
  | true => rfl
  | false => rw [hn] at k; simp at k
theorem inB_n {i am : Int} (h : curI i = false ∨ am < 0 ∨ 400000 < am) : inB i am = false := by
  cases hi : inB i am with
  | false => rfl
  | true =>
    have k := inB_iff.1 hi
    have k2 := curI_iff.2 k.1
    rcases h with h | h | h
    · rw [k2] at h; cases h
    · omega
    · omega
set_option maxRecDepth 100000 in
set_option maxHeartbeats 4000000 in
theorem esen_ok : FnSpec Try.prog 9 _ senS := by
  refine FnSpec.of SEt1_ok mixed (U := 5) (I := fun _ => []) Try.func9 rfl (by kernel_rfl) rfl rfl (by decide +kernel) ?_
  rintro ⟨⟨(a0 : Int), (b0 : Int), (c0 : Int), (d0 : Int), (a1 : Int), (b1 : Int), (c1 : Int), (d1 : Int), (a2 : Int), (b2 : Int), (c2 : Int), (d2 : Int), (a3 : Int), (b3 : Int), (c3 : Int), (d3 : Int), ⟨⟩⟩, c, s, ⟨(i : Int), (am : Int), ⟨⟩⟩, ⟨(n0 : Int), (n1 : Int), (n2 : Int), (n3 : Int), ⟨⟩⟩, ⟨⟩⟩ hpre
  obtain ⟨c, rfl⟩ := cel_ex c
  obtain ⟨s, rfl⟩ := sta_ex s
  have hpre : CelMax c := by have : CelMax (celOf (celD c)) := hpre; rwa [celOf_D] at this
  unfold FnSat
  conv => arg 2; reduce
  simp [-Bool.forall_bool, senS, check, show_, ccheckS, cstS, volS, betS, and_assoc]
  have hE : senE c s i am a0 b0 c0 d0 a1 b1 c1 d1 a2 b2 c2 d2 a3 b3 c3 d3 n0 n1 n2 n3 = snE (an4 (sensOK a0 b0 c0 d0) (sensOK a1 b1 c1 d1) (sensOK a2 b2 c2 d2) (sensOK a3 b3 c3 d3)) (csE c s) (inB i am) (an4 (noiB a0 n0) (noiB a1 n1) (noiB a2 n2) (noiB a3 n3)) := by unfold senE; rfl
  generalize senE c s i am a0 b0 c0 d0 a1 b1 c1 d1 a2 b2 c2 d2 a3 b3 c3 d3 n0 n1 n2 n3 = E at *
  refine ⟨fun h => sn_fin _ _ _ _ _ h ?_, fun k0 => ⟨fun h => sn_fin _ _ _ _ _ h ?_, fun k1 => ⟨fun h => sn_fin _ _ _ _ _ h ?_, fun k2 => ⟨fun h => sn_fin _ _ _ _ _ h ?_, fun k3 => ?_⟩⟩⟩⟩
  · have := errB_n h; rw [this.2, hE, this.1]; simp [snE, an4]
  · have := errB_n h; rw [this.2, hE, this.1]; simp [snE, an4]
  · have := errB_n h; rw [this.2, hE, this.1]; simp [snE, an4]
  · have := errB_n h; rw [this.2, hE, this.1]; simp [snE, an4]
  have k0 := errB_y k0
  have k1 := errB_y k1
  have k2 := errB_y k2
  have k3 := errB_y k3
  rw [k0, k1, k2, k3] at hE
  refine ⟨hpre, fun h => sn_fin _ _ _ _ _ (by rw [h]; simp [errA]) ?_, fun hc => ⟨hpre, fun h => sn_fin _ _ _ _ _ h ?_, fun hs => ?_⟩⟩
  · have := csE_2 (s := s) h
    rw [h, hE, this]; simp [snE, an4, errA]
  · rw [hE]; simp [snE, an4, h]
  rw [hs] at hE
  obtain ⟨_, hst⟩ := csE_iff.1 hs
  refine ⟨hpre, fun h => sn_fin _ _ _ _ _ (by decide) ?_, fun e0 m0 m1 => ?_⟩
  · rw [hE, inB_n]
    · simp [snE, an4]
    · rcases h with h | h
      · left
        cases hi : curI i with
        | false => rfl
        | true => exact absurd (by rw [aE_yes hs]; unfold wiE; rw [if_pos hi]) h
      · exact .inr h
  obtain ⟨_, hi⟩ := aEw_0 e0
  have hi' := curI_iff.1 hi
  have hv := voltV_in hc hst hi'.1 hi'.2
  have hb : inB i am = true := inB_iff.2 ⟨hi', m0, m1⟩
  rw [hb] at hE
  have t0 := hst.t0
  have t1 := hst.t1
  have ev : aV c s (wiV i (voltV c s i)) = voltV c s i := by rw [aV_yes hs]; unfold wiV; rw [if_pos hi]
  rw [ev]
  refine ⟨fun h => sn_fin _ _ _ _ _ h ?_, fun h0 => ⟨fun h => sn_fin _ _ _ _ _ h ?_, fun h1 => ⟨fun h => sn_fin _ _ _ _ _ h ?_, fun h2 => ⟨fun h => sn_fin _ _ _ _ _ h ?_, fun h3 => ?_⟩⟩⟩⟩
  · have := sh_n k0 (by omega) (by omega) h; rw [this.2, hE, this.1]; simp [snE, an4]
  · have := sh_n k1 (by omega) (by omega) h; rw [this.2, hE, this.1]; simp [snE, an4]
  · have := sh_n k2 (by omega) (by omega) h; rw [this.2, hE, this.1]; simp [snE, an4]
  · have := sh_n k3 (by omega) (by omega) h; rw [this.2, hE, this.1]; simp [snE, an4]
  rw [hE, sh_y k0 (by omega) (by omega) h0, sh_y k1 (by omega) (by omega) h1, sh_y k2 (by omega) (by omega) h2, sh_y k3 (by omega) (by omega) h3]
  simp [snE, an4, snB, snV]
set_option maxRecDepth 100000 in
set_option maxHeartbeats 4000000 in
theorem rsen_ok : FnSpec Try.prog 10 _ senS := by
  refine FnSpec.of SEt1_ok mixed (U := 5) (I := fun _ => []) Try.func10 rfl (by kernel_rfl) rfl rfl (by decide +kernel) ?_
  rintro ⟨⟨(a0 : Int), (b0 : Int), (c0 : Int), (d0 : Int), (a1 : Int), (b1 : Int), (c1 : Int), (d1 : Int), (a2 : Int), (b2 : Int), (c2 : Int), (d2 : Int), (a3 : Int), (b3 : Int), (c3 : Int), (d3 : Int), ⟨⟩⟩, c, s, ⟨(i : Int), (am : Int), ⟨⟩⟩, ⟨(n0 : Int), (n1 : Int), (n2 : Int), (n3 : Int), ⟨⟩⟩, ⟨⟩⟩ hpre
  obtain ⟨c, rfl⟩ := cel_ex c
  obtain ⟨s, rfl⟩ := sta_ex s
  have hpre : CelMax c := by have : CelMax (celOf (celD c)) := hpre; rwa [celOf_D] at this
  unfold FnSat
  conv => arg 2; reduce
  simp [-Bool.forall_bool, senS, check, show_, ccheckS, cstS, volS, betS, inpS, and_assoc]
  have hE : senE c s i am a0 b0 c0 d0 a1 b1 c1 d1 a2 b2 c2 d2 a3 b3 c3 d3 n0 n1 n2 n3 = snE (an4 (sensOK a0 b0 c0 d0) (sensOK a1 b1 c1 d1) (sensOK a2 b2 c2 d2) (sensOK a3 b3 c3 d3)) (csE c s) (inB i am) (an4 (noiB a0 n0) (noiB a1 n1) (noiB a2 n2) (noiB a3 n3)) := by unfold senE; rfl
  generalize senE c s i am a0 b0 c0 d0 a1 b1 c1 d1 a2 b2 c2 d2 a3 b3 c3 d3 n0 n1 n2 n3 = E at *
  refine ⟨fun h => sn_fin _ _ _ _ _ (by decide) ?_, fun k0 => ⟨fun h => sn_fin _ _ _ _ _ (by decide) ?_, fun k1 => ⟨fun h => sn_fin _ _ _ _ _ (by decide) ?_, fun k2 => ⟨fun h => sn_fin _ _ _ _ _ (by decide) ?_, fun k3 => ?_⟩⟩⟩⟩
  · have := errB_n h; rw [hE, this.1]; simp [snE, an4]
  · have := errB_n h; rw [hE, this.1]; simp [snE, an4]
  · have := errB_n h; rw [hE, this.1]; simp [snE, an4]
  · have := errB_n h; rw [hE, this.1]; simp [snE, an4]
  have k0 := errB_y k0
  have k1 := errB_y k1
  have k2 := errB_y k2
  have k3 := errB_y k3
  rw [k0, k1, k2, k3] at hE
  refine ⟨hpre, fun hc => ⟨hpre, fun h => sn_fin _ _ _ _ _ h ?_, fun hs => ⟨fun hb => sn_fin _ _ _ _ _ (by decide) ?_, fun hb => ⟨hpre, ?_⟩⟩⟩, fun h => ⟨fun h => sn_fin _ _ _ _ _ (by rw [h]; simp [errA]) ?_, fun h' => by rw [h] at h'; cases h'⟩⟩
  · rw [hE]; simp [snE, an4, h]
  · rw [hE, hs, hb]; simp [snE, an4]
  · rw [hs, hb] at hE
    obtain ⟨_, hst⟩ := csE_iff.1 hs
    obtain ⟨hi', m0, m1⟩ := inB_iff.1 hb
    have hi := curI_iff.2 hi'
    have hv := voltV_in hc hst hi'.1 hi'.2
    have t0 := hst.t0
    have t1 := hst.t1
    have ev : aV c s (wiV i (voltV c s i)) = voltV c s i := by rw [aV_yes hs]; unfold wiV; rw [if_pos hi]
    rw [ev]
    refine ⟨fun h => sn_fin _ _ _ _ _ (by decide) ?_, fun h0 => ⟨fun h => sn_fin _ _ _ _ _ (by decide) ?_, fun h1 => ⟨fun h => sn_fin _ _ _ _ _ (by decide) ?_, fun h2 => ⟨fun h => sn_fin _ _ _ _ _ (by decide) ?_, fun h3 => ?_⟩⟩⟩⟩
    · have := sh_n k0 (by omega) (by omega) h; rw [hE, this.1]; simp [snE, an4]
    · have := sh_n k1 (by omega) (by omega) h; rw [hE, this.1]; simp [snE, an4]
    · have := sh_n k2 (by omega) (by omega) h; rw [hE, this.1]; simp [snE, an4]
    · have := sh_n k3 (by omega) (by omega) h; rw [hE, this.1]; simp [snE, an4]
    rw [hE, sh_y k0 (by omega) (by omega) h0, sh_y k1 (by omega) (by omega) h1, sh_y k2 (by omega) (by omega) h2, sh_y k3 (by omega) (by omega) h3]
    simp [snE, an4, snB, snV]
  · have := csE_2 (s := s) h
    rw [h, hE, this]; simp [snE, an4, errA]
def SEt : Sums := ⟨(10, mkSum _ senS) :: (9, mkSum _ senS) :: SEt1.one, SEt1.two, SEt1.lo, SEt1.eqs, SEt1.its, SEt1.imm⟩
theorem SEt_ok : SumsOK Try.prog SEt := ((SEt1_ok.cons Try.func9 (by kernel_rfl) (by kernel_rfl) esen_ok).cons Try.func10 (by kernel_rfl) (by kernel_rfl) rsen_ok)
end
end Abs
end Go.Proofs.Yteoaeodalknkiaa

/- The statements' small example of layer 3, beside cells. -/
namespace Go.Proofs.Yteoaeodalknkiaa
namespace Abs
open Go Go.RowKit
noncomputable section
attribute [local irreducible] FnSat
set_option maxRecDepth 100000 in
theorem ebh_ok : FnSpec Try.prog 29 _ behind := by
  refine FnSpec.of SEs3_ok mixed (U := 0) (I := fun _ => []) Try.func29 rfl (by kernel_rfl) rfl rfl (by decide +kernel) ?_
  rintro ⟨⟨(a : Int), (b : Int), (c : Int), (d : Int), ⟨⟩⟩, (r : Int), ⟨⟩⟩ -
  unfold FnSat
  conv => arg 2; reduce
  simp [behind, check, betS, divS, errB]
  have hd : ∀ x : Int, dvI x b = x / b := fun x => by unfold dvI; rfl
  constructor
  · intro h
    have := beh_2 h (r := r)
    omega
  · intro h
    have h1 := sens_of h
    rw [tdiv2 b (by omega)]
    have hm1 := mul_div_le r b (by omega)
    have hm2 := mul_cdiv_le r b (by omega)
    simp only [tmod_z, hd]
    have hq : -1099511627776 ≤ -r / b ∨ r < c ∨ d < r := by
      by_cases hr : r < c ∨ d < r
      · exact .inr hr
      · left; rw [Int.le_ediv_iff_mul_le (by omega)]
        have : -1099511627776 * b ≤ -1099511627776 * 1 := Int.mul_le_mul_of_nonpos_left (by omega) (by omega)
        omega
    have hq2 : -r / b ≤ 1099511627776 ∨ r < c ∨ d < r := by
      by_cases hr : r < c ∨ d < r
      · exact .inr hr
      · left
        have : -r / b < 1099511627777 := by
          rw [Int.ediv_lt_iff_lt_mul (by omega)]
          have : 1099511627777 * 1 ≤ 1099511627777 * b := Int.mul_le_mul_of_nonneg_left (by omega) (by omega)
          omega
        omega
    cases hr : readOK b c d r with
    | false =>
      have := beh_5 h hr
      simp [readOK] at hr
      omega
    | true =>
      obtain ⟨g1, g2, g3⟩ := beh_0 h hr
      rw [g1, g2, g3]
      simp [readOK] at hr
      generalize b * (r / b) = u at *
      generalize b * -(-r / b) = v at *
      repeat' (first | refine And.intro ?_ ?_ | intro _)
      all_goals first | omega | (split <;> omega)
def plainS : Spec [] := ⟨fun _ => True, fun _ => .agg [.li .i64 3, .li .i64 10, .li .i64 0, .li .i64 100]⟩
set_option maxRecDepth 100000 in
theorem plainS_ok : FnSpec Try.prog 28 _ plainS := by
  refine FnSpec.of SEs3_ok mixed (U := 0) (I := fun _ => []) Try.func28 rfl (by kernel_rfl) rfl rfl (by decide +kernel) ?_
  rintro ⟨⟩ -
  unfold FnSat
  conv => arg 2; reduce
  simp [plainS]
def SLw0 : Sums := ⟨(29, mkSum _ behind) :: (28, mkSum _ plainS) :: SEs3.one, SEs3.two, SEs3.lo, SEs3.eqs, SEs3.its, SEs3.imm⟩
theorem SLw0_ok : SumsOK Try.prog SLw0 := ((SEs3_ok.cons Try.func28 (by kernel_rfl) (by kernel_rfl) plainS_ok).cons Try.func29 (by kernel_rfl) (by kernel_rfl) ebh_ok)
@[reducible] def sp2w : List (Option IntKind) := [some .i64, some .i64]
def eqsW : List (Nat × List (Option IntKind)) := [(62, sp2w)]
theorem eqsW_ok : ∀ t ks, findS eqsW t = some ks → EqOK Try.prog t ks := by
  intro t ks h
  unfold eqsW at h
  simp only [findS] at h
  split at h
  · rename_i e
    obtain rfl := Nat.eq_of_beq_eq_true e
    injection h with h; subst h
    exact EqOK.of 3 (by decide) (by kernel_rfl) (by kernel_rfl) (by kernel_rfl)
  · cases h
def SLw1 : Sums := ⟨SLw0.one, SLw0.two, SLw0.lo, eqsW, SLw0.its, SLw0.imm⟩
theorem SLw1_ok : SumsOK Try.prog SLw1 := SLw0_ok.setEqs eqsW_ok
def tru3 : Spec [] := ⟨fun _ => True, fun _ => .sb true⟩
theorem works_num : showV 3 10 0 100 42 3 = 50 ∧ showE 3 10 0 100 42 3 = 0 ∧ behLo 3 10 0 100 40 = 32 ∧ behHi 3 10 0 100 40 = 47 ∧ behE 3 10 0 100 40 = 0 := by
  simp [showV, showE, behLo, behHi, behE, sensOK, isQ, intoV, stepV, readOK]; decide
set_option maxRecDepth 100000 in
theorem works_ok : FnSpec Try.prog 8 _ tru3 := by
  refine FnSpec.of SLw1_ok mixed (U := 0) (I := fun _ => []) Try.func8 rfl (by kernel_rfl) rfl rfl (by decide +kernel) ?_
  rintro ⟨⟩ -
  unfold FnSat
  conv => arg 2; reduce
  obtain ⟨h1, h2, h3, h4, h5⟩ := works_num
  simp [plainS, show_, behind, tru3, h1, h2, h3, h4, h5]
@[irreducible] def shtB (c : Cel) : Bool := decide (c.ocv.nx ≤ 100) && (decide (c.ocv.ny ≤ 100) && (decide (c.cold.nx ≤ 100) && (decide (c.cold.ny ≤ 100) && (decide (c.stress.nx ≤ 100) && decide (c.stress.ny ≤ 100)))))
theorem shtB_max {c : Cel} (h : shtB c = true) : CelMax c := by
  unfold shtB at h
  simp at h
  unfold CelMax maxLen
  omega
def shtS : Spec [celSh] := ⟨fun _ => True, fun (c, _) => .sb (shtB (celOf c))⟩
set_option maxRecDepth 100000 in
set_option maxHeartbeats 2000000 in
theorem sht_ok : FnSpec Try.prog 7 _ shtS := by
  refine FnSpec.of SLw1_ok mixed (U := 0) (I := fun _ => []) Try.func7 rfl (by kernel_rfl) rfl rfl (by decide +kernel) ?_
  rintro ⟨c, ⟨⟩⟩ -
  obtain ⟨c, rfl⟩ := cel_ex c
  unfold FnSat
  conv => arg 2; reduce
  simp [shtS, shtB]
  rw [Bool.eq_iff_iff]
  simp
  omega
end
end Abs
end Go.Proofs.Yteoaeodalknkiaa

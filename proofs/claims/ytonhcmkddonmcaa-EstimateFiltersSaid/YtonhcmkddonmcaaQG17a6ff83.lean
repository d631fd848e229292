/- A part of the proof: no statement of its own. -/
import Derived.Test.YtonhcmkddonmcaaQGb347670d
set_option linter.unusedSimpArgs false
set_option linter.unusedVariables false
/- Cells, by the document: voltages, heat, the next state. -/
namespace Go.Proofs.Ytonhcmkddonmcaa
namespace Abs
open Go Go.RowKit
noncomputable section
attribute [local irreducible] FnSat
def rfillS : Spec [.int .i64, .int .i64] := pcS
set_option maxRecDepth 100000 in
theorem rfill_ok : FnSpec Try.prog 67 _ pcS := by
  refine FnSpec.of SMa_ok mixed (U := 0) (I := fun _ => []) Try.func67 rfl (by kernel_rfl) rfl rfl (by decide +kernel) ?_
  rintro ⟨(x : Int), (o : Int), ⟨⟩⟩ ⟨(h1 : -17592186044416 ≤ x), (h2 : x ≤ 17592186044416), (h3 : 1 ≤ o)⟩
  unfold FnSat
  conv => arg 2; reduce
  simp [pcS, divS, and_assoc]
  unfold pcV
  omega
theorem val_pre {c : Crv} {last most : Int} (h : scB c last most = true) (h1 : last ≤ 400000) (h2 : most ≤ 8388608) : crB c = true ∧ c.x 0 = 0 ∧ c.x (c.nx - 1) ≤ 400000 ∧ 0 ≤ c.y 0 ∧ c.y (c.nx - 1) ≤ 8388608 := by
  have h := scB_iff.1 h
  exact ⟨h.1, h.2.1, by omega, h.2.2.2.1, by omega⟩
def ropenS : Spec [celSh, .int .i64] := ⟨fun (c, (f : Int), _) => celB (celOf c) = true ∧ -1099511627776 ≤ f ∧ f ≤ 1099511627776, fun (c, (f : Int), _) => .si .i64 (openV (celOf c) f)⟩
set_option maxRecDepth 100000 in
theorem ropen_ok : FnSpec Try.prog 66 _ ropenS := by
  refine FnSpec.of SMa_ok mixed (U := 0) (I := fun _ => []) Try.func66 rfl (by kernel_rfl) rfl rfl (by decide +kernel) ?_
  rintro ⟨c, (f : Int), ⟨⟩⟩ hpre
  obtain ⟨c, rfl⟩ := cel_ex c
  have hpre : celB c = true ∧ -1099511627776 ≤ f ∧ f ≤ 1099511627776 := by have : celB (celOf (celD c)) = true ∧ -1099511627776 ≤ f ∧ f ≤ 1099511627776 := hpre; rwa [celOf_D] at this
  unfold FnSat
  conv => arg 2; reduce
  simp [ropenS, rvalS, ElEq, and_assoc]
  obtain ⟨hc, f1, f2⟩ := hpre
  have hc := celB_iff.1 hc
  have hv := sc_val hc.ocv f
  have := hc.sh0
  have := hc.sh1
  have vp := val_pre hc.ocv (by decide) (by decide)
  unfold openV
  exact ⟨vp.1, vp.2.1, vp.2.2.1, vp.2.2.2.1, vp.2.2.2.2, f1, f2, by omega, by omega, rfl⟩
def rresS : Spec [celSh, .int .i64, .int .i64] := ⟨fun (c, (t : Int), (w : Int), _) => celB (celOf c) = true ∧ 0 ≤ t ∧ t ≤ 400000 ∧ 0 ≤ w ∧ w ≤ 17179869184, fun (c, (t : Int), (w : Int), _) => .si .i64 (resV (celOf c) t w)⟩
set_option maxRecDepth 100000 in
theorem rres_ok : FnSpec Try.prog 65 _ rresS := by
  refine FnSpec.of SMa_ok mixed (U := 0) (I := fun _ => []) Try.func65 rfl (by kernel_rfl) rfl rfl (by decide +kernel) ?_
  rintro ⟨c, (t : Int), (w : Int), ⟨⟩⟩ hpre
  obtain ⟨c, rfl⟩ := cel_ex c
  have hpre : celB c = true ∧ 0 ≤ t ∧ t ≤ 400000 ∧ 0 ≤ w ∧ w ≤ 17179869184 := by have : celB (celOf (celD c)) = true ∧ 0 ≤ t ∧ t ≤ 400000 ∧ 0 ≤ w ∧ w ≤ 17179869184 := hpre; rwa [celOf_D] at this
  unfold FnSat
  conv => arg 2; reduce
  simp [rresS, rvalS, divS, clipS, ElEq, and_assoc]
  obtain ⟨hc, t0, t1, w0, w1⟩ := hpre
  have hc := celB_iff.1 hc
  have hv := sc_val hc.cold (400000 - t)
  have h1 := mul_in w0 w1 hc.gr0 hc.gr1
  have h2 := dvI_le (a := w * c.grow) (d := 65536) (m := 274877906944) (by decide) (by omega)
  have h3 := dvI_nonneg (a := w * c.grow) (d := 65536) (by decide) h1.1
  have := hc.ex0
  have := hc.ex1
  have vp := val_pre hc.cold (by decide) (by decide)
  unfold resV
  exact ⟨by omega, by omega, vp.1, vp.2.1, vp.2.2.1, vp.2.2.2.1, vp.2.2.2.2, by omega, by omega, by omega, by omega, by omega, by omega, by omega, by omega, by omega, by omega, rfl⟩
@[irreducible] def secV (r p : Int) : Int := if 0 < p then dvI (r * r) (1000 * p) else 0
def rsecS : Spec [.int .i64, .int .i64] := ⟨fun ((r : Int), (p : Int), _) => -8388608 ≤ r ∧ r ≤ 8388608 ∧ 0 ≤ p ∧ p ≤ 1048576, fun ((r : Int), (p : Int), _) => .si .i64 (secV r p)⟩
set_option maxRecDepth 100000 in
theorem rsec_ok : FnSpec Try.prog 83 _ rsecS := by
  refine FnSpec.of SMa_ok mixed (U := 0) (I := fun _ => []) Try.func83 rfl (by kernel_rfl) rfl rfl (by decide +kernel) ?_
  rintro ⟨(r : Int), (p : Int), ⟨⟩⟩ ⟨(r1 : -8388608 ≤ r), (r2 : r ≤ 8388608), (p1 : 0 ≤ p), (p2 : p ≤ 1048576)⟩
  unfold FnSat
  conv => arg 2; reduce
  simp [rsecS, divS, and_assoc]
  have m3 := sq_in (a := r) (A := 8388608) r1 r2
  refine ⟨fun h => ?_, fun h => ?_⟩
  · unfold secV; rw [if_neg (by omega)]
  · exact ⟨by omega, by omega, by omega, by omega, by omega, by omega, by omega, by unfold secV; rw [if_pos (by omega)]⟩
@[irreducible] def relV (k o i p : Int) : Int := dvI (1000 * k * o + (65536 - k) * i * p) 65536000
def rrelS : Spec [.int .i64, .int .i64, .int .i64, .int .i64] := ⟨fun ((k : Int), (o : Int), (i : Int), (p : Int), _) => 0 ≤ k ∧ k ≤ 65536 ∧ -8388608 ≤ o ∧ o ≤ 8388608 ∧ -1048576 ≤ i ∧ i ≤ 1048576 ∧ 0 ≤ p ∧ p ≤ 1048576,
  fun ((k : Int), (o : Int), (i : Int), (p : Int), _) => .si .i64 (relV k o i p)⟩
set_option maxRecDepth 100000 in
theorem rrel_ok : FnSpec Try.prog 72 _ rrelS := by
  refine FnSpec.of SMa_ok mixed (U := 0) (I := fun _ => []) Try.func72 rfl (by kernel_rfl) rfl rfl (by decide +kernel) ?_
  rintro ⟨(k : Int), (o : Int), (i : Int), (p : Int), ⟨⟩⟩ ⟨(k0 : 0 ≤ k), (k1 : k ≤ 65536), (o0 : -8388608 ≤ o), (o1 : o ≤ 8388608), (i0 : -1048576 ≤ i), (i1 : i ≤ 1048576), (p0 : 0 ≤ p), (p1 : p ≤ 1048576)⟩
  unfold FnSat
  conv => arg 2; reduce
  simp [rrelS, divS, and_assoc]
  have h1 := mul_ab (a := o) (b := 1000 * k) (A := 8388608) (B := 65536000) o0 o1 (by omega) (by omega)
  have h2 := mul_ab (a := i) (b := 65536 - k) (A := 1048576) (B := 65536) i0 i1 (by omega) (by omega)
  rw [Int.mul_comm o] at h1
  rw [Int.mul_comm i] at h2
  have h3 := mul_ab (a := (65536 - k) * i) (b := p) (A := 68719476736) (B := 1048576) (by omega) (by omega) p0 p1
  have e : dvI (1000 * k * o + (65536 - k) * i * p) 65536000 = relV k o i p := by unfold relV; rfl
  rw [e]
  repeat' (first | refine And.intro ?_ ?_ | intro _)
  all_goals first | omega | rfl
noncomputable def SRh : Sums := ⟨(72, mkSum _ rrelS) :: (83, mkSum _ rsecS) :: (65, mkSum _ rresS) :: (66, mkSum _ ropenS) :: (67, mkSum _ pcS) :: SMa.one, SMa.two, SMa.lo, SMa.eqs, SMa.its, SMa.imm⟩
theorem SRh_ok : SumsOK Try.prog SRh := (((((SMa_ok.cons Try.func67 (by kernel_rfl) (by kernel_rfl) rfill_ok).cons Try.func66 (by kernel_rfl) (by kernel_rfl) ropen_ok).cons Try.func65 (by kernel_rfl) (by kernel_rfl) rres_ok).cons Try.func83 (by kernel_rfl) (by kernel_rfl) rsec_ok).cons Try.func72 (by kernel_rfl) (by kernel_rfl) rrel_ok)
def rheatS : Spec [celSh, staSh, .int .i64] := ⟨fun (c, s, (i : Int), _) => csE (celOf c) (staOf s) = 0 ∧ -1048576 ≤ i ∧ i ≤ 1048576, fun (c, s, (i : Int), _) => .si .i64 (heatV (celOf c) (staOf s) i)⟩
set_option maxRecDepth 100000 in
theorem rheat_ok : FnSpec Try.prog 73 _ rheatS := by
  refine FnSpec.of SRh_ok mixed (U := 0) (I := fun _ => []) Try.func73 rfl (by kernel_rfl) rfl rfl (by decide +kernel) ?_
  rintro ⟨c, s, (i : Int), ⟨⟩⟩ hpre
  obtain ⟨c, rfl⟩ := cel_ex c
  obtain ⟨s, rfl⟩ := sta_ex s
  have hpre : csE c s = 0 ∧ -1048576 ≤ i ∧ i ≤ 1048576 := by have : csE (celOf (celD c)) (staOf (staD s)) = 0 ∧ -1048576 ≤ i ∧ i ≤ 1048576 := hpre; rwa [celOf_D, staOf_D] at this
  obtain ⟨hcs, i1, i2⟩ := hpre
  obtain ⟨h1, h2⟩ := csE_iff.1 hcs
  unfold FnSat
  conv => arg 2; reduce
  simp [rheatS, rwearS, rresS, rsecS, divS, and_assoc]
  have hk := celB_iff.1 h1
  have := h2.h1
  have := h2.a1
  have hw : WearOK c s.th s.ag := ⟨hk.cy0, hk.cy1, hk.al0, hk.al1, h2.h0, by omega, h2.a0, by omega⟩
  have hw2 := wearV_in hw
  have ew : wearV c s.th s.ag = wV c s := by unfold wV; rfl
  have er : resV c s.tp (wearV c s.th s.ag) = rV c s := by unfold rV; rw [ew]
  have r := @rV_in c s
  rw [er]
  have m1 := sq_in i1 i2
  have m2 := mul_in m1.1 m1.2 r.1 r.2
  have hh := heatV_in h1 h2 i1 i2
  have e : dvI (i * i * rV c s) 1000000000 + secV s.rx c.pair = heatV c s i := by unfold heatV secV; rfl
  rw [e]
  exact ⟨hw, h1, h2.t0, h2.t1, by omega, by omega, by omega, by omega, by omega, by omega, by omega, by omega, h2.r0, h2.r1, hk.pr0, hk.pr1, by omega, by omega, rfl⟩
def rvoltS : Spec [celSh, staSh, .int .i64] := ⟨fun (c, s, (i : Int), _) => csE (celOf c) (staOf s) = 0 ∧ -1048576 ≤ i ∧ i ≤ 1048576, fun (c, s, (i : Int), _) => .si .i64 (voltV (celOf c) (staOf s) i)⟩
set_option maxRecDepth 100000 in
theorem rvolt_ok : FnSpec Try.prog 51 _ rvoltS := by
  refine FnSpec.of SRh_ok mixed (U := 0) (I := fun _ => []) Try.func51 rfl (by kernel_rfl) rfl rfl (by decide +kernel) ?_
  rintro ⟨c, s, (i : Int), ⟨⟩⟩ hpre
  obtain ⟨c, rfl⟩ := cel_ex c
  obtain ⟨s, rfl⟩ := sta_ex s
  have hpre : csE c s = 0 ∧ -1048576 ≤ i ∧ i ≤ 1048576 := by have : csE (celOf (celD c)) (staOf (staD s)) = 0 ∧ -1048576 ≤ i ∧ i ≤ 1048576 := hpre; rwa [celOf_D, staOf_D] at this
  obtain ⟨hcs, i1, i2⟩ := hpre
  obtain ⟨h1, h2⟩ := csE_iff.1 hcs
  unfold FnSat
  conv => arg 2; reduce
  simp [rvoltS, rwearS, rresS, rcapS, pcS, ropenS, divS, and_assoc]
  have hk := celB_iff.1 h1
  have := h2.h1
  have := h2.a1
  have hw : WearOK c s.th s.ag := ⟨hk.cy0, hk.cy1, hk.al0, hk.al1, h2.h0, by omega, h2.a0, by omega⟩
  have hw2 := wearV_in hw
  have ew : wearV c s.th s.ag = wV c s := by unfold wV; rfl
  have er : resV c s.tp (wearV c s.th s.ag) = rV c s := by unfold rV; rw [ew]
  have r := @rV_in c s
  rw [er]
  have m := mul_ab (a := i) (b := rV c s) (A := 1048576) (B := 1048576) i1 i2 r.1 r.2
  have ek : roomV c (wearV c s.th s.ag) = kV c s := by unfold kV; rw [ew]
  rw [ek]
  have k1 := kV_in h1 h2
  have q1 := q_in h2
  have f1 := fillV_in h1 h2
  have ef : pcV s.q (kV c s) = fillV c s := by unfold fillV; rfl
  rw [ef]
  have o1 := opnV_in (s := s) h1
  have eo : openV c (fillV c s) = opnV c s := by unfold opnV; rfl
  rw [eo]
  have d1 := dvI_le (a := i * rV c s) (d := 1000) (m := 1099511628) (by decide) (by omega)
  have d2 := dvI_ge (a := i * rV c s) (d := 1000) (m := -1099511628) (by decide) (by omega)
  have := h2.r0
  have := h2.r1
  have e : opnV c s - s.rx - dvI (i * rV c s) 1000 = voltV c s i := by unfold voltV; rfl
  rw [e]
  have v := voltV_in h1 h2 i1 i2
  exact ⟨hw, h1, h2.t0, h2.t1, by omega, by omega, hw, by have := hk.cap0; omega, hk.cap1, by omega, by omega, by omega, h1, by omega, by omega, by omega, by omega, by omega, by omega, by omega, by omega, by omega, by omega, rfl⟩
noncomputable def SRi : Sums := ⟨(51, mkSum _ rvoltS) :: (73, mkSum _ rheatS) :: SRh.one, SRh.two, SRh.lo, SRh.eqs, SRh.its, SRh.imm⟩
theorem SRi_ok : SumsOK Try.prog SRi := ((SRh_ok.cons Try.func73 (by kernel_rfl) (by kernel_rfl) rheat_ok).cons Try.func51 (by kernel_rfl) (by kernel_rfl) rvolt_ok)
def rnextS : Spec [celSh, staSh, inSh] := ⟨fun (c, s, ((i : Int), (a : Int), _), _) => csE (celOf c) (staOf s) = 0 ∧ -1048576 ≤ i ∧ i ≤ 1048576 ∧ 0 ≤ a ∧ a ≤ 400000, fun (c, s, ((i : Int), (a : Int), _), _) =>
  .agg [.si .i64 (nxQ (celOf c) (staOf s) i), .si .i64 (nxR (celOf c) (staOf s) i), .si .i64 (nxT (celOf c) (staOf s) i a), .si .i64 (nxH (staOf s) i), .si .i64 (nxA (celOf c) (staOf s))]⟩
set_option maxRecDepth 100000 in
set_option maxHeartbeats 2000000 in
theorem rnext_ok : FnSpec Try.prog 53 _ rnextS := by
  refine FnSpec.of SRi_ok mixed (U := 0) (I := fun _ => []) Try.func53 rfl (by kernel_rfl) rfl rfl (by decide +kernel) ?_
  rintro ⟨c, s, ⟨(i : Int), (a : Int), ⟨⟩⟩, ⟨⟩⟩ hpre
  obtain ⟨c, rfl⟩ := cel_ex c
  obtain ⟨s, rfl⟩ := sta_ex s
  have hpre : csE c s = 0 ∧ -1048576 ≤ i ∧ i ≤ 1048576 ∧ 0 ≤ a ∧ a ≤ 400000 := by have : csE (celOf (celD c)) (staOf (staD s)) = 0 ∧ -1048576 ≤ i ∧ i ≤ 1048576 ∧ 0 ≤ a ∧ a ≤ 400000 := hpre; rwa [celOf_D, staOf_D] at this
  obtain ⟨hcs, i1, i2, a1, a2⟩ := hpre
  obtain ⟨h1, h2⟩ := csE_iff.1 hcs
  unfold FnSat
  conv => arg 2; reduce
  simp [rnextS, rheatS, rvalS, rrelS, rcapS, clipS, divS, ElEq, and_assoc]
  have hk := celB_iff.1 h1
  have sth : ∀ a b d e f : Int, (staOf (a, b, d, e, f, PUnit.unit)).th = e := fun a b d e f => by unfold staOf; simp
  have sag : ∀ a b d e f : Int, (staOf (a, b, d, e, f, PUnit.unit)).ag = f := fun a b d e f => by unfold staOf; simp
  simp only [sth, sag]
  have vs := sc_val hk.stress s.tp
  have hh := heatV_in h1 h2 i1 i2
  have d1 := dvI_le (a := 1000 * heatV c s i) (d := c.hcap) (m := 71530000000000000) hk.hc0 (by
    have := Int.mul_le_mul_of_nonneg_left hk.hc0 (show (0 : Int) ≤ 71530000000000000 by decide)
    omega)
  have d2 := dvI_nonneg (a := 1000 * heatV c s i) (d := c.hcap) hk.hc0 (by omega)
  have := h2.t0
  have := h2.t1
  have := h2.h0
  have := h2.h1
  have := h2.a0
  have := h2.a1
  have q1 := q_in h2
  have k1 := kV_in h1 h2
  have m4 := mul_ab (a := a - s.tp) (b := c.cool) (A := 400000) (B := 65536) (by omega) (by omega) hk.co0 hk.co1
  have d3 := dvI_le (a := (a - s.tp) * c.cool) (d := 65536) (m := 400000) (by decide) (by omega)
  have d4 := dvI_ge (a := (a - s.tp) * c.cool) (d := 65536) (m := -400000) (by decide) (by omega)
  have := hk.lk0
  have := hk.lk1
  have hw : WearOK c (s.th + max i (-i)) (s.ag + valL c.stress s.tp) := ⟨hk.cy0, hk.cy1, hk.al0, hk.al1, by omega, by omega, by omega, by omega⟩
  have e3 : wearV c (s.th + max i (-i)) (s.ag + valL c.stress s.tp) = wearV c (nxH s i) (nxA c s) := by unfold nxH nxA; rfl
  have vp := val_pre hk.stress (by decide) (by decide)
  exact ⟨by omega, by omega, by omega, by omega, vp.1, vp.2.1, vp.2.2.1, vp.2.2.2.1, vp.2.2.2.2, by omega, by omega, by omega, by omega, hk.kp0, hk.kp1, h2.r0, h2.r1, i1, i2, hk.pr0, hk.pr1, hcs, i1, i2, by omega, by omega, by omega, by omega, hk.hc0, by omega, by omega, by omega, by omega, by omega, by omega, by omega, by omega,
    by omega, by omega, by omega, by omega, by omega, by omega, hw, by have := hk.cap0; omega, hk.cap1, by unfold nxQ; rw [e3], by unfold nxR slackV relV; rw [Int.mul_assoc (65536 - c.keep)], by unfold nxT; rfl, by unfold nxH; rfl, by unfold nxA; rfl⟩
noncomputable def SRj : Sums := ⟨(53, mkSum _ rnextS) :: SRi.one, SRi.two, SRi.lo, SRi.eqs, SRi.its, SRi.imm⟩
theorem SRj_ok : SumsOK Try.prog SRj := (SRi_ok.cons Try.func53 (by kernel_rfl) (by kernel_rfl) rnext_ok)
def routS : Spec [celSh, staSh, limSh, .int .i64, .int .i64] := ⟨fun (c, s, _, (a : Int), (i : Int), _) => csE (celOf c) (staOf s) = 0 ∧ 0 ≤ a ∧ a ≤ 400000 ∧ 0 ≤ i ∧ i ≤ 1048576, fun (c, s, ((l : Int), (_ : Int), (_ : Int), (_ : Int), (h : Int), _), (a : Int), (i : Int), _) => .sb (outP (celOf c) (staOf s) l h a i)⟩
def rinS : Spec [celSh, staSh, limSh, .int .i64, .int .i64] := ⟨fun (c, s, _, (a : Int), (i : Int), _) => csE (celOf c) (staOf s) = 0 ∧ 0 ≤ a ∧ a ≤ 400000 ∧ 0 ≤ i ∧ i ≤ 1048576, fun (c, s, ((_ : Int), (m : Int), (_ : Int), (_ : Int), (h : Int), _), (a : Int), (i : Int), _) => .sb (inP (celOf c) (staOf s) m h a i)⟩
noncomputable def SRk : Sums := ⟨SRj.one, SRj.two, SRj.lo, SRj.eqs, SRj.its, SRj.imm⟩
theorem SRk_ok : SumsOK Try.prog SRk := SRj_ok
end
end Abs
end Go.Proofs.Ytonhcmkddonmcaa

/- Cells, by the document: the voltage and the step, with their refusals. -/
namespace Go.Proofs.Ytonhcmkddonmcaa
namespace Abs
open Go Go.RowKit
noncomputable section
attribute [local irreducible] FnSat
def rcurS : Spec [celSh, staSh, .int .i64] := ⟨fun (c, _) => CelMax (celOf c), fun (c, s, (i : Int), _) => .si .i64 (aE (celOf c) (staOf s) (wiE i))⟩
set_option maxRecDepth 100000 in
set_option maxHeartbeats 2000000 in
theorem rcur_ok : FnSpec Try.prog 50 _ rcurS := by
  refine FnSpec.of SRk_ok mixed (U := 0) (I := fun _ => []) Try.func50 rfl (by kernel_rfl) rfl rfl (by decide +kernel) ?_
  rintro ⟨c, s, (i : Int), ⟨⟩⟩ hpre
  obtain ⟨c, rfl⟩ := cel_ex c
  obtain ⟨s, rfl⟩ := sta_ex s
  have hpre : CelMax c := by have : CelMax (celOf (celD c)) := hpre; rwa [celOf_D] at this
  unfold FnSat
  conv => arg 2; reduce
  simp [rcurS, cstS, betS, and_assoc]
  refine ⟨hpre, fun h => ⟨hpre, (aE_no h).symm⟩, fun h => ⟨fun h' => ?_, fun i1 i2 => ?_⟩⟩
  · rw [aE_yes h]
    unfold wiE
    rw [if_neg (by rw [curI_iff]; omega)]
  · rw [aE_yes h]
    unfold wiE
    rw [if_pos (curI_iff.2 ⟨i1, i2⟩)]
noncomputable def SEv1 : Sums := ⟨(50, mkSum _ rcurS) :: SRk.one, SRk.two, SRk.lo, SRk.eqs, SRk.its, SRk.imm⟩
theorem SEv1_ok : SumsOK Try.prog SEv1 := (SRk_ok.cons Try.func50 (by kernel_rfl) (by kernel_rfl) rcur_ok)
theorem aEw_0 {c : Cel} {s : Sta} {i : Int} (h : aE c s (wiE i) = 0) : csE c s = 0 ∧ curI i = true := by
  by_cases hc : csE c s = 0
  · rw [aE_yes hc] at h
    refine ⟨hc, ?_⟩
    cases hi : curI i with
    | true => rfl
    | false => unfold wiE at h; rw [hi] at h; simp at h
  · rw [aE_no hc] at h; exact absurd h hc
theorem aEw_no {c : Cel} {s : Sta} {i x : Int} (h : ¬aE c s (wiE i) = 0) : aV c s (wiV i x) = 0 := by
  by_cases hc : csE c s = 0
  · rw [aV_yes hc]
    rw [aE_yes hc] at h
    unfold wiE at h
    unfold wiV
    split at h
    · exact absurd rfl h
    · rename_i h'; rw [if_neg h']
  · exact aV_no hc
set_option maxRecDepth 100000 in
set_option maxHeartbeats 2000000 in
theorem rvol_ok : FnSpec Try.prog 28 _ volS := by
  refine FnSpec.of SEv1_ok mixed (U := 0) (I := fun _ => []) Try.func28 rfl (by kernel_rfl) rfl rfl (by decide +kernel) ?_
  rintro ⟨c, s, (i : Int), ⟨⟩⟩ hpre
  obtain ⟨c, rfl⟩ := cel_ex c
  obtain ⟨s, rfl⟩ := sta_ex s
  have hpre : CelMax c := by have : CelMax (celOf (celD c)) := hpre; rwa [celOf_D] at this
  unfold FnSat
  conv => arg 2; reduce
  simp [volS, rcurS, rvoltS, and_assoc]
  refine ⟨hpre, fun h => ⟨hpre, (aEw_no h).symm⟩, fun h => ?_⟩
  obtain ⟨hc, hi⟩ := aEw_0 h
  have hi' := curI_iff.1 hi
  refine ⟨hc, hi'.1, hi'.2, ?_, h.symm⟩
  rw [aV_yes hc]; unfold wiV; rw [if_pos hi]
theorem stA_z {c : Cel} {s : Sta} {i a : Int} (h : ¬stAE c s i a = 0) : 0 = (stA c s i a).q ∧ 0 = (stA c s i a).rx ∧ 0 = (stA c s i a).tp ∧ 0 = (stA c s i a).th ∧ 0 = (stA c s i a).ag := by
  unfold stA
  rw [Sta.q_mk, Sta.rx_mk, Sta.tp_mk, Sta.th_mk, Sta.ag_mk]
  by_cases hc : csE c s = 0
  · have h2 : stpE c s i a ≠ 0 := by unfold stAE at h; rwa [aE_yes hc] at h
    simp [aV_yes hc, stpV_no h2]
  · simp [aV_no hc]
theorem stAE_1 {c : Cel} {s : Sta} {i a : Int} (h : ¬aE c s (wiE i) = 0) : aE c s (wiE i) = stAE c s i a := by
  unfold stAE
  by_cases hc : csE c s = 0
  · rw [aE_yes hc] at h ⊢
    rw [aE_yes hc]
    unfold wiE at h ⊢
    unfold stpE
    split at h
    · exact absurd rfl h
    · rename_i hi
      rw [if_neg hi, if_neg]
      rw [inB_iff]
      rw [curI_iff] at hi
      omega
  · rw [aE_no hc, aE_no hc]
theorem stAE_2 {c : Cel} {s : Sta} {i a : Int} (hc : csE c s = 0) (h : a < 0 ∨ 400000 < a) : 3 = stAE c s i a := by
  unfold stAE
  rw [aE_yes hc]
  unfold stpE
  rw [if_neg]
  rw [inB_iff]
  omega
set_option maxRecDepth 100000 in
set_option maxHeartbeats 4000000 in
theorem rstp_ok : FnSpec Try.prog 31 _ stpT := by
  refine FnSpec.of SEv1_ok mixed (U := 0) (I := fun _ => []) Try.func31 rfl (by kernel_rfl) rfl rfl (by decide +kernel) ?_
  rintro ⟨c, s, ⟨(i : Int), (a : Int), ⟨⟩⟩, ⟨⟩⟩ hpre
  obtain ⟨c, rfl⟩ := cel_ex c
  obtain ⟨s, rfl⟩ := sta_ex s
  have hpre : CelMax c := by have : CelMax (celOf (celD c)) := hpre; rwa [celOf_D] at this
  unfold FnSat
  conv => arg 2; reduce
  simp [stpT, rcurS, rnextS, betS, and_assoc]
  have fin : ∀ e : Int, e ≠ 0 → e = stAE c s i a → 0 = (stA c s i a).q ∧ 0 = (stA c s i a).rx ∧ 0 = (stA c s i a).tp ∧ 0 = (stA c s i a).th ∧ 0 = (stA c s i a).ag ∧ e = stAE c s i a := fun e h1 h2 => by
    obtain ⟨z1, z2, z3, z4, z5⟩ := stA_z (show ¬stAE c s i a = 0 by omega)
    exact ⟨z1, z2, z3, z4, z5, h2⟩
  refine ⟨hpre, fun h => ⟨hpre, fin _ h (stAE_1 h)⟩, fun h => ?_⟩
  obtain ⟨hc, hi⟩ := aEw_0 h
  have hi' := curI_iff.1 hi
  refine ⟨fun h' => fin 3 (by decide) (stAE_2 hc h'), fun a0 a1 => ⟨hc, hi'.1, hi'.2, a0, a1, fun h' => fin 4 (by decide) ?_, fun h1 h2 => ?_⟩⟩
  · unfold stAE
    rw [aE_yes hc]
    unfold stpE ovr
    rw [if_pos (inB_iff.2 ⟨hi', a0, a1⟩), if_pos (by simpa using h')]
  · have e0 : stAE c s i a = 0 := (stA_iff hc).1.2 ⟨inB_iff.2 ⟨hi', a0, a1⟩, by unfold ovr; simp; omega⟩
    rw [stA_0 hc e0, Sta.q_mk, Sta.rx_mk, Sta.tp_mk, Sta.th_mk, Sta.ag_mk, e0]
    simp
set_option maxRecDepth 100000 in
set_option maxHeartbeats 2000000 in
theorem rcpt_ok : FnSpec Try.prog 30 _ capS := by
  refine FnSpec.of SEv1_ok mixed (U := 0) (I := fun _ => []) Try.func30 rfl (by kernel_rfl) rfl rfl (by decide +kernel) ?_
  rintro ⟨c, s, ⟨⟩⟩ hpre
  obtain ⟨c, rfl⟩ := cel_ex c
  obtain ⟨s, rfl⟩ := sta_ex s
  have hpre : CelMax c := by have : CelMax (celOf (celD c)) := hpre; rwa [celOf_D] at this
  unfold FnSat
  conv => arg 2; reduce
  simp [capS, cstS, rcapS, and_assoc]
  refine ⟨hpre, fun h => ⟨hpre, (aV_no h).symm, (aE_no h).symm⟩, fun h => ?_⟩
  obtain ⟨hc, hs⟩ := csE_iff.1 h
  have hk := celB_iff.1 hc
  have := hk.cap0
  have := hk.cap1
  have := hs.h0
  have := hs.h1
  have := hs.a0
  have := hs.a1
  rw [aV_yes h, aE_yes h]
  refine ⟨⟨hk.cy0, hk.cy1, hk.al0, hk.al1, by omega, by omega, by omega, by omega⟩, by omega, by omega, ?_, rfl⟩
  unfold kV wV; rfl
noncomputable def SEv : Sums := ⟨(30, mkSum _ capS) :: (31, mkSum _ stpT) :: (28, mkSum _ volS) :: SEv1.one, SEv1.two, SEv1.lo, SEv1.eqs, SEv1.its, SEv1.imm⟩
theorem SEv_ok : SumsOK Try.prog SEv := (((SEv1_ok.cons Try.func28 (by kernel_rfl) (by kernel_rfl) rvol_ok).cons Try.func31 (by kernel_rfl) (by kernel_rfl) rstp_ok).cons Try.func30 (by kernel_rfl) (by kernel_rfl) rcpt_ok)
end
end Abs
end Go.Proofs.Ytonhcmkddonmcaa

/- Sensors: plain numbers. -/
namespace Go.Proofs.Ytonhcmkddonmcaa
namespace Abs
open Go
@[irreducible] def sensOK (a b c d : Int) : Bool := isIn 0 a 1073741824 && isIn 1 b 1073741824 && isIn (-1073741824) c 1073741824 && isIn c d 1073741824
@[irreducible] def errB (b : Bool) : Int := if b then 0 else 2
@[reducible] def senSh : Sh := .agg [.int .i64, .int .i64, .int .i64, .int .i64]
def check : Spec [senSh] := ⟨fun _ => True, fun ((a, b, c, d, _), _) => .si .i64 (errB (sensOK a b c d))⟩
@[irreducible] def stepV (b y : Int) : Int := b * ((y + b / 2) / b)
@[irreducible] def showV (a b c d x n : Int) : Int := if sensOK a b c d && isQ x && isIn (-a) n a then intoV (stepV b (x + n)) c d else 0
@[irreducible] def showE (a b c d x n : Int) : Int := if sensOK a b c d && isQ x then (if isIn (-a) n a then 0 else 3) else 2
theorem stepV_lo (b y : Int) (hb : 1 ≤ b) : y + b / 2 - b < stepV b y := by
  unfold stepV
  have h1 := Int.mul_ediv_add_emod (y + b / 2) b
  have h2 := Int.emod_lt_of_pos (y + b / 2) (show 0 < b by omega)
  omega
theorem stepV_hi (b y : Int) (hb : 1 ≤ b) : stepV b y ≤ y + b / 2 := by
  unfold stepV
  have h1 := Int.mul_ediv_add_emod (y + b / 2) b
  have h2 := Int.emod_nonneg (y + b / 2) (show b ≠ 0 by omega)
  omega
def show_ : Spec [senSh, .int .i64, .int .i64] := ⟨fun _ => True, fun ((a, b, c, d, _), x, n, _) => .tup [.si .i64 (showV a b c d x n), .si .i64 (showE a b c d x n)]⟩
theorem showE_2 {a b c d x n : Int} (h : (sensOK a b c d && isQ x) = false) : showV a b c d x n = 0 ∧ showE a b c d x n = 2 := by
  unfold showV showE; rw [h]; simp
theorem showE_3 {a b c d x n : Int} (h : (sensOK a b c d && isQ x) = true) (h' : isIn (-a) n a = false) : showV a b c d x n = 0 ∧ showE a b c d x n = 3 := by
  unfold showV showE; rw [h, h']; simp
theorem showE_0 {a b c d x n : Int} (h : (sensOK a b c d && isQ x) = true) (h' : isIn (-a) n a = true) : showV a b c d x n = intoV (stepV b (x + n)) c d ∧ showE a b c d x n = 0 := by
  unfold showV showE; rw [h, h']; simp

-- what is behind a reading
@[irreducible] def readOK (b c d r : Int) : Bool := isIn c r d && (decide (r = c) || decide (r = d) || decide (r % b = 0))
@[irreducible] def behE (a b c d r : Int) : Int := if sensOK a b c d then (if readOK b c d r then 0 else 5) else 2
@[irreducible] def behLo (a b c d r : Int) : Int := if sensOK a b c d && readOK b c d r then (if c < r then b * -(-r / b) - b / 2 - a else -1099511627776) else 0
@[irreducible] def behHi (a b c d r : Int) : Int := if sensOK a b c d && readOK b c d r then (if r < d then b * (r / b) + b - 1 - b / 2 + a else 1099511627776) else 0
def behind : Spec [senSh, .int .i64] := ⟨fun _ => True, fun ((a, b, c, d, _), r, _) => .tup [.agg [.si .i64 (behLo a b c d r), .si .i64 (behHi a b c d r)], .si .i64 (behE a b c d r)]⟩
theorem beh_2 {a b c d r : Int} (h : sensOK a b c d = false) : behLo a b c d r = 0 ∧ behHi a b c d r = 0 ∧ behE a b c d r = 2 := by
  unfold behLo behHi behE; rw [h]; simp
theorem beh_5 {a b c d r : Int} (h : sensOK a b c d = true) (h' : readOK b c d r = false) : behLo a b c d r = 0 ∧ behHi a b c d r = 0 ∧ behE a b c d r = 5 := by
  unfold behLo behHi behE; rw [h, h']; simp
theorem beh_0 {a b c d r : Int} (h : sensOK a b c d = true) (h' : readOK b c d r = true) :
    behLo a b c d r = (if c < r then b * -(-r / b) - b / 2 - a else -1099511627776) ∧ behHi a b c d r = (if r < d then b * (r / b) + b - 1 - b / 2 + a else 1099511627776) ∧ behE a b c d r = 0 := by
  unfold behLo behHi behE; rw [h, h']; simp
theorem mul_div_le (r b : Int) (hb : 1 ≤ b) : b * (r / b) ≤ r ∧ r < b * (r / b) + b := by
  have h1 := Int.mul_ediv_add_emod r b
  have h2 := Int.emod_nonneg r (show b ≠ 0 by omega)
  have h3 := Int.emod_lt_of_pos r (show 0 < b by omega)
  omega
theorem mul_cdiv_le (r b : Int) (hb : 1 ≤ b) : r ≤ b * -(-r / b) ∧ b * -(-r / b) < r + b := by
  have := mul_div_le (-r) b hb
  rw [Int.mul_neg]
  omega
theorem le_step (b y r : Int) (hb : 1 ≤ b) : r ≤ stepV b y ↔ b * -(-r / b) ≤ y + b / 2 := by
  unfold stepV
  have h1 : b * -(-r / b) ≤ y + b / 2 ↔ -(-r / b) ≤ (y + b / 2) / b := by rw [Int.le_ediv_iff_mul_le (by omega), Int.mul_comm]
  have h2 : -((y + b / 2) / b) ≤ -r / b ↔ -((y + b / 2) / b) * b ≤ -r := Int.le_ediv_iff_mul_le (by omega)
  rw [Int.neg_mul, Int.mul_comm ((y + b / 2) / b) b] at h2
  omega
theorem lt_step (b y r : Int) (hb : 1 ≤ b) : r < stepV b y ↔ b * (r / b) + b ≤ y + b / 2 := by
  unfold stepV
  have h1 : (r / b + 1) ≤ (y + b / 2) / b ↔ (r / b + 1) * b ≤ y + b / 2 := Int.le_ediv_iff_mul_le (by omega)
  have h2 : r / b < (y + b / 2) / b ↔ r < (y + b / 2) / b * b := Int.ediv_lt_iff_lt_mul (by omega)
  rw [Int.add_mul, Int.one_mul, Int.mul_comm (r / b) b] at h1
  rw [Int.mul_comm ((y + b / 2) / b) b] at h2
  omega
@[irreducible] def thr1 (a b c d r : Int) : Int := if r ≤ c then -1099511627776 else if d < r then 1099511627777 else b * -(-r / b) - b / 2 - a
@[irreducible] def thr2 (a b c d r : Int) : Int := if d ≤ r then 1099511627777 else if r < c then -1099511627776 else b * (r / b) + b - b / 2 + a
theorem sens_of {a b c d : Int} (h : sensOK a b c d = true) : 0 ≤ a ∧ a ≤ 1073741824 ∧ 1 ≤ b ∧ b ≤ 1073741824 ∧ -1073741824 ≤ c ∧ c ≤ d ∧ d ≤ 1073741824 := by
  simp [sensOK] at h; omega
theorem thr1_in {a b c d r : Int} (h : sensOK a b c d = true) : -1099511627776 ≤ thr1 a b c d r ∧ thr1 a b c d r ≤ 1099511627777 := by
  have := sens_of h
  have := mul_cdiv_le r b (by omega)
  unfold thr1; split
  · omega
  · split <;> omega
theorem thr2_in {a b c d r : Int} (h : sensOK a b c d = true) : -1099511627776 ≤ thr2 a b c d r ∧ thr2 a b c d r ≤ 1099511627777 := by
  have := sens_of h
  have := mul_div_le r b (by omega)
  unfold thr2; split
  · omega
  · split <;> omega
theorem thr1_iff {a b c d r x : Int} (h : sensOK a b c d = true) (h1 : -1099511627776 ≤ x) (h2 : x ≤ 1099511627776) : r ≤ intoV (stepV b (x + a)) c d ↔ thr1 a b c d r ≤ x := by
  have := sens_of h
  have := le_step b (x + a) r (by omega)
  unfold thr1 intoV; split
  · omega
  · split <;> omega
theorem thr2_iff {a b c d r x : Int} (h : sensOK a b c d = true) (h1 : -1099511627776 ≤ x) (h2 : x ≤ 1099511627776) : r < intoV (stepV b (x - a)) c d ↔ thr2 a b c d r ≤ x := by
  have := sens_of h
  have := lt_step b (x - a) r (by omega)
  unfold thr2 intoV; split
  · omega
  · split <;> omega
@[irreducible] def showsV (a b c d x r : Int) : Bool := decide (intoV (stepV b (x - a)) c d ≤ r) && decide (r ≤ intoV (stepV b (x + a)) c d) &&
  (decide (r = intoV (stepV b (x - a)) c d) || decide (r = intoV (stepV b (x + a)) c d) || decide (r % b = 0))
def shows : Spec [senSh, .int .i64, .int .i64] := ⟨fun ((a, b, c, d, _), (x : Int), _) => sensOK a b c d = true ∧ -1099511627776 ≤ x ∧ x ≤ 1099511627777, fun ((a, b, c, d, _), x, r, _) => .sb (showsV a b c d x r)⟩
theorem stepV_mod (b y : Int) : stepV b y % b = 0 := by unfold stepV; exact Int.mul_emod_right _ _
theorem ref_beh {a b c d r : Int} (h : sensOK a b c d = true) : (thr1 a b c d r < thr2 a b c d r ∧ showsV a b c d (thr1 a b c d r) r = true) ↔ readOK b c d r = true := by
  have h0 := sens_of h
  have hm1 := mul_div_le r b (by omega)
  have hm2 := mul_cdiv_le r b (by omega)
  have h1 := thr1_in h (r := r)
  have h2 := thr2_in h (r := r)
  constructor
  · rintro ⟨h3, h4⟩
    simp [showsV] at h4
    have hr : c ≤ r ∧ r ≤ d := by
      have h5 := h4.1.1; have h6 := h4.1.2
      unfold intoV at h5 h6; omega
    unfold readOK
    simp
    refine ⟨hr, ?_⟩
    by_cases hc : r = c
    · exact .inl (.inl hc)
    by_cases hd : r = d
    · exact .inl (.inr hd)
    right
    have e := stepV_mod b
    rcases h4.2 with (h6 | h6) | h6
    · unfold intoV at h6
      have : r = stepV b (thr1 a b c d r - a) := by omega
      rw [this]; exact e _
    · unfold intoV at h6
      have : r = stepV b (thr1 a b c d r + a) := by omega
      rw [this]; exact e _
    · exact h6
  · intro h3
    simp [readOK] at h3
    have hz : r % b = 0 → b * (r / b) = r ∧ b * -(-r / b) = r := fun hz => by
      have h1 := Int.mul_ediv_add_emod r b
      obtain ⟨k, hk⟩ := Int.dvd_of_emod_eq_zero hz
      constructor
      · omega
      · rw [hk, ← Int.mul_neg, Int.mul_ediv_cancel_left _ (by omega)]; simp
    have ht : thr1 a b c d r < thr2 a b c d r := by
      unfold thr1 thr2
      split
      · split
        · omega
        · split <;> omega
      · split
        · omega
        · split
          · omega
          · have := hz (by omega); split <;> omega
    refine ⟨ht, ?_⟩
    have h5 : r ≤ intoV (stepV b (thr1 a b c d r + a)) c d := by
      by_cases hq : thr1 a b c d r ≤ 1099511627776
      · exact (thr1_iff h h1.1 hq).2 (Int.le_refl _)
      · omega
    have h6 : intoV (stepV b (thr1 a b c d r - a)) c d ≤ r := by
      by_cases hq : thr1 a b c d r ≤ 1099511627776
      · have := thr2_iff h (r := r) h1.1 hq; omega
      · omega
    have h7 := stepV_hi b (thr1 a b c d r + a) (by omega)
    have h8 := stepV_lo b (thr1 a b c d r + a) (by omega)
    unfold showsV
    simp
    refine ⟨⟨h6, h5⟩, ?_⟩
    by_cases hzz : r % b = 0
    · exact .inr hzz
    · left; right
      have : r = c ∨ r = d := by omega
      have e1 : thr1 a b c d r = if r ≤ c then -1099511627776 else if d < r then 1099511627777 else b * -(-r / b) - b / 2 - a := by unfold thr1; rfl
      unfold intoV at h5 ⊢
      split at e1
      · omega
      · omega
theorem ref_eq {a b c d r : Int} (h : sensOK a b c d = true) (h' : readOK b c d r = true) : behLo a b c d r = thr1 a b c d r ∧ behHi a b c d r = thr2 a b c d r - 1 := by
  obtain ⟨h1, h2, _⟩ := beh_0 h h'
  simp [readOK] at h'
  rw [h1, h2]
  unfold thr1 thr2
  constructor
  · split
    · rw [if_neg (by omega), if_neg (by omega)]
    · rw [if_pos (by omega)]
  · split
    · rw [if_neg (by omega), if_neg (by omega)]; omega
    · rw [if_pos (by omega)]; omega
end Abs
end Go.Proofs.Ytonhcmkddonmcaa

/- The sensors of a cell: what they show, by the program and by the document. -/
namespace Go.Proofs.Ytonhcmkddonmcaa
namespace Abs
open Go Go.RowKit
noncomputable section
attribute [local irreducible] FnSat
set_option maxRecDepth 100000 in
theorem ewi_ok : FnSpec Try.prog 17 _ betS := by
  refine FnSpec.of SEv_ok mixed (U := 0) (I := fun _ => []) Try.func17 rfl (by kernel_rfl) rfl rfl (by decide +kernel) ?_
  rintro ⟨(x : Int), (lo : Int), (hi : Int), ⟨⟩⟩ -
  unfold FnSat
  conv => arg 2; reduce
  simp [betS, isIn]
set_option maxRecDepth 100000 in
theorem efl_ok : FnSpec Try.prog 33 _ divS := by
  refine FnSpec.of SEv_ok mixed (U := 0) (I := fun _ => []) Try.func33 rfl (by kernel_rfl) rfl rfl (by decide +kernel) ?_
  rintro ⟨(n : Int), (d : Int), ⟨⟩⟩ ⟨(h1 : -4611686018427387904 ≤ n), (h2 : n ≤ 4611686018427387904), (h3 : 1 ≤ d)⟩
  unfold FnSat
  conv => arg 2; reduce
  simp [divS, and_assoc]
  exact dvI_by h1 h2 h3
set_option maxRecDepth 100000 in
theorem rin3_ok : FnSpec Try.prog 21 _ betS := by
  refine FnSpec.of SEv_ok mixed (U := 0) (I := fun _ => []) Try.func21 rfl (by kernel_rfl) rfl rfl (by decide +kernel) ?_
  rintro ⟨(x : Int), (lo : Int), (hi : Int), ⟨⟩⟩ -
  unfold FnSat
  conv => arg 2; reduce
  simp [betS, isIn]
noncomputable def SEs1 : Sums := ⟨(21, mkSum _ betS) :: (33, mkSum _ divS) :: (17, mkSum _ betS) :: SEv.one, SEv.two, SEv.lo, SEv.eqs, SEv.its, SEv.imm⟩
theorem SEs1_ok : SumsOK Try.prog SEs1 := (((SEv_ok.cons Try.func17 (by kernel_rfl) (by kernel_rfl) ewi_ok).cons Try.func33 (by kernel_rfl) (by kernel_rfl) efl_ok).cons Try.func21 (by kernel_rfl) (by kernel_rfl) rin3_ok)
set_option maxRecDepth 100000 in
theorem ecs_ok : FnSpec Try.prog 32 _ check := by
  refine FnSpec.of SEs1_ok mixed (U := 0) (I := fun _ => []) Try.func32 rfl (by kernel_rfl) rfl rfl (by decide +kernel) ?_
  rintro ⟨⟨(a : Int), (b : Int), (c : Int), (d : Int), ⟨⟩⟩, ⟨⟩⟩ -
  unfold FnSat
  conv => arg 2; reduce
  simp [check, betS, errB, sensOK]
  omega
def steps : Spec [senSh, .int .i64] := ⟨fun ((_, (b : Int), _, _, _), (y : Int), _) => 1 ≤ b ∧ b ≤ 1073741824 ∧ -4398046511104 ≤ y ∧ y ≤ 4398046511104, fun ((_, (b : Int), _, _, _), (y : Int), _) => .si .i64 (stepV b y)⟩
noncomputable def SEs2 : Sums := ⟨(32, mkSum _ check) :: SEs1.one, SEs1.two, SEs1.lo, SEs1.eqs, SEs1.its, SEs1.imm⟩
theorem SEs2_ok : SumsOK Try.prog SEs2 := (SEs1_ok.cons Try.func32 (by kernel_rfl) (by kernel_rfl) ecs_ok)
theorem clip_into (x lo hi : Int) : clipV x lo hi = intoV x lo hi := by unfold clipV intoV; omega
set_option maxRecDepth 100000 in
theorem esh_ok : FnSpec Try.prog 13 _ show_ := by
  refine FnSpec.of SEs2_ok mixed (U := 0) (I := fun _ => []) Try.func13 rfl (by kernel_rfl) rfl rfl (by decide +kernel) ?_
  rintro ⟨⟨(a : Int), (b : Int), (c : Int), (d : Int), ⟨⟩⟩, (x : Int), (n : Int), ⟨⟩⟩ -
  unfold FnSat
  conv => arg 2; reduce
  simp [show_, check, betS, divS, errB]
  refine ⟨fun h => ?_, fun h1 x0 x1 => ?_⟩
  · have h0 := showE_2 (a := a) (b := b) (c := c) (d := d) (x := x) (n := n) (by
      cases h1 : sensOK a b c d <;> cases h2 : isQ x <;> simp_all [isQ] <;> omega)
    rw [h0.1, h0.2]; simp
  have h3 := sens_of h1
  have h0 : (sensOK a b c d && isQ x) = true := by rw [h1]; simp [isQ]; omega
  have ht := tdiv2 b (by omega)
  have e1 : stepV b (x + n) = b * dvI (x + n + b / 2) b := by unfold stepV dvI; rfl
  have l1 := stepV_lo b (x + n) (by omega)
  have l2 := stepV_hi b (x + n) (by omega)
  refine ⟨by omega, fun h => ?_, fun n0 n1 => ?_⟩
  · have := showE_3 h0 (n := n) (by
      cases hh : isIn (-a) n a with
      | false => rfl
      | true => exfalso; simp at hh; omega)
    rw [this.1, this.2]; simp
  · have := showE_0 h0 (n := n) (by simp; omega)
    rw [ht, ← e1, this.1, this.2]
    refine ⟨by omega, by omega, by omega, by omega, by omega, ?_, rfl⟩
    unfold intoV; omega
noncomputable def SEs3 : Sums := ⟨(13, mkSum _ show_) :: SEs2.one, SEs2.two, SEs2.lo, SEs2.eqs, SEs2.its, SEs2.imm⟩
theorem SEs3_ok : SumsOK Try.prog SEs3 := (SEs2_ok.cons Try.func13 (by kernel_rfl) (by kernel_rfl) esh_ok)
end
end Abs
end Go.Proofs.Ytonhcmkddonmcaa

/- The document's product by a fraction. -/
namespace Go.Proofs.Ytonhcmkddonmcaa
namespace Abs
open Go Go.RowKit
noncomputable section
attribute [local irreducible] FnSat
def absS : Spec [.int .i64] := ⟨fun (x, _) => -4398046511104 ≤ x ∧ x ≤ 4398046511104, fun (x, _) => .si .i64 (absI x)⟩
set_option maxRecDepth 100000 in
theorem abs_ok : FnSpec Try.prog 70 _ absS := by
  refine FnSpec.of SEs3_ok mixed (U := 0) (I := fun _ => []) Try.func70 rfl (by kernel_rfl) rfl rfl (by decide +kernel) ?_
  rintro ⟨(x : Int), ⟨⟩⟩ ⟨(h1 : -4398046511104 ≤ x), (h2 : x ≤ 4398046511104)⟩
  unfold FnSat
  conv => arg 2; reduce
  simp [absS]
  repeat' (first | refine And.intro ?_ ?_ | intro _)
  all_goals first | omega | (rw [absI_neg (by omega)]; done) | (rw [absI_pos (by omega)]; done)
@[irreducible] def qP (x n d : Int) (k : Nat) : Int := topP x n k / d
@[irreducible] def rP (x n d : Int) (k : Nat) : Int := topP x n k % d
def whS : Spec [.int .i64, .int .i64, .int .i64] := ⟨fun (x, n, d, _) => 0 ≤ x ∧ x ≤ 4398046511104 ∧ 0 ≤ n ∧ n ≤ 4398046511104 ∧ 1 ≤ d ∧ d ≤ 4398046511104, fun (x, n, d, _) => .tup [.si .i64 (whQ x n d), .si .i64 (whR x n d)]⟩
noncomputable def whI : DatL [.int .i64, .int .i64, .int .i64] → Anns := fun ((x : Int), (n : Int), (d : Int), _) => [
  (4, [], fun fr hp => ⟨Nat, fun k => ⟨frI [.k 8, .s (.si .i64 (qP x n d k)), .s (.si .i64 (rP x n d k)), .s (.si .i64 (isub (icast k) 1)), .t 36] fr, hp⟩, Nat × Int × Int × Int, fun k => (k, x, n, d), fun (k, x, n, d) => k ≤ 44 ∧ qP x n d k ≤ 288230376151711744, fun k => k⟩),
  (11, [], fun fr hp => ⟨Int × Int, fun (q, r) => ⟨frI [.k 8, .s (.si .i64 q), .s (.si .i64 r), .k 25, .t 8, .k 4] fr, hp⟩, Int × Int × Int × Int × Int × Int, fun (q, r) => (q, r, x, n, d, intOf (getL fr 10)), fun (q, r, x, n, d, i) => q * d + r = topP x n i ∧ 0 ≤ r ∧ 0 ≤ q ∧ q + r ≤ 1152921504606846976, fun (_, r) => nat r⟩)]
set_option maxRecDepth 100000 in
theorem wh_ok : FnSpec Try.prog 69 _ whS := by
  refine FnSpec.of SEs3_ok mixed (U := 0) (I := whI) Try.func69 rfl (by kernel_rfl) rfl rfl (by decide +kernel) ?_
  rintro ⟨(x : Int), (n : Int), (d : Int), ⟨⟩⟩ ⟨(h1 : 0 ≤ x), (h2 : x ≤ 4398046511104), (h3 : 0 ≤ n), (h4 : n ≤ 4398046511104), (h5 : 1 ≤ d), (h6 : d ≤ 4398046511104)⟩
  unfold FnSat
  conv => arg 2; reduce
  simp [whS, and_assoc]
  have hd0 : d ≠ 0 := by omega
  have hx1 := Int.emod_add_mul_ediv x d
  have hx2 := Int.emod_nonneg x hd0
  have hx3 := Int.emod_lt_of_pos x (show 0 < d by omega)
  have hx4 : 0 ≤ x / d := Int.ediv_nonneg h1 (by omega)
  have hx5 : x / d ≤ x := Int.ediv_le_self _ h1
  rw [Int.tdiv_eq_ediv_of_nonneg h1, Int.tmod_eq_emod_of_nonneg h1]
  rw [Int.mul_comm] at hx1
  generalize x / d = q1 at *
  generalize x % d = r1 at *
  refine ⟨⟨44, ?_, ?_, by omega, by omega, ?_⟩, fun g hg hq => ⟨fun hge => ?_, fun hlt => ?_⟩⟩
  · unfold qP; rw [show ((44 : Nat) : Int) = 44 from rfl, topP_top h3 (by omega)]; simp
  · unfold rP; rw [show ((44 : Nat) : Int) = 44 from rfl, topP_top h3 (by omega)]; simp
  · unfold qP; rw [show ((44 : Nat) : Int) = 44 from rfl, topP_top h3 (by omega)]; simp
  · obtain ⟨i, rfl⟩ : ∃ i, g = i + 1 := ⟨g - 1, by omega⟩
    have ei : ((i + 1 : Nat) : Int) - 1 = (i : Int) := by omega
    rw [ei]
    have hw : IntKind.u64.wrap (i : Int) = (i : Int) := wrap_u64 (by omega) (by omega)
    have hbit : (ishr n (IntKind.u64.wrap (i : Int))).tmod 2 = bitP n i := by
      rw [hw]
      unfold ishr bitP
      rw [Int.fdiv_eq_ediv_of_nonneg _ (Int.pow_nonneg (by decide)), Int.tmod_eq_emod_of_nonneg (Int.ediv_nonneg h3 (Int.pow_nonneg (by decide)))]
    rw [hbit, hw]
    have hT := topP_step (x := x) (n := n) (i := (i : Int)) (by omega)
    have e1 : (i : Int) + 1 = ((i + 1 : Nat) : Int) := by omega
    rw [e1] at hT
    have hn0 := topP_nonneg (i := ((i + 1 : Nat) : Int)) h1 h3
    have hq1 := Int.emod_add_mul_ediv (topP x n ((i + 1 : Nat) : Int)) d
    have hq2 := Int.emod_nonneg (topP x n ((i + 1 : Nat) : Int)) hd0
    have hq3 := Int.emod_lt_of_pos (topP x n ((i + 1 : Nat) : Int)) (show 0 < d by omega)
    have hq4 : 0 ≤ topP x n ((i + 1 : Nat) : Int) / d := Int.ediv_nonneg hn0 (by omega)
    rw [Int.mul_comm] at hq1
    have u1 : topP x n ((i + 1 : Nat) : Int) / d = qP x n d (i + 1) := by unfold qP; rfl
    have u2 : topP x n ((i + 1 : Nat) : Int) % d = rP x n d (i + 1) := by unfold rP; rfl
    rw [u1, u2] at hq1
    rw [u2] at hq2 hq3
    rw [u1] at hq4
    clear u1 u2
    generalize qP x n d (i + 1) = q at *
    generalize rP x n d (i + 1) = r at *
    have tail : ∀ a b : Int, a * d + b = topP x n i → 0 ≤ b → 0 ≤ a → a + b ≤ 1152921504606846976 →
        (d ≤ b → -9223372036854775808 ≤ b - d ∧ b - d ≤ 9223372036854775807 ∧ -9223372036854775808 ≤ a + 1 ∧ a + 1 ≤ 9223372036854775807 ∧ (a + 1) * d + (b - d) = topP x n i ∧ d ≤ b ∧ 0 ≤ a + 1 ∧ a + 1 + (b - d) ≤ 1152921504606846976 ∧ max (b - d) 0 < b) ∧
        (b < d → (288230376151711744 < a → 1152921504606846976 = whQ x n d ∧ 0 = whR x n d) ∧
          (a ≤ 288230376151711744 → -9223372036854775808 ≤ (i : Int) - 1 ∧ (i : Int) - 1 ≤ 9223372036854775807 ∧ ∃ g_1 : Nat, a = qP x n d g_1 ∧ b = rP x n d g_1 ∧ (i : Int) = g_1 ∧ g_1 ≤ 44 ∧ qP x n d g_1 ≤ 288230376151711744 ∧ g_1 < i + 1)) := by
      intro a b e b0 a0 ab
      refine ⟨fun hdb => ⟨by omega, by omega, by omega, by omega, by rw [Int.add_mul]; omega, hdb, by omega, by omega, by omega⟩, fun hbd => ?_⟩
      obtain ⟨u1, u2⟩ := wh_uniq e b0 hbd
      refine ⟨fun hfar => ?_, fun hnear => ⟨by omega, by omega, i, ?_, ?_, rfl, by omega, ?_, by omega⟩⟩
      · obtain ⟨v1, v2⟩ := wh_far (k := i) h1 h3 (show 0 < d by omega) (by rw [← u1]; exact hfar)
        rw [v1, v2]; exact ⟨rfl, rfl⟩
      · unfold qP; exact u1
      · unfold rP; exact u2
      · unfold qP; rw [← u1]; exact hnear
    refine ⟨by omega, by omega, by omega, by omega, by omega, by simp [IntKind.bits]; omega, fun hb => ⟨hd0, by omega, by omega, by omega, by omega, hd0, by omega, by omega, ?_, by omega, by omega, by omega, tail⟩, fun hb => ⟨?_, by omega, by omega, by omega, tail⟩⟩
    · rw [hT, hb, Int.add_mul, Int.mul_assoc]; omega
    · have hb0 : bitP n i = 0 := by rcases bitP_or n i with h | h; exact h; exact absurd h hb
      rw [hT, hb0, Int.mul_assoc]; omega
  · obtain rfl : g = 0 := by omega
    have hq1 := Int.emod_add_mul_ediv (topP x n ((0 : Nat) : Int)) d
    have hq2 := Int.emod_nonneg (topP x n ((0 : Nat) : Int)) hd0
    have hq3 := Int.emod_lt_of_pos (topP x n ((0 : Nat) : Int)) (show 0 < d by omega)
    rw [Int.mul_comm] at hq1
    unfold qP at hq ⊢
    unfold rP
    have := wh_near (x := x) (n := n) (d := d) (q := topP x n ((0 : Nat) : Int) / d) (r := topP x n ((0 : Nat) : Int) % d) (by rw [Int.add_comm]; exact hq1) hq2 hq3 hq
    exact ⟨this.1.symm, this.2.symm⟩
noncomputable def SDn0 : Sums := ⟨(69, mkSum _ whS) :: (70, mkSum _ absS) :: SEs3.one, SEs3.two, SEs3.lo, SEs3.eqs, SEs3.its, SEs3.imm⟩
theorem SDn0_ok : SumsOK Try.prog SDn0 := ((SEs3_ok.cons Try.func70 (by kernel_rfl) (by kernel_rfl) abs_ok).cons Try.func69 (by kernel_rfl) (by kernel_rfl) wh_ok)
def rdnS : Spec [.int .i64, .int .i64, .int .i64] := ⟨fun ((x : Int), (n : Int), (d : Int), _) => -4398046511104 ≤ x ∧ x ≤ 4398046511104 ∧ -4398046511104 ≤ n ∧ n ≤ 4398046511104 ∧ 1 ≤ absI d ∧ -4398046511104 ≤ d ∧ d ≤ 4398046511104, fun ((x : Int), (n : Int), (d : Int), _) => .si .i64 (dnV x n d)⟩
set_option maxRecDepth 100000 in
theorem rdn_ok : FnSpec Try.prog 52 _ rdnS := by
  refine FnSpec.of SDn0_ok mixed (U := 0) (I := fun _ => []) Try.func52 rfl (by kernel_rfl) rfl rfl (by decide +kernel) ?_
  rintro ⟨(x : Int), (n : Int), (d : Int), ⟨⟩⟩ ⟨(h1 : -4398046511104 ≤ x), (h2 : x ≤ 4398046511104), (h3 : -4398046511104 ≤ n), (h4 : n ≤ 4398046511104), (h5 : 1 ≤ absI d), (h6 : -4398046511104 ≤ d), (h7 : d ≤ 4398046511104)⟩
  unfold FnSat
  conv => arg 2; reduce
  have a1 := absI_b (x := x) (m := 4398046511104) (by omega) (by omega)
  have a2 := absI_b (x := n) (m := 4398046511104) (by omega) (by omega)
  have a3 := absI_b (x := d) (m := 4398046511104) (by omega) (by omega)
  have hb := whQ_b (x := absI x) (n := absI n) (d := absI d) a1.1 a2.1 (by omega)
  simp [rdnS, absS, whS, and_assoc]
  have e1 : (decide (x < 0) == decide (n < 0)) = (!decide (d < 0)) → ((decide (x < 0) != decide (n < 0)) != decide (d < 0)) = false := by
    cases decide (x < 0) <;> cases decide (n < 0) <;> cases decide (d < 0) <;> simp
  have e2 : (decide (x < 0) == decide (n < 0)) = decide (d < 0) → ((decide (x < 0) != decide (n < 0)) != decide (d < 0)) = true := by
    cases decide (x < 0) <;> cases decide (n < 0) <;> cases decide (d < 0) <;> simp
  unfold dnV
  refine ⟨h1, h2, h3, h4, h6, h7, a1.1, a1.2, a2.1, a2.2, h5, a3.2, fun h => ?_, fun h => ⟨fun hr => ⟨by omega, by omega, by omega, by omega, ?_⟩, fun hr => ⟨by omega, by omega, ?_⟩⟩⟩
  · rw [e1 h]; simp
  · rw [e2 h, if_pos rfl, if_pos hr]
  · rw [e2 h, if_pos rfl, if_neg (by omega)]
noncomputable def SDn : Sums := ⟨(52, mkSum _ rdnS) :: SDn0.one, SDn0.two, SDn0.lo, SDn0.eqs, SDn0.its, SDn0.imm⟩
theorem SDn_ok : SumsOK Try.prog SDn := (SDn0_ok.cons Try.func52 (by kernel_rfl) (by kernel_rfl) rdn_ok)
end
end Abs
end Go.Proofs.Ytonhcmkddonmcaa

/- Filters, plain: corrections. -/
namespace Go.Proofs.Ytonhcmkddonmcaa
namespace Abs
open Go
@[irreducible] def prtV (d g : Int) : Int := clipV (dnV d g 65536) (-1125899906842624) 1125899906842624
@[irreducible] def corV (x d g lo hi : Int) : Int := clipV (x + prtV d g) lo hi
theorem dn_eq {d g : Int} (d0 : -4294967296 ≤ d) (d1 : d ≤ 4294967296) (g0 : 0 ≤ g) (g1 : g ≤ 1099511627776) : dnV d g 65536 = d * g / 65536 := by
  refine dnV_pos g0 (by decide) ?_
  have ha := absI_b (x := d) (m := 4294967296) d0 d1
  have h1 : absI d * g ≤ 4294967296 * 1099511627776 := Int.mul_le_mul ha.2 g1 g0 (by omega)
  have h2 : absI d * g / 65536 ≤ 4294967296 * 1099511627776 / 65536 := Int.ediv_le_ediv (by decide) h1
  have h3 : (4294967296 * 1099511627776 / 65536 : Int) = 72057594037927936 := by decide
  omega
/-- the two parts of a product -/
theorem cor_parts {D g : Int} (D0 : 0 ≤ D) (g0 : 0 ≤ g) :
    D * g / 65536 = D / 65536 * g + (D % 65536 * (g / 65536) + D % 65536 * (g % 65536) / 65536) ∧
    (-D) * g / 65536 = -(D / 65536 * g) + (-(D % 65536 * (g / 65536)) + -(D % 65536 * (g % 65536)) / 65536) := by
  have e1 : D = 65536 * (D / 65536) + D % 65536 := by omega
  have e2 : g = 65536 * (g / 65536) + g % 65536 := by omega
  have e3 : D * g = (D / 65536 * g + D % 65536 * (g / 65536)) * 65536 + D % 65536 * (g % 65536) := by
    have e4 : D * g = 65536 * (D / 65536) * g + D % 65536 * g := by rw [← Int.add_mul, ← e1]
    have e5 : D % 65536 * g = D % 65536 * (65536 * (g / 65536)) + D % 65536 * (g % 65536) := by rw [← Int.mul_add, ← e2]
    rw [e4, e5, Int.add_mul, Int.mul_assoc 65536, Int.mul_left_comm (D % 65536) 65536, Int.mul_comm 65536, Int.mul_comm 65536]
    omega
  constructor
  · rw [e3, Int.add_comm, Int.add_mul_ediv_right _ _ (by decide)]
    omega
  · rw [Int.neg_mul, e3, Int.neg_add, ← Int.neg_mul, Int.add_comm, Int.add_mul_ediv_right _ _ (by decide)]
    omega
theorem cor_big {D g : Int} (D1 : D ≤ 4294967296) (g0 : 0 ≤ g) (g1 : g ≤ 1099511627776) (h : 1125899906842624 / (g + 1) < D / 65536) : 562949953421312 ≤ 1125899906842624 / (g + 1) * g := by
  have h1 := Int.mul_ediv_add_emod 1125899906842624 (g + 1)
  have h2 := Int.emod_lt_of_pos 1125899906842624 (show 0 < g + 1 by omega)
  have h3 : (g + 1) * (1125899906842624 / (g + 1)) = 1125899906842624 / (g + 1) * g + 1125899906842624 / (g + 1) := by rw [Int.mul_comm, Int.mul_add, Int.mul_one]
  omega
theorem cor_small {D g : Int} (D0 : 0 ≤ D) (g0 : 0 ≤ g) (h : D / 65536 ≤ 1125899906842624 / (g + 1)) : 0 ≤ D / 65536 * g ∧ D / 65536 * g ≤ 1125899906842624 := by
  have h1 := Int.mul_ediv_add_emod 1125899906842624 (g + 1)
  have h2 := Int.emod_nonneg 1125899906842624 (show g + 1 ≠ 0 by omega)
  have h3 : (g + 1) * (1125899906842624 / (g + 1)) = 1125899906842624 / (g + 1) * g + 1125899906842624 / (g + 1) := by rw [Int.mul_comm, Int.mul_add, Int.mul_one]
  have h4 : D / 65536 * g ≤ 1125899906842624 / (g + 1) * g := Int.mul_le_mul_of_nonneg_right h g0
  have h5 : 0 ≤ D / 65536 * g := Int.mul_nonneg (Int.ediv_nonneg D0 (by decide)) g0
  have h6 : 0 ≤ 1125899906842624 / (g + 1) := Int.ediv_nonneg (by decide) (by omega)
  omega
theorem rest_in {D g : Int} (g0 : 0 ≤ g) (g1 : g ≤ 1099511627776) : 0 ≤ D % 65536 * (g / 65536) ∧ D % 65536 * (g / 65536) ≤ 1099511627776 ∧ 0 ≤ D % 65536 * (g % 65536) ∧ D % 65536 * (g % 65536) ≤ 4294967296 := by
  have a0 : 0 ≤ D % 65536 := by omega
  have a1 : D % 65536 ≤ 65535 := by omega
  have h1 : D % 65536 * (g / 65536) ≤ 65535 * 16777216 := Int.mul_le_mul a1 (by omega) (by omega) (by decide)
  have h2 : D % 65536 * (g % 65536) ≤ 65535 * 65535 := Int.mul_le_mul a1 (by omega) (by omega) (by decide)
  have h3 : 0 ≤ D % 65536 * (g / 65536) := Int.mul_nonneg a0 (by omega)
  have h4 : 0 ≤ D % 65536 * (g % 65536) := Int.mul_nonneg a0 (by omega)
  omega
theorem capped {a k g : Int} (g0 : 0 ≤ g) : min a k * g = if k < a then k * g else a * g := by
  split
  · rw [Int.min_eq_right (by omega)]
  · rw [Int.min_eq_left (by omega)]
theorem cor_pos {x D g lo hi : Int} (D0 : 0 ≤ D) (D1 : D ≤ 4294967296) (g0 : 0 ≤ g) (g1 : g ≤ 1099511627776) (x0 : -1099511627776 ≤ x) (x1 : x ≤ 1099511627776) (l0 : -1099511627776 ≤ lo) (lh : lo ≤ hi) (h1 : hi ≤ 1099511627776) :
    min (max (x + min (min 1125899906842624 (min (D / 65536) (1125899906842624 / (g + 1)) * g) + (D % 65536 * (g % 65536) / 65536 + D % 65536 * (g / 65536))) 1125899906842624) lo) hi = corV x D g lo hi := by
  unfold corV prtV clipV
  rw [dn_eq (by omega) (by omega) g0 g1, (cor_parts D0 g0).1, capped g0]
  have hr := @rest_in D g g0 g1
  split
  · rename_i h
    have hb := cor_big D1 g0 g1 h
    have hm : 1125899906842624 / (g + 1) * g ≤ D / 65536 * g := Int.mul_le_mul_of_nonneg_right (by omega) g0
    omega
  · rename_i h
    have hs := cor_small D0 g0 (by omega : D / 65536 ≤ 1125899906842624 / (g + 1))
    omega
theorem cor_neg {x D g lo hi : Int} (D0 : 0 ≤ D) (D1 : D ≤ 4294967296) (g0 : 0 ≤ g) (g1 : g ≤ 1099511627776) (x0 : -1099511627776 ≤ x) (x1 : x ≤ 1099511627776) (l0 : -1099511627776 ≤ lo) (lh : lo ≤ hi) (h1 : hi ≤ 1099511627776) :
    min (max (x - min (min 1125899906842624 (min (D / 65536) (1125899906842624 / (g + 1)) * g) + (-(-(D % 65536 * (g % 65536)) / 65536) + D % 65536 * (g / 65536))) 1125899906842624) lo) hi = corV x (-D) g lo hi := by
  unfold corV prtV clipV
  rw [dn_eq (by omega) (by omega) g0 g1, (cor_parts D0 g0).2, capped g0]
  have hr := @rest_in D g g0 g1
  split
  · rename_i h
    have hb := cor_big D1 g0 g1 h
    have hm : 1125899906842624 / (g + 1) * g ≤ D / 65536 * g := Int.mul_le_mul_of_nonneg_right (by omega) g0
    omega
  · rename_i h
    have hs := cor_small D0 g0 (by omega : D / 65536 ≤ 1125899906842624 / (g + 1))
    omega
theorem prtV_in (d g : Int) : -1125899906842624 ≤ prtV d g ∧ prtV d g ≤ 1125899906842624 := by unfold prtV clipV; omega
theorem corV_in {x d g lo hi : Int} (h : lo ≤ hi) : lo ≤ corV x d g lo hi ∧ corV x d g lo hi ≤ hi := by unfold corV clipV; omega
theorem corV_eq (x d g lo hi : Int) : corV x d g lo hi = clipV (x + prtV d g) lo hi := by unfold corV; rfl
end Abs
end Go.Proofs.Ytonhcmkddonmcaa

/- Filters, by the program and by the document. -/
namespace Go.Proofs.Ytonhcmkddonmcaa
namespace Abs
open Go Go.RowKit
noncomputable section
attribute [local irreducible] FnSat
def corS : Spec [.int .i64, .int .i64, .int .i64, .int .i64, .int .i64] := ⟨fun ((x : Int), (d : Int), (g : Int), (lo : Int), (hi : Int), _) => -4294967296 ≤ d ∧ d ≤ 4294967296 ∧ 0 ≤ g ∧ g ≤ 1099511627776 ∧ -1099511627776 ≤ x ∧ x ≤ 1099511627776 ∧ -1099511627776 ≤ lo ∧ lo ≤ hi ∧ hi ≤ 1099511627776,
  fun ((x : Int), (d : Int), (g : Int), (lo : Int), (hi : Int), _) => .si .i64 (corV x d g lo hi)⟩
set_option maxRecDepth 100000 in
theorem cor_ok : FnSpec Try.prog 25 _ corS := by
  refine FnSpec.of SDn_ok mixed (U := 0) (I := fun _ => []) Try.func25 rfl (by kernel_rfl) rfl rfl (by decide +kernel) ?_
  rintro ⟨(x : Int), (d : Int), (g : Int), (lo : Int), (hi : Int), ⟨⟩⟩ ⟨(d0 : -4294967296 ≤ d), (d1 : d ≤ 4294967296), (g0 : 0 ≤ g), (g1 : g ≤ 1099511627776), (x0 : -1099511627776 ≤ x), (x1 : x ≤ 1099511627776), (l0 : -1099511627776 ≤ lo), (lh : lo ≤ hi), (h1 : hi ≤ 1099511627776)⟩
  unfold FnSat
  conv => arg 2; reduce
  simp [corS, divS, and_assoc]
  have gd : g.tdiv 65536 = g / 65536 := Int.tdiv_eq_ediv_of_nonneg g0
  have gm : g.tmod 65536 = g % 65536 := Int.tmod_eq_emod_of_nonneg g0
  have kd : Int.tdiv 1125899906842624 (g + 1) = 1125899906842624 / (g + 1) := Int.tdiv_eq_ediv_of_nonneg (by decide)
  have k0 : 0 ≤ 1125899906842624 / (g + 1) := Int.ediv_nonneg (by decide) (by omega)
  have k1 : 1125899906842624 / (g + 1) ≤ 1125899906842624 := Int.ediv_le_self _ (by decide)
  have k2 : 0 ≤ 1125899906842624 / (g + 1) * g := Int.mul_nonneg k0 g0
  have k3 : 1125899906842624 / (g + 1) * g ≤ 1125899906842624 := by
    have h1 := Int.mul_ediv_add_emod 1125899906842624 (g + 1)
    have h2 := Int.emod_nonneg 1125899906842624 (show g + 1 ≠ 0 by omega)
    have h3 : (g + 1) * (1125899906842624 / (g + 1)) = 1125899906842624 / (g + 1) * g + 1125899906842624 / (g + 1) := by rw [Int.mul_comm, Int.mul_add, Int.mul_one]
    omega
  have hm : ∀ D : Int, 0 ≤ D → 0 ≤ min (D / 65536) (1125899906842624 / (g + 1)) * g ∧ min (D / 65536) (1125899906842624 / (g + 1)) * g ≤ 1125899906842624 := fun D D0 => by
    rw [capped g0]
    split
    · exact ⟨k2, k3⟩
    · exact cor_small D0 g0 (by omega)
  have dv : ∀ y : Int, dvI y 65536 = y / 65536 := fun y => by unfold dvI; rfl
  rw [gd, gm, kd]
  refine ⟨fun hneg => ?_, fun hpos => ?_⟩
  · obtain ⟨D, rfl⟩ : ∃ D : Int, d = -D := ⟨-d, by omega⟩
    have c := cor_neg (x := x) (D := D) (g := g) (lo := lo) (hi := hi) (by omega) (by omega) g0 g1 x0 x1 l0 lh h1
    have hr := @rest_in D g g0 g1
    have hM := hm D (by omega)
    rw [Int.neg_tdiv, Int.neg_tmod, Int.tdiv_eq_ediv_of_nonneg (by omega), Int.tmod_eq_emod_of_nonneg (by omega)]
    simp only [Int.neg_neg, Int.neg_mul, dv]
    generalize D % 65536 * (g % 65536) = A at *
    generalize D % 65536 * (g / 65536) = B at *
    generalize min (D / 65536) (1125899906842624 / (g + 1)) * g = M at *
    generalize 1125899906842624 / (g + 1) = K at *
    repeat' (first | refine And.intro ?_ ?_ | intro _)
    all_goals first | omega | exact c
  · have c := cor_pos (x := x) (D := d) (g := g) (lo := lo) (hi := hi) (by omega) (by omega) g0 g1 x0 x1 l0 lh h1
    have hr := @rest_in d g g0 g1
    have hM := hm d (by omega)
    rw [Int.tdiv_eq_ediv_of_nonneg (by omega), Int.tmod_eq_emod_of_nonneg (by omega)]
    simp only [dv]
    generalize d % 65536 * (g % 65536) = A at *
    generalize d % 65536 * (g / 65536) = B at *
    generalize min (d / 65536) (1125899906842624 / (g + 1)) * g = M at *
    generalize 1125899906842624 / (g + 1) = K at *
    repeat' (first | refine And.intro ?_ ?_ | intro _)
    all_goals first | omega | exact c
def prtS : Spec [.int .i64, .int .i64] := ⟨fun ((d : Int), (g : Int), _) => -4294967296 ≤ d ∧ d ≤ 4294967296 ∧ 0 ≤ g ∧ g ≤ 1099511627776, fun ((d : Int), (g : Int), _) => .si .i64 (prtV d g)⟩
set_option maxRecDepth 100000 in
theorem prt_ok : FnSpec Try.prog 29 _ prtS := by
  refine FnSpec.of SDn_ok mixed (U := 0) (I := fun _ => []) Try.func29 rfl (by kernel_rfl) rfl rfl (by decide +kernel) ?_
  rintro ⟨(d : Int), (g : Int), ⟨⟩⟩ ⟨(d0 : -4294967296 ≤ d), (d1 : d ≤ 4294967296), (g0 : 0 ≤ g), (g1 : g ≤ 1099511627776)⟩
  unfold FnSat
  conv => arg 2; reduce
  simp [prtS, rdnS, clipS, and_assoc]
  unfold prtV
  refine ⟨by omega, by omega, by omega, by omega, by rw [absI_pos (by decide)]; decide, rfl⟩
def CelFew (c : Cel) : Prop := CelMax c ∧ c.ocv.nx ≤ 1048576 ∧ c.ocv.ny ≤ 1048576 ∧ c.cold.nx ≤ 1048576 ∧ c.cold.ny ≤ 1048576 ∧ c.stress.nx ≤ 1048576 ∧ c.stress.ny ≤ 1048576
theorem CelOK.few {c : Cel} (h : CelOK c) : CelFew c := by
  have h1 := crB_iff.1 (scB_iff.1 h.ocv).1
  have h2 := crB_iff.1 (scB_iff.1 h.cold).1
  have h3 := crB_iff.1 (scB_iff.1 h.stress).1
  exact ⟨h.max, by omega, by omega, by omega, by omega, by omega, by omega⟩
theorem enc_cel (c : Cel) : enc celSh (celD c) = .agg [.si .i64 c.cap, .slc (.sym c.ocv.nx) 1 (fun k => [.si .i64 (c.ocv.x k)]), .slc (.sym c.ocv.ny) 1 (fun k => [.si .i64 (c.ocv.y k)]), .si .i64 c.shift,
    .slc (.sym c.cold.nx) 1 (fun k => [.si .i64 (c.cold.x k)]), .slc (.sym c.cold.ny) 1 (fun k => [.si .i64 (c.cold.y k)]), .si .i64 c.extra, .si .i64 c.pair, .si .i64 c.keep, .si .i64 c.leak, .si .i64 c.hcap, .si .i64 c.cool,
    .slc (.sym c.stress.nx) 1 (fun k => [.si .i64 (c.stress.x k)]), .slc (.sym c.stress.ny) 1 (fun k => [.si .i64 (c.stress.y k)]), .si .i64 c.cyc, .si .i64 c.agel, .si .i64 c.grow] := rfl
def clnS : Spec [intsSh] := ⟨fun ((n, _), _) => n ≤ 1048576, fun ((n, el), _) => .slc (.sym n) 1 (fun k => [.si .i64 (el k).1])⟩
set_option maxRecDepth 100000 in
theorem cln_ok : FnSpec Try.prog 38 _ clnS := by
  refine FnSpec.of SDn_ok mixed (U := 0) (I := fun _ => []) Try.func38 rfl (by kernel_rfl) rfl rfl (by decide +kernel) ?_
  rintro ⟨⟨n, el⟩, ⟨⟩⟩ (h0 : n ≤ 1048576)
  obtain ⟨v, rfl⟩ : ∃ v : Nat → Int, el = fun k => (v k, ()) := ⟨fun k => (el k).1, rfl⟩
  unfold FnSat
  conv => arg 2; reduce
  simp [unitA, clnS, maxRow, ElEq, aliveB, goneB, getB, and_assoc]
  omega
noncomputable def SFi1 : Sums := ⟨(38, mkSum _ clnS) :: (29, mkSum _ prtS) :: (25, mkSum _ corS) :: SDn.one, SDn.two, SDn.lo, SDn.eqs, SDn.its, SDn.imm⟩
theorem SFi1_ok : SumsOK Try.prog SFi1 := (((SDn_ok.cons Try.func25 (by kernel_rfl) (by kernel_rfl) cor_ok).cons Try.func29 (by kernel_rfl) (by kernel_rfl) prt_ok).cons Try.func38 (by kernel_rfl) (by kernel_rfl) cln_ok)
def kepS : Spec [celSh] := ⟨fun (c, _) => CelFew (celOf c), fun (c, _) => enc celSh (celD (celOf c))⟩
set_option maxRecDepth 100000 in
set_option maxHeartbeats 2000000 in
theorem kep_ok : FnSpec Try.prog 19 _ kepS := by
  refine FnSpec.of SFi1_ok mixed (U := 4) (I := fun _ => []) Try.func19 rfl (by kernel_rfl) rfl rfl (by decide +kernel) ?_
  rintro ⟨c, ⟨⟩⟩ hpre
  obtain ⟨c, rfl⟩ := cel_ex c
  have hpre : CelFew c := by have : CelFew (celOf (celD c)) := hpre; rwa [celOf_D] at this
  obtain ⟨h0, h1, h2, h3, h4, h5, h6⟩ := hpre
  unfold FnSat
  conv => arg 2; reduce
  simp [kepS, clnS, enc_cel, maxRow, ElEq, getB, goneB, aliveB, and_assoc]
  omega
noncomputable def SFi2 : Sums := ⟨(19, mkSum _ kepS) :: SFi1.one, SFi1.two, SFi1.lo, SFi1.eqs, SFi1.its, SFi1.imm⟩
theorem SFi2_ok : SumsOK Try.prog SFi2 := (SFi1_ok.cons Try.func19 (by kernel_rfl) (by kernel_rfl) kep_ok)
end
end Abs
end Go.Proofs.Ytonhcmkddonmcaa

/- Filters, by the program and by the document: made, copied, what they take. -/
namespace Go.Proofs.Ytonhcmkddonmcaa
namespace Abs
open Go Go.RowKit
noncomputable section
attribute [local irreducible] FnSat
@[reducible] def filCells : List Sh := [.bool, .int .i64, intsSh, intsSh, .int .i64, intsSh, intsSh, .int .i64, .int .i64, .int .i64, .int .i64, .int .i64, .int .i64, intsSh, intsSh, .int .i64, .int .i64, .int .i64, .int .i64, .int .i64, .int .i64, .int .i64, .int .i64, .int .i64, .int .i64, .int .i64, .int .i64, .int .i64]
@[reducible] def rfilCells : List Sh := [.int .i64, intsSh, intsSh, .int .i64, intsSh, intsSh, .int .i64, .int .i64, .int .i64, .int .i64, .int .i64, .int .i64, intsSh, intsSh, .int .i64, .int .i64, .int .i64, .int .i64, .int .i64, .int .i64, .int .i64, .int .i64, .int .i64, .int .i64, .int .i64, .int .i64, .int .i64]
def rfilD (c : Cel) (gq gr gt : Int) (s : Sta) (ic ia : Int) : DatL rfilCells := (c.cap, (c.ocv.nx, fun k => (c.ocv.x k, ())), (c.ocv.ny, fun k => (c.ocv.y k, ())), c.shift, (c.cold.nx, fun k => (c.cold.x k, ())), (c.cold.ny, fun k => (c.cold.y k, ())),
  c.extra, c.pair, c.keep, c.leak, c.hcap, c.cool, (c.stress.nx, fun k => (c.stress.x k, ())), (c.stress.ny, fun k => (c.stress.y k, ())), c.cyc, c.agel, c.grow, gq, gr, gt, s.q, s.rx, s.tp, s.th, s.ag, ic, ia, ())
@[reducible] def filD (m : Bool) (c : Cel) (gq gr gt : Int) (s : Sta) (ic ia : Int) : DatL filCells := (m, rfilD c gq gr gt s ic ia)
/-- the parts of a filter -/
def rfC : DatL rfilCells → Cel := fun (a0, a1, a2, a3, a4, a5, a6, a7, a8, a9, a10, a11, a12, a13, a14, a15, a16, _) => celOf (a0, a1, a2, a3, a4, a5, a6, a7, a8, a9, a10, a11, a12, a13, a14, a15, a16, ())
def rfS : DatL rfilCells → Sta := fun (_, _, _, _, _, _, _, _, _, _, _, _, _, _, _, _, _, _, _, _, q, rx, tp, th, ag, _) => staOf (q, rx, tp, th, ag, ())
theorem rfil_ex (x : DatL rfilCells) : ∃ c gq gr gt s ic ia, x = rfilD c gq gr gt s ic ia := by
  obtain ⟨a0, a1, a2, a3, a4, a5, a6, a7, a8, a9, a10, a11, a12, a13, a14, a15, a16, gq, gr, gt, q, rx, tp, th, ag, ic, ia, ⟨⟩⟩ := x
  obtain ⟨c, hc⟩ := cel_ex (a0, a1, a2, a3, a4, a5, a6, a7, a8, a9, a10, a11, a12, a13, a14, a15, a16, ())
  obtain ⟨s, hs⟩ := sta_ex (q, rx, tp, th, ag, ())
  refine ⟨c, gq, gr, gt, s, ic, ia, ?_⟩
  unfold celD at hc
  unfold staD at hs
  simp only [Prod.mk.injEq] at hc hs
  obtain ⟨rfl, rfl, rfl, rfl, rfl, rfl, rfl, rfl, rfl, rfl, rfl, rfl, rfl, rfl, rfl, rfl, rfl, _⟩ := hc
  obtain ⟨rfl, rfl, rfl, rfl, rfl, _⟩ := hs
  rfl
theorem fil_ex (x : DatL filCells) : ∃ m c gq gr gt s ic ia, x = filD m c gq gr gt s ic ia := by
  obtain ⟨m, x⟩ := x
  obtain ⟨c, gq, gr, gt, s, ic, ia, rfl⟩ := rfil_ex x
  exact ⟨m, c, gq, gr, gt, s, ic, ia, rfl⟩
@[simp] theorem rfC_D (c : Cel) (gq gr gt : Int) (s : Sta) (ic ia : Int) : rfC (rfilD c gq gr gt s ic ia) = c := celOf_mk c
@[simp] theorem rfS_D (c : Cel) (gq gr gt : Int) (s : Sta) (ic ia : Int) : rfS (rfilD c gq gr gt s ic ia) = s := staOf_mk s
def rfilL (c : Cel) (gq gr gt : Int) (s : Sta) (ic ia : Int) : List AV := [.si .i64 c.cap, .slc (.sym c.ocv.nx) 1 (fun k => [.si .i64 (c.ocv.x k)]), .slc (.sym c.ocv.ny) 1 (fun k => [.si .i64 (c.ocv.y k)]), .si .i64 c.shift, .slc (.sym c.cold.nx) 1 (fun k => [.si .i64 (c.cold.x k)]), .slc (.sym c.cold.ny) 1 (fun k => [.si .i64 (c.cold.y k)]), .si .i64 c.extra, .si .i64 c.pair, .si .i64 c.keep, .si .i64 c.leak, .si .i64 c.hcap, .si .i64 c.cool, .slc (.sym c.stress.nx) 1 (fun k => [.si .i64 (c.stress.x k)]), .slc (.sym c.stress.ny) 1 (fun k => [.si .i64 (c.stress.y k)]), .si .i64 c.cyc, .si .i64 c.agel, .si .i64 c.grow, .si .i64 gq, .si .i64 gr, .si .i64 gt, .si .i64 s.q, .si .i64 s.rx, .si .i64 s.tp, .si .i64 s.th, .si .i64 s.ag, .si .i64 ic, .si .i64 ia]
def filL (m : Bool) (c : Cel) (gq gr gt : Int) (s : Sta) (ic ia : Int) : List AV := .sb m :: [.si .i64 c.cap, .slc (.sym c.ocv.nx) 1 (fun k => [.si .i64 (c.ocv.x k)]), .slc (.sym c.ocv.ny) 1 (fun k => [.si .i64 (c.ocv.y k)]), .si .i64 c.shift, .slc (.sym c.cold.nx) 1 (fun k => [.si .i64 (c.cold.x k)]), .slc (.sym c.cold.ny) 1 (fun k => [.si .i64 (c.cold.y k)]), .si .i64 c.extra, .si .i64 c.pair, .si .i64 c.keep, .si .i64 c.leak, .si .i64 c.hcap, .si .i64 c.cool, .slc (.sym c.stress.nx) 1 (fun k => [.si .i64 (c.stress.x k)]), .slc (.sym c.stress.ny) 1 (fun k => [.si .i64 (c.stress.y k)]), .si .i64 c.cyc, .si .i64 c.agel, .si .i64 c.grow, .si .i64 gq, .si .i64 gr, .si .i64 gt, .si .i64 s.q, .si .i64 s.rx, .si .i64 s.tp, .si .i64 s.th, .si .i64 s.ag, .si .i64 ic, .si .i64 ia]
@[reducible] def gnSh : Sh := .agg [.int .i64, .int .i64, .int .i64]
@[reducible] def rdSh : Sh := .agg [.bool, .bool, .bool, .bool, .int .i64, .int .i64, .int .i64, .int .i64]
@[irreducible] def gnB (gq gr gt : Int) : Bool := isIn 0 gq 1099511627776 && (isIn 0 gr 1099511627776 && isIn 0 gt 1099511627776)
theorem gnB_iff {gq gr gt : Int} : gnB gq gr gt = true ↔ (0 ≤ gq ∧ gq ≤ 1099511627776) ∧ (0 ≤ gr ∧ gr ≤ 1099511627776) ∧ 0 ≤ gt ∧ gt ≤ 1099511627776 := by unfold gnB isIn; simp
@[irreducible] def nfE (c : Cel) (s : Sta) (gq gr gt : Int) : Int := if celB c = true then (if gnB gq gr gt = true then csE c s else 2) else 2
/-- a new filter is refused -/
def nfS : Spec [celSh, gnSh, staSh] := ⟨fun (c, ((gq : Int), (gr : Int), (gt : Int), _), s, _) => CelMax (celOf c) ∧ ¬nfE (celOf c) (staOf s) gq gr gt = 0, fun (c, ((gq : Int), (gr : Int), (gt : Int), _), s, _) => .tup [.v (.pointer none), .si .i64 (nfE (celOf c) (staOf s) gq gr gt)]⟩
set_option maxRecDepth 100000 in
set_option maxHeartbeats 2000000 in
theorem nfE_ok : FnSpec Try.prog 6 _ nfS := by
  refine FnSpec.of SFi2_ok mixed (U := 4) (I := fun _ => []) Try.func6 rfl (by kernel_rfl) rfl rfl (by decide +kernel) ?_
  rintro ⟨c, ⟨(gq : Int), (gr : Int), (gt : Int), ⟨⟩⟩, s, ⟨⟩⟩ hpre
  obtain ⟨c, rfl⟩ := cel_ex c
  obtain ⟨s, rfl⟩ := sta_ex s
  have hpre : CelMax c ∧ ¬nfE c s gq gr gt = 0 := by have : CelMax (celOf (celD c)) ∧ ¬nfE (celOf (celD c)) (staOf (staD s)) gq gr gt = 0 := hpre; rwa [celOf_D, staOf_D] at this
  unfold FnSat
  conv => arg 2; reduce
  simp [nfS, ccheckS, cstS, betS, kepS, and_assoc]
  obtain ⟨hm, hn⟩ := hpre
  have eN : nfE c s gq gr gt = if celB c = true then (if gnB gq gr gt = true then csE c s else 2) else 2 := by unfold nfE; rfl
  have no : celB c = true → ¬((0 ≤ gq ∧ gq ≤ 1099511627776) ∧ (0 ≤ gr ∧ gr ≤ 1099511627776) ∧ 0 ≤ gt ∧ gt ≤ 1099511627776) → 2 = nfE c s gq gr gt := fun h h' => by
    rw [eN, if_pos h, if_neg (by rw [gnB_iff]; exact h')]
  refine ⟨hm, fun h => by rw [eN, h]; simp [errA], fun h => ⟨fun h' => no h (by omega), fun q0 q1 => ⟨fun h' => no h (by omega), fun r0 r1 => ⟨fun h' => no h (by omega), fun t0 t1 => ?_⟩⟩⟩⟩
  have e : nfE c s gq gr gt = csE c s := by rw [eN, if_pos h, if_pos (gnB_iff.2 ⟨⟨q0, q1⟩, ⟨r0, r1⟩, t0, t1⟩)]
  rw [e] at hn
  exact ⟨hm, fun _ => e.symm, hn⟩
set_option maxRecDepth 100000 in
set_option maxHeartbeats 2000000 in
theorem rnfE_ok : FnSpec Try.prog 7 _ nfS := by
  refine FnSpec.of SFi2_ok mixed (U := 4) (I := fun _ => []) Try.func7 rfl (by kernel_rfl) rfl rfl (by decide +kernel) ?_
  rintro ⟨c, ⟨(gq : Int), (gr : Int), (gt : Int), ⟨⟩⟩, s, ⟨⟩⟩ hpre
  obtain ⟨c, rfl⟩ := cel_ex c
  obtain ⟨s, rfl⟩ := sta_ex s
  have hpre : CelMax c ∧ ¬nfE c s gq gr gt = 0 := by have : CelMax (celOf (celD c)) ∧ ¬nfE (celOf (celD c)) (staOf (staD s)) gq gr gt = 0 := hpre; rwa [celOf_D, staOf_D] at this
  unfold FnSat
  conv => arg 2; reduce
  simp [nfS, ccheckS, cstS, betS, and_assoc]
  obtain ⟨hm, hn⟩ := hpre
  have eN : nfE c s gq gr gt = if celB c = true then (if gnB gq gr gt = true then csE c s else 2) else 2 := by unfold nfE; rfl
  have no : celB c = true → ¬((0 ≤ gq ∧ gq ≤ 1099511627776) ∧ (0 ≤ gr ∧ gr ≤ 1099511627776) ∧ 0 ≤ gt ∧ gt ≤ 1099511627776) → 2 = nfE c s gq gr gt := fun h h' => by
    rw [eN, if_pos h, if_neg (by rw [gnB_iff]; exact h')]
  refine ⟨hm, fun h => by rw [eN, h]; simp [errA], fun h => ⟨fun h' => no h (by omega), fun q0 q1 r0 r1 t0 t1 => ?_⟩⟩
  have e : nfE c s gq gr gt = csE c s := by rw [eN, if_pos h, if_pos (gnB_iff.2 ⟨⟨q0, q1⟩, ⟨r0, r1⟩, t0, t1⟩)]
  rw [e] at hn
  exact ⟨hm, fun _ => e.symm, hn⟩
/-- a new filter -/
def nfN : SpecN [celSh, gnSh, staSh] := ⟨fun (c, ((gq : Int), (gr : Int), (gt : Int), _), s, _) => CelMax (celOf c) ∧ nfE (celOf c) (staOf s) gq gr gt = 0, fun _ => .tup [.own 3 0, .li .i64 0],
  fun (c, ((gq : Int), (gr : Int), (gt : Int), _), s, _) => [.dead, .dead, .dead, .cells 71 (filL true (celOf c) gq gr gt (staOf s) 0 (staOf s).tp)]⟩
set_option maxRecDepth 100000 in
set_option maxHeartbeats 2000000 in
theorem nfN_ok : FnSpecN Try.prog 6 _ nfN := by
  refine FnSpecN.of SFi2_ok mixed (U := 4) (I := fun _ => []) Try.func6 rfl (by kernel_rfl) rfl rfl (by decide +kernel) ?_
  rintro ⟨c, ⟨(gq : Int), (gr : Int), (gt : Int), ⟨⟩⟩, s, ⟨⟩⟩ hpre
  obtain ⟨c, rfl⟩ := cel_ex c
  obtain ⟨s, rfl⟩ := sta_ex s
  have hpre : CelMax c ∧ nfE c s gq gr gt = 0 := by have : CelMax (celOf (celD c)) ∧ nfE (celOf (celD c)) (staOf (staD s)) gq gr gt = 0 := hpre; rwa [celOf_D, staOf_D] at this
  unfold FnSat
  conv => arg 2; reduce
  simp [nfN, ccheckS, cstS, betS, kepS, enc_cel, filL, ElEq, aliveB, getB, VC.sat, and_assoc]
  obtain ⟨hm, hn⟩ := hpre
  have hc : celB c = true := by
    cases h : celB c with
    | true => rfl
    | false => unfold nfE at hn; rw [h] at hn; simp at hn
  have hg : gnB gq gr gt = true := by
    cases h : gnB gq gr gt with
    | true => rfl
    | false => unfold nfE at hn; rw [h, hc] at hn; simp at hn
  have hs : csE c s = 0 := by unfold nfE at hn; rw [hg, hc] at hn; simpa using hn
  obtain ⟨⟨q0, q1⟩, ⟨r0, r1⟩, t0, t1⟩ := gnB_iff.1 hg
  exact ⟨hm, hc, fun _ => ⟨q0, q1, fun _ _ => ⟨r0, r1, fun _ _ => ⟨t0, t1, fun _ _ => ⟨hm, hs, fun _ => (celB_iff.1 hc).few⟩⟩⟩⟩⟩
def rnfN : SpecN [celSh, gnSh, staSh] := ⟨fun (c, ((gq : Int), (gr : Int), (gt : Int), _), s, _) => CelMax (celOf c) ∧ nfE (celOf c) (staOf s) gq gr gt = 0, fun _ => .tup [.own 3 0, .li .i64 0],
  fun (c, ((gq : Int), (gr : Int), (gt : Int), _), s, _) => [.dead, .dead, .dead, .cells 52 (rfilL (celOf c) gq gr gt (staOf s) 0 (staOf s).tp)]⟩
set_option maxRecDepth 100000 in
set_option maxHeartbeats 2000000 in
theorem rnfN_ok : FnSpecN Try.prog 7 _ rnfN := by
  refine FnSpecN.of SFi2_ok mixed (U := 4) (I := fun _ => []) Try.func7 rfl (by kernel_rfl) rfl rfl (by decide +kernel) ?_
  rintro ⟨c, ⟨(gq : Int), (gr : Int), (gt : Int), ⟨⟩⟩, s, ⟨⟩⟩ hpre
  obtain ⟨c, rfl⟩ := cel_ex c
  obtain ⟨s, rfl⟩ := sta_ex s
  have hpre : CelMax c ∧ nfE c s gq gr gt = 0 := by have : CelMax (celOf (celD c)) ∧ nfE (celOf (celD c)) (staOf (staD s)) gq gr gt = 0 := hpre; rwa [celOf_D, staOf_D] at this
  unfold FnSat
  conv => arg 2; reduce
  simp [rnfN, ccheckS, cstS, betS, rfilL, ElEq, aliveB, getB, VC.sat, and_assoc]
  obtain ⟨hm, hn⟩ := hpre
  have hc : celB c = true := by
    cases h : celB c with
    | true => rfl
    | false => unfold nfE at hn; rw [h] at hn; simp at hn
  have hg : gnB gq gr gt = true := by
    cases h : gnB gq gr gt with
    | true => rfl
    | false => unfold nfE at hn; rw [h, hc] at hn; simp at hn
  have hs : csE c s = 0 := by unfold nfE at hn; rw [hg, hc] at hn; simpa using hn
  obtain ⟨⟨q0, q1⟩, ⟨r0, r1⟩, t0, t1⟩ := gnB_iff.1 hg
  exact ⟨hm, hc, fun _ => ⟨q0, q1, r0, r1, t0, t1, fun _ _ _ _ _ _ => ⟨hm, hs⟩⟩⟩
/-- a copy -/
def cpF : SpecF [.cells 71 filCells] [.own 0 0] := ⟨fun ((m, _), _) _ => m = true, fun _ _ => .own 1 0, fun ((m, x), _) _ => [.cells 71 (encL filCells (m, x)), .cells 71 (encL filCells (m, x))]⟩
set_option maxRecDepth 100000 in
theorem cp_ok : FnSpecF Try.prog 8 _ _ cpF := by
  refine FnSpecF.of SFi2_ok mixed (U := 0) (I := fun _ _ => []) Try.func8 rfl (by kernel_rfl) rfl (by decide +kernel) ?_
  rintro ⟨x, ⟨⟩⟩ ⟨⟨⟩, ⟨⟩⟩ hm
  obtain ⟨m, c, gq, gr, gt, s, ic, ia, rfl⟩ := fil_ex x
  obtain rfl : m = true := hm
  have e : cpF.after (filD true c gq gr gt s ic ia, ()) (PUnit.unit, PUnit.unit) = [.cells 71 (filL true c gq gr gt s ic ia), .cells 71 (filL true c gq gr gt s ic ia)] := rfl
  rw [e]
  unfold FnSat
  conv => arg 2; reduce
  simp [cpF, filL, ElEq, aliveB, getB, encH, encB, VC.sat, and_assoc]
def rcpF : SpecF [.cells 52 rfilCells] [.own 0 0] := ⟨fun _ _ => True, fun _ _ => .own 1 0, fun (x, _) _ => [.cells 52 (encL rfilCells x), .cells 52 (encL rfilCells x)]⟩
set_option maxRecDepth 100000 in
theorem rcp_ok : FnSpecF Try.prog 10 _ _ rcpF := by
  refine FnSpecF.of SFi2_ok mixed (U := 0) (I := fun _ _ => []) Try.func10 rfl (by kernel_rfl) rfl (by decide +kernel) ?_
  rintro ⟨x, ⟨⟩⟩ ⟨⟨⟩, ⟨⟩⟩ -
  obtain ⟨c, gq, gr, gt, s, ic, ia, rfl⟩ := rfil_ex x
  have e : rcpF.after (rfilD c gq gr gt s ic ia, ()) (PUnit.unit, PUnit.unit) = [.cells 52 (rfilL c gq gr gt s ic ia), .cells 52 (rfilL c gq gr gt s ic ia)] := rfl
  rw [e]
  unfold FnSat
  conv => arg 2; reduce
  simp [rcpF, rfilL, ElEq, aliveB, getB, encH, encB, VC.sat, and_assoc]
def fstS : Spec [.ptr filCells] := ⟨fun ((m, _), _) => m = true, fun ((_, x), _) => .agg [.si .i64 (rfS x).q, .si .i64 (rfS x).rx, .si .i64 (rfS x).tp, .si .i64 (rfS x).th, .si .i64 (rfS x).ag]⟩
set_option maxRecDepth 100000 in
set_option maxHeartbeats 2000000 in
theorem fst_ok : FnSpec Try.prog 12 _ fstS := by
  refine FnSpec.of SFi2_ok mixed (U := 0) (I := fun _ => []) Try.func12 rfl (by kernel_rfl) rfl rfl (by decide +kernel) ?_
  rintro ⟨x, ⟨⟩⟩ hm
  obtain ⟨m, c, gq, gr, gt, s, ic, ia, rfl⟩ := fil_ex x
  obtain rfl : m = true := hm
  unfold FnSat
  conv => arg 2; reduce
  simp [fstS]
noncomputable def SFj0 : Sums := ⟨SFi2.one, (10, mkSumF _ _ rcpF) :: (8, mkSumF _ _ cpF) :: SFi2.two, SFi2.lo, SFi2.eqs, SFi2.its, SFi2.imm⟩
theorem SFj0_ok : SumsOK Try.prog SFj0 := SumsOK.addTwo (SumsOK.addTwo SFi2_ok Try.func8 (by kernel_rfl) (by kernel_rfl) (mkSumF_ok cp_ok)) Try.func10 (by kernel_rfl) (by kernel_rfl) (mkSumF_ok rcp_ok)
noncomputable def SFj : Sums := ⟨(12, mkSum _ fstS) :: SFj0.one, SFj0.two, SFj0.lo, SFj0.eqs, SFj0.its, SFj0.imm⟩
theorem SFj_ok : SumsOK Try.prog SFj := (SFj0_ok.cons Try.func12 (by kernel_rfl) (by kernel_rfl) fst_ok)
end
end Abs
end Go.Proofs.Ytonhcmkddonmcaa

/- Filters, by the program and by the document: what they take. -/
namespace Go.Proofs.Ytonhcmkddonmcaa
namespace Abs
open Go Go.RowKit
noncomputable section
attribute [local irreducible] FnSat
structure Rd where
  h0 : Bool
  h1 : Bool
  h2 : Bool
  h3 : Bool
  v0 : Int
  v1 : Int
  v2 : Int
  v3 : Int
@[irreducible] def rgB (h : Bool) (v : Int) : Bool := !h || isIn (-1073741824) v 1073741824
@[irreducible] def rgR (r : Rd) : Bool := rgB r.h0 r.v0 && (rgB r.h1 r.v1 && (rgB r.h2 r.v2 && rgB r.h3 r.v3))
@[irreducible] def fCu (ic : Int) (r : Rd) : Int := if r.h1 = true then clipV r.v1 (-1048576) 1048576 else ic
@[irreducible] def fAm (ia : Int) (r : Rd) : Int := if r.h3 = true then clipV r.v3 0 400000 else ia
@[irreducible] def fSt (c : Cel) (s : Sta) (gq gr gt cu : Int) (r : Rd) : Sta := ⟨if r.h0 = true then corV s.q (r.v0 - voltV c s cu) gq 0 (kV c s) else s.q, if r.h0 = true then clipV (s.rx - prtV (r.v0 - voltV c s cu) gr) (-8388608) 8388608 else s.rx,
  if r.h2 = true then corV s.tp (r.v2 - s.tp) gt 0 400000 else s.tp, s.th, s.ag⟩
@[irreducible] def tkE (c : Cel) (s : Sta) (gq gr gt ic ia : Int) (r : Rd) : Int := if rgR r = true then stAE c (fSt c s gq gr gt (fCu ic r) r) (fCu ic r) (fAm ia r) else 3
@[irreducible] def tkS (c : Cel) (s : Sta) (gq gr gt ic ia : Int) (r : Rd) : Sta := if tkE c s gq gr gt ic ia r = 0 then stA c (fSt c s gq gr gt (fCu ic r) r) (fCu ic r) (fAm ia r) else s
@[irreducible] def tkC (c : Cel) (s : Sta) (gq gr gt ic ia : Int) (r : Rd) : Int := if tkE c s gq gr gt ic ia r = 0 then fCu ic r else ic
@[irreducible] def tkA (c : Cel) (s : Sta) (gq gr gt ic ia : Int) (r : Rd) : Int := if tkE c s gq gr gt ic ia r = 0 then fAm ia r else ia
structure FilOK (c : Cel) (s : Sta) (gq gr gt ic ia : Int) : Prop where
  hc : celB c = true
  hs : StOK c s
  hg : gnB gq gr gt = true
  hi : inB ic ia = true
def rfG : DatL rfilCells → Int × Int × Int × Int × Int := fun (_, _, _, _, _, _, _, _, _, _, _, _, _, _, _, _, _, gq, gr, gt, _, _, _, _, _, ic, ia, _) => (gq, gr, gt, ic, ia)
@[simp] theorem rfG_D (c : Cel) (gq gr gt : Int) (s : Sta) (ic ia : Int) : rfG (rfilD c gq gr gt s ic ia) = (gq, gr, gt, ic, ia) := rfl
def tkEX (x : DatL rfilCells) (r : Rd) : Int := tkE (rfC x) (rfS x) (rfG x).1 (rfG x).2.1 (rfG x).2.2.1 (rfG x).2.2.2.1 (rfG x).2.2.2.2 r
def tkLX (x : DatL rfilCells) (r : Rd) : List AV := rfilL (rfC x) (rfG x).1 (rfG x).2.1 (rfG x).2.2.1 (tkS (rfC x) (rfS x) (rfG x).1 (rfG x).2.1 (rfG x).2.2.1 (rfG x).2.2.2.1 (rfG x).2.2.2.2 r) (tkC (rfC x) (rfS x) (rfG x).1 (rfG x).2.1 (rfG x).2.2.1 (rfG x).2.2.2.1 (rfG x).2.2.2.2 r) (tkA (rfC x) (rfS x) (rfG x).1 (rfG x).2.1 (rfG x).2.2.1 (rfG x).2.2.2.1 (rfG x).2.2.2.2 r)
def takF : SpecF [.cells 71 filCells] [.own 0 0, rdSh] :=
  ⟨fun ((m, x), _) _ => m = true ∧ FilOK (rfC x) (rfS x) (rfG x).1 (rfG x).2.1 (rfG x).2.2.1 (rfG x).2.2.2.1 (rfG x).2.2.2.2,
   fun ((_, x), _) (_, (h0, h1, h2, h3, v0, v1, v2, v3, _), _) => .si .i64 (tkEX x ⟨h0, h1, h2, h3, v0, v1, v2, v3⟩),
   fun ((m, x), _) (_, (h0, h1, h2, h3, v0, v1, v2, v3, _), _) => [.cells 71 (.sb m :: tkLX x ⟨h0, h1, h2, h3, v0, v1, v2, v3⟩)]⟩
theorem tk_bad {c : Cel} {s : Sta} {gq gr gt ic ia : Int} {R : Rd} (h : rgR R = false) :
    3 = tkE c s gq gr gt ic ia R ∧ s.q = (tkS c s gq gr gt ic ia R).q ∧ s.rx = (tkS c s gq gr gt ic ia R).rx ∧ s.tp = (tkS c s gq gr gt ic ia R).tp ∧ s.th = (tkS c s gq gr gt ic ia R).th ∧ s.ag = (tkS c s gq gr gt ic ia R).ag ∧ ic = tkC c s gq gr gt ic ia R ∧ ia = tkA c s gq gr gt ic ia R := by
  have e : tkE c s gq gr gt ic ia R = 3 := by unfold tkE; rw [h]; simp
  unfold tkS tkC tkA
  rw [e]
  simp
theorem tk_fin {c : Cel} {s u : Sta} {gq gr gt ic ia cu am : Int} {R : Rd} (h : rgR R = true) (e1 : fCu ic R = cu) (e2 : fAm ia R = am) (e3 : fSt c s gq gr gt cu R = u) :
    (¬stAE c u cu am = 0 → stAE c u cu am = tkE c s gq gr gt ic ia R ∧ s.q = (tkS c s gq gr gt ic ia R).q ∧ s.rx = (tkS c s gq gr gt ic ia R).rx ∧ s.tp = (tkS c s gq gr gt ic ia R).tp ∧ s.th = (tkS c s gq gr gt ic ia R).th ∧ s.ag = (tkS c s gq gr gt ic ia R).ag ∧ ic = tkC c s gq gr gt ic ia R ∧ ia = tkA c s gq gr gt ic ia R) ∧
    (stAE c u cu am = 0 → 0 = tkE c s gq gr gt ic ia R ∧ (stA c u cu am).q = (tkS c s gq gr gt ic ia R).q ∧ (stA c u cu am).rx = (tkS c s gq gr gt ic ia R).rx ∧ (stA c u cu am).tp = (tkS c s gq gr gt ic ia R).tp ∧ (stA c u cu am).th = (tkS c s gq gr gt ic ia R).th ∧ (stA c u cu am).ag = (tkS c s gq gr gt ic ia R).ag ∧ cu = tkC c s gq gr gt ic ia R ∧ am = tkA c s gq gr gt ic ia R) := by
  subst e1 e2 e3
  have e : tkE c s gq gr gt ic ia R = stAE c (fSt c s gq gr gt (fCu ic R) R) (fCu ic R) (fAm ia R) := by unfold tkE; rw [if_pos h]
  have eS : tkS c s gq gr gt ic ia R = if tkE c s gq gr gt ic ia R = 0 then stA c (fSt c s gq gr gt (fCu ic R) R) (fCu ic R) (fAm ia R) else s := by unfold tkS; rfl
  have eC : tkC c s gq gr gt ic ia R = if tkE c s gq gr gt ic ia R = 0 then fCu ic R else ic := by unfold tkC; rfl
  have eA : tkA c s gq gr gt ic ia R = if tkE c s gq gr gt ic ia R = 0 then fAm ia R else ia := by unfold tkA; rfl
  rw [eS, eC, eA, e]
  constructor
  · intro hn; simp [hn]
  · intro h0; simp [h0]
theorem sta_eta (s : Sta) : (⟨s.q, s.rx, s.tp, s.th, s.ag⟩ : Sta) = s := by unfold Sta.q Sta.rx Sta.tp Sta.th Sta.ag; rfl
theorem cor_m (x d g : Int) : -corV (-x) d g (-8388608) 8388608 = clipV (x - prtV d g) (-8388608) 8388608 := by unfold corV clipV; omega
theorem clip_mm (x lo hi : Int) (h : lo ≤ hi) : min (max x lo) hi = clipV x lo hi := by unfold clipV; omega
set_option maxRecDepth 100000 in
set_option maxHeartbeats 8000000 in
theorem tak_ok : FnSpecF Try.prog 9 _ _ takF := by
  refine FnSpecF.of SFj_ok mixed (U := 5) (I := fun _ _ => []) Try.func9 rfl (by kernel_rfl) rfl (by decide +kernel) ?_
  rintro ⟨x, ⟨⟩⟩ ⟨⟨⟩, ⟨(h0 : Bool), (h1 : Bool), (h2 : Bool), (h3 : Bool), (v0 : Int), (v1 : Int), (v2 : Int), (v3 : Int), ⟨⟩⟩, ⟨⟩⟩ ⟨hm, hf⟩
  obtain ⟨m, c, gq, gr, gt, s, ic, ia, rfl⟩ := fil_ex x
  obtain rfl : m = true := hm
  have hf : FilOK c s gq gr gt ic ia := by have := hf; rwa [rfC_D, rfS_D, rfG_D] at this
  unfold FnSat
  conv => arg 2; reduce
  simp [-Bool.forall_bool, takF, tkLX, tkEX, rfilL, betS, corS, volS, capS, stpT, ElEq, aliveB, getB, encH, encB, and_assoc]
  obtain ⟨hc, hs, hg, hi⟩ := hf
  have hcs : csE c s = 0 := csE_0 hc hs
  have hmax : CelMax c := (celB_iff.1 hc).max
  obtain ⟨⟨q0, q1⟩, ⟨r0, r1⟩, t0, t1⟩ := gnB_iff.1 hg
  have hi' := inB_iff.1 hi
  have hK : aV c s (kV c s) = kV c s := aV_yes hcs
  have k1 := kV_in hc hs
  have k2 := q_in hs
  have hV : ∀ i, -1048576 ≤ i → i ≤ 1048576 → aV c s (wiV i (voltV c s i)) = voltV c s i := fun i i0 i1 => by
    rw [aV_yes hcs]; unfold wiV; rw [if_pos (curI_iff.2 ⟨i0, i1⟩)]
  have b1 := @clipV_in v1 (-1048576) 1048576 (by decide)
  have hv1 := voltV_in hc hs hi'.1.1 hi'.1.2
  have hv2 := voltV_in hc hs b1.1 b1.2
  have hV1 := hV ic hi'.1.1 hi'.1.2
  have hV2 := hV _ b1.1 b1.2
  have := hs.t0
  have := hs.t1
  have := hs.r0
  have := hs.r1
  rw [clip_mm v1 _ _ (by decide), clip_mm v3 _ _ (by decide)]
  rw [hV1, hV2, hK]
  clear hV hi hg
  cases h0 <;> cases h1 <;> cases h2 <;> cases h3 <;> simp only [true_implies, reduceCtorEq, false_implies, true_and, and_true, forall_const, Bool.false_eq_true]
  all_goals repeat' (first
    | exact hmax
    | exact tk_bad (by unfold rgR rgB isIn; simp; omega)
    | refine tk_fin ?_ ?_ ?_ ?_
    | refine And.intro ?_ ?_
    | intro _)
  all_goals first
    | omega
    | exact Int.le_trans (corV_in (by decide)).2 (by decide)
    | exact Int.le_trans (Int.neg_le_neg (corV_in (by decide)).1) (by decide)
    | (unfold rgR rgB isIn; simp; done)
    | (unfold rgR rgB isIn; simp; omega)
    | (unfold fCu; simp; done)
    | (unfold fAm; simp; done)
    | (unfold fSt staOf; simp [cor_m, Sta.q, Sta.rx, Sta.tp, Sta.th, Sta.ag]; done)
    | (unfold fSt; simp [sta_eta]; done)
noncomputable def SFk : Sums := ⟨SFj.one, (9, mkSumF _ _ takF) :: SFj.two, SFj.lo, SFj.eqs, SFj.its, SFj.imm⟩
theorem SFk_ok : SumsOK Try.prog SFk := SFj_ok.addTwo Try.func9 (by kernel_rfl) (by kernel_rfl) (mkSumF_ok tak_ok)
end
end Abs
end Go.Proofs.Ytonhcmkddonmcaa

/- Filters, by the document: what they take. -/
namespace Go.Proofs.Ytonhcmkddonmcaa
namespace Abs
open Go Go.RowKit
noncomputable section
attribute [local irreducible] FnSat
def rtakF : SpecF [.cells 52 rfilCells] [.own 0 0, rdSh] :=
  ⟨fun (x, _) _ => FilOK (rfC x) (rfS x) (rfG x).1 (rfG x).2.1 (rfG x).2.2.1 (rfG x).2.2.2.1 (rfG x).2.2.2.2,
   fun (x, _) (_, (h0, h1, h2, h3, v0, v1, v2, v3, _), _) => .si .i64 (tkEX x ⟨h0, h1, h2, h3, v0, v1, v2, v3⟩),
   fun (x, _) (_, (h0, h1, h2, h3, v0, v1, v2, v3, _), _) => [.cells 52 (tkLX x ⟨h0, h1, h2, h3, v0, v1, v2, v3⟩)]⟩
set_option maxRecDepth 100000 in
set_option maxHeartbeats 8000000 in
theorem rtak_ok : FnSpecF Try.prog 11 _ _ rtakF := by
  refine FnSpecF.of SFk_ok mixed (U := 5) (I := fun _ _ => []) Try.func11 rfl (by kernel_rfl) rfl (by decide +kernel) ?_
  rintro ⟨x, ⟨⟩⟩ ⟨⟨⟩, ⟨(h0 : Bool), (h1 : Bool), (h2 : Bool), (h3 : Bool), (v0 : Int), (v1 : Int), (v2 : Int), (v3 : Int), ⟨⟩⟩, ⟨⟩⟩ hf
  obtain ⟨c, gq, gr, gt, s, ic, ia, rfl⟩ := rfil_ex x
  have hf : FilOK c s gq gr gt ic ia := by
    have h : FilOK (rfC (rfilD c gq gr gt s ic ia)) (rfS (rfilD c gq gr gt s ic ia)) (rfG (rfilD c gq gr gt s ic ia)).1 (rfG (rfilD c gq gr gt s ic ia)).2.1 (rfG (rfilD c gq gr gt s ic ia)).2.2.1 (rfG (rfilD c gq gr gt s ic ia)).2.2.2.1 (rfG (rfilD c gq gr gt s ic ia)).2.2.2.2 := hf
    rwa [rfC_D, rfS_D, rfG_D] at h
  unfold FnSat
  conv => arg 2; reduce
  simp [-Bool.forall_bool, rtakF, tkLX, tkEX, rfilL, betS, prtS, clipS, volS, capS, stpT, ElEq, aliveB, getB, encH, encB, and_assoc]
  obtain ⟨hc, hs, hg, hi⟩ := hf
  have hcs : csE c s = 0 := csE_0 hc hs
  have hmax : CelMax c := (celB_iff.1 hc).max
  obtain ⟨⟨q0, q1⟩, ⟨r0, r1⟩, t0, t1⟩ := gnB_iff.1 hg
  have hi' := inB_iff.1 hi
  have hK : aV c s (kV c s) = kV c s := aV_yes hcs
  have k1 := kV_in hc hs
  have k2 := q_in hs
  have hV : ∀ i, -1048576 ≤ i → i ≤ 1048576 → aV c s (wiV i (voltV c s i)) = voltV c s i := fun i i0 i1 => by
    rw [aV_yes hcs]; unfold wiV; rw [if_pos (curI_iff.2 ⟨i0, i1⟩)]
  have b1 := @clipV_in v1 (-1048576) 1048576 (by decide)
  have hv1 := voltV_in hc hs hi'.1.1 hi'.1.2
  have hv2 := voltV_in hc hs b1.1 b1.2
  have hV1 := hV ic hi'.1.1 hi'.1.2
  have hV2 := hV _ b1.1 b1.2
  have := hs.t0
  have := hs.t1
  have := hs.r0
  have := hs.r1
  rw [hV1, hV2, hK]
  have cq : clipV s.q 0 (kV c s) = s.q := by unfold clipV; omega
  have cr : clipV s.rx (-8388608) 8388608 = s.rx := by unfold clipV; omega
  have ct : clipV s.tp 0 400000 = s.tp := by unfold clipV; omega
  simp only [cq, cr, ct]
  have p1 := prtV_in (v0 - voltV c s ic) gq
  have p2 := prtV_in (v0 - voltV c s ic) gr
  have p3 := prtV_in (v0 - voltV c s (clipV v1 (-1048576) 1048576)) gq
  have p4 := prtV_in (v0 - voltV c s (clipV v1 (-1048576) 1048576)) gr
  have p5 := prtV_in (v2 - s.tp) gt
  clear hV hi hg
  cases h0 <;> cases h1 <;> cases h2 <;> cases h3 <;> simp only [true_implies, reduceCtorEq, false_implies, true_and, and_true, forall_const, Bool.false_eq_true]
  all_goals repeat' (first
    | exact hmax
    | exact tk_bad (by unfold rgR rgB isIn; simp; omega)
    | refine tk_fin ?_ ?_ ?_ ?_
    | refine And.intro ?_ ?_
    | intro _)
  all_goals first
    | omega
    | (unfold rgR rgB isIn; simp; done)
    | (unfold rgR rgB isIn; simp; omega)
    | (unfold fCu; simp; done)
    | (unfold fAm; simp; done)
    | (unfold fSt staOf; simp [corV_eq, Sta.q, Sta.rx, Sta.tp, Sta.th, Sta.ag]; done)
    | (unfold fSt; simp [sta_eta]; done)
noncomputable def SFl : Sums := ⟨SFk.one, (11, mkSumF _ _ rtakF) :: SFk.two, SFk.lo, SFk.eqs, SFk.its, SFk.imm⟩
theorem SFl_ok : SumsOK Try.prog SFl := SFk_ok.addTwo Try.func11 (by kernel_rfl) (by kernel_rfl) (mkSumF_ok rtak_ok)
end
end Abs
end Go.Proofs.Ytonhcmkddonmcaa

/- The statements' small example of layer 3, beside cells. -/
namespace Go.Proofs.Ytonhcmkddonmcaa
namespace Abs
open Go Go.RowKit
noncomputable section
attribute [local irreducible] FnSat
set_option maxRecDepth 100000 in
theorem ebh_ok : FnSpec Try.prog 15 _ behind := by
  refine FnSpec.of SEs3_ok mixed (U := 0) (I := fun _ => []) Try.func15 rfl (by kernel_rfl) rfl rfl (by decide +kernel) ?_
  rintro ⟨⟨(a : Int), (b : Int), (c : Int), (d : Int), ⟨⟩⟩, (r : Int), ⟨⟩⟩ -
  unfold FnSat
  conv => arg 2; reduce
  simp [behind, check, betS, divS, errB]
  have hd : ∀ x : Int, dvI x b = x / b := fun x => by unfold dvI; rfl
  constructor
  · intro h
    have := beh_2 h (r := r)
    omega
  · intro h
    have h1 := sens_of h
    rw [tdiv2 b (by omega)]
    have hm1 := mul_div_le r b (by omega)
    have hm2 := mul_cdiv_le r b (by omega)
    simp only [tmod_z, hd]
    have hq : -1099511627776 ≤ -r / b ∨ r < c ∨ d < r := by
      by_cases hr : r < c ∨ d < r
      · exact .inr hr
      · left; rw [Int.le_ediv_iff_mul_le (by omega)]
        have : -1099511627776 * b ≤ -1099511627776 * 1 := Int.mul_le_mul_of_nonpos_left (by omega) (by omega)
        omega
    have hq2 : -r / b ≤ 1099511627776 ∨ r < c ∨ d < r := by
      by_cases hr : r < c ∨ d < r
      · exact .inr hr
      · left
        have : -r / b < 1099511627777 := by
          rw [Int.ediv_lt_iff_lt_mul (by omega)]
          have : 1099511627777 * 1 ≤ 1099511627777 * b := Int.mul_le_mul_of_nonneg_left (by omega) (by omega)
          omega
        omega
    cases hr : readOK b c d r with
    | false =>
      have := beh_5 h hr
      simp [readOK] at hr
      omega
    | true =>
      obtain ⟨g1, g2, g3⟩ := beh_0 h hr
      rw [g1, g2, g3]
      simp [readOK] at hr
      generalize b * (r / b) = u at *
      generalize b * -(-r / b) = v at *
      repeat' (first | refine And.intro ?_ ?_ | intro _)
      all_goals first | omega | (split <;> omega)
def plainS : Spec [] := ⟨fun _ => True, fun _ => .agg [.li .i64 3, .li .i64 10, .li .i64 0, .li .i64 100]⟩
set_option maxRecDepth 100000 in
theorem plainS_ok : FnSpec Try.prog 14 _ plainS := by
  refine FnSpec.of SEs3_ok mixed (U := 0) (I := fun _ => []) Try.func14 rfl (by kernel_rfl) rfl rfl (by decide +kernel) ?_
  rintro ⟨⟩ -
  unfold FnSat
  conv => arg 2; reduce
  simp [plainS]
noncomputable def SLw0 : Sums := ⟨(15, mkSum _ behind) :: (14, mkSum _ plainS) :: SEs3.one, SEs3.two, SEs3.lo, SEs3.eqs, SEs3.its, SEs3.imm⟩
theorem SLw0_ok : SumsOK Try.prog SLw0 := ((SEs3_ok.cons Try.func14 (by kernel_rfl) (by kernel_rfl) plainS_ok).cons Try.func15 (by kernel_rfl) (by kernel_rfl) ebh_ok)
@[reducible] def sp2w : List (Option IntKind) := [some .i64, some .i64]
def eqsW : List (Nat × List (Option IntKind)) := [(60, sp2w)]
theorem eqsW_ok : ∀ t ks, findS eqsW t = some ks → EqOK Try.prog t ks := by
  intro t ks h
  unfold eqsW at h
  simp only [findS] at h
  split at h
  · rename_i e
    obtain rfl := Nat.eq_of_beq_eq_true e
    injection h with h; subst h
    exact EqOK.of 3 (by decide) (by kernel_rfl) (by kernel_rfl) (by kernel_rfl)
  · cases h
noncomputable def SLw1 : Sums := ⟨SLw0.one, SLw0.two, SLw0.lo, eqsW, SLw0.its, SLw0.imm⟩
theorem SLw1_ok : SumsOK Try.prog SLw1 := SLw0_ok.setEqs eqsW_ok
def tru3 : Spec [] := ⟨fun _ => True, fun _ => .sb true⟩
theorem works_num : showV 3 10 0 100 42 3 = 50 ∧ showE 3 10 0 100 42 3 = 0 ∧ behLo 3 10 0 100 40 = 32 ∧ behHi 3 10 0 100 40 = 47 ∧ behE 3 10 0 100 40 = 0 := by
  simp [showV, showE, behLo, behHi, behE, sensOK, isQ, intoV, stepV, readOK]; decide
set_option maxRecDepth 100000 in
theorem works_ok : FnSpec Try.prog 5 _ tru3 := by
  refine FnSpec.of SLw1_ok mixed (U := 0) (I := fun _ => []) Try.func5 rfl (by kernel_rfl) rfl rfl (by decide +kernel) ?_
  rintro ⟨⟩ -
  unfold FnSat
  conv => arg 2; reduce
  obtain ⟨h1, h2, h3, h4, h5⟩ := works_num
  simp [plainS, show_, behind, tru3, h1, h2, h3, h4, h5]
@[irreducible] def shtB (c : Cel) : Bool := decide (c.ocv.nx ≤ 100) && (decide (c.ocv.ny ≤ 100) && (decide (c.cold.nx ≤ 100) && (decide (c.cold.ny ≤ 100) && (decide (c.stress.nx ≤ 100) && decide (c.stress.ny ≤ 100)))))
theorem shtB_max {c : Cel} (h : shtB c = true) : CelMax c := by
  unfold shtB at h
  simp at h
  unfold CelMax maxLen
  omega
def shtS : Spec [celSh] := ⟨fun _ => True, fun (c, _) => .sb (shtB (celOf c))⟩
set_option maxRecDepth 100000 in
set_option maxHeartbeats 2000000 in
theorem sht_ok : FnSpec Try.prog 4 _ shtS := by
  refine FnSpec.of SLw1_ok mixed (U := 0) (I := fun _ => []) Try.func4 rfl (by kernel_rfl) rfl rfl (by decide +kernel) ?_
  rintro ⟨c, ⟨⟩⟩ -
  obtain ⟨c, rfl⟩ := cel_ex c
  unfold FnSat
  conv => arg 2; reduce
  simp [shtS, shtB]
  rw [Bool.eq_iff_iff]
  simp
  omega
end
end Abs
end Go.Proofs.Ytonhcmkddonmcaa

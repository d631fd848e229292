/- A part of the proof: no statement of its own. -/
import Derived.Test.YtghmkkdmpmmbhaaQGdacbf90a
set_option linter.unusedSimpArgs false
set_option linter.unusedVariables false
/- Cells, by the document: valid ones, their states. -/
namespace Go.Proofs.Ytghmkkdmpmmbhaa
namespace Abs
open Go Go.RowKit
noncomputable section
attribute [local irreducible] FnSat
set_option maxRecDepth 100000 in
theorem floor_ok : FnSpec Try.prog 141 _ divS := by
  refine FnSpec.of SVb_ok mixed (U := 0) (I := fun _ => []) Try.func141 rfl (by kernel_rfl) rfl rfl (by decide +kernel) ?_
  rintro ⟨(n : Int), (d : Int), ⟨⟩⟩ ⟨(h1 : -4611686018427387904 ≤ n), (h2 : n ≤ 4611686018427387904), (h3 : 1 ≤ d)⟩
  unfold FnSat
  conv => arg 2; reduce
  simp [divS, and_assoc]
  exact dvI_by h1 h2 h3
set_option maxRecDepth 100000 in
theorem into_ok : FnSpec Try.prog 147 _ clipS := by
  refine FnSpec.of SVb_ok mixed (U := 0) (I := fun _ => []) Try.func147 rfl (by kernel_rfl) rfl rfl (by decide +kernel) ?_
  rintro ⟨(x : Int), (lo : Int), (hi : Int), ⟨⟩⟩ -
  unfold FnSat
  conv => arg 2; reduce
  simp [clipS, clipV]
set_option maxRecDepth 100000 in
theorem within_ok : FnSpec Try.prog 63 _ betS := by
  refine FnSpec.of SVb_ok mixed (U := 0) (I := fun _ => []) Try.func63 rfl (by kernel_rfl) rfl rfl (by decide +kernel) ?_
  rintro ⟨(x : Int), (lo : Int), (hi : Int), ⟨⟩⟩ -
  unfold FnSat
  conv => arg 2; reduce
  simp [betS, isIn]
set_option maxRecDepth 100000 in
theorem ris_ok : FnSpec Try.prog 157 _ isS := by
  refine FnSpec.of SVb_ok mixed (U := 0) (I := fun _ => []) Try.func157 rfl (by kernel_rfl) rfl rfl (by decide +kernel) ?_
  rintro ⟨(x : Int), ⟨⟩⟩ -
  unfold FnSat
  conv => arg 2; reduce
  simp [isS, isQ]
def SRa : Sums := ⟨(157, mkSum _ isS) :: (63, mkSum _ betS) :: (147, mkSum _ clipS) :: (141, mkSum _ divS) :: SVb.one, SVb.two, SVb.lo, SVb.eqs, SVb.its⟩
theorem SRa_ok : SumsOK Try.prog SRa := ((((SVb_ok.cons Try.func141 (by kernel_rfl) (by kernel_rfl) floor_ok).cons Try.func147 (by kernel_rfl) (by kernel_rfl) into_ok).cons Try.func63 (by kernel_rfl) (by kernel_rfl) within_ok).cons Try.func157 (by kernel_rfl) (by kernel_rfl) ris_ok)
def rcrI : DatL [crvSh] → Anns := fun (c, _) => [
  (6, [], fun fr hp => ⟨Nat, fun g => ⟨frI [.k 3, .s (.si .i64 (icast g)), .k 23, .t 55] fr, hp⟩, Nat × Crv, fun g => (g, crvOf c), fun (g, c) => g ≤ c.nx ∧ (∀ j, j < g → isQ (c.x j) = true ∧ isQ (c.y j) = true) ∧ ∀ j, j + 1 < g → c.x j < c.x (j + 1) ∧ c.y j ≤ c.y (j + 1), fun g => nsub c.1.1 g⟩)]
set_option maxRecDepth 100000 in
theorem rcr_ok : FnSpec Try.prog 140 _ crS := by
  refine FnSpec.of SRa_ok mixed (U := 0) (I := rcrI) Try.func140 rfl (by kernel_rfl) rfl rfl (by decide +kernel) ?_
  rintro ⟨c, ⟨⟩⟩ hpre
  obtain ⟨c, rfl⟩ := crv_ex c
  have hpre : c.nx ≤ maxLen ∧ c.ny ≤ maxLen := hpre
  obtain ⟨p1, p2⟩ := hpre
  unfold FnSat
  conv => arg 2; reduce
  simp [crS, isS, ElEq, getB, goneB, aliveB, and_assoc]
  have bad : (crB c = true → False) → c.nx ≤ 64 → c.ny ≤ 64 → 2 = crE c := fun h h1 h2 => by unfold crE; rw [if_neg (by omega), if_neg (fun hb => h hb)]
  refine ⟨fun h => by unfold crE; rw [if_pos (by omega)], fun n1 n2 => ⟨fun h => bad (fun hb => ?_) (by omega) (by omega), fun h1 h2 => ⟨⟨0, rfl, by omega, fun j hj => by omega, fun j hj => by omega⟩, fun g hg hq hf => ⟨fun hlt => ⟨hlt, fun _ => by omega, fun _ _ _ => hlt, fun _ _ _ => by omega, fun _ _ _ => by omega, fun _ _ _ _ => by omega, fun _ _ _ _ => by omega, fun _ _ _ _ => by omega, fun a b c d => ⟨a, b, c, d⟩, fun a b c => ⟨a, b, c⟩, fun h => bad (fun hb => ?_) (by omega) (by omega), fun a1 a2 a3 => ⟨by omega, by omega, g + 1, by omega, by omega, fun j hj => ?_, fun j hj => ?_, by omega⟩⟩, fun hge => ?_⟩⟩⟩⟩
  · have := crB_iff.1 hb; omega
  · have hb := crB_iff.1 hb
    rcases h with (h | h) | ⟨h0, h⟩
    · rw [(hb.2.2.2.1 g hlt).1] at h; cases h
    · rw [(hb.2.2.2.1 g hlt).2] at h; cases h
    · have := hb.2.2.2.2 (g - 1) (by omega)
      rw [show g - 1 + 1 = g by omega] at this
      omega
  · by_cases h' : j < g
    · exact hq j h'
    · obtain rfl : j = g := by omega
      exact ⟨a1, a2⟩
  · by_cases h' : j + 1 < g
    · exact hf j h'
    · have := a3 (by omega)
      rw [show j = g - 1 by omega, show g - 1 + 1 = g by omega]
      exact this
  · exact (crE_iff.2 (crB_iff.2 ⟨by omega, by omega, by omega, fun k hk => hq k (by omega), fun k hk => hf k (by omega)⟩)).symm
def SRb : Sums := ⟨(140, mkSum _ crS) :: SRa.one, SRa.two, SRa.lo, SRa.eqs, SRa.its⟩
theorem SRb_ok : SumsOK Try.prog SRb := (SRa_ok.cons Try.func140 (by kernel_rfl) (by kernel_rfl) rcr_ok)
set_option maxRecDepth 100000 in
theorem rscale_ok : FnSpec Try.prog 116 _ scaleS := by
  refine FnSpec.of SRb_ok mixed (U := 0) (I := fun _ => []) Try.func116 rfl (by kernel_rfl) rfl rfl (by decide +kernel) ?_
  rintro ⟨c, (last : Int), (most : Int), ⟨⟩⟩ hpre
  obtain ⟨c, rfl⟩ := crv_ex c
  have hpre : c.nx ≤ maxLen ∧ c.ny ≤ maxLen := hpre
  obtain ⟨p1, p2⟩ := hpre
  unfold FnSat
  conv => arg 2; reduce
  simp [scaleS, crS, and_assoc]
  refine ⟨p1, p2, fun h => ?_, fun h => ?_⟩
  · have hb : crB c = false := by
      cases hb : crB c with
      | false => rfl
      | true => exact absurd (crE_iff.2 hb) h
    unfold scB; rw [hb]; simp
  · have hb : crB c = true := crE_iff.1 h
    have h1 := crB_iff.1 hb
    unfold maxLen at p1 p2
    refine ⟨by omega, fun _ => by omega, fun _ => by omega, fun _ _ => by omega, fun _ _ _ => by omega, fun _ _ _ => by omega, ?_⟩
    unfold scB
    rw [Bool.eq_iff_iff]
    simp [hb]
def rvalS : Spec [crvSh, .int .i64] := ⟨fun (c, (x : Int), _) => (crB (crvOf c) = true ∧ (crvOf c).x 0 = 0 ∧ (crvOf c).x ((crvOf c).nx - 1) ≤ 400000 ∧ 0 ≤ (crvOf c).y 0 ∧ (crvOf c).y ((crvOf c).nx - 1) ≤ 8388608) ∧ -1099511627776 ≤ x ∧ x ≤ 1099511627776, fun (c, (x : Int), _) => .si .i64 (valL (crvOf c) x)⟩
def rvalI : DatL [crvSh, .int .i64] → Anns := fun (c, (x : Int), _) => [
  (7, [], fun fr hp => ⟨Nat, fun g => ⟨frI [.k 6, .s (.si .i64 (icast g)), .k 27, .t 10, .k 39] fr, hp⟩, Nat × Crv × Int, fun g => (g, crvOf c, x), fun (g, c, x) => g + 1 < c.nx ∧ c.x g ≤ x, fun g => nsub c.1.1 g⟩)]
set_option maxRecDepth 100000 in
theorem rval_ok : FnSpec Try.prog 146 _ rvalS := by
  refine FnSpec.of SRb_ok mixed (U := 0) (I := rvalI) Try.func146 rfl (by kernel_rfl) rfl rfl (by decide +kernel) ?_
  rintro ⟨c, (x : Int), ⟨⟩⟩ hpre
  obtain ⟨c, rfl⟩ := crv_ex c
  have hpre : (crB c = true ∧ c.x 0 = 0 ∧ c.x (c.nx - 1) ≤ 400000 ∧ 0 ≤ c.y 0 ∧ c.y (c.nx - 1) ≤ 8388608) ∧ -1099511627776 ≤ x ∧ x ≤ 1099511627776 := by
    have h : (crB (crvOf (crvD c)) = true ∧ (crvOf (crvD c)).x 0 = 0 ∧ (crvOf (crvD c)).x ((crvOf (crvD c)).nx - 1) ≤ 400000 ∧ 0 ≤ (crvOf (crvD c)).y 0 ∧ (crvOf (crvD c)).y ((crvOf (crvD c)).nx - 1) ≤ 8388608) ∧ -1099511627776 ≤ x ∧ x ≤ 1099511627776 := hpre
    rwa [show crvOf (crvD c) = c from crvOf_mk c] at h
  obtain ⟨⟨hc, hx0, hxn, hy0, hyn⟩, x1, x2⟩ := hpre
  unfold FnSat
  conv => arg 2; reduce
  simp [rvalS, divS, and_assoc]
  have hb := crB_iff.1 hc
  have vlo : x ≤ c.x 0 → c.y 0 = valL c x := fun h => by
    have hx := crv_x hc (j := c.nx - 1) (i := 0) (by omega) (by omega)
    unfold valL
    rw [if_neg (by omega)]
    split
    · rfl
    · have e : x = c.x 0 := by omega
      have h2 := crv_x hc (j := 1) (i := 0) (by omega) (by omega)
      rw [sgI_uniq hc (i := 0) (by omega) (by omega) (by show x < c.x 1; omega)]
      unfold pcL
      rw [e, Int.sub_self, Int.zero_mul, Int.zero_ediv, Int.add_zero]
  refine ⟨by omega, fun h => ⟨by omega, vlo h⟩, fun h => ⟨by omega, by omega, by omega, by omega, fun h2 => ⟨by omega, by omega, by omega, by omega, ?_⟩, fun h2 => ⟨⟨0, rfl, by omega, by omega⟩, fun g hg hx => ?_⟩⟩⟩
  · unfold valL; rw [if_pos h2]
  · have gx := hb.2.2.2.2 g hg
    have x0 := crv_x hc (j := g) (i := 0) (by omega) (by omega)
    have x3 := crv_x hc (j := c.nx - 1) (i := g + 1) (by omega) (by omega)
    have y0' := crv_y hc (j := g) (i := 0) (by omega) (by omega)
    have y3 := crv_y hc (j := c.nx - 1) (i := g + 1) (by omega) (by omega)
    refine ⟨by omega, by omega, by omega, by omega, fun h3 => ⟨by omega, by omega, g + 1, by omega, by have hne : g + 1 ≠ c.nx - 1 := (fun e => by rw [e] at h3; omega); omega, h3, by omega⟩, fun h3 => ?_⟩
    have m := mul_in (a := x - c.x g) (b := c.y (g + 1) - c.y g) (A := 400000) (B := 8388608) (by omega) (by omega) (by omega) (by omega)
    have pc := pc_in hc hg hx (by omega)
    have e : c.y g + dvI ((x - c.x g) * (c.y (g + 1) - c.y g)) (c.x (g + 1) - c.x g) = pcL c g x := by unfold pcL dvI; rfl
    have e2 : pcL c g x = valL c x := by
      unfold valL
      rw [if_neg (by omega), if_neg (by omega), sgI_uniq hc hg hx h3]
    rw [e]
    exact ⟨by omega, by omega, by omega, by omega, by omega, by omega, by omega, by omega, by omega, by omega, by omega, by omega, by omega, by omega, by omega, by omega, by omega, by omega, by omega, by omega, by omega, by omega, by omega, by omega, by omega, e2⟩
def rwearS : Spec [celSh, .int .i64, .int .i64] := ⟨fun (c, (t : Int), (a : Int), _) => WearOK (celOf c) t a, fun (c, (t : Int), (a : Int), _) => .si .i64 (wearV (celOf c) t a)⟩
set_option maxRecDepth 100000 in
theorem rwear_ok : FnSpec Try.prog 117 _ rwearS := by
  refine FnSpec.of SRb_ok mixed (U := 0) (I := fun _ => []) Try.func117 rfl (by kernel_rfl) rfl rfl (by decide +kernel) ?_
  rintro ⟨c, (t : Int), (a : Int), ⟨⟩⟩ hpre
  obtain ⟨c, rfl⟩ := cel_ex c
  have hpre : WearOK c t a := by have : WearOK (celOf (celD c)) t a := hpre; rwa [celOf_D] at this
  unfold FnSat
  conv => arg 2; reduce
  simp [rwearS, divS, and_assoc]
  have h1 := mul_in hpre.t0 hpre.t1 hpre.c0 hpre.c1
  have h2 := mul_in hpre.g0 hpre.g1 hpre.a0 hpre.a1
  have h3 := wearV_in hpre
  have e : dvI (t * c.cyc) 1073741824 + dvI (a * c.agel) 1073741824 = wearV c t a := by unfold wearV; rfl
  rw [e]
  omega
def SRc : Sums := ⟨(117, mkSum _ rwearS) :: (146, mkSum _ rvalS) :: (116, mkSum _ scaleS) :: SRb.one, SRb.two, SRb.lo, SRb.eqs, SRb.its⟩
theorem SRc_ok : SumsOK Try.prog SRc := (((SRb_ok.cons Try.func116 (by kernel_rfl) (by kernel_rfl) rscale_ok).cons Try.func146 (by kernel_rfl) (by kernel_rfl) rval_ok).cons Try.func117 (by kernel_rfl) (by kernel_rfl) rwear_ok)
def rcapS : Spec [celSh, staSh] := ⟨fun (c, s, _) => WearOK (celOf c) (staOf s).th (staOf s).ag ∧ 0 ≤ (celOf c).cap ∧ (celOf c).cap ≤ 4294967296, fun (c, s, _) => .si .i64 (roomV (celOf c) (wearV (celOf c) (staOf s).th (staOf s).ag))⟩
set_option maxRecDepth 100000 in
theorem rcap_ok : FnSpec Try.prog 64 _ rcapS := by
  refine FnSpec.of SRc_ok mixed (U := 0) (I := fun _ => []) Try.func64 rfl (by kernel_rfl) rfl rfl (by decide +kernel) ?_
  rintro ⟨c, s, ⟨⟩⟩ hpre
  obtain ⟨c, rfl⟩ := cel_ex c
  obtain ⟨s, rfl⟩ := sta_ex s
  have hpre : WearOK c s.th s.ag ∧ 0 ≤ c.cap ∧ c.cap ≤ 4294967296 := by have : WearOK (celOf (celD c)) (staOf (staD s)).th (staOf (staD s)).ag ∧ 0 ≤ (celOf (celD c)).cap ∧ (celOf (celD c)).cap ≤ 4294967296 := hpre; rwa [celOf_D, staOf_D] at this
  obtain ⟨hw, c0, c1⟩ := hpre
  unfold FnSat
  conv => arg 2; reduce
  simp [rcapS, rwearS, and_assoc]
  have := wearV_in hw
  unfold roomV
  exact ⟨hw, by omega, by omega, rfl⟩
set_option maxRecDepth 100000 in
set_option maxHeartbeats 4000000 in
theorem rcheck_ok : FnSpec Try.prog 62 _ ccheckS := by
  refine FnSpec.of SRc_ok mixed (U := 0) (I := fun _ => []) Try.func62 rfl (by kernel_rfl) rfl rfl (by decide +kernel) ?_
  rintro ⟨c, ⟨⟩⟩ hpre
  obtain ⟨c, rfl⟩ := cel_ex c
  have hpre : CelMax c := by have : CelMax (celOf (celD c)) := hpre; rwa [celOf_D] at this
  obtain ⟨p1, p2, p3, p4, p5, p6⟩ := hpre
  unfold FnSat
  conv => arg 2; reduce
  simp [ccheckS, betS, scaleS, and_assoc]
  have no : (CelOK c → False) → 2 = errA (celB c) := fun h => by rw [celB_no h]; simp [errA]
  refine ⟨fun _ _ => ⟨p1, p2⟩, fun _ _ _ => ⟨p3, p4⟩, fun _ _ _ _ => ⟨p5, p6⟩, fun h => no fun k => ?_, fun q0 q1 h1 h2 h3 => ⟨fun h => no fun k => ?_, fun q2 q3 q4 q5 q6 q7 q8 q9 q10 q11 q12 q13 q14 q15 => ⟨fun h => no fun k => ?_, fun q16 q17 q18 q19 q20 q21 => ?_⟩⟩⟩
  · have := k.cap0
    have := k.cap1
    rcases h with (((h | h) | h) | h) | h
    · omega
    · omega
    · rw [k.ocv] at h; cases h
    · rw [k.cold] at h; cases h
    · rw [k.stress] at h; cases h
  · have := k.sh0
    have := k.sh1
    have := k.ex0
    have := k.ex1
    have := k.pr0
    have := k.pr1
    have := k.lk0
    have := k.lk1
    have := k.kp0
    have := k.kp1
    have := k.co0
    have := k.co1
    have := k.hc0
    have := k.hc1
    omega
  · have := k.cy0
    have := k.cy1
    have := k.al0
    have := k.al1
    have := k.gr0
    have := k.gr1
    omega
  · rw [celB_iff.2 ⟨q0, q1, q2, q3, q4, q5, q6, q7, q8, q9, q10, q11, q12, q13, q14, q15, q16, q17, q18, q19, q20, q21, h1, h2, h3⟩]; simp [errA]
def SRd : Sums := ⟨(62, mkSum _ ccheckS) :: (64, mkSum _ rcapS) :: SRc.one, SRc.two, SRc.lo, SRc.eqs, SRc.its⟩
theorem SRd_ok : SumsOK Try.prog SRd := ((SRc_ok.cons Try.func64 (by kernel_rfl) (by kernel_rfl) rcap_ok).cons Try.func62 (by kernel_rfl) (by kernel_rfl) rcheck_ok)
set_option maxRecDepth 100000 in
set_option maxHeartbeats 4000000 in
theorem rcst_ok : FnSpec Try.prog 15 _ cstS := by
  refine FnSpec.of SRd_ok mixed (U := 0) (I := fun _ => []) Try.func15 rfl (by kernel_rfl) rfl rfl (by decide +kernel) ?_
  rintro ⟨c, s, ⟨⟩⟩ hpre
  obtain ⟨c, rfl⟩ := cel_ex c
  obtain ⟨s, rfl⟩ := sta_ex s
  have hpre : CelMax c := by have : CelMax (celOf (celD c)) := hpre; rwa [celOf_D] at this
  unfold FnSat
  conv => arg 2; reduce
  simp [cstS, betS, ccheckS, rcapS, and_assoc]
  refine ⟨hpre, fun h => (csE_2 h).symm, fun h => ⟨fun t0 t1 h0 h1 a0 a1 r0 r1 => ?_, fun h' => (csE_3 h fun k => ?_).symm, fun t0 t1 h0 h1 a0 a1 r0 r1 q0 q1 => (csE_0 h ⟨t0, t1, h0, h1, a0, a1, r0, r1, q0, q1⟩).symm⟩⟩
  · have hc := celB_iff.1 h
    exact ⟨⟨hc.cy0, hc.cy1, hc.al0, hc.al1, h0, by omega, a0, by omega⟩, by have := hc.cap0; omega, hc.cap1⟩
  · have := k.t0
    have := k.t1
    have := k.h0
    have := k.h1
    have := k.a0
    have := k.a1
    have := k.r0
    have := k.r1
    have := k.q0
    have := k.q1
    omega
def SRe : Sums := ⟨(15, mkSum _ cstS) :: SRd.one, SRd.two, SRd.lo, SRd.eqs, SRd.its⟩
theorem SRe_ok : SumsOK Try.prog SRe := (SRd_ok.cons Try.func15 (by kernel_rfl) (by kernel_rfl) rcst_ok)
end
end Abs
end Go.Proofs.Ytghmkkdmpmmbhaa

/- Whether a cell has too long curves. -/
namespace Go.Proofs.Ytghmkkdmpmmbhaa
namespace Abs
open Go Go.RowKit
noncomputable section
attribute [local irreducible] FnSat
@[irreducible] def lngB (c : Crv) : Bool := decide (80 < c.nx) || decide (80 < c.ny)
@[irreducible] def grtB (c : Cel) : Bool := lngB c.ocv || lngB c.cold || lngB c.stress
theorem grtB_no {c : Cel} (h : grtB c = false) : CelMax c := by
  unfold grtB lngB at h
  simp at h
  unfold CelMax maxLen
  omega
def lngS : Spec [crvSh] := ⟨fun _ => True, fun (c, _) => .sb (lngB (crvOf c))⟩
set_option maxRecDepth 100000 in
theorem lng_ok : FnSpec Try.prog 61 _ lngS := by
  refine FnSpec.of SRe_ok mixed (U := 0) (I := fun _ => []) Try.func61 rfl (by kernel_rfl) rfl rfl (by decide +kernel) ?_
  rintro ⟨c, ⟨⟩⟩ -
  obtain ⟨c, rfl⟩ := crv_ex c
  unfold FnSat
  conv => arg 2; reduce
  simp [lngS, lngB]
  rw [Bool.eq_iff_iff]
  simp
  omega
def SRf : Sums := ⟨(61, mkSum _ lngS) :: SRe.one, SRe.two, SRe.lo, SRe.eqs, SRe.its⟩
theorem SRf_ok : SumsOK Try.prog SRf := (SRe_ok.cons Try.func61 (by kernel_rfl) (by kernel_rfl) lng_ok)
def grtS : Spec [celSh] := ⟨fun _ => True, fun (c, _) => .sb (grtB (celOf c))⟩
set_option maxRecDepth 100000 in
theorem grt_ok : FnSpec Try.prog 14 _ grtS := by
  refine FnSpec.of SRf_ok mixed (U := 0) (I := fun _ => []) Try.func14 rfl (by kernel_rfl) rfl rfl (by decide +kernel) ?_
  rintro ⟨c, ⟨⟩⟩ -
  obtain ⟨c, rfl⟩ := cel_ex c
  unfold FnSat
  conv => arg 2; reduce
  simp [grtS, lngS, grtB]
/-- the next state, as it is told -/
@[irreducible] def stA (c : Cel) (s : Sta) (i a : Int) : Sta := ⟨aV c s (stpV c s i a (nxQ c s i)), aV c s (stpV c s i a (nxR c s i)), aV c s (stpV c s i a (nxT c s i a)), aV c s (stpV c s i a (nxH s i)), aV c s (stpV c s i a (nxA c s))⟩
@[irreducible] def stAE (c : Cel) (s : Sta) (i a : Int) : Int := aE c s (stpE c s i a)
def stpT : Spec [celSh, staSh, inSh] := ⟨fun (c, _) => CelMax (celOf c), fun (c, s, ((i : Int), (a : Int), _), _) =>
  .tup [.agg [.si .i64 (stA (celOf c) (staOf s) i a).q, .si .i64 (stA (celOf c) (staOf s) i a).rx, .si .i64 (stA (celOf c) (staOf s) i a).tp, .si .i64 (stA (celOf c) (staOf s) i a).th, .si .i64 (stA (celOf c) (staOf s) i a).ag],
    .si .i64 (stAE (celOf c) (staOf s) i a)]⟩
theorem stpT_ok : FnSpec Try.prog 18 _ stpT := fun x hx => by
  have h := stp_ok x hx
  have e : stpS.res x = stpT.res x := by
    obtain ⟨c, s, ⟨(i : Int), (a : Int), ⟨⟩⟩, ⟨⟩⟩ := x
    show AV.tup _ = AV.tup _
    unfold stA stAE
    simp
  rw [← e]; exact h
theorem stA_iff {c : Cel} {s : Sta} {i a : Int} (h : csE c s = 0) : (stAE c s i a = 0 ↔ inB i a = true ∧ ovr c s i = false) ∧ (stAE c s i a = 0 ∨ stAE c s i a = 3 ∨ stAE c s i a = 4) := by
  unfold stAE
  rw [aE_yes h]
  unfold stpE
  cases inB i a <;> cases ovr c s i <;> simp
theorem stA_0 {c : Cel} {s : Sta} {i a : Int} (h : csE c s = 0) (h2 : stAE c s i a = 0) : stA c s i a = ⟨nxQ c s i, nxR c s i, nxT c s i a, nxH s i, nxA c s⟩ := by
  have h3 : stpE c s i a = 0 := by unfold stAE at h2; rwa [aE_yes h] at h2
  unfold stA
  simp only [aV_yes h, stpV_yes h3]
/-- the next state is valid -/
theorem stA_ok {c : Cel} {s : Sta} {i a : Int} (h : csE c s = 0) (h2 : stAE c s i a = 0) : StOK c (stA c s i a) ∧ -1048576 ≤ i ∧ i ≤ 1048576 ∧ 0 ≤ a ∧ a ≤ 400000 := by
  have h3 := ((stA_iff h).1.1 h2)
  have h4 := inB_iff.1 h3.1
  have h5 := h3.2
  unfold ovr at h5
  simp at h5
  obtain ⟨hc, hs⟩ := csE_iff.1 h
  have hk := celB_iff.1 hc
  rw [stA_0 h h2]
  refine ⟨?_, h4.1.1, h4.1.2, h4.2.1, h4.2.2⟩
  have vs := sc_val hk.stress s.tp
  have := hs.h0
  have := hs.a0
  have hH : nxH s i = s.th + max i (-i) := by unfold nxH; rfl
  have hA : nxA c s = s.ag + valL c.stress s.tp := by unfold nxA; rfl
  have hR : -8388608 ≤ nxR c s i ∧ nxR c s i ≤ 8388608 := by unfold nxR slackV; exact clipV_in (by decide)
  have hT : 0 ≤ nxT c s i a ∧ nxT c s i a ≤ 400000 := by unfold nxT; exact clipV_in (by decide)
  have hQ : 0 ≤ nxQ c s i ∧ nxQ c s i ≤ roomV c (wearV c (nxH s i) (nxA c s)) := by
    unfold nxQ
    refine clipV_in ?_
    have := (@roomV_in c (wearV c (nxH s i) (nxA c s))).1
    omega
  constructor <;> simp only [Sta.q_mk, Sta.rx_mk, Sta.tp_mk, Sta.th_mk, Sta.ag_mk] <;> omega
def SRg : Sums := ⟨(19, mkSum _ filS) :: (17, mkSum _ capS) :: (18, mkSum _ stpT) :: (14, mkSum _ grtS) :: SRf.one, SRf.two, SRf.lo, SRf.eqs, SRf.its⟩
theorem SRg_ok : SumsOK Try.prog SRg := ((((SRf_ok.cons Try.func14 (by kernel_rfl) (by kernel_rfl) grt_ok).cons Try.func18 (by kernel_rfl) (by kernel_rfl) stpT_ok).cons Try.func17 (by kernel_rfl) (by kernel_rfl) cap_ok).cons Try.func19 (by kernel_rfl) (by kernel_rfl) fil_ok)
end
end Abs
end Go.Proofs.Ytghmkkdmpmmbhaa

/- Cells: what is safe, the greatest of it; limits. -/
namespace Go.Proofs.Ytghmkkdmpmmbhaa
namespace Abs
open Go Go.RowKit
noncomputable section
attribute [local irreducible] FnSat
-- the greatest number that is safe, where nothing behind what is not safe is
@[irreducible] def grI (p : Int → Bool) (most : Int) : Int := ((firstN (fun k => !(p ((k : Int) + 1))) most.toNat : Nat) : Int)
structure Mono (p : Int → Bool) (most : Int) : Prop where
  h0 : 0 ≤ most
  p0 : p 0 = true
  dn : ∀ i j, 0 ≤ i → i ≤ j → j ≤ most → p j = true → p i = true
theorem grI_uniq {p : Int → Bool} {most g : Int} (h : Mono p most) (g0 : 0 ≤ g) (g1 : g ≤ most) (hp : p g = true) (hn : g < most → p (g + 1) = false) : grI p most = g := by
  unfold grI
  have e : firstN (fun k : Nat => !(p ((k : Int) + 1))) most.toNat = g.toNat := by
    refine firstN_uniq (by omega) (fun j hj => ?_) (fun hlt => ?_)
    · have := h.dn ((j : Int) + 1) g (by omega) (by omega) g1 hp
      simp [this]
    · have e1 : ((g.toNat : Nat) : Int) + 1 = g + 1 := by omega
      simp only [e1, hn (by omega), Bool.not_false]
  rw [e]; omega
theorem grI_spec {p : Int → Bool} {most : Int} (h : Mono p most) : 0 ≤ grI p most ∧ grI p most ≤ most ∧ p (grI p most) = true ∧ ∀ i, grI p most < i → i ≤ most → p i = false := by
  have hle := firstN_le (fun k : Nat => !(p ((k : Int) + 1))) most.toNat
  have h0 := h.h0
  have hp : p (grI p most) = true := by
    unfold grI
    cases hf : firstN (fun k : Nat => !(p ((k : Int) + 1))) most.toNat with
    | zero => exact h.p0
    | succ m =>
      have := firstN_not (fun k : Nat => !(p ((k : Int) + 1))) most.toNat m (by omega)
      simpa using this
  have hb : 0 ≤ grI p most ∧ grI p most ≤ most := by unfold grI; omega
  refine ⟨hb.1, hb.2, hp, fun i h1 h2 => ?_⟩
  cases hi : p i with
  | false => rfl
  | true =>
    exfalso
    have hlt : firstN (fun k : Nat => !(p ((k : Int) + 1))) most.toNat < most.toNat := by unfold grI at h1; omega
    have := firstN_is _ _ hlt
    have h3 : p (grI p most + 1) = true := h.dn _ i (by omega) (by omega) h2 hi
    unfold grI at h3
    simp [h3] at this
@[irreducible] def outP (c : Cel) (s : Sta) (l h a i : Int) : Bool := decide (l ≤ voltV c s i) && decide (i + c.leak ≤ s.q) && decide (nxT c s i a ≤ h)
@[irreducible] def inP (c : Cel) (s : Sta) (m h a j : Int) : Bool := decide (voltV c s (-j) ≤ m) && decide (nxT c s (-j) a ≤ h) && decide (s.q + j - c.leak ≤ roomV c (wearV c (nxH s (-j)) (nxA c s)))
theorem outP_iff {c : Cel} {s : Sta} {l h a i : Int} : outP c s l h a i = true ↔ l ≤ voltV c s i ∧ i + c.leak ≤ s.q ∧ nxT c s i a ≤ h := by unfold outP; simp [and_assoc]
theorem inP_iff {c : Cel} {s : Sta} {m h a j : Int} : inP c s m h a j = true ↔ voltV c s (-j) ≤ m ∧ nxT c s (-j) a ≤ h ∧ s.q + j - c.leak ≤ roomV c (wearV c (nxH s (-j)) (nxA c s)) := by unfold inP; simp [and_assoc]
theorem voltV_mono {c : Cel} {s : Sta} {i j : Int} (h : i ≤ j) : voltV c s j ≤ voltV c s i := by
  have := dvI_mono (d := 1000) (by decide) (Int.mul_le_mul_of_nonneg_right h (@rV_in c s).1)
  unfold voltV
  omega
theorem sq_mono {i j : Int} (h0 : 0 ≤ i) (h : i ≤ j) : i * i ≤ j * j := Int.mul_le_mul h h h0 (by omega)
theorem heatV_mono {c : Cel} {s : Sta} {i j : Int} (h0 : 0 ≤ i) (h : i ≤ j) : heatV c s i ≤ heatV c s j := by
  have := dvI_mono (d := 1000000000) (by decide) (Int.mul_le_mul_of_nonneg_right (sq_mono h0 h) (@rV_in c s).1)
  unfold heatV
  omega
theorem heatV_neg (c : Cel) (s : Sta) (i : Int) : heatV c s (-i) = heatV c s i := by unfold heatV; rw [Int.neg_mul_neg]
theorem nxT_heat {c : Cel} {s : Sta} {i j a : Int} (hc : celB c = true) (h : heatV c s i ≤ heatV c s j) : nxT c s i a ≤ nxT c s j a := by
  have := dvI_mono (d := c.hcap) (celB_iff.1 hc).hc0 (show 1000 * heatV c s i ≤ 1000 * heatV c s j by omega)
  unfold nxT
  exact clipV_mono (by omega)
theorem out_mono {c : Cel} {s : Sta} {l h a most : Int} (hc : celB c = true) (h0 : 0 ≤ most) (hp : outP c s l h a 0 = true) : Mono (outP c s l h a) most := by
  refine ⟨h0, hp, fun i j i0 ij _ hj => ?_⟩
  obtain ⟨h1, h2, h3⟩ := outP_iff.1 hj
  have v := @voltV_mono c s i j ij
  have t := nxT_heat (a := a) hc (@heatV_mono c s i j i0 ij)
  exact outP_iff.2 ⟨by omega, by omega, by omega⟩
theorem in_mono {c : Cel} {s : Sta} {m h a most : Int} (hc : celB c = true) (h0 : 0 ≤ most) (hp : inP c s m h a 0 = true) : Mono (inP c s m h a) most := by
  refine ⟨h0, hp, fun i j i0 ij _ hj => ?_⟩
  obtain ⟨h1, h2, h3⟩ := inP_iff.1 hj
  have hk := celB_iff.1 hc
  have v := @voltV_mono c s (-j) (-i) (by omega)
  have t := nxT_heat (c := c) (s := s) (i := -i) (j := -j) (a := a) hc (by rw [heatV_neg, heatV_neg]; exact heatV_mono i0 ij)
  have hH : nxH s (-i) ≤ nxH s (-j) := by unfold nxH; omega
  have m1 := dvI_mono (d := 1073741824) (by decide) (Int.mul_le_mul_of_nonneg_right hH hk.cy0)
  have r : roomV c (wearV c (nxH s (-j)) (nxA c s)) ≤ roomV c (wearV c (nxH s (-i)) (nxA c s)) := by unfold roomV wearV; omega
  exact inP_iff.2 ⟨by omega, by omega, by omega⟩
-- limits
@[reducible] def limCells : List Sh := [.int .i64, .int .i64, .int .i64, .int .i64, .int .i64]
@[reducible] def limSh : Sh := .agg limCells
@[irreducible] def limB (l m o i h : Int) : Bool := isIn (-8388608) l 8388608 && isIn (-8388608) m 8388608 && decide (l ≤ m) && isIn 0 o 1048576 && isIn 0 i 1048576 && isIn 0 h 400000
theorem limB_iff {l m o i h : Int} : limB l m o i h = true ↔ (-8388608 ≤ l ∧ l ≤ 8388608) ∧ (-8388608 ≤ m ∧ m ≤ 8388608) ∧ l ≤ m ∧ (0 ≤ o ∧ o ≤ 1048576) ∧ (0 ≤ i ∧ i ≤ 1048576) ∧ 0 ≤ h ∧ h ≤ 400000 := by unfold limB isIn; simp [and_assoc]
def limS : Spec [limSh] := ⟨fun _ => True, fun (((l : Int), (m : Int), (o : Int), (i : Int), (h : Int), _), _) => .si .i64 (errA (limB l m o i h))⟩
set_option maxRecDepth 100000 in
theorem lim_ok : FnSpec Try.prog 126 _ limS := by
  refine FnSpec.of SRg_ok mixed (U := 0) (I := fun _ => []) Try.func126 rfl (by kernel_rfl) rfl rfl (by decide +kernel) ?_
  rintro ⟨⟨(l : Int), (m : Int), (o : Int), (i : Int), (h : Int), ⟨⟩⟩, ⟨⟩⟩ -
  unfold FnSat
  conv => arg 2; reduce
  simp [limS, betS, and_assoc]
  have no : (limB l m o i h = true → False) → 2 = errA (limB l m o i h) := fun hh => by
    cases hb : limB l m o i h with
    | false => simp [errA]
    | true => exact (hh hb).elim
  refine ⟨fun hh => no fun hb => ?_, fun q0 q1 q2 q3 q4 q5 q6 q7 q8 q9 q10 => ?_⟩
  · have := limB_iff.1 hb; omega
  · rw [limB_iff.2 ⟨⟨q0, q1⟩, ⟨q2, q3⟩, q4, ⟨q5, q6⟩, ⟨q7, q8⟩, q9, q10⟩]; simp [errA]
set_option maxRecDepth 100000 in
theorem rlim_ok : FnSpec Try.prog 82 _ limS := by
  refine FnSpec.of SRg_ok mixed (U := 0) (I := fun _ => []) Try.func82 rfl (by kernel_rfl) rfl rfl (by decide +kernel) ?_
  rintro ⟨⟨(l : Int), (m : Int), (o : Int), (i : Int), (h : Int), ⟨⟩⟩, ⟨⟩⟩ -
  unfold FnSat
  conv => arg 2; reduce
  simp [limS, betS, and_assoc]
  have no : (limB l m o i h = true → False) → 2 = errA (limB l m o i h) := fun hh => by
    cases hb : limB l m o i h with
    | false => simp [errA]
    | true => exact (hh hb).elim
  refine ⟨fun hh => no fun hb => ?_, fun q0 q1 q2 q3 q4 q5 q6 q7 q8 q9 q10 => ?_⟩
  · have := limB_iff.1 hb; omega
  · rw [limB_iff.2 ⟨⟨q0, q1⟩, ⟨q2, q3⟩, q4, ⟨q5, q6⟩, ⟨q7, q8⟩, q9, q10⟩]; simp [errA]
def SMa : Sums := ⟨(82, mkSum _ limS) :: (126, mkSum _ limS) :: SRg.one, SRg.two, SRg.lo, SRg.eqs, SRg.its⟩
theorem SMa_ok : SumsOK Try.prog SMa := ((SRg_ok.cons Try.func126 (by kernel_rfl) (by kernel_rfl) lim_ok).cons Try.func82 (by kernel_rfl) (by kernel_rfl) rlim_ok)
end
end Abs
end Go.Proofs.Ytghmkkdmpmmbhaa

/- Cells, by the program: the greatest safe currents. -/
namespace Go.Proofs.Ytghmkkdmpmmbhaa
namespace Abs
open Go Go.RowKit
noncomputable section
attribute [local irreducible] FnSat
@[reducible] def outCap : List Sh := [.ptr limCells, .ptr staCells, .ptr [.int .i64]]
def outS1 : Spec [vwSh, .int .i64, .ptr limCells, .ptr staCells, .ptr [.int .i64]] := ⟨fun (v, (i : Int), _, s, ((a : Int), _), _) => VwOK v ∧ staOf s = vwS v ∧ 0 ≤ i ∧ i ≤ 1048576 ∧ 0 ≤ a ∧ a ≤ 400000,
  fun (v, (i : Int), ((l : Int), (_ : Int), (_ : Int), (_ : Int), (h : Int), _), _, ((a : Int), _), _) => .sb (outP (vwC v) (vwS v) l h a i)⟩
set_option maxRecDepth 100000 in
set_option maxHeartbeats 2000000 in
theorem out_ok1 : FnSpec Try.prog 81 _ outS1 := by
  refine FnSpec.of SMa_ok mixed (U := 0) (I := fun _ => []) Try.func81 rfl (by kernel_rfl) rfl rfl (by decide +kernel) ?_
  rintro ⟨v, (i : Int), ⟨(l : Int), (m : Int), (o : Int), (k : Int), (h : Int), ⟨⟩⟩, s', ⟨(a : Int), ⟨⟩⟩, ⟨⟩⟩ ⟨hv, hs', (i1 : 0 ≤ i), (i2 : i ≤ 1048576), (a1 : 0 ≤ a), (a2 : a ≤ 400000)⟩
  obtain ⟨c, s, rfl, h1, h2⟩ := vw_ex (show VwOK v from hv)
  obtain ⟨s', rfl⟩ := sta_ex s'
  have e1 := vwC_D c s
  have e2 := vwS_D c s
  obtain rfl : s' = s := by rw [e2] at hs'; exact (staOf_D s').symm.trans hs'
  unfold FnSat
  conv => arg 2; reduce
  simp [outS1, vvoltS, vnextS, e1, e2, and_assoc]
  have hk := celB_iff.1 h1
  have := hk.lk0
  have := hk.lk1
  exact ⟨vw_ok h1 h2, by omega, i2, fun _ => by omega, fun _ _ => ⟨vw_ok h1 h2, by omega, i2, a1, a2⟩, by unfold outP; rfl⟩
def inS1 : Spec [vwSh, .int .i64, .ptr [.int .i64], .ptr limCells, .ptr staCells] := ⟨fun (v, (i : Int), ((a : Int), _), _, s, _) => VwOK v ∧ staOf s = vwS v ∧ 0 ≤ i ∧ i ≤ 1048576 ∧ 0 ≤ a ∧ a ≤ 400000,
  fun (v, (i : Int), ((a : Int), _), ((_ : Int), (m : Int), (_ : Int), (_ : Int), (h : Int), _), _) => .sb (inP (vwC v) (vwS v) m h a i)⟩
set_option maxRecDepth 100000 in
set_option maxHeartbeats 2000000 in
theorem in_ok1 : FnSpec Try.prog 84 _ inS1 := by
  refine FnSpec.of SMa_ok mixed (U := 0) (I := fun _ => []) Try.func84 rfl (by kernel_rfl) rfl rfl (by decide +kernel) ?_
  rintro ⟨v, (i : Int), ⟨(a : Int), ⟨⟩⟩, ⟨(l : Int), (m : Int), (o : Int), (k : Int), (h : Int), ⟨⟩⟩, s', ⟨⟩⟩ ⟨hv, hs', (i1 : 0 ≤ i), (i2 : i ≤ 1048576), (a1 : 0 ≤ a), (a2 : a ≤ 400000)⟩
  obtain ⟨c, s, rfl, h1, h2⟩ := vw_ex (show VwOK v from hv)
  obtain ⟨s', rfl⟩ := sta_ex s'
  have e1 := vwC_D c s
  have e2 := vwS_D c s
  obtain rfl : s' = s := by rw [e2] at hs'; exact (staOf_D s').symm.trans hs'
  unfold FnSat
  conv => arg 2; reduce
  simp [inS1, vvoltS, vnextS, wearS, roomS, e1, e2, and_assoc]
  have hk := celB_iff.1 h1
  have := hk.lk0
  have := hk.lk1
  have q1 := q_in h2
  have k1 := kV_in h1 h2
  have vs := sc_val hk.stress s'.tp
  have := h2.h0
  have := h2.h1
  have := h2.a0
  have := h2.a1
  have hH : nxH s' (-i) = s'.th + max (-i) (- -i) := by unfold nxH; rfl
  have hA : nxA c s' = s'.ag + valL c.stress s'.tp := by unfold nxA; rfl
  have hw : WearOK c (nxH s' (-i)) (nxA c s') := ⟨hk.cy0, hk.cy1, hk.al0, hk.al1, by omega, by omega, by omega, by omega⟩
  have hw2 := wearV_in hw
  exact ⟨by omega, by omega, vw_ok h1 h2, by omega, by omega, a1, a2, hw, by have := hk.cap0; omega, hk.cap1, by omega, by omega, by omega, by omega, vw_ok h1 h2, by omega, by omega, fun _ _ => by omega, fun _ _ => by omega, by unfold inP; rfl⟩
@[reducible] def inCap : List Sh := [.ptr [.int .i64], .ptr limCells, .ptr staCells]
structure BsInv (p : Int → Bool) (most lo hi : Int) : Prop where
  a : 0 ≤ lo
  b : lo ≤ hi
  c : hi ≤ most
  d : p lo = true
  e : ∀ i, hi < i → i ≤ most → p i = false
@[irreducible] def grV (p : Int → Bool) (most : Int) : Int := if p 0 = true then grI p most else 0
@[irreducible] def grE (p : Int → Bool) : Int := if p 0 = true then 0 else 17
@[irreducible] def mgE (lb : Bool) (a : Int) (p : Int → Bool) : Int := if lb = true then (if isIn 0 a 400000 = true then grE p else 3) else 2
@[irreducible] def mgV (lb : Bool) (a : Int) (p : Int → Bool) (most : Int) : Int := if lb = true then (if isIn 0 a 400000 = true then grV p most else 0) else 0
theorem mid_in {lo hi : Int} (h : lo < hi) : lo < (lo + hi + 1).tdiv 2 ∨ lo + hi + 1 < 0 := by
  rcases Int.lt_or_le (lo + hi + 1) 0 with h1 | h1
  · exact .inr h1
  · rw [Int.tdiv_eq_ediv_of_nonneg h1]; omega
def SMb : Sums := ⟨(84, mkSum _ inS1) :: (81, mkSum _ outS1) :: SMa.one, SMa.two, SMa.lo, SMa.eqs, SMa.its⟩
theorem SMb_ok : SumsOK Try.prog SMb := ((SMa_ok.cons Try.func81 (by kernel_rfl) (by kernel_rfl) out_ok1).cons Try.func84 (by kernel_rfl) (by kernel_rfl) in_ok1)
def outs11 : Spec [.int .i64, .ptr [.fn 81 [] outCap], .ptr vwCells] := ⟨fun ((i : Int), ((_, ((l : Int), (_ : Int), (_ : Int), (_ : Int), (h : Int), _), s, ((a : Int), _), _), _), v, _) => VwOK v ∧ staOf s = vwS v ∧ 0 ≤ i ∧ i ≤ 1048576 ∧ 0 ≤ a ∧ a ≤ 400000, fun ((i : Int), ((_, ((l : Int), (_ : Int), (_ : Int), (_ : Int), (h : Int), _), s, ((a : Int), _), _), _), v, _) => .sb (outP (vwC v) (vwS v) l h a i)⟩
set_option maxRecDepth 100000 in
set_option maxHeartbeats 2000000 in
theorem outs11_ok : FnSpec Try.prog 128 _ outs11 := by
  refine FnSpec.of SMb_ok mixed (U := 0) (I := fun _ => []) Try.func128 rfl (by kernel_rfl) rfl rfl (by decide +kernel) ?_
  rintro ⟨(i : Int), ⟨⟨y, ⟨(l : Int), (m : Int), (o : Int), (k : Int), (h : Int), ⟨⟩⟩, s', ⟨(a : Int), ⟨⟩⟩, ⟨⟩⟩, ⟨⟩⟩, v, ⟨⟩⟩ ⟨hv, hs', (i1 : 0 ≤ i), (i2 : i ≤ 1048576), (a1 : 0 ≤ a), (a2 : a ≤ 400000)⟩
  obtain ⟨c, s, rfl, h1, h2⟩ := vw_ex (show VwOK v from hv)
  obtain ⟨s', rfl⟩ := sta_ex s'
  have e1 := vwC_D c s
  have e2 := vwS_D c s
  obtain rfl : s' = s := by rw [e2] at hs'; exact (staOf_D s').symm.trans hs'
  unfold FnSat
  conv => arg 2; reduce
  simp [outs11, outS1, e1, e2, and_assoc]
  exact ⟨vw_ok h1 h2, i1, i2, a1, a2⟩
def ins11 : Spec [.int .i64, .ptr [.fn 84 [] inCap], .ptr vwCells] := ⟨fun ((i : Int), ((_, ((a : Int), _), ((_ : Int), (l : Int), (_ : Int), (_ : Int), (h : Int), _), s, _), _), v, _) => VwOK v ∧ staOf s = vwS v ∧ 0 ≤ i ∧ i ≤ 1048576 ∧ 0 ≤ a ∧ a ≤ 400000, fun ((i : Int), ((_, ((a : Int), _), ((_ : Int), (l : Int), (_ : Int), (_ : Int), (h : Int), _), s, _), _), v, _) => .sb (inP (vwC v) (vwS v) l h a i)⟩
set_option maxRecDepth 100000 in
set_option maxHeartbeats 2000000 in
theorem ins11_ok : FnSpec Try.prog 128 _ ins11 := by
  refine FnSpec.of SMb_ok mixed (U := 0) (I := fun _ => []) Try.func128 rfl (by kernel_rfl) rfl rfl (by decide +kernel) ?_
  rintro ⟨(i : Int), ⟨⟨y, ⟨(a : Int), ⟨⟩⟩, ⟨(m : Int), (l : Int), (o : Int), (k : Int), (h : Int), ⟨⟩⟩, s', ⟨⟩⟩, ⟨⟩⟩, v, ⟨⟩⟩ ⟨hv, hs', (i1 : 0 ≤ i), (i2 : i ≤ 1048576), (a1 : 0 ≤ a), (a2 : a ≤ 400000)⟩
  obtain ⟨c, s, rfl, h1, h2⟩ := vw_ex (show VwOK v from hv)
  obtain ⟨s', rfl⟩ := sta_ex s'
  have e1 := vwC_D c s
  have e2 := vwS_D c s
  obtain rfl : s' = s := by rw [e2] at hs'; exact (staOf_D s').symm.trans hs'
  unfold FnSat
  conv => arg 2; reduce
  simp [ins11, inS1, e1, e2, and_assoc]
  exact ⟨vw_ok h1 h2, i1, i2, a1, a2⟩
def SMc : Sums := ⟨(128, (altSum (mkSum _ outs11) (mkSum _ ins11))) :: SMb.one, SMb.two, SMb.lo, SMb.eqs, SMb.its⟩
theorem SMc_ok : SumsOK Try.prog SMc := (SMb_ok.add Try.func128 (by kernel_rfl) (by kernel_rfl) (altSum_ok (mkSum_ok outs11_ok) (mkSum_ok ins11_ok)))
theorem bs_fin {p : Int → Bool} {most lo hi : Int} (h : BsInv p most lo hi) (hm : Mono p most) (hh : hi ≤ lo) : lo = grV p most ∧ 0 = grE p := by
  have := h.a
  have := h.b
  have := h.c
  have e := grI_uniq hm h.a (by omega) h.d fun hl => h.e (lo + 1) (by omega) (by omega)
  unfold grV grE
  rw [if_pos hm.p0, if_pos hm.p0, e]
  exact ⟨rfl, rfl⟩
theorem bs_up {p : Int → Bool} {most lo hi m : Int} (h : BsInv p most lo hi) (h1 : lo < m) (h2 : m ≤ hi) (hp : p m = true) : BsInv p most m hi := ⟨by have := h.a; omega, h2, h.c, hp, h.e⟩
theorem bs_dn {p : Int → Bool} {most lo hi m : Int} (h : BsInv p most lo hi) (hm : Mono p most) (h1 : lo < m) (h2 : m ≤ hi) (hp : p m = false) : BsInv p most lo (m - 1) :=
  ⟨h.a, by omega, by have := h.c; omega, h.d, fun i i1 i2 => by
    cases hi : p i with
    | false => rfl
    | true =>
      have := hm.dn m i (by have := h.a; omega) (by omega) i2 hi
      rw [hp] at this; cases this⟩
theorem mid_b {lo hi : Int} (h0 : 0 ≤ lo) (h : lo < hi) : lo < (lo + hi + 1).tdiv 2 ∧ (lo + hi + 1).tdiv 2 ≤ hi := by
  rw [Int.tdiv_eq_ediv_of_nonneg (by omega)]; omega
theorem gr_no {p : Int → Bool} {most : Int} (h : p 0 = false) : 0 = grV p most ∧ 17 = grE p := by
  unfold grV grE
  rw [h]; simp
def outgr : Spec [.int .i64, .fn 128 [] [.ptr [.fn 81 [] outCap], .ptr vwCells]] := ⟨fun ((most : Int), (_, ((_, ((l : Int), (_ : Int), (_ : Int), (_ : Int), (h : Int), _), s, ((a : Int), _), _), _), v, _), _) => VwOK v ∧ staOf s = vwS v ∧ 0 ≤ most ∧ most ≤ 1048576 ∧ 0 ≤ a ∧ a ≤ 400000,
  fun ((most : Int), (_, ((_, ((l : Int), (_ : Int), (_ : Int), (_ : Int), (h : Int), _), s, ((a : Int), _), _), _), v, _), _) => .tup [.si .i64 (grV (outP (vwC v) (vwS v) l h a) most), .si .i64 (grE (outP (vwC v) (vwS v) l h a))]⟩
def outgrI : DatL [.int .i64, .fn 128 [] [.ptr [.fn 81 [] outCap], .ptr vwCells]] → Anns := fun ((most : Int), (_, ((_, ((l : Int), (_ : Int), (_ : Int), (_ : Int), (h : Int), _), s, ((a : Int), _), _), _), v, _), _) => [
  (4, [], fun fr hp => ⟨Int × Int, fun (lo, hi) => ⟨frI [.k 6, .s (.si .i64 lo), .s (.si .i64 hi), .t 1, .k 4, .t 14, .k 1] fr, hp⟩, (Int → Bool) × Int × Int × Int, fun (lo, hi) => (outP (vwC v) (vwS v) l h a, most, lo, hi), fun (p, most, lo, hi) => BsInv p most lo hi, fun (lo, hi) => nat (isub hi lo)⟩)]
set_option maxRecDepth 100000 in
set_option maxHeartbeats 2000000 in
theorem outgr_ok : FnSpec Try.prog 127 _ outgr := by
  refine FnSpec.of SMc_ok mixed (U := 0) (I := outgrI) Try.func127 rfl (by kernel_rfl) rfl rfl (by decide +kernel) ?_
  rintro ⟨(most : Int), ⟨y, ⟨⟨z, ⟨(l : Int), (m : Int), (o : Int), (k : Int), (h : Int), ⟨⟩⟩, s', ⟨(a : Int), ⟨⟩⟩, ⟨⟩⟩, ⟨⟩⟩, v, ⟨⟩⟩, ⟨⟩⟩ ⟨hv, hs', (m1 : 0 ≤ most), (m2 : most ≤ 1048576), (a1 : 0 ≤ a), (a2 : a ≤ 400000)⟩
  obtain ⟨c, s, rfl, h1, h2⟩ := vw_ex (show VwOK v from hv)
  obtain ⟨s', rfl⟩ := sta_ex s'
  have e1 := vwC_D c s
  have e2 := vwS_D c s
  obtain rfl : s' = s := by rw [e2] at hs'; exact (staOf_D s').symm.trans hs'
  unfold FnSat
  conv => arg 2; reduce
  simp [-Bool.forall_bool, outgr, outs11, e1, e2, and_assoc]
  refine ⟨vw_ok h1 h2, a1, a2, gr_no, fun hp => ?_⟩
  have hm := out_mono (a := a) h1 m1 hp
  refine ⟨⟨by omega, by omega, by omega, hp, fun i j1 j2 => by omega⟩, fun lo hi hb => ⟨fun hlt => ?_, fun hge => bs_fin hb hm hge⟩⟩
  have q1 := hb.a
  have q2 := hb.c
  have md := mid_b q1 hlt
  exact ⟨by omega, by omega, by omega, by omega, by omega, by omega, vw_ok h1 h2, by omega, by omega, a1, a2, fun hq => ⟨bs_up hb md.1 md.2 hq, by omega⟩, fun hq => ⟨by omega, by omega, bs_dn hb hm md.1 md.2 hq, by omega⟩⟩
def ingr : Spec [.int .i64, .fn 128 [] [.ptr [.fn 84 [] inCap], .ptr vwCells]] := ⟨fun ((most : Int), (_, ((_, ((a : Int), _), ((_ : Int), (l : Int), (_ : Int), (_ : Int), (h : Int), _), s, _), _), v, _), _) => VwOK v ∧ staOf s = vwS v ∧ 0 ≤ most ∧ most ≤ 1048576 ∧ 0 ≤ a ∧ a ≤ 400000,
  fun ((most : Int), (_, ((_, ((a : Int), _), ((_ : Int), (l : Int), (_ : Int), (_ : Int), (h : Int), _), s, _), _), v, _), _) => .tup [.si .i64 (grV (inP (vwC v) (vwS v) l h a) most), .si .i64 (grE (inP (vwC v) (vwS v) l h a))]⟩
def ingrI : DatL [.int .i64, .fn 128 [] [.ptr [.fn 84 [] inCap], .ptr vwCells]] → Anns := fun ((most : Int), (_, ((_, ((a : Int), _), ((_ : Int), (l : Int), (_ : Int), (_ : Int), (h : Int), _), s, _), _), v, _), _) => [
  (4, [], fun fr hp => ⟨Int × Int, fun (lo, hi) => ⟨frI [.k 6, .s (.si .i64 lo), .s (.si .i64 hi), .t 1, .k 4, .t 14, .k 1] fr, hp⟩, (Int → Bool) × Int × Int × Int, fun (lo, hi) => (inP (vwC v) (vwS v) l h a, most, lo, hi), fun (p, most, lo, hi) => BsInv p most lo hi, fun (lo, hi) => nat (isub hi lo)⟩)]
set_option maxRecDepth 100000 in
set_option maxHeartbeats 2000000 in
theorem ingr_ok : FnSpec Try.prog 127 _ ingr := by
  refine FnSpec.of SMc_ok mixed (U := 0) (I := ingrI) Try.func127 rfl (by kernel_rfl) rfl rfl (by decide +kernel) ?_
  rintro ⟨(most : Int), ⟨y, ⟨⟨z, ⟨(a : Int), ⟨⟩⟩, ⟨(m : Int), (l : Int), (o : Int), (k : Int), (h : Int), ⟨⟩⟩, s', ⟨⟩⟩, ⟨⟩⟩, v, ⟨⟩⟩, ⟨⟩⟩ ⟨hv, hs', (m1 : 0 ≤ most), (m2 : most ≤ 1048576), (a1 : 0 ≤ a), (a2 : a ≤ 400000)⟩
  obtain ⟨c, s, rfl, h1, h2⟩ := vw_ex (show VwOK v from hv)
  obtain ⟨s', rfl⟩ := sta_ex s'
  have e1 := vwC_D c s
  have e2 := vwS_D c s
  obtain rfl : s' = s := by rw [e2] at hs'; exact (staOf_D s').symm.trans hs'
  unfold FnSat
  conv => arg 2; reduce
  simp [-Bool.forall_bool, ingr, ins11, e1, e2, and_assoc]
  refine ⟨vw_ok h1 h2, a1, a2, gr_no, fun hp => ?_⟩
  have hm := in_mono (a := a) h1 m1 hp
  refine ⟨⟨by omega, by omega, by omega, hp, fun i j1 j2 => by omega⟩, fun lo hi hb => ⟨fun hlt => ?_, fun hge => bs_fin hb hm hge⟩⟩
  have q1 := hb.a
  have q2 := hb.c
  have md := mid_b q1 hlt
  exact ⟨by omega, by omega, by omega, by omega, by omega, by omega, vw_ok h1 h2, by omega, by omega, a1, a2, fun hq => ⟨bs_up hb md.1 md.2 hq, by omega⟩, fun hq => ⟨by omega, by omega, bs_dn hb hm md.1 md.2 hq, by omega⟩⟩
def SMd : Sums := ⟨(127, (altSum (mkSum _ outgr) (mkSum _ ingr))) :: SMc.one, SMc.two, SMc.lo, SMc.eqs, SMc.its⟩
theorem SMd_ok : SumsOK Try.prog SMd := (SMc_ok.add Try.func127 (by kernel_rfl) (by kernel_rfl) (altSum_ok (mkSum_ok outgr_ok) (mkSum_ok ingr_ok)))
theorem mg_no {lb : Bool} {a most : Int} {p : Int → Bool} (h : lb = false) : 0 = mgV lb a p most ∧ errA lb = mgE lb a p := by
  unfold mgV mgE
  subst h
  simp [errA]
theorem mg_amb {lb : Bool} {a most : Int} {p : Int → Bool} (h : lb = true) (ha : a < 0 ∨ 400000 < a) : 0 = mgV lb a p most ∧ 3 = mgE lb a p := by
  have : isIn 0 a 400000 = false := by
    cases hb : isIn 0 a 400000 with
    | false => rfl
    | true => simp at hb; omega
  unfold mgV mgE
  subst h
  rw [this]
  simp
theorem mg_yes {lb : Bool} {a most : Int} {p : Int → Bool} (h : lb = true) (a1 : 0 ≤ a) (a2 : a ≤ 400000) : grV p most = mgV lb a p most ∧ grE p = mgE lb a p := by
  have : isIn 0 a 400000 = true := by simp [a1, a2]
  unfold mgV mgE
  subst h
  rw [this]
  simp
def outse : Spec [vwSh, .ptr limCells, .ptr [.int .i64], .ptr [.int .i64], .ptr [.fn 81 [] outCap]] := ⟨fun (v, L, ((a' : Int), _), ((most : Int), _), ((_, ((l : Int), (m : Int), (o : Int), (k : Int), (h : Int), _), s, ((a : Int), _), _), _), _) => VwOK v ∧ staOf s = vwS v ∧ L = (l, m, o, k, h, ()) ∧ a' = a ∧ most = o,
  fun (v, ((l : Int), (m : Int), (o : Int), (k : Int), (h : Int), _), ((a : Int), _), ((most : Int), _), _, _) => .tup [.si .i64 (mgV (limB l m o k h) a (outP (vwC v) (vwS v) l h a) most), .si .i64 (mgE (limB l m o k h) a (outP (vwC v) (vwS v) l h a))]⟩
set_option maxRecDepth 100000 in
set_option maxHeartbeats 2000000 in
theorem outse_ok : FnSpec Try.prog 125 _ outse := by
  refine FnSpec.of SMd_ok mixed (U := 0) (I := fun _ => []) Try.func125 rfl (by kernel_rfl) rfl rfl (by decide +kernel) ?_
  rintro ⟨v, L, ⟨(a' : Int), ⟨⟩⟩, ⟨(most : Int), ⟨⟩⟩, ⟨⟨z, ⟨(l : Int), (m : Int), (o : Int), (k : Int), (h : Int), ⟨⟩⟩, s', ⟨(a : Int), ⟨⟩⟩, ⟨⟩⟩, ⟨⟩⟩, ⟨⟩⟩ ⟨hv, hs', hL, ha, hmost⟩
  obtain ⟨c, s, rfl, h1, h2⟩ := vw_ex (show VwOK v from hv)
  obtain ⟨s', rfl⟩ := sta_ex s'
  have e1 := vwC_D c s
  have e2 := vwS_D c s
  obtain rfl : s' = s := by rw [e2] at hs'; exact (staOf_D s').symm.trans hs'
  obtain rfl : L = (l, m, o, k, h, ()) := hL
  obtain rfl : a' = a := ha
  obtain rfl : most = o := hmost
  unfold FnSat
  conv => arg 2; reduce
  simp [-Bool.forall_bool, outse, outgr, limS, betS, e1, e2, and_assoc]
  refine ⟨fun hb => mg_no hb, fun hb => ⟨fun ha => mg_amb hb ha, fun a1 a2 => ?_⟩⟩
  have := limB_iff.1 hb
  exact ⟨vw_ok h1 h2, by omega, by omega, a1, a2, (mg_yes hb a1 a2).1, (mg_yes (most := 0) hb a1 a2).2⟩
def inse : Spec [vwSh, .ptr limCells, .ptr [.int .i64], .ptr [.int .i64], .ptr [.fn 84 [] inCap]] := ⟨fun (v, L, ((a' : Int), _), ((most : Int), _), ((_, ((a : Int), _), ((l : Int), (m : Int), (o : Int), (k : Int), (h : Int), _), s, _), _), _) => VwOK v ∧ staOf s = vwS v ∧ L = (l, m, o, k, h, ()) ∧ a' = a ∧ most = k,
  fun (v, ((l : Int), (m : Int), (o : Int), (k : Int), (h : Int), _), ((a : Int), _), ((most : Int), _), _, _) => .tup [.si .i64 (mgV (limB l m o k h) a (inP (vwC v) (vwS v) m h a) most), .si .i64 (mgE (limB l m o k h) a (inP (vwC v) (vwS v) m h a))]⟩
set_option maxRecDepth 100000 in
set_option maxHeartbeats 2000000 in
theorem inse_ok : FnSpec Try.prog 125 _ inse := by
  refine FnSpec.of SMd_ok mixed (U := 0) (I := fun _ => []) Try.func125 rfl (by kernel_rfl) rfl rfl (by decide +kernel) ?_
  rintro ⟨v, L, ⟨(a' : Int), ⟨⟩⟩, ⟨(most : Int), ⟨⟩⟩, ⟨⟨z, ⟨(a : Int), ⟨⟩⟩, ⟨(l : Int), (m : Int), (o : Int), (k : Int), (h : Int), ⟨⟩⟩, s', ⟨⟩⟩, ⟨⟩⟩, ⟨⟩⟩ ⟨hv, hs', hL, ha, hmost⟩
  obtain ⟨c, s, rfl, h1, h2⟩ := vw_ex (show VwOK v from hv)
  obtain ⟨s', rfl⟩ := sta_ex s'
  have e1 := vwC_D c s
  have e2 := vwS_D c s
  obtain rfl : s' = s := by rw [e2] at hs'; exact (staOf_D s').symm.trans hs'
  obtain rfl : L = (l, m, o, k, h, ()) := hL
  obtain rfl : a' = a := ha
  obtain rfl : most = k := hmost
  unfold FnSat
  conv => arg 2; reduce
  simp [-Bool.forall_bool, inse, ingr, limS, betS, e1, e2, and_assoc]
  refine ⟨fun hb => mg_no hb, fun hb => ⟨fun ha => mg_amb hb ha, fun a1 a2 => ?_⟩⟩
  have := limB_iff.1 hb
  exact ⟨vw_ok h1 h2, by omega, by omega, a1, a2, (mg_yes hb a1 a2).1, (mg_yes (most := 0) hb a1 a2).2⟩
def SMe : Sums := ⟨(125, (altSum (mkSum _ outse) (mkSum _ inse))) :: SMd.one, SMd.two, SMd.lo, SMd.eqs, SMd.its⟩
theorem SMe_ok : SumsOK Try.prog SMe := (SMd_ok.add Try.func125 (by kernel_rfl) (by kernel_rfl) (altSum_ok (mkSum_ok outse_ok) (mkSum_ok inse_ok)))
end
end Abs
end Go.Proofs.Ytghmkkdmpmmbhaa

/- Cells, by the program: the greatest safe currents, asked. -/
namespace Go.Proofs.Ytghmkkdmpmmbhaa
namespace Abs
open Go Go.RowKit
noncomputable section
attribute [local irreducible] FnSat
def outas : Spec [celSh, staSh, .fn 125 [] [.ptr limCells, .ptr [.int .i64], .ptr [.int .i64], .ptr [.fn 81 [] outCap]]] := ⟨fun (c, s0, (_, L, ((a' : Int), _), ((most : Int), _), ((_, ((l : Int), (m : Int), (o : Int), (k : Int), (h : Int), _), s, ((a : Int), _), _), _), _), _) => CelMax (celOf c) ∧ staOf s = staOf s0 ∧ L = (l, m, o, k, h, ()) ∧ a' = a ∧ most = o,
  fun (c, s0, (_, ((l : Int), (m : Int), (o : Int), (k : Int), (h : Int), _), ((a : Int), _), ((most : Int), _), _, _), _) => .tup [.si .i64 (aV (celOf c) (staOf s0) (mgV (limB l m o k h) a (outP (celOf c) (staOf s0) l h a) most)), .si .i64 (aE (celOf c) (staOf s0) (mgE (limB l m o k h) a (outP (celOf c) (staOf s0) l h a)))]⟩
set_option maxRecDepth 100000 in
set_option maxHeartbeats 20000000 in
theorem outas_ok : FnSpec Try.prog 65 _ outas := by
  refine FnSpec.of SMe_ok mixed (U := 0) (I := fun _ => []) Try.func65 rfl (by kernel_rfl) rfl rfl (by decide +kernel) ?_
  rintro ⟨c, s, ⟨y, L, ⟨(a' : Int), ⟨⟩⟩, ⟨(most : Int), ⟨⟩⟩, ⟨⟨z, ⟨(l : Int), (m : Int), (o : Int), (k : Int), (h : Int), ⟨⟩⟩, s', ⟨(a : Int), ⟨⟩⟩, ⟨⟩⟩, ⟨⟩⟩, ⟨⟩⟩, ⟨⟩⟩ ⟨hpre, hs', hL, ha, hmost⟩
  obtain ⟨c, rfl⟩ := cel_ex c
  obtain ⟨s, rfl⟩ := sta_ex s
  obtain ⟨s', rfl⟩ := sta_ex s'
  have hpre : CelMax c := by have : CelMax (celOf (celD c)) := hpre; rwa [celOf_D] at this
  obtain rfl : s' = s := by have : staOf (staD s') = staOf (staD s) := hs'; rwa [staOf_D, staOf_D] at this
  obtain rfl : L = (l, m, o, k, h, ()) := hL
  obtain rfl : a' = a := ha
  obtain rfl : most = o := hmost
  have e1 := vwC_D c s'
  have e2 := vwS_D c s'
  unfold FnSat
  conv => arg 2; reduce
  simp [-Bool.forall_bool, outas, cstS, lookF, outse, e1, e2, and_assoc]
  refine ⟨hpre, fun h => ⟨(aV_no h).symm, (aE_no h).symm⟩, fun h => ?_⟩
  have k := csE_iff.1 h
  exact ⟨k.1, k.2, vw_ok k.1 k.2, (aV_yes h).symm, (aE_yes h).symm⟩
def inas : Spec [celSh, staSh, .fn 125 [] [.ptr limCells, .ptr [.int .i64], .ptr [.int .i64], .ptr [.fn 84 [] inCap]]] := ⟨fun (c, s0, (_, L, ((a' : Int), _), ((most : Int), _), ((_, ((a : Int), _), ((l : Int), (m : Int), (o : Int), (k : Int), (h : Int), _), s, _), _), _), _) => CelMax (celOf c) ∧ staOf s = staOf s0 ∧ L = (l, m, o, k, h, ()) ∧ a' = a ∧ most = k,
  fun (c, s0, (_, ((l : Int), (m : Int), (o : Int), (k : Int), (h : Int), _), ((a : Int), _), ((most : Int), _), _, _), _) => .tup [.si .i64 (aV (celOf c) (staOf s0) (mgV (limB l m o k h) a (inP (celOf c) (staOf s0) m h a) most)), .si .i64 (aE (celOf c) (staOf s0) (mgE (limB l m o k h) a (inP (celOf c) (staOf s0) m h a)))]⟩
set_option maxRecDepth 100000 in
set_option maxHeartbeats 20000000 in
theorem inas_ok : FnSpec Try.prog 65 _ inas := by
  refine FnSpec.of SMe_ok mixed (U := 0) (I := fun _ => []) Try.func65 rfl (by kernel_rfl) rfl rfl (by decide +kernel) ?_
  rintro ⟨c, s, ⟨y, L, ⟨(a' : Int), ⟨⟩⟩, ⟨(most : Int), ⟨⟩⟩, ⟨⟨z, ⟨(a : Int), ⟨⟩⟩, ⟨(l : Int), (m : Int), (o : Int), (k : Int), (h : Int), ⟨⟩⟩, s', ⟨⟩⟩, ⟨⟩⟩, ⟨⟩⟩, ⟨⟩⟩ ⟨hpre, hs', hL, ha, hmost⟩
  obtain ⟨c, rfl⟩ := cel_ex c
  obtain ⟨s, rfl⟩ := sta_ex s
  obtain ⟨s', rfl⟩ := sta_ex s'
  have hpre : CelMax c := by have : CelMax (celOf (celD c)) := hpre; rwa [celOf_D] at this
  obtain rfl : s' = s := by have : staOf (staD s') = staOf (staD s) := hs'; rwa [staOf_D, staOf_D] at this
  obtain rfl : L = (l, m, o, k, h, ()) := hL
  obtain rfl : a' = a := ha
  obtain rfl : most = k := hmost
  have e1 := vwC_D c s'
  have e2 := vwS_D c s'
  unfold FnSat
  conv => arg 2; reduce
  simp [-Bool.forall_bool, inas, cstS, lookF, inse, e1, e2, and_assoc]
  refine ⟨hpre, fun h => ⟨(aV_no h).symm, (aE_no h).symm⟩, fun h => ?_⟩
  have k := csE_iff.1 h
  exact ⟨k.1, k.2, vw_ok k.1 k.2, (aV_yes h).symm, (aE_yes h).symm⟩
def SMf : Sums := ⟨(65, (altSum (mkSum _ outas) (mkSum _ inas))) :: SMe.one, SMe.two, SMe.lo, SMe.eqs, SMe.its⟩
theorem SMf_ok : SumsOK Try.prog SMf := (SMe_ok.add Try.func65 (by kernel_rfl) (by kernel_rfl) (altSum_ok (mkSum_ok outas_ok) (mkSum_ok inas_ok)))
def outsr : Spec [celSh, staSh, limSh, .int .i64, .int .i64, .fn 81 [] outCap] := ⟨fun (c, s0, L, (a' : Int), (most : Int), (_, ((l : Int), (m : Int), (o : Int), (k : Int), (h : Int), _), s, ((a : Int), _), _), _) => CelMax (celOf c) ∧ staOf s = staOf s0 ∧ L = (l, m, o, k, h, ()) ∧ a' = a ∧ most = o,
  fun (c, s0, ((l : Int), (m : Int), (o : Int), (k : Int), (h : Int), _), (a : Int), (most : Int), _, _) => .tup [.si .i64 (aV (celOf c) (staOf s0) (mgV (limB l m o k h) a (outP (celOf c) (staOf s0) l h a) most)), .si .i64 (aE (celOf c) (staOf s0) (mgE (limB l m o k h) a (outP (celOf c) (staOf s0) l h a)))]⟩
set_option maxRecDepth 100000 in
set_option maxHeartbeats 2000000 in
theorem outsr_ok : FnSpec Try.prog 80 _ outsr := by
  refine FnSpec.of SMf_ok mixed (U := 0) (I := fun _ => []) Try.func80 rfl (by kernel_rfl) rfl rfl (by decide +kernel) ?_
  rintro ⟨c, s, L, (a' : Int), (most : Int), ⟨z, ⟨(l : Int), (m : Int), (o : Int), (k : Int), (h : Int), ⟨⟩⟩, s', ⟨(a : Int), ⟨⟩⟩, ⟨⟩⟩, ⟨⟩⟩ ⟨hpre, hs', hL, ha, hmost⟩
  obtain ⟨c, rfl⟩ := cel_ex c
  obtain ⟨s, rfl⟩ := sta_ex s
  obtain ⟨s', rfl⟩ := sta_ex s'
  have hpre : CelMax c := by have : CelMax (celOf (celD c)) := hpre; rwa [celOf_D] at this
  obtain rfl : s' = s := by have : staOf (staD s') = staOf (staD s) := hs'; rwa [staOf_D, staOf_D] at this
  obtain rfl : L = (l, m, o, k, h, ()) := hL
  obtain rfl : a' = a := ha
  obtain rfl : most = o := hmost
  unfold FnSat
  conv => arg 2; reduce
  simp [-Bool.forall_bool, outsr, outas, and_assoc]
  exact hpre
def insr : Spec [celSh, staSh, limSh, .int .i64, .int .i64, .fn 84 [] inCap] := ⟨fun (c, s0, L, (a' : Int), (most : Int), (_, ((a : Int), _), ((l : Int), (m : Int), (o : Int), (k : Int), (h : Int), _), s, _), _) => CelMax (celOf c) ∧ staOf s = staOf s0 ∧ L = (l, m, o, k, h, ()) ∧ a' = a ∧ most = k,
  fun (c, s0, ((l : Int), (m : Int), (o : Int), (k : Int), (h : Int), _), (a : Int), (most : Int), _, _) => .tup [.si .i64 (aV (celOf c) (staOf s0) (mgV (limB l m o k h) a (inP (celOf c) (staOf s0) m h a) most)), .si .i64 (aE (celOf c) (staOf s0) (mgE (limB l m o k h) a (inP (celOf c) (staOf s0) m h a)))]⟩
set_option maxRecDepth 100000 in
set_option maxHeartbeats 2000000 in
theorem insr_ok : FnSpec Try.prog 80 _ insr := by
  refine FnSpec.of SMf_ok mixed (U := 0) (I := fun _ => []) Try.func80 rfl (by kernel_rfl) rfl rfl (by decide +kernel) ?_
  rintro ⟨c, s, L, (a' : Int), (most : Int), ⟨z, ⟨(a : Int), ⟨⟩⟩, ⟨(l : Int), (m : Int), (o : Int), (k : Int), (h : Int), ⟨⟩⟩, s', ⟨⟩⟩, ⟨⟩⟩ ⟨hpre, hs', hL, ha, hmost⟩
  obtain ⟨c, rfl⟩ := cel_ex c
  obtain ⟨s, rfl⟩ := sta_ex s
  obtain ⟨s', rfl⟩ := sta_ex s'
  have hpre : CelMax c := by have : CelMax (celOf (celD c)) := hpre; rwa [celOf_D] at this
  obtain rfl : s' = s := by have : staOf (staD s') = staOf (staD s) := hs'; rwa [staOf_D, staOf_D] at this
  obtain rfl : L = (l, m, o, k, h, ()) := hL
  obtain rfl : a' = a := ha
  obtain rfl : most = k := hmost
  unfold FnSat
  conv => arg 2; reduce
  simp [-Bool.forall_bool, insr, inas, and_assoc]
  exact hpre
def SMg : Sums := ⟨(80, (altSum (mkSum _ outsr) (mkSum _ insr))) :: SMf.one, SMf.two, SMf.lo, SMf.eqs, SMf.its⟩
theorem SMg_ok : SumsOK Try.prog SMg := (SMf_ok.add Try.func80 (by kernel_rfl) (by kernel_rfl) (altSum_ok (mkSum_ok outsr_ok) (mkSum_ok insr_ok)))
def outmo : Spec [celSh, staSh, limSh, .int .i64] := ⟨fun (c, _) => CelMax (celOf c),
  fun (c, s0, ((l : Int), (m : Int), (o : Int), (k : Int), (h : Int), _), (a : Int), _) => .tup [.si .i64 (aV (celOf c) (staOf s0) (mgV (limB l m o k h) a (outP (celOf c) (staOf s0) l h a) o)), .si .i64 (aE (celOf c) (staOf s0) (mgE (limB l m o k h) a (outP (celOf c) (staOf s0) l h a)))]⟩
set_option maxRecDepth 100000 in
set_option maxHeartbeats 2000000 in
theorem outmo_ok : FnSpec Try.prog 34 _ outmo := by
  refine FnSpec.of SMg_ok mixed (U := 0) (I := fun _ => []) Try.func34 rfl (by kernel_rfl) rfl rfl (by decide +kernel) ?_
  rintro ⟨c, s, ⟨(l : Int), (m : Int), (o : Int), (k : Int), (h : Int), ⟨⟩⟩, (a : Int), ⟨⟩⟩ hpre
  obtain ⟨c, rfl⟩ := cel_ex c
  obtain ⟨s, rfl⟩ := sta_ex s
  have hpre : CelMax c := by have : CelMax (celOf (celD c)) := hpre; rwa [celOf_D] at this
  unfold FnSat
  conv => arg 2; reduce
  simp [-Bool.forall_bool, outmo, outsr, and_assoc]
  exact hpre
def inmo : Spec [celSh, staSh, limSh, .int .i64] := ⟨fun (c, _) => CelMax (celOf c),
  fun (c, s0, ((l : Int), (m : Int), (o : Int), (k : Int), (h : Int), _), (a : Int), _) => .tup [.si .i64 (aV (celOf c) (staOf s0) (mgV (limB l m o k h) a (inP (celOf c) (staOf s0) m h a) k)), .si .i64 (aE (celOf c) (staOf s0) (mgE (limB l m o k h) a (inP (celOf c) (staOf s0) m h a)))]⟩
set_option maxRecDepth 100000 in
set_option maxHeartbeats 2000000 in
theorem inmo_ok : FnSpec Try.prog 36 _ inmo := by
  refine FnSpec.of SMg_ok mixed (U := 0) (I := fun _ => []) Try.func36 rfl (by kernel_rfl) rfl rfl (by decide +kernel) ?_
  rintro ⟨c, s, ⟨(l : Int), (m : Int), (o : Int), (k : Int), (h : Int), ⟨⟩⟩, (a : Int), ⟨⟩⟩ hpre
  obtain ⟨c, rfl⟩ := cel_ex c
  obtain ⟨s, rfl⟩ := sta_ex s
  have hpre : CelMax c := by have : CelMax (celOf (celD c)) := hpre; rwa [celOf_D] at this
  unfold FnSat
  conv => arg 2; reduce
  simp [-Bool.forall_bool, inmo, insr, and_assoc]
  exact hpre
def SMh : Sums := ⟨(36, mkSum _ inmo) :: (34, mkSum _ outmo) :: SMg.one, SMg.two, SMg.lo, SMg.eqs, SMg.its⟩
theorem SMh_ok : SumsOK Try.prog SMh := ((SMg_ok.cons Try.func34 (by kernel_rfl) (by kernel_rfl) outmo_ok).cons Try.func36 (by kernel_rfl) (by kernel_rfl) inmo_ok)
end
end Abs
end Go.Proofs.Ytghmkkdmpmmbhaa

/- Cells, by the document: voltages, heat, the next state. -/
namespace Go.Proofs.Ytghmkkdmpmmbhaa
namespace Abs
open Go Go.RowKit
noncomputable section
attribute [local irreducible] FnSat
def rfillS : Spec [.int .i64, .int .i64] := pcS
set_option maxRecDepth 100000 in
theorem rfill_ok : FnSpec Try.prog 145 _ pcS := by
  refine FnSpec.of SMa_ok mixed (U := 0) (I := fun _ => []) Try.func145 rfl (by kernel_rfl) rfl rfl (by decide +kernel) ?_
  rintro ⟨(x : Int), (o : Int), ⟨⟩⟩ ⟨(h1 : -17592186044416 ≤ x), (h2 : x ≤ 17592186044416), (h3 : 1 ≤ o)⟩
  unfold FnSat
  conv => arg 2; reduce
  simp [pcS, divS, and_assoc]
  unfold pcV
  omega
theorem val_pre {c : Crv} {last most : Int} (h : scB c last most = true) (h1 : last ≤ 400000) (h2 : most ≤ 8388608) : crB c = true ∧ c.x 0 = 0 ∧ c.x (c.nx - 1) ≤ 400000 ∧ 0 ≤ c.y 0 ∧ c.y (c.nx - 1) ≤ 8388608 := by
  have h := scB_iff.1 h
  exact ⟨h.1, h.2.1, by omega, h.2.2.2.1, by omega⟩
def ropenS : Spec [celSh, .int .i64] := ⟨fun (c, (f : Int), _) => celB (celOf c) = true ∧ -1099511627776 ≤ f ∧ f ≤ 1099511627776, fun (c, (f : Int), _) => .si .i64 (openV (celOf c) f)⟩
set_option maxRecDepth 100000 in
theorem ropen_ok : FnSpec Try.prog 144 _ ropenS := by
  refine FnSpec.of SMa_ok mixed (U := 0) (I := fun _ => []) Try.func144 rfl (by kernel_rfl) rfl rfl (by decide +kernel) ?_
  rintro ⟨c, (f : Int), ⟨⟩⟩ hpre
  obtain ⟨c, rfl⟩ := cel_ex c
  have hpre : celB c = true ∧ -1099511627776 ≤ f ∧ f ≤ 1099511627776 := by have : celB (celOf (celD c)) = true ∧ -1099511627776 ≤ f ∧ f ≤ 1099511627776 := hpre; rwa [celOf_D] at this
  unfold FnSat
  conv => arg 2; reduce
  simp [ropenS, rvalS, ElEq, and_assoc]
  obtain ⟨hc, f1, f2⟩ := hpre
  have hc := celB_iff.1 hc
  have hv := sc_val hc.ocv f
  have := hc.sh0
  have := hc.sh1
  have vp := val_pre hc.ocv (by decide) (by decide)
  unfold openV
  exact ⟨vp.1, vp.2.1, vp.2.2.1, vp.2.2.2.1, vp.2.2.2.2, f1, f2, by omega, by omega, rfl⟩
def rresS : Spec [celSh, .int .i64, .int .i64] := ⟨fun (c, (t : Int), (w : Int), _) => celB (celOf c) = true ∧ 0 ≤ t ∧ t ≤ 400000 ∧ 0 ≤ w ∧ w ≤ 17179869184, fun (c, (t : Int), (w : Int), _) => .si .i64 (resV (celOf c) t w)⟩
set_option maxRecDepth 100000 in
theorem rres_ok : FnSpec Try.prog 143 _ rresS := by
  refine FnSpec.of SMa_ok mixed (U := 0) (I := fun _ => []) Try.func143 rfl (by kernel_rfl) rfl rfl (by decide +kernel) ?_
  rintro ⟨c, (t : Int), (w : Int), ⟨⟩⟩ hpre
  obtain ⟨c, rfl⟩ := cel_ex c
  have hpre : celB c = true ∧ 0 ≤ t ∧ t ≤ 400000 ∧ 0 ≤ w ∧ w ≤ 17179869184 := by have : celB (celOf (celD c)) = true ∧ 0 ≤ t ∧ t ≤ 400000 ∧ 0 ≤ w ∧ w ≤ 17179869184 := hpre; rwa [celOf_D] at this
  unfold FnSat
  conv => arg 2; reduce
  simp [rresS, rvalS, divS, clipS, ElEq, and_assoc]
  obtain ⟨hc, t0, t1, w0, w1⟩ := hpre
  have hc := celB_iff.1 hc
  have hv := sc_val hc.cold (400000 - t)
  have h1 := mul_in w0 w1 hc.gr0 hc.gr1
  have h2 := dvI_le (a := w * c.grow) (d := 65536) (m := 274877906944) (by decide) (by omega)
  have h3 := dvI_nonneg (a := w * c.grow) (d := 65536) (by decide) h1.1
  have := hc.ex0
  have := hc.ex1
  have vp := val_pre hc.cold (by decide) (by decide)
  unfold resV
  exact ⟨by omega, by omega, vp.1, vp.2.1, vp.2.2.1, vp.2.2.2.1, vp.2.2.2.2, by omega, by omega, by omega, by omega, by omega, by omega, by omega, by omega, by omega, by omega, rfl⟩
@[irreducible] def secV (r p : Int) : Int := if 0 < p then dvI (r * r) (1000 * p) else 0
def rsecS : Spec [.int .i64, .int .i64] := ⟨fun ((r : Int), (p : Int), _) => -8388608 ≤ r ∧ r ≤ 8388608 ∧ 0 ≤ p ∧ p ≤ 1048576, fun ((r : Int), (p : Int), _) => .si .i64 (secV r p)⟩
set_option maxRecDepth 100000 in
theorem rsec_ok : FnSpec Try.prog 159 _ rsecS := by
  refine FnSpec.of SMa_ok mixed (U := 0) (I := fun _ => []) Try.func159 rfl (by kernel_rfl) rfl rfl (by decide +kernel) ?_
  rintro ⟨(r : Int), (p : Int), ⟨⟩⟩ ⟨(r1 : -8388608 ≤ r), (r2 : r ≤ 8388608), (p1 : 0 ≤ p), (p2 : p ≤ 1048576)⟩
  unfold FnSat
  conv => arg 2; reduce
  simp [rsecS, divS, and_assoc]
  have m3 := sq_in (a := r) (A := 8388608) r1 r2
  refine ⟨fun h => ?_, fun h => ?_⟩
  · unfold secV; rw [if_neg (by omega)]
  · exact ⟨by omega, by omega, by omega, by omega, by omega, by omega, by omega, by unfold secV; rw [if_pos (by omega)]⟩
@[irreducible] def relV (k o i p : Int) : Int := dvI (1000 * k * o + (65536 - k) * i * p) 65536000
def rrelS : Spec [.int .i64, .int .i64, .int .i64, .int .i64] := ⟨fun ((k : Int), (o : Int), (i : Int), (p : Int), _) => 0 ≤ k ∧ k ≤ 65536 ∧ -8388608 ≤ o ∧ o ≤ 8388608 ∧ -1048576 ≤ i ∧ i ≤ 1048576 ∧ 0 ≤ p ∧ p ≤ 1048576,
  fun ((k : Int), (o : Int), (i : Int), (p : Int), _) => .si .i64 (relV k o i p)⟩
set_option maxRecDepth 100000 in
theorem rrel_ok : FnSpec Try.prog 148 _ rrelS := by
  refine FnSpec.of SMa_ok mixed (U := 0) (I := fun _ => []) Try.func148 rfl (by kernel_rfl) rfl rfl (by decide +kernel) ?_
  rintro ⟨(k : Int), (o : Int), (i : Int), (p : Int), ⟨⟩⟩ ⟨(k0 : 0 ≤ k), (k1 : k ≤ 65536), (o0 : -8388608 ≤ o), (o1 : o ≤ 8388608), (i0 : -1048576 ≤ i), (i1 : i ≤ 1048576), (p0 : 0 ≤ p), (p1 : p ≤ 1048576)⟩
  unfold FnSat
  conv => arg 2; reduce
  simp [rrelS, divS, and_assoc]
  have h1 := mul_ab (a := o) (b := 1000 * k) (A := 8388608) (B := 65536000) o0 o1 (by omega) (by omega)
  have h2 := mul_ab (a := i) (b := 65536 - k) (A := 1048576) (B := 65536) i0 i1 (by omega) (by omega)
  rw [Int.mul_comm o] at h1
  rw [Int.mul_comm i] at h2
  have h3 := mul_ab (a := (65536 - k) * i) (b := p) (A := 68719476736) (B := 1048576) (by omega) (by omega) p0 p1
  have e : dvI (1000 * k * o + (65536 - k) * i * p) 65536000 = relV k o i p := by unfold relV; rfl
  rw [e]
  repeat' (first | refine And.intro ?_ ?_ | intro _)
  all_goals first | omega | rfl
def SRh : Sums := ⟨(148, mkSum _ rrelS) :: (159, mkSum _ rsecS) :: (143, mkSum _ rresS) :: (144, mkSum _ ropenS) :: (145, mkSum _ pcS) :: SMa.one, SMa.two, SMa.lo, SMa.eqs, SMa.its⟩
theorem SRh_ok : SumsOK Try.prog SRh := (((((SMa_ok.cons Try.func145 (by kernel_rfl) (by kernel_rfl) rfill_ok).cons Try.func144 (by kernel_rfl) (by kernel_rfl) ropen_ok).cons Try.func143 (by kernel_rfl) (by kernel_rfl) rres_ok).cons Try.func159 (by kernel_rfl) (by kernel_rfl) rsec_ok).cons Try.func148 (by kernel_rfl) (by kernel_rfl) rrel_ok)
def rheatS : Spec [celSh, staSh, .int .i64] := ⟨fun (c, s, (i : Int), _) => csE (celOf c) (staOf s) = 0 ∧ -1048576 ≤ i ∧ i ≤ 1048576, fun (c, s, (i : Int), _) => .si .i64 (heatV (celOf c) (staOf s) i)⟩
set_option maxRecDepth 100000 in
theorem rheat_ok : FnSpec Try.prog 149 _ rheatS := by
  refine FnSpec.of SRh_ok mixed (U := 0) (I := fun _ => []) Try.func149 rfl (by kernel_rfl) rfl rfl (by decide +kernel) ?_
  rintro ⟨c, s, (i : Int), ⟨⟩⟩ hpre
  obtain ⟨c, rfl⟩ := cel_ex c
  obtain ⟨s, rfl⟩ := sta_ex s
  have hpre : csE c s = 0 ∧ -1048576 ≤ i ∧ i ≤ 1048576 := by have : csE (celOf (celD c)) (staOf (staD s)) = 0 ∧ -1048576 ≤ i ∧ i ≤ 1048576 := hpre; rwa [celOf_D, staOf_D] at this
  obtain ⟨hcs, i1, i2⟩ := hpre
  obtain ⟨h1, h2⟩ := csE_iff.1 hcs
  unfold FnSat
  conv => arg 2; reduce
  simp [rheatS, rwearS, rresS, rsecS, divS, and_assoc]
  have hk := celB_iff.1 h1
  have := h2.h1
  have := h2.a1
  have hw : WearOK c s.th s.ag := ⟨hk.cy0, hk.cy1, hk.al0, hk.al1, h2.h0, by omega, h2.a0, by omega⟩
  have hw2 := wearV_in hw
  have ew : wearV c s.th s.ag = wV c s := by unfold wV; rfl
  have er : resV c s.tp (wearV c s.th s.ag) = rV c s := by unfold rV; rw [ew]
  have r := @rV_in c s
  rw [er]
  have m1 := sq_in i1 i2
  have m2 := mul_in m1.1 m1.2 r.1 r.2
  have hh := heatV_in h1 h2 i1 i2
  have e : dvI (i * i * rV c s) 1000000000 + secV s.rx c.pair = heatV c s i := by unfold heatV secV; rfl
  rw [e]
  exact ⟨hw, h1, h2.t0, h2.t1, by omega, by omega, by omega, by omega, by omega, by omega, by omega, by omega, h2.r0, h2.r1, hk.pr0, hk.pr1, by omega, by omega, rfl⟩
def rvoltS : Spec [celSh, staSh, .int .i64] := ⟨fun (c, s, (i : Int), _) => csE (celOf c) (staOf s) = 0 ∧ -1048576 ≤ i ∧ i ≤ 1048576, fun (c, s, (i : Int), _) => .si .i64 (voltV (celOf c) (staOf s) i)⟩
set_option maxRecDepth 100000 in
theorem rvolt_ok : FnSpec Try.prog 129 _ rvoltS := by
  refine FnSpec.of SRh_ok mixed (U := 0) (I := fun _ => []) Try.func129 rfl (by kernel_rfl) rfl rfl (by decide +kernel) ?_
  rintro ⟨c, s, (i : Int), ⟨⟩⟩ hpre
  obtain ⟨c, rfl⟩ := cel_ex c
  obtain ⟨s, rfl⟩ := sta_ex s
  have hpre : csE c s = 0 ∧ -1048576 ≤ i ∧ i ≤ 1048576 := by have : csE (celOf (celD c)) (staOf (staD s)) = 0 ∧ -1048576 ≤ i ∧ i ≤ 1048576 := hpre; rwa [celOf_D, staOf_D] at this
  obtain ⟨hcs, i1, i2⟩ := hpre
  obtain ⟨h1, h2⟩ := csE_iff.1 hcs
  unfold FnSat
  conv => arg 2; reduce
  simp [rvoltS, rwearS, rresS, rcapS, pcS, ropenS, divS, and_assoc]
  have hk := celB_iff.1 h1
  have := h2.h1
  have := h2.a1
  have hw : WearOK c s.th s.ag := ⟨hk.cy0, hk.cy1, hk.al0, hk.al1, h2.h0, by omega, h2.a0, by omega⟩
  have hw2 := wearV_in hw
  have ew : wearV c s.th s.ag = wV c s := by unfold wV; rfl
  have er : resV c s.tp (wearV c s.th s.ag) = rV c s := by unfold rV; rw [ew]
  have r := @rV_in c s
  rw [er]
  have m := mul_ab (a := i) (b := rV c s) (A := 1048576) (B := 1048576) i1 i2 r.1 r.2
  have ek : roomV c (wearV c s.th s.ag) = kV c s := by unfold kV; rw [ew]
  rw [ek]
  have k1 := kV_in h1 h2
  have q1 := q_in h2
  have f1 := fillV_in h1 h2
  have ef : pcV s.q (kV c s) = fillV c s := by unfold fillV; rfl
  rw [ef]
  have o1 := opnV_in (s := s) h1
  have eo : openV c (fillV c s) = opnV c s := by unfold opnV; rfl
  rw [eo]
  have d1 := dvI_le (a := i * rV c s) (d := 1000) (m := 1099511628) (by decide) (by omega)
  have d2 := dvI_ge (a := i * rV c s) (d := 1000) (m := -1099511628) (by decide) (by omega)
  have := h2.r0
  have := h2.r1
  have e : opnV c s - s.rx - dvI (i * rV c s) 1000 = voltV c s i := by unfold voltV; rfl
  rw [e]
  have v := voltV_in h1 h2 i1 i2
  exact ⟨hw, h1, h2.t0, h2.t1, by omega, by omega, hw, by have := hk.cap0; omega, hk.cap1, by omega, by omega, by omega, h1, by omega, by omega, by omega, by omega, by omega, by omega, by omega, by omega, by omega, by omega, rfl⟩
def SRi : Sums := ⟨(129, mkSum _ rvoltS) :: (149, mkSum _ rheatS) :: SRh.one, SRh.two, SRh.lo, SRh.eqs, SRh.its⟩
theorem SRi_ok : SumsOK Try.prog SRi := ((SRh_ok.cons Try.func149 (by kernel_rfl) (by kernel_rfl) rheat_ok).cons Try.func129 (by kernel_rfl) (by kernel_rfl) rvolt_ok)
def rnextS : Spec [celSh, staSh, inSh] := ⟨fun (c, s, ((i : Int), (a : Int), _), _) => csE (celOf c) (staOf s) = 0 ∧ -1048576 ≤ i ∧ i ≤ 1048576 ∧ 0 ≤ a ∧ a ≤ 400000, fun (c, s, ((i : Int), (a : Int), _), _) =>
  .agg [.si .i64 (nxQ (celOf c) (staOf s) i), .si .i64 (nxR (celOf c) (staOf s) i), .si .i64 (nxT (celOf c) (staOf s) i a), .si .i64 (nxH (staOf s) i), .si .i64 (nxA (celOf c) (staOf s))]⟩
set_option maxRecDepth 100000 in
set_option maxHeartbeats 2000000 in
theorem rnext_ok : FnSpec Try.prog 130 _ rnextS := by
  refine FnSpec.of SRi_ok mixed (U := 0) (I := fun _ => []) Try.func130 rfl (by kernel_rfl) rfl rfl (by decide +kernel) ?_
  rintro ⟨c, s, ⟨(i : Int), (a : Int), ⟨⟩⟩, ⟨⟩⟩ hpre
  obtain ⟨c, rfl⟩ := cel_ex c
  obtain ⟨s, rfl⟩ := sta_ex s
  have hpre : csE c s = 0 ∧ -1048576 ≤ i ∧ i ≤ 1048576 ∧ 0 ≤ a ∧ a ≤ 400000 := by have : csE (celOf (celD c)) (staOf (staD s)) = 0 ∧ -1048576 ≤ i ∧ i ≤ 1048576 ∧ 0 ≤ a ∧ a ≤ 400000 := hpre; rwa [celOf_D, staOf_D] at this
  obtain ⟨hcs, i1, i2, a1, a2⟩ := hpre
  obtain ⟨h1, h2⟩ := csE_iff.1 hcs
  unfold FnSat
  conv => arg 2; reduce
  simp [rnextS, rheatS, rvalS, rrelS, rcapS, clipS, divS, ElEq, and_assoc]
  have hk := celB_iff.1 h1
  have sth : ∀ a b d e f : Int, (staOf (a, b, d, e, f, PUnit.unit)).th = e := fun a b d e f => by unfold staOf; simp
  have sag : ∀ a b d e f : Int, (staOf (a, b, d, e, f, PUnit.unit)).ag = f := fun a b d e f => by unfold staOf; simp
  simp only [sth, sag]
  have vs := sc_val hk.stress s.tp
  have hh := heatV_in h1 h2 i1 i2
  have d1 := dvI_le (a := 1000 * heatV c s i) (d := c.hcap) (m := 71530000000000000) hk.hc0 (by
    have := Int.mul_le_mul_of_nonneg_left hk.hc0 (show (0 : Int) ≤ 71530000000000000 by decide)
    omega)
  have d2 := dvI_nonneg (a := 1000 * heatV c s i) (d := c.hcap) hk.hc0 (by omega)
  have := h2.t0
  have := h2.t1
  have := h2.h0
  have := h2.h1
  have := h2.a0
  have := h2.a1
  have q1 := q_in h2
  have k1 := kV_in h1 h2
  have m4 := mul_ab (a := a - s.tp) (b := c.cool) (A := 400000) (B := 65536) (by omega) (by omega) hk.co0 hk.co1
  have d3 := dvI_le (a := (a - s.tp) * c.cool) (d := 65536) (m := 400000) (by decide) (by omega)
  have d4 := dvI_ge (a := (a - s.tp) * c.cool) (d := 65536) (m := -400000) (by decide) (by omega)
  have := hk.lk0
  have := hk.lk1
  have hw : WearOK c (s.th + max i (-i)) (s.ag + valL c.stress s.tp) := ⟨hk.cy0, hk.cy1, hk.al0, hk.al1, by omega, by omega, by omega, by omega⟩
  have e3 : wearV c (s.th + max i (-i)) (s.ag + valL c.stress s.tp) = wearV c (nxH s i) (nxA c s) := by unfold nxH nxA; rfl
  have vp := val_pre hk.stress (by decide) (by decide)
  exact ⟨by omega, by omega, by omega, by omega, vp.1, vp.2.1, vp.2.2.1, vp.2.2.2.1, vp.2.2.2.2, by omega, by omega, by omega, by omega, hk.kp0, hk.kp1, h2.r0, h2.r1, i1, i2, hk.pr0, hk.pr1, hcs, i1, i2, by omega, by omega, by omega, by omega, hk.hc0, by omega, by omega, by omega, by omega, by omega, by omega, by omega, by omega,
    by omega, by omega, by omega, by omega, by omega, by omega, hw, by have := hk.cap0; omega, hk.cap1, by unfold nxQ; rw [e3], by unfold nxR slackV relV; rw [Int.mul_assoc (65536 - c.keep)], by unfold nxT; rfl, by unfold nxH; rfl, by unfold nxA; rfl⟩
def SRj : Sums := ⟨(130, mkSum _ rnextS) :: SRi.one, SRi.two, SRi.lo, SRi.eqs, SRi.its⟩
theorem SRj_ok : SumsOK Try.prog SRj := (SRi_ok.cons Try.func130 (by kernel_rfl) (by kernel_rfl) rnext_ok)
def routS : Spec [celSh, staSh, limSh, .int .i64, .int .i64] := ⟨fun (c, s, _, (a : Int), (i : Int), _) => csE (celOf c) (staOf s) = 0 ∧ 0 ≤ a ∧ a ≤ 400000 ∧ 0 ≤ i ∧ i ≤ 1048576, fun (c, s, ((l : Int), (_ : Int), (_ : Int), (_ : Int), (h : Int), _), (a : Int), (i : Int), _) => .sb (outP (celOf c) (staOf s) l h a i)⟩
set_option maxRecDepth 100000 in
theorem rout_ok : FnSpec Try.prog 83 _ routS := by
  refine FnSpec.of SRj_ok mixed (U := 0) (I := fun _ => []) Try.func83 rfl (by kernel_rfl) rfl rfl (by decide +kernel) ?_
  rintro ⟨c, s, ⟨(l : Int), (m : Int), (o : Int), (k : Int), (h : Int), ⟨⟩⟩, (a : Int), (i : Int), ⟨⟩⟩ hpre
  obtain ⟨c, rfl⟩ := cel_ex c
  obtain ⟨s, rfl⟩ := sta_ex s
  have hpre : csE c s = 0 ∧ 0 ≤ a ∧ a ≤ 400000 ∧ 0 ≤ i ∧ i ≤ 1048576 := by have : csE (celOf (celD c)) (staOf (staD s)) = 0 ∧ 0 ≤ a ∧ a ≤ 400000 ∧ 0 ≤ i ∧ i ≤ 1048576 := hpre; rwa [celOf_D, staOf_D] at this
  obtain ⟨hcs, a1, a2, i1, i2⟩ := hpre
  obtain ⟨h1, h2⟩ := csE_iff.1 hcs
  unfold FnSat
  conv => arg 2; reduce
  simp [routS, rvoltS, rnextS, and_assoc]
  have hk := celB_iff.1 h1
  have := hk.lk0
  have := hk.lk1
  refine ⟨hcs, by omega, i2, fun _ => ⟨hcs, by omega, i2, a1, a2⟩, fun _ _ => by omega, ?_⟩
  rw [Bool.eq_iff_iff, outP_iff]
  simp only [Bool.and_eq_true, decide_eq_true_eq]
  exact ⟨fun ⟨⟨x, y⟩, z⟩ => ⟨x, z, y⟩, fun ⟨x, z, y⟩ => ⟨⟨x, y⟩, z⟩⟩
def rinS : Spec [celSh, staSh, limSh, .int .i64, .int .i64] := ⟨fun (c, s, _, (a : Int), (i : Int), _) => csE (celOf c) (staOf s) = 0 ∧ 0 ≤ a ∧ a ≤ 400000 ∧ 0 ≤ i ∧ i ≤ 1048576, fun (c, s, ((_ : Int), (m : Int), (_ : Int), (_ : Int), (h : Int), _), (a : Int), (i : Int), _) => .sb (inP (celOf c) (staOf s) m h a i)⟩
set_option maxRecDepth 100000 in
theorem rin_ok : FnSpec Try.prog 87 _ rinS := by
  refine FnSpec.of SRj_ok mixed (U := 0) (I := fun _ => []) Try.func87 rfl (by kernel_rfl) rfl rfl (by decide +kernel) ?_
  rintro ⟨c, s, ⟨(l : Int), (m : Int), (o : Int), (k : Int), (h : Int), ⟨⟩⟩, (a : Int), (i : Int), ⟨⟩⟩ hpre
  obtain ⟨c, rfl⟩ := cel_ex c
  obtain ⟨s, rfl⟩ := sta_ex s
  have hpre : csE c s = 0 ∧ 0 ≤ a ∧ a ≤ 400000 ∧ 0 ≤ i ∧ i ≤ 1048576 := by have : csE (celOf (celD c)) (staOf (staD s)) = 0 ∧ 0 ≤ a ∧ a ≤ 400000 ∧ 0 ≤ i ∧ i ≤ 1048576 := hpre; rwa [celOf_D, staOf_D] at this
  obtain ⟨hcs, a1, a2, i1, i2⟩ := hpre
  obtain ⟨h1, h2⟩ := csE_iff.1 hcs
  unfold FnSat
  conv => arg 2; reduce
  simp [rinS, rvoltS, rnextS, rcapS, and_assoc]
  have hk := celB_iff.1 h1
  have := hk.lk0
  have := hk.lk1
  have sth : ∀ a b d e f : Int, (staOf (a, b, d, e, f, PUnit.unit)).th = e := fun a b d e f => by unfold staOf; simp
  have sag : ∀ a b d e f : Int, (staOf (a, b, d, e, f, PUnit.unit)).ag = f := fun a b d e f => by unfold staOf; simp
  simp only [sth, sag]
  have q1 := q_in h2
  have k1 := kV_in h1 h2
  have vs := sc_val hk.stress s.tp
  have := h2.h0
  have := h2.h1
  have := h2.a0
  have := h2.a1
  have hH : nxH s (-i) = s.th + max (-i) (- -i) := by unfold nxH; rfl
  have hA : nxA c s = s.ag + valL c.stress s.tp := by unfold nxA; rfl
  have hw : WearOK c (nxH s (-i)) (nxA c s) := ⟨hk.cy0, hk.cy1, hk.al0, hk.al1, by omega, by omega, by omega, by omega⟩
  exact ⟨by omega, by omega, hcs, by omega, by omega, a1, a2, by omega, by omega, hcs, by omega, by omega, fun _ _ => by omega, fun _ _ => by omega, fun _ _ => ⟨hw, by have := hk.cap0; omega, hk.cap1⟩, by unfold inP; rfl⟩
def SRk : Sums := ⟨(87, mkSum _ rinS) :: (83, mkSum _ routS) :: SRj.one, SRj.two, SRj.lo, SRj.eqs, SRj.its⟩
theorem SRk_ok : SumsOK Try.prog SRk := ((SRj_ok.cons Try.func83 (by kernel_rfl) (by kernel_rfl) rout_ok).cons Try.func87 (by kernel_rfl) (by kernel_rfl) rin_ok)
end
end Abs
end Go.Proofs.Ytghmkkdmpmmbhaa

/- Cells, by the document: the greatest safe currents. -/
namespace Go.Proofs.Ytghmkkdmpmmbhaa
namespace Abs
open Go Go.RowKit
noncomputable section
attribute [local irreducible] FnSat
-- by halves
@[irreducible] def p2 (e : Nat) : Int := (2 : Int) ^ e
theorem p2_s (e : Nat) : p2 (e + 1) = 2 * p2 e := by unfold p2; rw [Int.pow_succ]; omega
theorem p2_0 : p2 0 = 1 := by unfold p2; rfl
theorem p2_pos : ∀ e, 1 ≤ p2 e
  | 0 => by rw [p2_0]; decide
  | e + 1 => by have := p2_pos e; rw [p2_s]; omega
theorem p2_mono {d : Nat} : ∀ {e : Nat}, d ≤ e → p2 d ≤ p2 e
  | 0, h => by obtain rfl : d = 0 := by omega
               exact Int.le_refl _
  | e + 1, h => by
    rcases Nat.lt_or_ge d (e + 1) with h1 | h1
    · have := p2_mono (d := d) (e := e) (by omega)
      have := p2_pos e
      rw [p2_s]; omega
    · obtain rfl : d = e + 1 := by omega
      exact Int.le_refl _
@[irreducible] def stp (e : Nat) : Int := match e with | 0 => 0 | e + 1 => p2 e
theorem stp_0 : stp 0 = 0 := by unfold stp; rfl
theorem stp_s (e : Nat) : stp (e + 1) = p2 e := by unfold stp; rfl
theorem stp_half (e : Nat) : (stp (e + 1)).tdiv 2 = stp e := by
  rw [stp_s]
  cases e with
  | zero => rw [p2_0, stp_0]; rfl
  | succ e =>
    have := p2_pos e
    rw [p2_s, stp_s, Int.tdiv_eq_ediv_of_nonneg (by omega)]
    omega
theorem stp_b {e : Nat} (h : e ≤ 21) : 0 ≤ stp e ∧ stp e ≤ 1048576 := by
  cases e with
  | zero => rw [stp_0]; decide
  | succ e =>
    have h1 := p2_mono (d := e) (e := 20) (by omega)
    have h2 := p2_pos e
    have h3 : p2 20 = 1048576 := by unfold p2; rfl
    rw [stp_s]; omega
structure HvInv (p : Int → Bool) (most : Int) (e : Nat) (x : Int) : Prop where
  e1 : e ≤ 21
  a : 0 ≤ x
  b : x ≤ most
  c : p x = true
  d : ∀ i, x + p2 e ≤ i → i ≤ most → p i = false
theorem hv_0 {p : Int → Bool} {most : Int} (hm : Mono p most) (h : most ≤ 1048576) : HvInv p most 21 0 := ⟨by decide, by decide, hm.h0, hm.p0, fun i h1 h2 => by
  have : p2 21 = 2097152 := by unfold p2; rfl
  omega⟩
theorem hv_fin {p : Int → Bool} {most x : Int} {e : Nat} (h : HvInv p most e x) (hm : Mono p most) (hs : stp e ≤ 0) : x = grV p most ∧ 0 = grE p := by
  obtain rfl : e = 0 := by
    cases e with
    | zero => rfl
    | succ e => have := p2_pos e; rw [stp_s] at hs; omega
  have hd := h.d
  rw [p2_0] at hd
  have e := grI_uniq hm h.a h.b h.c fun hl => hd (x + 1) (by omega) (by omega)
  unfold grV grE
  rw [if_pos hm.p0, if_pos hm.p0, e]
  exact ⟨rfl, rfl⟩
theorem hv_up {p : Int → Bool} {most x : Int} {e : Nat} (h : HvInv p most (e + 1) x) (h1 : x + stp (e + 1) ≤ most) (hp : p (x + stp (e + 1)) = true) : HvInv p most e (x + stp (e + 1)) := by
  rw [stp_s] at *
  have := p2_pos e
  exact ⟨by have := h.e1; omega, by have := h.a; omega, h1, hp, fun i i1 i2 => h.d i (by rw [p2_s]; omega) i2⟩
theorem hv_dn {p : Int → Bool} {most x : Int} {e : Nat} (h : HvInv p most (e + 1) x) (hm : Mono p most) (hp : most < x + stp (e + 1) ∨ p (x + stp (e + 1)) = false) : HvInv p most e x := by
  rw [stp_s] at *
  have := p2_pos e
  refine ⟨by have := h.e1; omega, h.a, h.b, h.c, fun i i1 i2 => ?_⟩
  cases hi : p i with
  | false => rfl
  | true =>
    rcases hp with hp | hp
    · omega
    · have := hm.dn (x + p2 e) i (by have := h.a; omega) i1 i2 hi
      rw [hp] at this; cases this
theorem stp_ex {e : Nat} (h : 0 < stp e) : ∃ d, e = d + 1 := by
  cases e with
  | zero => rw [stp_0] at h; omega
  | succ e => exact ⟨e, rfl⟩
def routmI : DatL [celSh, staSh, limSh, .int .i64] → Anns := fun (c, s0, ((l : Int), (m : Int), (o : Int), (k : Int), (h : Int), _), (a : Int), _) => [
  (11, [], fun fr hp => ⟨Nat × Int, fun (e, x) => ⟨frI [.k 10, .s (.si .i64 x), .s (.si .i64 (stp e)), .k 21, .t 23, .k 1] fr, hp⟩, (Int → Bool) × Int × Nat × Int, fun (e, x) => (outP (celOf c) (staOf s0) l h a, o, e, x), fun (p, most, e, x) => HvInv p most e x, fun (e, _) => e⟩)]
set_option maxRecDepth 100000 in
set_option maxHeartbeats 4000000 in
theorem routm_ok : FnSpec Try.prog 35 _ outmo := by
  refine FnSpec.of SRk_ok mixed (U := 0) (I := routmI) Try.func35 rfl (by kernel_rfl) rfl rfl (by decide +kernel) ?_
  rintro ⟨c, s, ⟨(l : Int), (m : Int), (o : Int), (k : Int), (h : Int), ⟨⟩⟩, (a : Int), ⟨⟩⟩ hpre
  obtain ⟨c, rfl⟩ := cel_ex c
  obtain ⟨s, rfl⟩ := sta_ex s
  have hpre : CelMax c := by have : CelMax (celOf (celD c)) := hpre; rwa [celOf_D] at this
  unfold FnSat
  conv => arg 2; reduce
  simp [-Bool.forall_bool, outmo, cstS, limS, betS, routS, and_assoc]
  have big : (CelMax c) := hpre
  refine ⟨hpre, fun h1 => ⟨hpre, (aV_no h1).symm, (aE_no h1).symm⟩, fun h1 => ?_⟩
  rw [aV_yes h1, aE_yes h1]
  refine ⟨fun hb => mg_no hb, fun hb => ⟨fun ha => mg_amb hb ha, fun a1 a2 => ?_⟩⟩
  rw [← (mg_yes (most := o) (p := outP c s l h a) hb a1 a2).1, ← (mg_yes (most := 0) (p := outP c s l h a) hb a1 a2).2]
  refine ⟨h1, a1, a2, gr_no, fun hp => ?_⟩
  have lb := limB_iff.1 hb
  have hm : Mono (outP c s l h a) o := out_mono (a := a) (csE_iff.1 h1).1 (by omega) hp
  refine ⟨⟨21, by unfold stp p2; rfl, hv_0 hm (by omega)⟩, fun e x hv => ⟨fun hs => ?_, fun hs => hv_fin hv hm hs⟩⟩
  obtain ⟨d, rfl⟩ := stp_ex hs
  have sb := stp_b hv.e1
  have sh := stp_half d
  have sb2 := stp_b (e := d) (by have := hv.e1; omega)
  have xa := hv.a
  have xb := hv.b
  refine ⟨by omega, by omega, fun _ => by omega, fun hx => ⟨h1, a1, a2, by omega, by omega⟩, fun hx hq => ⟨by omega, by omega, by omega, by omega, d, sh, hv_up hv hx hq, by omega⟩, fun hx => ⟨by omega, by omega, d, sh, hv_dn hv hm ?_, by omega⟩⟩
  rcases Int.lt_or_le o (x + stp (d + 1)) with hl | hl
  · exact .inl hl
  · exact .inr (hx hl)
def rinmI : DatL [celSh, staSh, limSh, .int .i64] → Anns := fun (c, s0, ((l : Int), (m : Int), (o : Int), (k : Int), (h : Int), _), (a : Int), _) => [
  (11, [], fun fr hp => ⟨Nat × Int, fun (e, x) => ⟨frI [.k 10, .s (.si .i64 x), .s (.si .i64 (stp e)), .k 21, .t 23, .k 1] fr, hp⟩, (Int → Bool) × Int × Nat × Int, fun (e, x) => (inP (celOf c) (staOf s0) m h a, k, e, x), fun (p, most, e, x) => HvInv p most e x, fun (e, _) => e⟩)]
set_option maxRecDepth 100000 in
set_option maxHeartbeats 4000000 in
theorem rinm_ok : FnSpec Try.prog 37 _ inmo := by
  refine FnSpec.of SRk_ok mixed (U := 0) (I := rinmI) Try.func37 rfl (by kernel_rfl) rfl rfl (by decide +kernel) ?_
  rintro ⟨c, s, ⟨(l : Int), (m : Int), (o : Int), (k : Int), (h : Int), ⟨⟩⟩, (a : Int), ⟨⟩⟩ hpre
  obtain ⟨c, rfl⟩ := cel_ex c
  obtain ⟨s, rfl⟩ := sta_ex s
  have hpre : CelMax c := by have : CelMax (celOf (celD c)) := hpre; rwa [celOf_D] at this
  unfold FnSat
  conv => arg 2; reduce
  simp [-Bool.forall_bool, inmo, cstS, limS, betS, rinS, and_assoc]
  have big : (CelMax c) := hpre
  refine ⟨hpre, fun h1 => ⟨hpre, (aV_no h1).symm, (aE_no h1).symm⟩, fun h1 => ?_⟩
  rw [aV_yes h1, aE_yes h1]
  refine ⟨fun hb => mg_no hb, fun hb => ⟨fun ha => mg_amb hb ha, fun a1 a2 => ?_⟩⟩
  rw [← (mg_yes (most := k) (p := inP c s m h a) hb a1 a2).1, ← (mg_yes (most := 0) (p := inP c s m h a) hb a1 a2).2]
  refine ⟨h1, a1, a2, gr_no, fun hp => ?_⟩
  have lb := limB_iff.1 hb
  have hm : Mono (inP c s m h a) k := in_mono (a := a) (csE_iff.1 h1).1 (by omega) hp
  refine ⟨⟨21, by unfold stp p2; rfl, hv_0 hm (by omega)⟩, fun e x hv => ⟨fun hs => ?_, fun hs => hv_fin hv hm hs⟩⟩
  obtain ⟨d, rfl⟩ := stp_ex hs
  have sb := stp_b hv.e1
  have sh := stp_half d
  have sb2 := stp_b (e := d) (by have := hv.e1; omega)
  have xa := hv.a
  have xb := hv.b
  refine ⟨by omega, by omega, fun _ => by omega, fun hx => ⟨h1, a1, a2, by omega, by omega⟩, fun hx hq => ⟨by omega, by omega, by omega, by omega, d, sh, hv_up hv hx hq, by omega⟩, fun hx => ⟨by omega, by omega, d, sh, hv_dn hv hm ?_, by omega⟩⟩
  rcases Int.lt_or_le k (x + stp (d + 1)) with hl | hl
  · exact .inl hl
  · exact .inr (hx hl)
end
end Abs
end Go.Proofs.Ytghmkkdmpmmbhaa

/- A part of the proof: no statement of its own. -/
import Derived.Test.YtghmkkdmpmmbhaaQGdacbf90a
set_option linter.unusedSimpArgs false
set_option linter.unusedVariables false
/- Cells, by the document: valid ones, their states. -/
namespace Go.Proofs.Ytghmkkdmpmmbhaa
namespace Abs
open Go Go.RowKit
noncomputable section
attribute [local irreducible] FnSat
set_option maxRecDepth 100000 in
theorem floor_ok : FnSpec Try.prog 141 _ divS := by
  refine FnSpec.of SVb_ok mixed (U := 0) (I := fun _ => []) Try.func141 rfl (by kernel_rfl) rfl rfl (by decide +kernel) ?_
  rintro ⟨(n : Int), (d : Int), ⟨⟩⟩ ⟨(h1 : -4611686018427387904 ≤ n), (h2 : n ≤ 4611686018427387904), (h3 : 1 ≤ d)⟩
  unfold FnSat
  conv => arg 2; reduce
  simp [divS, and_assoc]
  exact dvI_by h1 h2 h3
set_option maxRecDepth 100000 in
theorem into_ok : FnSpec Try.prog 147 _ clipS := by
  refine FnSpec.of SVb_ok mixed (U := 0) (I := fun _ => []) Try.func147 rfl (by kernel_rfl) rfl rfl (by decide +kernel) ?_
  rintro ⟨(x : Int), (lo : Int), (hi : Int), ⟨⟩⟩ -
  unfold FnSat
  conv => arg 2; reduce
  simp [clipS, clipV]
set_option maxRecDepth 100000 in
theorem within_ok : FnSpec Try.prog 63 _ betS := by
  refine FnSpec.of SVb_ok mixed (U := 0) (I := fun _ => []) Try.func63 rfl (by kernel_rfl) rfl rfl (by decide +kernel) ?_
  rintro ⟨(x : Int), (lo : Int), (hi : Int), ⟨⟩⟩ -
  unfold FnSat
  conv => arg 2; reduce
  simp [betS, isIn]
set_option maxRecDepth 100000 in
theorem ris_ok : FnSpec Try.prog 157 _ isS := by
  refine FnSpec.of SVb_ok mixed (U := 0) (I := fun _ => []) Try.func157 rfl (by kernel_rfl) rfl rfl (by decide +kernel) ?_
  rintro ⟨(x : Int), ⟨⟩⟩ -
  unfold FnSat
  conv => arg 2; reduce
  simp [isS, isQ]
def SRa : Sums := ⟨(157, mkSum _ isS) :: (63, mkSum _ betS) :: (147, mkSum _ clipS) :: (141, mkSum _ divS) :: SVb.one, SVb.two, SVb.lo, SVb.eqs, SVb.its⟩
theorem SRa_ok : SumsOK Try.prog SRa := ((((SVb_ok.cons Try.func141 (by kernel_rfl) (by kernel_rfl) floor_ok).cons Try.func147 (by kernel_rfl) (by kernel_rfl) into_ok).cons Try.func63 (by kernel_rfl) (by kernel_rfl) within_ok).cons Try.func157 (by kernel_rfl) (by kernel_rfl) ris_ok)
def rcrI : DatL [crvSh] → Anns := fun (c, _) => [
  (6, [], fun fr hp => ⟨Nat, fun g => ⟨frI [.k 3, .s (.si .i64 (icast g)), .k 23, .t 55] fr, hp⟩, Nat × Crv, fun g => (g, crvOf c), fun (g, c) => g ≤ c.nx ∧ (∀ j, j < g → isQ (c.x j) = true ∧ isQ (c.y j) = true) ∧ ∀ j, j + 1 < g → c.x j < c.x (j + 1) ∧ c.y j ≤ c.y (j + 1), fun g => nsub c.1.1 g⟩)]
set_option maxRecDepth 100000 in
theorem rcr_ok : FnSpec Try.prog 140 _ crS := by
  refine FnSpec.of SRa_ok mixed (U := 0) (I := rcrI) Try.func140 rfl (by kernel_rfl) rfl rfl (by decide +kernel) ?_
  rintro ⟨c, ⟨⟩⟩ hpre
  obtain ⟨c, rfl⟩ := crv_ex c
  have hpre : c.nx ≤ maxLen ∧ c.ny ≤ maxLen := hpre
  obtain ⟨p1, p2⟩ := hpre
  unfold FnSat
  conv => arg 2; reduce
  simp [crS, isS, ElEq, getB, goneB, aliveB, and_assoc]
  have bad : (crB c = true → False) → c.nx ≤ 64 → c.ny ≤ 64 → 2 = crE c := fun h h1 h2 => by unfold crE; rw [if_neg (by omega), if_neg (fun hb => h hb)]
  refine ⟨fun h => by unfold crE; rw [if_pos (by omega)], fun n1 n2 => ⟨fun h => bad (fun hb => ?_) (by omega) (by omega), fun h1 h2 => ⟨⟨0, rfl, by omega, fun j hj => by omega, fun j hj => by omega⟩, fun g hg hq hf => ⟨fun hlt => ⟨hlt, fun _ => by omega, fun _ _ _ => hlt, fun _ _ _ => by omega, fun _ _ _ => by omega, fun _ _ _ _ => by omega, fun _ _ _ _ => by omega, fun _ _ _ _ => by omega, fun a b c d => ⟨a, b, c, d⟩, fun a b c => ⟨a, b, c⟩, fun h => bad (fun hb => ?_) (by omega) (by omega), fun a1 a2 a3 => ⟨by omega, by omega, g + 1, by omega, by omega, fun j hj => ?_, fun j hj => ?_, by omega⟩⟩, fun hge => ?_⟩⟩⟩⟩
  · have := crB_iff.1 hb; omega
  · have hb := crB_iff.1 hb
    rcases h with (h | h) | ⟨h0, h⟩
    · rw [(hb.2.2.2.1 g hlt).1] at h; cases h
    · rw [(hb.2.2.2.1 g hlt).2] at h; cases h
    · have := hb.2.2.2.2 (g - 1) (by omega)
      rw [show g - 1 + 1 = g by omega] at this
      omega
  · by_cases h' : j < g
    · exact hq j h'
    · obtain rfl : j = g := by omega
      exact ⟨a1, a2⟩
  · by_cases h' : j + 1 < g
    · exact hf j h'
    · have := a3 (by omega)
      rw [show j = g - 1 by omega, show g - 1 + 1 = g by omega]
      exact this
  · exact (crE_iff.2 (crB_iff.2 ⟨by omega, by omega, by omega, fun k hk => hq k (by omega), fun k hk => hf k (by omega)⟩)).symm
def SRb : Sums := ⟨(140, mkSum _ crS) :: SRa.one, SRa.two, SRa.lo, SRa.eqs, SRa.its⟩
theorem SRb_ok : SumsOK Try.prog SRb := (SRa_ok.cons Try.func140 (by kernel_rfl) (by kernel_rfl) rcr_ok)
set_option maxRecDepth 100000 in
theorem rscale_ok : FnSpec Try.prog 116 _ scaleS := by
  refine FnSpec.of SRb_ok mixed (U := 0) (I := fun _ => []) Try.func116 rfl (by kernel_rfl) rfl rfl (by decide +kernel) ?_
  rintro ⟨c, (last : Int), (most : Int), ⟨⟩⟩ hpre
  obtain ⟨c, rfl⟩ := crv_ex c
  have hpre : c.nx ≤ maxLen ∧ c.ny ≤ maxLen := hpre
  obtain ⟨p1, p2⟩ := hpre
  unfold FnSat
  conv => arg 2; reduce
  simp [scaleS, crS, and_assoc]
  refine ⟨p1, p2, fun h => ?_, fun h => ?_⟩
  · have hb : crB c = false := by
      cases hb : crB c with
      | false => rfl
      | true => exact absurd (crE_iff.2 hb) h
    unfold scB; rw [hb]; simp
  · have hb : crB c = true := crE_iff.1 h
    have h1 := crB_iff.1 hb
    unfold maxLen at p1 p2
    refine ⟨by omega, fun _ => by omega, fun _ => by omega, fun _ _ => by omega, fun _ _ _ => by omega, fun _ _ _ => by omega, ?_⟩
    unfold scB
    rw [Bool.eq_iff_iff]
    simp [hb]
def rvalS : Spec [crvSh, .int .i64] := ⟨fun (c, (x : Int), _) => (crB (crvOf c) = true ∧ (crvOf c).x 0 = 0 ∧ (crvOf c).x ((crvOf c).nx - 1) ≤ 400000 ∧ 0 ≤ (crvOf c).y 0 ∧ (crvOf c).y ((crvOf c).nx - 1) ≤ 8388608) ∧ -1099511627776 ≤ x ∧ x ≤ 1099511627776, fun (c, (x : Int), _) => .si .i64 (valL (crvOf c) x)⟩
def rvalI : DatL [crvSh, .int .i64] → Anns := fun (c, (x : Int), _) => [
  (7, [], fun fr hp => ⟨Nat, fun g => ⟨frI [.k 6, .s (.si .i64 (icast g)), .k 27, .t 10, .k 39] fr, hp⟩, Nat × Crv × Int, fun g => (g, crvOf c, x), fun (g, c, x) => g + 1 < c.nx ∧ c.x g ≤ x, fun g => nsub c.1.1 g⟩)]
set_option maxRecDepth 100000 in
theorem rval_ok : FnSpec Try.prog 146 _ rvalS := by
  refine FnSpec.of SRb_ok mixed (U := 0) (I := rvalI) Try.func146 rfl (by kernel_rfl) rfl rfl (by decide +kernel) ?_
  rintro ⟨c, (x : Int), ⟨⟩⟩ hpre
  obtain ⟨c, rfl⟩ := crv_ex c
  have hpre : (crB c = true ∧ c.x 0 = 0 ∧ c.x (c.nx - 1) ≤ 400000 ∧ 0 ≤ c.y 0 ∧ c.y (c.nx - 1) ≤ 8388608) ∧ -1099511627776 ≤ x ∧ x ≤ 1099511627776 := by
    have h : (crB (crvOf (crvD c)) = true ∧ (crvOf (crvD c)).x 0 = 0 ∧ (crvOf (crvD c)).x ((crvOf (crvD c)).nx - 1) ≤ 400000 ∧ 0 ≤ (crvOf (crvD c)).y 0 ∧ (crvOf (crvD c)).y ((crvOf (crvD c)).nx - 1) ≤ 8388608) ∧ -1099511627776 ≤ x ∧ x ≤ 1099511627776 := hpre
    rwa [show crvOf (crvD c) = c from crvOf_mk c] at h
  obtain ⟨⟨hc, hx0, hxn, hy0, hyn⟩, x1, x2⟩ := hpre
  unfold FnSat
  conv => arg 2; reduce
  simp [rvalS, divS, and_assoc]
  have hb := crB_iff.1 hc
  have vlo : x ≤ c.x 0 → c.y 0 = valL c x := fun h => by
    have hx := crv_x hc (j := c.nx - 1) (i := 0) (by omega) (by omega)
    unfold valL
    rw [if_neg (by omega)]
    split
    · rfl
    · have e : x = c.x 0 := by omega
      have h2 := crv_x hc (j := 1) (i := 0) (by omega) (by omega)
      rw [sgI_uniq hc (i := 0) (by omega) (by omega) (by show x < c.x 1; omega)]
      unfold pcL
      rw [e, Int.sub_self, Int.zero_mul, Int.zero_ediv, Int.add_zero]
  refine ⟨by omega, fun h => ⟨by omega, vlo h⟩, fun h => ⟨by omega, by omega, by omega, by omega, fun h2 => ⟨by omega, by omega, by omega, by omega, ?_⟩, fun h2 => ⟨⟨0, rfl, by omega, by omega⟩, fun g hg hx => ?_⟩⟩⟩
  · unfold valL; rw [if_pos h2]
  · have gx := hb.2.2.2.2 g hg
    have x0 := crv_x hc (j := g) (i := 0) (by omega) (by omega)
    have x3 := crv_x hc (j := c.nx - 1) (i := g + 1) (by omega) (by omega)
    have y0' := crv_y hc (j := g) (i := 0) (by omega) (by omega)
    have y3 := crv_y hc (j := c.nx - 1) (i := g + 1) (by omega) (by omega)
    refine ⟨by omega, by omega, by omega, by omega, fun h3 => ⟨by omega, by omega, g + 1, by omega, by have hne : g + 1 ≠ c.nx - 1 := (fun e => by rw [e] at h3; omega); omega, h3, by omega⟩, fun h3 => ?_⟩
    have m := mul_in (a := x - c.x g) (b := c.y (g + 1) - c.y g) (A := 400000) (B := 8388608) (by omega) (by omega) (by omega) (by omega)
    have pc := pc_in hc hg hx (by omega)
    have e : c.y g + dvI ((x - c.x g) * (c.y (g + 1) - c.y g)) (c.x (g + 1) - c.x g) = pcL c g x := by unfold pcL dvI; rfl
    have e2 : pcL c g x = valL c x := by
      unfold valL
      rw [if_neg (by omega), if_neg (by omega), sgI_uniq hc hg hx h3]
    rw [e]
    exact ⟨by omega, by omega, by omega, by omega, by omega, by omega, by omega, by omega, by omega, by omega, by omega, by omega, by omega, by omega, by omega, by omega, by omega, by omega, by omega, by omega, by omega, by omega, by omega, by omega, by omega, e2⟩
def rwearS : Spec [celSh, .int .i64, .int .i64] := ⟨fun (c, (t : Int), (a : Int), _) => WearOK (celOf c) t a, fun (c, (t : Int), (a : Int), _) => .si .i64 (wearV (celOf c) t a)⟩
set_option maxRecDepth 100000 in
theorem rwear_ok : FnSpec Try.prog 117 _ rwearS := by
  refine FnSpec.of SRb_ok mixed (U := 0) (I := fun _ => []) Try.func117 rfl (by kernel_rfl) rfl rfl (by decide +kernel) ?_
  rintro ⟨c, (t : Int), (a : Int), ⟨⟩⟩ hpre
  obtain ⟨c, rfl⟩ := cel_ex c
  have hpre : WearOK c t a := by have : WearOK (celOf (celD c)) t a := hpre; rwa [celOf_D] at this
  unfold FnSat
  conv => arg 2; reduce
  simp [rwearS, divS, and_assoc]
  have h1 := mul_in hpre.t0 hpre.t1 hpre.c0 hpre.c1
  have h2 := mul_in hpre.g0 hpre.g1 hpre.a0 hpre.a1
  have h3 := wearV_in hpre
  have e : dvI (t * c.cyc) 1073741824 + dvI (a * c.agel) 1073741824 = wearV c t a := by unfold wearV; rfl
  rw [e]
  omega
def SRc : Sums := ⟨(117, mkSum _ rwearS) :: (146, mkSum _ rvalS) :: (116, mkSum _ scaleS) :: SRb.one, SRb.two, SRb.lo, SRb.eqs, SRb.its⟩
theorem SRc_ok : SumsOK Try.prog SRc := (((SRb_ok.cons Try.func116 (by kernel_rfl) (by kernel_rfl) rscale_ok).cons Try.func146 (by kernel_rfl) (by kernel_rfl) rval_ok).cons Try.func117 (by kernel_rfl) (by kernel_rfl) rwear_ok)
def rcapS : Spec [celSh, staSh] := ⟨fun (c, s, _) => WearOK (celOf c) (staOf s).th (staOf s).ag ∧ 0 ≤ (celOf c).cap ∧ (celOf c).cap ≤ 4294967296, fun (c, s, _) => .si .i64 (roomV (celOf c) (wearV (celOf c) (staOf s).th (staOf s).ag))⟩
set_option maxRecDepth 100000 in
theorem rcap_ok : FnSpec Try.prog 64 _ rcapS := by
  refine FnSpec.of SRc_ok mixed (U := 0) (I := fun _ => []) Try.func64 rfl (by kernel_rfl) rfl rfl (by decide +kernel) ?_
  rintro ⟨c, s, ⟨⟩⟩ hpre
  obtain ⟨c, rfl⟩ := cel_ex c
  obtain ⟨s, rfl⟩ := sta_ex s
  have hpre : WearOK c s.th s.ag ∧ 0 ≤ c.cap ∧ c.cap ≤ 4294967296 := by have : WearOK (celOf (celD c)) (staOf (staD s)).th (staOf (staD s)).ag ∧ 0 ≤ (celOf (celD c)).cap ∧ (celOf (celD c)).cap ≤ 4294967296 := hpre; rwa [celOf_D, staOf_D] at this
  obtain ⟨hw, c0, c1⟩ := hpre
  unfold FnSat
  conv => arg 2; reduce
  simp [rcapS, rwearS, and_assoc]
  have := wearV_in hw
  unfold roomV
  exact ⟨hw, by omega, by omega, rfl⟩
set_option maxRecDepth 100000 in
set_option maxHeartbeats 4000000 in
theorem rcheck_ok : FnSpec Try.prog 62 _ ccheckS := by
  refine FnSpec.of SRc_ok mixed (U := 0) (I := fun _ => []) Try.func62 rfl (by kernel_rfl) rfl rfl (by decide +kernel) ?_
  rintro ⟨c, ⟨⟩⟩ hpre
  obtain ⟨c, rfl⟩ := cel_ex c
  have hpre : CelMax c := by have : CelMax (celOf (celD c)) := hpre; rwa [celOf_D] at this
  obtain ⟨p1, p2, p3, p4, p5, p6⟩ := hpre
  unfold FnSat
  conv => arg 2; reduce
  simp [ccheckS, betS, scaleS, and_assoc]
  have no : (CelOK c → False) → 2 = errA (celB c) := fun h => by rw [celB_no h]; simp [errA]
  refine ⟨fun _ _ => ⟨p1, p2⟩, fun _ _ _ => ⟨p3, p4⟩, fun _ _ _ _ => ⟨p5, p6⟩, fun h => no fun k => ?_, fun q0 q1 h1 h2 h3 => ⟨fun h => no fun k => ?_, fun q2 q3 q4 q5 q6 q7 q8 q9 q10 q11 q12 q13 q14 q15 => ⟨fun h => no fun k => ?_, fun q16 q17 q18 q19 q20 q21 => ?_⟩⟩⟩
  · have := k.cap0
    have := k.cap1
    rcases h with (((h | h) | h) | h) | h
    · omega
    · omega
    · rw [k.ocv] at h; cases h
    · rw [k.cold] at h; cases h
    · rw [k.stress] at h; cases h
  · have := k.sh0
    have := k.sh1
    have := k.ex0
    have := k.ex1
    have := k.pr0
    have := k.pr1
    have := k.lk0
    have := k.lk1
    have := k.kp0
    have := k.kp1
    have := k.co0
    have := k.co1
    have := k.hc0
    have := k.hc1
    omega
  · have := k.cy0
    have := k.cy1
    have := k.al0
    have := k.al1
    have := k.gr0
    have := k.gr1
    omega
  · rw [celB_iff.2 ⟨q0, q1, q2, q3, q4, q5, q6, q7, q8, q9, q10, q11, q12, q13, q14, q15, q16, q17, q18, q19, q20, q21, h1, h2, h3⟩]; simp [errA]
def SRd : Sums := ⟨(62, mkSum _ ccheckS) :: (64, mkSum _ rcapS) :: SRc.one, SRc.two, SRc.lo, SRc.eqs, SRc.its⟩
theorem SRd_ok : SumsOK Try.prog SRd := ((SRc_ok.cons Try.func64 (by kernel_rfl) (by kernel_rfl) rcap_ok).cons Try.func62 (by kernel_rfl) (by kernel_rfl) rcheck_ok)
set_option maxRecDepth 100000 in
set_option maxHeartbeats 4000000 in
theorem rcst_ok : FnSpec Try.prog 15 _ cstS := by
  refine FnSpec.of SRd_ok mixed (U := 0) (I := fun _ => []) Try.func15 rfl (by kernel_rfl) rfl rfl (by decide +kernel) ?_
  rintro ⟨c, s, ⟨⟩⟩ hpre
  obtain ⟨c, rfl⟩ := cel_ex c
  obtain ⟨s, rfl⟩ := sta_ex s
  have hpre : CelMax c := by have : CelMax (celOf (celD c)) := hpre; rwa [celOf_D] at this
  unfold FnSat
  conv => arg 2; reduce
  simp [cstS, betS, ccheckS, rcapS, and_assoc]
  refine ⟨hpre, fun h => (csE_2 h).symm, fun h => ⟨fun t0 t1 h0 h1 a0 a1 r0 r1 => ?_, fun h' => (csE_3 h fun k => ?_).symm, fun t0 t1 h0 h1 a0 a1 r0 r1 q0 q1 => (csE_0 h ⟨t0, t1, h0, h1, a0, a1, r0, r1, q0, q1⟩).symm⟩⟩
  · have hc := celB_iff.1 h
    exact ⟨⟨hc.cy0, hc.cy1, hc.al0, hc.al1, h0, by omega, a0, by omega⟩, by have := hc.cap0; omega, hc.cap1⟩
  · have := k.t0
    have := k.t1
    have := k.h0
    have := k.h1
    have := k.a0
    have := k.a1
    have := k.r0
    have := k.r1
    have := k.q0
    have := k.q1
    omega
def SRe : Sums := ⟨(15, mkSum _ cstS) :: SRd.one, SRd.two, SRd.lo, SRd.eqs, SRd.its⟩
theorem SRe_ok : SumsOK Try.prog SRe := (SRd_ok.cons Try.func15 (by kernel_rfl) (by kernel_rfl) rcst_ok)
end
end Abs
end Go.Proofs.Ytghmkkdmpmmbhaa

/- Whether a cell has too long curves. -/
namespace Go.Proofs.Ytghmkkdmpmmbhaa
namespace Abs
open Go Go.RowKit
noncomputable section
attribute [local irreducible] FnSat
@[irreducible] def lngB (c : Crv) : Bool := decide (80 < c.nx) || decide (80 < c.ny)
@[irreducible] def grtB (c : Cel) : Bool := lngB c.ocv || lngB c.cold || lngB c.stress
theorem grtB_no {c : Cel} (h : grtB c = false) : CelMax c := by
  unfold grtB lngB at h
  simp at h
  unfold CelMax maxLen
  omega
def lngS : Spec [crvSh] := ⟨fun _ => True, fun (c, _) => .sb (lngB (crvOf c))⟩
set_option maxRecDepth 100000 in
theorem lng_ok : FnSpec Try.prog 61 _ lngS := by
  refine FnSpec.of SRe_ok mixed (U := 0) (I := fun _ => []) Try.func61 rfl (by kernel_rfl) rfl rfl (by decide +kernel) ?_
  rintro ⟨c, ⟨⟩⟩ -
  obtain ⟨c, rfl⟩ := crv_ex c
  unfold FnSat
  conv => arg 2; reduce
  simp [lngS, lngB]
  rw [Bool.eq_iff_iff]
  simp
  omega
def SRf : Sums := ⟨(61, mkSum _ lngS) :: SRe.one, SRe.two, SRe.lo, SRe.eqs, SRe.its⟩
theorem SRf_ok : SumsOK Try.prog SRf := (SRe_ok.cons Try.func61 (by kernel_rfl) (by kernel_rfl) lng_ok)
def grtS : Spec [celSh] := ⟨fun _ => True, fun (c, _) => .sb (grtB (celOf c))⟩
set_option maxRecDepth 100000 in
theorem grt_ok : FnSpec Try.prog 14 _ grtS := by
  refine FnSpec.of SRf_ok mixed (U := 0) (I := fun _ => []) Try.func14 rfl (by kernel_rfl) rfl rfl (by decide +kernel) ?_
  rintro ⟨c, ⟨⟩⟩ -
  obtain ⟨c, rfl⟩ := cel_ex c
  unfold FnSat
  conv => arg 2; reduce
  simp [grtS, lngS, grtB]
/-- the next state, as it is told -/
@[irreducible] def stA (c : Cel) (s : Sta) (i a : Int) : Sta := ⟨aV c s (stpV c s i a (nxQ c s i)), aV c s (stpV c s i a (nxR c s i)), aV c s (stpV c s i a (nxT c s i a)), aV c s (stpV c s i a (nxH s i)), aV c s (stpV c s i a (nxA c s))⟩
@[irreducible] def stAE (c : Cel) (s : Sta) (i a : Int) : Int := aE c s (stpE c s i a)
def stpT : Spec [celSh, staSh, inSh] := ⟨fun (c, _) => CelMax (celOf c), fun (c, s, ((i : Int), (a : Int), _), _) =>
  .tup [.agg [.si .i64 (stA (celOf c) (staOf s) i a).q, .si .i64 (stA (celOf c) (staOf s) i a).rx, .si .i64 (stA (celOf c) (staOf s) i a).tp, .si .i64 (stA (celOf c) (staOf s) i a).th, .si .i64 (stA (celOf c) (staOf s) i a).ag],
    .si .i64 (stAE (celOf c) (staOf s) i a)]⟩
theorem stpT_ok : FnSpec Try.prog 18 _ stpT := fun x hx => by
  have h := stp_ok x hx
  have e : stpS.res x = stpT.res x := by
    obtain ⟨c, s, ⟨(i : Int), (a : Int), ⟨⟩⟩, ⟨⟩⟩ := x
    show AV.tup _ = AV.tup _
    unfold stA stAE
    simp
  rw [← e]; exact h
theorem stA_iff {c : Cel} {s : Sta} {i a : Int} (h : csE c s = 0) : (stAE c s i a = 0 ↔ inB i a = true ∧ ovr c s i = false) ∧ (stAE c s i a = 0 ∨ stAE c s i a = 3 ∨ stAE c s i a = 4) := by
  unfold stAE
  rw [aE_yes h]
  unfold stpE
  cases inB i a <;> cases ovr c s i <;> simp
theorem stA_0 {c : Cel} {s : Sta} {i a : Int} (h : csE c s = 0) (h2 : stAE c s i a = 0) : stA c s i a = ⟨nxQ c s i, nxR c s i, nxT c s i a, nxH s i, nxA c s⟩ := by
  have h3 : stpE c s i a = 0 := by unfold stAE at h2; rwa [aE_yes h] at h2
  unfold stA
  simp only [aV_yes h, stpV_yes h3]
/-- the next state is valid -/
theorem stA_ok {c : Cel} {s : Sta} {i a : Int} (h : csE c s = 0) (h2 : stAE c s i a = 0) : StOK c (stA c s i a) ∧ -1048576 ≤ i ∧ i ≤ 1048576 ∧ 0 ≤ a ∧ a ≤ 400000 := by
  have h3 := ((stA_iff h).1.1 h2)
  have h4 := inB_iff.1 h3.1
  have h5 := h3.2
  unfold ovr at h5
  simp at h5
  obtain ⟨hc, hs⟩ := csE_iff.1 h
  have hk := celB_iff.1 hc
  rw [stA_0 h h2]
  refine ⟨?_, h4.1.1, h4.1.2, h4.2.1, h4.2.2⟩
  have vs := sc_val hk.stress s.tp
  have := hs.h0
  have := hs.a0
  have hH : nxH s i = s.th + max i (-i) := by unfold nxH; rfl
  have hA : nxA c s = s.ag + valL c.stress s.tp := by unfold nxA; rfl
  have hR : -8388608 ≤ nxR c s i ∧ nxR c s i ≤ 8388608 := by unfold nxR slackV; exact clipV_in (by decide)
  have hT : 0 ≤ nxT c s i a ∧ nxT c s i a ≤ 400000 := by unfold nxT; exact clipV_in (by decide)
  have hQ : 0 ≤ nxQ c s i ∧ nxQ c s i ≤ roomV c (wearV c (nxH s i) (nxA c s)) := by
    unfold nxQ
    refine clipV_in ?_
    have := (@roomV_in c (wearV c (nxH s i) (nxA c s))).1
    omega
  constructor <;> simp only [Sta.q_mk, Sta.rx_mk, Sta.tp_mk, Sta.th_mk, Sta.ag_mk] <;> omega
def SRg : Sums := ⟨(19, mkSum _ filS) :: (17, mkSum _ capS) :: (18, mkSum _ stpT) :: (14, mkSum _ grtS) :: SRf.one, SRf.two, SRf.lo, SRf.eqs, SRf.its⟩
theorem SRg_ok : SumsOK Try.prog SRg := ((((SRf_ok.cons Try.func14 (by kernel_rfl) (by kernel_rfl) grt_ok).cons Try.func18 (by kernel_rfl) (by kernel_rfl) stpT_ok).cons Try.func17 (by kernel_rfl) (by kernel_rfl) cap_ok).cons Try.func19 (by kernel_rfl) (by kernel_rfl) fil_ok)
end
end Abs
end Go.Proofs.Ytghmkkdmpmmbhaa

/- A part of the proof: no statement of its own. -/
import Derived.Test.YtghmkkdmpmmbhaaQGf7bdb279
set_option linter.unusedSimpArgs false
set_option linter.unusedVariables false
/- Cells, by the document: valid ones, their states. -/
namespace Go.Proofs.Ytghmkkdmpmmbhaa
namespace Abs
open Go Go.RowKit
noncomputable section
attribute [local irreducible] FnSat
set_option maxRecDepth 100000 in
theorem floor_ok : FnSpec Try.prog 141 _ divS := by
  refine FnSpec.of SVb_ok mixed (U := 0) (I := fun _ => []) Try.func141 rfl (by kernel_rfl) rfl rfl (by decide +kernel) ?_
  rintro ⟨(n : Int), (d : Int), ⟨⟩⟩ ⟨(h1 : -4611686018427387904 ≤ n), (h2 : n ≤ 4611686018427387904), (h3 : 1 ≤ d)⟩
  unfold FnSat
  conv => arg 2; reduce
  simp [divS, and_assoc]
  exact dvI_by h1 h2 h3
set_option maxRecDepth 100000 in
theorem into_ok : FnSpec Try.prog 147 _ clipS := by
  refine FnSpec.of SVb_ok mixed (U := 0) (I := fun _ => []) Try.func147 rfl (by kernel_rfl) rfl rfl (by decide +kernel) ?_
  rintro ⟨(x : Int), (lo : Int), (hi : Int), ⟨⟩⟩ -
  unfold FnSat
  conv => arg 2; reduce
  simp [clipS, clipV]
set_option maxRecDepth 100000 in
theorem within_ok : FnSpec Try.prog 63 _ betS := by
  refine FnSpec.of SVb_ok mixed (U := 0) (I := fun _ => []) Try.func63 rfl (by kernel_rfl) rfl rfl (by decide +kernel) ?_
  rintro ⟨(x : Int), (lo : Int), (hi : Int), ⟨⟩⟩ -
  unfold FnSat
  conv => arg 2; reduce
  simp [betS, isIn]
set_option maxRecDepth 100000 in
theorem ris_ok : FnSpec Try.prog 157 _ isS := by
  refine FnSpec.of SVb_ok mixed (U := 0) (I := fun _ => []) Try.func157 rfl (by kernel_rfl) rfl rfl (by decide +kernel) ?_
  rintro ⟨(x : Int), ⟨⟩⟩ -
  unfold FnSat
  conv => arg 2; reduce
  simp [isS, isQ]
def SRa : Sums := ⟨(157, mkSum _ isS) :: (63, mkSum _ betS) :: (147, mkSum _ clipS) :: (141, mkSum _ divS) :: SVb.one, SVb.two, SVb.lo, SVb.eqs, SVb.its, SVb.imm⟩
theorem SRa_ok : SumsOK Try.prog SRa := ((((SVb_ok.cons Try.func141 (by kernel_rfl) (by kernel_rfl) floor_ok).cons Try.func147 (by kernel_rfl) (by kernel_rfl) into_ok).cons Try.func63 (by kernel_rfl) (by kernel_rfl) within_ok).cons Try.func157 (by kernel_rfl) (by kernel_rfl) ris_ok)
def rcrI : DatL [crvSh] → Anns := fun (c, _) => [
  (6, [], fun fr hp => ⟨Nat, fun g => ⟨frI [.k 3, .s (.si .i64 (icast g)), .k 23, .t 55] fr, hp⟩, Nat × Crv, fun g => (g, crvOf c), fun (g, c) => g ≤ c.nx ∧ (∀ j, j < g → isQ (c.x j) = true ∧ isQ (c.y j) = true) ∧ ∀ j, j + 1 < g → c.x j < c.x (j + 1) ∧ c.y j ≤ c.y (j + 1), fun g => nsub c.1.1 g⟩)]
set_option maxRecDepth 100000 in
theorem rcr_ok : FnSpec Try.prog 140 _ crS := by
  refine FnSpec.of SRa_ok mixed (U := 0) (I := rcrI) Try.func140 rfl (by kernel_rfl) rfl rfl (by decide +kernel) ?_
  rintro ⟨c, ⟨⟩⟩ hpre
  obtain ⟨c, rfl⟩ := crv_ex c
  have hpre : c.nx ≤ maxLen ∧ c.ny ≤ maxLen := hpre
  obtain ⟨p1, p2⟩ := hpre
  unfold FnSat
  conv => arg 2; reduce
  simp [crS, isS, ElEq, getB, goneB, aliveB, and_assoc]
  have bad : (crB c = true → False) → c.nx ≤ 64 → c.ny ≤ 64 → 2 = crE c := fun h h1 h2 => by unfold crE; rw [if_neg (by omega), if_neg (fun hb => h hb)]
  refine ⟨fun h => by unfold crE; rw [if_pos (by omega)], fun n1 n2 => ⟨fun h => bad (fun hb => ?_) (by omega) (by omega), fun h1 h2 => ⟨⟨0, rfl, by omega, fun j hj => by omega, fun j hj => by omega⟩, fun g hg hq hf => ⟨fun hlt => ⟨hlt, fun _ => by omega, fun _ _ _ => hlt, fun _ _ _ => by omega, fun _ _ _ => by omega, fun _ _ _ _ => by omega, fun _ _ _ _ => by omega, fun _ _ _ _ => by omega, fun a b c d => ⟨a, b, c, d⟩, fun a b c => ⟨a, b, c⟩, fun h => bad (fun hb => ?_) (by omega) (by omega), fun a1 a2 a3 => ⟨by omega, by omega, g + 1, by omega, by omega, fun j hj => ?_, fun j hj => ?_, by omega⟩⟩, fun hge => ?_⟩⟩⟩⟩
  · have := crB_iff.1 hb; omega
  · have hb := crB_iff.1 hb
    rcases h with (h | h) | ⟨h0, h⟩
    · rw [(hb.2.2.2.1 g hlt).1] at h; cases h
    · rw [(hb.2.2.2.1 g hlt).2] at h; cases h
    · have := hb.2.2.2.2 (g - 1) (by omega)
      rw [show g - 1 + 1 = g by omega] at this
      omega
  · by_cases h' : j < g
    · exact hq j h'
    · obtain rfl : j = g := by omega
      exact ⟨a1, a2⟩
  · by_cases h' : j + 1 < g
    · exact hf j h'
    · have := a3 (by omega)
      rw [show j = g - 1 by omega, show g - 1 + 1 = g by omega]
      exact this
  · exact (crE_iff.2 (crB_iff.2 ⟨by omega, by omega, by omega, fun k hk => hq k (by omega), fun k hk => hf k (by omega)⟩)).symm
def SRb : Sums := ⟨(140, mkSum _ crS) :: SRa.one, SRa.two, SRa.lo, SRa.eqs, SRa.its, SRa.imm⟩
theorem SRb_ok : SumsOK Try.prog SRb := (SRa_ok.cons Try.func140 (by kernel_rfl) (by kernel_rfl) rcr_ok)
set_option maxRecDepth 100000 in
theorem rscale_ok : FnSpec Try.prog 116 _ scaleS := by
  refine FnSpec.of SRb_ok mixed (U := 0) (I := fun _ => []) Try.func116 rfl (by kernel_rfl) rfl rfl (by decide +kernel) ?_
  rintro ⟨c, (last : Int), (most : Int), ⟨⟩⟩ hpre
  obtain ⟨c, rfl⟩ := crv_ex c
  have hpre : c.nx ≤ maxLen ∧ c.ny ≤ maxLen := hpre
  obtain ⟨p1, p2⟩ := hpre
  unfold FnSat
  conv => arg 2; reduce
  simp [scaleS, crS, and_assoc]
  refine ⟨p1, p2, fun h => ?_, fun h => ?_⟩
  · have hb : crB c = false := by
      cases hb : crB c with
      | false => rfl
      | true => exact absurd (crE_iff.2 hb) h
    unfold scB; rw [hb]; simp
  · have hb : crB c = true := crE_iff.1 h
    have h1 := crB_iff.1 hb
    unfold maxLen at p1 p2
    refine ⟨by omega, fun _ => by omega, fun _ => by omega, fun _ _ => by omega, fun _ _ _ => by omega, fun _ _ _ => by omega, ?_⟩
    unfold scB
    rw [Bool.eq_iff_iff]
    simp [hb]
def rvalS : Spec [crvSh, .int .i64] := ⟨fun (c, (x : Int), _) => (crB (crvOf c) = true ∧ (crvOf c).x 0 = 0 ∧ (crvOf c).x ((crvOf c).nx - 1) ≤ 400000 ∧ 0 ≤ (crvOf c).y 0 ∧ (crvOf c).y ((crvOf c).nx - 1) ≤ 8388608) ∧ -1099511627776 ≤ x ∧ x ≤ 1099511627776, fun (c, (x : Int), _) => .si .i64 (valL (crvOf c) x)⟩
def rvalI : DatL [crvSh, .int .i64] → Anns := fun (c, (x : Int), _) => [
  (7, [], fun fr hp => ⟨Nat, fun g => ⟨frI [.k 6, .s (.si .i64 (icast g)), .k 27, .t 10, .k 39] fr, hp⟩, Nat × Crv × Int, fun g => (g, crvOf c, x), fun (g, c, x) => g + 1 < c.nx ∧ c.x g ≤ x, fun g => nsub c.1.1 g⟩)]
set_option maxRecDepth 100000 in
theorem rval_ok : FnSpec Try.prog 146 _ rvalS := by
  refine FnSpec.of SRb_ok mixed (U := 0) (I := rvalI) Try.func146 rfl (by kernel_rfl) rfl rfl (by decide +kernel) ?_
  rintro ⟨c, (x : Int), ⟨⟩⟩ hpre
  obtain ⟨c, rfl⟩ := crv_ex c
  have hpre : (crB c = true ∧ c.x 0 = 0 ∧ c.x (c.nx - 1) ≤ 400000 ∧ 0 ≤ c.y 0 ∧ c.y (c.nx - 1) ≤ 8388608) ∧ -1099511627776 ≤ x ∧ x ≤ 1099511627776 := by
    have h : (crB (crvOf (crvD c)) = true ∧ (crvOf (crvD c)).x 0 = 0 ∧ (crvOf (crvD c)).x ((crvOf (crvD c)).nx - 1) ≤ 400000 ∧ 0 ≤ (crvOf (crvD c)).y 0 ∧ (crvOf (crvD c)).y ((crvOf (crvD c)).nx - 1) ≤ 8388608) ∧ -1099511627776 ≤ x ∧ x ≤ 1099511627776 := hpre
    rwa [show crvOf (crvD c) = c from crvOf_mk c] at h
  obtain ⟨⟨hc, hx0, hxn, hy0, hyn⟩, x1, x2⟩ := hpre
  unfold FnSat
  conv => arg 2; reduce
  simp [rvalS, divS, and_assoc]
  have hb := crB_iff.1 hc
  have vlo : x ≤ c.x 0 → c.y 0 = valL c x := fun h => by
    have hx := crv_x hc (j := c.nx - 1) (i := 0) (by omega) (by omega)
    unfold valL
    rw [if_neg (by omega)]
    split
    · rfl
    · have e : x = c.x 0 := by omega
      have h2 := crv_x hc (j := 1) (i := 0) (by omega) (by omega)
      rw [sgI_uniq hc (i := 0) (by omega) (by omega) (by show x < c.x 1; omega)]
      unfold pcL
      rw [e, Int.sub_self, Int.zero_mul, Int.zero_ediv, Int.add_zero]
  refine ⟨by omega, fun h => ⟨by omega, vlo h⟩, fun h => ⟨by omega, by omega, by omega, by omega, fun h2 => ⟨by omega, by omega, by omega, by omega, ?_⟩, fun h2 => ⟨⟨0, rfl, by omega, by omega⟩, fun g hg hx => ?_⟩⟩⟩
  · unfold valL; rw [if_pos h2]
  · have gx := hb.2.2.2.2 g hg
    have x0 := crv_x hc (j := g) (i := 0) (by omega) (by omega)
    have x3 := crv_x hc (j := c.nx - 1) (i := g + 1) (by omega) (by omega)
    have y0' := crv_y hc (j := g) (i := 0) (by omega) (by omega)
    have y3 := crv_y hc (j := c.nx - 1) (i := g + 1) (by omega) (by omega)
    refine ⟨by omega, by omega, by omega, by omega, fun h3 => ⟨by omega, by omega, g + 1, by omega, by have hne : g + 1 ≠ c.nx - 1 := (fun e => by rw [e] at h3; omega); omega, h3, by omega⟩, fun h3 => ?_⟩
    have m := mul_in (a := x - c.x g) (b := c.y (g + 1) - c.y g) (A := 400000) (B := 8388608) (by omega) (by omega) (by omega) (by omega)
    have pc := pc_in hc hg hx (by omega)
    have e : c.y g + dvI ((x - c.x g) * (c.y (g + 1) - c.y g)) (c.x (g + 1) - c.x g) = pcL c g x := by unfold pcL dvI; rfl
    have e2 : pcL c g x = valL c x := by
      unfold valL
      rw [if_neg (by omega), if_neg (by omega), sgI_uniq hc hg hx h3]
    rw [e]
    exact ⟨by omega, by omega, by omega, by omega, by omega, by omega, by omega, by omega, by omega, by omega, by omega, by omega, by omega, by omega, by omega, by omega, by omega, by omega, by omega, by omega, by omega, by omega, by omega, by omega, by omega, e2⟩
def rwearS : Spec [celSh, .int .i64, .int .i64] := ⟨fun (c, (t : Int), (a : Int), _) => WearOK (celOf c) t a, fun (c, (t : Int), (a : Int), _) => .si .i64 (wearV (celOf c) t a)⟩
set_option maxRecDepth 100000 in
theorem rwear_ok : FnSpec Try.prog 117 _ rwearS := by
  refine FnSpec.of SRb_ok mixed (U := 0) (I := fun _ => []) Try.func117 rfl (by kernel_rfl) rfl rfl (by decide +kernel) ?_
  rintro ⟨c, (t : Int), (a : Int), ⟨⟩⟩ hpre
  obtain ⟨c, rfl⟩ := cel_ex c
  have hpre : WearOK c t a := by have : WearOK (celOf (celD c)) t a := hpre; rwa [celOf_D] at this
  unfold FnSat
  conv => arg 2; reduce
  simp [rwearS, divS, and_assoc]
  have h1 := mul_in hpre.t0 hpre.t1 hpre.c0 hpre.c1
  have h2 := mul_in hpre.g0 hpre.g1 hpre.a0 hpre.a1
  have h3 := wearV_in hpre
  have e : dvI (t * c.cyc) 1073741824 + dvI (a * c.agel) 1073741824 = wearV c t a := by unfold wearV; rfl
  rw [e]
  omega
def SRc : Sums := ⟨(117, mkSum _ rwearS) :: (146, mkSum _ rvalS) :: (116, mkSum _ scaleS) :: SRb.one, SRb.two, SRb.lo, SRb.eqs, SRb.its, SRb.imm⟩
theorem SRc_ok : SumsOK Try.prog SRc := (((SRb_ok.cons Try.func116 (by kernel_rfl) (by kernel_rfl) rscale_ok).cons Try.func146 (by kernel_rfl) (by kernel_rfl) rval_ok).cons Try.func117 (by kernel_rfl) (by kernel_rfl) rwear_ok)
def rcapS : Spec [celSh, staSh] := ⟨fun (c, s, _) => WearOK (celOf c) (staOf s).th (staOf s).ag ∧ 0 ≤ (celOf c).cap ∧ (celOf c).cap ≤ 4294967296, fun (c, s, _) => .si .i64 (roomV (celOf c) (wearV (celOf c) (staOf s).th (staOf s).ag))⟩
set_option maxRecDepth 100000 in
theorem rcap_ok : FnSpec Try.prog 64 _ rcapS := by
  refine FnSpec.of SRc_ok mixed (U := 0) (I := fun _ => []) Try.func64 rfl (by kernel_rfl) rfl rfl (by decide +kernel) ?_
  rintro ⟨c, s, ⟨⟩⟩ hpre
  obtain ⟨c, rfl⟩ := cel_ex c
  obtain ⟨s, rfl⟩ := sta_ex s
  have hpre : WearOK c s.th s.ag ∧ 0 ≤ c.cap ∧ c.cap ≤ 4294967296 := by have : WearOK (celOf (celD c)) (staOf (staD s)).th (staOf (staD s)).ag ∧ 0 ≤ (celOf (celD c)).cap ∧ (celOf (celD c)).cap ≤ 4294967296 := hpre; rwa [celOf_D, staOf_D] at this
  obtain ⟨hw, c0, c1⟩ := hpre
  unfold FnSat
  conv => arg 2; reduce
  simp [rcapS, rwearS, and_assoc]
  have := wearV_in hw
  unfold roomV
  exact ⟨hw, by omega, by omega, rfl⟩
set_option maxRecDepth 100000 in
set_option maxHeartbeats 4000000 in
theorem rcheck_ok : FnSpec Try.prog 62 _ ccheckS := by
  refine FnSpec.of SRc_ok mixed (U := 0) (I := fun _ => []) Try.func62 rfl (by kernel_rfl) rfl rfl (by decide +kernel) ?_
  rintro ⟨c, ⟨⟩⟩ hpre
  obtain ⟨c, rfl⟩ := cel_ex c
  have hpre : CelMax c := by have : CelMax (celOf (celD c)) := hpre; rwa [celOf_D] at this
  obtain ⟨p1, p2, p3, p4, p5, p6⟩ := hpre
  unfold FnSat
  conv => arg 2; reduce
  simp [ccheckS, betS, scaleS, and_assoc]
  have no : (CelOK c → False) → 2 = errA (celB c) := fun h => by rw [celB_no h]; simp [errA]
  refine ⟨fun _ _ => ⟨p1, p2⟩, fun _ _ _ => ⟨p3, p4⟩, fun _ _ _ _ => ⟨p5, p6⟩, fun h => no fun k => ?_, fun q0 q1 h1 h2 h3 => ⟨fun h => no fun k => ?_, fun q2 q3 q4 q5 q6 q7 q8 q9 q10 q11 q12 q13 q14 q15 => ⟨fun h => no fun k => ?_, fun q16 q17 q18 q19 q20 q21 => ?_⟩⟩⟩
  · have := k.cap0
    have := k.cap1
    rcases h with (((h | h) | h) | h) | h
    · omega
    · omega
    · rw [k.ocv] at h; cases h
    · rw [k.cold] at h; cases h
    · rw [k.stress] at h; cases h
  · have := k.sh0
    have := k.sh1
    have := k.ex0
    have := k.ex1
    have := k.pr0
    have := k.pr1
    have := k.lk0
    have := k.lk1
    have := k.kp0
    have := k.kp1
    have := k.co0
    have := k.co1
    have := k.hc0
    have := k.hc1
    omega
  · have := k.cy0
    have := k.cy1
    have := k.al0
    have := k.al1
    have := k.gr0
    have := k.gr1
    omega
  · rw [celB_iff.2 ⟨q0, q1, q2, q3, q4, q5, q6, q7, q8, q9, q10, q11, q12, q13, q14, q15, q16, q17, q18, q19, q20, q21, h1, h2, h3⟩]; simp [errA]
def SRd : Sums := ⟨(62, mkSum _ ccheckS) :: (64, mkSum _ rcapS) :: SRc.one, SRc.two, SRc.lo, SRc.eqs, SRc.its, SRc.imm⟩
theorem SRd_ok : SumsOK Try.prog SRd := ((SRc_ok.cons Try.func64 (by kernel_rfl) (by kernel_rfl) rcap_ok).cons Try.func62 (by kernel_rfl) (by kernel_rfl) rcheck_ok)
set_option maxRecDepth 100000 in
set_option maxHeartbeats 4000000 in
theorem rcst_ok : FnSpec Try.prog 15 _ cstS := by
  refine FnSpec.of SRd_ok mixed (U := 0) (I := fun _ => []) Try.func15 rfl (by kernel_rfl) rfl rfl (by decide +kernel) ?_
  rintro ⟨c, s, ⟨⟩⟩ hpre
  obtain ⟨c, rfl⟩ := cel_ex c
  obtain ⟨s, rfl⟩ := sta_ex s
  have hpre : CelMax c := by have : CelMax (celOf (celD c)) := hpre; rwa [celOf_D] at this
  unfold FnSat
  conv => arg 2; reduce
  simp [cstS, betS, ccheckS, rcapS, and_assoc]
  refine ⟨hpre, fun h => (csE_2 h).symm, fun h => ⟨fun t0 t1 h0 h1 a0 a1 r0 r1 => ?_, fun h' => (csE_3 h fun k => ?_).symm, fun t0 t1 h0 h1 a0 a1 r0 r1 q0 q1 => (csE_0 h ⟨t0, t1, h0, h1, a0, a1, r0, r1, q0, q1⟩).symm⟩⟩
  · have hc := celB_iff.1 h
    exact ⟨⟨hc.cy0, hc.cy1, hc.al0, hc.al1, h0, by omega, a0, by omega⟩, by have := hc.cap0; omega, hc.cap1⟩
  · have := k.t0
    have := k.t1
    have := k.h0
    have := k.h1
    have := k.a0
    have := k.a1
    have := k.r0
    have := k.r1
    have := k.q0
    have := k.q1
    omega
def SRe : Sums := ⟨(15, mkSum _ cstS) :: SRd.one, SRd.two, SRd.lo, SRd.eqs, SRd.its, SRd.imm⟩
theorem SRe_ok : SumsOK Try.prog SRe := (SRd_ok.cons Try.func15 (by kernel_rfl) (by kernel_rfl) rcst_ok)
end
end Abs
end Go.Proofs.Ytghmkkdmpmmbhaa

/- Whether a cell has too long curves. -/
namespace Go.Proofs.Ytghmkkdmpmmbhaa
namespace Abs
open Go Go.RowKit
noncomputable section
attribute [local irreducible] FnSat
@[irreducible] def lngB (c : Crv) : Bool := decide (80 < c.nx) || decide (80 < c.ny)
@[irreducible] def grtB (c : Cel) : Bool := lngB c.ocv || lngB c.cold || lngB c.stress
theorem grtB_no {c : Cel} (h : grtB c = false) : CelMax c := by
  unfold grtB lngB at h
  simp at h
  unfold CelMax maxLen
  omega
def lngS : Spec [crvSh] := ⟨fun _ => True, fun (c, _) => .sb (lngB (crvOf c))⟩
set_option maxRecDepth 100000 in
theorem lng_ok : FnSpec Try.prog 61 _ lngS := by
  refine FnSpec.of SRe_ok mixed (U := 0) (I := fun _ => []) Try.func61 rfl (by kernel_rfl) rfl rfl (by decide +kernel) ?_
  rintro ⟨c, ⟨⟩⟩ -
  obtain ⟨c, rfl⟩ := crv_ex c
  unfold FnSat
  conv => arg 2; reduce
  simp [lngS, lngB]
  rw [Bool.eq_iff_iff]
  simp
  omega
def SRf : Sums := ⟨(61, mkSum _ lngS) :: SRe.one, SRe.two, SRe.lo, SRe.eqs, SRe.its, SRe.imm⟩
theorem SRf_ok : SumsOK Try.prog SRf := (SRe_ok.cons Try.func61 (by kernel_rfl) (by kernel_rfl) lng_ok)
def grtS : Spec [celSh] := ⟨fun _ => True, fun (c, _) => .sb (grtB (celOf c))⟩
set_option maxRecDepth 100000 in
theorem grt_ok : FnSpec Try.prog 14 _ grtS := by
  refine FnSpec.of SRf_ok mixed (U := 0) (I := fun _ => []) Try.func14 rfl (by kernel_rfl) rfl rfl (by decide +kernel) ?_
  rintro ⟨c, ⟨⟩⟩ -
  obtain ⟨c, rfl⟩ := cel_ex c
  unfold FnSat
  conv => arg 2; reduce
  simp [grtS, lngS, grtB]
/-- the next state, as it is told -/
@[irreducible] def stA (c : Cel) (s : Sta) (i a : Int) : Sta := ⟨aV c s (stpV c s i a (nxQ c s i)), aV c s (stpV c s i a (nxR c s i)), aV c s (stpV c s i a (nxT c s i a)), aV c s (stpV c s i a (nxH s i)), aV c s (stpV c s i a (nxA c s))⟩
@[irreducible] def stAE (c : Cel) (s : Sta) (i a : Int) : Int := aE c s (stpE c s i a)
def stpT : Spec [celSh, staSh, inSh] := ⟨fun (c, _) => CelMax (celOf c), fun (c, s, ((i : Int), (a : Int), _), _) =>
  .tup [.agg [.si .i64 (stA (celOf c) (staOf s) i a).q, .si .i64 (stA (celOf c) (staOf s) i a).rx, .si .i64 (stA (celOf c) (staOf s) i a).tp, .si .i64 (stA (celOf c) (staOf s) i a).th, .si .i64 (stA (celOf c) (staOf s) i a).ag],
    .si .i64 (stAE (celOf c) (staOf s) i a)]⟩
theorem stpT_ok : FnSpec Try.prog 18 _ stpT := fun x hx => by
  have h := stp_ok x hx
  have e : stpS.res x = stpT.res x := by
    obtain ⟨c, s, ⟨(i : Int), (a : Int), ⟨⟩⟩, ⟨⟩⟩ := x
    show AV.tup _ = AV.tup _
    unfold stA stAE
    simp
  rw [← e]; exact h
theorem stA_iff {c : Cel} {s : Sta} {i a : Int} (h : csE c s = 0) : (stAE c s i a = 0 ↔ inB i a = true ∧ ovr c s i = false) ∧ (stAE c s i a = 0 ∨ stAE c s i a = 3 ∨ stAE c s i a = 4) := by
  unfold stAE
  rw [aE_yes h]
  unfold stpE
  cases inB i a <;> cases ovr c s i <;> simp
theorem stA_0 {c : Cel} {s : Sta} {i a : Int} (h : csE c s = 0) (h2 : stAE c s i a = 0) : stA c s i a = ⟨nxQ c s i, nxR c s i, nxT c s i a, nxH s i, nxA c s⟩ := by
  have h3 : stpE c s i a = 0 := by unfold stAE at h2; rwa [aE_yes h] at h2
  unfold stA
  simp only [aV_yes h, stpV_yes h3]
/-- the next state is valid -/
theorem stA_ok {c : Cel} {s : Sta} {i a : Int} (h : csE c s = 0) (h2 : stAE c s i a = 0) : StOK c (stA c s i a) ∧ -1048576 ≤ i ∧ i ≤ 1048576 ∧ 0 ≤ a ∧ a ≤ 400000 := by
  have h3 := ((stA_iff h).1.1 h2)
  have h4 := inB_iff.1 h3.1
  have h5 := h3.2
  unfold ovr at h5
  simp at h5
  obtain ⟨hc, hs⟩ := csE_iff.1 h
  have hk := celB_iff.1 hc
  rw [stA_0 h h2]
  refine ⟨?_, h4.1.1, h4.1.2, h4.2.1, h4.2.2⟩
  have vs := sc_val hk.stress s.tp
  have := hs.h0
  have := hs.a0
  have hH : nxH s i = s.th + max i (-i) := by unfold nxH; rfl
  have hA : nxA c s = s.ag + valL c.stress s.tp := by unfold nxA; rfl
  have hR : -8388608 ≤ nxR c s i ∧ nxR c s i ≤ 8388608 := by unfold nxR slackV; exact clipV_in (by decide)
  have hT : 0 ≤ nxT c s i a ∧ nxT c s i a ≤ 400000 := by unfold nxT; exact clipV_in (by decide)
  have hQ : 0 ≤ nxQ c s i ∧ nxQ c s i ≤ roomV c (wearV c (nxH s i) (nxA c s)) := by
    unfold nxQ
    refine clipV_in ?_
    have := (@roomV_in c (wearV c (nxH s i) (nxA c s))).1
    omega
  constructor <;> simp only [Sta.q_mk, Sta.rx_mk, Sta.tp_mk, Sta.th_mk, Sta.ag_mk] <;> omega
def SRg : Sums := ⟨(19, mkSum _ filS) :: (17, mkSum _ capS) :: (18, mkSum _ stpT) :: (14, mkSum _ grtS) :: SRf.one, SRf.two, SRf.lo, SRf.eqs, SRf.its, SRf.imm⟩
theorem SRg_ok : SumsOK Try.prog SRg := ((((SRf_ok.cons Try.func14 (by kernel_rfl) (by kernel_rfl) grt_ok).cons Try.func18 (by kernel_rfl) (by kernel_rfl) stpT_ok).cons Try.func17 (by kernel_rfl) (by kernel_rfl) cap_ok).cons Try.func19 (by kernel_rfl) (by kernel_rfl) fil_ok)
end
end Abs
end Go.Proofs.Ytghmkkdmpmmbhaa

/- Cells with tolerances, by the program: offsets, possible tolerances, boxes. -/
namespace Go.Proofs.Ytghmkkdmpmmbhaa
namespace Abs
open Go Go.RowKit
noncomputable section
attribute [local irreducible] FnSat
@[irreducible] def insV (a l h b : Int) : Bool := decide (a ≤ l) && decide (l ≤ h) && decide (h ≤ b)
theorem insV_iff {a l h b : Int} : insV a l h b = true ↔ a ≤ l ∧ l ≤ h ∧ h ≤ b := by unfold insV; simp [and_assoc]
/-- a cell with offsets -/
@[irreducible] def mvC (c : Cel) (d : Nat → Int) : Cel := ⟨c.cap + d 0, c.ocv, c.shift + d 1, c.cold, c.extra + d 2, c.pair + d 3, c.keep, c.leak + d 4, c.hcap + d 5, c.cool + d 6, c.stress, c.cyc, c.agel, c.grow⟩
@[simp] theorem mvC_cap (c : Cel) (d : Nat → Int) : (mvC c d).cap = c.cap + d 0 := by unfold mvC Cel.cap; rfl
@[simp] theorem mvC_shift (c : Cel) (d : Nat → Int) : (mvC c d).shift = c.shift + d 1 := by unfold mvC Cel.shift; rfl
@[simp] theorem mvC_extra (c : Cel) (d : Nat → Int) : (mvC c d).extra = c.extra + d 2 := by unfold mvC Cel.extra; rfl
@[simp] theorem mvC_pair (c : Cel) (d : Nat → Int) : (mvC c d).pair = c.pair + d 3 := by unfold mvC Cel.pair; rfl
@[simp] theorem mvC_leak (c : Cel) (d : Nat → Int) : (mvC c d).leak = c.leak + d 4 := by unfold mvC Cel.leak; rfl
@[simp] theorem mvC_hcap (c : Cel) (d : Nat → Int) : (mvC c d).hcap = c.hcap + d 5 := by unfold mvC Cel.hcap; rfl
@[simp] theorem mvC_cool (c : Cel) (d : Nat → Int) : (mvC c d).cool = c.cool + d 6 := by unfold mvC Cel.cool; rfl
@[simp] theorem mvC_ocv (c : Cel) (d : Nat → Int) : (mvC c d).ocv = c.ocv := by unfold mvC Cel.ocv; rfl
@[simp] theorem mvC_cold (c : Cel) (d : Nat → Int) : (mvC c d).cold = c.cold := by unfold mvC Cel.cold; rfl
@[simp] theorem mvC_stress (c : Cel) (d : Nat → Int) : (mvC c d).stress = c.stress := by unfold mvC Cel.stress; rfl
@[simp] theorem mvC_keep (c : Cel) (d : Nat → Int) : (mvC c d).keep = c.keep := by unfold mvC Cel.keep; rfl
@[simp] theorem mvC_cyc (c : Cel) (d : Nat → Int) : (mvC c d).cyc = c.cyc := by unfold mvC Cel.cyc; rfl
@[simp] theorem mvC_agel (c : Cel) (d : Nat → Int) : (mvC c d).agel = c.agel := by unfold mvC Cel.agel; rfl
@[simp] theorem mvC_grow (c : Cel) (d : Nat → Int) : (mvC c d).grow = c.grow := by unfold mvC Cel.grow; rfl
@[irreducible] def ofsB (d : Nat → Int) : Prop := ∀ k, k < 7 → -1099511627776 ≤ d k ∧ d k ≤ 1099511627776
def numF : SpecF [.cells 26 celCells] [.own 0 0] :=
  ⟨fun _ _ => True, fun _ _ => .agg [.own 0 0, .own 0 3, .own 0 6, .own 0 7, .own 0 9, .own 0 10, .own 0 11], fun (c, _) _ => encH [.cells 26 celCells] (c, ())⟩
set_option maxRecDepth 100000 in
theorem num_ok : FnSpecF Try.prog 88 _ _ numF := by
  refine FnSpecF.of SRg_ok mixed (U := 0) (I := fun _ _ => []) Try.func88 rfl (by kernel_rfl) rfl (by decide +kernel) ?_
  rintro ⟨c, ⟨⟩⟩ ⟨⟨⟩, ⟨⟩⟩ hpre
  obtain ⟨c, rfl⟩ := cel_ex c
  unfold FnSat
  conv => arg 2; reduce
  simp [numF, aliveB, getB, encH, encB, encL_cel, ElEq, and_assoc]
def SBa : Sums := ⟨SRg.one, (88, mkSumF _ _ numF) :: SRg.two, SRg.lo, SRg.eqs, SRg.its, SRg.imm⟩
theorem SBa_ok : SumsOK Try.prog SBa := SRg_ok.addTwo Try.func88 (by kernel_rfl) (by kernel_rfl) (mkSumF_ok num_ok)
def elo : Spec [.int .i64, .ptr [spansSh]] := ⟨fun ((i : Int), ((n, _), _), _) => 0 ≤ i ∧ i < (n : Int), fun ((i : Int), ((_, el), _), _) => .si .i64 (el (nat i)).1⟩
set_option maxRecDepth 100000 in
theorem elo_ok : FnSpec Try.prog 132 _ elo := by
  refine FnSpec.of SRg_ok mixed (U := 0) (I := fun _ => []) Try.func132 rfl (by kernel_rfl) rfl rfl (by decide +kernel) ?_
  rintro ⟨(i : Int), ⟨⟨n, el⟩, ⟨⟩⟩, ⟨⟩⟩ ⟨(h1 : 0 ≤ i), (h2 : i < (n : Int))⟩
  obtain ⟨lo, hi, rfl⟩ : ∃ lo hi : Nat → Int, el = fun k => (lo k, hi k, ()) := ⟨fun k => (el k).1, fun k => (el k).2.1, rfl⟩
  unfold FnSat
  conv => arg 2; reduce
  simp [elo]
  omega
def ehi : Spec [.int .i64, .ptr [spansSh]] := ⟨fun ((i : Int), ((n, _), _), _) => 0 ≤ i ∧ i < (n : Int), fun ((i : Int), ((_, el), _), _) => .si .i64 (el (nat i)).2.1⟩
set_option maxRecDepth 100000 in
theorem ehi_ok : FnSpec Try.prog 133 _ ehi := by
  refine FnSpec.of SRg_ok mixed (U := 0) (I := fun _ => []) Try.func133 rfl (by kernel_rfl) rfl rfl (by decide +kernel) ?_
  rintro ⟨(i : Int), ⟨⟨n, el⟩, ⟨⟩⟩, ⟨⟩⟩ ⟨(h1 : 0 ≤ i), (h2 : i < (n : Int))⟩
  obtain ⟨lo, hi, rfl⟩ : ∃ lo hi : Nat → Int, el = fun k => (lo k, hi k, ()) := ⟨fun k => (el k).1, fun k => (el k).2.1, rfl⟩
  unfold FnSat
  conv => arg 2; reduce
  simp [ehi]
  omega
def SBb : Sums := ⟨(133, mkSum _ ehi) :: (132, mkSum _ elo) :: SBa.one, SBa.two, SBa.lo, SBa.eqs, SBa.its, SBa.imm⟩
theorem SBb_ok : SumsOK Try.prog SBb := ((SBa_ok.cons Try.func132 (by kernel_rfl) (by kernel_rfl) elo_ok).cons Try.func133 (by kernel_rfl) (by kernel_rfl) ehi_ok)
/-- a cell with offsets, laid out -/
@[reducible] def mvA (c : Cel) (d : Nat → Int) : AV := .agg [.si .i64 (mvC c d).cap, .slc (.sym c.ocv.nx) 1 (fun k => [.si .i64 (c.ocv.x k)]), .slc (.sym c.ocv.ny) 1 (fun k => [.si .i64 (c.ocv.y k)]), .si .i64 (mvC c d).shift,
    .slc (.sym c.cold.nx) 1 (fun k => [.si .i64 (c.cold.x k)]), .slc (.sym c.cold.ny) 1 (fun k => [.si .i64 (c.cold.y k)]), .si .i64 (mvC c d).extra, .si .i64 (mvC c d).pair, .si .i64 c.keep, .si .i64 (mvC c d).leak, .si .i64 (mvC c d).hcap, .si .i64 (mvC c d).cool,
    .slc (.sym c.stress.nx) 1 (fun k => [.si .i64 (c.stress.x k)]), .slc (.sym c.stress.ny) 1 (fun k => [.si .i64 (c.stress.y k)]), .si .i64 c.cyc, .si .i64 c.agel, .si .i64 c.grow]
theorem encMv (c : Cel) (d : Nat → Int) : enc celSh (celD (mvC c d)) = mvA c d := by
  show AV.agg (encL celCells (celD (mvC c d))) = _
  rw [encL_cel]; simp
def moLo : Spec [celSh, .fn 132 [] [.ptr [spansSh]]] := ⟨fun (c, (_, ((n, el), _), _), _) => celB (celOf c) = true ∧ n = 7 ∧ ofsB (fun k => (el k).1), fun (c, (_, ((_, el), _), _), _) => mvA (celOf c) (fun k => (el k).1)⟩
set_option maxRecDepth 100000 in
set_option maxHeartbeats 2000000 in
theorem moLo_ok : FnSpec Try.prog 90 _ moLo := by
  refine FnSpec.of SBb_ok mixed (U := 8) (I := fun _ => []) Try.func90 rfl (by kernel_rfl) rfl rfl (by decide +kernel) ?_
  rintro ⟨c, ⟨y, ⟨⟨n, el⟩, ⟨⟩⟩, ⟨⟩⟩, ⟨⟩⟩ hpre
  obtain ⟨c, rfl⟩ := cel_ex c
  obtain ⟨lo, hi, rfl⟩ : ∃ lo hi : Nat → Int, el = fun k => (lo k, hi k, ()) := ⟨fun k => (el k).1, fun k => (el k).2.1, rfl⟩
  have hpre : celB c = true ∧ n = 7 ∧ ofsB lo := by have : celB (celOf (celD c)) = true ∧ n = 7 ∧ ofsB lo := hpre; rwa [celOf_D] at this
  obtain ⟨hc, rfl, ho⟩ := hpre
  unfold FnSat
  conv => arg 2; reduce
  simp [moLo, elo, numF, encL_cel, ElEq, getB, goneB, aliveB, and_assoc]
  have hk := celB_iff.1 hc
  unfold ofsB at ho
  have a0 := ho 0 (by decide)
  have a1 := ho 1 (by decide)
  have a2 := ho 2 (by decide)
  have a3 := ho 3 (by decide)
  have a4 := ho 4 (by decide)
  have a5 := ho 5 (by decide)
  have a6 := ho 6 (by decide)
  have := hk.cap0
  have := hk.cap1
  have := hk.sh0
  have := hk.sh1
  have := hk.ex0
  have := hk.ex1
  have := hk.pr0
  have := hk.pr1
  have := hk.lk0
  have := hk.lk1
  have := hk.hc0
  have := hk.hc1
  have := hk.co0
  have := hk.co1
  omega
def moHi : Spec [celSh, .fn 133 [] [.ptr [spansSh]]] := ⟨fun (c, (_, ((n, el), _), _), _) => celB (celOf c) = true ∧ n = 7 ∧ ofsB (fun k => (el k).2.1), fun (c, (_, ((_, el), _), _), _) => mvA (celOf c) (fun k => (el k).2.1)⟩
set_option maxRecDepth 100000 in
set_option maxHeartbeats 2000000 in
theorem moHi_ok : FnSpec Try.prog 90 _ moHi := by
  refine FnSpec.of SBb_ok mixed (U := 8) (I := fun _ => []) Try.func90 rfl (by kernel_rfl) rfl rfl (by decide +kernel) ?_
  rintro ⟨c, ⟨y, ⟨⟨n, el⟩, ⟨⟩⟩, ⟨⟩⟩, ⟨⟩⟩ hpre
  obtain ⟨c, rfl⟩ := cel_ex c
  obtain ⟨lo, hi, rfl⟩ : ∃ lo hi : Nat → Int, el = fun k => (lo k, hi k, ()) := ⟨fun k => (el k).1, fun k => (el k).2.1, rfl⟩
  have hpre : celB c = true ∧ n = 7 ∧ ofsB hi := by have : celB (celOf (celD c)) = true ∧ n = 7 ∧ ofsB hi := hpre; rwa [celOf_D] at this
  obtain ⟨hc, rfl, ho⟩ := hpre
  unfold FnSat
  conv => arg 2; reduce
  simp [moHi, ehi, numF, encL_cel, ElEq, getB, goneB, aliveB, and_assoc]
  have hk := celB_iff.1 hc
  unfold ofsB at ho
  have a0 := ho 0 (by decide)
  have a1 := ho 1 (by decide)
  have a2 := ho 2 (by decide)
  have a3 := ho 3 (by decide)
  have a4 := ho 4 (by decide)
  have a5 := ho 5 (by decide)
  have a6 := ho 6 (by decide)
  have := hk.cap0
  have := hk.cap1
  have := hk.sh0
  have := hk.sh1
  have := hk.ex0
  have := hk.ex1
  have := hk.pr0
  have := hk.pr1
  have := hk.lk0
  have := hk.lk1
  have := hk.hc0
  have := hk.hc1
  have := hk.co0
  have := hk.co1
  omega
def SBc : Sums := ⟨(90, (altSum (mkSum _ moLo) (mkSum _ moHi))) :: SBb.one, SBb.two, SBb.lo, SBb.eqs, SBb.its, SBb.imm⟩
theorem SBc_ok : SumsOK Try.prog SBc := (SBb_ok.add Try.func90 (by kernel_rfl) (by kernel_rfl) (altSum_ok (mkSum_ok moLo_ok) (mkSum_ok moHi_ok)))
def qchS : Spec [spanSh] := ⟨fun _ => True, fun (((lo : Int), (hi : Int), _), _) => .si .i64 (errA (spanOK lo hi))⟩
set_option maxRecDepth 100000 in
theorem qch_ok : FnSpec Try.prog 131 _ qchS := by
  refine FnSpec.of SBc_ok mixed (U := 0) (I := fun _ => []) Try.func131 rfl (by kernel_rfl) rfl rfl (by decide +kernel) ?_
  rintro ⟨⟨(lo : Int), (hi : Int), ⟨⟩⟩, ⟨⟩⟩ -
  unfold FnSat
  conv => arg 2; reduce
  simp [qchS, validS, maxLen, decL, rowAt, takeL, dropL]
  cases spanOK lo hi <;> simp [errA]
def SBd : Sums := ⟨(131, mkSum _ qchS) :: SBc.one, SBc.two, SBc.lo, SBc.eqs, SBc.its, SBc.imm⟩
theorem SBd_ok : SumsOK Try.prog SBd := (SBc_ok.cons Try.func131 (by kernel_rfl) (by kernel_rfl) qch_ok)
@[irreducible] def vldB (n : Nat) (lo hi : Nat → Int) (m : Int) : Bool := decide ((n : Int) = m) && allN (fun k => spanOK (lo k) (hi k)) n
theorem vldB_iff {n : Nat} {lo hi : Nat → Int} {m : Int} : vldB n lo hi m = true ↔ (n : Int) = m ∧ ∀ k, k < n → spanOK (lo k) (hi k) = true := by unfold vldB; rw [Bool.and_eq_true, decide_eq_true_eq, allN_iff]
def vldS : Spec [spansSh, .int .i64] := ⟨fun (x, _) => x.1 ≤ maxLen, fun ((n, el), (m : Int), _) => .sb (vldB n (fun k => (el k).1) (fun k => (el k).2.1) m)⟩
def vldI : DatL [spansSh, .int .i64] → Anns := fun ((n, el), (m : Int), _) => [
  (4, [], fun fr hp => ⟨Nat, fun g => ⟨frI [.k 6, .t 1, .k 6, .s (.si .i64 (icast g)), .t 7] fr, hp⟩, Nat × Nat × (Nat → Int) × (Nat → Int), fun g => (g, n, (fun k => (el k).1), (fun k => (el k).2.1)), fun (g, n, lo, hi) => g ≤ n ∧ ∀ k, k < g → spanOK (lo k) (hi k) = true, fun g => nsub n g⟩)]
set_option maxRecDepth 100000 in
theorem vld_ok : FnSpec Try.prog 96 _ vldS := by
  refine FnSpec.of SBd_ok mixed (U := 0) (I := vldI) Try.func96 rfl (by kernel_rfl) rfl rfl (by decide +kernel) ?_
  rintro ⟨⟨n, el⟩, (m : Int), ⟨⟩⟩ (hn : n ≤ maxLen)
  obtain ⟨lo, hi, rfl⟩ : ∃ lo hi : Nat → Int, el = fun k => (lo k, hi k, ()) := ⟨fun k => (el k).1, fun k => (el k).2.1, rfl⟩
  unfold FnSat
  conv => arg 2; reduce
  unfold maxLen at hn
  simp [vldS, qchS, and_assoc]
  have no : (vldB n lo hi m = true → False) → vldB n lo hi m = false := fun h => by cases hb : vldB n lo hi m with | false => rfl | true => exact (h hb).elim
  refine ⟨fun h => no fun hb => h (vldB_iff.1 hb).1, fun h => ⟨⟨0, rfl, by omega, fun k hk => by omega⟩, fun g hg hf => ⟨fun hlt => ⟨hlt, fun hb => no fun hv => ?_, fun hb => ⟨by omega, by omega, g + 1, by omega, by omega, fun k hk => ?_, by omega⟩⟩, fun hge => vldB_iff.2 ⟨h, fun k hk => hf k (by omega)⟩⟩⟩⟩
  · have := (vldB_iff.1 hv).2 g hlt
    rw [hb] at this; cases this
  · by_cases h' : k < g
    · exact hf k h'
    · obtain rfl : k = g := by omega
      exact hb
def insC : Spec [spanSh, .int .i64, .int .i64] := ⟨fun _ => True, fun (((l : Int), (h : Int), _), (a : Int), (b : Int), _) => .sb (insV a l h b)⟩
set_option maxRecDepth 100000 in
theorem cin_ok : FnSpec Try.prog 105 _ insC := by
  refine FnSpec.of SBd_ok mixed (U := 0) (I := fun _ => []) Try.func105 rfl (by kernel_rfl) rfl rfl (by decide +kernel) ?_
  rintro ⟨⟨(l : Int), (h : Int), ⟨⟩⟩, (a : Int), (b : Int), ⟨⟩⟩ -
  unfold FnSat
  conv => arg 2; reduce
  simp [insC, insV]
@[irreducible] def hlo (n : Nat) (v : Nat → Int) : Int := if n = 2 then min (v 0) (v 1) else min (min (v 0) (v 1)) (min (v 2) (v 3))
@[irreducible] def hhi (n : Nat) (v : Nat → Int) : Int := if n = 2 then max (v 0) (v 1) else max (max (v 0) (v 1)) (max (v 2) (v 3))
theorem hlo2 (v : Nat → Int) : hlo 2 v = min (v 0) (v 1) := by unfold hlo; rw [if_pos rfl]
theorem hhi2 (v : Nat → Int) : hhi 2 v = max (v 0) (v 1) := by unfold hhi; rw [if_pos rfl]
theorem hlo4 (v : Nat → Int) : hlo 4 v = min (min (v 0) (v 1)) (min (v 2) (v 3)) := by unfold hlo; rw [if_neg (by decide)]
theorem hhi4 (v : Nat → Int) : hhi 4 v = max (max (v 0) (v 1)) (max (v 2) (v 3)) := by unfold hhi; rw [if_neg (by decide)]
def hulS : Spec [intsSh] := ⟨fun ((n, _), _) => n = 2 ∨ n = 4, fun ((n, el), _) => .tup [.si .i64 (hlo n (fun k => (el k).1)), .si .i64 (hhi n (fun k => (el k).1))]⟩
set_option maxRecDepth 100000 in
theorem hul_ok : FnSpec Try.prog 155 _ hulS := by
  refine FnSpec.of SBd_ok mixed (U := 6) (I := fun _ => []) Try.func155 rfl (by kernel_rfl) rfl rfl (by decide +kernel) ?_
  rintro ⟨⟨n, el⟩, ⟨⟩⟩ (hn : n = 2 ∨ n = 4)
  obtain ⟨v, rfl⟩ : ∃ v : Nat → Int, el = fun k => (v k, ()) := ⟨fun k => (el k).1, rfl⟩
  unfold FnSat
  conv => arg 2; reduce
  rcases hn with rfl | rfl
  · simp [hulS, and_assoc, hlo2, hhi2]
    try omega
  · simp [hulS, and_assoc, hlo4, hhi4]
    try omega
def SBe0 : Sums := ⟨(155, mkSum _ hulS) :: (105, mkSum _ insC) :: SBd.one, SBd.two, SBd.lo, SBd.eqs, SBd.its, SBd.imm⟩
theorem SBe0_ok : SumsOK Try.prog SBe0 := ((SBd_ok.cons Try.func105 (by kernel_rfl) (by kernel_rfl) cin_ok).cons Try.func155 (by kernel_rfl) (by kernel_rfl) hul_ok)
theorem mulB {K L a c : Int} (ha : -K ≤ a ∧ a ≤ K) (hc : -L ≤ c ∧ c ≤ L) : -(K * L) ≤ a * c ∧ a * c ≤ K * L := by
  have hK : 0 ≤ K := by omega
  have hL : 0 ≤ L := by omega
  have h1 : (a * c).natAbs ≤ (K * L).natAbs := by
    rw [Int.natAbs_mul, Int.natAbs_mul]
    exact Nat.mul_le_mul (by omega) (by omega)
  have h2 : 0 ≤ K * L := Int.mul_nonneg hK hL
  omega
def proS : Spec [spanSh, spanSh] := ⟨fun (((a : Int), (b : Int), _), ((c : Int), (d : Int), _), _) => (-1099511627776 ≤ a ∧ a ≤ 1099511627776) ∧ (-1099511627776 ≤ b ∧ b ≤ 1099511627776) ∧ (-4194304 ≤ c ∧ c ≤ 4194304) ∧ (-4194304 ≤ d ∧ d ≤ 4194304),
  fun (((a : Int), (b : Int), _), ((c : Int), (d : Int), _), _) => .tup [.si .i64 (min (min (a * c) (a * d)) (min (b * c) (b * d))), .si .i64 (max (max (a * c) (a * d)) (max (b * c) (b * d)))]⟩
set_option maxRecDepth 100000 in
theorem pro_ok : FnSpec Try.prog 138 _ proS := by
  refine FnSpec.of SBe0_ok mixed (U := 0) (I := fun _ => []) Try.func138 rfl (by kernel_rfl) rfl rfl (by decide +kernel) ?_
  rintro ⟨⟨(a : Int), (b : Int), ⟨⟩⟩, ⟨(c : Int), (d : Int), ⟨⟩⟩, ⟨⟩⟩ ⟨ha, hb, hc, hd⟩
  unfold FnSat
  conv => arg 2; reduce
  simp [proS, hulS, decL, takeL, dropL, and_assoc]
  have h1 := mulB (K := 1099511627776) (L := 4194304) ha hc
  have h2 := mulB (K := 1099511627776) (L := 4194304) ha hd
  have h3 := mulB (K := 1099511627776) (L := 4194304) hb hc
  have h4 := mulB (K := 1099511627776) (L := 4194304) hb hd
  refine ⟨by omega, by omega, by omega, by omega, by omega, by omega, by omega, by omega, fun k hk => ?_, ?_, ?_⟩
  · match k, hk with
    | 0, _ => simp [rowAt, takeL, dropL]
    | 1, _ => simp [rowAt, takeL, dropL]
    | 2, _ => simp [rowAt, takeL, dropL]
    | 3, _ => simp [rowAt, takeL, dropL]
  · rw [hlo4]
    exact Int.min_assoc ..
  · rw [hhi4]
    exact Int.max_assoc ..
end
end Abs
end Go.Proofs.Ytghmkkdmpmmbhaa

/- Cells with tolerances, by the program: the ends, Possible, check. -/
namespace Go.Proofs.Ytghmkkdmpmmbhaa
namespace Abs
open Go Go.RowKit
noncomputable section
attribute [local irreducible] FnSat
theorem celOf_mv (c : Cel) (d : Nat → Int) : celOf (c.cap + d 0, (c.ocv.nx, fun k => (c.ocv.x k, ())), (c.ocv.ny, fun k => (c.ocv.y k, ())), c.shift + d 1, (c.cold.nx, fun k => (c.cold.x k, ())), (c.cold.ny, fun k => (c.cold.y k, ())),
    c.extra + d 2, c.pair + d 3, c.keep, c.leak + d 4, c.hcap + d 5, c.cool + d 6, (c.stress.nx, fun k => (c.stress.x k, ())), (c.stress.ny, fun k => (c.stress.y k, ())), c.cyc, c.agel, c.grow, ()) = mvC c d := by
  have := celOf_mk (mvC c d)
  simpa only [mvC_cap, mvC_shift, mvC_extra, mvC_pair, mvC_leak, mvC_hcap, mvC_cool, mvC_ocv, mvC_cold, mvC_stress, mvC_keep, mvC_cyc, mvC_agel, mvC_grow] using this
theorem vldB_ofs {n : Nat} {lo hi : Nat → Int} (h : vldB n lo hi 7 = true) : n = 7 ∧ ofsB lo ∧ ofsB hi := by
  obtain ⟨h1, h2⟩ := vldB_iff.1 h
  have h1 : n = 7 := by omega
  subst h1
  refine ⟨rfl, ?_, ?_⟩ <;>
  · unfold ofsB
    intro k hk
    have := spanOK_iff.1 (h2 k hk)
    omega
def SBi : Sums := ⟨SBe0.one, SBe0.two, SBe0.lo, SBe0.eqs, SBe0.its, [69]⟩
theorem SBi_ok : SumsOK Try.prog SBi := SBe0_ok.setImm _
def endS : Spec [celSh, spansSh] := ⟨fun (c, (n, el), _) => celB (celOf c) = true ∧ n = 7 ∧ ofsB (fun k => (el k).1) ∧ ofsB (fun k => (el k).2.1), fun (c, (_, el), _) => .tup [mvA (celOf c) (fun k => (el k).1), mvA (celOf c) (fun k => (el k).2.1)]⟩
set_option maxRecDepth 100000 in
set_option maxHeartbeats 2000000 in
theorem end_ok : FnSpec Try.prog 97 _ endS := by
  refine FnSpec.of SBi_ok mixed (U := 0) (I := fun _ => []) Try.func97 rfl (by kernel_rfl) rfl rfl (by decide +kernel) ?_
  rintro ⟨c, ⟨n, el⟩, ⟨⟩⟩ hpre
  obtain ⟨c, rfl⟩ := cel_ex c
  obtain ⟨lo, hi, rfl⟩ : ∃ lo hi : Nat → Int, el = fun k => (lo k, hi k, ()) := ⟨fun k => (el k).1, fun k => (el k).2.1, rfl⟩
  have hpre : celB c = true ∧ n = 7 ∧ ofsB lo ∧ ofsB hi := by have : celB (celOf (celD c)) = true ∧ n = 7 ∧ ofsB lo ∧ ofsB hi := hpre; rwa [celOf_D] at this
  obtain ⟨hc, rfl, ho, ho2⟩ := hpre
  unfold FnSat
  conv => arg 2; reduce
  simp [endS, moLo, moHi, ElEq, getB, goneB, aliveB, and_assoc]
  exact ⟨hc, ho, hc, ho2⟩
def num0 : Spec [.ptr celCells] := ⟨fun _ => True, fun _ => .top⟩
set_option maxRecDepth 100000 in
theorem num0_ok : FnSpec Try.prog 88 _ num0 := by
  refine FnSpec.of SRg_ok mixed (U := 0) (I := fun _ => []) Try.func88 rfl (by kernel_rfl) rfl rfl (by decide +kernel) ?_
  rintro ⟨c, ⟨⟩⟩ -
  obtain ⟨c, rfl⟩ := cel_ex c
  unfold FnSat
  conv => arg 2; reduce
  simp [num0]
def SBf0 : Sums := ⟨(96, mkSum _ vldS) :: (138, mkSum _ proS) :: (88, mkSum _ num0) :: (97, mkSum _ endS) :: SBe0.one, SBe0.two, SBe0.lo, SBe0.eqs, SBe0.its, SBe0.imm⟩
theorem SBf0_ok : SumsOK Try.prog SBf0 := ((((SBe0_ok.cons Try.func97 (by kernel_rfl) (by kernel_rfl) end_ok).cons Try.func88 (by kernel_rfl) (by kernel_rfl) num0_ok).cons Try.func138 (by kernel_rfl) (by kernel_rfl) pro_ok).cons Try.func96 (by kernel_rfl) (by kernel_rfl) vld_ok)
def SBf : Sums := ⟨SBf0.one, SRg.two, SBe0.lo, SBe0.eqs, SBe0.its, [26]⟩
theorem SBf_ok : SumsOK Try.prog SBf := ⟨SBf0_ok.one, SRg_ok.two, SBf0_ok.eqs, SBf0_ok.bodyOne, SRg_ok.bodyTwo, SBf0_ok.its⟩
@[irreducible] def posV (c : Cel) (n : Nat) (lo hi : Nat → Int) : Int := if (celB c && vldB n lo hi 7) = true then (if (celB (mvC c lo) && celB (mvC c hi)) = true then 0 else 3) else 2
theorem posV_arg {c : Cel} {n : Nat} {lo hi : Nat → Int} (h : (celB c && vldB n lo hi 7) = false) : posV c n lo hi = 2 := by unfold posV; rw [h]; rfl
theorem posV_rng {c : Cel} {n : Nat} {lo hi : Nat → Int} (h1 : celB c = true) (h2 : vldB n lo hi 7 = true) (h : (celB (mvC c lo) && celB (mvC c hi)) = false) : posV c n lo hi = 3 := by unfold posV; rw [h1, h2, h]; rfl
theorem posV_ok {c : Cel} {n : Nat} {lo hi : Nat → Int} (h1 : celB c = true) (h2 : vldB n lo hi 7 = true) (h3 : celB (mvC c lo) = true) (h4 : celB (mvC c hi) = true) : posV c n lo hi = 0 := by unfold posV; rw [h1, h2, h3, h4]; rfl
theorem posV_zero {c : Cel} {n : Nat} {lo hi : Nat → Int} : posV c n lo hi = 0 ↔ celB c = true ∧ vldB n lo hi 7 = true ∧ celB (mvC c lo) = true ∧ celB (mvC c hi) = true := by
  unfold posV
  cases celB c <;> cases vldB n lo hi 7 <;> cases celB (mvC c lo) <;> cases celB (mvC c hi) <;> simp
theorem mvM {c : Cel} (h : CelMax c) (d : Nat → Int) : CelMax (mvC c d) := by
  unfold CelMax at h ⊢
  simpa using h
def posS : Spec [celSh, spansSh] := ⟨fun (c, x, _) => CelMax (celOf c) ∧ x.1 ≤ maxLen, fun (c, (n, el), _) => .si .i64 (posV (celOf c) n (fun k => (el k).1) (fun k => (el k).2.1))⟩
set_option maxRecDepth 100000 in
set_option maxHeartbeats 2000000 in
theorem pos_ok : FnSpec Try.prog 41 _ posS := by
  refine FnSpec.of SBf_ok mixed (U := 0) (I := fun _ => []) Try.func41 rfl (by kernel_rfl) rfl rfl (by decide +kernel) ?_
  rintro ⟨c, ⟨n, el⟩, ⟨⟩⟩ hpre
  obtain ⟨c, rfl⟩ := cel_ex c
  obtain ⟨lo, hi, rfl⟩ : ∃ lo hi : Nat → Int, el = fun k => (lo k, hi k, ()) := ⟨fun k => (el k).1, fun k => (el k).2.1, rfl⟩
  have hpre : CelMax c ∧ n ≤ maxLen := by have : CelMax (celOf (celD c)) ∧ n ≤ maxLen := hpre; rwa [celOf_D] at this
  obtain ⟨hc, hn⟩ := hpre
  unfold FnSat
  conv => arg 2; reduce
  simp [posS, ccheckS, vldS, endS, num0, celOf_mv, and_assoc]
  refine ⟨hc, fun _ => hn, fun h => (posV_arg ?_).symm, fun h1 h2 => ⟨h1, (vldB_ofs h2).1, (vldB_ofs h2).2.1, (vldB_ofs h2).2.2, mvM hc lo, fun _ => mvM hc hi, fun h => (posV_rng h1 h2 ?_).symm, fun h3 h4 => (posV_ok h1 h2 h3 h4).symm⟩⟩
  · rcases h with h | h
    · rw [h]; rfl
    · rw [h, Bool.and_false]
  · rcases h with h | h
    · rw [show celB (mvC c fun k => lo k) = false from h]; rfl
    · rw [show celB (mvC c fun k => hi k) = false from h, Bool.and_false]
end
end Abs
end Go.Proofs.Ytghmkkdmpmmbhaa

/- Cells with tolerances, by the program: check, squares. -/
namespace Go.Proofs.Ytghmkkdmpmmbhaa
namespace Abs
open Go Go.RowKit
noncomputable section
attribute [local irreducible] FnSat
def SBg0 : Sums := ⟨(41, mkSum _ posS) :: SBf0.one, SBf0.two, SBf0.lo, SBf0.eqs, SBf0.its, SBf0.imm⟩
theorem SBg0_ok : SumsOK Try.prog SBg0 := (SBf0_ok.cons Try.func41 (by kernel_rfl) (by kernel_rfl) pos_ok)
def SBg : Sums := ⟨SBg0.one, SBg0.two, SBg0.lo, SBg0.eqs, SBg0.its, [26]⟩
theorem SBg_ok : SumsOK Try.prog SBg := SBg0_ok.setImm _
/-- a box of states -/
@[irreducible] def boxB (n : Nat) (lo hi : Nat → Int) : Bool := decide (n = 5) && insV 0 (lo 0) (hi 0) 4294967296 && insV (-8388608) (lo 1) (hi 1) 8388608 && insV 0 (lo 2) (hi 2) 400000 && insV 0 (lo 3) (hi 3) 1099511627776 && insV 0 (lo 4) (hi 4) 1099511627776
theorem boxB_iff {n : Nat} {lo hi : Nat → Int} : boxB n lo hi = true ↔ n = 5 ∧ insV 0 (lo 0) (hi 0) 4294967296 = true ∧ insV (-8388608) (lo 1) (hi 1) 8388608 = true ∧ insV 0 (lo 2) (hi 2) 400000 = true ∧ insV 0 (lo 3) (hi 3) 1099511627776 = true ∧ insV 0 (lo 4) (hi 4) 1099511627776 = true := by
  unfold boxB; simp [and_assoc]
theorem boxB_no {n : Nat} {lo hi : Nat → Int} (h : boxB n lo hi = true → False) : boxB n lo hi = false := by
  cases hb : boxB n lo hi with
  | false => rfl
  | true => exact (h hb).elim
@[irreducible] def chkV (c : Cel) (n : Nat) (lo hi : Nat → Int) (m : Nat) (bl bh : Nat → Int) : Int := if posV c n lo hi = 0 then errA (boxB m bl bh) else posV c n lo hi
theorem chkV_pos {c : Cel} {n : Nat} {lo hi : Nat → Int} {m : Nat} {bl bh : Nat → Int} (h : ¬ posV c n lo hi = 0) : posV c n lo hi = chkV c n lo hi m bl bh := by unfold chkV; rw [if_neg h]
theorem chkV_no {c : Cel} {n : Nat} {lo hi : Nat → Int} {m : Nat} {bl bh : Nat → Int} (h : posV c n lo hi = 0) (hb : boxB m bl bh = true → False) : 2 = chkV c n lo hi m bl bh := by unfold chkV; rw [if_pos h, boxB_no hb, errA_false]
theorem chkV_ok {c : Cel} {n : Nat} {lo hi : Nat → Int} {m : Nat} {bl bh : Nat → Int} (h : posV c n lo hi = 0) (hb : boxB m bl bh = true) : 0 = chkV c n lo hi m bl bh := by unfold chkV; rw [if_pos h, hb, errA_true]
theorem chkV_zero {c : Cel} {n : Nat} {lo hi : Nat → Int} {m : Nat} {bl bh : Nat → Int} : chkV c n lo hi m bl bh = 0 ↔ posV c n lo hi = 0 ∧ boxB m bl bh = true := by
  unfold chkV
  by_cases h : posV c n lo hi = 0
  · rw [if_pos h]; simp [h]
  · rw [if_neg h]; simp [h]
def chkS : Spec [celSh, spansSh, spansSh] := ⟨fun (c, x, y, _) => CelMax (celOf c) ∧ x.1 ≤ maxLen ∧ y.1 ≤ maxLen, fun (c, (n, el), (m, em), _) => .si .i64 (chkV (celOf c) n (fun k => (el k).1) (fun k => (el k).2.1) m (fun k => (em k).1) (fun k => (em k).2.1))⟩
set_option maxRecDepth 100000 in
set_option maxHeartbeats 2000000 in
theorem chk_ok : FnSpec Try.prog 104 _ chkS := by
  refine FnSpec.of SBg_ok mixed (U := 7) (I := fun _ => []) Try.func104 rfl (by kernel_rfl) rfl rfl (by decide +kernel) ?_
  rintro ⟨c, ⟨n, el⟩, ⟨m, em⟩, ⟨⟩⟩ hpre
  obtain ⟨c, rfl⟩ := cel_ex c
  obtain ⟨lo, hi, rfl⟩ : ∃ lo hi : Nat → Int, el = fun k => (lo k, hi k, ()) := ⟨fun k => (el k).1, fun k => (el k).2.1, rfl⟩
  obtain ⟨bl, bh, rfl⟩ : ∃ bl bh : Nat → Int, em = fun k => (bl k, bh k, ()) := ⟨fun k => (em k).1, fun k => (em k).2.1, rfl⟩
  have hpre : CelMax c ∧ n ≤ maxLen ∧ m ≤ maxLen := by have : CelMax (celOf (celD c)) ∧ n ≤ maxLen ∧ m ≤ maxLen := hpre; rwa [celOf_D] at this
  obtain ⟨hc, hn, hm⟩ := hpre
  unfold FnSat
  conv => arg 2; reduce
  simp [chkS, posS, insC, ElEq, getB, goneB, aliveB, and_assoc]
  refine ⟨hc, hn, fun h => chkV_pos h, fun h => ⟨fun q => chkV_no h fun hb => q (by have := (boxB_iff.1 hb).1; omega), fun q => ⟨by omega, fun q0 => chkV_no h fun hb => ?_, fun q0 => ⟨by omega, fun q1 => chkV_no h fun hb => ?_, fun q1 => ⟨by omega, fun q2 => chkV_no h fun hb => ?_, fun q2 => ⟨by omega, fun q3 => chkV_no h fun hb => ?_, fun q3 => ⟨by omega, fun q4 => chkV_no h fun hb => ?_, fun q4 => chkV_ok h (boxB_iff.2 ⟨by omega, q0, q1, q2, q3, q4⟩)⟩⟩⟩⟩⟩⟩⟩
  · rw [(boxB_iff.1 hb).2.1] at q0; cases q0
  · rw [(boxB_iff.1 hb).2.2.1] at q1; cases q1
  · rw [(boxB_iff.1 hb).2.2.2.1] at q2; cases q2
  · rw [(boxB_iff.1 hb).2.2.2.2.1] at q3; cases q3
  · rw [(boxB_iff.1 hb).2.2.2.2.2] at q4; cases q4
@[irreducible] def sqL (a b : Int) : Int := if a ≤ 0 ∧ 0 ≤ b then 0 else min (a * a) (b * b)
@[irreducible] def sqH (a b : Int) : Int := max (a * a) (b * b)
def sqrS : Spec [spanSh] := ⟨fun (((a : Int), (b : Int), _), _) => (-1073741824 ≤ a ∧ a ≤ 1073741824) ∧ (-1073741824 ≤ b ∧ b ≤ 1073741824), fun (((a : Int), (b : Int), _), _) => .tup [.si .i64 (sqL a b), .si .i64 (sqH a b)]⟩
set_option maxRecDepth 100000 in
theorem sqr_ok : FnSpec Try.prog 164 _ sqrS := by
  refine FnSpec.of SBg0_ok mixed (U := 0) (I := fun _ => []) Try.func164 rfl (by kernel_rfl) rfl rfl (by decide +kernel) ?_
  rintro ⟨⟨(a : Int), (b : Int), ⟨⟩⟩, ⟨⟩⟩ ⟨ha, hb⟩
  unfold FnSat
  conv => arg 2; reduce
  simp [sqrS, hulS, decL, takeL, dropL, ElEq, getB, goneB, aliveB, and_assoc]
  have h1 := mulB (K := 1073741824) (L := 1073741824) ha ha
  have h2 := mulB (K := 1073741824) (L := 1073741824) hb hb
  have eh : ∀ v : Nat → Int, v 0 = a * a → v 1 = b * b → hhi 2 v = sqH a b := fun v e0 e1 => by rw [hhi2, e0, e1]; unfold sqH; rfl
  have el : ∀ v : Nat → Int, v 0 = a * a → v 1 = b * b → (a ≤ 0 → b < 0) → hlo 2 v = sqL a b := fun v e0 e1 hn => by rw [hlo2, e0, e1]; unfold sqL; rw [if_neg (by omega)]
  refine ⟨by omega, by omega, by omega, by omega, fun k hk => ?_, fun q1 q2 => ⟨by unfold sqL; rw [if_pos ⟨q1, q2⟩], eh _ rfl rfl⟩, fun q => ⟨el _ rfl rfl q, eh _ rfl rfl⟩⟩
  match k, hk with
  | 0, _ => simp [rowAt, takeL, dropL]
  | 1, _ => simp [rowAt, takeL, dropL]
end
end Abs
end Go.Proofs.Ytghmkkdmpmmbhaa

/- Cells with tolerances, by the program: a cell over a box, as a value; spread. -/
namespace Go.Proofs.Ytghmkkdmpmmbhaa
namespace Abs
open Go Go.RowKit
noncomputable section
attribute [local irreducible] FnSat
/-- a cell with tolerances over a box -/
structure Wid where
  a0 : Cel
  a1 : Cel
  a2 : Nat
  a3 : Nat → Int
  a4 : Nat → Int
  a5 : Int
  a6 : Int
  a7 : Int
  a8 : Int
  a9 : Int
  a10 : Int
@[irreducible] def Wid.lo (x : Wid) : Cel := x.a0
@[irreducible] def Wid.hi (x : Wid) : Cel := x.a1
@[irreducible] def Wid.n (x : Wid) : Nat := x.a2
@[irreducible] def Wid.bl (x : Wid) : Nat → Int := x.a3
@[irreducible] def Wid.bh (x : Wid) : Nat → Int := x.a4
@[irreducible] def Wid.wl (x : Wid) : Int := x.a5
@[irreducible] def Wid.wh (x : Wid) : Int := x.a6
@[irreducible] def Wid.fl (x : Wid) : Int := x.a7
@[irreducible] def Wid.fh (x : Wid) : Int := x.a8
@[irreducible] def Wid.rl (x : Wid) : Int := x.a9
@[irreducible] def Wid.rh (x : Wid) : Int := x.a10
@[reducible] def widCells : List Sh := [.int .i64, intsSh, intsSh, .int .i64, intsSh, intsSh, .int .i64, .int .i64, .int .i64, .int .i64, .int .i64, .int .i64, intsSh, intsSh, .int .i64, .int .i64, .int .i64, .int .i64, intsSh, intsSh, .int .i64, intsSh, intsSh, .int .i64, .int .i64, .int .i64, .int .i64, .int .i64, .int .i64, intsSh, intsSh, .int .i64, .int .i64, .int .i64, spansSh, .int .i64, .int .i64, .int .i64, .int .i64, .int .i64, .int .i64]
abbrev SpansD := Nat × (Nat → Int × Int × Unit)
abbrev WidD := Int × IntsD × IntsD × Int × IntsD × IntsD × Int × Int × Int × Int × Int × Int × IntsD × IntsD × Int × Int × Int × Int × IntsD × IntsD × Int × IntsD × IntsD × Int × Int × Int × Int × Int × Int × IntsD × IntsD × Int × Int × Int × SpansD × Int × Int × Int × Int × Int × Int × Unit
@[irreducible] def widOf (x : WidD) : Wid :=
  let (a0, a1, a2, a3, a4, a5, a6, a7, a8, a9, a10, a11, a12, a13, a14, a15, a16, b0, b1, b2, b3, b4, b5, b6, b7, b8, b9, b10, b11, b12, b13, b14, b15, b16, s, w0, w1, w2, w3, w4, w5, _) := x
  ⟨celOf (a0, a1, a2, a3, a4, a5, a6, a7, a8, a9, a10, a11, a12, a13, a14, a15, a16, ()), celOf (b0, b1, b2, b3, b4, b5, b6, b7, b8, b9, b10, b11, b12, b13, b14, b15, b16, ()), s.1, fun k => (s.2 k).1, fun k => (s.2 k).2.1, w0, w1, w2, w3, w4, w5⟩
@[reducible] def widD (x : Wid) : WidD := (x.lo.cap, (x.lo.ocv.nx, fun k => (x.lo.ocv.x k, ())), (x.lo.ocv.ny, fun k => (x.lo.ocv.y k, ())), x.lo.shift, (x.lo.cold.nx, fun k => (x.lo.cold.x k, ())), (x.lo.cold.ny, fun k => (x.lo.cold.y k, ())), x.lo.extra, x.lo.pair, x.lo.keep, x.lo.leak, x.lo.hcap, x.lo.cool, (x.lo.stress.nx, fun k => (x.lo.stress.x k, ())), (x.lo.stress.ny, fun k => (x.lo.stress.y k, ())), x.lo.cyc, x.lo.agel, x.lo.grow, x.hi.cap, (x.hi.ocv.nx, fun k => (x.hi.ocv.x k, ())), (x.hi.ocv.ny, fun k => (x.hi.ocv.y k, ())), x.hi.shift, (x.hi.cold.nx, fun k => (x.hi.cold.x k, ())), (x.hi.cold.ny, fun k => (x.hi.cold.y k, ())), x.hi.extra, x.hi.pair, x.hi.keep, x.hi.leak, x.hi.hcap, x.hi.cool, (x.hi.stress.nx, fun k => (x.hi.stress.x k, ())), (x.hi.stress.ny, fun k => (x.hi.stress.y k, ())), x.hi.cyc, x.hi.agel, x.hi.grow, (x.n, fun k => (x.bl k, x.bh k, ())), x.wl, x.wh, x.fl, x.fh, x.rl, x.rh, ())
@[simp] theorem widOf_mk (x : Wid) : widOf (x.lo.cap, (x.lo.ocv.nx, fun k => (x.lo.ocv.x k, ())), (x.lo.ocv.ny, fun k => (x.lo.ocv.y k, ())), x.lo.shift, (x.lo.cold.nx, fun k => (x.lo.cold.x k, ())), (x.lo.cold.ny, fun k => (x.lo.cold.y k, ())), x.lo.extra, x.lo.pair, x.lo.keep, x.lo.leak, x.lo.hcap, x.lo.cool, (x.lo.stress.nx, fun k => (x.lo.stress.x k, ())), (x.lo.stress.ny, fun k => (x.lo.stress.y k, ())), x.lo.cyc, x.lo.agel, x.lo.grow, x.hi.cap, (x.hi.ocv.nx, fun k => (x.hi.ocv.x k, ())), (x.hi.ocv.ny, fun k => (x.hi.ocv.y k, ())), x.hi.shift, (x.hi.cold.nx, fun k => (x.hi.cold.x k, ())), (x.hi.cold.ny, fun k => (x.hi.cold.y k, ())), x.hi.extra, x.hi.pair, x.hi.keep, x.hi.leak, x.hi.hcap, x.hi.cool, (x.hi.stress.nx, fun k => (x.hi.stress.x k, ())), (x.hi.stress.ny, fun k => (x.hi.stress.y k, ())), x.hi.cyc, x.hi.agel, x.hi.grow, (x.n, fun k => (x.bl k, x.bh k, ())), x.wl, x.wh, x.fl, x.fh, x.rl, x.rh, ()) = x := by
  unfold widOf
  simp only [celOf_mk]
  unfold Wid.lo Wid.hi Wid.n Wid.bl Wid.bh Wid.wl Wid.wh Wid.fl Wid.fh Wid.rl Wid.rh
  rfl
@[simp] theorem widOf_D (x : Wid) : widOf (widD x) = x := widOf_mk x
theorem wid_ex (x : Dat (.agg widCells)) : ∃ w : Wid, x = widD w := by
  obtain ⟨a0, a1, a2, a3, a4, a5, a6, a7, a8, a9, a10, a11, a12, a13, a14, a15, a16, b0, b1, b2, b3, b4, b5, b6, b7, b8, b9, b10, b11, b12, b13, b14, b15, b16, s, w0, w1, w2, w3, w4, w5, ⟨⟩⟩ := x
  obtain ⟨c, hc⟩ := cel_ex (a0, a1, a2, a3, a4, a5, a6, a7, a8, a9, a10, a11, a12, a13, a14, a15, a16, ())
  obtain ⟨d, hd⟩ := cel_ex (b0, b1, b2, b3, b4, b5, b6, b7, b8, b9, b10, b11, b12, b13, b14, b15, b16, ())
  refine ⟨⟨c, d, s.1, fun k => (s.2 k).1, fun k => (s.2 k).2.1, w0, w1, w2, w3, w4, w5⟩, ?_⟩
  simp only [celD, Prod.mk.injEq] at hc hd
  obtain ⟨rfl, rfl, rfl, rfl, rfl, rfl, rfl, rfl, rfl, rfl, rfl, rfl, rfl, rfl, rfl, rfl, rfl, -⟩ := hc
  obtain ⟨rfl, rfl, rfl, rfl, rfl, rfl, rfl, rfl, rfl, rfl, rfl, rfl, rfl, rfl, rfl, rfl, rfl, -⟩ := hd
  unfold widD Wid.lo Wid.hi Wid.n Wid.bl Wid.bh Wid.wl Wid.wh Wid.fl Wid.fh Wid.rl Wid.rh
  rfl
theorem encL_wid (x : Wid) : encL widCells (widD x) = [.si .i64 x.lo.cap, .slc (.sym x.lo.ocv.nx) 1 (fun k => [.si .i64 (x.lo.ocv.x k)]), .slc (.sym x.lo.ocv.ny) 1 (fun k => [.si .i64 (x.lo.ocv.y k)]), .si .i64 x.lo.shift, .slc (.sym x.lo.cold.nx) 1 (fun k => [.si .i64 (x.lo.cold.x k)]), .slc (.sym x.lo.cold.ny) 1 (fun k => [.si .i64 (x.lo.cold.y k)]), .si .i64 x.lo.extra, .si .i64 x.lo.pair, .si .i64 x.lo.keep, .si .i64 x.lo.leak, .si .i64 x.lo.hcap, .si .i64 x.lo.cool, .slc (.sym x.lo.stress.nx) 1 (fun k => [.si .i64 (x.lo.stress.x k)]), .slc (.sym x.lo.stress.ny) 1 (fun k => [.si .i64 (x.lo.stress.y k)]), .si .i64 x.lo.cyc, .si .i64 x.lo.agel, .si .i64 x.lo.grow, .si .i64 x.hi.cap, .slc (.sym x.hi.ocv.nx) 1 (fun k => [.si .i64 (x.hi.ocv.x k)]), .slc (.sym x.hi.ocv.ny) 1 (fun k => [.si .i64 (x.hi.ocv.y k)]), .si .i64 x.hi.shift, .slc (.sym x.hi.cold.nx) 1 (fun k => [.si .i64 (x.hi.cold.x k)]), .slc (.sym x.hi.cold.ny) 1 (fun k => [.si .i64 (x.hi.cold.y k)]), .si .i64 x.hi.extra, .si .i64 x.hi.pair, .si .i64 x.hi.keep, .si .i64 x.hi.leak, .si .i64 x.hi.hcap, .si .i64 x.hi.cool, .slc (.sym x.hi.stress.nx) 1 (fun k => [.si .i64 (x.hi.stress.x k)]), .slc (.sym x.hi.stress.ny) 1 (fun k => [.si .i64 (x.hi.stress.y k)]), .si .i64 x.hi.cyc, .si .i64 x.hi.agel, .si .i64 x.hi.grow, .slc (.sym x.n) 2 (fun k => [.si .i64 (x.bl k), .si .i64 (x.bh k)]), .si .i64 x.wl, .si .i64 x.wh, .si .i64 x.fl, .si .i64 x.fh, .si .i64 x.rl, .si .i64 x.rh] := rfl
@[irreducible] def wdWL (c : Cel) (bl : Nat → Int) : Int := wearV c (bl 3) (bl 4)
@[irreducible] def wdFL (c : Cel) (hi bl bh : Nat → Int) : Int := pcV (bl 0) (roomV (mvC c hi) (wdWL c bl))
@[irreducible] def wdFH (c : Cel) (lo bl bh : Nat → Int) : Int := pcV (bh 0) (roomV (mvC c lo) (wdWL c bh))
@[irreducible] def wdRL (c : Cel) (lo bl bh : Nat → Int) : Int := resV (mvC c lo) (bh 2) (wdWL c bl)
@[irreducible] def wdRH (c : Cel) (hi bl bh : Nat → Int) : Int := resV (mvC c hi) (bl 2) (wdWL c bh)
@[irreducible] def widV (c : Cel) (lo hi : Nat → Int) (m : Nat) (bl bh : Nat → Int) : Wid := ⟨mvC c lo, mvC c hi, m, bl, bh, wdWL c bl, wdWL c bh, wdFL c hi bl bh, wdFH c lo bl bh, wdRL c lo bl bh, wdRH c hi bl bh⟩
theorem widV_lo (c : Cel) (lo hi : Nat → Int) (m : Nat) (bl bh : Nat → Int) : (widV c lo hi m bl bh).lo = mvC c lo := by unfold widV Wid.lo; rfl
theorem widV_hi (c : Cel) (lo hi : Nat → Int) (m : Nat) (bl bh : Nat → Int) : (widV c lo hi m bl bh).hi = mvC c hi := by unfold widV Wid.hi; rfl
theorem widV_n (c : Cel) (lo hi : Nat → Int) (m : Nat) (bl bh : Nat → Int) : (widV c lo hi m bl bh).n = m := by unfold widV Wid.n; rfl
theorem widV_bl (c : Cel) (lo hi : Nat → Int) (m : Nat) (bl bh : Nat → Int) : (widV c lo hi m bl bh).bl = bl := by unfold widV Wid.bl; rfl
theorem widV_bh (c : Cel) (lo hi : Nat → Int) (m : Nat) (bl bh : Nat → Int) : (widV c lo hi m bl bh).bh = bh := by unfold widV Wid.bh; rfl
theorem widV_wl (c : Cel) (lo hi : Nat → Int) (m : Nat) (bl bh : Nat → Int) : (widV c lo hi m bl bh).wl = wdWL c bl := by unfold widV Wid.wl; rfl
theorem widV_wh (c : Cel) (lo hi : Nat → Int) (m : Nat) (bl bh : Nat → Int) : (widV c lo hi m bl bh).wh = wdWL c bh := by unfold widV Wid.wh; rfl
theorem widV_fl (c : Cel) (lo hi : Nat → Int) (m : Nat) (bl bh : Nat → Int) : (widV c lo hi m bl bh).fl = wdFL c hi bl bh := by unfold widV Wid.fl; rfl
theorem widV_fh (c : Cel) (lo hi : Nat → Int) (m : Nat) (bl bh : Nat → Int) : (widV c lo hi m bl bh).fh = wdFH c lo bl bh := by unfold widV Wid.fh; rfl
theorem widV_rl (c : Cel) (lo hi : Nat → Int) (m : Nat) (bl bh : Nat → Int) : (widV c lo hi m bl bh).rl = wdRL c lo bl bh := by unfold widV Wid.rl; rfl
theorem widV_rh (c : Cel) (lo hi : Nat → Int) (m : Nat) (bl bh : Nat → Int) : (widV c lo hi m bl bh).rh = wdRH c hi bl bh := by unfold widV Wid.rh; rfl
def SBh : Sums := ⟨SBg0.one, SBg0.two, SBg0.lo, SBg0.eqs, SBg0.its, [26]⟩
theorem SBh_ok : SumsOK Try.prog SBh := SBg0_ok.setImm _
def sprS : SpecN [celSh, spansSh, spansSh] := ⟨fun (c, (n, el), (m, em), _) => posV (celOf c) n (fun k => (el k).1) (fun k => (el k).2.1) = 0 ∧ boxB m (fun k => (em k).1) (fun k => (em k).2.1) = true,
  fun _ => .own 0 0, fun (c, (_, el), (m, em), _) => [.cells 152 (encL widCells (widD (widV (celOf c) (fun k => (el k).1) (fun k => (el k).2.1) m (fun k => (em k).1) (fun k => (em k).2.1))))]⟩
set_option maxRecDepth 100000 in
set_option maxHeartbeats 4000000 in
theorem spr_ok : FnSpecN Try.prog 106 _ sprS := by
  refine FnSpecN.of SBh_ok mixed (U := 0) (I := fun _ => []) Try.func106 rfl (by kernel_rfl) rfl rfl (by decide +kernel) ?_
  rintro ⟨c, ⟨n, el⟩, ⟨m, em⟩, ⟨⟩⟩ hpre
  obtain ⟨c, rfl⟩ := cel_ex c
  obtain ⟨lo, hi, rfl⟩ : ∃ lo hi : Nat → Int, el = fun k => (lo k, hi k, ()) := ⟨fun k => (el k).1, fun k => (el k).2.1, rfl⟩
  obtain ⟨bl, bh, rfl⟩ : ∃ bl bh : Nat → Int, em = fun k => (bl k, bh k, ()) := ⟨fun k => (em k).1, fun k => (em k).2.1, rfl⟩
  have hpre : posV c n lo hi = 0 ∧ boxB m bl bh = true := by have : posV (celOf (celD c)) n lo hi = 0 ∧ boxB m bl bh = true := hpre; rwa [celOf_D] at this
  obtain ⟨h1, h2⟩ := hpre
  obtain ⟨hc, hv, hl, hh⟩ := posV_zero.1 h1
  obtain ⟨rfl, b0, b1, b2, b3, b4⟩ := boxB_iff.1 h2
  obtain ⟨rfl, ho, ho2⟩ := vldB_ofs hv
  unfold FnSat
  conv => arg 2; reduce
  simp [sprS, endS, wearS, roomS, pcS, resS, celOf_mv, encL_wid, widV_lo, widV_hi, widV_n, widV_bl, widV_bh, widV_wl, widV_wh, widV_fl, widV_fh, widV_rl, widV_rh, ElEq, getB, goneB, aliveB, and_assoc]
  have hk := celB_iff.1 hc
  have kl := celB_iff.1 hl
  have kh := celB_iff.1 hh
  obtain ⟨c0, c1, c2⟩ := insV_iff.1 b0
  obtain ⟨d0, d1, d2⟩ := insV_iff.1 b2
  obtain ⟨e0, e1, e2⟩ := insV_iff.1 b3
  obtain ⟨f0, f1, f2⟩ := insV_iff.1 b4
  have w1 : WearOK c (bl 3) (bl 4) := ⟨hk.cy0, hk.cy1, hk.al0, hk.al1, e0, by omega, f0, by omega⟩
  have w2 : WearOK c (bh 3) (bh 4) := ⟨hk.cy0, hk.cy1, hk.al0, hk.al1, by omega, by omega, by omega, by omega⟩
  have v1 := wearV_in w1
  have v2 := wearV_in w2
  have r1 := @roomV_in (mvC c hi) (wearV c (bl 3) (bl 4))
  have r2 := @roomV_in (mvC c lo) (wearV c (bh 3) (bh 4))
  have l0 := kl.cap0
  have l1 := kl.cap1
  have u0 := kh.cap0
  have u1 := kh.cap1
  rw [mvC_cap] at l0 l1 u0 u1
  refine ⟨hc, ho, ho2, w1, w2, by omega, by omega, by omega, by omega, by omega, by omega, r1.1, by omega, by omega, by omega, by omega, by omega, by omega, r2.1, hl, by omega, by omega, by omega, by omega, hh, by omega, by omega, by omega, by omega, ?_⟩
  unfold wdFL wdFH wdRL wdRH wdWL
  exact ⟨rfl, rfl, rfl, rfl, rfl, rfl⟩
def SBj : Sums := ⟨(106, mkSumN _ sprS) :: SBh.one, SBh.two, SBh.lo, SBh.eqs, SBh.its, SBh.imm⟩
theorem SBj_ok : SumsOK Try.prog SBj := (SBh_ok.add Try.func106 (by kernel_rfl) (by kernel_rfl) (mkSumN_ok spr_ok))
def SBk : Sums := ⟨SBj.one, SBj.two, SBj.lo, SBj.eqs, SBj.its, SRg.imm⟩
theorem SBk_ok : SumsOK Try.prog SBk := SBj_ok.setImm _
end
end Abs
end Go.Proofs.Ytghmkkdmpmmbhaa

/- Cells with tolerances, by the program: the voltage, the heat, the temperature over a box. -/
namespace Go.Proofs.Ytghmkkdmpmmbhaa
namespace Abs
open Go Go.RowKit
noncomputable section
attribute [local irreducible] FnSat
structure WidOK (x : Wid) : Prop where
  lo : celB x.lo = true
  hi : celB x.hi = true
  n : x.n = 5
  bx : boxB 5 x.bl x.bh = true
  pr : x.lo.pair ≤ x.hi.pair
  f0 : 0 ≤ x.fl
  f1 : x.fl ≤ 65536
  g0 : 0 ≤ x.fh
  g1 : x.fh ≤ 65536
  r0 : 0 ≤ x.rl
  r1 : x.rl ≤ 1048576
  s0 : 0 ≤ x.rh
  s1 : x.rh ≤ 1048576
structure BoxOK (l h : Nat → Int) : Prop where
  q0 : 0 ≤ l 0
  q1 : l 0 ≤ h 0
  q2 : h 0 ≤ 4294967296
  x0 : -8388608 ≤ l 1
  x1 : l 1 ≤ h 1
  x2 : h 1 ≤ 8388608
  t0 : 0 ≤ l 2
  t1 : l 2 ≤ h 2
  t2 : h 2 ≤ 400000
  h0 : 0 ≤ l 3
  h1 : l 3 ≤ h 3
  h2 : h 3 ≤ 1099511627776
  a0 : 0 ≤ l 4
  a1 : l 4 ≤ h 4
  a2 : h 4 ≤ 1099511627776
theorem boxB_ok {l h : Nat → Int} : boxB 5 l h = true ↔ BoxOK l h := by
  rw [boxB_iff]
  simp only [insV_iff]
  constructor
  · rintro ⟨-, ⟨a, b, c⟩, ⟨d, e, f⟩, ⟨g, i, j⟩, ⟨k, m, n⟩, ⟨o, p, q⟩⟩
    exact ⟨a, b, c, d, e, f, g, i, j, k, m, n, o, p, q⟩
  · intro h
    exact ⟨trivial, ⟨h.q0, h.q1, h.q2⟩, ⟨h.x0, h.x1, h.x2⟩, ⟨h.t0, h.t1, h.t2⟩, ⟨h.h0, h.h1, h.h2⟩, ⟨h.a0, h.a1, h.a2⟩⟩
@[irreducible] def prL (a b c d : Int) : Int := min (min (a * c) (a * d)) (min (b * c) (b * d))
@[irreducible] def prH (a b c d : Int) : Int := max (max (a * c) (a * d)) (max (b * c) (b * d))
def proS' : Spec [spanSh, spanSh] := ⟨fun (((a : Int), (b : Int), _), ((c : Int), (d : Int), _), _) => (-1099511627776 ≤ a ∧ a ≤ 1099511627776) ∧ (-1099511627776 ≤ b ∧ b ≤ 1099511627776) ∧ (-4194304 ≤ c ∧ c ≤ 4194304) ∧ (-4194304 ≤ d ∧ d ≤ 4194304),
  fun (((a : Int), (b : Int), _), ((c : Int), (d : Int), _), _) => .tup [.si .i64 (prL a b c d), .si .i64 (prH a b c d)]⟩
theorem pro_ok' : FnSpec Try.prog 138 _ proS' := by
  have e : proS' = proS := by
    unfold proS' proS
    congr 1
    funext x
    obtain ⟨⟨a, b, _⟩, ⟨c, d, _⟩, _⟩ := x
    show AV.tup [.si .i64 (prL a b c d), .si .i64 (prH a b c d)] = _
    unfold prL prH
    rfl
  rw [e]; exact pro_ok
theorem prB {a b c d K L : Int} (ha : -K ≤ a ∧ a ≤ K) (hb : -K ≤ b ∧ b ≤ K) (hc : -L ≤ c ∧ c ≤ L) (hd : -L ≤ d ∧ d ≤ L) : -(K * L) ≤ prL a b c d ∧ prL a b c d ≤ prH a b c d ∧ prH a b c d ≤ K * L := by
  have h1 := mulB ha hc
  have h2 := mulB ha hd
  have h3 := mulB hb hc
  have h4 := mulB hb hd
  unfold prL prH
  omega
theorem sqB {a b K : Int} (hK : 0 ≤ K) (h0 : -K ≤ a) (h1 : a ≤ b) (h2 : b ≤ K) : 0 ≤ sqL a b ∧ sqL a b ≤ sqH a b ∧ sqH a b ≤ K * K := by
  have m1 := sq_in (a := a) (A := K) h0 (by omega)
  have m2 := sq_in (a := b) (A := K) (by omega) h2
  unfold sqL sqH
  split <;> omega
@[irreducible] def wvL (x : Wid) (a b : Int) : Int := openV x.lo x.fl - x.bh 1 - dvI (prH a b x.rl x.rh) 1000
@[irreducible] def wvH (x : Wid) (a b : Int) : Int := openV x.hi x.fh - x.bl 1 - dvI (prL a b x.rl x.rh) 1000
@[irreducible] def whL (x : Wid) (a b : Int) : Int := dvI (sqL a b * x.rl) 1000000000 + (if 0 < x.lo.pair then dvI (sqL (x.bl 1) (x.bh 1)) (1000 * x.hi.pair) else 0)
@[irreducible] def whH (x : Wid) (a b : Int) : Int := dvI (sqH a b * x.rh) 1000000000 + (if 0 < x.hi.pair then dvI (sqH (x.bl 1) (x.bh 1)) (1000 * max 1 x.lo.pair) else 0)
@[irreducible] def wtL (x : Wid) (a b u v : Int) : Int := clipV (x.bl 2 + dvI (1000 * whL x a b) x.hi.hcap + min (dvI ((u - x.bl 2) * x.lo.cool) 65536) (dvI ((u - x.bl 2) * x.hi.cool) 65536)) 0 400000
@[irreducible] def wtH (x : Wid) (a b u v : Int) : Int := clipV (x.bh 2 + dvI (1000 * whH x a b) x.lo.hcap + max (dvI ((v - x.bh 2) * x.lo.cool) 65536) (dvI ((v - x.bh 2) * x.hi.cool) 65536)) 0 400000
def SBl : Sums := ⟨(164, mkSum _ sqrS) :: (138, mkSum _ proS') :: SBk.one, SBk.two, SBk.lo, SBk.eqs, SBk.its, SBk.imm⟩
theorem SBl_ok : SumsOK Try.prog SBl := ((SBk_ok.cons Try.func138 (by kernel_rfl) (by kernel_rfl) pro_ok').cons Try.func164 (by kernel_rfl) (by kernel_rfl) sqr_ok)
def wvS : Spec [.ptr widCells, spanSh] := ⟨fun (x, ((a : Int), (b : Int), _), _) => WidOK (widOf x) ∧ insV (-1048576) a b 1048576 = true, fun (x, ((a : Int), (b : Int), _), _) => .agg [.si .i64 (wvL (widOf x) a b), .si .i64 (wvH (widOf x) a b)]⟩
theorem open_in {c : Cel} {f : Int} (hc : celB c = true) : -8388608 ≤ openV c f ∧ openV c f ≤ 16777216 := by
  have hk := celB_iff.1 hc
  have := sc_val hk.ocv f
  have := hk.sh0
  have := hk.sh1
  unfold openV
  omega
set_option maxRecDepth 100000 in
set_option maxHeartbeats 4000000 in
theorem wv_ok : FnSpec Try.prog 107 _ wvS := by
  refine FnSpec.of SBl_ok mixed (U := 0) (I := fun _ => []) Try.func107 rfl (by kernel_rfl) rfl rfl (by decide +kernel) ?_
  rintro ⟨x, ⟨(a : Int), (b : Int), ⟨⟩⟩, ⟨⟩⟩ hpre
  obtain ⟨x, rfl⟩ := wid_ex x
  have hpre : WidOK x ∧ insV (-1048576) a b 1048576 = true := by have : WidOK (widOf (widD x)) ∧ insV (-1048576) a b 1048576 = true := hpre; rwa [widOf_D] at this
  obtain ⟨h, hi⟩ := hpre
  unfold FnSat
  conv => arg 2; reduce
  simp [wvS, proS', openS, divS, ElEq, getB, goneB, aliveB, and_assoc]
  obtain ⟨i0, i1, i2⟩ := insV_iff.1 hi
  have hb := boxB_ok.1 h.bx
  have := h.n
  have o1 := open_in (f := x.fl) h.lo
  have o2 := open_in (f := x.fh) h.hi
  have := h.f0
  have := h.f1
  have := h.g0
  have := h.g1
  have := h.r0
  have := h.r1
  have := h.s0
  have := h.s1
  have := hb.x0
  have := hb.x1
  have := hb.x2
  have hp := prB (a := a) (b := b) (c := x.rl) (d := x.rh) (K := 1048576) (L := 1048576) (by omega) (by omega) (by omega) (by omega)
  have d1 := dvI_ge (a := prL a b x.rl x.rh) (d := 1000) (m := -1099511628) (by decide) (by omega)
  have d2 := dvI_le (a := prH a b x.rl x.rh) (d := 1000) (m := 1099511628) (by decide) (by omega)
  have d3 := dvI_mono (a := prL a b x.rl x.rh) (b := prH a b x.rl x.rh) (d := 1000) (by decide) hp.2.1
  have el : wvL x a b = openV x.lo x.fl - x.bh 1 - dvI (prH a b x.rl x.rh) 1000 := by unfold wvL; rfl
  have eh : wvH x a b = openV x.hi x.fh - x.bl 1 - dvI (prL a b x.rl x.rh) 1000 := by unfold wvH; rfl
  rw [el, eh]
  have l1 := h.lo
  have l2 := h.hi
  repeat' (first | refine And.intro ?_ ?_ | intro _)
  all_goals first | omega | rfl | assumption
theorem wh_parts {x : Wid} {a b : Int} (h : WidOK x) (hi : insV (-1048576) a b 1048576 = true) :
    0 ≤ sqL a b * x.rl ∧ sqL a b * x.rl ≤ 1152921504606846976 ∧ 0 ≤ sqH a b * x.rh ∧ sqH a b * x.rh ≤ 1152921504606846976 ∧
    (0 ≤ dvI (sqL a b * x.rl) 1000000000 ∧ dvI (sqL a b * x.rl) 1000000000 ≤ 1152921505) ∧ (0 ≤ dvI (sqH a b * x.rh) 1000000000 ∧ dvI (sqH a b * x.rh) 1000000000 ≤ 1152921505) ∧
    (0 ≤ sqL (x.bl 1) (x.bh 1) ∧ sqL (x.bl 1) (x.bh 1) ≤ 70368744177664) ∧ (0 ≤ sqH (x.bl 1) (x.bh 1) ∧ sqH (x.bl 1) (x.bh 1) ≤ 70368744177664) ∧
    (0 ≤ dvI (sqH (x.bl 1) (x.bh 1)) (1000 * max 1 x.lo.pair) ∧ dvI (sqH (x.bl 1) (x.bh 1)) (1000 * max 1 x.lo.pair) ≤ 70368744177664) ∧
    (1 ≤ x.hi.pair → 0 ≤ dvI (sqL (x.bl 1) (x.bh 1)) (1000 * x.hi.pair) ∧ dvI (sqL (x.bl 1) (x.bh 1)) (1000 * x.hi.pair) ≤ 70368744177664) := by
  obtain ⟨i0, i1, i2⟩ := insV_iff.1 hi
  have hb := boxB_ok.1 h.bx
  have q1 := sqB (a := a) (b := b) (K := 1048576) (by decide) (by omega) (by omega) (by omega)
  have q2 := sqB (a := x.bl 1) (b := x.bh 1) (K := 8388608) (by decide) hb.x0 hb.x1 hb.x2
  have m1 := mul_in (a := sqL a b) (b := x.rl) (A := 1099511627776) (B := 1048576) q1.1 (by omega) h.r0 h.r1
  have m2 := mul_in (a := sqH a b) (b := x.rh) (A := 1099511627776) (B := 1048576) (by omega) (by omega) h.s0 h.s1
  have d1 := dvI_nonneg (a := sqL a b * x.rl) (d := 1000000000) (by decide) m1.1
  have d2 := dvI_le (a := sqL a b * x.rl) (d := 1000000000) (m := 1152921505) (by decide) (by omega)
  have d3 := dvI_nonneg (a := sqH a b * x.rh) (d := 1000000000) (by decide) m2.1
  have d4 := dvI_le (a := sqH a b * x.rh) (d := 1000000000) (m := 1152921505) (by decide) (by omega)
  have d5 := dvI_nonneg (a := sqH (x.bl 1) (x.bh 1)) (d := 1000 * max 1 x.lo.pair) (by omega) (by omega)
  have d6 := dvI_le (a := sqH (x.bl 1) (x.bh 1)) (d := 1000 * max 1 x.lo.pair) (m := 70368744177664) (by omega) (by omega)
  refine ⟨m1.1, by omega, m2.1, by omega, ⟨d1, d2⟩, ⟨d3, d4⟩, by omega, by omega, ⟨d5, d6⟩, fun hp => ?_⟩
  exact ⟨dvI_nonneg (by omega) (by omega), dvI_le (by omega) (by omega)⟩
theorem wh_b {x : Wid} {a b : Int} (h : WidOK x) (hi : insV (-1048576) a b 1048576 = true) : (0 ≤ whL x a b ∧ whL x a b ≤ 70369897099169) ∧ 0 ≤ whH x a b ∧ whH x a b ≤ 70369897099169 := by
  obtain ⟨p1, p2, p3, p4, p5, p6, p7, p8, p9, p10⟩ := wh_parts h hi
  have := h.pr
  unfold whL whH
  constructor
  · split
    · have := p10 (by omega); omega
    · omega
  · split <;> omega
def whS : Spec [.ptr widCells, spanSh] := ⟨fun (x, ((a : Int), (b : Int), _), _) => WidOK (widOf x) ∧ insV (-1048576) a b 1048576 = true, fun (x, ((a : Int), (b : Int), _), _) => .tup [.si .i64 (whL (widOf x) a b), .si .i64 (whH (widOf x) a b)]⟩
set_option maxRecDepth 100000 in
set_option maxHeartbeats 4000000 in
theorem wh_ok : FnSpec Try.prog 156 _ whS := by
  refine FnSpec.of SBl_ok mixed (U := 0) (I := fun _ => []) Try.func156 rfl (by kernel_rfl) rfl rfl (by decide +kernel) ?_
  rintro ⟨x, ⟨(a : Int), (b : Int), ⟨⟩⟩, ⟨⟩⟩ hpre
  obtain ⟨x, rfl⟩ := wid_ex x
  have hpre : WidOK x ∧ insV (-1048576) a b 1048576 = true := by have : WidOK (widOf (widD x)) ∧ insV (-1048576) a b 1048576 = true := hpre; rwa [widOf_D] at this
  obtain ⟨h, hi⟩ := hpre
  unfold FnSat
  conv => arg 2; reduce
  simp [whS, sqrS, divS, ElEq, getB, goneB, aliveB, and_assoc]
  obtain ⟨i0, i1, i2⟩ := insV_iff.1 hi
  have hb := boxB_ok.1 h.bx
  have := h.n
  have := hb.x0
  have := hb.x1
  have := hb.x2
  have := (celB_iff.1 h.lo).pr0
  have := (celB_iff.1 h.lo).pr1
  have := (celB_iff.1 h.hi).pr1
  have := h.pr
  obtain ⟨p1, p2, p3, p4, p5, p6, p7, p8, p9, p10⟩ := wh_parts h hi
  have c1 : 0 < x.lo.pair → whL x a b = dvI (sqL a b * x.rl) 1000000000 + dvI (sqL (x.bl 1) (x.bh 1)) (1000 * x.hi.pair) := fun q => by unfold whL; rw [if_pos q]
  have c2 : x.lo.pair ≤ 0 → whL x a b = dvI (sqL a b * x.rl) 1000000000 := fun q => by unfold whL; rw [if_neg (by omega), Int.add_zero]
  have c3 : 0 < x.hi.pair → whH x a b = dvI (sqH a b * x.rh) 1000000000 + dvI (sqH (x.bl 1) (x.bh 1)) (1000 * max 1 x.lo.pair) := fun q => by unfold whH; rw [if_pos q]
  have c4 : x.hi.pair ≤ 0 → whH x a b = dvI (sqH a b * x.rh) 1000000000 := fun q => by unfold whH; rw [if_neg (by omega), Int.add_zero]
  refine ⟨by omega, by omega, by omega, by omega, by omega, by omega, by omega, by omega, by omega, by omega, by omega, by omega, by omega, by omega, by omega, by omega, by omega, fun q => ?_, fun q => ?_⟩
  · have := p10 (by omega)
    refine ⟨by omega, by omega, by omega, by omega, by omega, by omega, by omega, fun q' => ?_, fun q' => by omega⟩
    exact ⟨by omega, by omega, by omega, by omega, by omega, by omega, by omega, (c1 q).symm, (c3 q').symm⟩
  · refine ⟨fun q' => ?_, fun q' => ⟨(c2 q).symm, (c4 q').symm⟩⟩
    exact ⟨by omega, by omega, by omega, by omega, by omega, by omega, by omega, (c2 q).symm, (c3 q').symm⟩
def SBm : Sums := ⟨(156, mkSum _ whS) :: (107, mkSum _ wvS) :: SBl.one, SBl.two, SBl.lo, SBl.eqs, SBl.its, SBl.imm⟩
theorem SBm_ok : SumsOK Try.prog SBm := ((SBl_ok.cons Try.func107 (by kernel_rfl) (by kernel_rfl) wv_ok).cons Try.func156 (by kernel_rfl) (by kernel_rfl) wh_ok)
def wtS : Spec [.ptr widCells, spanSh, spanSh] := ⟨fun (x, ((a : Int), (b : Int), _), ((u : Int), (v : Int), _), _) => WidOK (widOf x) ∧ insV (-1048576) a b 1048576 = true ∧ insV 0 u v 400000 = true,
  fun (x, ((a : Int), (b : Int), _), ((u : Int), (v : Int), _), _) => .agg [.si .i64 (wtL (widOf x) a b u v), .si .i64 (wtH (widOf x) a b u v)]⟩
set_option maxRecDepth 100000 in
set_option maxHeartbeats 4000000 in
theorem wt_ok : FnSpec Try.prog 139 _ wtS := by
  refine FnSpec.of SBm_ok mixed (U := 0) (I := fun _ => []) Try.func139 rfl (by kernel_rfl) rfl rfl (by decide +kernel) ?_
  rintro ⟨x, ⟨(a : Int), (b : Int), ⟨⟩⟩, ⟨(u : Int), (v : Int), ⟨⟩⟩, ⟨⟩⟩ hpre
  obtain ⟨x, rfl⟩ := wid_ex x
  have hpre : WidOK x ∧ insV (-1048576) a b 1048576 = true ∧ insV 0 u v 400000 = true := by have : WidOK (widOf (widD x)) ∧ insV (-1048576) a b 1048576 = true ∧ insV 0 u v 400000 = true := hpre; rwa [widOf_D] at this
  obtain ⟨h, hi, hu⟩ := hpre
  unfold FnSat
  conv => arg 2; reduce
  simp [wtS, whS, divS, hulS, clipS, decL, takeL, dropL, ElEq, getB, goneB, aliveB, and_assoc]
  obtain ⟨i0, i1, i2⟩ := insV_iff.1 hi
  have hb := boxB_ok.1 h.bx
  have el : ∀ (A B : Int) (v : Nat → Int), v 0 = A → v 1 = B → hlo 2 v = min A B := fun A B v e0 e1 => by rw [hlo2, e0, e1]
  have eh : ∀ (A B : Int) (v : Nat → Int), v 0 = A → v 1 = B → hhi 2 v = max A B := fun A B v e0 e1 => by rw [hhi2, e0, e1]
  generalize hz : hlo 2 _ = z
  generalize hy : hhi 2 _ = y
  have hz' : z = min (dvI ((u - x.bl 2) * x.lo.cool) 65536) (dvI ((u - x.bl 2) * x.hi.cool) 65536) := by rw [← hz]; exact el _ _ _ rfl rfl
  have hy' : y = max (dvI ((v - x.bh 2) * x.lo.cool) 65536) (dvI ((v - x.bh 2) * x.hi.cool) 65536) := by rw [← hy]; exact eh _ _ _ rfl rfl
  clear hz hy
  obtain ⟨u0, u1, u2⟩ := insV_iff.1 hu
  have := h.n
  have := hb.t0
  have := hb.t1
  have := hb.t2
  have kl := celB_iff.1 h.lo
  have kh := celB_iff.1 h.hi
  have m1 := mul_ab (a := u - x.bl 2) (b := x.lo.cool) (A := 400000) (B := 65536) (by omega) (by omega) kl.co0 kl.co1
  have m2 := mul_ab (a := u - x.bl 2) (b := x.hi.cool) (A := 400000) (B := 65536) (by omega) (by omega) kh.co0 kh.co1
  have m3 := mul_ab (a := v - x.bh 2) (b := x.lo.cool) (A := 400000) (B := 65536) (by omega) (by omega) kl.co0 kl.co1
  have m4 := mul_ab (a := v - x.bh 2) (b := x.hi.cool) (A := 400000) (B := 65536) (by omega) (by omega) kh.co0 kh.co1
  have d1 := dvI_ge (a := (u - x.bl 2) * x.lo.cool) (d := 65536) (m := -400000) (by decide) (by omega)
  have d2 := dvI_ge (a := (u - x.bl 2) * x.hi.cool) (d := 65536) (m := -400000) (by decide) (by omega)
  have d3 := dvI_ge (a := (v - x.bh 2) * x.lo.cool) (d := 65536) (m := -400000) (by decide) (by omega)
  have d4 := dvI_ge (a := (v - x.bh 2) * x.hi.cool) (d := 65536) (m := -400000) (by decide) (by omega)
  have d5 := dvI_le (a := (u - x.bl 2) * x.lo.cool) (d := 65536) (m := 400000) (by decide) (by omega)
  have d6 := dvI_le (a := (u - x.bl 2) * x.hi.cool) (d := 65536) (m := 400000) (by decide) (by omega)
  have d7 := dvI_le (a := (v - x.bh 2) * x.lo.cool) (d := 65536) (m := 400000) (by decide) (by omega)
  have d8 := dvI_le (a := (v - x.bh 2) * x.hi.cool) (d := 65536) (m := 400000) (by decide) (by omega)
  obtain ⟨w1, w2⟩ := wh_b h hi
  have := kl.hc0
  have := kh.hc0
  have g1 := dvI_nonneg (a := 1000 * whL x a b) (d := x.hi.hcap) (by omega) (by omega)
  have g2 := dvI_le (a := 1000 * whL x a b) (d := x.hi.hcap) (m := 70369897099169000) (by omega) (by omega)
  have g3 := dvI_nonneg (a := 1000 * whH x a b) (d := x.lo.hcap) (by omega) (by omega)
  have g4 := dvI_le (a := 1000 * whH x a b) (d := x.lo.hcap) (m := 70369897099169000) (by omega) (by omega)
  have row : ∀ (A B : Int) (k : Nat), k < 2 → CanL [.int .i64] (rowAt 1 [.si .i64 A, .si .i64 B] k) := fun A B k hk => by
    match k, hk with
    | 0, _ => simp [rowAt, takeL, dropL]
    | 1, _ => simp [rowAt, takeL, dropL]
  have eL : wtL x a b u v = clipV (x.bl 2 + dvI (1000 * whL x a b) x.hi.hcap + z) 0 400000 := by rw [hz']; unfold wtL; rfl
  have eH : wtH x a b u v = clipV (x.bh 2 + dvI (1000 * whH x a b) x.lo.hcap + y) 0 400000 := by rw [hy']; unfold wtH; rfl
  have zb : -400000 ≤ z ∧ z ≤ 400000 := by omega
  have yb : -400000 ≤ y ∧ y ≤ 400000 := by omega
  clear hz' hy'
  rw [eL, eH]
  repeat' (first | refine And.intro ?_ ?_ | intro _)
  all_goals first | assumption | omega | rfl | exact row _ _ _ ‹_›
def SBn : Sums := ⟨(139, mkSum _ wtS) :: SBm.one, SBm.two, SBm.lo, SBm.eqs, SBm.its, SBm.imm⟩
theorem SBn_ok : SumsOK Try.prog SBn := (SBm_ok.cons Try.func139 (by kernel_rfl) (by kernel_rfl) wt_ok)
/-- the next box -/
@[irreducible] def nbTL (x : Wid) (a b : Int) : Int := x.bl 3 + max (max 0 a) (-b)
@[irreducible] def nbTH (x : Wid) (a b : Int) : Int := x.bh 3 + max b (-a)
@[irreducible] def nbAL (x : Wid) : Int := x.bl 4 + valL x.lo.stress (x.bl 2)
@[irreducible] def nbAH (x : Wid) : Int := x.bh 4 + valL x.lo.stress (x.bh 2)
@[irreducible] def nbRL (x : Wid) (a b : Int) : Int := slackV x.lo (x.bl 1) (prL a b x.lo.pair x.hi.pair)
@[irreducible] def nbRH (x : Wid) (a b : Int) : Int := slackV x.lo (x.bh 1) (prH a b x.lo.pair x.hi.pair)
@[irreducible] def nbQL (x : Wid) (a b : Int) : Int := clipV (x.bl 0 - b - x.hi.leak) 0 (roomV x.lo (wearV x.lo (nbTH x a b) (nbAH x)))
@[irreducible] def nbQH (x : Wid) (a b : Int) : Int := clipV (x.bh 0 - a - x.lo.leak) 0 (roomV x.hi (wearV x.lo (nbTL x a b) (nbAL x)))
@[irreducible] def nbL (x : Wid) (a b u v : Int) (k : Nat) : Int := match k with | 0 => nbQL x a b | 1 => nbRL x a b | 2 => wtL x a b u v | 3 => nbTL x a b | _ => nbAL x
@[irreducible] def nbH (x : Wid) (a b u v : Int) (k : Nat) : Int := match k with | 0 => nbQH x a b | 1 => nbRH x a b | 2 => wtH x a b u v | 3 => nbTH x a b | _ => nbAH x
theorem nb_0 (x : Wid) (a b u v : Int) : nbL x a b u v 0 = nbQL x a b ∧ nbH x a b u v 0 = nbQH x a b := by unfold nbL nbH; exact ⟨rfl, rfl⟩
theorem nb_1 (x : Wid) (a b u v : Int) : nbL x a b u v 1 = nbRL x a b ∧ nbH x a b u v 1 = nbRH x a b := by unfold nbL nbH; exact ⟨rfl, rfl⟩
theorem nb_2 (x : Wid) (a b u v : Int) : nbL x a b u v 2 = wtL x a b u v ∧ nbH x a b u v 2 = wtH x a b u v := by unfold nbL nbH; exact ⟨rfl, rfl⟩
theorem nb_3 (x : Wid) (a b u v : Int) : nbL x a b u v 3 = nbTL x a b ∧ nbH x a b u v 3 = nbTH x a b := by unfold nbL nbH; exact ⟨rfl, rfl⟩
theorem nb_4 (x : Wid) (a b u v : Int) : nbL x a b u v 4 = nbAL x ∧ nbH x a b u v 4 = nbAH x := by unfold nbL nbH; exact ⟨rfl, rfl⟩
end
end Abs
end Go.Proofs.Ytghmkkdmpmmbhaa

/- Cells with tolerances, by the program: the next box. -/
namespace Go.Proofs.Ytghmkkdmpmmbhaa
namespace Abs
open Go Go.RowKit
noncomputable section
attribute [local irreducible] FnSat
theorem nbL_ite {x : Wid} {a b u v : Int} {j : Nat} (h : j < 5) : (if j = 0 then clipV (x.bl 0 - b - x.hi.leak) 0 (roomV x.lo (wearV x.lo (nbTH x a b) (nbAH x))) else if j = 4 then nbAL x else if j = 3 then nbTL x a b else if j = 2 then wtL x a b u v else
    if j = 1 then slackV x.lo (x.bl 1) (prL a b x.lo.pair x.hi.pair) else 0) = nbL x a b u v j := by
  match j, h with
  | 0, _ => rw [if_pos rfl, (nb_0 x a b u v).1]; unfold nbQL; rfl
  | 1, _ => rw [(nb_1 x a b u v).1]; unfold nbRL; rfl
  | 2, _ => rw [(nb_2 x a b u v).1]; rfl
  | 3, _ => rw [(nb_3 x a b u v).1]; rfl
  | 4, _ => rw [(nb_4 x a b u v).1]; rfl
theorem nbH_ite {x : Wid} {a b u v : Int} {j : Nat} (h : j < 5) : (if j = 0 then clipV (x.bh 0 - a - x.lo.leak) 0 (roomV x.hi (wearV x.lo (nbTL x a b) (nbAL x))) else if j = 4 then nbAH x else if j = 3 then nbTH x a b else if j = 2 then wtH x a b u v else
    if j = 1 then slackV x.lo (x.bh 1) (prH a b x.lo.pair x.hi.pair) else 0) = nbH x a b u v j := by
  match j, h with
  | 0, _ => rw [if_pos rfl, (nb_0 x a b u v).2]; unfold nbQH; rfl
  | 1, _ => rw [(nb_1 x a b u v).2]; unfold nbRH; rfl
  | 2, _ => rw [(nb_2 x a b u v).2]; rfl
  | 3, _ => rw [(nb_3 x a b u v).2]; rfl
  | 4, _ => rw [(nb_4 x a b u v).2]; rfl
def nxbS : SpecN [.ptr widCells, spanSh, spanSh] := ⟨fun (x, ((a : Int), (b : Int), _), ((u : Int), (v : Int), _), _) => WidOK (widOf x) ∧ insV (-1048576) a b 1048576 = true ∧ insV 0 u v 400000 = true,
  fun _ => .row 2, fun (x, ((a : Int), (b : Int), _), ((u : Int), (v : Int), _), _) => [.dead, .dead, .row 81 2 (.lit 5) (fun k => [.si .i64 (nbL (widOf x) a b u v k), .si .i64 (nbH (widOf x) a b u v k)])]⟩
set_option maxRecDepth 100000 in
set_option maxHeartbeats 4000000 in
theorem nxb_ok : FnSpecN Try.prog 108 _ nxbS := by
  refine FnSpecN.of SBn_ok mixed (U := 0) (I := fun _ => []) Try.func108 rfl (by kernel_rfl) rfl rfl (by decide +kernel) ?_
  rintro ⟨x, ⟨(a : Int), (b : Int), ⟨⟩⟩, ⟨(u : Int), (v : Int), ⟨⟩⟩, ⟨⟩⟩ hpre
  obtain ⟨x, rfl⟩ := wid_ex x
  have hpre : WidOK x ∧ insV (-1048576) a b 1048576 = true ∧ insV 0 u v 400000 = true := by have : WidOK (widOf (widD x)) ∧ insV (-1048576) a b 1048576 = true ∧ insV 0 u v 400000 = true := hpre; rwa [widOf_D] at this
  obtain ⟨h, hi, hu⟩ := hpre
  unfold FnSat
  conv => arg 2; reduce
  simp [nxbS, proS', wtS, divS, hulS, clipS, slackS, cvalS, wearS, roomS, maxRow, decL, takeL, dropL, ElEq, getB, goneB, aliveB, and_assoc]
  obtain ⟨i0, i1, i2⟩ := insV_iff.1 hi
  have hb := boxB_ok.1 h.bx
  have := h.n
  have := hb.q0
  have := hb.q1
  have := hb.q2
  have := hb.x0
  have := hb.x1
  have := hb.x2
  have := hb.t0
  have := hb.t1
  have := hb.t2
  have := hb.h0
  have := hb.h1
  have := hb.h2
  have := hb.a0
  have := hb.a1
  have := hb.a2
  have kl := celB_iff.1 h.lo
  have kh := celB_iff.1 h.hi
  have := kl.pr0
  have := kl.pr1
  have := kh.pr0
  have := kh.pr1
  have := kl.kp0
  have := kl.kp1
  have := kl.cap0
  have := kl.cap1
  have := kh.cap0
  have := kh.cap1
  have := kl.lk0
  have := kl.lk1
  have := kh.lk0
  have := kh.lk1
  obtain ⟨-, -, -, -, m1, m2⟩ := kl.max
  have hp := prB (a := a) (b := b) (c := x.lo.pair) (d := x.hi.pair) (K := 1048576) (L := 1048576) (by omega) (by omega) (by omega) (by omega)
  have cs := (scB_iff.1 kl.stress).1
  have v1 := sc_val kl.stress (x.bl 2)
  have v2 := sc_val kl.stress (x.bh 2)
  have e1 : atL x.lo.stress (x.bl 2) = valL x.lo.stress (x.bl 2) := atL_val cs (by omega) (by omega)
  have e2 : atL x.lo.stress (x.bh 2) = valL x.lo.stress (x.bh 2) := atL_val cs (by omega) (by omega)
  have n3 : nbTL x a b = x.bl 3 + max 0 (max a (-b)) := by unfold nbTL; rw [Int.max_assoc]
  have n4 : nbTH x a b = x.bh 3 + max b (-a) := by unfold nbTH; rfl
  have n5 : nbAL x = x.bl 4 + valL x.lo.stress (x.bl 2) := by unfold nbAL; rfl
  have n6 : nbAH x = x.bh 4 + valL x.lo.stress (x.bh 2) := by unfold nbAH; rfl
  rw [e1, e2, ← n3, ← n4, ← n5, ← n6]
  have w1 : WearOK x.lo (nbTH x a b) (nbAH x) := ⟨kl.cy0, kl.cy1, kl.al0, kl.al1, by omega, by omega, by omega, by omega⟩
  have w2 : WearOK x.lo (nbTL x a b) (nbAL x) := ⟨kl.cy0, kl.cy1, kl.al0, kl.al1, by omega, by omega, by omega, by omega⟩
  have y1 := wearV_in w1
  have y2 := wearV_in w2
  have a1 : 0 ≤ nbAL x ∧ nbAL x ≤ 2199023255552 := by omega
  have a2 : 0 ≤ nbAH x ∧ nbAH x ≤ 2199023255552 := by omega
  have a3 : 0 ≤ nbTL x a b ∧ nbTL x a b ≤ 2199023255552 := by omega
  have a4 : 0 ≤ nbTH x a b ∧ nbTH x a b ≤ 2199023255552 := by omega
  clear v1 v2 n3 n4 n5 n6
  repeat' (first | refine And.intro ?_ ?_ | intro _)
  all_goals first | assumption | omega | skip
  · exact nbL_ite ‹_›
  · exact nbH_ite ‹_›
def SBo : Sums := ⟨(108, mkSumN _ nxbS) :: SBn.one, SBn.two, SBn.lo, SBn.eqs, SBn.its, SBn.imm⟩
theorem SBo_ok : SumsOK Try.prog SBo := (SBn_ok.add Try.func108 (by kernel_rfl) (by kernel_rfl) (mkSumN_ok nxb_ok))
end
end Abs
end Go.Proofs.Ytghmkkdmpmmbhaa

/- Cells with tolerances, by the program: VoltageBox, FillBox, StepBox. -/
namespace Go.Proofs.Ytghmkkdmpmmbhaa
namespace Abs
open Go Go.RowKit
noncomputable section
attribute [local irreducible] FnSat
theorem pcV_in {x o : Int} (hx : 0 ≤ x) (ho : 1 ≤ o) : 0 ≤ pcV x o ∧ pcV x o ≤ 65536 := by
  have := dvI_nonneg (a := x * 65536) (d := o) ho (by omega)
  unfold pcV
  omega
theorem resV_in {c : Cel} {t w : Int} : 0 ≤ resV c t w ∧ resV c t w ≤ 1048576 := by unfold resV; exact clipV_in (by decide)
/-- what a checked cell, tolerances and a box are -/
structure ChkOK (c : Cel) (n : Nat) (lo hi : Nat → Int) (m : Nat) (bl bh : Nat → Int) : Prop where
  cel : celB c = true
  n : n = 7
  m : m = 5
  cl : celB (mvC c lo) = true
  ch : celB (mvC c hi) = true
  le : ∀ k, k < 7 → spanOK (lo k) (hi k) = true
  bx : BoxOK bl bh
theorem chk_iff {c : Cel} {n : Nat} {lo hi : Nat → Int} {m : Nat} {bl bh : Nat → Int} : chkV c n lo hi m bl bh = 0 ↔ ChkOK c n lo hi m bl bh := by
  rw [chkV_zero, posV_zero]
  constructor
  · rintro ⟨⟨h1, h2, h3, h4⟩, h5⟩
    obtain ⟨h6, h7⟩ := vldB_iff.1 h2
    obtain rfl : n = 7 := by omega
    obtain rfl : m = 5 := (boxB_iff.1 h5).1
    exact ⟨h1, rfl, rfl, h3, h4, h7, boxB_ok.1 h5⟩
  · intro h
    obtain ⟨h1, rfl, rfl, h3, h4, h7, h5⟩ := h
    exact ⟨⟨h1, vldB_iff.2 ⟨rfl, h7⟩, h3, h4⟩, boxB_ok.2 h5⟩
theorem wid_of {c : Cel} {n : Nat} {lo hi : Nat → Int} {m : Nat} {bl bh : Nat → Int} (h : ChkOK c n lo hi m bl bh) : WidOK (widV c lo hi m bl bh) := by
  have h3 := spanOK_iff.1 (h.le 3 (by decide))
  have q0 := h.bx.q0
  have q1 := h.bx.q1
  have f1 := pcV_in (x := bl 0) (o := roomV (mvC c hi) (wdWL c bl)) q0 roomV_in.1
  have f2 := pcV_in (x := bh 0) (o := roomV (mvC c lo) (wdWL c bh)) (by omega) roomV_in.1
  have r1 := @resV_in (mvC c lo) (bh 2) (wdWL c bl)
  have r2 := @resV_in (mvC c hi) (bl 2) (wdWL c bh)
  constructor
  · rw [widV_lo]; exact h.cl
  · rw [widV_hi]; exact h.ch
  · rw [widV_n]; exact h.m
  · rw [widV_bl, widV_bh]; exact boxB_ok.2 h.bx
  · rw [widV_lo, widV_hi, mvC_pair, mvC_pair]; omega
  · rw [widV_fl]; unfold wdFL; exact f1.1
  · rw [widV_fl]; unfold wdFL; exact f1.2
  · rw [widV_fh]; unfold wdFH; exact f2.1
  · rw [widV_fh]; unfold wdFH; exact f2.2
  · rw [widV_rl]; unfold wdRL; exact r1.1
  · rw [widV_rl]; unfold wdRL; exact r1.2
  · rw [widV_rh]; unfold wdRH; exact r2.1
  · rw [widV_rh]; unfold wdRH; exact r2.2
@[irreducible] def okV (e x : Int) : Int := if e = 0 then x else 0
theorem okV_0 {e x : Int} (h : e = 0) : okV e x = x := by unfold okV; rw [if_pos h]
theorem okV_1 {e x : Int} (h : ¬ e = 0) : okV e x = 0 := by unfold okV; rw [if_neg h]
/-- the first error of two -/
@[irreducible] def orE (e : Int) (b : Bool) (x : Int) : Int := if e = 0 then (if b = true then 0 else x) else e
theorem orE_e {e x : Int} {b : Bool} (h : ¬ e = 0) : orE e b x = e := by unfold orE; rw [if_neg h]
theorem orE_f {e x : Int} {b : Bool} (h : e = 0) (hb : b = false) : orE e b x = x := by unfold orE; rw [if_pos h, if_neg (by rw [hb]; decide)]
theorem orE_t {e x : Int} {b : Bool} (h : e = 0) (hb : b = true) : orE e b x = 0 := by unfold orE; rw [if_pos h, if_pos hb]
theorem orE_0 {e x : Int} {b : Bool} (hx : ¬ x = 0) : orE e b x = 0 ↔ e = 0 ∧ b = true := by
  unfold orE
  by_cases h : e = 0
  · rw [if_pos h]
    cases b <;> simp [h, hx]
  · rw [if_neg h]; simp [h]
def SBp : Sums := ⟨(104, mkSum _ chkS) :: SBo.one, SBo.two, SBo.lo, SBo.eqs, SBo.its, SBo.imm⟩
theorem SBp_ok : SumsOK Try.prog SBp := (SBo_ok.cons Try.func104 (by kernel_rfl) (by kernel_rfl) chk_ok)
def vbS : Spec [celSh, spansSh, spansSh, spanSh] := ⟨fun (c, x, y, _) => CelMax (celOf c) ∧ x.1 ≤ maxLen ∧ y.1 ≤ maxLen,
  fun (c, (n, el), (m, em), ((a : Int), (b : Int), _), _) => .tup [.agg [
    .si .i64 (okV (orE (chkV (celOf c) n (fun k => (el k).1) (fun k => (el k).2.1) m (fun k => (em k).1) (fun k => (em k).2.1)) (insV (-1048576) a b 1048576) 2) (wvL (widV (celOf c) (fun k => (el k).1) (fun k => (el k).2.1) m (fun k => (em k).1) (fun k => (em k).2.1)) a b)),
    .si .i64 (okV (orE (chkV (celOf c) n (fun k => (el k).1) (fun k => (el k).2.1) m (fun k => (em k).1) (fun k => (em k).2.1)) (insV (-1048576) a b 1048576) 2) (wvH (widV (celOf c) (fun k => (el k).1) (fun k => (el k).2.1) m (fun k => (em k).1) (fun k => (em k).2.1)) a b))],
    .si .i64 (orE (chkV (celOf c) n (fun k => (el k).1) (fun k => (el k).2.1) m (fun k => (em k).1) (fun k => (em k).2.1)) (insV (-1048576) a b 1048576) 2)]⟩
set_option maxRecDepth 100000 in
set_option maxHeartbeats 4000000 in
theorem vb_ok : FnSpec Try.prog 50 _ vbS := by
  refine FnSpec.of SBp_ok mixed (U := 0) (I := fun _ => []) Try.func50 rfl (by kernel_rfl) rfl rfl (by decide +kernel) ?_
  rintro ⟨c, ⟨n, el⟩, ⟨m, em⟩, ⟨(a : Int), (b : Int), ⟨⟩⟩, ⟨⟩⟩ hpre
  obtain ⟨c, rfl⟩ := cel_ex c
  obtain ⟨lo, hi, rfl⟩ : ∃ lo hi : Nat → Int, el = fun k => (lo k, hi k, ()) := ⟨fun k => (el k).1, fun k => (el k).2.1, rfl⟩
  obtain ⟨bl, bh, rfl⟩ : ∃ bl bh : Nat → Int, em = fun k => (bl k, bh k, ()) := ⟨fun k => (em k).1, fun k => (em k).2.1, rfl⟩
  have hpre : CelMax c ∧ n ≤ maxLen ∧ m ≤ maxLen := by have : CelMax (celOf (celD c)) ∧ n ≤ maxLen ∧ m ≤ maxLen := hpre; rwa [celOf_D] at this
  obtain ⟨hc, hn, hm⟩ := hpre
  unfold FnSat
  conv => arg 2; reduce
  simp [vbS, chkS, insC, sprS, wvS, ElEq, getB, goneB, aliveB, and_assoc]
  exact ⟨hc, hn, hm, fun h => ⟨(okV_1 (by rw [orE_e h]; exact h)).symm, (okV_1 (by rw [orE_e h]; exact h)).symm, (orE_e h).symm⟩, fun h => ⟨fun hb => ⟨(okV_1 (by rw [orE_f h hb]; decide)).symm, (okV_1 (by rw [orE_f h hb]; decide)).symm, (orE_f h hb).symm⟩,
    fun hb => ⟨(chkV_zero.1 h).1, (chkV_zero.1 h).2, wid_of (chk_iff.1 h), hb, (okV_0 (orE_t h hb)).symm, (okV_0 (orE_t h hb)).symm, (orE_t h hb).symm⟩⟩⟩
def fbS : Spec [celSh, spansSh, spansSh] := ⟨fun (c, x, y, _) => CelMax (celOf c) ∧ x.1 ≤ maxLen ∧ y.1 ≤ maxLen,
  fun (c, (n, el), (m, em), _) => .tup [.agg [
    .si .i64 (okV (chkV (celOf c) n (fun k => (el k).1) (fun k => (el k).2.1) m (fun k => (em k).1) (fun k => (em k).2.1)) (widV (celOf c) (fun k => (el k).1) (fun k => (el k).2.1) m (fun k => (em k).1) (fun k => (em k).2.1)).fl),
    .si .i64 (okV (chkV (celOf c) n (fun k => (el k).1) (fun k => (el k).2.1) m (fun k => (em k).1) (fun k => (em k).2.1)) (widV (celOf c) (fun k => (el k).1) (fun k => (el k).2.1) m (fun k => (em k).1) (fun k => (em k).2.1)).fh)],
    .si .i64 (chkV (celOf c) n (fun k => (el k).1) (fun k => (el k).2.1) m (fun k => (em k).1) (fun k => (em k).2.1))]⟩
set_option maxRecDepth 100000 in
set_option maxHeartbeats 4000000 in
theorem fb_ok : FnSpec Try.prog 51 _ fbS := by
  refine FnSpec.of SBp_ok mixed (U := 0) (I := fun _ => []) Try.func51 rfl (by kernel_rfl) rfl rfl (by decide +kernel) ?_
  rintro ⟨c, ⟨n, el⟩, ⟨m, em⟩, ⟨⟩⟩ hpre
  obtain ⟨c, rfl⟩ := cel_ex c
  obtain ⟨lo, hi, rfl⟩ : ∃ lo hi : Nat → Int, el = fun k => (lo k, hi k, ()) := ⟨fun k => (el k).1, fun k => (el k).2.1, rfl⟩
  obtain ⟨bl, bh, rfl⟩ : ∃ bl bh : Nat → Int, em = fun k => (bl k, bh k, ()) := ⟨fun k => (em k).1, fun k => (em k).2.1, rfl⟩
  have hpre : CelMax c ∧ n ≤ maxLen ∧ m ≤ maxLen := by have : CelMax (celOf (celD c)) ∧ n ≤ maxLen ∧ m ≤ maxLen := hpre; rwa [celOf_D] at this
  obtain ⟨hc, hn, hm⟩ := hpre
  unfold FnSat
  conv => arg 2; reduce
  simp [fbS, chkS, sprS, ElEq, getB, goneB, aliveB, and_assoc]
  exact ⟨hc, hn, hm, fun h => ⟨(okV_1 h).symm, (okV_1 h).symm⟩, fun h => ⟨(chkV_zero.1 h).1, (chkV_zero.1 h).2, (okV_0 h).symm, (okV_0 h).symm, h.symm⟩⟩
/-- an input box -/
@[irreducible] def inpB (n : Nat) (il ih : Nat → Int) : Bool := decide (n = 2) && insV (-1048576) (il 0) (ih 0) 1048576 && insV 0 (il 1) (ih 1) 400000
theorem inpB_iff {n : Nat} {il ih : Nat → Int} : inpB n il ih = true ↔ n = 2 ∧ insV (-1048576) (il 0) (ih 0) 1048576 = true ∧ insV 0 (il 1) (ih 1) 400000 = true := by unfold inpB; simp [and_assoc]
theorem inpB_no {n : Nat} {il ih : Nat → Int} (h : inpB n il ih = true → False) : inpB n il ih = false := by
  cases hb : inpB n il ih with
  | false => rfl
  | true => exact (h hb).elim
@[irreducible] def farB (x : Wid) (a b : Int) : Bool := decide (nbTH x a b ≤ 1099511627776) && decide (nbAH x ≤ 1099511627776)
theorem farB_iff {x : Wid} {a b : Int} : farB x a b = true ↔ nbTH x a b ≤ 1099511627776 ∧ nbAH x ≤ 1099511627776 := by unfold farB; simp
@[irreducible] def sbE (c : Cel) (n : Nat) (lo hi : Nat → Int) (m : Nat) (bl bh : Nat → Int) (p : Nat) (il ih : Nat → Int) : Int := orE (orE (chkV c n lo hi m bl bh) (inpB p il ih) 2) (farB (widV c lo hi m bl bh) (il 0) (ih 0)) 4
@[irreducible] def sbN (e : Int) : Nat := if e = 0 then 5 else 0
theorem farB_no {x : Wid} {a b : Int} (h : farB x a b = true → False) : farB x a b = false := by
  cases hb : farB x a b with
  | false => rfl
  | true => exact (h hb).elim
theorem sbN_0 {e : Int} (h : ¬ e = 0) : sbN e = 0 := by unfold sbN; rw [if_neg h]
theorem sbN_5 {e : Int} (h : e = 0) : sbN e = 5 := by unfold sbN; rw [if_pos h]
theorem sbE_1 {c : Cel} {n : Nat} {lo hi : Nat → Int} {m : Nat} {bl bh : Nat → Int} {p : Nat} {il ih : Nat → Int} (h : ¬ chkV c n lo hi m bl bh = 0) : sbE c n lo hi m bl bh p il ih = chkV c n lo hi m bl bh := by
  unfold sbE
  rw [orE_e (e := orE (chkV c n lo hi m bl bh) (inpB p il ih) 2) (by rw [orE_e h]; exact h), orE_e h]
theorem sbE_2 {c : Cel} {n : Nat} {lo hi : Nat → Int} {m : Nat} {bl bh : Nat → Int} {p : Nat} {il ih : Nat → Int} (h : chkV c n lo hi m bl bh = 0) (hb : inpB p il ih = false) : sbE c n lo hi m bl bh p il ih = 2 := by
  unfold sbE
  rw [orE_e (e := orE (chkV c n lo hi m bl bh) (inpB p il ih) 2) (by rw [orE_f h hb]; decide), orE_f h hb]
theorem sbE_4 {c : Cel} {n : Nat} {lo hi : Nat → Int} {m : Nat} {bl bh : Nat → Int} {p : Nat} {il ih : Nat → Int} (h : chkV c n lo hi m bl bh = 0) (hb : inpB p il ih = true) (hf : farB (widV c lo hi m bl bh) (il 0) (ih 0) = false) : sbE c n lo hi m bl bh p il ih = 4 := by
  unfold sbE
  rw [orE_f (orE_t h hb) hf]
theorem sbE_0 {c : Cel} {n : Nat} {lo hi : Nat → Int} {m : Nat} {bl bh : Nat → Int} {p : Nat} {il ih : Nat → Int} (h : chkV c n lo hi m bl bh = 0) (hb : inpB p il ih = true) (hf : farB (widV c lo hi m bl bh) (il 0) (ih 0) = true) : sbE c n lo hi m bl bh p il ih = 0 := by
  unfold sbE
  rw [orE_t (orE_t h hb) hf]
theorem sbE_iff {c : Cel} {n : Nat} {lo hi : Nat → Int} {m : Nat} {bl bh : Nat → Int} {p : Nat} {il ih : Nat → Int} : sbE c n lo hi m bl bh p il ih = 0 ↔ chkV c n lo hi m bl bh = 0 ∧ inpB p il ih = true ∧ farB (widV c lo hi m bl bh) (il 0) (ih 0) = true := by
  unfold sbE
  rw [orE_0 (by decide), orE_0 (by decide), and_assoc]
def sbS : Spec [celSh, spansSh, spansSh, spansSh] := ⟨fun (c, x, y, z, _) => CelMax (celOf c) ∧ x.1 ≤ maxLen ∧ y.1 ≤ maxLen ∧ z.1 ≤ maxLen,
  fun (c, (n, el), (m, em), (p, en), _) => .tup [.slc (.sym (sbN (sbE (celOf c) n (fun k => (el k).1) (fun k => (el k).2.1) m (fun k => (em k).1) (fun k => (em k).2.1) p (fun k => (en k).1) (fun k => (en k).2.1)))) 2
      (fun k => [.si .i64 (nbL (widV (celOf c) (fun k => (el k).1) (fun k => (el k).2.1) m (fun k => (em k).1) (fun k => (em k).2.1)) (en 0).1 (en 0).2.1 (en 1).1 (en 1).2.1 k), .si .i64 (nbH (widV (celOf c) (fun k => (el k).1) (fun k => (el k).2.1) m (fun k => (em k).1) (fun k => (em k).2.1)) (en 0).1 (en 0).2.1 (en 1).1 (en 1).2.1 k)]),
    .si .i64 (sbE (celOf c) n (fun k => (el k).1) (fun k => (el k).2.1) m (fun k => (em k).1) (fun k => (em k).2.1) p (fun k => (en k).1) (fun k => (en k).2.1))]⟩
set_option maxRecDepth 100000 in
set_option maxHeartbeats 4000000 in
theorem sb_ok : FnSpec Try.prog 52 _ sbS := by
  refine FnSpec.of SBp_ok mixed (U := 0) (I := fun _ => []) Try.func52 rfl (by kernel_rfl) rfl rfl (by decide +kernel) ?_
  rintro ⟨c, ⟨n, el⟩, ⟨m, em⟩, ⟨p, en⟩, ⟨⟩⟩ hpre
  obtain ⟨c, rfl⟩ := cel_ex c
  obtain ⟨lo, hi, rfl⟩ : ∃ lo hi : Nat → Int, el = fun k => (lo k, hi k, ()) := ⟨fun k => (el k).1, fun k => (el k).2.1, rfl⟩
  obtain ⟨bl, bh, rfl⟩ : ∃ bl bh : Nat → Int, em = fun k => (bl k, bh k, ()) := ⟨fun k => (em k).1, fun k => (em k).2.1, rfl⟩
  obtain ⟨il, ih, rfl⟩ : ∃ il ih : Nat → Int, en = fun k => (il k, ih k, ()) := ⟨fun k => (en k).1, fun k => (en k).2.1, rfl⟩
  have hpre : CelMax c ∧ n ≤ maxLen ∧ m ≤ maxLen ∧ p ≤ maxLen := by have : CelMax (celOf (celD c)) ∧ n ≤ maxLen ∧ m ≤ maxLen ∧ p ≤ maxLen := hpre; rwa [celOf_D] at this
  obtain ⟨hc, hn, hm, hp⟩ := hpre
  unfold FnSat
  conv => arg 2; reduce
  simp [sbS, chkS, insC, sprS, nxbS, ElEq, getB, goneB, aliveB, and_assoc]
  refine ⟨hc, hn, hm, fun h => ⟨sbN_0 (by rw [sbE_1 h]; exact h), (sbE_1 h).symm⟩, fun h => ⟨fun q => by omega, fun q _ => by omega, fun q => ?_, fun q1 q2 q3 => ?_⟩⟩
  · have hb : inpB p il ih = false := inpB_no fun hb => by
      obtain ⟨b1, b2, b3⟩ := inpB_iff.1 hb
      rcases q with (q | q) | q
      · omega
      · rw [b2] at q; cases q
      · rw [b3] at q; cases q
    exact ⟨sbN_0 (by rw [sbE_2 h hb]; decide), (sbE_2 h hb).symm⟩
  · have hb : inpB p il ih = true := inpB_iff.2 ⟨by omega, q2, q3⟩
    have e3 := (nb_3 (widV c lo hi m bl bh) (il 0) (ih 0) (il 1) (ih 1)).2
    have e4 := (nb_4 (widV c lo hi m bl bh) (il 0) (ih 0) (il 1) (ih 1)).2
    refine ⟨(chkV_zero.1 h).1, (chkV_zero.1 h).2, by omega, by omega, wid_of (chk_iff.1 h), q2, q3, fun k _ => rfl, fun q => ?_, fun r1 r2 => ?_⟩
    · have hf : farB (widV c lo hi m bl bh) (il 0) (ih 0) = false := farB_no fun hf => by
        obtain ⟨f1, f2⟩ := farB_iff.1 hf
        rcases q with q | q
        · have : 1099511627776 < nbH (widV c lo hi m bl bh) (il 0) (ih 0) (il 1) (ih 1) 3 := q
          omega
        · have : 1099511627776 < nbH (widV c lo hi m bl bh) (il 0) (ih 0) (il 1) (ih 1) 4 := q
          omega
      exact ⟨sbN_0 (by rw [sbE_4 h hb hf]; decide), (sbE_4 h hb hf).symm⟩
    · have r1 : nbH (widV c lo hi m bl bh) (il 0) (ih 0) (il 1) (ih 1) 3 ≤ 1099511627776 := r1
      have r2 : nbH (widV c lo hi m bl bh) (il 0) (ih 0) (il 1) (ih 1) 4 ≤ 1099511627776 := r2
      have hf : farB (widV c lo hi m bl bh) (il 0) (ih 0) = true := farB_iff.2 ⟨by omega, by omega⟩
      exact ⟨(sbN_5 (sbE_0 h hb hf)).symm, (sbE_0 h hb hf).symm⟩
def SBq : Sums := ⟨(52, mkSum _ sbS) :: (51, mkSum _ fbS) :: (50, mkSum _ vbS) :: SBp.one, SBp.two, SBp.lo, SBp.eqs, SBp.its, SBp.imm⟩
theorem SBq_ok : SumsOK Try.prog SBq := (((SBp_ok.cons Try.func50 (by kernel_rfl) (by kernel_rfl) vb_ok).cons Try.func51 (by kernel_rfl) (by kernel_rfl) fb_ok).cons Try.func52 (by kernel_rfl) (by kernel_rfl) sb_ok)
end
end Abs
end Go.Proofs.Ytghmkkdmpmmbhaa

/- Boxes of one point: lists of points, equal boxes; what a box of one point leads to. -/
namespace Go.Proofs.Ytghmkkdmpmmbhaa
namespace Abs
open Go Go.RowKit
noncomputable section
attribute [local irreducible] FnSat
def ptsS : SpecN [intsSh] := ⟨fun (x, _) => x.1 ≤ 4096, fun _ => .row 0, fun ((n, el), _) => [.row 81 2 (.sym n) (fun k => [.si .i64 (el k).1, .si .i64 (el k).1])]⟩
def ptsI : DatL [intsSh] → Anns := fun ((n, el), _) => [
  (3, [(3, 81, 2)], fun fr hp => ⟨Nat, fun g => ⟨frI [.k 4, .s (.si .i64 (icast g)), .t 19] fr, putRL hp (.sym g) (fun k => [.si .i64 (el k).1, .si .i64 (el k).1])⟩, Nat × Nat, fun g => (g, n), fun (g, n) => g ≤ n, fun g => nsub n g⟩)]
set_option maxRecDepth 100000 in
theorem pts_ok : FnSpecN Try.prog 54 _ ptsS := by
  refine FnSpecN.of SBq_ok mixed (U := 0) (I := ptsI) Try.func54 rfl (by kernel_rfl) rfl rfl (by decide +kernel) ?_
  rintro ⟨⟨n, el⟩, ⟨⟩⟩ (hn : n ≤ 4096)
  obtain ⟨v, rfl⟩ : ∃ v : Nat → Int, el = fun k => (v k, ()) := ⟨fun k => (el k).1, rfl⟩
  unfold FnSat
  conv => arg 2; reduce
  simp [ptsS, maxRow, ElEq, aliveB, goneB, getB, and_assoc]
  refine ⟨⟨0, rfl, rfl, fun j => by omega, by omega⟩, fun g hg => ⟨fun hlt => ?_, fun hge => by omega⟩⟩
  refine ⟨hlt, by omega, by omega, by omega, g + 1, by omega, rfl, fun j hj => app_one hj (fun _ => rfl) (fun h => ?_), by omega, by omega⟩
  subst h; rfl
@[irreducible] def smsV (n m : Nat) (a b c d : Nat → Int) : Bool := decide (n = m) && allN (fun k => decide (a k = c k) && decide (b k = d k)) n
theorem smsV_iff {n m : Nat} {a b c d : Nat → Int} : smsV n m a b c d = true ↔ n = m ∧ ∀ k, k < n → a k = c k ∧ b k = d k := by
  unfold smsV; rw [Bool.and_eq_true, decide_eq_true_eq, allN_iff]; simp
theorem smsV_no {n m : Nat} {a b c d : Nat → Int} (h : smsV n m a b c d = true → False) : smsV n m a b c d = false := by
  cases hb : smsV n m a b c d with
  | false => rfl
  | true => exact (h hb).elim
def smsS : Spec [spansSh, spansSh] := ⟨fun (x, y, _) => x.1 ≤ maxLen, fun ((n, f), (m, g), _) => .sb (smsV n m (fun k => (f k).1) (fun k => (f k).2.1) (fun k => (g k).1) (fun k => (g k).2.1))⟩
def smsI : DatL [spansSh, spansSh] → Anns := fun ((n, f), (m, g), _) =>
  [(4, [], fun fr hp => ⟨Nat, fun k => ⟨frI [.k 5, .s (.si .i64 (icast k)), .k 5, .t 15] fr, hp⟩, Nat × (Nat → Int × Int × Unit) × (Nat → Int × Int × Unit), fun k => (k, f, g), fun (k, f, g) => k ≤ n ∧ ∀ j, j < k → (f j).1 = (g j).1 ∧ (f j).2.1 = (g j).2.1, fun k => nsub n k⟩)]
set_option maxRecDepth 100000 in
theorem sms_ok : FnSpec Try.prog 55 _ smsS := by
  refine FnSpec.of SBq_ok mixed (U := 0) (I := smsI) Try.func55 rfl (by kernel_rfl) rfl rfl (by decide +kernel) ?_
  rintro ⟨⟨n, f⟩, ⟨m, g⟩, ⟨⟩⟩ (hn : n ≤ maxLen)
  obtain ⟨a, b, rfl⟩ : ∃ a b : Nat → Int, f = fun k => (a k, b k, ()) := ⟨fun k => (f k).1, fun k => (f k).2.1, rfl⟩
  obtain ⟨c, d, rfl⟩ : ∃ c d : Nat → Int, g = fun k => (c k, d k, ()) := ⟨fun k => (g k).1, fun k => (g k).2.1, rfl⟩
  unfold FnSat
  conv => arg 2; reduce
  unfold maxLen at hn
  simp [smsS, and_assoc]
  refine ⟨fun h => smsV_no fun hs => h (by have := (smsV_iff.1 hs).1; omega), fun h => ⟨⟨0, rfl, by omega, fun j hj => by omega⟩, fun k hk hall => ⟨fun h1 => ⟨h1, by omega, fun h2 => smsV_no fun hs => ?_, fun h2 h3 => ⟨by omega, by omega, k + 1, by omega, by omega, fun j hj => ?_, by omega⟩⟩, fun h1 => ?_⟩⟩⟩
  · have := (smsV_iff.1 hs).2 k h1
    rcases h2 with h2 | h2
    · exact h2 this.1
    · exact h2 this.2
  · by_cases hj' : j < k
    · exact hall j hj'
    · obtain rfl : j = k := by omega
      exact ⟨h2, h3⟩
  · exact smsV_iff.2 ⟨by omega, fun j hj => hall j (by omega)⟩
def SPo : Sums := ⟨(55, mkSum _ smsS) :: (54, mkSumN _ ptsS) :: SBq.one, SBq.two, SBq.lo, SBq.eqs, SBq.its, SBq.imm⟩
theorem SPo_ok : SumsOK Try.prog SPo := ((SBq_ok.add Try.func54 (by kernel_rfl) (by kernel_rfl) (mkSumN_ok pts_ok)).cons Try.func55 (by kernel_rfl) (by kernel_rfl) sms_ok)
-- literal rows, element by element
@[irreducible] def sel2 (i a : Int) (k : Nat) : Int := match k with | 0 => i | 1 => a | _ => 0
theorem sel2_0 (i a : Int) : sel2 i a 0 = i := by unfold sel2; rfl
theorem sel2_1 (i a : Int) : sel2 i a 1 = a := by unfold sel2; rfl
theorem dec_row2 (i a : Int) (k : Nat) : (decL [.int .i64] (rowAt 1 [.si .i64 i, .si .i64 a] k)).1 = sel2 i a k := by
  unfold sel2
  match k with
  | 0 => rfl
  | 1 => rfl
  | n + 2 =>
    show (decL [.int .i64] (rowAt 1 [] n)).1 = 0
    induction n with
    | zero => rfl
    | succ n ih => exact ih
theorem can_row2 (i a : Int) (k : Nat) (hk : k < 2) : CanL [.int .i64] (rowAt 1 [.si .i64 i, .si .i64 a] k) := by
  match k, hk with
  | 0, _ => simp [rowAt, takeL, dropL]
  | 1, _ => simp [rowAt, takeL, dropL]
theorem decL_cons (s : Sh) (l : List Sh) (a : AV) (m : List AV) : decL (s :: l) (a :: m) = (dec s a, decL l m) := rfl
theorem dec_int (q q' : IntKind) (n : Int) : dec (.int q) (.si q' n) = n := rfl
theorem dec_inl (q q' : IntKind) (n : Int) : dec (.int q) (.li q' n) = n := rfl
-- boxes of one point
theorem mvC_zero (c : Cel) : mvC c (fun _ => 0) = c := by
  unfold mvC
  simp only [Int.add_zero]
  unfold Cel.cap Cel.ocv Cel.shift Cel.cold Cel.extra Cel.pair Cel.keep Cel.leak Cel.hcap Cel.cool Cel.stress Cel.cyc Cel.agel Cel.grow
  rfl
@[irreducible] def stV (s : Sta) : Nat → Int := sel5 s.q s.rx s.tp s.th s.ag
theorem stV_n (s : Sta) : stV s 0 = s.q ∧ stV s 1 = s.rx ∧ stV s 2 = s.tp ∧ stV s 3 = s.th ∧ stV s 4 = s.ag := by unfold stV; simp
theorem sel5_st (s : Sta) (k : Nat) : sel5 s.q s.rx s.tp s.th s.ag k = stV s k := by unfold stV; rfl
theorem pt_box {c : Cel} {s : Sta} (h : celB c = true) (hs : StOK c s) : BoxOK (stV s) (stV s) := by
  obtain ⟨e0, e1, e2, e3, e4⟩ := stV_n s
  have k := kV_in h hs
  have q := q_in hs
  have := hs.t0
  have := hs.t1
  have := hs.h0
  have := hs.h1
  have := hs.a0
  have := hs.a1
  have := hs.r0
  have := hs.r1
  constructor <;> omega
theorem pt_chk {c : Cel} {s : Sta} (h : celB c = true) (hs : StOK c s) : ChkOK c 7 (fun _ => 0) (fun _ => 0) 5 (stV s) (stV s) :=
  ⟨h, rfl, rfl, by rw [mvC_zero]; exact h, by rw [mvC_zero]; exact h, fun _ _ => spanOK_iff.2 (by omega), pt_box h hs⟩
@[irreducible] def ptW (c : Cel) (s : Sta) : Wid := widV c (fun _ => 0) (fun _ => 0) 5 (stV s) (stV s)
theorem ptW_n (c : Cel) (s : Sta) : (ptW c s).lo = c ∧ (ptW c s).hi = c ∧ (ptW c s).bl = stV s ∧ (ptW c s).bh = stV s ∧ (ptW c s).fl = fillV c s ∧ (ptW c s).fh = fillV c s ∧ (ptW c s).rl = rV c s ∧ (ptW c s).rh = rV c s := by
  obtain ⟨e0, e1, e2, e3, e4⟩ := stV_n s
  unfold ptW
  rw [widV_lo, widV_hi, widV_bl, widV_bh, widV_fl, widV_fh, widV_rl, widV_rh, mvC_zero]
  have ew : wdWL c (stV s) = wV c s := by unfold wdWL wV; rw [e3, e4]
  refine ⟨rfl, rfl, rfl, rfl, ?_, ?_, ?_, ?_⟩
  · unfold wdFL fillV kV; rw [mvC_zero, ew, e0]
  · unfold wdFH fillV kV; rw [mvC_zero, ew, e0]
  · unfold wdRL rV; rw [mvC_zero, ew, e2]
  · unfold wdRH rV; rw [mvC_zero, ew, e2]
theorem pr_one (i r : Int) : prL i i r r = i * r ∧ prH i i r r = i * r := by unfold prL prH; omega
theorem sq_one (i : Int) : sqL i i = i * i ∧ sqH i i = i * i := by
  unfold sqL sqH
  constructor
  · split
    · have : i = 0 := by omega
      subst this; rfl
    · omega
  · omega
theorem pt_volt (c : Cel) (s : Sta) (i : Int) : wvL (ptW c s) i i = voltV c s i ∧ wvH (ptW c s) i i = voltV c s i := by
  obtain ⟨e0, e1, e2, e3, e4⟩ := stV_n s
  obtain ⟨f1, f2, f3, f4, f5, f6, f7, f8⟩ := ptW_n c s
  unfold wvL wvH voltV opnV
  rw [f1, f2, f3, f4, f5, f6, f7, f8, e1, (pr_one i (rV c s)).1, (pr_one i (rV c s)).2]
  exact ⟨rfl, rfl⟩
theorem pt_heat (c : Cel) (s : Sta) (i : Int) : whL (ptW c s) i i = heatV c s i ∧ whH (ptW c s) i i = heatV c s i := by
  obtain ⟨e0, e1, e2, e3, e4⟩ := stV_n s
  obtain ⟨f1, f2, f3, f4, f5, f6, f7, f8⟩ := ptW_n c s
  unfold whL whH heatV
  rw [f1, f2, f3, f4, f7, f8, e1, (sq_one i).1, (sq_one i).2, (sq_one s.rx).1, (sq_one s.rx).2]
  refine ⟨rfl, ?_⟩
  by_cases hp : 0 < c.pair
  · rw [if_pos hp, if_pos hp, show max 1 c.pair = c.pair by omega]
  · rw [if_neg hp, if_neg hp]
theorem pt_temp (c : Cel) (s : Sta) (i a : Int) : wtL (ptW c s) i i a a = nxT c s i a ∧ wtH (ptW c s) i i a a = nxT c s i a := by
  obtain ⟨e0, e1, e2, e3, e4⟩ := stV_n s
  obtain ⟨f1, f2, f3, f4, f5, f6, f7, f8⟩ := ptW_n c s
  obtain ⟨g1, g2⟩ := pt_heat c s i
  unfold wtL wtH nxT
  rw [g1, g2, f1, f2, f3, f4, e2]
  constructor
  · congr 2; omega
  · congr 2; omega
theorem pt_next (c : Cel) (s : Sta) (i a : Int) (k : Nat) (hk : k < 5) :
    nbL (ptW c s) i i a a k = stV ⟨nxQ c s i, nxR c s i, nxT c s i a, nxH s i, nxA c s⟩ k ∧ nbH (ptW c s) i i a a k = stV ⟨nxQ c s i, nxR c s i, nxT c s i a, nxH s i, nxA c s⟩ k := by
  obtain ⟨e0, e1, e2, e3, e4⟩ := stV_n s
  obtain ⟨f1, f2, f3, f4, f5, f6, f7, f8⟩ := ptW_n c s
  obtain ⟨g0, g1, g2, g3, g4⟩ := stV_n ⟨nxQ c s i, nxR c s i, nxT c s i a, nxH s i, nxA c s⟩
  simp only [Sta.q_mk, Sta.rx_mk, Sta.tp_mk, Sta.th_mk, Sta.ag_mk] at g0 g1 g2 g3 g4
  have hH : nbTL (ptW c s) i i = nxH s i ∧ nbTH (ptW c s) i i = nxH s i := by
    unfold nbTL nbTH nxH
    rw [f3, f4, e3]
    constructor
    · congr 1; omega
    · rfl
  have hA : nbAL (ptW c s) = nxA c s ∧ nbAH (ptW c s) = nxA c s := by
    unfold nbAL nbAH nxA
    rw [f1, f3, f4, e4, e2]
    exact ⟨rfl, rfl⟩
  match k, hk with
  | 0, _ =>
    rw [(nb_0 _ _ _ _ _).1, (nb_0 _ _ _ _ _).2, g0]
    unfold nbQL nbQH nxQ
    rw [hH.1, hH.2, hA.1, hA.2, f1, f2, f3, f4, e0]
    exact ⟨rfl, rfl⟩
  | 1, _ =>
    rw [(nb_1 _ _ _ _ _).1, (nb_1 _ _ _ _ _).2, g1]
    unfold nbRL nbRH nxR
    rw [f1, f2, f3, f4, e1, (pr_one i c.pair).1, (pr_one i c.pair).2]
    exact ⟨rfl, rfl⟩
  | 2, _ => rw [(nb_2 _ _ _ _ _).1, (nb_2 _ _ _ _ _).2, g2]; exact pt_temp c s i a
  | 3, _ => rw [(nb_3 _ _ _ _ _).1, (nb_3 _ _ _ _ _).2, g3]; exact hH
  | 4, _ => rw [(nb_4 _ _ _ _ _).1, (nb_4 _ _ _ _ _).2, g4]; exact hA
theorem pt_sbE {c : Cel} {s : Sta} {i a : Int} (h : csE c s = 0) (p q : Nat → Int) (p0 : p 0 = i) (q0 : q 0 = i) (p1 : p 1 = a) (q1 : q 1 = a) :
    sbE c 7 (fun _ => 0) (fun _ => 0) 5 (stV s) (stV s) 2 p q = 0 ↔ stAE c s i a = 0 := by
  obtain ⟨hc, hs⟩ := csE_iff.1 h
  rw [sbE_iff, (stA_iff h).1]
  have e1 : chkV c 7 (fun _ => 0) (fun _ => 0) 5 (stV s) (stV s) = 0 := chk_iff.2 (pt_chk hc hs)
  have e2 : inpB 2 p q = true ↔ inB i a = true := by
    rw [inpB_iff, p0, q0, p1, q1, insV_iff, insV_iff, inB_iff]
    constructor
    · rintro ⟨-, ⟨a1, -, a2⟩, b1, -, b2⟩; exact ⟨⟨a1, a2⟩, b1, b2⟩
    · rintro ⟨⟨a1, a2⟩, b1, b2⟩; exact ⟨rfl, ⟨a1, Int.le_refl _, a2⟩, b1, Int.le_refl _, b2⟩
  have e3 : farB (widV c (fun _ => 0) (fun _ => 0) 5 (stV s) (stV s)) (p 0) (q 0) = true ↔ ovr c s i = false := by
    have w : widV c (fun _ => 0) (fun _ => 0) 5 (stV s) (stV s) = ptW c s := by unfold ptW; rfl
    have n3 := (pt_next c s i a 3 (by decide)).2
    have n4 := (pt_next c s i a 4 (by decide)).2
    obtain ⟨g0, g1, g2, g3, g4⟩ := stV_n ⟨nxQ c s i, nxR c s i, nxT c s i a, nxH s i, nxA c s⟩
    rw [(nb_3 _ _ _ _ _).2, g3, Sta.th_mk] at n3
    rw [(nb_4 _ _ _ _ _).2, g4, Sta.ag_mk] at n4
    rw [farB_iff, w, p0, q0, n3, n4]
    unfold ovr
    simp
  rw [e1, e2, e3]
  simp
end
end Abs
end Go.Proofs.Ytghmkkdmpmmbhaa

/- Tolerances and boxes by the document; numbers chosen in boxes, parts of boxes. -/
namespace Go.Proofs.Ytghmkkdmpmmbhaa
namespace Abs
open Go Go.RowKit
noncomputable section
attribute [local irreducible] FnSat
set_option maxRecDepth 100000 in
theorem rqy_ok : FnSpec Try.prog 93 _ isS := by
  refine FnSpec.of SPo_ok mixed (U := 0) (I := fun _ => []) Try.func93 rfl (by kernel_rfl) rfl rfl (by decide +kernel) ?_
  rintro ⟨(x : Int), ⟨⟩⟩ -
  unfold FnSat
  conv => arg 2; reduce
  simp [isS, betS, isQ]
def SUa : Sums := ⟨(93, mkSum _ isS) :: SPo.one, SPo.two, SPo.lo, SPo.eqs, SPo.its, SPo.imm⟩
theorem SUa_ok : SumsOK Try.prog SUa := (SPo_ok.cons Try.func93 (by kernel_rfl) (by kernel_rfl) rqy_ok)
def rspI : DatL [spansSh, .int .i64] → Anns := fun ((n, el), (m : Int), _) => [
  (4, [], fun fr hp => ⟨Nat, fun g => ⟨frI [.k 5, .s (.si .i64 (icast g)), .k 4, .t 3, .t 31] fr, hp⟩, Nat × Nat × (Nat → Int) × (Nat → Int), fun g => (g, n, (fun k => (el k).1), (fun k => (el k).2.1)), fun (g, n, lo, hi) => g ≤ n ∧ ∀ k, k < g → spanOK (lo k) (hi k) = true, fun g => nsub n g⟩)]
set_option maxRecDepth 100000 in
theorem rsp_ok : FnSpec Try.prog 98 _ vldS := by
  refine FnSpec.of SUa_ok mixed (U := 0) (I := rspI) Try.func98 rfl (by kernel_rfl) rfl rfl (by decide +kernel) ?_
  rintro ⟨⟨n, el⟩, (m : Int), ⟨⟩⟩ (hn : n ≤ maxLen)
  obtain ⟨lo, hi, rfl⟩ : ∃ lo hi : Nat → Int, el = fun k => (lo k, hi k, ()) := ⟨fun k => (el k).1, fun k => (el k).2.1, rfl⟩
  unfold FnSat
  conv => arg 2; reduce
  unfold maxLen at hn
  simp [vldS, isS, and_assoc]
  have no : (vldB n lo hi m = true → False) → vldB n lo hi m = false := fun h => by cases hb : vldB n lo hi m with | false => rfl | true => exact (h hb).elim
  refine ⟨fun h => no fun hb => h (vldB_iff.1 hb).1, fun h => ⟨⟨0, rfl, by omega, fun k hk => by omega⟩, fun g hg hf => ⟨fun hlt => ⟨by omega, fun _ => by omega, fun _ _ => by omega, fun hb => no fun hv => ?_, fun b1 b2 b3 => ⟨by omega, by omega, g + 1, by omega, by omega, fun k hk => ?_, by omega⟩⟩, fun hge => vldB_iff.2 ⟨h, fun k hk => hf k (by omega)⟩⟩⟩⟩
  · have := (vldB_iff.1 hv).2 g (by omega)
    unfold spanOK at this
    rw [Bool.and_eq_true, Bool.and_eq_true, decide_eq_true_eq] at this
    rcases hb with (q | q) | q
    · rw [this.1.1] at q; cases q
    · rw [this.1.2] at q; cases q
    · omega
  · by_cases h' : k < g
    · exact hf k h'
    · obtain rfl : k = g := by omega
      unfold spanOK
      rw [b1, b2]
      simp [b3]
def renS : Spec [spansSh] := ⟨fun (x, _) => x.1 ≤ 4096, fun ((n, el), _) => .tup [.slc (.sym n) 1 (fun k => [.si .i64 (el k).1]), .slc (.sym n) 1 (fun k => [.si .i64 (el k).2.1])]⟩
def renI : DatL [spansSh] → Anns := fun ((n, el), _) => [
  (3, [(4, 2, 1), (5, 2, 1)], fun fr hp => ⟨Nat, fun g => ⟨frI [.k 6, .s (.si .i64 (icast g)), .t 24] fr, putR (putR hp 0 (.sym g) (fun k => [.si .i64 (el k).1])) 1 (.sym g) (fun k => [.si .i64 (el k).2.1])⟩, Nat × Nat, fun g => (g, n), fun (g, n) => g ≤ n, fun g => nsub n g⟩)]
set_option maxRecDepth 100000 in
theorem ren_ok : FnSpec Try.prog 99 _ renS := by
  refine FnSpec.of SUa_ok mixed (U := 0) (I := renI) Try.func99 rfl (by kernel_rfl) rfl rfl (by decide +kernel) ?_
  rintro ⟨⟨n, el⟩, ⟨⟩⟩ (hn : n ≤ 4096)
  obtain ⟨lo, hi, rfl⟩ : ∃ lo hi : Nat → Int, el = fun k => (lo k, hi k, ()) := ⟨fun k => (el k).1, fun k => (el k).2.1, rfl⟩
  unfold FnSat
  conv => arg 2; reduce
  simp [renS, maxRow, ElEq, aliveB, goneB, getB, and_assoc]
  refine ⟨⟨0, rfl, rfl, fun j => by omega, rfl, fun j => by omega, by omega⟩, fun g hg => ⟨fun hlt => ⟨hlt, by omega, hlt, by omega, by omega, by omega, g + 1, by omega, rfl, fun j hj => app_one hj (fun _ => rfl) (fun h => ?_), rfl, fun j hj => app_one hj (fun _ => rfl) (fun h => ?_), by omega, by omega⟩, fun hge => by omega⟩⟩
  · subst h; rfl
  · subst h; rfl
def rplS : Spec [celSh, intsSh] := ⟨fun (c, (n, el), _) => celB (celOf c) = true ∧ n = 7 ∧ ofsB (fun k => (el k).1), fun (c, (_, el), _) => mvA (celOf c) (fun k => (el k).1)⟩
set_option maxRecDepth 100000 in
set_option maxHeartbeats 4000000 in
theorem rpl_ok : FnSpec Try.prog 94 _ rplS := by
  refine FnSpec.of SUa_ok mixed (U := 0) (I := fun _ => []) Try.func94 rfl (by kernel_rfl) rfl rfl (by decide +kernel) ?_
  rintro ⟨c, ⟨n, el⟩, ⟨⟩⟩ hpre
  obtain ⟨c, rfl⟩ := cel_ex c
  obtain ⟨lo, rfl⟩ : ∃ lo : Nat → Int, el = fun k => (lo k, ()) := ⟨fun k => (el k).1, rfl⟩
  have hpre : celB c = true ∧ n = 7 ∧ ofsB lo := by have : celB (celOf (celD c)) = true ∧ n = 7 ∧ ofsB lo := hpre; rwa [celOf_D] at this
  obtain ⟨hc, rfl, ho⟩ := hpre
  unfold FnSat
  conv => arg 2; reduce
  simp [rplS, ElEq, getB, goneB, aliveB, and_assoc]
  have hk := celB_iff.1 hc
  unfold ofsB at ho
  have a0 := ho 0 (by decide)
  have a1 := ho 1 (by decide)
  have a2 := ho 2 (by decide)
  have a3 := ho 3 (by decide)
  have a4 := ho 4 (by decide)
  have a5 := ho 5 (by decide)
  have a6 := ho 6 (by decide)
  have := hk.cap0
  have := hk.cap1
  have := hk.sh0
  have := hk.sh1
  have := hk.ex0
  have := hk.ex1
  have := hk.pr0
  have := hk.pr1
  have := hk.lk0
  have := hk.lk1
  have := hk.hc0
  have := hk.hc1
  have := hk.co0
  have := hk.co1
  omega
set_option maxRecDepth 100000 in
theorem rin_ok2 : FnSpec Try.prog 135 _ insC := by
  refine FnSpec.of SUa_ok mixed (U := 0) (I := fun _ => []) Try.func135 rfl (by kernel_rfl) rfl rfl (by decide +kernel) ?_
  rintro ⟨⟨(l : Int), (h : Int), ⟨⟩⟩, (a : Int), (b : Int), ⟨⟩⟩ -
  unfold FnSat
  conv => arg 2; reduce
  simp [insC]
  rw [Bool.eq_iff_iff, insV_iff]
  simp
  omega
-- numbers chosen
@[irreducible] def chV (lo hi x : Int) : Int := if x = 1 then hi else lo + x % (hi - lo + 1)
theorem chV_in {lo hi x : Int} (h : lo ≤ hi) : lo ≤ chV lo hi x ∧ chV lo hi x ≤ hi := by
  unfold chV
  split
  · omega
  · have h1 := Int.emod_nonneg x (show hi - lo + 1 ≠ 0 by omega)
    have h2 := Int.emod_lt_of_pos x (show 0 < hi - lo + 1 by omega)
    omega
@[irreducible] def pkV (n : Nat) (p : Nat → Int) (i : Nat) : Int := if i < n then p i else 0
@[reducible] def pkSh : Sh := .slice 1 [.int .u64]
def pksOK (n : Nat) (p : Nat → Int) : Prop := n ≤ maxLen ∧ ∀ k, k < n → 0 ≤ p k ∧ p k ≤ 18446744073709551615
theorem pkV_in {n : Nat} {p : Nat → Int} (h : pksOK n p) (i : Nat) : 0 ≤ pkV n p i ∧ pkV n p i ≤ 18446744073709551615 := by
  unfold pkV
  split
  · exact h.2 i (by assumption)
  · omega
def linS : Spec [spanSh, .int .u64] := ⟨fun (((lo : Int), (hi : Int), _), (x : Int), _) => spanOK lo hi = true ∧ 0 ≤ x ∧ x ≤ 18446744073709551615 ∧ ¬ x = 1, fun (((lo : Int), (hi : Int), _), (x : Int), _) => .si .i64 (chV lo hi x)⟩
set_option maxRecDepth 100000 in
theorem lin_ok : FnSpec Try.prog 136 _ linS := by
  refine FnSpec.of SUa_ok mixed (U := 0) (I := fun _ => []) Try.func136 rfl (by kernel_rfl) rfl rfl (by decide +kernel) ?_
  rintro ⟨⟨(lo : Int), (hi : Int), ⟨⟩⟩, (x : Int), ⟨⟩⟩ ⟨hs, (x0 : 0 ≤ x), (x1 : x ≤ 18446744073709551615), hx⟩
  unfold FnSat
  conv => arg 2; reduce
  simp [linS, and_assoc]
  have hs := spanOK_iff.1 hs
  have ew : IntKind.u64.wrap (hi - lo + 1) = hi - lo + 1 := wrap_u64 (by omega) (by omega)
  have e2 : x.tmod (hi - lo + 1) = x % (hi - lo + 1) := Int.tmod_eq_emod_of_nonneg x0
  have h1 := Int.emod_nonneg x (show hi - lo + 1 ≠ 0 by omega)
  have h2 := Int.emod_lt_of_pos x (show 0 < hi - lo + 1 by omega)
  rw [ew, e2]
  exact ⟨by omega, by omega, by omega, by omega, by omega, by omega, by omega, by omega, by omega, by unfold chV; rw [if_neg hx]⟩
def SUb : Sums := ⟨(136, mkSum _ linS) :: (135, mkSum _ insC) :: (94, mkSum _ rplS) :: (99, mkSum _ renS) :: (98, mkSum _ vldS) :: SUa.one, SUa.two, SUa.lo, SUa.eqs, SUa.its, SUa.imm⟩
theorem SUb_ok : SumsOK Try.prog SUb := (((((SUa_ok.cons Try.func98 (by kernel_rfl) (by kernel_rfl) rsp_ok).cons Try.func99 (by kernel_rfl) (by kernel_rfl) ren_ok).cons Try.func94 (by kernel_rfl) (by kernel_rfl) rpl_ok).cons Try.func135 (by kernel_rfl) (by kernel_rfl) rin_ok2).cons Try.func136 (by kernel_rfl) (by kernel_rfl) lin_ok)
set_option maxRecDepth 100000 in
set_option maxHeartbeats 2000000 in
theorem rps_ok : FnSpec Try.prog 42 _ posS := by
  refine FnSpec.of SUb_ok mixed (U := 0) (I := fun _ => []) Try.func42 rfl (by kernel_rfl) rfl rfl (by decide +kernel) ?_
  rintro ⟨c, ⟨n, el⟩, ⟨⟩⟩ hpre
  obtain ⟨c, rfl⟩ := cel_ex c
  obtain ⟨lo, hi, rfl⟩ : ∃ lo hi : Nat → Int, el = fun k => (lo k, hi k, ()) := ⟨fun k => (el k).1, fun k => (el k).2.1, rfl⟩
  have hpre : CelMax c ∧ n ≤ maxLen := by have : CelMax (celOf (celD c)) ∧ n ≤ maxLen := hpre; rwa [celOf_D] at this
  obtain ⟨hc, hn⟩ := hpre
  unfold FnSat
  conv => arg 2; reduce
  simp [posS, ccheckS, vldS, renS, rplS, celOf_mv, and_assoc]
  refine ⟨hc, fun _ => hn, fun h => (posV_arg ?_).symm, fun h1 h2 => ⟨?_, h1, (vldB_ofs h2).1, (vldB_ofs h2).2.1, mvM hc lo, fun _ => ⟨h1, (vldB_ofs h2).1, (vldB_ofs h2).2.2⟩, fun _ => mvM hc hi, fun h => (posV_rng h1 h2 ?_).symm, fun h3 h4 => (posV_ok h1 h2 h3 h4).symm⟩⟩
  · rcases h with h | h
    · rw [h]; rfl
    · rw [h, Bool.and_false]
  · have := (vldB_ofs h2).1
    omega
  · rcases h with h | h
    · rw [show celB (mvC c fun k => lo k) = false from h]; rfl
    · rw [show celB (mvC c fun k => hi k) = false from h, Bool.and_false]
def sbxS : Spec [spansSh] := ⟨fun _ => True, fun ((m, em), _) => .si .i64 (errA (boxB m (fun k => (em k).1) (fun k => (em k).2.1)))⟩
set_option maxRecDepth 100000 in
theorem rsb_ok : FnSpec Try.prog 102 _ sbxS := by
  refine FnSpec.of SUb_ok mixed (U := 0) (I := fun _ => []) Try.func102 rfl (by kernel_rfl) rfl rfl (by decide +kernel) ?_
  rintro ⟨⟨m, em⟩, ⟨⟩⟩ -
  obtain ⟨bl, bh, rfl⟩ : ∃ bl bh : Nat → Int, em = fun k => (bl k, bh k, ()) := ⟨fun k => (em k).1, fun k => (em k).2.1, rfl⟩
  unfold FnSat
  conv => arg 2; reduce
  simp [sbxS, insC, and_assoc]
  refine ⟨fun h => by omega, fun h _ => by omega, fun h _ _ => by omega, fun h _ _ _ => by omega, fun h _ _ _ _ => by omega, fun q => ?_, fun q q0 q1 q2 q3 q4 => ?_⟩
  · have hb : boxB m bl bh = false := boxB_no fun hb => by
      obtain ⟨b0, b1, b2, b3, b4, b5⟩ := boxB_iff.1 hb
      rcases q with ((((q | q) | q) | q) | q) | q
      · omega
      · rw [b1] at q; cases q
      · rw [b2] at q; cases q
      · rw [b3] at q; cases q
      · rw [b4] at q; cases q
      · rw [b5] at q; cases q
    rw [show (boxB m (fun k => bl k) fun k => bh k) = false from hb]
    exact errA_false.symm
  · have hb : boxB m bl bh = true := boxB_iff.2 ⟨by omega, q0, q1, q2, q3, q4⟩
    rw [show (boxB m (fun k => bl k) fun k => bh k) = true from hb]
    exact errA_true.symm
-- numbers chosen in a box
def chnS : Spec [spansSh, pkSh] := ⟨fun (x, y, _) => x.1 ≤ 4096 ∧ (∀ k, k < x.1 → spanOK (x.2 k).1 (x.2 k).2.1 = true) ∧ pksOK y.1 (fun k => (y.2 k).1), fun ((n, el), (m, em), _) => .slc (.sym n) 1 (fun k => [.si .i64 (chV (el k).1 (el k).2.1 (pkV m (fun j => (em j).1) k))])⟩
def chnI : DatL [spansSh, pkSh] → Anns := fun ((n, el), (m, em), _) => [
  (3, [(5, 2, 1)], fun fr hp => ⟨Nat, fun g => ⟨frI [.k 6, .s (.si .i64 (icast g)), .t 35] fr, putRL hp (.sym g) (fun k => [.si .i64 (chV (el k).1 (el k).2.1 (pkV m (fun j => (em j).1) k))])⟩, Nat × Nat, fun g => (g, n), fun (g, n) => g ≤ n, fun g => nsub n g⟩)]
set_option maxRecDepth 100000 in
theorem chn_ok : FnSpec Try.prog 103 _ chnS := by
  refine FnSpec.of SUb_ok mixed (U := 0) (I := chnI) Try.func103 rfl (by kernel_rfl) rfl rfl (by decide +kernel) ?_
  rintro ⟨⟨n, el⟩, ⟨m, em⟩, ⟨⟩⟩ hpre
  obtain ⟨lo, hi, rfl⟩ : ∃ lo hi : Nat → Int, el = fun k => (lo k, hi k, ()) := ⟨fun k => (el k).1, fun k => (el k).2.1, rfl⟩
  obtain ⟨p, rfl⟩ : ∃ p : Nat → Int, em = fun k => (p k, ()) := ⟨fun k => (em k).1, rfl⟩
  have hpre : n ≤ 4096 ∧ (∀ k, k < n → spanOK (lo k) (hi k) = true) ∧ pksOK m p := hpre
  obtain ⟨hn, hs, hp⟩ := hpre
  unfold FnSat
  conv => arg 2; reduce
  simp [chnS, linS, maxRow, ElEq, aliveB, goneB, getB, and_assoc]
  refine ⟨⟨0, rfl, rfl, fun j => by omega, by omega⟩, fun g hg => ⟨fun hlt => ⟨fun hm => ⟨hm, fun h1 => ⟨hlt, by omega, by omega, by omega, g + 1, by omega, rfl, fun j hj => app_one hj (fun _ => rfl) (fun h => ?_), by omega, by omega⟩, fun h1 => ⟨hlt, hs g hlt, (hp.2 g hm).1, (hp.2 g hm).2, h1, by omega, by omega, by omega, g + 1, by omega, rfl, fun j hj => app_one hj (fun _ => rfl) (fun h => ?_), by omega, by omega⟩⟩,
    fun hm => ⟨hlt, hs g hlt, by omega, by omega, by omega, g + 1, by omega, rfl, fun j hj => app_one hj (fun _ => rfl) (fun h => ?_), by omega, by omega⟩⟩, fun hge => by omega⟩⟩
  · subst h
    have : chV (lo j) (hi j) (pkV m (fun j => p j) j) = hi j := by unfold chV pkV; rw [if_pos hm, if_pos h1]
    rw [this]; rfl
  · subst h
    have : chV (lo j) (hi j) (pkV m (fun j => p j) j) = chV (lo j) (hi j) (p j) := by unfold pkV; rw [if_pos hm]
    rw [this]; rfl
  · subst h
    have : chV (lo j) (hi j) (pkV m (fun j => p j) j) = chV (lo j) (hi j) 0 := by unfold pkV; rw [if_neg (by omega)]
    rw [this]; rfl
@[irreducible] def rsN (n : Nat) (a : Int) : Nat := n - (min a (n : Int)).toNat
@[irreducible] def rsP (n : Nat) (a : Int) (p : Nat → Int) (k : Nat) : Int := p ((min a (n : Int)).toNat + k)
theorem rs_ok {n : Nat} {a : Int} {p : Nat → Int} (h : pksOK n p) (ha : 0 ≤ a) : pksOK (rsN n a) (rsP n a p) := by
  refine ⟨?_, fun k hk => ?_⟩
  · have := h.1
    unfold rsN; omega
  · unfold rsP
    unfold rsN at hk
    exact h.2 _ (by omega)
def rstS : Spec [pkSh, .int .i64] := ⟨fun (x, (a : Int), _) => x.1 ≤ maxLen ∧ 0 ≤ a, fun ((n, el), (a : Int), _) => .slc (.sym (rsN n a)) 1 (fun k => [.si .u64 (rsP n a (fun j => (el j).1) k)])⟩
set_option maxRecDepth 100000 in
theorem rst_ok : FnSpec Try.prog 49 _ rstS := by
  refine FnSpec.of SUb_ok mixed (U := 0) (I := fun _ => []) Try.func49 rfl (by kernel_rfl) rfl rfl (by decide +kernel) ?_
  rintro ⟨⟨n, el⟩, (a : Int), ⟨⟩⟩ ⟨(hn : n ≤ maxLen), (ha : 0 ≤ a)⟩
  obtain ⟨p, rfl⟩ : ∃ p : Nat → Int, el = fun k => (p k, ()) := ⟨fun k => (el k).1, rfl⟩
  unfold FnSat
  conv => arg 2; reduce
  simp [rstS, ElEq, and_assoc]
  refine ⟨by omega, by omega, by unfold rsN; rfl, fun j hj => by unfold rsP; rfl⟩
def witI : DatL [spansSh, spansSh] → Anns := fun ((n, f), (m, g), _) =>
  [(4, [], fun fr hp => ⟨Nat, fun k => ⟨frI [.k 5, .s (.si .i64 (icast k)), .k 5, .t 30] fr, hp⟩, Nat × (Nat → Int × Int × Unit) × (Nat → Int × Int × Unit), fun k => (k, f, g), fun (k, f, g) => k ≤ n ∧ ∀ j, j < k → (g j).1 ≤ (f j).1 ∧ (f j).2.1 ≤ (g j).2.1, fun k => nsub n k⟩)]
@[irreducible] def witB (n m : Nat) (a b c d : Nat → Int) : Bool := decide (n = m) && allN (fun k => decide (c k ≤ a k) && decide (b k ≤ d k)) n
theorem witB_iff {n m : Nat} {a b c d : Nat → Int} : witB n m a b c d = true ↔ n = m ∧ ∀ k, k < n → c k ≤ a k ∧ b k ≤ d k := by
  unfold witB; rw [Bool.and_eq_true, decide_eq_true_eq, allN_iff]; simp
theorem witB_no {n m : Nat} {a b c d : Nat → Int} (h : witB n m a b c d = true → False) : witB n m a b c d = false := by
  cases hb : witB n m a b c d with
  | false => rfl
  | true => exact (h hb).elim
def wtnS : Spec [spansSh, spansSh] := ⟨fun (x, y, _) => x.1 ≤ maxLen, fun ((n, f), (m, g), _) => .sb (witB n m (fun k => (f k).1) (fun k => (f k).2.1) (fun k => (g k).1) (fun k => (g k).2.1))⟩
set_option maxRecDepth 100000 in
theorem wtn_ok : FnSpec Try.prog 53 _ wtnS := by
  refine FnSpec.of SUb_ok mixed (U := 0) (I := witI) Try.func53 rfl (by kernel_rfl) rfl rfl (by decide +kernel) ?_
  rintro ⟨⟨n, f⟩, ⟨m, g⟩, ⟨⟩⟩ (hn : n ≤ maxLen)
  obtain ⟨a, b, rfl⟩ : ∃ a b : Nat → Int, f = fun k => (a k, b k, ()) := ⟨fun k => (f k).1, fun k => (f k).2.1, rfl⟩
  obtain ⟨c, d, rfl⟩ : ∃ c d : Nat → Int, g = fun k => (c k, d k, ()) := ⟨fun k => (g k).1, fun k => (g k).2.1, rfl⟩
  unfold FnSat
  conv => arg 2; reduce
  unfold maxLen at hn
  simp [wtnS, and_assoc]
  refine ⟨fun h => witB_no fun hs => h (by have := (witB_iff.1 hs).1; omega), fun h => ⟨⟨0, rfl, by omega, fun j hj => by omega⟩, fun k hk hall => ⟨fun h1 => ⟨h1, by omega, fun _ => h1, fun _ => by omega, fun h2 => witB_no fun hs => ?_, fun h2 h3 => ⟨by omega, by omega, k + 1, by omega, by omega, fun j hj => ?_, by omega⟩⟩, fun h1 => ?_⟩⟩⟩
  · have := (witB_iff.1 hs).2 k h1
    omega
  · by_cases hj' : j < k
    · exact hall j hj'
    · obtain rfl : j = k := by omega
      exact ⟨h2, h3⟩
  · exact witB_iff.2 ⟨by omega, fun j hj => hall j (by omega)⟩
@[irreducible] def nrL (lo hi x y : Int) : Int := min (chV lo hi x) (chV lo hi y)
@[irreducible] def nrH (lo hi x y : Int) : Int := max (chV lo hi x) (chV lo hi y)
theorem nr_in {lo hi : Int} (h : lo ≤ hi) (x y : Int) : lo ≤ nrL lo hi x y ∧ nrL lo hi x y ≤ nrH lo hi x y ∧ nrH lo hi x y ≤ hi := by
  have h1 := chV_in (x := x) h
  have h2 := chV_in (x := y) h
  unfold nrL nrH
  omega
def SUc : Sums := ⟨(53, mkSum _ wtnS) :: (49, mkSum _ rstS) :: (103, mkSum _ chnS) :: (102, mkSum _ sbxS) :: (42, mkSum _ posS) :: SUb.one, SUb.two, SUb.lo, SUb.eqs, SUb.its, SUb.imm⟩
theorem SUc_ok : SumsOK Try.prog SUc := (((((SUb_ok.cons Try.func42 (by kernel_rfl) (by kernel_rfl) rps_ok).cons Try.func102 (by kernel_rfl) (by kernel_rfl) rsb_ok).cons Try.func103 (by kernel_rfl) (by kernel_rfl) chn_ok).cons Try.func49 (by kernel_rfl) (by kernel_rfl) rst_ok).cons Try.func53 (by kernel_rfl) (by kernel_rfl) wtn_ok)
@[irreducible] def naL (lo hi : Nat → Int) (n m : Nat) (p : Nat → Int) (k : Nat) : Int := nrL (lo k) (hi k) (pkV m p k) (pkV (rsN m (n : Int)) (rsP m (n : Int) p) k)
@[irreducible] def naH (lo hi : Nat → Int) (n m : Nat) (p : Nat → Int) (k : Nat) : Int := nrH (lo k) (hi k) (pkV m p k) (pkV (rsN m (n : Int)) (rsP m (n : Int) p) k)
theorem na_in {lo hi : Nat → Int} {n m : Nat} {p : Nat → Int} {k : Nat} (h : lo k ≤ hi k) : lo k ≤ naL lo hi n m p k ∧ naL lo hi n m p k ≤ naH lo hi n m p k ∧ naH lo hi n m p k ≤ hi k := by
  unfold naL naH; exact nr_in h _ _
def narS : Spec [spansSh, pkSh] := ⟨fun (x, y, _) => x.1 ≤ 4096 ∧ (∀ k, k < x.1 → spanOK (x.2 k).1 (x.2 k).2.1 = true) ∧ pksOK y.1 (fun k => (y.2 k).1), fun ((n, el), (m, em), _) => .slc (.sym n) 2
  (fun k => [.si .i64 (naL (fun k => (el k).1) (fun k => (el k).2.1) n m (fun j => (em j).1) k), .si .i64 (naH (fun k => (el k).1) (fun k => (el k).2.1) n m (fun j => (em j).1) k)])⟩
def narI : DatL [spansSh, pkSh] → Anns := fun ((n, el), (m, em), _) => [
  (4, [(7, 81, 2)], fun fr hp => ⟨Nat, fun g => ⟨frI [.k 8, .s (.si .i64 (icast g)), .k 9, .t 29] fr, putRL hp (.sym g)
    (fun k => [.si .i64 (naL (fun k => (el k).1) (fun k => (el k).2.1) n m (fun j => (em j).1) k), .si .i64 (naH (fun k => (el k).1) (fun k => (el k).2.1) n m (fun j => (em j).1) k)])⟩, Nat × Nat, fun g => (g, n), fun (g, n) => g ≤ n, fun g => nsub n g⟩)]
set_option maxRecDepth 100000 in
theorem nar_ok : FnSpec Try.prog 48 _ narS := by
  refine FnSpec.of SUc_ok mixed (U := 0) (I := narI) Try.func48 rfl (by kernel_rfl) rfl rfl (by decide +kernel) ?_
  rintro ⟨⟨n, el⟩, ⟨m, em⟩, ⟨⟩⟩ hpre
  obtain ⟨lo, hi, rfl⟩ : ∃ lo hi : Nat → Int, el = fun k => (lo k, hi k, ()) := ⟨fun k => (el k).1, fun k => (el k).2.1, rfl⟩
  obtain ⟨p, rfl⟩ : ∃ p : Nat → Int, em = fun k => (p k, ()) := ⟨fun k => (em k).1, rfl⟩
  have hpre : n ≤ 4096 ∧ (∀ k, k < n → spanOK (lo k) (hi k) = true) ∧ pksOK m p := hpre
  obtain ⟨hn, hs, hp⟩ := hpre
  unfold FnSat
  conv => arg 2; reduce
  simp [narS, chnS, rstS, maxRow, ElEq, aliveB, goneB, getB, and_assoc]
  refine ⟨hn, hs, hp, hp.1, hn, hs, rs_ok hp (by omega), ⟨0, rfl, rfl, fun j => by omega, by omega⟩, fun g hg => ⟨fun hlt => ⟨hlt, by omega, by omega, by omega, g + 1, by omega, rfl, fun j hj => app_one hj (fun _ => rfl) (fun h => ?_), by omega, by omega⟩, fun hge => by omega⟩⟩
  subst h
  have e1 : naL lo hi n m p j = min (chV (lo j) (hi j) (pkV m p j)) (chV (lo j) (hi j) (pkV (rsN m (n : Int)) (rsP m (n : Int) p) j)) := by unfold naL nrL; rfl
  have e2 : naH lo hi n m p j = max (chV (lo j) (hi j) (pkV m p j)) (chV (lo j) (hi j) (pkV (rsN m (n : Int)) (rsP m (n : Int) p) j)) := by unfold naH nrH; rfl
  show nrmL [.si .i64 (min (chV (lo j) (hi j) (pkV m p j)) (chV (lo j) (hi j) (pkV (rsN m (n : Int)) (rsP m (n : Int) p) j))), .si .i64 (max (chV (lo j) (hi j) (pkV m p j)) (chV (lo j) (hi j) (pkV (rsN m (n : Int)) (rsP m (n : Int) p) j)))] = [.si .i64 (naL lo hi n m p j), .si .i64 (naH lo hi n m p j)]
  rw [e1, e2]
  rfl
-- what StepBox takes
@[reducible] def wideCells : List Sh := [spansSh, spansSh, spansSh, .int .i64, .int .i64, .int .i64, .int .i64, .int .i64, .int .i64, .int .i64, .int .i64, .int .i64]
@[reducible] def wideSh : Sh := .agg wideCells
@[irreducible] def fewB (n m p : Nat) : Bool := decide (n ≤ 20) && decide (m ≤ 20) && decide (p ≤ 20)
theorem fewB_iff {n m p : Nat} : fewB n m p = true ↔ n ≤ 20 ∧ m ≤ 20 ∧ p ≤ 20 := by unfold fewB; simp [and_assoc]
def fewS : Spec [wideSh] := ⟨fun _ => True, fun ((x, y, z, _), _) => .sb (fewB x.1 y.1 z.1)⟩
set_option maxRecDepth 100000 in
theorem few_ok : FnSpec Try.prog 101 _ fewS := by
  refine FnSpec.of SUc_ok mixed (U := 0) (I := fun _ => []) Try.func101 rfl (by kernel_rfl) rfl rfl (by decide +kernel) ?_
  rintro ⟨⟨⟨n, el⟩, ⟨m, em⟩, ⟨p, en⟩, (a1 : Int), (a2 : Int), (a3 : Int), (a4 : Int), (a5 : Int), (a6 : Int), (a7 : Int), (a8 : Int), (a9 : Int), ⟨⟩⟩, ⟨⟩⟩ -
  unfold FnSat
  conv => arg 2; reduce
  simp [fewS]
  rw [Bool.eq_iff_iff, fewB_iff]
  simp
  omega
def SUd : Sums := ⟨(101, mkSum _ fewS) :: (48, mkSum _ narS) :: SUc.one, SUc.two, SUc.lo, SUc.eqs, SUc.its, SUc.imm⟩
theorem SUd_ok : SumsOK Try.prog SUd := ((SUc_ok.cons Try.func48 (by kernel_rfl) (by kernel_rfl) nar_ok).cons Try.func101 (by kernel_rfl) (by kernel_rfl) few_ok)
@[irreducible] def useB (c : Cel) (n : Nat) (lo hi : Nat → Int) (m : Nat) (bl bh : Nat → Int) (p : Nat) (il ih : Nat → Int) : Bool := !(grtB c) && fewB n m p && decide (posV c n lo hi = 0) && boxB m bl bh && inpB p il ih
theorem useB_iff {c : Cel} {n : Nat} {lo hi : Nat → Int} {m : Nat} {bl bh : Nat → Int} {p : Nat} {il ih : Nat → Int} : useB c n lo hi m bl bh p il ih = true ↔ grtB c = false ∧ fewB n m p = true ∧ ChkOK c n lo hi m bl bh ∧ inpB p il ih = true := by
  rw [← chk_iff, chkV_zero]
  unfold useB; simp [and_assoc]
def useS : Spec [celSh, wideSh] := ⟨fun _ => True, fun (c, ((n, el), (m, em), (p, en), _), _) => .sb (useB (celOf c) n (fun k => (el k).1) (fun k => (el k).2.1) m (fun k => (em k).1) (fun k => (em k).2.1) p (fun k => (en k).1) (fun k => (en k).2.1))⟩
set_option maxRecDepth 100000 in
set_option maxHeartbeats 4000000 in
theorem use_ok : FnSpec Try.prog 47 _ useS := by
  refine FnSpec.of SUd_ok mixed (U := 0) (I := fun _ => []) Try.func47 rfl (by kernel_rfl) rfl rfl (by decide +kernel) ?_
  rintro ⟨c, ⟨⟨n, el⟩, ⟨m, em⟩, ⟨p, en⟩, (a1 : Int), (a2 : Int), (a3 : Int), (a4 : Int), (a5 : Int), (a6 : Int), (a7 : Int), (a8 : Int), (a9 : Int), ⟨⟩⟩, ⟨⟩⟩ -
  obtain ⟨c, rfl⟩ := cel_ex c
  obtain ⟨lo, hi, rfl⟩ : ∃ lo hi : Nat → Int, el = fun k => (lo k, hi k, ()) := ⟨fun k => (el k).1, fun k => (el k).2.1, rfl⟩
  obtain ⟨bl, bh, rfl⟩ : ∃ bl bh : Nat → Int, em = fun k => (bl k, bh k, ()) := ⟨fun k => (em k).1, fun k => (em k).2.1, rfl⟩
  obtain ⟨il, ih, rfl⟩ : ∃ il ih : Nat → Int, en = fun k => (il k, ih k, ()) := ⟨fun k => (en k).1, fun k => (en k).2.1, rfl⟩
  unfold FnSat
  conv => arg 2; reduce
  simp [-Bool.forall_bool, useS, grtS, fewS, posS, sbxS, and_assoc]
  refine ⟨fun hg hf => ⟨grtB_no hg, ?_⟩, fun _ _ _ _ h => by omega, fun _ _ _ _ h _ => by omega, fun _ _ _ _ h _ _ => by omega, fun _ _ _ _ h _ _ _ => by omega, fun _ _ _ _ h _ _ _ _ => by omega, fun _ _ _ _ h _ _ _ _ _ => by omega, ?_⟩
  · have := fewB_iff.1 hf
    unfold maxLen; omega
  · have e1 : (errA (boxB m (fun k => bl k) fun k => bh k) == 0) = boxB m bl bh := by
      rw [show (boxB m (fun k => bl k) fun k => bh k) = boxB m bl bh from rfl]
      cases boxB m bl bh <;> simp [errA]
    have e2 : inpB p (fun k => il k) (fun k => ih k) = ((p : Int) == 2 && decide (-1048576 ≤ il 0) && decide (ih 0 ≤ 1048576) && decide (il 0 ≤ ih 0) && decide (0 ≤ il 1) && decide (ih 1 ≤ 400000) && decide (il 1 ≤ ih 1)) := by
      rw [Bool.eq_iff_iff, inpB_iff, insV_iff, insV_iff]
      simp
      omega
    rw [e1]
    unfold useB
    rw [e2]
    simp only [Bool.and_assoc]
    rfl
def SUe : Sums := ⟨(47, mkSum _ useS) :: SUd.one, SUd.two, SUd.lo, SUd.eqs, SUd.its, SUd.imm⟩
theorem SUe_ok : SumsOK Try.prog SUe := (SUd_ok.cons Try.func47 (by kernel_rfl) (by kernel_rfl) use_ok)
end
end Abs
end Go.Proofs.Ytghmkkdmpmmbhaa

/- Cells: what is safe, the greatest of it; limits. -/
namespace Go.Proofs.Ytghmkkdmpmmbhaa
namespace Abs
open Go Go.RowKit
noncomputable section
attribute [local irreducible] FnSat
-- the greatest number that is safe, where nothing behind what is not safe is
@[irreducible] def grI (p : Int → Bool) (most : Int) : Int := ((firstN (fun k => !(p ((k : Int) + 1))) most.toNat : Nat) : Int)
structure Mono (p : Int → Bool) (most : Int) : Prop where
  h0 : 0 ≤ most
  p0 : p 0 = true
  dn : ∀ i j, 0 ≤ i → i ≤ j → j ≤ most → p j = true → p i = true
theorem grI_uniq {p : Int → Bool} {most g : Int} (h : Mono p most) (g0 : 0 ≤ g) (g1 : g ≤ most) (hp : p g = true) (hn : g < most → p (g + 1) = false) : grI p most = g := by
  unfold grI
  have e : firstN (fun k : Nat => !(p ((k : Int) + 1))) most.toNat = g.toNat := by
    refine firstN_uniq (by omega) (fun j hj => ?_) (fun hlt => ?_)
    · have := h.dn ((j : Int) + 1) g (by omega) (by omega) g1 hp
      simp [this]
    · have e1 : ((g.toNat : Nat) : Int) + 1 = g + 1 := by omega
      simp only [e1, hn (by omega), Bool.not_false]
  rw [e]; omega
theorem grI_spec {p : Int → Bool} {most : Int} (h : Mono p most) : 0 ≤ grI p most ∧ grI p most ≤ most ∧ p (grI p most) = true ∧ ∀ i, grI p most < i → i ≤ most → p i = false := by
  have hle := firstN_le (fun k : Nat => !(p ((k : Int) + 1))) most.toNat
  have h0 := h.h0
  have hp : p (grI p most) = true := by
    unfold grI
    cases hf : firstN (fun k : Nat => !(p ((k : Int) + 1))) most.toNat with
    | zero => exact h.p0
    | succ m =>
      have := firstN_not (fun k : Nat => !(p ((k : Int) + 1))) most.toNat m (by omega)
      simpa using this
  have hb : 0 ≤ grI p most ∧ grI p most ≤ most := by unfold grI; omega
  refine ⟨hb.1, hb.2, hp, fun i h1 h2 => ?_⟩
  cases hi : p i with
  | false => rfl
  | true =>
    exfalso
    have hlt : firstN (fun k : Nat => !(p ((k : Int) + 1))) most.toNat < most.toNat := by unfold grI at h1; omega
    have := firstN_is _ _ hlt
    have h3 : p (grI p most + 1) = true := h.dn _ i (by omega) (by omega) h2 hi
    unfold grI at h3
    simp [h3] at this
@[irreducible] def outP (c : Cel) (s : Sta) (l h a i : Int) : Bool := decide (l ≤ voltV c s i) && decide (i + c.leak ≤ s.q) && decide (nxT c s i a ≤ h)
@[irreducible] def inP (c : Cel) (s : Sta) (m h a j : Int) : Bool := decide (voltV c s (-j) ≤ m) && decide (nxT c s (-j) a ≤ h) && decide (s.q + j - c.leak ≤ roomV c (wearV c (nxH s (-j)) (nxA c s)))
theorem outP_iff {c : Cel} {s : Sta} {l h a i : Int} : outP c s l h a i = true ↔ l ≤ voltV c s i ∧ i + c.leak ≤ s.q ∧ nxT c s i a ≤ h := by unfold outP; simp [and_assoc]
theorem inP_iff {c : Cel} {s : Sta} {m h a j : Int} : inP c s m h a j = true ↔ voltV c s (-j) ≤ m ∧ nxT c s (-j) a ≤ h ∧ s.q + j - c.leak ≤ roomV c (wearV c (nxH s (-j)) (nxA c s)) := by unfold inP; simp [and_assoc]
theorem voltV_mono {c : Cel} {s : Sta} {i j : Int} (h : i ≤ j) : voltV c s j ≤ voltV c s i := by
  have := dvI_mono (d := 1000) (by decide) (Int.mul_le_mul_of_nonneg_right h (@rV_in c s).1)
  unfold voltV
  omega
theorem sq_mono {i j : Int} (h0 : 0 ≤ i) (h : i ≤ j) : i * i ≤ j * j := Int.mul_le_mul h h h0 (by omega)
theorem heatV_mono {c : Cel} {s : Sta} {i j : Int} (h0 : 0 ≤ i) (h : i ≤ j) : heatV c s i ≤ heatV c s j := by
  have := dvI_mono (d := 1000000000) (by decide) (Int.mul_le_mul_of_nonneg_right (sq_mono h0 h) (@rV_in c s).1)
  unfold heatV
  omega
theorem heatV_neg (c : Cel) (s : Sta) (i : Int) : heatV c s (-i) = heatV c s i := by unfold heatV; rw [Int.neg_mul_neg]
theorem nxT_heat {c : Cel} {s : Sta} {i j a : Int} (hc : celB c = true) (h : heatV c s i ≤ heatV c s j) : nxT c s i a ≤ nxT c s j a := by
  have := dvI_mono (d := c.hcap) (celB_iff.1 hc).hc0 (show 1000 * heatV c s i ≤ 1000 * heatV c s j by omega)
  unfold nxT
  exact clipV_mono (by omega)
theorem out_mono {c : Cel} {s : Sta} {l h a most : Int} (hc : celB c = true) (h0 : 0 ≤ most) (hp : outP c s l h a 0 = true) : Mono (outP c s l h a) most := by
  refine ⟨h0, hp, fun i j i0 ij _ hj => ?_⟩
  obtain ⟨h1, h2, h3⟩ := outP_iff.1 hj
  have v := @voltV_mono c s i j ij
  have t := nxT_heat (a := a) hc (@heatV_mono c s i j i0 ij)
  exact outP_iff.2 ⟨by omega, by omega, by omega⟩
theorem in_mono {c : Cel} {s : Sta} {m h a most : Int} (hc : celB c = true) (h0 : 0 ≤ most) (hp : inP c s m h a 0 = true) : Mono (inP c s m h a) most := by
  refine ⟨h0, hp, fun i j i0 ij _ hj => ?_⟩
  obtain ⟨h1, h2, h3⟩ := inP_iff.1 hj
  have hk := celB_iff.1 hc
  have v := @voltV_mono c s (-j) (-i) (by omega)
  have t := nxT_heat (c := c) (s := s) (i := -i) (j := -j) (a := a) hc (by rw [heatV_neg, heatV_neg]; exact heatV_mono i0 ij)
  have hH : nxH s (-i) ≤ nxH s (-j) := by unfold nxH; omega
  have m1 := dvI_mono (d := 1073741824) (by decide) (Int.mul_le_mul_of_nonneg_right hH hk.cy0)
  have r : roomV c (wearV c (nxH s (-j)) (nxA c s)) ≤ roomV c (wearV c (nxH s (-i)) (nxA c s)) := by unfold roomV wearV; omega
  exact inP_iff.2 ⟨by omega, by omega, by omega⟩
-- limits
@[reducible] def limCells : List Sh := [.int .i64, .int .i64, .int .i64, .int .i64, .int .i64]
@[reducible] def limSh : Sh := .agg limCells
@[irreducible] def limB (l m o i h : Int) : Bool := isIn (-8388608) l 8388608 && isIn (-8388608) m 8388608 && decide (l ≤ m) && isIn 0 o 1048576 && isIn 0 i 1048576 && isIn 0 h 400000
theorem limB_iff {l m o i h : Int} : limB l m o i h = true ↔ (-8388608 ≤ l ∧ l ≤ 8388608) ∧ (-8388608 ≤ m ∧ m ≤ 8388608) ∧ l ≤ m ∧ (0 ≤ o ∧ o ≤ 1048576) ∧ (0 ≤ i ∧ i ≤ 1048576) ∧ 0 ≤ h ∧ h ≤ 400000 := by unfold limB isIn; simp [and_assoc]
def limS : Spec [limSh] := ⟨fun _ => True, fun (((l : Int), (m : Int), (o : Int), (i : Int), (h : Int), _), _) => .si .i64 (errA (limB l m o i h))⟩
set_option maxRecDepth 100000 in
theorem lim_ok : FnSpec Try.prog 126 _ limS := by
  refine FnSpec.of SRg_ok mixed (U := 0) (I := fun _ => []) Try.func126 rfl (by kernel_rfl) rfl rfl (by decide +kernel) ?_
  rintro ⟨⟨(l : Int), (m : Int), (o : Int), (i : Int), (h : Int), ⟨⟩⟩, ⟨⟩⟩ -
  unfold FnSat
  conv => arg 2; reduce
  simp [limS, betS, and_assoc]
  have no : (limB l m o i h = true → False) → 2 = errA (limB l m o i h) := fun hh => by
    cases hb : limB l m o i h with
    | false => simp [errA]
    | true => exact (hh hb).elim
  refine ⟨fun hh => no fun hb => ?_, fun q0 q1 q2 q3 q4 q5 q6 q7 q8 q9 q10 => ?_⟩
  · have := limB_iff.1 hb; omega
  · rw [limB_iff.2 ⟨⟨q0, q1⟩, ⟨q2, q3⟩, q4, ⟨q5, q6⟩, ⟨q7, q8⟩, q9, q10⟩]; simp [errA]
set_option maxRecDepth 100000 in
theorem rlim_ok : FnSpec Try.prog 82 _ limS := by
  refine FnSpec.of SRg_ok mixed (U := 0) (I := fun _ => []) Try.func82 rfl (by kernel_rfl) rfl rfl (by decide +kernel) ?_
  rintro ⟨⟨(l : Int), (m : Int), (o : Int), (i : Int), (h : Int), ⟨⟩⟩, ⟨⟩⟩ -
  unfold FnSat
  conv => arg 2; reduce
  simp [limS, betS, and_assoc]
  have no : (limB l m o i h = true → False) → 2 = errA (limB l m o i h) := fun hh => by
    cases hb : limB l m o i h with
    | false => simp [errA]
    | true => exact (hh hb).elim
  refine ⟨fun hh => no fun hb => ?_, fun q0 q1 q2 q3 q4 q5 q6 q7 q8 q9 q10 => ?_⟩
  · have := limB_iff.1 hb; omega
  · rw [limB_iff.2 ⟨⟨q0, q1⟩, ⟨q2, q3⟩, q4, ⟨q5, q6⟩, ⟨q7, q8⟩, q9, q10⟩]; simp [errA]
def SMa : Sums := ⟨(82, mkSum _ limS) :: (126, mkSum _ limS) :: SRg.one, SRg.two, SRg.lo, SRg.eqs, SRg.its, SRg.imm⟩
theorem SMa_ok : SumsOK Try.prog SMa := ((SRg_ok.cons Try.func126 (by kernel_rfl) (by kernel_rfl) lim_ok).cons Try.func82 (by kernel_rfl) (by kernel_rfl) rlim_ok)
end
end Abs
end Go.Proofs.Ytghmkkdmpmmbhaa

/- Parts of boxes and tolerances lead to parts of what comes: in plain Lean. -/
namespace Go.Proofs.Ytghmkkdmpmmbhaa
namespace Abs
open Go
noncomputable section
-- numbers
theorem seg {u p q z : Int} (h1 : p ≤ z) (h2 : z ≤ q) : min (u * p) (u * q) ≤ u * z ∧ u * z ≤ max (u * p) (u * q) := by
  rcases Int.lt_or_le u 0 with hu | hu
  · have a : u * z ≤ u * p := Int.mul_le_mul_of_nonpos_left (show u ≤ 0 by omega) h1
    have b : u * q ≤ u * z := Int.mul_le_mul_of_nonpos_left (show u ≤ 0 by omega) h2
    omega
  · have a := Int.mul_le_mul_of_nonneg_left h1 hu
    have b := Int.mul_le_mul_of_nonneg_left h2 hu
    omega
theorem pr_in {a b c d x y : Int} (h1 : a ≤ x) (h2 : x ≤ b) (h3 : c ≤ y) (h4 : y ≤ d) : prL a b c d ≤ x * y ∧ x * y ≤ prH a b c d := by
  have s1 := seg (u := a) h3 h4
  have s2 := seg (u := b) h3 h4
  have s3 := seg (u := y) h1 h2
  rw [Int.mul_comm y a, Int.mul_comm y b, Int.mul_comm y x] at s3
  unfold prL prH
  omega
theorem pr_sub {a b c d a' b' c' d' : Int} (h1 : a ≤ a') (h2 : a' ≤ b') (h3 : b' ≤ b) (h4 : c ≤ c') (h5 : c' ≤ d') (h6 : d' ≤ d) : prL a b c d ≤ prL a' b' c' d' ∧ prH a' b' c' d' ≤ prH a b c d := by
  have s1 := pr_in (a := a) (b := b) (c := c) (d := d) (x := a') (y := c') (by omega) (by omega) (by omega) (by omega)
  have s2 := pr_in (a := a) (b := b) (c := c) (d := d) (x := a') (y := d') (by omega) (by omega) (by omega) (by omega)
  have s3 := pr_in (a := a) (b := b) (c := c) (d := d) (x := b') (y := c') (by omega) (by omega) (by omega) (by omega)
  have s4 := pr_in (a := a) (b := b) (c := c) (d := d) (x := b') (y := d') (by omega) (by omega) (by omega) (by omega)
  have e1 : prL a' b' c' d' = min (min (a' * c') (a' * d')) (min (b' * c') (b' * d')) := by unfold prL; rfl
  have e2 : prH a' b' c' d' = max (max (a' * c') (a' * d')) (max (b' * c') (b' * d')) := by unfold prH; rfl
  omega
theorem sq_neg {a b : Int} (h1 : a ≤ b) (h2 : b ≤ 0) : b * b ≤ a * a := by
  have := sq_mono (i := -b) (j := -a) (by omega) (by omega)
  rwa [Int.neg_mul_neg, Int.neg_mul_neg] at this
theorem sq_in2 {a b x : Int} (h1 : a ≤ x) (h2 : x ≤ b) : sqL a b ≤ x * x ∧ x * x ≤ sqH a b := by
  have h0 : 0 ≤ x * x := by
    rcases Int.lt_or_le x 0 with h | h
    · have := Int.mul_nonneg (show 0 ≤ -x by omega) (show 0 ≤ -x by omega)
      rwa [Int.neg_mul_neg] at this
    · exact Int.mul_nonneg h h
  unfold sqL sqH
  rcases Int.lt_or_le x 0 with h | h
  · have m1 := sq_neg h1 (by omega)
    by_cases hb : 0 ≤ b
    · rw [if_pos ⟨by omega, hb⟩]; omega
    · have m2 := sq_neg h2 (by omega)
      rw [if_neg (by omega)]; omega
  · have m1 := sq_mono h h2
    by_cases ha : a ≤ 0
    · rw [if_pos ⟨ha, by omega⟩]; omega
    · have m2 := sq_mono (i := a) (by omega) h1
      rw [if_neg (by omega)]; omega
theorem sq_sub {a b a' b' : Int} (h1 : a ≤ a') (h2 : a' ≤ b') (h3 : b' ≤ b) : sqL a b ≤ sqL a' b' ∧ sqH a' b' ≤ sqH a b := by
  have s1 := sq_in2 (a := a) (b := b) (x := a') (by omega) (by omega)
  have s2 := sq_in2 (a := a) (b := b) (x := b') (by omega) (by omega)
  have e2 : sqH a' b' = max (a' * a') (b' * b') := by unfold sqH; rfl
  refine ⟨?_, by omega⟩
  by_cases h : a' ≤ 0 ∧ 0 ≤ b'
  · have e1 : sqL a' b' = 0 := by unfold sqL; rw [if_pos h]
    have e3 : sqL a b = 0 := by unfold sqL; rw [if_pos (by omega)]
    omega
  · have e1 : sqL a' b' = min (a' * a') (b' * b') := by unfold sqL; rw [if_neg h]
    omega
theorem dvI_anti {a d d' : Int} (ha : 0 ≤ a) (h1 : 1 ≤ d') (h2 : d' ≤ d) : dvI a d ≤ dvI a d' := by
  have m := dvI_nonneg (d := d) (by omega) ha
  refine dvI_ge h1 ?_
  have e : dvI a d * d ≤ a := by unfold dvI; exact Int.ediv_mul_le a (by omega)
  have := Int.mul_le_mul_of_nonneg_left h2 m
  omega
theorem pcV_le {x o x' o' : Int} (hx : 0 ≤ x) (h1 : x ≤ x') (h2 : 1 ≤ o') (h3 : o' ≤ o) : pcV x o ≤ pcV x' o' := by
  have a := dvI_anti (a := x * 65536) (d := o) (d' := o') (by omega) h2 h3
  have b := dvI_mono (a := x * 65536) (b := x' * 65536) h2 (by omega)
  unfold pcV
  omega
theorem clipV_le {x y lo hi hi' : Int} (h : x ≤ y) (h2 : hi ≤ hi') : clipV x lo hi ≤ clipV y lo hi' := by unfold clipV; omega
theorem tmI {t t' u u' k : Int} (h1 : t ≤ t') (h2 : u ≤ u') (k0 : 0 ≤ k) (k1 : k ≤ 65536) : t + dvI ((u - t) * k) 65536 ≤ t' + dvI ((u' - t') * k) 65536 := by
  have a := Int.mul_le_mul_of_nonneg_right (show u - t ≤ (u' - t') + (t' - t) by omega) k0
  have b := Int.mul_le_mul_of_nonneg_left k1 (show 0 ≤ t' - t by omega)
  rw [Int.add_mul] at a
  have c := dvI_mono (d := 65536) (by decide) (show (u - t) * k ≤ (u' - t') * k + (t' - t) * 65536 by omega)
  have e : dvI ((u' - t') * k + (t' - t) * 65536) 65536 = dvI ((u' - t') * k) 65536 + (t' - t) := by
    unfold dvI
    exact Int.add_mul_ediv_right _ _ (by decide)
  omega
theorem tmK {z kl kh k : Int} (h1 : kl ≤ k) (h2 : k ≤ kh) : min (dvI (z * kl) 65536) (dvI (z * kh) 65536) ≤ dvI (z * k) 65536 ∧ dvI (z * k) 65536 ≤ max (dvI (z * kl) 65536) (dvI (z * kh) 65536) := by
  have s := seg (u := z) h1 h2
  rcases Int.le_total (z * kl) (z * kh) with h | h
  · have a := dvI_mono (d := 65536) (by decide) (show z * kl ≤ z * k by omega)
    have b := dvI_mono (d := 65536) (by decide) (show z * k ≤ z * kh by omega)
    omega
  · have a := dvI_mono (d := 65536) (by decide) (show z * kh ≤ z * k by omega)
    have b := dvI_mono (d := 65536) (by decide) (show z * k ≤ z * kl by omega)
    omega
-- parts
structure WSub (x X : Wid) : Prop where
  ocl : x.lo.ocv = X.lo.ocv
  och : x.hi.ocv = X.hi.ocv
  str : x.lo.stress = X.lo.stress
  kp : x.lo.keep = X.lo.keep
  cy : x.lo.cyc = X.lo.cyc
  al : x.lo.agel = X.lo.agel
  sh1 : X.lo.shift ≤ x.lo.shift
  sh2 : x.hi.shift ≤ X.hi.shift
  cp1 : X.lo.cap ≤ x.lo.cap
  cp2 : x.hi.cap ≤ X.hi.cap
  pr1 : X.lo.pair ≤ x.lo.pair
  pr2 : x.hi.pair ≤ X.hi.pair
  lk1 : X.lo.leak ≤ x.lo.leak
  lk2 : x.hi.leak ≤ X.hi.leak
  hc1 : X.lo.hcap ≤ x.lo.hcap
  hc2 : x.hi.hcap ≤ X.hi.hcap
  co1 : X.lo.cool ≤ x.lo.cool
  co2 : x.lo.cool ≤ x.hi.cool
  co3 : x.hi.cool ≤ X.hi.cool
  bx : ∀ k, k < 5 → X.bl k ≤ x.bl k ∧ x.bl k ≤ x.bh k ∧ x.bh k ≤ X.bh k
  fl : X.fl ≤ x.fl
  fh : x.fh ≤ X.fh
  rl : X.rl ≤ x.rl
  rm : x.rl ≤ x.rh
  rh : x.rh ≤ X.rh
theorem openV_le {c d : Cel} {f g : Int} (hc : celB c = true) (h : c.ocv = d.ocv) (hf : f ≤ g) (hs : c.shift ≤ d.shift) : openV c f ≤ openV d g := by
  have := valL_mono (scB_iff.1 (celB_iff.1 hc).ocv).1 hf
  unfold openV
  rw [← h]
  omega
theorem wv_sub {x X : Wid} (s : WSub x X) (ho : WidOK x) (hO : WidOK X) {a b a' b' : Int} (h1 : a ≤ a') (h2 : a' ≤ b') (h3 : b' ≤ b) : wvL X a b ≤ wvL x a' b' ∧ wvH x a' b' ≤ wvH X a b := by
  have p := pr_sub h1 h2 h3 s.rl s.rm s.rh
  have d1 := dvI_mono (d := 1000) (by decide) p.1
  have d2 := dvI_mono (d := 1000) (by decide) p.2
  have b1 := s.bx 1 (by decide)
  have o1 := openV_le hO.lo s.ocl.symm s.fl s.sh1
  have o2 := openV_le ho.hi s.och s.fh s.sh2
  unfold wvL wvH
  omega
theorem wh_sub {x X : Wid} (s : WSub x X) (ho : WidOK x) (hO : WidOK X) {a b a' b' : Int} (h1 : a ≤ a') (h2 : a' ≤ b') (h3 : b' ≤ b) (hi : insV (-1048576) a b 1048576 = true) : whL X a b ≤ whL x a' b' ∧ whH x a' b' ≤ whH X a b := by
  obtain ⟨i0, i1, i2⟩ := insV_iff.1 hi
  have hi' : insV (-1048576) a' b' 1048576 = true := insV_iff.2 (by omega)
  obtain ⟨p1, p2, p3, p4, p5, p6, p7, p8, p9, p10⟩ := wh_parts ho hi'
  obtain ⟨q1, q2, q3, q4, q5, q6, q7, q8, q9, q10⟩ := wh_parts hO hi
  have k := sq_sub h1 h2 h3
  have b1 := s.bx 1 (by decide)
  have r := sq_sub b1.1 b1.2.1 b1.2.2
  have bO := boxB_ok.1 hO.bx
  have bo := boxB_ok.1 ho.bx
  have z1 := sqB (a := a) (b := b) (K := 1048576) (by decide) (by omega) (by omega) (by omega)
  have z2 := sqB (a := a') (b := b') (K := 1048576) (by decide) (by omega) (by omega) (by omega)
  have m1 : sqL a b * X.rl ≤ sqL a' b' * x.rl := Int.mul_le_mul k.1 s.rl hO.r0 (by omega)
  have m2 : sqH a' b' * x.rh ≤ sqH a b * X.rh := Int.mul_le_mul k.2 s.rh ho.s0 (by omega)
  have d1 := dvI_mono (d := 1000000000) (by decide) m1
  have d2 := dvI_mono (d := 1000000000) (by decide) m2
  have := s.pr1
  have := s.pr2
  have := ho.pr
  have := hO.pr
  unfold whL whH
  constructor
  · by_cases g1 : 0 < X.lo.pair
    · rw [if_pos g1, if_pos (by omega)]
      have e1 := dvI_anti (a := sqL (X.bl 1) (X.bh 1)) (d := 1000 * X.hi.pair) (d' := 1000 * x.hi.pair) q7.1 (by omega) (by omega)
      have e2 := dvI_mono (d := 1000 * x.hi.pair) (by omega) r.1
      omega
    · rw [if_neg g1]
      by_cases g2 : 0 < x.lo.pair
      · rw [if_pos g2]
        have := p10 (by omega)
        omega
      · rw [if_neg g2]; omega
  · by_cases g1 : 0 < x.hi.pair
    · rw [if_pos g1, if_pos (by omega)]
      have e1 := dvI_anti (a := sqH (x.bl 1) (x.bh 1)) (d := 1000 * max 1 x.lo.pair) (d' := 1000 * max 1 X.lo.pair) p8.1 (by omega) (by omega)
      have e2 := dvI_mono (d := 1000 * max 1 X.lo.pair) (by omega) r.2
      omega
    · rw [if_neg g1]
      by_cases g2 : 0 < X.hi.pair
      · rw [if_pos g2]; omega
      · rw [if_neg g2]; omega
theorem wt_sub {x X : Wid} (s : WSub x X) (ho : WidOK x) (hO : WidOK X) {a b a' b' u v u' v' : Int} (h1 : a ≤ a') (h2 : a' ≤ b') (h3 : b' ≤ b) (hi : insV (-1048576) a b 1048576 = true) (g1 : u ≤ u') (g3 : v' ≤ v) :
    wtL X a b u v ≤ wtL x a' b' u' v' ∧ wtH x a' b' u' v' ≤ wtH X a b u v := by
  obtain ⟨w1, w2⟩ := wh_sub s ho hO h1 h2 h3 hi
  obtain ⟨i0, i1, i2⟩ := insV_iff.1 hi
  obtain ⟨q1, q2⟩ := wh_b hO hi
  obtain ⟨q3, q4⟩ := wh_b ho (show insV (-1048576) a' b' 1048576 = true from insV_iff.2 (by omega))
  have b2 := s.bx 2 (by decide)
  have kx := celB_iff.1 ho.lo
  have kX := celB_iff.1 hO.lo
  have kh := celB_iff.1 ho.hi
  have kH := celB_iff.1 hO.hi
  have c1 := s.co1
  have c2 := s.co2
  have c3 := s.co3
  have := s.hc1
  have := s.hc2
  have := kX.hc0
  have := kh.hc0
  have a1 := dvI_anti (a := 1000 * whL X a b) (d := X.hi.hcap) (d' := x.hi.hcap) (by omega) (by omega) (by omega)
  have a2 := dvI_mono (d := x.hi.hcap) (by omega) (show 1000 * whL X a b ≤ 1000 * whL x a' b' by omega)
  have a3 := dvI_anti (a := 1000 * whH x a' b') (d := x.lo.hcap) (d' := X.lo.hcap) (by omega) (by omega) (by omega)
  have a4 := dvI_mono (d := X.lo.hcap) (by omega) (show 1000 * whH x a' b' ≤ 1000 * whH X a b by omega)
  have t1 := tmK (z := u - X.bl 2) (kl := X.lo.cool) (kh := X.hi.cool) (k := x.lo.cool) (by omega) (by omega)
  have t2 := tmK (z := u - X.bl 2) (kl := X.lo.cool) (kh := X.hi.cool) (k := x.hi.cool) (by omega) (by omega)
  have t3 := tmI (t := X.bl 2) (t' := x.bl 2) (k := x.lo.cool) b2.1 g1 kx.co0 kx.co1
  have t4 := tmI (t := X.bl 2) (t' := x.bl 2) (k := x.hi.cool) b2.1 g1 kh.co0 kh.co1
  have r1 := tmK (z := v - X.bh 2) (kl := X.lo.cool) (kh := X.hi.cool) (k := x.lo.cool) (by omega) (by omega)
  have r2 := tmK (z := v - X.bh 2) (kl := X.lo.cool) (kh := X.hi.cool) (k := x.hi.cool) (by omega) (by omega)
  have r3 := tmI (t := x.bh 2) (t' := X.bh 2) (k := x.lo.cool) b2.2.2 g3 kx.co0 kx.co1
  have r4 := tmI (t := x.bh 2) (t' := X.bh 2) (k := x.hi.cool) b2.2.2 g3 kh.co0 kh.co1
  unfold wtL wtH
  constructor
  · exact clipV_mono (by omega)
  · exact clipV_mono (by omega)
theorem wear_le {c d : Cel} {t a t' a' : Int} (hc : celB c = true) (e1 : c.cyc = d.cyc) (e2 : c.agel = d.agel) (h1 : t ≤ t') (h2 : a ≤ a') : wearV c t a ≤ wearV d t' a' := by
  have hk := celB_iff.1 hc
  have m1 := dvI_mono (d := 1073741824) (by decide) (Int.mul_le_mul_of_nonneg_right h1 hk.cy0)
  have m2 := dvI_mono (d := 1073741824) (by decide) (Int.mul_le_mul_of_nonneg_right h2 hk.al0)
  unfold wearV
  rw [← e1, ← e2]
  omega
theorem nb_sub {x X : Wid} (s : WSub x X) (ho : WidOK x) (hO : WidOK X) {a b a' b' u v u' v' : Int} (h1 : a ≤ a') (h2 : a' ≤ b') (h3 : b' ≤ b) (hi : insV (-1048576) a b 1048576 = true) (g1 : u ≤ u') (g3 : v' ≤ v) (k : Nat) (hk : k < 5) :
    nbL X a b u v k ≤ nbL x a' b' u' v' k ∧ nbH x a' b' u' v' k ≤ nbH X a b u v k := by
  have T : nbTL X a b ≤ nbTL x a' b' ∧ nbTH x a' b' ≤ nbTH X a b := by
    have := s.bx 3 (by decide)
    unfold nbTL nbTH
    omega
  have A : nbAL X ≤ nbAL x ∧ nbAH x ≤ nbAH X := by
    have b4 := s.bx 4 (by decide)
    have b2 := s.bx 2 (by decide)
    have cs := (scB_iff.1 (celB_iff.1 hO.lo).stress).1
    have v1 := valL_mono cs b2.1
    have v2 := valL_mono cs b2.2.2
    unfold nbAL nbAH
    rw [s.str]
    omega
  match k, hk with
  | 0, _ =>
    rw [(nb_0 _ _ _ _ _).1, (nb_0 _ _ _ _ _).2, (nb_0 _ _ _ _ _).1, (nb_0 _ _ _ _ _).2]
    have b0 := s.bx 0 (by decide)
    have := s.lk1
    have := s.lk2
    have := s.cp1
    have := s.cp2
    have w1 := wear_le ho.lo s.cy s.al T.2 A.2
    have w2 := wear_le hO.lo s.cy.symm s.al.symm T.1 A.1
    have r1 : roomV X.lo (wearV X.lo (nbTH X a b) (nbAH X)) ≤ roomV x.lo (wearV x.lo (nbTH x a' b') (nbAH x)) := by unfold roomV; omega
    have r2 : roomV x.hi (wearV x.lo (nbTL x a' b') (nbAL x)) ≤ roomV X.hi (wearV X.lo (nbTL X a b) (nbAL X)) := by unfold roomV; omega
    unfold nbQL nbQH
    exact ⟨clipV_le (by omega) r1, clipV_le (by omega) r2⟩
  | 1, _ =>
    rw [(nb_1 _ _ _ _ _).1, (nb_1 _ _ _ _ _).2, (nb_1 _ _ _ _ _).1, (nb_1 _ _ _ _ _).2]
    have b1 := s.bx 1 (by decide)
    have := ho.pr
    have p := pr_sub h1 h2 h3 s.pr1 ho.pr s.pr2
    have hx := celB_iff.1 ho.lo
    have e := s.kp
    have m1 := Int.mul_le_mul_of_nonneg_left b1.1 (show 0 ≤ 1000 * x.lo.keep by have := hx.kp0; omega)
    have m2 := Int.mul_le_mul_of_nonneg_left b1.2.2 (show 0 ≤ 1000 * x.lo.keep by have := hx.kp0; omega)
    have m3 := Int.mul_le_mul_of_nonneg_left p.1 (show 0 ≤ 65536 - x.lo.keep by have := hx.kp1; omega)
    have m4 := Int.mul_le_mul_of_nonneg_left p.2 (show 0 ≤ 65536 - x.lo.keep by have := hx.kp1; omega)
    unfold nbRL nbRH slackV
    rw [← e]
    exact ⟨clipV_mono (dvI_mono (by decide) (by omega)), clipV_mono (dvI_mono (by decide) (by omega))⟩
  | 2, _ =>
    rw [(nb_2 _ _ _ _ _).1, (nb_2 _ _ _ _ _).2, (nb_2 _ _ _ _ _).1, (nb_2 _ _ _ _ _).2]
    exact wt_sub s ho hO h1 h2 h3 hi g1 g3
  | 3, _ => rw [(nb_3 _ _ _ _ _).1, (nb_3 _ _ _ _ _).2, (nb_3 _ _ _ _ _).1, (nb_3 _ _ _ _ _).2]; exact T
  | 4, _ => rw [(nb_4 _ _ _ _ _).1, (nb_4 _ _ _ _ _).2, (nb_4 _ _ _ _ _).1, (nb_4 _ _ _ _ _).2]; exact A
-- a part of tolerances and of a box
structure Part (lo hi lo' hi' bl bh bl' bh' : Nat → Int) : Prop where
  o : ∀ k, k < 7 → lo k ≤ lo' k ∧ lo' k ≤ hi' k ∧ hi' k ≤ hi k
  b : ∀ k, k < 5 → bl k ≤ bl' k ∧ bl' k ≤ bh' k ∧ bh' k ≤ bh k
theorem mv_mid {c : Cel} {lo hi d : Nat → Int} (h1 : celB (mvC c lo) = true) (h2 : celB (mvC c hi) = true) (h : ∀ k, k < 7 → lo k ≤ d k ∧ d k ≤ hi k) : celB (mvC c d) = true := by
  have k1 := celB_iff.1 h1
  have k2 := celB_iff.1 h2
  have a0 := h 0 (by decide)
  have a1 := h 1 (by decide)
  have a2 := h 2 (by decide)
  have a3 := h 3 (by decide)
  have a4 := h 4 (by decide)
  have a5 := h 5 (by decide)
  have a6 := h 6 (by decide)
  obtain ⟨q1, q2, q3, q4, q5, q6, q7, q8, q9, q10, q11, q12, q13, q14, q15, q16, q17, q18, q19, q20, q21, q22, q23, q24, q25⟩ := k1
  obtain ⟨p1, p2, p3, p4, p5, p6, p7, p8, p9, p10, p11, p12, p13, p14, p15, p16, p17, p18, p19, p20, p21, p22, p23, p24, p25⟩ := k2
  simp only [mvC_cap, mvC_shift, mvC_extra, mvC_pair, mvC_leak, mvC_hcap, mvC_cool, mvC_ocv, mvC_cold, mvC_stress, mvC_keep, mvC_cyc, mvC_agel, mvC_grow] at *
  refine celB_iff.2 ⟨?_, ?_, ?_, ?_, ?_, ?_, ?_, ?_, ?_, ?_, ?_, ?_, ?_, ?_, ?_, ?_, ?_, ?_, ?_, ?_, ?_, ?_, ?_, ?_, ?_⟩ <;>
    simp only [mvC_cap, mvC_shift, mvC_extra, mvC_pair, mvC_leak, mvC_hcap, mvC_cool, mvC_ocv, mvC_cold, mvC_stress, mvC_keep, mvC_cyc, mvC_agel, mvC_grow] <;> first | omega | assumption
theorem part_chk {c : Cel} {lo hi lo' hi' bl bh bl' bh' : Nat → Int} (p : Part lo hi lo' hi' bl bh bl' bh') (h : ChkOK c 7 lo hi 5 bl bh) : ChkOK c 7 lo' hi' 5 bl' bh' := by
  refine ⟨h.cel, rfl, rfl, mv_mid h.cl h.ch fun k hk => ?_, mv_mid h.cl h.ch fun k hk => ?_, fun k hk => spanOK_iff.2 ?_, ?_⟩
  · have := p.o k hk; omega
  · have := p.o k hk; omega
  · have := p.o k hk
    have := spanOK_iff.1 (h.le k hk)
    omega
  · have b := h.bx
    have b0 := p.b 0 (by decide)
    have b1 := p.b 1 (by decide)
    have b2 := p.b 2 (by decide)
    have b3 := p.b 3 (by decide)
    have b4 := p.b 4 (by decide)
    obtain ⟨q0, q1, q2, q3, q4, q5, q6, q7, q8, q9, q10, q11, q12, q13, q14⟩ := b
    constructor <;> omega
theorem res_le {c : Cel} {d d' : Nat → Int} {t t' w w' : Int} (hc : celB c = true) (h1 : d 2 ≤ d' 2) (h2 : t' ≤ t) (h3 : w ≤ w') : resV (mvC c d) t w ≤ resV (mvC c d') t' w' := by
  have hk := celB_iff.1 hc
  have v := valL_mono (scB_iff.1 hk.cold).1 (show 400000 - t ≤ 400000 - t' by omega)
  have m := dvI_mono (d := 65536) (by decide) (Int.mul_le_mul_of_nonneg_right h3 hk.gr0)
  unfold resV
  rw [mvC_cold, mvC_cold, mvC_extra, mvC_extra, mvC_grow, mvC_grow]
  exact clipV_mono (by omega)
theorem part_sub {c : Cel} {lo hi lo' hi' bl bh bl' bh' : Nat → Int} (p : Part lo hi lo' hi' bl bh bl' bh') (h : ChkOK c 7 lo hi 5 bl bh) : WSub (widV c lo' hi' 5 bl' bh') (widV c lo hi 5 bl bh) := by
  have a0 := p.o 0 (by decide)
  have a1 := p.o 1 (by decide)
  have a2 := p.o 2 (by decide)
  have a3 := p.o 3 (by decide)
  have a4 := p.o 4 (by decide)
  have a5 := p.o 5 (by decide)
  have a6 := p.o 6 (by decide)
  have b0 := p.b 0 (by decide)
  have b2 := p.b 2 (by decide)
  have b3 := p.b 3 (by decide)
  have b4 := p.b 4 (by decide)
  have hk := celB_iff.1 h.cel
  have w1 : wdWL c bl ≤ wdWL c bl' := by unfold wdWL; exact wear_le h.cel rfl rfl b3.1 b4.1
  have w2 : wdWL c bl' ≤ wdWL c bh' := by unfold wdWL; exact wear_le h.cel rfl rfl b3.2.1 b4.2.1
  have w3 : wdWL c bh' ≤ wdWL c bh := by unfold wdWL; exact wear_le h.cel rfl rfl b3.2.2 b4.2.2
  have q0 := h.bx.q0
  constructor <;> simp only [widV_lo, widV_hi, widV_bl, widV_bh, widV_fl, widV_fh, widV_rl, widV_rh, mvC_cap, mvC_shift, mvC_extra, mvC_pair, mvC_leak, mvC_hcap, mvC_cool, mvC_ocv, mvC_cold, mvC_stress, mvC_keep, mvC_cyc, mvC_agel, mvC_grow]
  all_goals first | omega | exact p.b | skip
  · unfold wdFL
    refine pcV_le q0 b0.1 roomV_in.1 ?_
    unfold roomV
    rw [mvC_cap, mvC_cap]
    omega
  · unfold wdFH
    refine pcV_le (by omega) b0.2.2 roomV_in.1 ?_
    unfold roomV
    rw [mvC_cap, mvC_cap]
    omega
  · unfold wdRL
    exact res_le h.cel (by omega) (by omega) w1
  · unfold wdRL wdRH
    exact res_le h.cel (by omega) (by omega) w2
  · unfold wdRH
    exact res_le h.cel (by omega) (by omega) w3
end
end Abs
end Go.Proofs.Ytghmkkdmpmmbhaa

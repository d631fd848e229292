/- The greatest safe currents are safe, and so are all lesser ones; the current that is safe for a box is safe for each cell and state in it; no condition. -/
import Derived.Test.YthpigoanppehbaaGreatQGfceb7cf3
import Derived.Test.YthpigoanppehbaaGreatRows
set_option linter.unusedSimpArgs false
set_option linter.unusedVariables false
namespace Go.Proofs.YthpigoanppehbaaGreat
namespace Abs
open Go Go.RowKit
noncomputable section
attribute [local irreducible] FnSat
theorem in_out {c : Cel} {lo hi d bl bh : Nat → Int} {s : Sta} {l hh u v t i : Int} (h : InBox c lo hi d bl bh s) (hb : boxP (widV c lo hi 5 bl bh) l hh u v i = true) (g1 : u ≤ t) (g2 : t ≤ v) (i0 : 0 ≤ i) (i1 : i ≤ 1048576) : outP (mvC c d) s l hh t i = true := by
  obtain ⟨b1, b2, b3⟩ := boxP_iff.1 hb
  rw [widV_hi, widV_bl, mvC_leak] at b3
  have w1 := in_volt h (Int.le_refl i) (Int.le_refl i)
  have w2 := in_temp h (insV_iff.2 ⟨by omega, Int.le_refl _, i1⟩) (Int.le_refl i) (Int.le_refl i) g1 g2
  have q := h.ss 0 (by decide)
  have dd := h.dd 4 (by decide)
  rw [(stV_n s).1] at q
  exact outP_iff.2 ⟨by omega, by rw [mvC_leak]; omega, by omega⟩
theorem gr_is {p : Int → Bool} {most : Int} (h : Mono p most) : grV p most = grI p most ∧ grE p = 0 := by
  unfold grV grE; rw [if_pos h.p0, if_pos h.p0]; exact ⟨rfl, rfl⟩
noncomputable def SLs : Sums := ⟨(33, mkSum _ rinS) :: (31, mkSum _ routS) :: (32, mkSum _ inmo) :: (30, mkSum _ outmo) :: (15, mkSum _ sfoS) :: (19, mkSum _ aplS) :: SUe.one, SUe.two, SUe.lo, SUe.eqs, SUe.its, SUe.imm⟩
theorem SLs_ok : SumsOK Tryz.prog SLs := ((((((SUe_ok.cons Tryz.func19 (by kernel_rfl) (by kernel_rfl) apl_ok).cons Tryz.func15 (by kernel_rfl) (by kernel_rfl) sfo_ok).cons Tryz.func30 (by kernel_rfl) (by kernel_rfl) outmo_ok).cons Tryz.func32 (by kernel_rfl) (by kernel_rfl) inmo_ok).cons Tryz.func31 (by kernel_rfl) (by kernel_rfl) rout_ok).cons Tryz.func33 (by kernel_rfl) (by kernel_rfl) rin_ok)
set_option maxRecDepth 100000 in
set_option maxHeartbeats 8000000 in
theorem cellSafe_law : LawFn Tryz.prog 5 [celSh, wideSh, pkSh, .int .u64] := by
  refine FnSpec.of SLs_ok mixed (U := 0) (I := fun _ => []) Tryz.func5 rfl (by kernel_rfl) rfl rfl (by decide +kernel) ?_
  rintro ⟨c, ⟨⟨n, el⟩, ⟨m, em⟩, ⟨p, en⟩, (a1 : Int), (a2 : Int), (a3 : Int), (a4 : Int), (ll : Int), (lm : Int), (lo' : Int), (li : Int), (lt : Int), ⟨⟩⟩, ⟨np, ep⟩, (pt : Int), ⟨⟩⟩ hv
  obtain ⟨c, rfl⟩ := cel_ex c
  obtain ⟨lo, hi, rfl⟩ : ∃ lo hi : Nat → Int, el = fun k => (lo k, hi k, ()) := ⟨fun k => (el k).1, fun k => (el k).2.1, rfl⟩
  obtain ⟨bl, bh, rfl⟩ : ∃ bl bh : Nat → Int, em = fun k => (bl k, bh k, ()) := ⟨fun k => (em k).1, fun k => (em k).2.1, rfl⟩
  obtain ⟨il, ih, rfl⟩ : ∃ il ih : Nat → Int, en = fun k => (il k, ih k, ()) := ⟨fun k => (en k).1, fun k => (en k).2.1, rfl⟩
  obtain ⟨pk, rfl⟩ : ∃ pk : Nat → Int, ep = fun k => (pk k, ()) := ⟨fun k => (ep k).1, rfl⟩
  unfold FnSat
  conv => arg 2; reduce
  simp [-Bool.forall_bool, trueS, useS, rstS, chnS, aplS, ofS, cstS, sfoS, outmo, inmo, routS, rinS, enc_cel, ElEq, getB, goneB, aliveB, and_assoc]
  intro hu
  obtain ⟨hg, hf, hC, hI⟩ := useB_iff.1 hu
  have hmax := grtB_no hg
  have hC : ChkOK c n lo hi m bl bh := hC
  obtain rfl : n = 7 := hC.n
  obtain rfl : m = 5 := hC.m
  obtain ⟨rfl, I0, I1⟩ := inpB_iff.1 hI
  have I1 : insV 0 (il 1) (ih 1) 400000 = true := I1
  obtain ⟨j0, j1, j2⟩ := insV_iff.1 I1
  have K : chkV c 7 (fun k => lo k) (fun k => hi k) 5 (fun k => bl k) (fun k => bh k) = 0 := chk_iff.2 hC
  have hp : pksOK np pk := by
    have h := hv.2.2.1
    exact ⟨h.1, fun k hk => by
      have := (h.2 k hk).1
      exact ⟨this.1, this.2⟩⟩
  have hpt : 0 ≤ pt ∧ pt ≤ 18446744073709551615 := by
    have h : InR .u64 pt := hv.2.2.2.1
    unfold InR at h
    simpa [IntKind.min, IntKind.max, IntKind.signed, IntKind.bits] using h
  have D : ∀ k, k < 7 → lo k ≤ chV (lo k) (hi k) (pkV np (fun j => pk j) k) ∧ chV (lo k) (hi k) (pkV np (fun j => pk j) k) ≤ hi k := fun k hk => chV_in (by have := spanOK_iff.1 (hC.le k hk); omega)
  generalize hd : (fun k => chV (lo k) (hi k) (pkV np (fun j => pk j) k)) = d
  have D : ∀ k, k < 7 → lo k ≤ d k ∧ d k ≤ hi k := by subst hd; exact D
  have rc : celB (mvC c d) = true := mv_mid hC.cl hC.ch D
  have hap : apE c 7 d = 0 := apE_0 hC.cel (fun k hk => by
    have := D k hk
    have := spanOK_iff.1 (hC.le k hk)
    exact isQ_iff.2 (by omega)) rc
  have hac : apC c 7 d = mvC c d := apC_0 hap
  have rmax := (celB_iff.1 rc).max
  have of5 : ∀ x, ofV 5 x = x := fun x => by unfold ofV; rw [if_pos rfl]
  have oe5 : ofE 5 = 0 := by unfold ofE; rw [if_pos rfl]
  have hb := hC.bx
  simp only [hap, hac, of5, oe5, K, I1]
  have S0 := chV_in (x := pkV (rsN np 7) (fun j => rsP np 7 (fun j => pk j) j) 0) (lo := bl 0) (hi := bh 0) hb.q1
  have S1 := chV_in (x := pkV (rsN np 7) (fun j => rsP np 7 (fun j => pk j) j) 1) (lo := bl 1) (hi := bh 1) hb.x1
  have S2 := chV_in (x := pkV (rsN np 7) (fun j => rsP np 7 (fun j => pk j) j) 2) (lo := bl 2) (hi := bh 2) hb.t1
  have S3 := chV_in (x := pkV (rsN np 7) (fun j => rsP np 7 (fun j => pk j) j) 3) (lo := bl 3) (hi := bh 3) hb.h1
  have S4 := chV_in (x := pkV (rsN np 7) (fun j => rsP np 7 (fun j => pk j) j) 4) (lo := bl 4) (hi := bh 4) hb.a1
  have A1 := chV_in (x := pkV (rsN np 12) (fun j => rsP np 12 (fun j => pk j) j) 0) (lo := il 1) (hi := ih 1) j1
  generalize chV (bl 0) (bh 0) _ = s0 at *
  generalize chV (bl 1) (bh 1) _ = s1 at *
  generalize chV (bl 2) (bh 2) _ = s2 at *
  generalize chV (bl 3) (bh 3) _ = s3 at *
  generalize chV (bl 4) (bh 4) _ = s4 at *
  generalize chV (il 1) (ih 1) _ = y at *
  obtain ⟨s, hs⟩ : ∃ s : Sta, s = ⟨s0, s1, s2, s3, s4⟩ := ⟨_, rfl⟩
  have es : staOf (s0, s1, s2, s3, s4, PUnit.unit) = s := by rw [hs]; unfold staOf; rfl
  rw [es]
  generalize hW : (widV c (fun k => lo k) (fun k => hi k) 5 (fun k => bl k) fun k => bh k) = W
  have hWid : WidOK W := by rw [← hW]; exact wid_of hC
  have BS : ∀ k, k < 5 → spanOK (bl k) (bh k) = true := by
    obtain ⟨q0, q1, q2, q3, q4, q5, q6, q7, q8, q9, q10, q11, q12, q13, q14⟩ := hb
    intro k hk
    match k, hk with
    | 0, _ => exact spanOK_iff.2 (by omega)
    | 1, _ => exact spanOK_iff.2 (by omega)
    | 2, _ => exact spanOK_iff.2 (by omega)
    | 3, _ => exact spanOK_iff.2 (by omega)
    | 4, _ => exact spanOK_iff.2 (by omega)
  have IS : ∀ k, k < 2 - 1 → spanOK (il (1 + k)) (ih (1 + k)) = true := by
    intro k hk
    obtain rfl : k = 0 := by omega
    exact spanOK_iff.2 (show -1099511627776 ≤ il 1 ∧ ih 1 ≤ 1099511627776 ∧ il 1 ≤ ih 1 by omega)
  refine ⟨by decide, hmax, by decide, by decide, ?_⟩
  cases hl : limB ll lm lo' li lt with
  | false =>
    have eo : orE (orE 0 false 2) true 2 = 2 := by rw [orE_e (by rw [orE_f rfl rfl]; decide), orE_f rfl rfl]
    have e : soE (orE (orE 0 false 2) true 2) (boxP W ll lt (il 1) (ih 1)) = 2 := by rw [eo]; exact ((so_e (most := 0) (p := boxP W ll lt (il 1) (ih 1)) (e := 2) (by decide)).2).symm
    exact ⟨fun _ => .inl e, fun h0 => by rw [e] at h0; cases h0⟩
  | true =>
    have eo : orE (orE 0 true 2) true 2 = 0 := by rw [orE_t (orE_t rfl rfl) rfl]
    have lb := limB_iff.1 hl
    obtain ⟨z1, z2⟩ := so_0 (most := lo') (p := boxP W ll lt (il 1) (ih 1)) (e := 0) rfl
    simp only [eo, ← z1, ← z2]
    cases hp0 : boxP W ll lt (il 1) (ih 1) 0 with
    | false =>
      have g17 := (gr_no (most := 0) hp0).2
      exact ⟨fun _ => .inr g17.symm, fun h0 => by rw [← g17] at h0; cases h0⟩
    | true =>
      have hm : Mono (boxP W ll lt (il 1) (ih 1)) lo' := box_mono hWid (by omega) hp0
      obtain ⟨m1, m2⟩ := gr_is hm
      obtain ⟨i0, i1, i2, i3⟩ := grI_spec hm
      simp only [m1, m2]
      generalize grI (boxP W ll lt (il 1) (ih 1)) lo' = i at *
      refine ⟨fun h => absurd trivial h, fun _ => ⟨by decide, hC.le, hp, hmax, by decide, hp.1, by decide, BS, rs_ok hp (by decide), by decide, hp.1, by decide, IS, rs_ok hp (by decide), by decide, trivial, trivial, i0, i1, fun _ _ _ _ => ⟨rmax, fun hcs => ?_⟩⟩⟩
      have hin : InBox c lo hi d bl bh s := ⟨hC, D, fun k hk => by
        obtain ⟨e0, e1, e2, e3, e4⟩ := stV_n s
        rw [hs] at e0 e1 e2 e3 e4 ⊢
        simp only [Sta.q_mk, Sta.rx_mk, Sta.tp_mk, Sta.th_mk, Sta.ag_mk] at e0 e1 e2 e3 e4
        match k, hk with
        | 0, _ => rw [e0]; exact S0
        | 1, _ => rw [e1]; exact S1
        | 2, _ => rw [e2]; exact S2
        | 3, _ => rw [e3]; exact S3
        | 4, _ => rw [e4]; exact S4, (csE_iff.1 hcs).2⟩
      have hWe : widV c lo hi 5 bl bh = W := hW
      have o0 : outP (mvC c d) s ll lt y 0 = true := in_out hin (by rw [hWe]; exact hp0) A1.1 A1.2 (Int.le_refl 0) (by decide)
      have oi : outP (mvC c d) s ll lt y i = true := in_out hin (by rw [hWe]; exact i2) A1.1 A1.2 i0 (by omega)
      have om : Mono (outP (mvC c d) s ll lt y) lo' := out_mono rc (by omega) o0
      obtain ⟨n1, n2⟩ := gr_is om
      obtain ⟨q0, q1, q2, q3⟩ := grI_spec om
      have ey : isIn 0 y 400000 = true := by unfold isIn; simp; omega
      have eME : mgE true y (outP (mvC c d) s ll lt y) = 0 := by unfold mgE; rw [if_pos rfl, if_pos ey, n2]
      have eMV : mgV true y (outP (mvC c d) s ll lt y) lo' = grI (outP (mvC c d) s ll lt y) lo' := by unfold mgV; rw [if_pos rfl, if_pos ey, n1]
      have eIE : mgE true y (inP (mvC c d) s lm lt y) = grE (inP (mvC c d) s lm lt y) := by unfold mgE; rw [if_pos rfl, if_pos ey]
      have eIV : mgV true y (inP (mvC c d) s lm lt y) li = grV (inP (mvC c d) s lm lt y) li := by unfold mgV; rw [if_pos rfl, if_pos ey]
      have ae : ∀ z, aE (mvC c d) s z = z := fun z => aE_yes hcs
      have av : ∀ z, aV (mvC c d) s z = z := fun z => aV_yes hcs
      have hiM : i ≤ grI (outP (mvC c d) s ll lt y) lo' := by
        rcases Int.lt_or_le (grI (outP (mvC c d) s ll lt y) lo') i with hlt | hge
        · have := q3 i hlt i1
          rw [oi] at this; cases this
        · exact hge
      simp only [eME, eMV, eIE, eIV, ae, av]
      generalize grI (outP (mvC c d) s ll lt y) lo' = M at *
      have md : ∀ N : Int, 0 ≤ N → N ≤ 1048576 → IntKind.u64.wrap (N + 1) = N + 1 ∧ pt.tmod (N + 1) = pt % (N + 1) ∧ 0 ≤ pt % (N + 1) ∧ pt % (N + 1) ≤ N := fun N h1 h2 => by
        have r1 := Int.emod_nonneg pt (show N + 1 ≠ 0 by omega)
        have r2 := Int.emod_lt_of_pos pt (show 0 < N + 1 by omega)
        exact ⟨wrap_u64 (by omega) (by omega), Int.tmod_eq_emod_of_nonneg hpt.1, by omega, by omega⟩
      obtain ⟨w1, w2, w3, w4⟩ := md M q0 (by omega)
      simp only [w1, w2]
      have oj := om.dn _ M w3 w4 q1 q2
      cases hi0 : inP (mvC c d) s lm lt y 0 with
      | false =>
        have g17 := (gr_no (most := li) hi0)
        rw [← g17.1, ← g17.2]
        exact ⟨rmax, fun _ _ => by omega, fun _ _ => by omega, fun _ _ => by omega, fun _ _ => ⟨hcs, by omega, by omega, by omega, by omega⟩, trivial, hiM, oj, fun _ _ _ => ⟨rmax, fun _ => ⟨fun _ => ⟨hcs, by omega, by omega⟩, rfl, rfl⟩, fun h => by omega⟩⟩
      | true =>
        have im : Mono (inP (mvC c d) s lm lt y) li := in_mono rc (by omega) hi0
        obtain ⟨k1, k2⟩ := gr_is im
        obtain ⟨p0, p1, p2, p3⟩ := grI_spec im
        simp only [k1, k2]
        generalize grI (inP (mvC c d) s lm lt y) li = N at *
        obtain ⟨x1, x2, x3, x4⟩ := md N p0 (by omega)
        simp only [x1, x2]
        have ij := im.dn _ N x3 x4 p1 p2
        exact ⟨rmax, fun _ _ => by omega, fun _ _ => by omega, fun _ _ => by omega, fun _ _ => ⟨hcs, by omega, by omega, by omega, by omega⟩, trivial, hiM, oj, fun _ _ _ => ⟨rmax, fun h => absurd trivial h, fun _ => ⟨fun _ => by omega, fun _ => by omega, fun _ => by omega, fun _ => ⟨hcs, by omega, by omega, by omega, by omega⟩, p0, ij⟩⟩⟩
end
end Abs
open Go.ChangeShapes Go.WideShapes Go.ChangeAt Go.RowKit
set_option maxRecDepth 100000 in
theorem cellSafe_lifted (os : Os) (started : os.Started) (H : Type) (enc : TypeId × Value → H) :
    ReturnsInHanded {} Tryz.checked os 5 .any (Rows.cellSafeSpec.pre6 enc Tryz.prog Tryz.f5 Rows.cellSafeRow.domain false) (Rows.cellSafeSpec.post enc Tryz.prog Tryz.f5 false true false false) := by
  refine returnsInHanded_of_change (C := Tryz.checked) (show ownKnob Tryz.prog.godebug = none by kernel_rfl) started (by kernel_rfl) Tryz.func5
    (ChangeSpec.witness6 (enc := enc) (C := Tryz.checked) false ⟨#[], #[.agg #[.int .i64 0, .slice none 0 0, .slice none 0 0, .int .i64 0, .slice none 0 0, .slice none 0 0, .int .i64 0, .int .i64 0, .int .i64 0, .int .i64 0, .int .i64 0, .int .i64 0, .slice none 0 0, .slice none 0 0, .int .i64 0, .int .i64 0, .int .i64 0], .agg #[.slice none 0 0, .slice none 0 0, .slice none 0 0, .int .i64 0, .int .i64 0, .int .i64 0, .int .i64 0, .int .i64 0, .int .i64 0, .int .i64 0, .int .i64 0, .int .i64 0], .slice none 0 0, .int .u64 0], []⟩ 8 (by kernel_rfl) (by kernel_rfl) (by kernel_rfl) (by kernel_rfl)) ?_
  intro W base args ds gs before hval0 hW hcnd _
  have hW0 := hW
  obtain ⟨p, q, hA, hV, rfl, hfz, hnd⟩ := hW0
  refine (Abs.law_calls (enc' := enc) Abs.cellSafe_law (fn := Tryz.f5) (d := 5) (by kernel_rfl) hA hval0).mono fun e W' hh => ?_
  obtain ⟨he, hb⟩ := hh
  subst he
  exact ⟨_, rfl, Abs.law_post (s := Rows.cellSafeSpec) (f := Tryz.f5) (by kernel_rfl) rfl (by kernel_rfl) (by kernel_rfl) rfl 4 (by kernel_rfl) (fun ds hl => by
    rcases ds with _ | ⟨d0, _ | ⟨d1, _ | ⟨d2, _ | ⟨d3, _ | ⟨d4, _⟩⟩⟩⟩⟩
    all_goals first | exact ⟨rfl, rfl, rfl⟩ | (exfalso; simp only [List.length_cons, List.length_nil] at hl; omega)) hW hb⟩
theorem cellSafe_holds : Rows.CellSafeSaid :=
  OpenClaim.holds_of_wide 5 Tryz.f5 rfl rfl rfl rfl rfl rfl rfl ⟨rfl, rfl, rfl, rfl, rfl⟩ rfl rfl rfl rfl rfl (by kernel_rfl) Tryz.func5 (by kernel_rfl)
    (of_decide_eq_true (by kernel_rfl)) (by unfold Func.isWrapper; first | (rw [if_pos (by decide +kernel)]; kernel_rfl) | (rw [if_neg (by decide +kernel)]; exact ⟨rfl, rfl⟩))
    (fun os started H enc _ => cellSafe_lifted os started H enc)
end Go.Proofs.YthpigoanppehbaaGreat

/- A part of the proof: no statement of its own. -/
import Derived.Test.YtlabbaglbcmofaaQGaa234d9a
set_option linter.unusedSimpArgs false
set_option linter.unusedVariables false
/- Watchers: what a reading leaves, and that it can be done. -/
namespace Go.Proofs.Ytlabbaglbcmofaa
namespace Abs
open Go Go.RowKit
noncomputable section
@[reducible] def rdgSh : Sh := .agg [.bool, .bool, .bool, .bool, .int .i64, .int .i64, .int .i64, .int .i64]
structure EwOK (e : Ew) : Prop where
  big : CelMax e.w.cel
  wat : wcB e.w = true
  chk : ChkOK e.w.cel e.w.tn e.w.tl e.w.th e.n e.l e.h
  tk0 : 0 ≤ e.tk
  tk1 : e.tk ≤ 4294967296
@[irreducible] def spL (h : Bool) (a b c d r : Int) : Int := if h = true then behLo a b c d r else -1099511627776
@[irreducible] def spH (h : Bool) (a b c d r : Int) : Int := if h = true then behHi a b c d r else 1099511627776
@[irreducible] def spE (h : Bool) (a b c d r : Int) : Int := if h = true then behE a b c d r else 0
-- the box after each step
@[reducible] def t1L (e : Ew) (a4 : Int) : Nat → Int := upB 2 (mxI (e.l 2) a4) e.l
@[reducible] def t1H (e : Ew) (a5 : Int) : Nat → Int := upB 2 (mnI (e.h 2) a5) e.h
@[reducible] def t2L (e : Ew) (a0 a2 a3 a4 a5 : Int) : Nat → Int := upB 0 (chL e.w e.n (t1L e a4) (t1H e a5) (mxI e.w.cl a2) (mnI e.w.ch a3) a0) (t1L e a4)
@[reducible] def t2H (e : Ew) (a1 a2 a3 a4 a5 : Int) : Nat → Int := upB 0 (chH e.w e.n (t1L e a4) (t1H e a5) (mxI e.w.cl a2) (mnI e.w.ch a3) a1) (t1H e a5)
@[reducible] def t3L (e : Ew) (a0 a1 a2 a3 a4 a5 : Int) : Nat → Int := upB 1 (rxL e.w e.n (t2L e a0 a2 a3 a4 a5) (t2H e a1 a2 a3 a4 a5) (mxI e.w.cl a2) (mnI e.w.ch a3) a1) (t2L e a0 a2 a3 a4 a5)
@[reducible] def t3H (e : Ew) (a0 a1 a2 a3 a4 a5 : Int) : Nat → Int := upB 1 (rxH e.w e.n (t2L e a0 a2 a3 a4 a5) (t2H e a1 a2 a3 a4 a5) (mxI e.w.cl a2) (mnI e.w.ch a3) a0) (t2H e a1 a2 a3 a4 a5)
-- whether the reading can be
@[irreducible] def tlB (e : Ew) (a0 a1 a2 a3 a4 a5 a6 a7 : Int) : Bool :=
  inpW e.w a2 a3 a6 a7 && (ile (t1L e a4 2) (t1H e a5 2) && (ile (t2L e a0 a2 a3 a4 a5 0) (t2H e a1 a2 a3 a4 a5 0) && ile (t3L e a0 a1 a2 a3 a4 a5 1) (t3H e a0 a1 a2 a3 a4 a5 1)))
@[irreducible] def tlX (e : Ew) (a0 a1 a2 a3 a4 a5 a6 a7 : Int) : Int :=
  if farB (widV e.w.cel e.w.tl e.w.th e.n (t3L e a0 a1 a2 a3 a4 a5) (t3H e a0 a1 a2 a3 a4 a5)) (mxI e.w.cl a2) (mnI e.w.ch a3) = true then 0 else 4
-- what a watcher is behind a reading: q: the reading can be read
@[irreducible] def tkE (e : Ew) (q : Bool) (a0 a1 a2 a3 a4 a5 a6 a7 : Int) : Int := if e.gn = true then 21 else if q = true then (if tlB e a0 a1 a2 a3 a4 a5 a6 a7 = true then tlX e a0 a1 a2 a3 a4 a5 a6 a7 else 21) else 2
@[irreducible] def tkK (e : Ew) (q : Bool) (a0 a1 a2 a3 a4 a5 a6 a7 : Int) : Bool := !e.gn && (q && (tlB e a0 a1 a2 a3 a4 a5 a6 a7 && decide (tlX e a0 a1 a2 a3 a4 a5 a6 a7 = 0)))
@[irreducible] def tkL (e : Ew) (q : Bool) (a0 a1 a2 a3 a4 a5 a6 a7 : Int) : Nat → Int := fun k => if tkK e q a0 a1 a2 a3 a4 a5 a6 a7 = true then nbL (widV e.w.cel e.w.tl e.w.th e.n (t3L e a0 a1 a2 a3 a4 a5) (t3H e a0 a1 a2 a3 a4 a5)) (mxI e.w.cl a2) (mnI e.w.ch a3) (in2 e.w a2 a3 a6) (in3 e.w a2 a3 a7) k else e.l k
@[irreducible] def tkH (e : Ew) (q : Bool) (a0 a1 a2 a3 a4 a5 a6 a7 : Int) : Nat → Int := fun k => if tkK e q a0 a1 a2 a3 a4 a5 a6 a7 = true then nbH (widV e.w.cel e.w.tl e.w.th e.n (t3L e a0 a1 a2 a3 a4 a5) (t3H e a0 a1 a2 a3 a4 a5)) (mxI e.w.cl a2) (mnI e.w.ch a3) (in2 e.w a2 a3 a6) (in3 e.w a2 a3 a7) k else e.h k
@[irreducible] def tkT (e : Ew) (q : Bool) (a0 a1 a2 a3 a4 a5 a6 a7 : Int) : Int := if tkK e q a0 a1 a2 a3 a4 a5 a6 a7 = true then e.tk + 1 else e.tk
@[irreducible] def tkG (e : Ew) (q : Bool) (a0 a1 a2 a3 a4 a5 a6 a7 : Int) : Bool := e.gn || (q && !tlB e a0 a1 a2 a3 a4 a5 a6 a7)
@[irreducible] def rdB (w : Wt) (h0 h1 h2 h3 : Bool) (v0 v1 v2 v3 : Int) : Bool := decide (spE h0 w.s00 w.s01 w.s02 w.s03 v0 = 0) && (decide (spE h1 w.s10 w.s11 w.s12 w.s13 v1 = 0) && (decide (spE h2 w.s20 w.s21 w.s22 w.s23 v2 = 0) && decide (spE h3 w.s30 w.s31 w.s32 w.s33 v3 = 0)))
/-- the watcher behind a reading -/
@[irreducible] def ewN (e : Ew) (h0 h1 h2 h3 : Bool) (v0 v1 v2 v3 : Int) : Ew :=
  let q := rdB e.w h0 h1 h2 h3 v0 v1 v2 v3
  let a0 := spL h0 e.w.s00 e.w.s01 e.w.s02 e.w.s03 v0
  let a1 := spH h0 e.w.s00 e.w.s01 e.w.s02 e.w.s03 v0
  let a2 := spL h1 e.w.s10 e.w.s11 e.w.s12 e.w.s13 v1
  let a3 := spH h1 e.w.s10 e.w.s11 e.w.s12 e.w.s13 v1
  let a4 := spL h2 e.w.s20 e.w.s21 e.w.s22 e.w.s23 v2
  let a5 := spH h2 e.w.s20 e.w.s21 e.w.s22 e.w.s23 v2
  let a6 := spL h3 e.w.s30 e.w.s31 e.w.s32 e.w.s33 v3
  let a7 := spH h3 e.w.s30 e.w.s31 e.w.s32 e.w.s33 v3
  ⟨e.w, e.n, tkL e q a0 a1 a2 a3 a4 a5 a6 a7, tkH e q a0 a1 a2 a3 a4 a5 a6 a7, tkT e q a0 a1 a2 a3 a4 a5 a6 a7, tkG e q a0 a1 a2 a3 a4 a5 a6 a7⟩
@[irreducible] def ewE (e : Ew) (h0 h1 h2 h3 : Bool) (v0 v1 v2 v3 : Int) : Int :=
  tkE e (rdB e.w h0 h1 h2 h3 v0 v1 v2 v3) (spL h0 e.w.s00 e.w.s01 e.w.s02 e.w.s03 v0) (spH h0 e.w.s00 e.w.s01 e.w.s02 e.w.s03 v0) (spL h1 e.w.s10 e.w.s11 e.w.s12 e.w.s13 v1) (spH h1 e.w.s10 e.w.s11 e.w.s12 e.w.s13 v1)
    (spL h2 e.w.s20 e.w.s21 e.w.s22 e.w.s23 v2) (spH h2 e.w.s20 e.w.s21 e.w.s22 e.w.s23 v2) (spL h3 e.w.s30 e.w.s31 e.w.s32 e.w.s33 v3) (spH h3 e.w.s30 e.w.s31 e.w.s32 e.w.s33 v3)

theorem ew_five {e : Ew} (hk : EwOK e) : e.n = 5 := hk.chk.m
theorem ck1 {e : Ew} {a4 a5 : Int} (hk : EwOK e) (h : mxI (e.l 2) a4 ≤ mnI (e.h 2) a5) : ChkOK e.w.cel e.w.tn e.w.tl e.w.th e.n (t1L e a4) (t1H e a5) :=
  chk_up hk.chk (box_up2 hk.chk.bx (by unfold mxI; omega) h (by unfold mnI; omega))
theorem ck2 {w : Wt} {n : Nat} {L H : Nat → Int} {c0 c1 a0 a1 : Int} (h : ChkOK w.cel w.tn w.tl w.th n L H) (hle : chL w n L H c0 c1 a0 ≤ chH w n L H c0 c1 a1) :
    ChkOK w.cel w.tn w.tl w.th n (upB 0 (chL w n L H c0 c1 a0) L) (upB 0 (chH w n L H c0 c1 a1) H) := by
  refine chk_up h (box_up0 h.bx ?_ hle ?_)
  · unfold chL
    exact (fstZ_in _ _ _).1
  · unfold chH
    have := (fstZ_in (pB w n L H c0 c1 a1) (H 0 - L 0 + 1).toNat (L 0)).2.1
    have := h.bx.q1
    omega
theorem ck3 {w : Wt} {n : Nat} {L H : Nat → Int} {c0 c1 a0 a1 : Int} (h : ChkOK w.cel w.tn w.tl w.th n L H) (hle : rxL w n L H c0 c1 a1 ≤ rxH w n L H c0 c1 a0) :
    ChkOK w.cel w.tn w.tl w.th n (upB 1 (rxL w n L H c0 c1 a1) L) (upB 1 (rxH w n L H c0 c1 a0) H) := by
  refine chk_up h (box_up1 h.bx ?_ hle ?_)
  · unfold rxL
    have := h.bx.x0
    omega
  · unfold rxH
    have := h.bx.x2
    omega
theorem ck4 {w : Wt} {n : Nat} {L H : Nat → Int} {c0 c1 : Int} (h : ChkOK w.cel w.tn w.tl w.th n L H) (hi : insV (-1048576) c0 c1 1048576 = true) :
    -2147483648 ≤ vbL w n (upB 1 0 L) (upB 1 0 H) c0 c1 ∧ vbL w n (upB 1 0 L) (upB 1 0 H) c0 c1 ≤ 2147483648 ∧ -2147483648 ≤ vbH w n (upB 1 0 L) (upB 1 0 H) c0 c1 ∧ vbH w n (upB 1 0 L) (upB 1 0 H) c0 c1 ≤ 2147483648 :=
  vb_in (chk_up h (box_up1 h.bx (by decide) (by decide) (by decide))) hi
/-- the spans of the input -/
theorem ckI {e : Ew} {a2 a3 a6 a7 : Int} (hk : EwOK e) (h : inpW e.w a2 a3 a6 a7 = true) :
    insV (-1048576) (mxI e.w.cl a2) (mnI e.w.ch a3) 1048576 = true ∧ insV 0 (in2 e.w a2 a3 a6) (in3 e.w a2 a3 a7) 400000 = true := by
  obtain ⟨_, _, _, g3, g4, _⟩ := wcB_iff.1 hk.wat
  obtain ⟨g3, g3', g3''⟩ := insV_iff.1 g3
  obtain ⟨g4, g4', g4''⟩ := insV_iff.1 g4
  unfold inpW at h
  rw [Bool.and_eq_true] at h
  obtain ⟨h1, h2⟩ := h
  have h2 := of_decide_eq_true h2
  have h1' := h1
  unfold inA at h1'
  have h1' := of_decide_eq_true h1'
  constructor
  · unfold mxI mnI
    exact insV_iff.2 ⟨by omega, h1', by omega⟩
  · unfold in2 in3
    rw [if_pos h1, if_pos h1]
    exact insV_iff.2 ⟨by omega, h2, by omega⟩
theorem sbE_far {w : Wt} {n : Nat} {L H : Nat → Int} {il ih : Nat → Int} (h : ChkOK w.cel w.tn w.tl w.th n L H) (h1 : insV (-1048576) (il 0) (ih 0) 1048576 = true) (h2 : insV 0 (il 1) (ih 1) 400000 = true) :
    sbE w.cel w.tn w.tl w.th n L H 2 il ih = if farB (widV w.cel w.tl w.th n L H) (il 0) (ih 0) = true then 0 else 4 := by
  have hc := chk_iff.2 h
  have hb : inpB 2 il ih = true := inpB_iff.2 ⟨rfl, h1, h2⟩
  cases hf : farB (widV w.cel w.tl w.th n L H) (il 0) (ih 0) with
  | true => rw [sbE_0 hc hb hf]; rfl
  | false => rw [sbE_4 hc hb hf]; rfl
/-- a span that a sensor shows -/
theorem beh_in {a b c d r : Int} (h : sensOK a b c d = true) : -4398046511104 ≤ behLo a b c d r ∧ behLo a b c d r ≤ 4398046511104 ∧ -4398046511104 ≤ behHi a b c d r ∧ behHi a b c d r ≤ 4398046511104 := by
  cases hr : readOK b c d r with
  | false =>
    obtain ⟨g1, g2, _⟩ := beh_5 h hr
    rw [g1, g2]; decide
  | true =>
    obtain ⟨g1, g2, _⟩ := beh_0 h hr
    rw [g1, g2]
    have h1 := sens_of h
    have hm1 := mul_div_le r b (by omega)
    have hm2 := mul_cdiv_le r b (by omega)
    simp [readOK] at hr
    generalize b * (r / b) = u at *
    generalize b * -(-r / b) = v at *
    refine ⟨?_, ?_, ?_, ?_⟩ <;> (split <;> omega)
theorem spL_t (a b c d r : Int) : spL true a b c d r = behLo a b c d r := by unfold spL; rfl
theorem spL_f (a b c d r : Int) : spL false a b c d r = -1099511627776 := by unfold spL; rfl
theorem spH_t (a b c d r : Int) : spH true a b c d r = behHi a b c d r := by unfold spH; rfl
theorem spH_f (a b c d r : Int) : spH false a b c d r = 1099511627776 := by unfold spH; rfl
theorem spE_t (a b c d r : Int) : spE true a b c d r = behE a b c d r := by unfold spE; rfl
theorem spE_f (a b c d r : Int) : spE false a b c d r = 0 := by unfold spE; rfl
theorem sp_in {h : Bool} {a b c d r : Int} (hs : sensOK a b c d = true) : -4398046511104 ≤ spL h a b c d r ∧ spL h a b c d r ≤ 4398046511104 ∧ -4398046511104 ≤ spH h a b c d r ∧ spH h a b c d r ≤ 4398046511104 := by
  cases h with
  | true => rw [spL_t, spH_t]; exact beh_in hs
  | false => rw [spL_f, spH_f]; decide
theorem rd_no {e : Ew} {h0 h1 h2 h3 : Bool} {v0 v1 v2 v3 : Int} (h : ¬ ((spE h0 e.w.s00 e.w.s01 e.w.s02 e.w.s03 v0) = 0 ∧ (spE h1 e.w.s10 e.w.s11 e.w.s12 e.w.s13 v1) = 0 ∧ (spE h2 e.w.s20 e.w.s21 e.w.s22 e.w.s23 v2) = 0 ∧ (spE h3 e.w.s30 e.w.s31 e.w.s32 e.w.s33 v3) = 0)) : rdB e.w h0 h1 h2 h3 v0 v1 v2 v3 = false := by
  cases hb : rdB e.w h0 h1 h2 h3 v0 v1 v2 v3 with
  | false => rfl
  | true => unfold rdB at hb; simp at hb; exact absurd hb h
theorem rd_yes {e : Ew} {k0 k1 k2 k3 : Bool} {v0 v1 v2 v3 : Int} (h0 : (spE k0 e.w.s00 e.w.s01 e.w.s02 e.w.s03 v0) = 0) (h1 : (spE k1 e.w.s10 e.w.s11 e.w.s12 e.w.s13 v1) = 0) (h2 : (spE k2 e.w.s20 e.w.s21 e.w.s22 e.w.s23 v2) = 0) (h3 : (spE k3 e.w.s30 e.w.s31 e.w.s32 e.w.s33 v3) = 0) : rdB e.w k0 k1 k2 k3 v0 v1 v2 v3 = true := by unfold rdB; simp [h0, h1, h2, h3]
theorem ew_gn {e : Ew} {h0 h1 h2 h3 : Bool} {v0 v1 v2 v3 : Int} (h : e.gn = true) : 21 = ewE e h0 h1 h2 h3 v0 v1 v2 v3 ∧ (∀ j : Nat, j < e.n → e.l j = (ewN e h0 h1 h2 h3 v0 v1 v2 v3).l j ∧ e.h j = (ewN e h0 h1 h2 h3 v0 v1 v2 v3).h j) ∧ e.tk = (ewN e h0 h1 h2 h3 v0 v1 v2 v3).tk ∧ e.gn = (ewN e h0 h1 h2 h3 v0 v1 v2 v3).gn := by
  unfold ewE ewN tkE tkL tkH tkT tkG tkK; simp [h]
theorem ew_bad {e : Ew} {h0 h1 h2 h3 : Bool} {v0 v1 v2 v3 : Int} (h : e.gn = false) (hq : rdB e.w h0 h1 h2 h3 v0 v1 v2 v3 = false) : 2 = ewE e h0 h1 h2 h3 v0 v1 v2 v3 ∧ (∀ j : Nat, j < e.n → e.l j = (ewN e h0 h1 h2 h3 v0 v1 v2 v3).l j ∧ e.h j = (ewN e h0 h1 h2 h3 v0 v1 v2 v3).h j) ∧ e.tk = (ewN e h0 h1 h2 h3 v0 v1 v2 v3).tk ∧ e.gn = (ewN e h0 h1 h2 h3 v0 v1 v2 v3).gn := by
  unfold ewE ewN tkE tkL tkH tkT tkG tkK; simp [h, hq]
theorem ew_lost {e : Ew} {h0 h1 h2 h3 : Bool} {v0 v1 v2 v3 : Int} (h : e.gn = false) (hq : rdB e.w h0 h1 h2 h3 v0 v1 v2 v3 = true) (hb : tlB e (spL h0 e.w.s00 e.w.s01 e.w.s02 e.w.s03 v0) (spH h0 e.w.s00 e.w.s01 e.w.s02 e.w.s03 v0) (spL h1 e.w.s10 e.w.s11 e.w.s12 e.w.s13 v1) (spH h1 e.w.s10 e.w.s11 e.w.s12 e.w.s13 v1) (spL h2 e.w.s20 e.w.s21 e.w.s22 e.w.s23 v2) (spH h2 e.w.s20 e.w.s21 e.w.s22 e.w.s23 v2) (spL h3 e.w.s30 e.w.s31 e.w.s32 e.w.s33 v3) (spH h3 e.w.s30 e.w.s31 e.w.s32 e.w.s33 v3) = false) : 21 = ewE e h0 h1 h2 h3 v0 v1 v2 v3 ∧ (∀ j : Nat, j < e.n → e.l j = (ewN e h0 h1 h2 h3 v0 v1 v2 v3).l j ∧ e.h j = (ewN e h0 h1 h2 h3 v0 v1 v2 v3).h j) ∧ e.tk = (ewN e h0 h1 h2 h3 v0 v1 v2 v3).tk ∧ (ewN e h0 h1 h2 h3 v0 v1 v2 v3).gn = true := by
  unfold ewE ewN tkE tkL tkH tkT tkG tkK; simp [h, hq, hb]
theorem ew_far {e : Ew} {h0 h1 h2 h3 : Bool} {v0 v1 v2 v3 : Int} (h : e.gn = false) (hq : rdB e.w h0 h1 h2 h3 v0 v1 v2 v3 = true) (hb : tlB e (spL h0 e.w.s00 e.w.s01 e.w.s02 e.w.s03 v0) (spH h0 e.w.s00 e.w.s01 e.w.s02 e.w.s03 v0) (spL h1 e.w.s10 e.w.s11 e.w.s12 e.w.s13 v1) (spH h1 e.w.s10 e.w.s11 e.w.s12 e.w.s13 v1) (spL h2 e.w.s20 e.w.s21 e.w.s22 e.w.s23 v2) (spH h2 e.w.s20 e.w.s21 e.w.s22 e.w.s23 v2) (spL h3 e.w.s30 e.w.s31 e.w.s32 e.w.s33 v3) (spH h3 e.w.s30 e.w.s31 e.w.s32 e.w.s33 v3) = true) (hx : tlX e (spL h0 e.w.s00 e.w.s01 e.w.s02 e.w.s03 v0) (spH h0 e.w.s00 e.w.s01 e.w.s02 e.w.s03 v0) (spL h1 e.w.s10 e.w.s11 e.w.s12 e.w.s13 v1) (spH h1 e.w.s10 e.w.s11 e.w.s12 e.w.s13 v1) (spL h2 e.w.s20 e.w.s21 e.w.s22 e.w.s23 v2) (spH h2 e.w.s20 e.w.s21 e.w.s22 e.w.s23 v2) (spL h3 e.w.s30 e.w.s31 e.w.s32 e.w.s33 v3) (spH h3 e.w.s30 e.w.s31 e.w.s32 e.w.s33 v3) = 4) : 4 = ewE e h0 h1 h2 h3 v0 v1 v2 v3 ∧ (∀ j : Nat, j < e.n → e.l j = (ewN e h0 h1 h2 h3 v0 v1 v2 v3).l j ∧ e.h j = (ewN e h0 h1 h2 h3 v0 v1 v2 v3).h j) ∧ e.tk = (ewN e h0 h1 h2 h3 v0 v1 v2 v3).tk ∧ e.gn = (ewN e h0 h1 h2 h3 v0 v1 v2 v3).gn := by
  unfold ewE ewN tkE tkL tkH tkT tkG tkK; simp [h, hq, hb, hx]
theorem ew_ok {e : Ew} {h0 h1 h2 h3 : Bool} {v0 v1 v2 v3 : Int} (h : e.gn = false) (hq : rdB e.w h0 h1 h2 h3 v0 v1 v2 v3 = true) (hb : tlB e (spL h0 e.w.s00 e.w.s01 e.w.s02 e.w.s03 v0) (spH h0 e.w.s00 e.w.s01 e.w.s02 e.w.s03 v0) (spL h1 e.w.s10 e.w.s11 e.w.s12 e.w.s13 v1) (spH h1 e.w.s10 e.w.s11 e.w.s12 e.w.s13 v1) (spL h2 e.w.s20 e.w.s21 e.w.s22 e.w.s23 v2) (spH h2 e.w.s20 e.w.s21 e.w.s22 e.w.s23 v2) (spL h3 e.w.s30 e.w.s31 e.w.s32 e.w.s33 v3) (spH h3 e.w.s30 e.w.s31 e.w.s32 e.w.s33 v3) = true) (hx : tlX e (spL h0 e.w.s00 e.w.s01 e.w.s02 e.w.s03 v0) (spH h0 e.w.s00 e.w.s01 e.w.s02 e.w.s03 v0) (spL h1 e.w.s10 e.w.s11 e.w.s12 e.w.s13 v1) (spH h1 e.w.s10 e.w.s11 e.w.s12 e.w.s13 v1) (spL h2 e.w.s20 e.w.s21 e.w.s22 e.w.s23 v2) (spH h2 e.w.s20 e.w.s21 e.w.s22 e.w.s23 v2) (spL h3 e.w.s30 e.w.s31 e.w.s32 e.w.s33 v3) (spH h3 e.w.s30 e.w.s31 e.w.s32 e.w.s33 v3) = 0) : 0 = ewE e h0 h1 h2 h3 v0 v1 v2 v3 ∧ (∀ j : Nat, nbL (widV e.w.cel e.w.tl e.w.th e.n (t3L e (spL h0 e.w.s00 e.w.s01 e.w.s02 e.w.s03 v0) (spH h0 e.w.s00 e.w.s01 e.w.s02 e.w.s03 v0) (spL h1 e.w.s10 e.w.s11 e.w.s12 e.w.s13 v1) (spH h1 e.w.s10 e.w.s11 e.w.s12 e.w.s13 v1) (spL h2 e.w.s20 e.w.s21 e.w.s22 e.w.s23 v2) (spH h2 e.w.s20 e.w.s21 e.w.s22 e.w.s23 v2)) (t3H e (spL h0 e.w.s00 e.w.s01 e.w.s02 e.w.s03 v0) (spH h0 e.w.s00 e.w.s01 e.w.s02 e.w.s03 v0) (spL h1 e.w.s10 e.w.s11 e.w.s12 e.w.s13 v1) (spH h1 e.w.s10 e.w.s11 e.w.s12 e.w.s13 v1) (spL h2 e.w.s20 e.w.s21 e.w.s22 e.w.s23 v2) (spH h2 e.w.s20 e.w.s21 e.w.s22 e.w.s23 v2))) (mxI e.w.cl (spL h1 e.w.s10 e.w.s11 e.w.s12 e.w.s13 v1)) (mnI e.w.ch (spH h1 e.w.s10 e.w.s11 e.w.s12 e.w.s13 v1)) (in2 e.w (spL h1 e.w.s10 e.w.s11 e.w.s12 e.w.s13 v1) (spH h1 e.w.s10 e.w.s11 e.w.s12 e.w.s13 v1) (spL h3 e.w.s30 e.w.s31 e.w.s32 e.w.s33 v3)) (in3 e.w (spL h1 e.w.s10 e.w.s11 e.w.s12 e.w.s13 v1) (spH h1 e.w.s10 e.w.s11 e.w.s12 e.w.s13 v1) (spH h3 e.w.s30 e.w.s31 e.w.s32 e.w.s33 v3)) j = (ewN e h0 h1 h2 h3 v0 v1 v2 v3).l j ∧ nbH (widV e.w.cel e.w.tl e.w.th e.n (t3L e (spL h0 e.w.s00 e.w.s01 e.w.s02 e.w.s03 v0) (spH h0 e.w.s00 e.w.s01 e.w.s02 e.w.s03 v0) (spL h1 e.w.s10 e.w.s11 e.w.s12 e.w.s13 v1) (spH h1 e.w.s10 e.w.s11 e.w.s12 e.w.s13 v1) (spL h2 e.w.s20 e.w.s21 e.w.s22 e.w.s23 v2) (spH h2 e.w.s20 e.w.s21 e.w.s22 e.w.s23 v2)) (t3H e (spL h0 e.w.s00 e.w.s01 e.w.s02 e.w.s03 v0) (spH h0 e.w.s00 e.w.s01 e.w.s02 e.w.s03 v0) (spL h1 e.w.s10 e.w.s11 e.w.s12 e.w.s13 v1) (spH h1 e.w.s10 e.w.s11 e.w.s12 e.w.s13 v1) (spL h2 e.w.s20 e.w.s21 e.w.s22 e.w.s23 v2) (spH h2 e.w.s20 e.w.s21 e.w.s22 e.w.s23 v2))) (mxI e.w.cl (spL h1 e.w.s10 e.w.s11 e.w.s12 e.w.s13 v1)) (mnI e.w.ch (spH h1 e.w.s10 e.w.s11 e.w.s12 e.w.s13 v1)) (in2 e.w (spL h1 e.w.s10 e.w.s11 e.w.s12 e.w.s13 v1) (spH h1 e.w.s10 e.w.s11 e.w.s12 e.w.s13 v1) (spL h3 e.w.s30 e.w.s31 e.w.s32 e.w.s33 v3)) (in3 e.w (spL h1 e.w.s10 e.w.s11 e.w.s12 e.w.s13 v1) (spH h1 e.w.s10 e.w.s11 e.w.s12 e.w.s13 v1) (spH h3 e.w.s30 e.w.s31 e.w.s32 e.w.s33 v3)) j = (ewN e h0 h1 h2 h3 v0 v1 v2 v3).h j) ∧ e.tk + 1 = (ewN e h0 h1 h2 h3 v0 v1 v2 v3).tk ∧ e.gn = (ewN e h0 h1 h2 h3 v0 v1 v2 v3).gn := by
  unfold ewE ewN tkE tkL tkH tkT tkG tkK; simp [h, hq, hb, hx]
theorem tlB_iff {e : Ew} {a0 a1 a2 a3 a4 a5 a6 a7 : Int} : tlB e a0 a1 a2 a3 a4 a5 a6 a7 = true ↔ inpW e.w a2 a3 a6 a7 = true ∧ mxI (e.l 2) a4 ≤ mnI (e.h 2) a5 ∧
    chL e.w e.n (t1L e a4) (t1H e a5) (mxI e.w.cl a2) (mnI e.w.ch a3) a0 ≤ chH e.w e.n (t1L e a4) (t1H e a5) (mxI e.w.cl a2) (mnI e.w.ch a3) a1 ∧
    rxL e.w e.n (t2L e a0 a2 a3 a4 a5) (t2H e a1 a2 a3 a4 a5) (mxI e.w.cl a2) (mnI e.w.ch a3) a1 ≤ rxH e.w e.n (t2L e a0 a2 a3 a4 a5) (t2H e a1 a2 a3 a4 a5) (mxI e.w.cl a2) (mnI e.w.ch a3) a0 := by
  unfold tlB
  simp [upB_at, ile]
theorem tlB_no {e : Ew} {a0 a1 a2 a3 a4 a5 a6 a7 : Int} (h : ¬ tlB e a0 a1 a2 a3 a4 a5 a6 a7 = true) : tlB e a0 a1 a2 a3 a4 a5 a6 a7 = false := by
  cases hb : tlB e a0 a1 a2 a3 a4 a5 a6 a7 with
  | false => rfl
  | true => exact absurd hb h
theorem dec_r4 (a b c d : Int) : (decL [.int .i64, .int .i64] (rowAt 2 [.si .i64 a, .si .i64 b, .si .i64 c, .si .i64 d] 0)).1 = a ∧ (decL [.int .i64, .int .i64] (rowAt 2 [.si .i64 a, .si .i64 b, .si .i64 c, .si .i64 d] 0)).2.1 = b ∧
    (decL [.int .i64, .int .i64] (rowAt 2 [.si .i64 a, .si .i64 b, .si .i64 c, .si .i64 d] 1)).1 = c ∧ (decL [.int .i64, .int .i64] (rowAt 2 [.si .i64 a, .si .i64 b, .si .i64 c, .si .i64 d] 1)).2.1 = d := ⟨rfl, rfl, rfl, rfl⟩
theorem tk_last {e NW : Ew} {EE a0 a1 a2 a3 a4 a5 a6 a7 : Int} (hk : EwOK e) (h5 : e.n = 5) (c1 : insV (-1048576) (mxI e.w.cl a2) (mnI e.w.ch a3) 1048576 = true) (c2 : insV 0 (in2 e.w a2 a3 a6) (in3 e.w a2 a3 a7) 400000 = true)
    (k3 : ChkOK e.w.cel e.w.tn e.w.tl e.w.th e.n (t3L e a0 a1 a2 a3 a4 a5) (t3H e a0 a1 a2 a3 a4 a5)) (HF : tlX e a0 a1 a2 a3 a4 a5 a6 a7 = 4 → 4 = EE ∧ (∀ j : Nat, j < e.n → e.l j = NW.l j ∧ e.h j = NW.h j) ∧ e.tk = NW.tk ∧ e.gn = NW.gn)
    (HK : tlX e a0 a1 a2 a3 a4 a5 a6 a7 = 0 → 0 = EE ∧ (∀ j : Nat, nbL (widV e.w.cel e.w.tl e.w.th e.n (t3L e a0 a1 a2 a3 a4 a5) (t3H e a0 a1 a2 a3 a4 a5)) (mxI e.w.cl a2) (mnI e.w.ch a3) (in2 e.w a2 a3 a6) (in3 e.w a2 a3 a7) j = NW.l j ∧ nbH (widV e.w.cel e.w.tl e.w.th e.n (t3L e a0 a1 a2 a3 a4 a5) (t3H e a0 a1 a2 a3 a4 a5)) (mxI e.w.cl a2) (mnI e.w.ch a3) (in2 e.w a2 a3 a6) (in3 e.w a2 a3 a7) j = NW.h j) ∧ e.tk + 1 = NW.tk ∧ e.gn = NW.gn)
    {il ih : Nat → Int} (i0 : il 0 = mxI e.w.cl a2) (i1 : ih 0 = mnI e.w.ch a3) (i2 : il 1 = in2 e.w a2 a3 a6) (i3 : ih 1 = in3 e.w a2 a3 a7) :
    (¬ sbE e.w.cel e.w.tn e.w.tl e.w.th e.n (t3L e a0 a1 a2 a3 a4 a5) (t3H e a0 a1 a2 a3 a4 a5) 2 il ih = 0 → sbE e.w.cel e.w.tn e.w.tl e.w.th e.n (t3L e a0 a1 a2 a3 a4 a5) (t3H e a0 a1 a2 a3 a4 a5) 2 il ih = EE ∧ (∀ j : Nat, j < e.n → e.l j = NW.l j ∧ e.h j = NW.h j) ∧ e.tk = NW.tk ∧ e.gn = NW.gn) ∧ (sbE e.w.cel e.w.tn e.w.tl e.w.th e.n (t3L e a0 a1 a2 a3 a4 a5) (t3H e a0 a1 a2 a3 a4 a5) 2 il ih = 0 → -9223372036854775808 ≤ e.tk + 1 ∧ e.tk + 1 ≤ 9223372036854775807 ∧ 0 = EE ∧ sbN (sbE e.w.cel e.w.tn e.w.tl e.w.th e.n (t3L e a0 a1 a2 a3 a4 a5) (t3H e a0 a1 a2 a3 a4 a5) 2 il ih) = e.n ∧
      (∀ j : Nat, j < e.n → nbL (widV e.w.cel e.w.tl e.w.th e.n (t3L e a0 a1 a2 a3 a4 a5) (t3H e a0 a1 a2 a3 a4 a5)) (mxI e.w.cl a2) (mnI e.w.ch a3) (in2 e.w a2 a3 a6) (in3 e.w a2 a3 a7) j = NW.l j ∧ nbH (widV e.w.cel e.w.tl e.w.th e.n (t3L e a0 a1 a2 a3 a4 a5) (t3H e a0 a1 a2 a3 a4 a5)) (mxI e.w.cl a2) (mnI e.w.ch a3) (in2 e.w a2 a3 a6) (in3 e.w a2 a3 a7) j = NW.h j) ∧ e.tk + 1 = NW.tk ∧ e.gn = NW.gn) := by
  have hS := sbE_far (il := il) (ih := ih) k3 (by rw [i0, i1]; exact c1) (by rw [i2, i3]; exact c2)
  rw [i0, i1] at hS
  have hX : sbE e.w.cel e.w.tn e.w.tl e.w.th e.n (t3L e a0 a1 a2 a3 a4 a5) (t3H e a0 a1 a2 a3 a4 a5) 2 il ih = tlX e a0 a1 a2 a3 a4 a5 a6 a7 := by unfold tlX; exact hS
  rw [hX]
  refine ⟨fun h => ?_, fun h => ?_⟩
  · have h4 : tlX e a0 a1 a2 a3 a4 a5 a6 a7 = 4 := by
      unfold tlX at h ⊢
      split
      · rename_i hf; rw [if_pos hf] at h; exact absurd rfl h
      · rfl
    rw [h4]; exact HF h4
  · obtain ⟨g1, g2, g3, g4⟩ := HK h
    have := hk.tk0
    have := hk.tk1
    exact ⟨by omega, by omega, g1, by rw [h, h5]; exact sbN_5 rfl, fun j _ => g2 j, g3, g4⟩
end
end Abs
end Go.Proofs.Ytlabbaglbcmofaa

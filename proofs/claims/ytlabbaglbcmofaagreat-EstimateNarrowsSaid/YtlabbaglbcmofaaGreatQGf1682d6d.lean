/- A part of the proof: no statement of its own. -/
import Derived.Test.YtlabbaglbcmofaaGreatQGe174e108
set_option linter.unusedSimpArgs false
set_option linter.unusedVariables false
namespace Go.Proofs.YtlabbaglbcmofaaGreat
namespace Abs
open Go Go.RowKit
noncomputable section
attribute [local irreducible] FnSat
structure WidOK (x : Wid) : Prop where
 lo : celB x.lo = true
 hi : celB x.hi = true
 n : x.n = 5
 bx : boxB 5 x.bl x.bh = true
 pr : x.lo.pair <= x.hi.pair
 f0 : 0 <= x.fl
 f1 : x.fl <= 65536
 g0 : 0 <= x.fh
 g1 : x.fh <= 65536
 r0 : 0 <= x.rl
 r1 : x.rl <= 1048576
 s0 : 0 <= x.rh
 s1 : x.rh <= 1048576
structure BoxOK (l h : Nat -> Int) : Prop where
 q0 : 0 <= l 0
 q1 : l 0 <= h 0
 q2 : h 0 <= 4294967296
 x0 : -8388608 <= l 1
 x1 : l 1 <= h 1
 x2 : h 1 <= 8388608
 t0 : 0 <= l 2
 t1 : l 2 <= h 2
 t2 : h 2 <= 400000
 h0 : 0 <= l 3
 h1 : l 3 <= h 3
 h2 : h 3 <= 1099511627776
 a0 : 0 <= l 4
 a1 : l 4 <= h 4
 a2 : h 4 <= 1099511627776
theorem boxB_ok {l h : Nat -> Int} : boxB 5 l h = true ↔ BoxOK l h := by
 rw [boxB_iff]
 simp only [insV_iff]
 constructor
 ·rintro ⟨-, ⟨a, b, c⟩, ⟨d, e, f⟩, ⟨g, i, j⟩, ⟨k, m, n⟩, ⟨o, p, q⟩⟩
  exact ⟨a, b, c, d, e, f, g, i, j, k, m, n, o, p, q⟩
 ·intro h
  exact ⟨trivial, ⟨h.q0, h.q1, h.q2⟩, ⟨h.x0, h.x1, h.x2⟩, ⟨h.t0, h.t1, h.t2⟩, ⟨h.h0, h.h1, h.h2⟩, ⟨h.a0, h.a1, h.a2⟩⟩
@[irreducible] def prL (a b c d : Int) : Int := min (min (a * c) (a * d)) (min (b * c) (b * d))
@[irreducible] def prH (a b c d : Int) : Int := max (max (a * c) (a * d)) (max (b * c) (b * d))
def proS' : Spec [spanSh, spanSh] := ⟨fun (((a : Int), (b : Int), _), ((c : Int), (d : Int), _), _) => (-1099511627776 <= a /\ a <= 1099511627776) /\ (-1099511627776 <= b /\ b <= 1099511627776) /\ (-4194304 <= c /\ c <= 4194304) /\ (-4194304 <= d /\ d <= 4194304),
 fun (((a : Int), (b : Int), _), ((c : Int), (d : Int), _), _) => .tup [.si .i64 (prL a b c d), .si .i64 (prH a b c d)]⟩
theorem pro_ok' : FnSpec Tryz.prog 145 _ proS' := by
 have e : proS' = proS := by
  unfold proS' proS
  congr 1
  funext x
  obtain ⟨⟨a, b, _⟩, ⟨c, d, _⟩, _⟩ := x
  show AV.tup [.si .i64 (prL a b c d), .si .i64 (prH a b c d)] = _
  unfold prL prH
  rfl
 rw [e]; exact pro_ok
theorem prB {a b c d K L : Int} (ha : -K <= a /\ a <= K) (hb : -K <= b /\ b <= K) (hc : -L <= c /\ c <= L) (hd : -L <= d /\ d <= L) : -(K * L) <= prL a b c d /\ prL a b c d <= prH a b c d /\ prH a b c d <= K * L := by
 have h1 := mulB ha hc
 have h2 := mulB ha hd
 have h3 := mulB hb hc
 have h4 := mulB hb hd
 unfold prL prH
 omega
theorem sqB {a b K : Int} (hK : 0 <= K) (h0 : -K <= a) (h1 : a <= b) (h2 : b <= K) : 0 <= sqL a b /\ sqL a b <= sqH a b /\ sqH a b <= K * K := by
 have m1 := sq_in (a := a) (A := K) h0 (by omega)
 have m2 := sq_in (a := b) (A := K) (by omega) h2
 unfold sqL sqH
 split <;> omega
@[irreducible] def wvL (x : Wid) (a b : Int) : Int := openV x.lo x.fl - x.bh 1 - dvI (prH a b x.rl x.rh) 1000
@[irreducible] def wvH (x : Wid) (a b : Int) : Int := openV x.hi x.fh - x.bl 1 - dvI (prL a b x.rl x.rh) 1000
@[irreducible] def whL (x : Wid) (a b : Int) : Int := dvI (sqL a b * x.rl) 1000000000 + (if 0 < x.lo.pair then dvI (sqL (x.bl 1) (x.bh 1)) (1000 * x.hi.pair) else 0)
@[irreducible] def whH (x : Wid) (a b : Int) : Int := dvI (sqH a b * x.rh) 1000000000 + (if 0 < x.hi.pair then dvI (sqH (x.bl 1) (x.bh 1)) (1000 * max 1 x.lo.pair) else 0)
@[irreducible] def wtL (x : Wid) (a b u v : Int) : Int := clipV (x.bl 2 + dvI (1000 * whL x a b) x.hi.hcap + min (dvI ((u - x.bl 2) * x.lo.cool) 65536) (dvI ((u - x.bl 2) * x.hi.cool) 65536)) 0 400000
@[irreducible] def wtH (x : Wid) (a b u v : Int) : Int := clipV (x.bh 2 + dvI (1000 * whH x a b) x.lo.hcap + max (dvI ((v - x.bh 2) * x.lo.cool) 65536) (dvI ((v - x.bh 2) * x.hi.cool) 65536)) 0 400000
noncomputable def SBl : Sums := ⟨(198, mkSum _ sqrS) :: (145, mkSum _ proS') :: SBk.one, SBk.two, SBk.lo, SBk.eqs, SBk.its, SBk.imm⟩
theorem SBl_ok : SumsOK Tryz.prog SBl := ((SBk_ok.cons Tryz.func145 (by kernel_rfl) (by kernel_rfl) pro_ok').cons Tryz.func198 (by kernel_rfl) (by kernel_rfl) sqr_ok)
def wvS : Spec [.ptr widCells, spanSh] := ⟨fun (x, ((a : Int), (b : Int), _), _) => WidOK (widOf x) /\ insV (-1048576) a b 1048576 = true, fun (x, ((a : Int), (b : Int), _), _) => .agg [.si .i64 (wvL (widOf x) a b), .si .i64 (wvH (widOf x) a b)]⟩
theorem open_in {c : Cel} {f : Int} (hc : celB c = true) : -8388608 <= openV c f /\ openV c f <= 16777216 := by
 have hk := celB_iff.1 hc
 have := sc_val hk.ocv f
 have := hk.sh0
 have := hk.sh1
 unfold openV
 omega
set_option maxRecDepth 100000 in
set_option maxHeartbeats 4000000 in
theorem wv_ok : FnSpec Tryz.prog 158 _ wvS := by
 refine FnSpec.of SBl_ok mixed (U := 0) (I := fun _ => []) Tryz.func158 rfl (by kernel_rfl) rfl rfl (by decide +kernel) ?_
 rintro ⟨x, ⟨(a : Int), (b : Int), ⟨⟩⟩, ⟨⟩⟩ hpre
 obtain ⟨x, rfl⟩ := wid_ex x
 have hpre : WidOK x /\ insV (-1048576) a b 1048576 = true := by have : WidOK (widOf (widD x)) /\ insV (-1048576) a b 1048576 = true := hpre; rwa [widOf_D] at this
 obtain ⟨h, hi⟩ := hpre
 unfold FnSat
 conv => arg 2; reduce
 simp [wvS, proS', openS, divS, ElEq, getB, goneB, aliveB, and_assoc]
 obtain ⟨i0, i1, i2⟩ := insV_iff.1 hi
 have hb := boxB_ok.1 h.bx
 have := h.n
 have o1 := open_in (f := x.fl) h.lo
 have o2 := open_in (f := x.fh) h.hi
 have := h.f0
 have := h.f1
 have := h.g0
 have := h.g1
 have := h.r0
 have := h.r1
 have := h.s0
 have := h.s1
 have := hb.x0
 have := hb.x1
 have := hb.x2
 have hp := prB (a := a) (b := b) (c := x.rl) (d := x.rh) (K := 1048576) (L := 1048576) (by omega) (by omega) (by omega) (by omega)
 have d1 := dvI_ge (a := prL a b x.rl x.rh) (d := 1000) (m := -1099511628) (by decide) (by omega)
 have d2 := dvI_le (a := prH a b x.rl x.rh) (d := 1000) (m := 1099511628) (by decide) (by omega)
 have d3 := dvI_mono (a := prL a b x.rl x.rh) (b := prH a b x.rl x.rh) (d := 1000) (by decide) hp.2.1
 have el : wvL x a b = openV x.lo x.fl - x.bh 1 - dvI (prH a b x.rl x.rh) 1000 := by unfold wvL; rfl
 have eh : wvH x a b = openV x.hi x.fh - x.bl 1 - dvI (prL a b x.rl x.rh) 1000 := by unfold wvH; rfl
 rw [el, eh]
 have l1 := h.lo
 have l2 := h.hi
 repeat' (first | refine And.intro ?_ ?_ | intro _)
 all_goals first | omega | rfl | assumption
theorem wh_parts {x : Wid} {a b : Int} (h : WidOK x) (hi : insV (-1048576) a b 1048576 = true) :
  0 <= sqL a b * x.rl /\ sqL a b * x.rl <= 1152921504606846976 /\ 0 <= sqH a b * x.rh /\ sqH a b * x.rh <= 1152921504606846976 /\
  (0 <= dvI (sqL a b * x.rl) 1000000000 /\ dvI (sqL a b * x.rl) 1000000000 <= 1152921505) /\ (0 <= dvI (sqH a b * x.rh) 1000000000 /\ dvI (sqH a b * x.rh) 1000000000 <= 1152921505) /\
  (0 <= sqL (x.bl 1) (x.bh 1) /\ sqL (x.bl 1) (x.bh 1) <= 70368744177664) /\ (0 <= sqH (x.bl 1) (x.bh 1) /\ sqH (x.bl 1) (x.bh 1) <= 70368744177664) /\
  (0 <= dvI (sqH (x.bl 1) (x.bh 1)) (1000 * max 1 x.lo.pair) /\ dvI (sqH (x.bl 1) (x.bh 1)) (1000 * max 1 x.lo.pair) <= 70368744177664) /\
  (1 <= x.hi.pair -> 0 <= dvI (sqL (x.bl 1) (x.bh 1)) (1000 * x.hi.pair) /\ dvI (sqL (x.bl 1) (x.bh 1)) (1000 * x.hi.pair) <= 70368744177664) := by
 obtain ⟨i0, i1, i2⟩ := insV_iff.1 hi
 have hb := boxB_ok.1 h.bx
 have q1 := sqB (a := a) (b := b) (K := 1048576) (by decide) (by omega) (by omega) (by omega)
 have q2 := sqB (a := x.bl 1) (b := x.bh 1) (K := 8388608) (by decide) hb.x0 hb.x1 hb.x2
 have m1 := mul_in (a := sqL a b) (b := x.rl) (A := 1099511627776) (B := 1048576) q1.1 (by omega) h.r0 h.r1
 have m2 := mul_in (a := sqH a b) (b := x.rh) (A := 1099511627776) (B := 1048576) (by omega) (by omega) h.s0 h.s1
 have d1 := dvI_nonneg (a := sqL a b * x.rl) (d := 1000000000) (by decide) m1.1
 have d2 := dvI_le (a := sqL a b * x.rl) (d := 1000000000) (m := 1152921505) (by decide) (by omega)
 have d3 := dvI_nonneg (a := sqH a b * x.rh) (d := 1000000000) (by decide) m2.1
 have d4 := dvI_le (a := sqH a b * x.rh) (d := 1000000000) (m := 1152921505) (by decide) (by omega)
 have d5 := dvI_nonneg (a := sqH (x.bl 1) (x.bh 1)) (d := 1000 * max 1 x.lo.pair) (by omega) (by omega)
 have d6 := dvI_le (a := sqH (x.bl 1) (x.bh 1)) (d := 1000 * max 1 x.lo.pair) (m := 70368744177664) (by omega) (by omega)
 refine ⟨m1.1, by omega, m2.1, by omega, ⟨d1, d2⟩, ⟨d3, d4⟩, by omega, by omega, ⟨d5, d6⟩, fun hp => ?_⟩
 exact ⟨dvI_nonneg (by omega) (by omega), dvI_le (by omega) (by omega)⟩
theorem wh_b {x : Wid} {a b : Int} (h : WidOK x) (hi : insV (-1048576) a b 1048576 = true) : (0 <= whL x a b /\ whL x a b <= 70369897099169) /\ 0 <= whH x a b /\ whH x a b <= 70369897099169 := by
 obtain ⟨p1, p2, p3, p4, p5, p6, p7, p8, p9, p10⟩ := wh_parts h hi
 have := h.pr
 unfold whL whH
 constructor
 ·split
  ·have := p10 (by omega); omega
  ·omega
 ·split <;> omega
def whS : Spec [.ptr widCells, spanSh] := ⟨fun (x, ((a : Int), (b : Int), _), _) => WidOK (widOf x) /\ insV (-1048576) a b 1048576 = true, fun (x, ((a : Int), (b : Int), _), _) => .tup [.si .i64 (whL (widOf x) a b), .si .i64 (whH (widOf x) a b)]⟩
set_option maxRecDepth 100000 in
set_option maxHeartbeats 4000000 in
theorem wh_ok : FnSpec Tryz.prog 183 _ whS := by
 refine FnSpec.of SBl_ok mixed (U := 0) (I := fun _ => []) Tryz.func183 rfl (by kernel_rfl) rfl rfl (by decide +kernel) ?_
 rintro ⟨x, ⟨(a : Int), (b : Int), ⟨⟩⟩, ⟨⟩⟩ hpre
 obtain ⟨x, rfl⟩ := wid_ex x
 have hpre : WidOK x /\ insV (-1048576) a b 1048576 = true := by have : WidOK (widOf (widD x)) /\ insV (-1048576) a b 1048576 = true := hpre; rwa [widOf_D] at this
 obtain ⟨h, hi⟩ := hpre
 unfold FnSat
 conv => arg 2; reduce
 simp [whS, sqrS, divS, ElEq, getB, goneB, aliveB, and_assoc]
 obtain ⟨i0, i1, i2⟩ := insV_iff.1 hi
 have hb := boxB_ok.1 h.bx
 have := h.n
 have := hb.x0
 have := hb.x1
 have := hb.x2
 have := (celB_iff.1 h.lo).pr0
 have := (celB_iff.1 h.lo).pr1
 have := (celB_iff.1 h.hi).pr1
 have := h.pr
 obtain ⟨p1, p2, p3, p4, p5, p6, p7, p8, p9, p10⟩ := wh_parts h hi
 have c1 : 0 < x.lo.pair -> whL x a b = dvI (sqL a b * x.rl) 1000000000 + dvI (sqL (x.bl 1) (x.bh 1)) (1000 * x.hi.pair) := fun q => by unfold whL; rw [if_pos q]
 have c2 : x.lo.pair <= 0 -> whL x a b = dvI (sqL a b * x.rl) 1000000000 := fun q => by unfold whL; rw [if_neg (by omega), Int.add_zero]
 have c3 : 0 < x.hi.pair -> whH x a b = dvI (sqH a b * x.rh) 1000000000 + dvI (sqH (x.bl 1) (x.bh 1)) (1000 * max 1 x.lo.pair) := fun q => by unfold whH; rw [if_pos q]
 have c4 : x.hi.pair <= 0 -> whH x a b = dvI (sqH a b * x.rh) 1000000000 := fun q => by unfold whH; rw [if_neg (by omega), Int.add_zero]
 refine ⟨by omega, by omega, by omega, by omega, by omega, by omega, by omega, by omega, by omega, by omega, by omega, by omega, by omega, by omega, by omega, by omega, by omega, fun q => ?_, fun q => ?_⟩
 ·have := p10 (by omega)
  refine ⟨by omega, by omega, by omega, by omega, by omega, by omega, by omega, fun q' => ?_, fun q' => by omega⟩
  exact ⟨by omega, by omega, by omega, by omega, by omega, by omega, by omega, (c1 q).symm, (c3 q').symm⟩
 ·refine ⟨fun q' => ?_, fun q' => ⟨(c2 q).symm, (c4 q').symm⟩⟩
  exact ⟨by omega, by omega, by omega, by omega, by omega, by omega, by omega, (c2 q).symm, (c3 q').symm⟩
noncomputable def SBm : Sums := ⟨(183, mkSum _ whS) :: (158, mkSum _ wvS) :: SBl.one, SBl.two, SBl.lo, SBl.eqs, SBl.its, SBl.imm⟩
theorem SBm_ok : SumsOK Tryz.prog SBm := ((SBl_ok.cons Tryz.func158 (by kernel_rfl) (by kernel_rfl) wv_ok).cons Tryz.func183 (by kernel_rfl) (by kernel_rfl) wh_ok)
def wtS : Spec [.ptr widCells, spanSh, spanSh] := ⟨fun (x, ((a : Int), (b : Int), _), ((u : Int), (v : Int), _), _) => WidOK (widOf x) /\ insV (-1048576) a b 1048576 = true /\ insV 0 u v 400000 = true,
 fun (x, ((a : Int), (b : Int), _), ((u : Int), (v : Int), _), _) => .agg [.si .i64 (wtL (widOf x) a b u v), .si .i64 (wtH (widOf x) a b u v)]⟩
set_option maxRecDepth 100000 in
set_option maxHeartbeats 4000000 in
theorem wt_ok : FnSpec Tryz.prog 147 _ wtS := by
 refine FnSpec.of SBm_ok mixed (U := 0) (I := fun _ => []) Tryz.func147 rfl (by kernel_rfl) rfl rfl (by decide +kernel) ?_
 rintro ⟨x, ⟨(a : Int), (b : Int), ⟨⟩⟩, ⟨(u : Int), (v : Int), ⟨⟩⟩, ⟨⟩⟩ hpre
 obtain ⟨x, rfl⟩ := wid_ex x
 have hpre : WidOK x /\ insV (-1048576) a b 1048576 = true /\ insV 0 u v 400000 = true := by have : WidOK (widOf (widD x)) /\ insV (-1048576) a b 1048576 = true /\ insV 0 u v 400000 = true := hpre; rwa [widOf_D] at this
 obtain ⟨h, hi, hu⟩ := hpre
 unfold FnSat
 conv => arg 2; reduce
 simp [wtS, whS, divS, hulS, clipS, decL, takeL, dropL, ElEq, getB, goneB, aliveB, and_assoc]
 obtain ⟨i0, i1, i2⟩ := insV_iff.1 hi
 have hb := boxB_ok.1 h.bx
 have el : ∀ (A B : Int) (v : Nat -> Int), v 0 = A -> v 1 = B -> hlo 2 v = min A B := fun A B v e0 e1 => by rw [hlo2, e0, e1]
 have eh : ∀ (A B : Int) (v : Nat -> Int), v 0 = A -> v 1 = B -> hhi 2 v = max A B := fun A B v e0 e1 => by rw [hhi2, e0, e1]
 generalize hz : hlo 2 _ = z
 generalize hy : hhi 2 _ = y
 have hz' : z = min (dvI ((u - x.bl 2) * x.lo.cool) 65536) (dvI ((u - x.bl 2) * x.hi.cool) 65536) := by rw [<- hz]; exact el _ _ _ rfl rfl
 have hy' : y = max (dvI ((v - x.bh 2) * x.lo.cool) 65536) (dvI ((v - x.bh 2) * x.hi.cool) 65536) := by rw [<- hy]; exact eh _ _ _ rfl rfl
 clear hz hy
 obtain ⟨u0, u1, u2⟩ := insV_iff.1 hu
 have := h.n
 have := hb.t0
 have := hb.t1
 have := hb.t2
 have kl := celB_iff.1 h.lo
 have kh := celB_iff.1 h.hi
 have m1 := mul_ab (a := u - x.bl 2) (b := x.lo.cool) (A := 400000) (B := 65536) (by omega) (by omega) kl.co0 kl.co1
 have m2 := mul_ab (a := u - x.bl 2) (b := x.hi.cool) (A := 400000) (B := 65536) (by omega) (by omega) kh.co0 kh.co1
 have m3 := mul_ab (a := v - x.bh 2) (b := x.lo.cool) (A := 400000) (B := 65536) (by omega) (by omega) kl.co0 kl.co1
 have m4 := mul_ab (a := v - x.bh 2) (b := x.hi.cool) (A := 400000) (B := 65536) (by omega) (by omega) kh.co0 kh.co1
 have d1 := dvI_ge (a := (u - x.bl 2) * x.lo.cool) (d := 65536) (m := -400000) (by decide) (by omega)
 have d2 := dvI_ge (a := (u - x.bl 2) * x.hi.cool) (d := 65536) (m := -400000) (by decide) (by omega)
 have d3 := dvI_ge (a := (v - x.bh 2) * x.lo.cool) (d := 65536) (m := -400000) (by decide) (by omega)
 have d4 := dvI_ge (a := (v - x.bh 2) * x.hi.cool) (d := 65536) (m := -400000) (by decide) (by omega)
 have d5 := dvI_le (a := (u - x.bl 2) * x.lo.cool) (d := 65536) (m := 400000) (by decide) (by omega)
 have d6 := dvI_le (a := (u - x.bl 2) * x.hi.cool) (d := 65536) (m := 400000) (by decide) (by omega)
 have d7 := dvI_le (a := (v - x.bh 2) * x.lo.cool) (d := 65536) (m := 400000) (by decide) (by omega)
 have d8 := dvI_le (a := (v - x.bh 2) * x.hi.cool) (d := 65536) (m := 400000) (by decide) (by omega)
 obtain ⟨w1, w2⟩ := wh_b h hi
 have := kl.hc0
 have := kh.hc0
 have g1 := dvI_nonneg (a := 1000 * whL x a b) (d := x.hi.hcap) (by omega) (by omega)
 have g2 := dvI_le (a := 1000 * whL x a b) (d := x.hi.hcap) (m := 70369897099169000) (by omega) (by omega)
 have g3 := dvI_nonneg (a := 1000 * whH x a b) (d := x.lo.hcap) (by omega) (by omega)
 have g4 := dvI_le (a := 1000 * whH x a b) (d := x.lo.hcap) (m := 70369897099169000) (by omega) (by omega)
 have row : ∀ (A B : Int) (k : Nat), k < 2 -> CanL [.int .i64] (rowAt 1 [.si .i64 A, .si .i64 B] k) := fun A B k hk => by
  match k, hk with
  | 0, _ => simp [rowAt, takeL, dropL]
  | 1, _ => simp [rowAt, takeL, dropL]
 have eL : wtL x a b u v = clipV (x.bl 2 + dvI (1000 * whL x a b) x.hi.hcap + z) 0 400000 := by rw [hz']; unfold wtL; rfl
 have eH : wtH x a b u v = clipV (x.bh 2 + dvI (1000 * whH x a b) x.lo.hcap + y) 0 400000 := by rw [hy']; unfold wtH; rfl
 have zb : -400000 <= z /\ z <= 400000 := by omega
 have yb : -400000 <= y /\ y <= 400000 := by omega
 clear hz' hy'
 rw [eL, eH]
 repeat' (first | refine And.intro ?_ ?_ | intro _)
 all_goals first | assumption | omega | rfl | exact row _ _ _ ‹_›
noncomputable def SBn : Sums := ⟨(147, mkSum _ wtS) :: SBm.one, SBm.two, SBm.lo, SBm.eqs, SBm.its, SBm.imm⟩
theorem SBn_ok : SumsOK Tryz.prog SBn := (SBm_ok.cons Tryz.func147 (by kernel_rfl) (by kernel_rfl) wt_ok)
@[irreducible] def nbTL (x : Wid) (a b : Int) : Int := x.bl 3 + max (max 0 a) (-b)
@[irreducible] def nbTH (x : Wid) (a b : Int) : Int := x.bh 3 + max b (-a)
@[irreducible] def nbAL (x : Wid) : Int := x.bl 4 + valL x.lo.stress (x.bl 2)
@[irreducible] def nbAH (x : Wid) : Int := x.bh 4 + valL x.lo.stress (x.bh 2)
@[irreducible] def nbRL (x : Wid) (a b : Int) : Int := slackV x.lo (x.bl 1) (prL a b x.lo.pair x.hi.pair)
@[irreducible] def nbRH (x : Wid) (a b : Int) : Int := slackV x.lo (x.bh 1) (prH a b x.lo.pair x.hi.pair)
@[irreducible] def nbQL (x : Wid) (a b : Int) : Int := clipV (x.bl 0 - b - x.hi.leak) 0 (roomV x.lo (wearV x.lo (nbTH x a b) (nbAH x)))
@[irreducible] def nbQH (x : Wid) (a b : Int) : Int := clipV (x.bh 0 - a - x.lo.leak) 0 (roomV x.hi (wearV x.lo (nbTL x a b) (nbAL x)))
@[irreducible] def nbL (x : Wid) (a b u v : Int) (k : Nat) : Int := match k with | 0 => nbQL x a b | 1 => nbRL x a b | 2 => wtL x a b u v | 3 => nbTL x a b | _ => nbAL x
@[irreducible] def nbH (x : Wid) (a b u v : Int) (k : Nat) : Int := match k with | 0 => nbQH x a b | 1 => nbRH x a b | 2 => wtH x a b u v | 3 => nbTH x a b | _ => nbAH x
theorem nb_0 (x : Wid) (a b u v : Int) : nbL x a b u v 0 = nbQL x a b /\ nbH x a b u v 0 = nbQH x a b := by unfold nbL nbH; exact ⟨rfl, rfl⟩
theorem nb_1 (x : Wid) (a b u v : Int) : nbL x a b u v 1 = nbRL x a b /\ nbH x a b u v 1 = nbRH x a b := by unfold nbL nbH; exact ⟨rfl, rfl⟩
theorem nb_2 (x : Wid) (a b u v : Int) : nbL x a b u v 2 = wtL x a b u v /\ nbH x a b u v 2 = wtH x a b u v := by unfold nbL nbH; exact ⟨rfl, rfl⟩
theorem nb_3 (x : Wid) (a b u v : Int) : nbL x a b u v 3 = nbTL x a b /\ nbH x a b u v 3 = nbTH x a b := by unfold nbL nbH; exact ⟨rfl, rfl⟩
theorem nb_4 (x : Wid) (a b u v : Int) : nbL x a b u v 4 = nbAL x /\ nbH x a b u v 4 = nbAH x := by unfold nbL nbH; exact ⟨rfl, rfl⟩
end
end Abs
end Go.Proofs.YtlabbaglbcmofaaGreat

namespace Go.Proofs.YtlabbaglbcmofaaGreat
namespace Abs
open Go Go.RowKit
noncomputable section
attribute [local irreducible] FnSat
theorem nbL_ite {x : Wid} {a b u v : Int} {j : Nat} (h : j < 5) : (if j = 0 then clipV (x.bl 0 - b - x.hi.leak) 0 (roomV x.lo (wearV x.lo (nbTH x a b) (nbAH x))) else if j = 4 then nbAL x else if j = 3 then nbTL x a b else if j = 2 then wtL x a b u v else
  if j = 1 then slackV x.lo (x.bl 1) (prL a b x.lo.pair x.hi.pair) else 0) = nbL x a b u v j := by
 match j, h with
 | 0, _ => rw [if_pos rfl, (nb_0 x a b u v).1]; unfold nbQL; rfl
 | 1, _ => rw [(nb_1 x a b u v).1]; unfold nbRL; rfl
 | 2, _ => rw [(nb_2 x a b u v).1]; rfl
 | 3, _ => rw [(nb_3 x a b u v).1]; rfl
 | 4, _ => rw [(nb_4 x a b u v).1]; rfl
theorem nbH_ite {x : Wid} {a b u v : Int} {j : Nat} (h : j < 5) : (if j = 0 then clipV (x.bh 0 - a - x.lo.leak) 0 (roomV x.hi (wearV x.lo (nbTL x a b) (nbAL x))) else if j = 4 then nbAH x else if j = 3 then nbTH x a b else if j = 2 then wtH x a b u v else
  if j = 1 then slackV x.lo (x.bh 1) (prH a b x.lo.pair x.hi.pair) else 0) = nbH x a b u v j := by
 match j, h with
 | 0, _ => rw [if_pos rfl, (nb_0 x a b u v).2]; unfold nbQH; rfl
 | 1, _ => rw [(nb_1 x a b u v).2]; unfold nbRH; rfl
 | 2, _ => rw [(nb_2 x a b u v).2]; rfl
 | 3, _ => rw [(nb_3 x a b u v).2]; rfl
 | 4, _ => rw [(nb_4 x a b u v).2]; rfl
def nxbS : SpecN [.ptr widCells, spanSh, spanSh] := ⟨fun (x, ((a : Int), (b : Int), _), ((u : Int), (v : Int), _), _) => WidOK (widOf x) /\ insV (-1048576) a b 1048576 = true /\ insV 0 u v 400000 = true,
 fun _ => .row 2, fun (x, ((a : Int), (b : Int), _), ((u : Int), (v : Int), _), _) => [.dead, .dead, .row 32 2 (.lit 5) (fun k => [.si .i64 (nbL (widOf x) a b u v k), .si .i64 (nbH (widOf x) a b u v k)])]⟩
set_option maxRecDepth 100000 in
set_option maxHeartbeats 4000000 in
theorem nxb_ok : FnSpecN Tryz.prog 74 _ nxbS := by
 refine FnSpecN.of SBn_ok mixed (U := 0) (I := fun _ => []) Tryz.func74 rfl (by kernel_rfl) rfl rfl (by decide +kernel) ?_
 rintro ⟨x, ⟨(a : Int), (b : Int), ⟨⟩⟩, ⟨(u : Int), (v : Int), ⟨⟩⟩, ⟨⟩⟩ hpre
 obtain ⟨x, rfl⟩ := wid_ex x
 have hpre : WidOK x /\ insV (-1048576) a b 1048576 = true /\ insV 0 u v 400000 = true := by have : WidOK (widOf (widD x)) /\ insV (-1048576) a b 1048576 = true /\ insV 0 u v 400000 = true := hpre; rwa [widOf_D] at this
 obtain ⟨h, hi, hu⟩ := hpre
 unfold FnSat
 conv => arg 2; reduce
 simp [nxbS, proS', wtS, divS, hulS, clipS, slackS, cvalS, wearS, roomS, maxRow, decL, takeL, dropL, ElEq, getB, goneB, aliveB, and_assoc]
 obtain ⟨i0, i1, i2⟩ := insV_iff.1 hi
 have hb := boxB_ok.1 h.bx
 have := h.n
 have := hb.q0
 have := hb.q1
 have := hb.q2
 have := hb.x0
 have := hb.x1
 have := hb.x2
 have := hb.t0
 have := hb.t1
 have := hb.t2
 have := hb.h0
 have := hb.h1
 have := hb.h2
 have := hb.a0
 have := hb.a1
 have := hb.a2
 have kl := celB_iff.1 h.lo
 have kh := celB_iff.1 h.hi
 have := kl.pr0
 have := kl.pr1
 have := kh.pr0
 have := kh.pr1
 have := kl.kp0
 have := kl.kp1
 have := kl.cap0
 have := kl.cap1
 have := kh.cap0
 have := kh.cap1
 have := kl.lk0
 have := kl.lk1
 have := kh.lk0
 have := kh.lk1
 obtain ⟨-, -, -, -, m1, m2⟩ := kl.max
 have hp := prB (a := a) (b := b) (c := x.lo.pair) (d := x.hi.pair) (K := 1048576) (L := 1048576) (by omega) (by omega) (by omega) (by omega)
 have cs := (scB_iff.1 kl.stress).1
 have v1 := sc_val kl.stress (x.bl 2)
 have v2 := sc_val kl.stress (x.bh 2)
 have e1 : atL x.lo.stress (x.bl 2) = valL x.lo.stress (x.bl 2) := atL_val cs (by omega) (by omega)
 have e2 : atL x.lo.stress (x.bh 2) = valL x.lo.stress (x.bh 2) := atL_val cs (by omega) (by omega)
 have n3 : nbTL x a b = x.bl 3 + max 0 (max a (-b)) := by unfold nbTL; rw [Int.max_assoc]
 have n4 : nbTH x a b = x.bh 3 + max b (-a) := by unfold nbTH; rfl
 have n5 : nbAL x = x.bl 4 + valL x.lo.stress (x.bl 2) := by unfold nbAL; rfl
 have n6 : nbAH x = x.bh 4 + valL x.lo.stress (x.bh 2) := by unfold nbAH; rfl
 rw [e1, e2, <- n3, <- n4, <- n5, <- n6]
 have w1 : WearOK x.lo (nbTH x a b) (nbAH x) := ⟨kl.cy0, kl.cy1, kl.al0, kl.al1, by omega, by omega, by omega, by omega⟩
 have w2 : WearOK x.lo (nbTL x a b) (nbAL x) := ⟨kl.cy0, kl.cy1, kl.al0, kl.al1, by omega, by omega, by omega, by omega⟩
 have y1 := wearV_in w1
 have y2 := wearV_in w2
 have a1 : 0 <= nbAL x /\ nbAL x <= 2199023255552 := by omega
 have a2 : 0 <= nbAH x /\ nbAH x <= 2199023255552 := by omega
 have a3 : 0 <= nbTL x a b /\ nbTL x a b <= 2199023255552 := by omega
 have a4 : 0 <= nbTH x a b /\ nbTH x a b <= 2199023255552 := by omega
 clear v1 v2 n3 n4 n5 n6
 repeat' (first | refine And.intro ?_ ?_ | intro _)
 all_goals first | assumption | omega | skip
 ·exact nbL_ite ‹_›
 ·exact nbH_ite ‹_›
noncomputable def SBo : Sums := ⟨(74, mkSumN _ nxbS) :: SBn.one, SBn.two, SBn.lo, SBn.eqs, SBn.its, SBn.imm⟩
theorem SBo_ok : SumsOK Tryz.prog SBo := (SBn_ok.add Tryz.func74 (by kernel_rfl) (by kernel_rfl) (mkSumN_ok nxb_ok))
end
end Abs
end Go.Proofs.YtlabbaglbcmofaaGreat

namespace Go.Proofs.YtlabbaglbcmofaaGreat
namespace Abs
open Go Go.RowKit
noncomputable section
attribute [local irreducible] FnSat
theorem pcV_in {x o : Int} (hx : 0 <= x) (ho : 1 <= o) : 0 <= pcV x o /\ pcV x o <= 65536 := by
 have := dvI_nonneg (a := x * 65536) (d := o) ho (by omega)
 unfold pcV
 omega
theorem resV_in {c : Cel} {t w : Int} : 0 <= resV c t w /\ resV c t w <= 1048576 := by unfold resV; exact clipV_in (by decide)
structure ChkOK (c : Cel) (n : Nat) (lo hi : Nat -> Int) (m : Nat) (bl bh : Nat -> Int) : Prop where
 cel : celB c = true
 n : n = 7
 m : m = 5
 cl : celB (mvC c lo) = true
 ch : celB (mvC c hi) = true
 le : ∀ k, k < 7 -> spanOK (lo k) (hi k) = true
 bx : BoxOK bl bh
theorem chk_iff {c : Cel} {n : Nat} {lo hi : Nat -> Int} {m : Nat} {bl bh : Nat -> Int} : chkV c n lo hi m bl bh = 0 ↔ ChkOK c n lo hi m bl bh := by
 rw [chkV_zero, posV_zero]
 constructor
 ·rintro ⟨⟨h1, h2, h3, h4⟩, h5⟩
  obtain ⟨h6, h7⟩ := vldB_iff.1 h2
  obtain rfl : n = 7 := by omega
  obtain rfl : m = 5 := (boxB_iff.1 h5).1
  exact ⟨h1, rfl, rfl, h3, h4, h7, boxB_ok.1 h5⟩
 ·intro h
  obtain ⟨h1, rfl, rfl, h3, h4, h7, h5⟩ := h
  exact ⟨⟨h1, vldB_iff.2 ⟨rfl, h7⟩, h3, h4⟩, boxB_ok.2 h5⟩
theorem wid_of {c : Cel} {n : Nat} {lo hi : Nat -> Int} {m : Nat} {bl bh : Nat -> Int} (h : ChkOK c n lo hi m bl bh) : WidOK (widV c lo hi m bl bh) := by
 have h3 := spanOK_iff.1 (h.le 3 (by decide))
 have q0 := h.bx.q0
 have q1 := h.bx.q1
 have f1 := pcV_in (x := bl 0) (o := roomV (mvC c hi) (wdWL c bl)) q0 roomV_in.1
 have f2 := pcV_in (x := bh 0) (o := roomV (mvC c lo) (wdWL c bh)) (by omega) roomV_in.1
 have r1 := @resV_in (mvC c lo) (bh 2) (wdWL c bl)
 have r2 := @resV_in (mvC c hi) (bl 2) (wdWL c bh)
 constructor
 ·rw [widV_lo]; exact h.cl
 ·rw [widV_hi]; exact h.ch
 ·rw [widV_n]; exact h.m
 ·rw [widV_bl, widV_bh]; exact boxB_ok.2 h.bx
 ·rw [widV_lo, widV_hi, mvC_pair, mvC_pair]; omega
 ·rw [widV_fl]; unfold wdFL; exact f1.1
 ·rw [widV_fl]; unfold wdFL; exact f1.2
 ·rw [widV_fh]; unfold wdFH; exact f2.1
 ·rw [widV_fh]; unfold wdFH; exact f2.2
 ·rw [widV_rl]; unfold wdRL; exact r1.1
 ·rw [widV_rl]; unfold wdRL; exact r1.2
 ·rw [widV_rh]; unfold wdRH; exact r2.1
 ·rw [widV_rh]; unfold wdRH; exact r2.2
@[irreducible] def okV (e x : Int) : Int := if e = 0 then x else 0
theorem okV_0 {e x : Int} (h : e = 0) : okV e x = x := by unfold okV; rw [if_pos h]
theorem okV_1 {e x : Int} (h : ¬ e = 0) : okV e x = 0 := by unfold okV; rw [if_neg h]
@[irreducible] def orE (e : Int) (b : Bool) (x : Int) : Int := if e = 0 then (if b = true then 0 else x) else e
theorem orE_e {e x : Int} {b : Bool} (h : ¬ e = 0) : orE e b x = e := by unfold orE; rw [if_neg h]
theorem orE_f {e x : Int} {b : Bool} (h : e = 0) (hb : b = false) : orE e b x = x := by unfold orE; rw [if_pos h, if_neg (by rw [hb]; decide)]
theorem orE_t {e x : Int} {b : Bool} (h : e = 0) (hb : b = true) : orE e b x = 0 := by unfold orE; rw [if_pos h, if_pos hb]
noncomputable def SBp : Sums := ⟨(71, mkSum _ chkS) :: SBo.one, SBo.two, SBo.lo, SBo.eqs, SBo.its, SBo.imm⟩
theorem SBp_ok : SumsOK Tryz.prog SBp := (SBo_ok.cons Tryz.func71 (by kernel_rfl) (by kernel_rfl) chk_ok)
def vbS : Spec [celSh, spansSh, spansSh, spanSh] := ⟨fun (c, x, y, _) => CelMax (celOf c) /\ x.1 <= maxLen /\ y.1 <= maxLen,
 fun (c, (n, el), (m, em), ((a : Int), (b : Int), _), _) => .tup [.agg [
  .si .i64 (okV (orE (chkV (celOf c) n (fun k => (el k).1) (fun k => (el k).2.1) m (fun k => (em k).1) (fun k => (em k).2.1)) (insV (-1048576) a b 1048576) 2) (wvL (widV (celOf c) (fun k => (el k).1) (fun k => (el k).2.1) m (fun k => (em k).1) (fun k => (em k).2.1)) a b)),
  .si .i64 (okV (orE (chkV (celOf c) n (fun k => (el k).1) (fun k => (el k).2.1) m (fun k => (em k).1) (fun k => (em k).2.1)) (insV (-1048576) a b 1048576) 2) (wvH (widV (celOf c) (fun k => (el k).1) (fun k => (el k).2.1) m (fun k => (em k).1) (fun k => (em k).2.1)) a b))],
  .si .i64 (orE (chkV (celOf c) n (fun k => (el k).1) (fun k => (el k).2.1) m (fun k => (em k).1) (fun k => (em k).2.1)) (insV (-1048576) a b 1048576) 2)]⟩
set_option maxRecDepth 100000 in
set_option maxHeartbeats 4000000 in
theorem vb_ok : FnSpec Tryz.prog 167 _ vbS := by
 refine FnSpec.of SBp_ok mixed (U := 0) (I := fun _ => []) Tryz.func167 rfl (by kernel_rfl) rfl rfl (by decide +kernel) ?_
 rintro ⟨c, ⟨n, el⟩, ⟨m, em⟩, ⟨(a : Int), (b : Int), ⟨⟩⟩, ⟨⟩⟩ hpre
 obtain ⟨c, rfl⟩ := cel_ex c
 obtain ⟨lo, hi, rfl⟩ : ∃ lo hi : Nat -> Int, el = fun k => (lo k, hi k, ()) := ⟨fun k => (el k).1, fun k => (el k).2.1, rfl⟩
 obtain ⟨bl, bh, rfl⟩ : ∃ bl bh : Nat -> Int, em = fun k => (bl k, bh k, ()) := ⟨fun k => (em k).1, fun k => (em k).2.1, rfl⟩
 have hpre : CelMax c /\ n <= maxLen /\ m <= maxLen := by have : CelMax (celOf (celD c)) /\ n <= maxLen /\ m <= maxLen := hpre; rwa [celOf_D] at this
 obtain ⟨hc, hn, hm⟩ := hpre
 unfold FnSat
 conv => arg 2; reduce
 simp [vbS, chkS, insC, sprS, wvS, ElEq, getB, goneB, aliveB, and_assoc]
 exact ⟨hc, hn, hm, fun h => ⟨(okV_1 (by rw [orE_e h]; exact h)).symm, (okV_1 (by rw [orE_e h]; exact h)).symm, (orE_e h).symm⟩, fun h => ⟨fun hb => ⟨(okV_1 (by rw [orE_f h hb]; decide)).symm, (okV_1 (by rw [orE_f h hb]; decide)).symm, (orE_f h hb).symm⟩,
  fun hb => ⟨(chkV_zero.1 h).1, (chkV_zero.1 h).2, wid_of (chk_iff.1 h), hb, (okV_0 (orE_t h hb)).symm, (okV_0 (orE_t h hb)).symm, (orE_t h hb).symm⟩⟩⟩
@[irreducible] def inpB (n : Nat) (il ih : Nat -> Int) : Bool := decide (n = 2) && insV (-1048576) (il 0) (ih 0) 1048576 && insV 0 (il 1) (ih 1) 400000
theorem inpB_iff {n : Nat} {il ih : Nat -> Int} : inpB n il ih = true ↔ n = 2 /\ insV (-1048576) (il 0) (ih 0) 1048576 = true /\ insV 0 (il 1) (ih 1) 400000 = true := by unfold inpB; simp [and_assoc]
theorem inpB_no {n : Nat} {il ih : Nat -> Int} (h : inpB n il ih = true -> False) : inpB n il ih = false := by
 cases hb : inpB n il ih with
 | false => rfl
 | true => exact (h hb).elim
@[irreducible] def farB (x : Wid) (a b : Int) : Bool := decide (nbTH x a b <= 1099511627776) && decide (nbAH x <= 1099511627776)
theorem farB_iff {x : Wid} {a b : Int} : farB x a b = true ↔ nbTH x a b <= 1099511627776 /\ nbAH x <= 1099511627776 := by unfold farB; simp
@[irreducible] def sbE (c : Cel) (n : Nat) (lo hi : Nat -> Int) (m : Nat) (bl bh : Nat -> Int) (p : Nat) (il ih : Nat -> Int) : Int := orE (orE (chkV c n lo hi m bl bh) (inpB p il ih) 2) (farB (widV c lo hi m bl bh) (il 0) (ih 0)) 4
@[irreducible] def sbN (e : Int) : Nat := if e = 0 then 5 else 0
theorem farB_no {x : Wid} {a b : Int} (h : farB x a b = true -> False) : farB x a b = false := by
 cases hb : farB x a b with
 | false => rfl
 | true => exact (h hb).elim
theorem sbN_0 {e : Int} (h : ¬ e = 0) : sbN e = 0 := by unfold sbN; rw [if_neg h]
theorem sbN_5 {e : Int} (h : e = 0) : sbN e = 5 := by unfold sbN; rw [if_pos h]
theorem sbE_1 {c : Cel} {n : Nat} {lo hi : Nat -> Int} {m : Nat} {bl bh : Nat -> Int} {p : Nat} {il ih : Nat -> Int} (h : ¬ chkV c n lo hi m bl bh = 0) : sbE c n lo hi m bl bh p il ih = chkV c n lo hi m bl bh := by
 unfold sbE
 rw [orE_e (e := orE (chkV c n lo hi m bl bh) (inpB p il ih) 2) (by rw [orE_e h]; exact h), orE_e h]
theorem sbE_2 {c : Cel} {n : Nat} {lo hi : Nat -> Int} {m : Nat} {bl bh : Nat -> Int} {p : Nat} {il ih : Nat -> Int} (h : chkV c n lo hi m bl bh = 0) (hb : inpB p il ih = false) : sbE c n lo hi m bl bh p il ih = 2 := by
 unfold sbE
 rw [orE_e (e := orE (chkV c n lo hi m bl bh) (inpB p il ih) 2) (by rw [orE_f h hb]; decide), orE_f h hb]
theorem sbE_4 {c : Cel} {n : Nat} {lo hi : Nat -> Int} {m : Nat} {bl bh : Nat -> Int} {p : Nat} {il ih : Nat -> Int} (h : chkV c n lo hi m bl bh = 0) (hb : inpB p il ih = true) (hf : farB (widV c lo hi m bl bh) (il 0) (ih 0) = false) : sbE c n lo hi m bl bh p il ih = 4 := by
 unfold sbE
 rw [orE_f (orE_t h hb) hf]
theorem sbE_0 {c : Cel} {n : Nat} {lo hi : Nat -> Int} {m : Nat} {bl bh : Nat -> Int} {p : Nat} {il ih : Nat -> Int} (h : chkV c n lo hi m bl bh = 0) (hb : inpB p il ih = true) (hf : farB (widV c lo hi m bl bh) (il 0) (ih 0) = true) : sbE c n lo hi m bl bh p il ih = 0 := by
 unfold sbE
 rw [orE_t (orE_t h hb) hf]
def sbS : Spec [celSh, spansSh, spansSh, spansSh] := ⟨fun (c, x, y, z, _) => CelMax (celOf c) /\ x.1 <= maxLen /\ y.1 <= maxLen /\ z.1 <= maxLen,
 fun (c, (n, el), (m, em), (p, en), _) => .tup [.slc (.sym (sbN (sbE (celOf c) n (fun k => (el k).1) (fun k => (el k).2.1) m (fun k => (em k).1) (fun k => (em k).2.1) p (fun k => (en k).1) (fun k => (en k).2.1)))) 2
     (fun k => [.si .i64 (nbL (widV (celOf c) (fun k => (el k).1) (fun k => (el k).2.1) m (fun k => (em k).1) (fun k => (em k).2.1)) (en 0).1 (en 0).2.1 (en 1).1 (en 1).2.1 k), .si .i64 (nbH (widV (celOf c) (fun k => (el k).1) (fun k => (el k).2.1) m (fun k => (em k).1) (fun k => (em k).2.1)) (en 0).1 (en 0).2.1 (en 1).1 (en 1).2.1 k)]),
  .si .i64 (sbE (celOf c) n (fun k => (el k).1) (fun k => (el k).2.1) m (fun k => (em k).1) (fun k => (em k).2.1) p (fun k => (en k).1) (fun k => (en k).2.1))]⟩
set_option maxRecDepth 100000 in
set_option maxHeartbeats 4000000 in
theorem sb_ok : FnSpec Tryz.prog 22 _ sbS := by
 refine FnSpec.of SBp_ok mixed (U := 0) (I := fun _ => []) Tryz.func22 rfl (by kernel_rfl) rfl rfl (by decide +kernel) ?_
 rintro ⟨c, ⟨n, el⟩, ⟨m, em⟩, ⟨p, en⟩, ⟨⟩⟩ hpre
 obtain ⟨c, rfl⟩ := cel_ex c
 obtain ⟨lo, hi, rfl⟩ : ∃ lo hi : Nat -> Int, el = fun k => (lo k, hi k, ()) := ⟨fun k => (el k).1, fun k => (el k).2.1, rfl⟩
 obtain ⟨bl, bh, rfl⟩ : ∃ bl bh : Nat -> Int, em = fun k => (bl k, bh k, ()) := ⟨fun k => (em k).1, fun k => (em k).2.1, rfl⟩
 obtain ⟨il, ih, rfl⟩ : ∃ il ih : Nat -> Int, en = fun k => (il k, ih k, ()) := ⟨fun k => (en k).1, fun k => (en k).2.1, rfl⟩
 have hpre : CelMax c /\ n <= maxLen /\ m <= maxLen /\ p <= maxLen := by have : CelMax (celOf (celD c)) /\ n <= maxLen /\ m <= maxLen /\ p <= maxLen := hpre; rwa [celOf_D] at this
 obtain ⟨hc, hn, hm, hp⟩ := hpre
 unfold FnSat
 conv => arg 2; reduce
 simp [sbS, chkS, insC, sprS, nxbS, ElEq, getB, goneB, aliveB, and_assoc]
 refine ⟨hc, hn, hm, fun h => ⟨sbN_0 (by rw [sbE_1 h]; exact h), (sbE_1 h).symm⟩, fun h => ⟨fun q => by omega, fun q _ => by omega, fun q => ?_, fun q1 q2 q3 => ?_⟩⟩
 ·have hb : inpB p il ih = false := inpB_no fun hb => by
   obtain ⟨b1, b2, b3⟩ := inpB_iff.1 hb
   rcases q with (q | q) | q
   ·omega
   ·rw [b2] at q; cases q
   ·rw [b3] at q; cases q
  exact ⟨sbN_0 (by rw [sbE_2 h hb]; decide), (sbE_2 h hb).symm⟩
 ·have hb : inpB p il ih = true := inpB_iff.2 ⟨by omega, q2, q3⟩
  have e3 := (nb_3 (widV c lo hi m bl bh) (il 0) (ih 0) (il 1) (ih 1)).2
  have e4 := (nb_4 (widV c lo hi m bl bh) (il 0) (ih 0) (il 1) (ih 1)).2
  refine ⟨(chkV_zero.1 h).1, (chkV_zero.1 h).2, by omega, by omega, wid_of (chk_iff.1 h), q2, q3, fun k _ => rfl, fun q => ?_, fun r1 r2 => ?_⟩
  ·have hf : farB (widV c lo hi m bl bh) (il 0) (ih 0) = false := farB_no fun hf => by
    obtain ⟨f1, f2⟩ := farB_iff.1 hf
    rcases q with q | q
    ·have : 1099511627776 < nbH (widV c lo hi m bl bh) (il 0) (ih 0) (il 1) (ih 1) 3 := q
     omega
    ·have : 1099511627776 < nbH (widV c lo hi m bl bh) (il 0) (ih 0) (il 1) (ih 1) 4 := q
     omega
   exact ⟨sbN_0 (by rw [sbE_4 h hb hf]; decide), (sbE_4 h hb hf).symm⟩
  ·have r1 : nbH (widV c lo hi m bl bh) (il 0) (ih 0) (il 1) (ih 1) 3 <= 1099511627776 := r1
   have r2 : nbH (widV c lo hi m bl bh) (il 0) (ih 0) (il 1) (ih 1) 4 <= 1099511627776 := r2
   have hf : farB (widV c lo hi m bl bh) (il 0) (ih 0) = true := farB_iff.2 ⟨by omega, by omega⟩
   exact ⟨(sbN_5 (sbE_0 h hb hf)).symm, (sbE_0 h hb hf).symm⟩
noncomputable def SBq : Sums := ⟨(22, mkSum _ sbS) :: (167, mkSum _ vbS) :: SBp.one, SBp.two, SBp.lo, SBp.eqs, SBp.its, SBp.imm⟩
theorem SBq_ok : SumsOK Tryz.prog SBq := ((SBp_ok.cons Tryz.func167 (by kernel_rfl) (by kernel_rfl) vb_ok).cons Tryz.func22 (by kernel_rfl) (by kernel_rfl) sb_ok)
end
end Abs
end Go.Proofs.YtlabbaglbcmofaaGreat

namespace Go.Proofs.YtlabbaglbcmofaaGreat
namespace Abs
open Go Go.RowKit
noncomputable section
attribute [local irreducible] FnSat
noncomputable def SPo : Sums := ⟨SBq.one, SBq.two, SBq.lo, SBq.eqs, SBq.its, SBq.imm⟩
theorem SPo_ok : SumsOK Tryz.prog SPo := SBq_ok
theorem decL_cons (s : Sh) (l : List Sh) (a : AV) (m : List AV) : decL (s :: l) (a :: m) = (dec s a, decL l m) := rfl
theorem dec_int (q q' : IntKind) (n : Int) : dec (.int q) (.si q' n) = n := rfl
theorem mvC_zero (c : Cel) : mvC c (fun _ => 0) = c := by
 unfold mvC
 simp only [Int.add_zero]
 unfold Cel.cap Cel.ocv Cel.shift Cel.cold Cel.extra Cel.pair Cel.keep Cel.leak Cel.hcap Cel.cool Cel.stress Cel.cyc Cel.agel Cel.grow
 rfl
@[irreducible] def stV (s : Sta) : Nat -> Int := sel5 s.q s.rx s.tp s.th s.ag
theorem stV_n (s : Sta) : stV s 0 = s.q /\ stV s 1 = s.rx /\ stV s 2 = s.tp /\ stV s 3 = s.th /\ stV s 4 = s.ag := by unfold stV; simp
@[irreducible] def ptW (c : Cel) (s : Sta) : Wid := widV c (fun _ => 0) (fun _ => 0) 5 (stV s) (stV s)
theorem ptW_n (c : Cel) (s : Sta) : (ptW c s).lo = c /\ (ptW c s).hi = c /\ (ptW c s).bl = stV s /\ (ptW c s).bh = stV s /\ (ptW c s).fl = fillV c s /\ (ptW c s).fh = fillV c s /\ (ptW c s).rl = rV c s /\ (ptW c s).rh = rV c s := by
 obtain ⟨e0, e1, e2, e3, e4⟩ := stV_n s
 unfold ptW
 rw [widV_lo, widV_hi, widV_bl, widV_bh, widV_fl, widV_fh, widV_rl, widV_rh, mvC_zero]
 have ew : wdWL c (stV s) = wV c s := by unfold wdWL wV; rw [e3, e4]
 refine ⟨rfl, rfl, rfl, rfl, ?_, ?_, ?_, ?_⟩
 ·unfold wdFL fillV kV; rw [mvC_zero, ew, e0]
 ·unfold wdFH fillV kV; rw [mvC_zero, ew, e0]
 ·unfold wdRL rV; rw [mvC_zero, ew, e2]
 ·unfold wdRH rV; rw [mvC_zero, ew, e2]
theorem pr_one (i r : Int) : prL i i r r = i * r /\ prH i i r r = i * r := by unfold prL prH; omega
theorem sq_one (i : Int) : sqL i i = i * i /\ sqH i i = i * i := by
 unfold sqL sqH
 constructor
 ·split
  ·have : i = 0 := by omega
   subst this; rfl
  ·omega
 ·omega
theorem pt_volt (c : Cel) (s : Sta) (i : Int) : wvL (ptW c s) i i = voltV c s i /\ wvH (ptW c s) i i = voltV c s i := by
 obtain ⟨e0, e1, e2, e3, e4⟩ := stV_n s
 obtain ⟨f1, f2, f3, f4, f5, f6, f7, f8⟩ := ptW_n c s
 unfold wvL wvH voltV opnV
 rw [f1, f2, f3, f4, f5, f6, f7, f8, e1, (pr_one i (rV c s)).1, (pr_one i (rV c s)).2]
 exact ⟨rfl, rfl⟩
theorem pt_heat (c : Cel) (s : Sta) (i : Int) : whL (ptW c s) i i = heatV c s i /\ whH (ptW c s) i i = heatV c s i := by
 obtain ⟨e0, e1, e2, e3, e4⟩ := stV_n s
 obtain ⟨f1, f2, f3, f4, f5, f6, f7, f8⟩ := ptW_n c s
 unfold whL whH heatV
 rw [f1, f2, f3, f4, f7, f8, e1, (sq_one i).1, (sq_one i).2, (sq_one s.rx).1, (sq_one s.rx).2]
 refine ⟨rfl, ?_⟩
 by_cases hp : 0 < c.pair
 ·rw [if_pos hp, if_pos hp, show max 1 c.pair = c.pair by omega]
 ·rw [if_neg hp, if_neg hp]
theorem pt_temp (c : Cel) (s : Sta) (i a : Int) : wtL (ptW c s) i i a a = nxT c s i a /\ wtH (ptW c s) i i a a = nxT c s i a := by
 obtain ⟨e0, e1, e2, e3, e4⟩ := stV_n s
 obtain ⟨f1, f2, f3, f4, f5, f6, f7, f8⟩ := ptW_n c s
 obtain ⟨g1, g2⟩ := pt_heat c s i
 unfold wtL wtH nxT
 rw [g1, g2, f1, f2, f3, f4, e2]
 constructor
 ·congr 2; omega
 ·congr 2; omega
theorem pt_next (c : Cel) (s : Sta) (i a : Int) (k : Nat) (hk : k < 5) :
  nbL (ptW c s) i i a a k = stV ⟨nxQ c s i, nxR c s i, nxT c s i a, nxH s i, nxA c s⟩ k /\ nbH (ptW c s) i i a a k = stV ⟨nxQ c s i, nxR c s i, nxT c s i a, nxH s i, nxA c s⟩ k := by
 obtain ⟨e0, e1, e2, e3, e4⟩ := stV_n s
 obtain ⟨f1, f2, f3, f4, f5, f6, f7, f8⟩ := ptW_n c s
 obtain ⟨g0, g1, g2, g3, g4⟩ := stV_n ⟨nxQ c s i, nxR c s i, nxT c s i a, nxH s i, nxA c s⟩
 simp only [Sta.q_mk, Sta.rx_mk, Sta.tp_mk, Sta.th_mk, Sta.ag_mk] at g0 g1 g2 g3 g4
 have hH : nbTL (ptW c s) i i = nxH s i /\ nbTH (ptW c s) i i = nxH s i := by
  unfold nbTL nbTH nxH
  rw [f3, f4, e3]
  constructor
  ·congr 1; omega
  ·rfl
 have hA : nbAL (ptW c s) = nxA c s /\ nbAH (ptW c s) = nxA c s := by
  unfold nbAL nbAH nxA
  rw [f1, f3, f4, e4, e2]
  exact ⟨rfl, rfl⟩
 match k, hk with
 | 0, _ =>
   rw [(nb_0 _ _ _ _ _).1, (nb_0 _ _ _ _ _).2, g0]
   unfold nbQL nbQH nxQ
   rw [hH.1, hH.2, hA.1, hA.2, f1, f2, f3, f4, e0]
   exact ⟨rfl, rfl⟩
 | 1, _ =>
   rw [(nb_1 _ _ _ _ _).1, (nb_1 _ _ _ _ _).2, g1]
   unfold nbRL nbRH nxR
   rw [f1, f2, f3, f4, e1, (pr_one i c.pair).1, (pr_one i c.pair).2]
   exact ⟨rfl, rfl⟩
 | 2, _ => rw [(nb_2 _ _ _ _ _).1, (nb_2 _ _ _ _ _).2, g2]; exact pt_temp c s i a
 | 3, _ => rw [(nb_3 _ _ _ _ _).1, (nb_3 _ _ _ _ _).2, g3]; exact hH
 | 4, _ => rw [(nb_4 _ _ _ _ _).1, (nb_4 _ _ _ _ _).2, g4]; exact hA
end
end Abs
end Go.Proofs.YtlabbaglbcmofaaGreat

namespace Go.Proofs.YtlabbaglbcmofaaGreat
namespace Abs
open Go Go.RowKit
noncomputable section
attribute [local irreducible] FnSat
theorem sq_mono {i j : Int} (h0 : 0 <= i) (h : i <= j) : i * i <= j * j := Int.mul_le_mul h h h0 (by omega)
noncomputable def SMa : Sums := ⟨SRg.one, SRg.two, SRg.lo, SRg.eqs, SRg.its, SRg.imm⟩
theorem SMa_ok : SumsOK Tryz.prog SMa := SRg_ok
end
end Abs
end Go.Proofs.YtlabbaglbcmofaaGreat

namespace Go.Proofs.YtlabbaglbcmofaaGreat
namespace Abs
open Go
noncomputable section
theorem seg {u p q z : Int} (h1 : p <= z) (h2 : z <= q) : min (u * p) (u * q) <= u * z /\ u * z <= max (u * p) (u * q) := by
 rcases Int.lt_or_le u 0 with hu | hu
 ·have a : u * z <= u * p := Int.mul_le_mul_of_nonpos_left (show u <= 0 by omega) h1
  have b : u * q <= u * z := Int.mul_le_mul_of_nonpos_left (show u <= 0 by omega) h2
  omega
 ·have a := Int.mul_le_mul_of_nonneg_left h1 hu
  have b := Int.mul_le_mul_of_nonneg_left h2 hu
  omega
theorem pr_in {a b c d x y : Int} (h1 : a <= x) (h2 : x <= b) (h3 : c <= y) (h4 : y <= d) : prL a b c d <= x * y /\ x * y <= prH a b c d := by
 have s1 := seg (u := a) h3 h4
 have s2 := seg (u := b) h3 h4
 have s3 := seg (u := y) h1 h2
 rw [Int.mul_comm y a, Int.mul_comm y b, Int.mul_comm y x] at s3
 unfold prL prH
 omega
theorem pr_sub {a b c d a' b' c' d' : Int} (h1 : a <= a') (h2 : a' <= b') (h3 : b' <= b) (h4 : c <= c') (h5 : c' <= d') (h6 : d' <= d) : prL a b c d <= prL a' b' c' d' /\ prH a' b' c' d' <= prH a b c d := by
 have s1 := pr_in (a := a) (b := b) (c := c) (d := d) (x := a') (y := c') (by omega) (by omega) (by omega) (by omega)
 have s2 := pr_in (a := a) (b := b) (c := c) (d := d) (x := a') (y := d') (by omega) (by omega) (by omega) (by omega)
 have s3 := pr_in (a := a) (b := b) (c := c) (d := d) (x := b') (y := c') (by omega) (by omega) (by omega) (by omega)
 have s4 := pr_in (a := a) (b := b) (c := c) (d := d) (x := b') (y := d') (by omega) (by omega) (by omega) (by omega)
 have e1 : prL a' b' c' d' = min (min (a' * c') (a' * d')) (min (b' * c') (b' * d')) := by unfold prL; rfl
 have e2 : prH a' b' c' d' = max (max (a' * c') (a' * d')) (max (b' * c') (b' * d')) := by unfold prH; rfl
 omega
theorem sq_neg {a b : Int} (h1 : a <= b) (h2 : b <= 0) : b * b <= a * a := by
 have := sq_mono (i := -b) (j := -a) (by omega) (by omega)
 rwa [Int.neg_mul_neg, Int.neg_mul_neg] at this
theorem sq_in2 {a b x : Int} (h1 : a <= x) (h2 : x <= b) : sqL a b <= x * x /\ x * x <= sqH a b := by
 have h0 : 0 <= x * x := by
  rcases Int.lt_or_le x 0 with h | h
  ·have := Int.mul_nonneg (show 0 <= -x by omega) (show 0 <= -x by omega)
   rwa [Int.neg_mul_neg] at this
  ·exact Int.mul_nonneg h h
 unfold sqL sqH
 rcases Int.lt_or_le x 0 with h | h
 ·have m1 := sq_neg h1 (by omega)
  by_cases hb : 0 <= b
  ·rw [if_pos ⟨by omega, hb⟩]; omega
  ·have m2 := sq_neg h2 (by omega)
   rw [if_neg (by omega)]; omega
 ·have m1 := sq_mono h h2
  by_cases ha : a <= 0
  ·rw [if_pos ⟨ha, by omega⟩]; omega
  ·have m2 := sq_mono (i := a) (by omega) h1
   rw [if_neg (by omega)]; omega
theorem sq_sub {a b a' b' : Int} (h1 : a <= a') (h2 : a' <= b') (h3 : b' <= b) : sqL a b <= sqL a' b' /\ sqH a' b' <= sqH a b := by
 have s1 := sq_in2 (a := a) (b := b) (x := a') (by omega) (by omega)
 have s2 := sq_in2 (a := a) (b := b) (x := b') (by omega) (by omega)
 have e2 : sqH a' b' = max (a' * a') (b' * b') := by unfold sqH; rfl
 refine ⟨?_, by omega⟩
 by_cases h : a' <= 0 /\ 0 <= b'
 ·have e1 : sqL a' b' = 0 := by unfold sqL; rw [if_pos h]
  have e3 : sqL a b = 0 := by unfold sqL; rw [if_pos (by omega)]
  omega
 ·have e1 : sqL a' b' = min (a' * a') (b' * b') := by unfold sqL; rw [if_neg h]
  omega
theorem dvI_anti {a d d' : Int} (ha : 0 <= a) (h1 : 1 <= d') (h2 : d' <= d) : dvI a d <= dvI a d' := by
 have m := dvI_nonneg (d := d) (by omega) ha
 refine dvI_ge h1 ?_
 have e : dvI a d * d <= a := by unfold dvI; exact Int.ediv_mul_le a (by omega)
 have := Int.mul_le_mul_of_nonneg_left h2 m
 omega
theorem pcV_le {x o x' o' : Int} (hx : 0 <= x) (h1 : x <= x') (h2 : 1 <= o') (h3 : o' <= o) : pcV x o <= pcV x' o' := by
 have a := dvI_anti (a := x * 65536) (d := o) (d' := o') (by omega) h2 h3
 have b := dvI_mono (a := x * 65536) (b := x' * 65536) h2 (by omega)
 unfold pcV
 omega
theorem clipV_le {x y lo hi hi' : Int} (h : x <= y) (h2 : hi <= hi') : clipV x lo hi <= clipV y lo hi' := by unfold clipV; omega
theorem tmI {t t' u u' k : Int} (h1 : t <= t') (h2 : u <= u') (k0 : 0 <= k) (k1 : k <= 65536) : t + dvI ((u - t) * k) 65536 <= t' + dvI ((u' - t') * k) 65536 := by
 have a := Int.mul_le_mul_of_nonneg_right (show u - t <= (u' - t') + (t' - t) by omega) k0
 have b := Int.mul_le_mul_of_nonneg_left k1 (show 0 <= t' - t by omega)
 rw [Int.add_mul] at a
 have c := dvI_mono (d := 65536) (by decide) (show (u - t) * k <= (u' - t') * k + (t' - t) * 65536 by omega)
 have e : dvI ((u' - t') * k + (t' - t) * 65536) 65536 = dvI ((u' - t') * k) 65536 + (t' - t) := by
  unfold dvI
  exact Int.add_mul_ediv_right _ _ (by decide)
 omega
theorem tmK {z kl kh k : Int} (h1 : kl <= k) (h2 : k <= kh) : min (dvI (z * kl) 65536) (dvI (z * kh) 65536) <= dvI (z * k) 65536 /\ dvI (z * k) 65536 <= max (dvI (z * kl) 65536) (dvI (z * kh) 65536) := by
 have s := seg (u := z) h1 h2
 rcases Int.le_total (z * kl) (z * kh) with h | h
 ·have a := dvI_mono (d := 65536) (by decide) (show z * kl <= z * k by omega)
  have b := dvI_mono (d := 65536) (by decide) (show z * k <= z * kh by omega)
  omega
 ·have a := dvI_mono (d := 65536) (by decide) (show z * kh <= z * k by omega)
  have b := dvI_mono (d := 65536) (by decide) (show z * k <= z * kl by omega)
  omega
structure WSub (x X : Wid) : Prop where
 ocl : x.lo.ocv = X.lo.ocv
 och : x.hi.ocv = X.hi.ocv
 str : x.lo.stress = X.lo.stress
 kp : x.lo.keep = X.lo.keep
 cy : x.lo.cyc = X.lo.cyc
 al : x.lo.agel = X.lo.agel
 sh1 : X.lo.shift <= x.lo.shift
 sh2 : x.hi.shift <= X.hi.shift
 cp1 : X.lo.cap <= x.lo.cap
 cp2 : x.hi.cap <= X.hi.cap
 pr1 : X.lo.pair <= x.lo.pair
 pr2 : x.hi.pair <= X.hi.pair
 lk1 : X.lo.leak <= x.lo.leak
 lk2 : x.hi.leak <= X.hi.leak
 hc1 : X.lo.hcap <= x.lo.hcap
 hc2 : x.hi.hcap <= X.hi.hcap
 co1 : X.lo.cool <= x.lo.cool
 co2 : x.lo.cool <= x.hi.cool
 co3 : x.hi.cool <= X.hi.cool
 bx : ∀ k, k < 5 -> X.bl k <= x.bl k /\ x.bl k <= x.bh k /\ x.bh k <= X.bh k
 fl : X.fl <= x.fl
 fh : x.fh <= X.fh
 rl : X.rl <= x.rl
 rm : x.rl <= x.rh
 rh : x.rh <= X.rh
theorem openV_le {c d : Cel} {f g : Int} (hc : celB c = true) (h : c.ocv = d.ocv) (hf : f <= g) (hs : c.shift <= d.shift) : openV c f <= openV d g := by
 have := valL_mono (scB_iff.1 (celB_iff.1 hc).ocv).1 hf
 unfold openV
 rw [<- h]
 omega
theorem wv_sub {x X : Wid} (s : WSub x X) (ho : WidOK x) (hO : WidOK X) {a b a' b' : Int} (h1 : a <= a') (h2 : a' <= b') (h3 : b' <= b) : wvL X a b <= wvL x a' b' /\ wvH x a' b' <= wvH X a b := by
 have p := pr_sub h1 h2 h3 s.rl s.rm s.rh
 have d1 := dvI_mono (d := 1000) (by decide) p.1
 have d2 := dvI_mono (d := 1000) (by decide) p.2
 have b1 := s.bx 1 (by decide)
 have o1 := openV_le hO.lo s.ocl.symm s.fl s.sh1
 have o2 := openV_le ho.hi s.och s.fh s.sh2
 unfold wvL wvH
 omega
theorem wh_sub {x X : Wid} (s : WSub x X) (ho : WidOK x) (hO : WidOK X) {a b a' b' : Int} (h1 : a <= a') (h2 : a' <= b') (h3 : b' <= b) (hi : insV (-1048576) a b 1048576 = true) : whL X a b <= whL x a' b' /\ whH x a' b' <= whH X a b := by
 obtain ⟨i0, i1, i2⟩ := insV_iff.1 hi
 have hi' : insV (-1048576) a' b' 1048576 = true := insV_iff.2 (by omega)
 obtain ⟨p1, p2, p3, p4, p5, p6, p7, p8, p9, p10⟩ := wh_parts ho hi'
 obtain ⟨q1, q2, q3, q4, q5, q6, q7, q8, q9, q10⟩ := wh_parts hO hi
 have k := sq_sub h1 h2 h3
 have b1 := s.bx 1 (by decide)
 have r := sq_sub b1.1 b1.2.1 b1.2.2
 have bO := boxB_ok.1 hO.bx
 have bo := boxB_ok.1 ho.bx
 have z1 := sqB (a := a) (b := b) (K := 1048576) (by decide) (by omega) (by omega) (by omega)
 have z2 := sqB (a := a') (b := b') (K := 1048576) (by decide) (by omega) (by omega) (by omega)
 have m1 : sqL a b * X.rl <= sqL a' b' * x.rl := Int.mul_le_mul k.1 s.rl hO.r0 (by omega)
 have m2 : sqH a' b' * x.rh <= sqH a b * X.rh := Int.mul_le_mul k.2 s.rh ho.s0 (by omega)
 have d1 := dvI_mono (d := 1000000000) (by decide) m1
 have d2 := dvI_mono (d := 1000000000) (by decide) m2
 have := s.pr1
 have := s.pr2
 have := ho.pr
 have := hO.pr
 unfold whL whH
 constructor
 ·by_cases g1 : 0 < X.lo.pair
  ·rw [if_pos g1, if_pos (by omega)]
   have e1 := dvI_anti (a := sqL (X.bl 1) (X.bh 1)) (d := 1000 * X.hi.pair) (d' := 1000 * x.hi.pair) q7.1 (by omega) (by omega)
   have e2 := dvI_mono (d := 1000 * x.hi.pair) (by omega) r.1
   omega
  ·rw [if_neg g1]
   by_cases g2 : 0 < x.lo.pair
   ·rw [if_pos g2]
    have := p10 (by omega)
    omega
   ·rw [if_neg g2]; omega
 ·by_cases g1 : 0 < x.hi.pair
  ·rw [if_pos g1, if_pos (by omega)]
   have e1 := dvI_anti (a := sqH (x.bl 1) (x.bh 1)) (d := 1000 * max 1 x.lo.pair) (d' := 1000 * max 1 X.lo.pair) p8.1 (by omega) (by omega)
   have e2 := dvI_mono (d := 1000 * max 1 X.lo.pair) (by omega) r.2
   omega
  ·rw [if_neg g1]
   by_cases g2 : 0 < X.hi.pair
   ·rw [if_pos g2]; omega
   ·rw [if_neg g2]; omega
theorem wt_sub {x X : Wid} (s : WSub x X) (ho : WidOK x) (hO : WidOK X) {a b a' b' u v u' v' : Int} (h1 : a <= a') (h2 : a' <= b') (h3 : b' <= b) (hi : insV (-1048576) a b 1048576 = true) (g1 : u <= u') (g3 : v' <= v) :
  wtL X a b u v <= wtL x a' b' u' v' /\ wtH x a' b' u' v' <= wtH X a b u v := by
 obtain ⟨w1, w2⟩ := wh_sub s ho hO h1 h2 h3 hi
 obtain ⟨i0, i1, i2⟩ := insV_iff.1 hi
 obtain ⟨q1, q2⟩ := wh_b hO hi
 obtain ⟨q3, q4⟩ := wh_b ho (show insV (-1048576) a' b' 1048576 = true from insV_iff.2 (by omega))
 have b2 := s.bx 2 (by decide)
 have kx := celB_iff.1 ho.lo
 have kX := celB_iff.1 hO.lo
 have kh := celB_iff.1 ho.hi
 have kH := celB_iff.1 hO.hi
 have c1 := s.co1
 have c2 := s.co2
 have c3 := s.co3
 have := s.hc1
 have := s.hc2
 have := kX.hc0
 have := kh.hc0
 have a1 := dvI_anti (a := 1000 * whL X a b) (d := X.hi.hcap) (d' := x.hi.hcap) (by omega) (by omega) (by omega)
 have a2 := dvI_mono (d := x.hi.hcap) (by omega) (show 1000 * whL X a b <= 1000 * whL x a' b' by omega)
 have a3 := dvI_anti (a := 1000 * whH x a' b') (d := x.lo.hcap) (d' := X.lo.hcap) (by omega) (by omega) (by omega)
 have a4 := dvI_mono (d := X.lo.hcap) (by omega) (show 1000 * whH x a' b' <= 1000 * whH X a b by omega)
 have t1 := tmK (z := u - X.bl 2) (kl := X.lo.cool) (kh := X.hi.cool) (k := x.lo.cool) (by omega) (by omega)
 have t2 := tmK (z := u - X.bl 2) (kl := X.lo.cool) (kh := X.hi.cool) (k := x.hi.cool) (by omega) (by omega)
 have t3 := tmI (t := X.bl 2) (t' := x.bl 2) (k := x.lo.cool) b2.1 g1 kx.co0 kx.co1
 have t4 := tmI (t := X.bl 2) (t' := x.bl 2) (k := x.hi.cool) b2.1 g1 kh.co0 kh.co1
 have r1 := tmK (z := v - X.bh 2) (kl := X.lo.cool) (kh := X.hi.cool) (k := x.lo.cool) (by omega) (by omega)
 have r2 := tmK (z := v - X.bh 2) (kl := X.lo.cool) (kh := X.hi.cool) (k := x.hi.cool) (by omega) (by omega)
 have r3 := tmI (t := x.bh 2) (t' := X.bh 2) (k := x.lo.cool) b2.2.2 g3 kx.co0 kx.co1
 have r4 := tmI (t := x.bh 2) (t' := X.bh 2) (k := x.hi.cool) b2.2.2 g3 kh.co0 kh.co1
 unfold wtL wtH
 constructor
 ·exact clipV_mono (by omega)
 ·exact clipV_mono (by omega)
theorem wear_le {c d : Cel} {t a t' a' : Int} (hc : celB c = true) (e1 : c.cyc = d.cyc) (e2 : c.agel = d.agel) (h1 : t <= t') (h2 : a <= a') : wearV c t a <= wearV d t' a' := by
 have hk := celB_iff.1 hc
 have m1 := dvI_mono (d := 1073741824) (by decide) (Int.mul_le_mul_of_nonneg_right h1 hk.cy0)
 have m2 := dvI_mono (d := 1073741824) (by decide) (Int.mul_le_mul_of_nonneg_right h2 hk.al0)
 unfold wearV
 rw [<- e1, <- e2]
 omega
theorem nb_sub {x X : Wid} (s : WSub x X) (ho : WidOK x) (hO : WidOK X) {a b a' b' u v u' v' : Int} (h1 : a <= a') (h2 : a' <= b') (h3 : b' <= b) (hi : insV (-1048576) a b 1048576 = true) (g1 : u <= u') (g3 : v' <= v) (k : Nat) (hk : k < 5) :
  nbL X a b u v k <= nbL x a' b' u' v' k /\ nbH x a' b' u' v' k <= nbH X a b u v k := by
 have T : nbTL X a b <= nbTL x a' b' /\ nbTH x a' b' <= nbTH X a b := by
  have := s.bx 3 (by decide)
  unfold nbTL nbTH
  omega
 have A : nbAL X <= nbAL x /\ nbAH x <= nbAH X := by
  have b4 := s.bx 4 (by decide)
  have b2 := s.bx 2 (by decide)
  have cs := (scB_iff.1 (celB_iff.1 hO.lo).stress).1
  have v1 := valL_mono cs b2.1
  have v2 := valL_mono cs b2.2.2
  unfold nbAL nbAH
  rw [s.str]
  omega
 match k, hk with
 | 0, _ =>
   rw [(nb_0 _ _ _ _ _).1, (nb_0 _ _ _ _ _).2, (nb_0 _ _ _ _ _).1, (nb_0 _ _ _ _ _).2]
   have b0 := s.bx 0 (by decide)
   have := s.lk1
   have := s.lk2
   have := s.cp1
   have := s.cp2
   have w1 := wear_le ho.lo s.cy s.al T.2 A.2
   have w2 := wear_le hO.lo s.cy.symm s.al.symm T.1 A.1
   have r1 : roomV X.lo (wearV X.lo (nbTH X a b) (nbAH X)) <= roomV x.lo (wearV x.lo (nbTH x a' b') (nbAH x)) := by unfold roomV; omega
   have r2 : roomV x.hi (wearV x.lo (nbTL x a' b') (nbAL x)) <= roomV X.hi (wearV X.lo (nbTL X a b) (nbAL X)) := by unfold roomV; omega
   unfold nbQL nbQH
   exact ⟨clipV_le (by omega) r1, clipV_le (by omega) r2⟩
 | 1, _ =>
   rw [(nb_1 _ _ _ _ _).1, (nb_1 _ _ _ _ _).2, (nb_1 _ _ _ _ _).1, (nb_1 _ _ _ _ _).2]
   have b1 := s.bx 1 (by decide)
   have := ho.pr
   have p := pr_sub h1 h2 h3 s.pr1 ho.pr s.pr2
   have hx := celB_iff.1 ho.lo
   have e := s.kp
   have m1 := Int.mul_le_mul_of_nonneg_left b1.1 (show 0 <= 1000 * x.lo.keep by have := hx.kp0; omega)
   have m2 := Int.mul_le_mul_of_nonneg_left b1.2.2 (show 0 <= 1000 * x.lo.keep by have := hx.kp0; omega)
   have m3 := Int.mul_le_mul_of_nonneg_left p.1 (show 0 <= 65536 - x.lo.keep by have := hx.kp1; omega)
   have m4 := Int.mul_le_mul_of_nonneg_left p.2 (show 0 <= 65536 - x.lo.keep by have := hx.kp1; omega)
   unfold nbRL nbRH slackV
   rw [<- e]
   exact ⟨clipV_mono (dvI_mono (by decide) (by omega)), clipV_mono (dvI_mono (by decide) (by omega))⟩
 | 2, _ =>
   rw [(nb_2 _ _ _ _ _).1, (nb_2 _ _ _ _ _).2, (nb_2 _ _ _ _ _).1, (nb_2 _ _ _ _ _).2]
   exact wt_sub s ho hO h1 h2 h3 hi g1 g3
 | 3, _ => rw [(nb_3 _ _ _ _ _).1, (nb_3 _ _ _ _ _).2, (nb_3 _ _ _ _ _).1, (nb_3 _ _ _ _ _).2]; exact T
 | 4, _ => rw [(nb_4 _ _ _ _ _).1, (nb_4 _ _ _ _ _).2, (nb_4 _ _ _ _ _).1, (nb_4 _ _ _ _ _).2]; exact A
structure Part (lo hi lo' hi' bl bh bl' bh' : Nat -> Int) : Prop where
 o : ∀ k, k < 7 -> lo k <= lo' k /\ lo' k <= hi' k /\ hi' k <= hi k
 b : ∀ k, k < 5 -> bl k <= bl' k /\ bl' k <= bh' k /\ bh' k <= bh k
theorem mv_mid {c : Cel} {lo hi d : Nat -> Int} (h1 : celB (mvC c lo) = true) (h2 : celB (mvC c hi) = true) (h : ∀ k, k < 7 -> lo k <= d k /\ d k <= hi k) : celB (mvC c d) = true := by
 have k1 := celB_iff.1 h1
 have k2 := celB_iff.1 h2
 have a0 := h 0 (by decide)
 have a1 := h 1 (by decide)
 have a2 := h 2 (by decide)
 have a3 := h 3 (by decide)
 have a4 := h 4 (by decide)
 have a5 := h 5 (by decide)
 have a6 := h 6 (by decide)
 obtain ⟨q1, q2, q3, q4, q5, q6, q7, q8, q9, q10, q11, q12, q13, q14, q15, q16, q17, q18, q19, q20, q21, q22, q23, q24, q25⟩ := k1
 obtain ⟨p1, p2, p3, p4, p5, p6, p7, p8, p9, p10, p11, p12, p13, p14, p15, p16, p17, p18, p19, p20, p21, p22, p23, p24, p25⟩ := k2
 simp only [mvC_cap, mvC_shift, mvC_extra, mvC_pair, mvC_leak, mvC_hcap, mvC_cool, mvC_ocv, mvC_cold, mvC_stress, mvC_keep, mvC_cyc, mvC_agel, mvC_grow] at *
 refine celB_iff.2 ⟨?_, ?_, ?_, ?_, ?_, ?_, ?_, ?_, ?_, ?_, ?_, ?_, ?_, ?_, ?_, ?_, ?_, ?_, ?_, ?_, ?_, ?_, ?_, ?_, ?_⟩ <;>
  simp only [mvC_cap, mvC_shift, mvC_extra, mvC_pair, mvC_leak, mvC_hcap, mvC_cool, mvC_ocv, mvC_cold, mvC_stress, mvC_keep, mvC_cyc, mvC_agel, mvC_grow] <;> first | omega | assumption
theorem part_chk {c : Cel} {lo hi lo' hi' bl bh bl' bh' : Nat -> Int} (p : Part lo hi lo' hi' bl bh bl' bh') (h : ChkOK c 7 lo hi 5 bl bh) : ChkOK c 7 lo' hi' 5 bl' bh' := by
 refine ⟨h.cel, rfl, rfl, mv_mid h.cl h.ch fun k hk => ?_, mv_mid h.cl h.ch fun k hk => ?_, fun k hk => spanOK_iff.2 ?_, ?_⟩
 ·have := p.o k hk; omega
 ·have := p.o k hk; omega
 ·have := p.o k hk
  have := spanOK_iff.1 (h.le k hk)
  omega
 ·have b := h.bx
  have b0 := p.b 0 (by decide)
  have b1 := p.b 1 (by decide)
  have b2 := p.b 2 (by decide)
  have b3 := p.b 3 (by decide)
  have b4 := p.b 4 (by decide)
  obtain ⟨q0, q1, q2, q3, q4, q5, q6, q7, q8, q9, q10, q11, q12, q13, q14⟩ := b
  constructor <;> omega
theorem res_le {c : Cel} {d d' : Nat -> Int} {t t' w w' : Int} (hc : celB c = true) (h1 : d 2 <= d' 2) (h2 : t' <= t) (h3 : w <= w') : resV (mvC c d) t w <= resV (mvC c d') t' w' := by
 have hk := celB_iff.1 hc
 have v := valL_mono (scB_iff.1 hk.cold).1 (show 400000 - t <= 400000 - t' by omega)
 have m := dvI_mono (d := 65536) (by decide) (Int.mul_le_mul_of_nonneg_right h3 hk.gr0)
 unfold resV
 rw [mvC_cold, mvC_cold, mvC_extra, mvC_extra, mvC_grow, mvC_grow]
 exact clipV_mono (by omega)
theorem part_sub {c : Cel} {lo hi lo' hi' bl bh bl' bh' : Nat -> Int} (p : Part lo hi lo' hi' bl bh bl' bh') (h : ChkOK c 7 lo hi 5 bl bh) : WSub (widV c lo' hi' 5 bl' bh') (widV c lo hi 5 bl bh) := by
 have a0 := p.o 0 (by decide)
 have a1 := p.o 1 (by decide)
 have a2 := p.o 2 (by decide)
 have a3 := p.o 3 (by decide)
 have a4 := p.o 4 (by decide)
 have a5 := p.o 5 (by decide)
 have a6 := p.o 6 (by decide)
 have b0 := p.b 0 (by decide)
 have b2 := p.b 2 (by decide)
 have b3 := p.b 3 (by decide)
 have b4 := p.b 4 (by decide)
 have hk := celB_iff.1 h.cel
 have w1 : wdWL c bl <= wdWL c bl' := by unfold wdWL; exact wear_le h.cel rfl rfl b3.1 b4.1
 have w2 : wdWL c bl' <= wdWL c bh' := by unfold wdWL; exact wear_le h.cel rfl rfl b3.2.1 b4.2.1
 have w3 : wdWL c bh' <= wdWL c bh := by unfold wdWL; exact wear_le h.cel rfl rfl b3.2.2 b4.2.2
 have q0 := h.bx.q0
 constructor <;> simp only [widV_lo, widV_hi, widV_bl, widV_bh, widV_fl, widV_fh, widV_rl, widV_rh, mvC_cap, mvC_shift, mvC_extra, mvC_pair, mvC_leak, mvC_hcap, mvC_cool, mvC_ocv, mvC_cold, mvC_stress, mvC_keep, mvC_cyc, mvC_agel, mvC_grow]
 all_goals first | omega | exact p.b | skip
 ·unfold wdFL
  refine pcV_le q0 b0.1 roomV_in.1 ?_
  unfold roomV
  rw [mvC_cap, mvC_cap]
  omega
 ·unfold wdFH
  refine pcV_le (by omega) b0.2.2 roomV_in.1 ?_
  unfold roomV
  rw [mvC_cap, mvC_cap]
  omega
 ·unfold wdRL
  exact res_le h.cel (by omega) (by omega) w1
 ·unfold wdRL wdRH
  exact res_le h.cel (by omega) (by omega) w2
 ·unfold wdRH
  exact res_le h.cel (by omega) (by omega) w3
end
end Abs
end Go.Proofs.YtlabbaglbcmofaaGreat

namespace Go.Proofs.YtlabbaglbcmofaaGreat
namespace Abs
open Go Go.RowKit
noncomputable section
attribute [local irreducible] FnSat
noncomputable def SUa : Sums := ⟨SPo.one, SPo.two, SPo.lo, SPo.eqs, SPo.its, SPo.imm⟩
theorem SUa_ok : SumsOK Tryz.prog SUa := SPo_ok
noncomputable def SUb : Sums := ⟨SUa.one, SUa.two, SUa.lo, SUa.eqs, SUa.its, SUa.imm⟩
theorem SUb_ok : SumsOK Tryz.prog SUb := SUa_ok
noncomputable def SUc : Sums := ⟨SUb.one, SUb.two, SUb.lo, SUb.eqs, SUb.its, SUb.imm⟩
theorem SUc_ok : SumsOK Tryz.prog SUc := SUb_ok
noncomputable def SUd : Sums := ⟨SUc.one, SUc.two, SUc.lo, SUc.eqs, SUc.its, SUc.imm⟩
theorem SUd_ok : SumsOK Tryz.prog SUd := SUc_ok
noncomputable def SUe : Sums := ⟨SUd.one, SUd.two, SUd.lo, SUd.eqs, SUd.its, SUd.imm⟩
theorem SUe_ok : SumsOK Tryz.prog SUe := SUd_ok
end
end Abs
end Go.Proofs.YtlabbaglbcmofaaGreat

namespace Go.Proofs.YtlabbaglbcmofaaGreat
namespace Abs
open Go
noncomputable section
theorem wearNp (c : Cel) (d v : Nat -> Int) : wdWL (mvC c d) v = wdWL c v := by unfold wdWL wearV; rw [mvC_cyc, mvC_agel]
theorem pt_wid (c : Cel) (d : Nat -> Int) (s : Sta) : widV c d d 5 (stV s) (stV s) = ptW (mvC c d) s := by
 have e1 : wdFL c d (stV s) (stV s) = wdFL (mvC c d) (fun _ => 0) (stV s) (stV s) := by unfold wdFL; rw [mvC_zero, wearNp]
 have e2 : wdFH c d (stV s) (stV s) = wdFH (mvC c d) (fun _ => 0) (stV s) (stV s) := by unfold wdFH; rw [mvC_zero, wearNp]
 have e3 : wdRL c d (stV s) (stV s) = wdRL (mvC c d) (fun _ => 0) (stV s) (stV s) := by unfold wdRL; rw [mvC_zero, wearNp]
 have e4 : wdRH c d (stV s) (stV s) = wdRH (mvC c d) (fun _ => 0) (stV s) (stV s) := by unfold wdRH; rw [mvC_zero, wearNp]
 unfold ptW widV
 rw [e1, e2, e3, e4, wearNp, mvC_zero]
structure InBox (c : Cel) (lo hi d bl bh : Nat -> Int) (s : Sta) : Prop where
 chk : ChkOK c 7 lo hi 5 bl bh
 dd : ∀ k, k < 7 -> lo k <= d k /\ d k <= hi k
 ss : ∀ k, k < 5 -> bl k <= stV s k /\ stV s k <= bh k
 st : StOK (mvC c d) s
theorem InBox.cel {c : Cel} {lo hi d bl bh : Nat -> Int} {s : Sta} (h : InBox c lo hi d bl bh s) : celB (mvC c d) = true := mv_mid h.chk.cl h.chk.ch h.dd
theorem InBox.cs {c : Cel} {lo hi d bl bh : Nat -> Int} {s : Sta} (h : InBox c lo hi d bl bh s) : csE (mvC c d) s = 0 := csE_0 h.cel h.st
theorem InBox.part {c : Cel} {lo hi d bl bh : Nat -> Int} {s : Sta} (h : InBox c lo hi d bl bh s) : Part lo hi d d bl bh (stV s) (stV s) :=
 ⟨fun k hk => ⟨(h.dd k hk).1, Int.le_refl _, (h.dd k hk).2⟩, fun k hk => ⟨(h.ss k hk).1, Int.le_refl _, (h.ss k hk).2⟩⟩
theorem in_volt {c : Cel} {lo hi d bl bh : Nat -> Int} {s : Sta} {a b i : Int} (h : InBox c lo hi d bl bh s) (h1 : a <= i) (h2 : i <= b) : wvL (widV c lo hi 5 bl bh) a b <= voltV (mvC c d) s i /\ voltV (mvC c d) s i <= wvH (widV c lo hi 5 bl bh) a b := by
 have S := part_sub h.part h.chk
 have v := wv_sub S (wid_of (part_chk h.part h.chk)) (wid_of h.chk) h1 (Int.le_refl i) h2
 rw [pt_wid, (pt_volt _ _ _).1, (pt_volt _ _ _).2] at v
 exact v
theorem in_next {c : Cel} {lo hi d bl bh : Nat -> Int} {s : Sta} {a b i u v t : Int} (h : InBox c lo hi d bl bh s) (hI : insV (-1048576) a b 1048576 = true) (h1 : a <= i) (h2 : i <= b) (g1 : u <= t) (g2 : t <= v) (k : Nat) (hk : k < 5) :
  nbL (widV c lo hi 5 bl bh) a b u v k <= stV ⟨nxQ (mvC c d) s i, nxR (mvC c d) s i, nxT (mvC c d) s i t, nxH s i, nxA (mvC c d) s⟩ k /\
  stV ⟨nxQ (mvC c d) s i, nxR (mvC c d) s i, nxT (mvC c d) s i t, nxH s i, nxA (mvC c d) s⟩ k <= nbH (widV c lo hi 5 bl bh) a b u v k := by
 have S := part_sub h.part h.chk
 have w := nb_sub S (wid_of (part_chk h.part h.chk)) (wid_of h.chk) h1 (Int.le_refl i) h2 hI g1 g2 k hk
 rw [pt_wid, (pt_next _ _ _ _ k hk).1, (pt_next _ _ _ _ k hk).2] at w
 exact w
theorem next_box {x : Wid} {a b u v : Int} {w : Nat -> Int} (hx : WidOK x) (hi : insV (-1048576) a b 1048576 = true) (hf : farB x a b = true) (hw : ∀ k, k < 5 -> nbL x a b u v k <= w k /\ w k <= nbH x a b u v k) : BoxOK (nbL x a b u v) (nbH x a b u v) := by
 have w0 := hw 0 (by decide)
 have w1 := hw 1 (by decide)
 have w2 := hw 2 (by decide)
 have w3 := hw 3 (by decide)
 have w4 := hw 4 (by decide)
 obtain ⟨i0, i1, i2⟩ := insV_iff.1 hi
 obtain ⟨f1, f2⟩ := farB_iff.1 hf
 have bx := boxB_ok.1 hx.bx
 have kl := celB_iff.1 hx.lo
 have kh := celB_iff.1 hx.hi
 have b3 := bx.h0
 have b4 := bx.a0
 have vs := sc_val kl.stress (x.bl 2)
 have vs2 := sc_val kl.stress (x.bh 2)
 have hb3 := bx.h1
 have hb4 := bx.a1
 have TL : 0 <= nbTL x a b /\ nbTL x a b <= 2199023255552 := by have := bx.h2; unfold nbTL; omega
 have TH : 0 <= nbTH x a b /\ nbTH x a b <= 2199023255552 := by have := bx.h2; unfold nbTH; omega
 have AL : 0 <= nbAL x /\ nbAL x <= 2199023255552 := by have := bx.a2; unfold nbAL; omega
 have AH : 0 <= nbAH x /\ nbAH x <= 2199023255552 := by have := bx.a2; unfold nbAH; omega
 have y1 := wearV_in (c := x.lo) (t := nbTH x a b) (a := nbAH x) ⟨kl.cy0, kl.cy1, kl.al0, kl.al1, TH.1, TH.2, AH.1, AH.2⟩
 have y2 := wearV_in (c := x.lo) (t := nbTL x a b) (a := nbAL x) ⟨kl.cy0, kl.cy1, kl.al0, kl.al1, TL.1, TL.2, AL.1, AL.2⟩
 have r1 := @roomV_in x.lo (wearV x.lo (nbTH x a b) (nbAH x))
 have r2 := @roomV_in x.hi (wearV x.lo (nbTL x a b) (nbAL x))
 have r3 := r2.2 y2.1 kh.cap0
 have := kh.cap1
 have q1 : 0 <= nbQL x a b := by unfold nbQL; exact (clipV_in (by omega)).1
 have q2 : nbQH x a b <= 4294967296 := by
  have : nbQH x a b <= roomV x.hi (wearV x.lo (nbTL x a b) (nbAL x)) := by unfold nbQH; exact (clipV_in (by omega)).2
  omega
 have s1 : -8388608 <= nbRL x a b := by unfold nbRL slackV; exact (clipV_in (by decide)).1
 have s2 : nbRH x a b <= 8388608 := by unfold nbRH slackV; exact (clipV_in (by decide)).2
 have t1 : 0 <= wtL x a b u v := by unfold wtL; exact (clipV_in (by decide)).1
 have t2 : wtH x a b u v <= 400000 := by unfold wtH; exact (clipV_in (by decide)).2
 obtain ⟨e0, e0'⟩ := nb_0 x a b u v
 obtain ⟨e1, e1'⟩ := nb_1 x a b u v
 obtain ⟨e2, e2'⟩ := nb_2 x a b u v
 obtain ⟨e3, e3'⟩ := nb_3 x a b u v
 obtain ⟨e4, e4'⟩ := nb_4 x a b u v
 constructor <;> omega
theorem in_go {c : Cel} {lo hi d bl bh : Nat -> Int} {s : Sta} {a b i u v t : Int} (h : InBox c lo hi d bl bh s) (hI : insV (-1048576) a b 1048576 = true) (hU : insV 0 u v 400000 = true) (h1 : a <= i) (h2 : i <= b) (g1 : u <= t) (g2 : t <= v)
  (hf : farB (widV c lo hi 5 bl bh) a b = true) (hs : stAE (mvC c d) s i t = 0) :
  InBox c lo hi d (nbL (widV c lo hi 5 bl bh) a b u v) (nbH (widV c lo hi 5 bl bh) a b u v) (stA (mvC c d) s i t) := by
 have n := fun k hk => in_next h hI h1 h2 g1 g2 k hk
 rw [<- stA_0 h.cs hs] at n
 have W := wid_of h.chk
 exact ⟨⟨h.chk.cel, rfl, rfl, h.chk.cl, h.chk.ch, h.chk.le, next_box W hI hf n⟩, h.dd, n, (stA_ok h.cs hs).1⟩
end
end Abs
end Go.Proofs.YtlabbaglbcmofaaGreat

namespace Go.Proofs.YtlabbaglbcmofaaGreat
namespace Abs
open Go Go.RowKit
noncomputable section
attribute [local irreducible] FnSat
noncomputable def SRh : Sums := ⟨SMa.one, SMa.two, SMa.lo, SMa.eqs, SMa.its, SMa.imm⟩
theorem SRh_ok : SumsOK Tryz.prog SRh := SMa_ok
noncomputable def SRi : Sums := ⟨SRh.one, SRh.two, SRh.lo, SRh.eqs, SRh.its, SRh.imm⟩
theorem SRi_ok : SumsOK Tryz.prog SRi := SRh_ok
noncomputable def SRj : Sums := ⟨SRi.one, SRi.two, SRi.lo, SRi.eqs, SRi.its, SRi.imm⟩
theorem SRj_ok : SumsOK Tryz.prog SRj := SRi_ok
noncomputable def SRk : Sums := ⟨SRj.one, SRj.two, SRj.lo, SRj.eqs, SRj.its, SRj.imm⟩
theorem SRk_ok : SumsOK Tryz.prog SRk := SRj_ok
end
end Abs
end Go.Proofs.YtlabbaglbcmofaaGreat

namespace Go.Proofs.YtlabbaglbcmofaaGreat
namespace Abs
open Go Go.RowKit
noncomputable section
attribute [local irreducible] FnSat
structure Rsp where
 a0 : Cel
 a1 : Cel
 a2 : Int
 a3 : Int
 a4 : Int
 a5 : Int
 a6 : Int
 a7 : Int
 a8 : Int
 a9 : Int
 a10 : Int
 a11 : Int
@[irreducible] def Rsp.lo (x : Rsp) : Cel := x.a0
@[irreducible] def Rsp.hi (x : Rsp) : Cel := x.a1
@[irreducible] def Rsp.wl (x : Rsp) : Int := x.a2
@[irreducible] def Rsp.wh (x : Rsp) : Int := x.a3
@[irreducible] def Rsp.cl (x : Rsp) : Int := x.a4
@[irreducible] def Rsp.ch (x : Rsp) : Int := x.a5
@[irreducible] def Rsp.fl (x : Rsp) : Int := x.a6
@[irreducible] def Rsp.fh (x : Rsp) : Int := x.a7
@[irreducible] def Rsp.rl (x : Rsp) : Int := x.a10
@[irreducible] def Rsp.rh (x : Rsp) : Int := x.a11
@[irreducible] def mkW (x : Rsp) (n : Nat) (bl bh : Nat -> Int) : Wid := ⟨x.lo, x.hi, n, bl, bh, x.wl, x.wh, x.fl, x.fh, x.rl, x.rh⟩
end
end Abs
end Go.Proofs.YtlabbaglbcmofaaGreat

namespace Go.Proofs.YtlabbaglbcmofaaGreat
namespace Abs
open Go Go.RowKit
noncomputable section
attribute [local irreducible] FnSat
noncomputable def SWa : Sums := ⟨SUe.one, SUe.two, SUe.lo, SUe.eqs, SUe.its, SUe.imm⟩
theorem SWa_ok : SumsOK Tryz.prog SWa := SUe_ok
noncomputable def SWb : Sums := ⟨SWa.one, SWa.two, SWa.lo, SWa.eqs, SWa.its, SWa.imm⟩
theorem SWb_ok : SumsOK Tryz.prog SWb := SWa_ok
end
end Abs
end Go.Proofs.YtlabbaglbcmofaaGreat

namespace Go.Proofs.YtlabbaglbcmofaaGreat
namespace Abs
open Go Go.RowKit
noncomputable section
attribute [local irreducible] FnSat
noncomputable def SWc : Sums := ⟨SWb.one, SWb.two, SWb.lo, SWb.eqs, SWb.its, SWb.imm⟩
theorem SWc_ok : SumsOK Tryz.prog SWc := SWb_ok
end
end Abs
end Go.Proofs.YtlabbaglbcmofaaGreat

namespace Go.Proofs.YtlabbaglbcmofaaGreat
namespace Abs
open Go Go.RowKit
noncomputable section
attribute [local irreducible] FnSat
noncomputable def SWd : Sums := ⟨SWc.one, SWc.two, SWc.lo, SWc.eqs, SWc.its, SWc.imm⟩
theorem SWd_ok : SumsOK Tryz.prog SWd := SWc_ok
end
end Abs
end Go.Proofs.YtlabbaglbcmofaaGreat

namespace Go.Proofs.YtlabbaglbcmofaaGreat
namespace Abs
open Go Go.RowKit
noncomputable section
attribute [local irreducible] FnSat
end
end Abs
end Go.Proofs.YtlabbaglbcmofaaGreat

namespace Go.Proofs.YtlabbaglbcmofaaGreat
namespace Abs
open Go Go.RowKit
noncomputable section
attribute [local irreducible] FnSat
end
end Abs
end Go.Proofs.YtlabbaglbcmofaaGreat

namespace Go.Proofs.YtlabbaglbcmofaaGreat
namespace Abs
open Go Go.RowKit
noncomputable section
attribute [local irreducible] FnSat
@[irreducible] def p2 (e : Nat) : Int := (2 : Int) ^ e
@[irreducible] def stp (e : Nat) : Int := match e with | 0 => 0 | e + 1 => p2 e
end
end Abs
end Go.Proofs.YtlabbaglbcmofaaGreat

namespace Go.Proofs.YtlabbaglbcmofaaGreat
namespace Abs
open Go Go.RowKit
noncomputable section
attribute [local irreducible] FnSat
noncomputable def SWe : Sums := ⟨SWd.one, SWd.two, SWd.lo, SWd.eqs, SWd.its, SWd.imm⟩
theorem SWe_ok : SumsOK Tryz.prog SWe := SWd_ok
noncomputable def SWf : Sums := ⟨SWe.one, SWe.two, SWe.lo, SWe.eqs, SWe.its, SWe.imm⟩
theorem SWf_ok : SumsOK Tryz.prog SWf := SWe_ok
end
end Abs
end Go.Proofs.YtlabbaglbcmofaaGreat

namespace Go.Proofs.YtlabbaglbcmofaaGreat
namespace Abs
open Go Go.RowKit
noncomputable section
attribute [local irreducible] FnSat
noncomputable def SEv1 : Sums := ⟨SRk.one, SRk.two, SRk.lo, SRk.eqs, SRk.its, SRk.imm⟩
theorem SEv1_ok : SumsOK Tryz.prog SEv1 := SRk_ok
theorem aEw_0 {c : Cel} {s : Sta} {i : Int} (h : aE c s (wiE i) = 0) : csE c s = 0 /\ curI i = true := by
 by_cases hc : csE c s = 0
 ·rw [aE_yes hc] at h
  refine ⟨hc, ?_⟩
  cases hi : curI i with
  | true => rfl
  | false => unfold wiE at h; rw [hi] at h; simp at h
 ·rw [aE_no hc] at h; exact absurd h hc
noncomputable def SEv : Sums := ⟨SEv1.one, SEv1.two, SEv1.lo, SEv1.eqs, SEv1.its, SEv1.imm⟩
theorem SEv_ok : SumsOK Tryz.prog SEv := SEv1_ok
end
end Abs
end Go.Proofs.YtlabbaglbcmofaaGreat

namespace Go.Proofs.YtlabbaglbcmofaaGreat
namespace Abs
open Go
@[irreducible] def sensOK (a b c d : Int) : Bool := isIn 0 a 1073741824 && isIn 1 b 1073741824 && isIn (-1073741824) c 1073741824 && isIn c d 1073741824
@[irreducible] def errB (b : Bool) : Int := if b then 0 else 2
@[reducible] def senSh : Sh := .agg [.int .i64, .int .i64, .int .i64, .int .i64]
def check : Spec [senSh] := ⟨fun _ => True, fun ((a, b, c, d, _), _) => .si .i64 (errB (sensOK a b c d))⟩
@[irreducible] def stepV (b y : Int) : Int := b * ((y + b / 2) / b)
@[irreducible] def showV (a b c d x n : Int) : Int := if sensOK a b c d && isQ x && isIn (-a) n a then intoV (stepV b (x + n)) c d else 0
@[irreducible] def showE (a b c d x n : Int) : Int := if sensOK a b c d && isQ x then (if isIn (-a) n a then 0 else 3) else 2
theorem stepV_lo (b y : Int) (hb : 1 <= b) : y + b / 2 - b < stepV b y := by
 unfold stepV
 have h1 := Int.mul_ediv_add_emod (y + b / 2) b
 have h2 := Int.emod_lt_of_pos (y + b / 2) (show 0 < b by omega)
 omega
theorem stepV_hi (b y : Int) (hb : 1 <= b) : stepV b y <= y + b / 2 := by
 unfold stepV
 have h1 := Int.mul_ediv_add_emod (y + b / 2) b
 have h2 := Int.emod_nonneg (y + b / 2) (show b ≠ 0 by omega)
 omega
def show_ : Spec [senSh, .int .i64, .int .i64] := ⟨fun _ => True, fun ((a, b, c, d, _), x, n, _) => .tup [.si .i64 (showV a b c d x n), .si .i64 (showE a b c d x n)]⟩
theorem showE_2 {a b c d x n : Int} (h : (sensOK a b c d && isQ x) = false) : showV a b c d x n = 0 /\ showE a b c d x n = 2 := by
 unfold showV showE; rw [h]; simp
theorem showE_3 {a b c d x n : Int} (h : (sensOK a b c d && isQ x) = true) (h' : isIn (-a) n a = false) : showV a b c d x n = 0 /\ showE a b c d x n = 3 := by
 unfold showV showE; rw [h, h']; simp
theorem showE_0 {a b c d x n : Int} (h : (sensOK a b c d && isQ x) = true) (h' : isIn (-a) n a = true) : showV a b c d x n = intoV (stepV b (x + n)) c d /\ showE a b c d x n = 0 := by
 unfold showV showE; rw [h, h']; simp
@[irreducible] def readOK (b c d r : Int) : Bool := isIn c r d && (decide (r = c) || decide (r = d) || decide (r % b = 0))
@[irreducible] def behE (a b c d r : Int) : Int := if sensOK a b c d then (if readOK b c d r then 0 else 5) else 2
@[irreducible] def behLo (a b c d r : Int) : Int := if sensOK a b c d && readOK b c d r then (if c < r then b * -(-r / b) - b / 2 - a else -1099511627776) else 0
@[irreducible] def behHi (a b c d r : Int) : Int := if sensOK a b c d && readOK b c d r then (if r < d then b * (r / b) + b - 1 - b / 2 + a else 1099511627776) else 0
def behind : Spec [senSh, .int .i64] := ⟨fun _ => True, fun ((a, b, c, d, _), r, _) => .tup [.agg [.si .i64 (behLo a b c d r), .si .i64 (behHi a b c d r)], .si .i64 (behE a b c d r)]⟩
theorem beh_2 {a b c d r : Int} (h : sensOK a b c d = false) : behLo a b c d r = 0 /\ behHi a b c d r = 0 /\ behE a b c d r = 2 := by
 unfold behLo behHi behE; rw [h]; simp
theorem beh_5 {a b c d r : Int} (h : sensOK a b c d = true) (h' : readOK b c d r = false) : behLo a b c d r = 0 /\ behHi a b c d r = 0 /\ behE a b c d r = 5 := by
 unfold behLo behHi behE; rw [h, h']; simp
theorem beh_0 {a b c d r : Int} (h : sensOK a b c d = true) (h' : readOK b c d r = true) :
  behLo a b c d r = (if c < r then b * -(-r / b) - b / 2 - a else -1099511627776) /\ behHi a b c d r = (if r < d then b * (r / b) + b - 1 - b / 2 + a else 1099511627776) /\ behE a b c d r = 0 := by
 unfold behLo behHi behE; rw [h, h']; simp
theorem mul_div_le (r b : Int) (hb : 1 <= b) : b * (r / b) <= r /\ r < b * (r / b) + b := by
 have h1 := Int.mul_ediv_add_emod r b
 have h2 := Int.emod_nonneg r (show b ≠ 0 by omega)
 have h3 := Int.emod_lt_of_pos r (show 0 < b by omega)
 omega
theorem mul_cdiv_le (r b : Int) (hb : 1 <= b) : r <= b * -(-r / b) /\ b * -(-r / b) < r + b := by
 have := mul_div_le (-r) b hb
 rw [Int.mul_neg]
 omega
theorem le_step (b y r : Int) (hb : 1 <= b) : r <= stepV b y ↔ b * -(-r / b) <= y + b / 2 := by
 unfold stepV
 have h1 : b * -(-r / b) <= y + b / 2 ↔ -(-r / b) <= (y + b / 2) / b := by rw [Int.le_ediv_iff_mul_le (by omega), Int.mul_comm]
 have h2 : -((y + b / 2) / b) <= -r / b ↔ -((y + b / 2) / b) * b <= -r := Int.le_ediv_iff_mul_le (by omega)
 rw [Int.neg_mul, Int.mul_comm ((y + b / 2) / b) b] at h2
 omega
theorem lt_step (b y r : Int) (hb : 1 <= b) : r < stepV b y ↔ b * (r / b) + b <= y + b / 2 := by
 unfold stepV
 have h1 : (r / b + 1) <= (y + b / 2) / b ↔ (r / b + 1) * b <= y + b / 2 := Int.le_ediv_iff_mul_le (by omega)
 have h2 : r / b < (y + b / 2) / b ↔ r < (y + b / 2) / b * b := Int.ediv_lt_iff_lt_mul (by omega)
 rw [Int.add_mul, Int.one_mul, Int.mul_comm (r / b) b] at h1
 rw [Int.mul_comm ((y + b / 2) / b) b] at h2
 omega
@[irreducible] def thr1 (a b c d r : Int) : Int := if r <= c then -1099511627776 else if d < r then 1099511627777 else b * -(-r / b) - b / 2 - a
@[irreducible] def thr2 (a b c d r : Int) : Int := if d <= r then 1099511627777 else if r < c then -1099511627776 else b * (r / b) + b - b / 2 + a
theorem sens_of {a b c d : Int} (h : sensOK a b c d = true) : 0 <= a /\ a <= 1073741824 /\ 1 <= b /\ b <= 1073741824 /\ -1073741824 <= c /\ c <= d /\ d <= 1073741824 := by
 simp [sensOK] at h; omega
theorem thr1_iff {a b c d r x : Int} (h : sensOK a b c d = true) (h1 : -1099511627776 <= x) (h2 : x <= 1099511627776) : r <= intoV (stepV b (x + a)) c d ↔ thr1 a b c d r <= x := by
 have := sens_of h
 have := le_step b (x + a) r (by omega)
 unfold thr1 intoV; split
 ·omega
 ·split <;> omega
theorem thr2_iff {a b c d r x : Int} (h : sensOK a b c d = true) (h1 : -1099511627776 <= x) (h2 : x <= 1099511627776) : r < intoV (stepV b (x - a)) c d ↔ thr2 a b c d r <= x := by
 have := sens_of h
 have := lt_step b (x - a) r (by omega)
 unfold thr2 intoV; split
 ·omega
 ·split <;> omega
theorem stepV_mod (b y : Int) : stepV b y % b = 0 := by unfold stepV; exact Int.mul_emod_right _ _
theorem ref_eq {a b c d r : Int} (h : sensOK a b c d = true) (h' : readOK b c d r = true) : behLo a b c d r = thr1 a b c d r /\ behHi a b c d r = thr2 a b c d r - 1 := by
 obtain ⟨h1, h2, _⟩ := beh_0 h h'
 simp [readOK] at h'
 rw [h1, h2]
 unfold thr1 thr2
 constructor
 ·split
  ·rw [if_neg (by omega), if_neg (by omega)]
  ·rw [if_pos (by omega)]
 ·split
  ·rw [if_neg (by omega), if_neg (by omega)]; omega
  ·rw [if_pos (by omega)]; omega
end Abs
end Go.Proofs.YtlabbaglbcmofaaGreat

namespace Go.Proofs.YtlabbaglbcmofaaGreat
namespace Abs
open Go Go.RowKit
noncomputable section
attribute [local irreducible] FnSat
set_option maxRecDepth 100000 in
theorem ewi_ok : FnSpec Tryz.prog 98 _ betS := by
 refine FnSpec.of SEv_ok mixed (U := 0) (I := fun _ => []) Tryz.func98 rfl (by kernel_rfl) rfl rfl (by decide +kernel) ?_
 rintro ⟨(x : Int), (lo : Int), (hi : Int), ⟨⟩⟩ -
 unfold FnSat
 conv => arg 2; reduce
 simp [betS, isIn]
set_option maxRecDepth 100000 in
theorem efl_ok : FnSpec Tryz.prog 99 _ divS := by
 refine FnSpec.of SEv_ok mixed (U := 0) (I := fun _ => []) Tryz.func99 rfl (by kernel_rfl) rfl rfl (by decide +kernel) ?_
 rintro ⟨(n : Int), (d : Int), ⟨⟩⟩ ⟨(h1 : -4611686018427387904 <= n), (h2 : n <= 4611686018427387904), (h3 : 1 <= d)⟩
 unfold FnSat
 conv => arg 2; reduce
 simp [divS, and_assoc]
 exact dvI_by h1 h2 h3
noncomputable def SEs1 : Sums := ⟨(99, mkSum _ divS) :: (98, mkSum _ betS) :: SEv.one, SEv.two, SEv.lo, SEv.eqs, SEv.its, SEv.imm⟩
theorem SEs1_ok : SumsOK Tryz.prog SEs1 := ((SEv_ok.cons Tryz.func98 (by kernel_rfl) (by kernel_rfl) ewi_ok).cons Tryz.func99 (by kernel_rfl) (by kernel_rfl) efl_ok)
set_option maxRecDepth 100000 in
theorem ecs_ok : FnSpec Tryz.prog 46 _ check := by
 refine FnSpec.of SEs1_ok mixed (U := 0) (I := fun _ => []) Tryz.func46 rfl (by kernel_rfl) rfl rfl (by decide +kernel) ?_
 rintro ⟨⟨(a : Int), (b : Int), (c : Int), (d : Int), ⟨⟩⟩, ⟨⟩⟩ -
 unfold FnSat
 conv => arg 2; reduce
 simp [check, betS, errB, sensOK]
 omega
noncomputable def SEs2 : Sums := ⟨(46, mkSum _ check) :: SEs1.one, SEs1.two, SEs1.lo, SEs1.eqs, SEs1.its, SEs1.imm⟩
theorem SEs2_ok : SumsOK Tryz.prog SEs2 := (SEs1_ok.cons Tryz.func46 (by kernel_rfl) (by kernel_rfl) ecs_ok)
set_option maxRecDepth 100000 in
theorem esh_ok : FnSpec Tryz.prog 39 _ show_ := by
 refine FnSpec.of SEs2_ok mixed (U := 0) (I := fun _ => []) Tryz.func39 rfl (by kernel_rfl) rfl rfl (by decide +kernel) ?_
 rintro ⟨⟨(a : Int), (b : Int), (c : Int), (d : Int), ⟨⟩⟩, (x : Int), (n : Int), ⟨⟩⟩ -
 unfold FnSat
 conv => arg 2; reduce
 simp [show_, check, betS, divS, errB]
 refine ⟨fun h => ?_, fun h1 x0 x1 => ?_⟩
 ·have h0 := showE_2 (a := a) (b := b) (c := c) (d := d) (x := x) (n := n) (by
   cases h1 : sensOK a b c d <;> cases h2 : isQ x <;> simp_all [isQ] <;> omega)
  rw [h0.1, h0.2]; simp
 have h3 := sens_of h1
 have h0 : (sensOK a b c d && isQ x) = true := by rw [h1]; simp [isQ]; omega
 have ht := tdiv2 b (by omega)
 have e1 : stepV b (x + n) = b * dvI (x + n + b / 2) b := by unfold stepV dvI; rfl
 have l1 := stepV_lo b (x + n) (by omega)
 have l2 := stepV_hi b (x + n) (by omega)
 refine ⟨by omega, fun h => ?_, fun n0 n1 => ?_⟩
 ·have := showE_3 h0 (n := n) (by
   cases hh : isIn (-a) n a with
   | false => rfl
   | true => exfalso; simp at hh; omega)
  rw [this.1, this.2]; simp
 ·have := showE_0 h0 (n := n) (by simp; omega)
  rw [ht, <- e1, this.1, this.2]
  refine ⟨by omega, by omega, by omega, by omega, by omega, ?_, rfl⟩
  unfold intoV; omega
noncomputable def SEs3 : Sums := ⟨(39, mkSum _ show_) :: SEs2.one, SEs2.two, SEs2.lo, SEs2.eqs, SEs2.its, SEs2.imm⟩
theorem SEs3_ok : SumsOK Tryz.prog SEs3 := (SEs2_ok.cons Tryz.func39 (by kernel_rfl) (by kernel_rfl) esh_ok)
end
end Abs
end Go.Proofs.YtlabbaglbcmofaaGreat

namespace Go.Proofs.YtlabbaglbcmofaaGreat
namespace Abs
open Go Go.RowKit
noncomputable section
attribute [local irreducible] FnSat
set_option maxRecDepth 100000 in
theorem ebh_ok : FnSpec Tryz.prog 41 _ behind := by
 refine FnSpec.of SEs3_ok mixed (U := 0) (I := fun _ => []) Tryz.func41 rfl (by kernel_rfl) rfl rfl (by decide +kernel) ?_
 rintro ⟨⟨(a : Int), (b : Int), (c : Int), (d : Int), ⟨⟩⟩, (r : Int), ⟨⟩⟩ -
 unfold FnSat
 conv => arg 2; reduce
 simp [behind, check, betS, divS, errB]
 have hd : ∀ x : Int, dvI x b = x / b := fun x => by unfold dvI; rfl
 constructor
 ·intro h
  have := beh_2 h (r := r)
  omega
 ·intro h
  have h1 := sens_of h
  rw [tdiv2 b (by omega)]
  have hm1 := mul_div_le r b (by omega)
  have hm2 := mul_cdiv_le r b (by omega)
  simp only [tmod_z, hd]
  have hq : -1099511627776 <= -r / b \/ r < c \/ d < r := by
   by_cases hr : r < c \/ d < r
   ·exact .inr hr
   ·left; rw [Int.le_ediv_iff_mul_le (by omega)]
    have : -1099511627776 * b <= -1099511627776 * 1 := Int.mul_le_mul_of_nonpos_left (by omega) (by omega)
    omega
  have hq2 : -r / b <= 1099511627776 \/ r < c \/ d < r := by
   by_cases hr : r < c \/ d < r
   ·exact .inr hr
   ·left
    have : -r / b < 1099511627777 := by
     rw [Int.ediv_lt_iff_lt_mul (by omega)]
     have : 1099511627777 * 1 <= 1099511627777 * b := Int.mul_le_mul_of_nonneg_left (by omega) (by omega)
     omega
    omega
  cases hr : readOK b c d r with
  | false =>
    have := beh_5 h hr
    simp [readOK] at hr
    omega
  | true =>
    obtain ⟨g1, g2, g3⟩ := beh_0 h hr
    rw [g1, g2, g3]
    simp [readOK] at hr
    generalize b * (r / b) = u at *
    generalize b * -(-r / b) = v at *
    repeat' (first | refine And.intro ?_ ?_ | intro _)
    all_goals first | omega | (split <;> omega)
def plainS : Spec [] := ⟨fun _ => True, fun _ => .agg [.li .i64 3, .li .i64 10, .li .i64 0, .li .i64 100]⟩
set_option maxRecDepth 100000 in
theorem plainS_ok : FnSpec Tryz.prog 40 _ plainS := by
 refine FnSpec.of SEs3_ok mixed (U := 0) (I := fun _ => []) Tryz.func40 rfl (by kernel_rfl) rfl rfl (by decide +kernel) ?_
 rintro ⟨⟩ -
 unfold FnSat
 conv => arg 2; reduce
 simp [plainS]
noncomputable def SLw0 : Sums := ⟨(41, mkSum _ behind) :: (40, mkSum _ plainS) :: SEs3.one, SEs3.two, SEs3.lo, SEs3.eqs, SEs3.its, SEs3.imm⟩
theorem SLw0_ok : SumsOK Tryz.prog SLw0 := ((SEs3_ok.cons Tryz.func40 (by kernel_rfl) (by kernel_rfl) plainS_ok).cons Tryz.func41 (by kernel_rfl) (by kernel_rfl) ebh_ok)
@[reducible] def sp2w : List (Option IntKind) := [some .i64, some .i64]
def eqsW : List (Nat × List (Option IntKind)) := [(32, sp2w)]
theorem eqsW_ok : ∀ t ks, findS eqsW t = some ks -> EqOK Tryz.prog t ks := by
 intro t ks h
 unfold eqsW at h
 simp only [findS] at h
 split at h
 ·rename_i e
  obtain rfl := Nat.eq_of_beq_eq_true e
  injection h with h; subst h
  exact EqOK.of 3 (by decide) (by kernel_rfl) (by kernel_rfl) (by kernel_rfl)
 ·cases h
noncomputable def SLw1 : Sums := ⟨SLw0.one, SLw0.two, SLw0.lo, eqsW, SLw0.its, SLw0.imm⟩
theorem SLw1_ok : SumsOK Tryz.prog SLw1 := SLw0_ok.setEqs eqsW_ok
def tru3 : Spec [] := ⟨fun _ => True, fun _ => .sb true⟩
theorem works_num : showV 3 10 0 100 42 3 = 50 /\ showE 3 10 0 100 42 3 = 0 /\ behLo 3 10 0 100 40 = 32 /\ behHi 3 10 0 100 40 = 47 /\ behE 3 10 0 100 40 = 0 := by
 simp [showV, showE, behLo, behHi, behE, sensOK, isQ, intoV, stepV, readOK]; decide
set_option maxRecDepth 100000 in
theorem works_ok : FnSpec Tryz.prog 8 _ tru3 := by
 refine FnSpec.of SLw1_ok mixed (U := 0) (I := fun _ => []) Tryz.func8 rfl (by kernel_rfl) rfl rfl (by decide +kernel) ?_
 rintro ⟨⟩ -
 unfold FnSat
 conv => arg 2; reduce
 obtain ⟨h1, h2, h3, h4, h5⟩ := works_num
 simp [plainS, show_, behind, tru3, h1, h2, h3, h4, h5]
@[irreducible] def shtB (c : Cel) : Bool := decide (c.ocv.nx <= 100) && (decide (c.ocv.ny <= 100) && (decide (c.cold.nx <= 100) && (decide (c.cold.ny <= 100) && (decide (c.stress.nx <= 100) && decide (c.stress.ny <= 100)))))
theorem shtB_max {c : Cel} (h : shtB c = true) : CelMax c := by
 unfold shtB at h
 simp at h
 unfold CelMax maxLen
 omega
def shtS : Spec [celSh] := ⟨fun _ => True, fun (c, _) => .sb (shtB (celOf c))⟩
set_option maxRecDepth 100000 in
set_option maxHeartbeats 2000000 in
theorem sht_ok : FnSpec Tryz.prog 7 _ shtS := by
 refine FnSpec.of SLw1_ok mixed (U := 0) (I := fun _ => []) Tryz.func7 rfl (by kernel_rfl) rfl rfl (by decide +kernel) ?_
 rintro ⟨c, ⟨⟩⟩ -
 obtain ⟨c, rfl⟩ := cel_ex c
 unfold FnSat
 conv => arg 2; reduce
 simp [shtS, shtB]
 rw [Bool.eq_iff_iff]
 simp
 omega
end
end Abs
end Go.Proofs.YtlabbaglbcmofaaGreat

namespace Go.Proofs.YtlabbaglbcmofaaGreat
namespace Abs
open Go Go.RowKit
noncomputable section
attribute [local irreducible] FnSat
noncomputable def SKb0 : Sums := ⟨SWf.one, SWf.two, SWf.lo, eqsW, SWf.its, SWf.imm⟩
theorem SKb0_ok : SumsOK Tryz.prog SKb0 := SWf_ok.setEqs eqsW_ok
def blwS : Spec [.int .i64] := ⟨fun _ => True, fun ((d : Int), _) => .sb (isIn 1 d 1099511627776)⟩
set_option maxRecDepth 100000 in
theorem blw_ok : FnSpec Tryz.prog 141 _ blwS := by
 refine FnSpec.of SKb0_ok mixed (U := 0) (I := fun _ => []) Tryz.func141 rfl (by kernel_rfl) rfl rfl (by decide +kernel) ?_
 rintro ⟨(d : Int), ⟨⟩⟩ -
 unfold FnSat
 conv => arg 2; reduce
 simp [blwS]
@[irreducible] def ftE (x : Int) : Int := if isQ x = true then 0 else 4
@[irreducible] def ftV (x : Int) : Int := if isQ x = true then x else 0
def ftS : Spec [.int .i64] := ⟨fun _ => True, fun ((x : Int), _) => .tup [.si .i64 (ftV x), .si .i64 (ftE x)]⟩
set_option maxRecDepth 100000 in
theorem ft_ok : FnSpec Tryz.prog 142 _ ftS := by
 refine FnSpec.of SKb0_ok mixed (U := 0) (I := fun _ => []) Tryz.func142 rfl (by kernel_rfl) rfl rfl (by decide +kernel) ?_
 rintro ⟨(x : Int), ⟨⟩⟩ -
 unfold FnSat
 conv => arg 2; reduce
 simp [ftS, isS]
 refine ⟨fun h => ?_, fun h => ?_⟩
 ·unfold ftV ftE; rw [h]; simp
 ·unfold ftV ftE; rw [h]; simp
noncomputable def SKb1 : Sums := ⟨(142, mkSum _ ftS) :: (141, mkSum _ blwS) :: SKb0.one, SKb0.two, SKb0.lo, SKb0.eqs, SKb0.its, SKb0.imm⟩
theorem SKb1_ok : SumsOK Tryz.prog SKb1 := ((SKb0_ok.cons Tryz.func141 (by kernel_rfl) (by kernel_rfl) blw_ok).cons Tryz.func142 (by kernel_rfl) (by kernel_rfl) ft_ok)
@[irreducible] def qflB (x n d : Int) : Bool := isQ x && (isQ n && isIn 1 d 1099511627776)
@[irreducible] def qflE (x n d : Int) : Int := if qflB x n d = true then ftE (dnW x n d) else 2
@[irreducible] def qflV (x n d : Int) : Int := if qflB x n d = true then ftV (dnW x n d) else 0
def flrS : Spec [.int .i64, .int .i64, .int .i64] := ⟨fun _ => True, fun ((x : Int), (n : Int), (d : Int), _) => .tup [.si .i64 (qflV x n d), .si .i64 (qflE x n d)]⟩
set_option maxRecDepth 100000 in
theorem flr_ok : FnSpec Tryz.prog 69 _ flrS := by
 refine FnSpec.of SKb1_ok mixed (U := 0) (I := fun _ => []) Tryz.func69 rfl (by kernel_rfl) rfl rfl (by decide +kernel) ?_
 rintro ⟨(x : Int), (n : Int), (d : Int), ⟨⟩⟩ -
 unfold FnSat
 conv => arg 2; reduce
 simp [-Bool.forall_bool, flrS, isS, blwS, ftS, dnS, and_assoc]
 refine ⟨fun h => ?_, fun h1 h2 h3 h4 => ?_⟩
 ·have hb : qflB x n d = false := by
   cases hc : qflB x n d with
   | false => rfl
   | true =>
     unfold qflB at hc
     simp at hc
     rcases h with (h | h) | h
     ·rw [h] at hc; simp at hc
     ·rw [h] at hc; simp at hc
     ·omega
  unfold qflV qflE
  rw [hb]; simp
 ·have hb : qflB x n d = true := by unfold qflB; simp [h1, h2]; omega
  have x1 := isQ_iff.1 h1
  have x2 := isQ_iff.1 h2
  refine ⟨by omega, by omega, by omega, by omega, by rw [absI_pos (by omega)]; exact h3, by omega, by omega, ?_, ?_⟩
  ·unfold qflV; rw [if_pos hb]
  ·unfold qflE; rw [if_pos hb]
theorem dnW_in {x n d : Int} (hx : 0 <= x) (hx2 : x <= 288230376151711744) (hd : 1 <= d) (h1 : -d <= n) (h2 : n <= d) : -x <= dnW x n d /\ dnW x n d <= x /\ (0 <= n -> 0 <= dnW x n d) := by
 have ax : absI x = x := absI_pos hx
 have ad : absI d = d := absI_pos (by omega)
 have am : 0 <= absI n /\ absI n <= d := absI_b h1 h2
 have hp : x * absI n <= x * d := Int.mul_le_mul_of_nonneg_left am.2 hx
 have hp0 : 0 <= x * absI n := Int.mul_nonneg hx am.1
 have q0 : 0 <= x * absI n / d := Int.ediv_nonneg hp0 (by omega)
 have q1 : x * absI n / d <= x := by
  have := Int.ediv_le_ediv (show 0 < d by omega) hp
  rwa [Int.mul_ediv_cancel _ (by omega)] at this
 have hw : whQ x (absI n) d = x * absI n / d := by unfold whQ; rw [if_pos (by omega)]
 have hr : 0 < whR x (absI n) d -> x * absI n / d + 1 <= x := fun h => by
  have hr : whR x (absI n) d = x * absI n % d := by unfold whR; rw [if_pos (by omega)]
  rw [hr] at h
  have he := Int.mul_ediv_add_emod (x * absI n) d
  rcases Int.lt_or_le (x * absI n / d) x with h3 | h3
  ·omega
  ·exfalso
   have e : x * absI n / d = x := by omega
   rw [e, Int.mul_comm d x] at he
   omega
 have hn : 0 <= n -> 0 <= sgn x * sgn n * sgn d := fun h => by
  have s1 : sgn x = 0 \/ sgn x = 1 := by unfold sgn; split <;> (try split) <;> omega
  have s2 : sgn n = 0 \/ sgn n = 1 := by unfold sgn; split <;> (try split) <;> omega
  have s3 : sgn d = 1 := by unfold sgn; rw [if_neg (by omega), if_pos (by omega)]
  rw [s3]
  rcases s1 with s1 | s1 <;> rcases s2 with s2 | s2 <;> rw [s1, s2] <;> decide
 unfold dnW
 rw [ax, ad, hw]
 refine ⟨?_, ?_, fun h => ?_⟩
 ·split
  ·omega
  ·split
   ·rename_i h; have := hr h; omega
   ·omega
 ·split
  ·exact q1
  ·split <;> omega
 ·rw [if_pos (hn h)]; exact q0
theorem qflV_in {x n d : Int} (hx : 0 <= x) (hx2 : x <= 288230376151711744) (hd : 1 <= d) (h1 : -d <= n) (h2 : n <= d) : -x <= qflV x n d /\ qflV x n d <= x /\ (0 <= n -> 0 <= qflV x n d) := by
 have h := dnW_in hx hx2 hd h1 h2
 unfold qflV ftV
 split
 ·split
  ·exact h
  ·omega
 ·omega
@[irreducible] def btV (lo hi p : Int) : Int := lo + qflV (hi - lo) p 65535
theorem bt_in {lo hi p : Int} (h : lo <= hi) (h2 : hi - lo <= 288230376151711744) (p0 : 0 <= p) (p1 : p <= 65535) : lo <= btV lo hi p /\ btV lo hi p <= hi := by
 have := qflV_in (x := hi - lo) (n := p) (d := 65535) (by omega) h2 (by decide) (by omega) p1
 unfold btV
 omega
noncomputable def SKb2 : Sums := ⟨(69, mkSum _ flrS) :: SKb1.one, SKb1.two, SKb1.lo, SKb1.eqs, SKb1.its, SKb1.imm⟩
theorem SKb2_ok : SumsOK Tryz.prog SKb2 := (SKb1_ok.cons Tryz.func69 (by kernel_rfl) (by kernel_rfl) flr_ok)
def btwS : Spec [spanSh, .int .u16] := ⟨fun (((lo : Int), (hi : Int), _), (p : Int), _) => spanOK lo hi = true /\ 0 <= p /\ p <= 65535, fun (((lo : Int), (hi : Int), _), (p : Int), _) => .si .i64 (btV lo hi p)⟩
set_option maxRecDepth 100000 in
theorem btw_ok : FnSpec Tryz.prog 37 _ btwS := by
 refine FnSpec.of SKb2_ok mixed (U := 0) (I := fun _ => []) Tryz.func37 rfl (by kernel_rfl) rfl rfl (by decide +kernel) ?_
 rintro ⟨⟨(lo : Int), (hi : Int), ⟨⟩⟩, (p : Int), ⟨⟩⟩ ⟨h1, (h2 : 0 <= p), (h3 : p <= 65535)⟩
 unfold FnSat
 conv => arg 2; reduce
 simp [-Bool.forall_bool, btwS, flrS, and_assoc]
 have hs := spanOK_iff.1 h1
 have hf := qflV_in (x := hi - lo) (n := p) (d := 65535) (by omega) (by omega) (by decide) (by omega) h3
 refine ⟨by omega, by omega, by omega, by omega, by omega, by omega, ?_⟩
 unfold btV; rfl
noncomputable def SKb : Sums := ⟨(37, mkSum _ btwS) :: SKb2.one, SKb2.two, SKb2.lo, SKb2.eqs, SKb2.its, SKb2.imm⟩
theorem SKb_ok : SumsOK Tryz.prog SKb := (SKb2_ok.cons Tryz.func37 (by kernel_rfl) (by kernel_rfl) btw_ok)
end
end Abs
end Go.Proofs.YtlabbaglbcmofaaGreat

namespace Go.Proofs.YtlabbaglbcmofaaGreat
namespace Abs
open Go Go.RowKit
noncomputable section
attribute [local irreducible] FnSat
@[irreducible] def niB (a b c d : Int) : Bool := spanOK a b && (spanOK c d && (decide (c <= a) && decide (b <= d)))
theorem niB_iff {a b c d : Int} : niB a b c d = true ↔ spanOK a b = true /\ spanOK c d = true /\ c <= a /\ b <= d := by unfold niB; simp
def niS : Spec [spanSh, spanSh] := ⟨fun _ => True, fun (((a : Int), (b : Int), _), ((c : Int), (d : Int), _), _) => .sb (niB a b c d)⟩
set_option maxRecDepth 100000 in
theorem ni_okQ : FnSpec Tryz.prog 76 _ niS := by
 refine FnSpec.of SKb_ok mixed (U := 0) (I := fun _ => []) Tryz.func76 rfl (by kernel_rfl) rfl rfl (by decide +kernel) ?_
 rintro ⟨⟨(a : Int), (b : Int), ⟨⟩⟩, ⟨(c : Int), (d : Int), ⟨⟩⟩, ⟨⟩⟩ -
 unfold FnSat
 conv => arg 2; reduce
 simp [niS, validS, CanEl, CanL, CanSh, okSh, maxLen, decL, rowAt, takeL, dropL, and_assoc]
 refine ⟨fun k hk => by rcases (show k = 0 \/ k = 1 by omega) with rfl | rfl <;> simp [rowAt, takeL, dropL], ?_⟩
 unfold niB
 rw [Bool.and_assoc, Bool.and_assoc]
noncomputable def SKc0 : Sums := ⟨(76, mkSum _ niS) :: SKb.one, SKb.two, SKb.lo, SKb.eqs, SKb.its, SKb.imm⟩
theorem SKc0_ok : SumsOK Tryz.prog SKc0 := (SKb_ok.cons Tryz.func76 (by kernel_rfl) (by kernel_rfl) ni_okQ)
def cbxS : Spec [spansSh] := ⟨fun (x, _) => x.1 <= 8 /\ ∀ k : Nat, k < x.1 -> spanOK (x.2 k).1 (x.2 k).2.1 = true, fun _ => .si .i64 0⟩
set_option maxRecDepth 100000 in
theorem cbx_ok : FnSpec Tryz.prog 81 _ cbxS := by
 refine FnSpec.of SKc0_ok mixed (U := 0) (I := fun _ => []) Tryz.func81 rfl (by kernel_rfl) rfl rfl (by decide +kernel) ?_
 rintro ⟨⟨n, el⟩, ⟨⟩⟩ hpre
 obtain ⟨h1, h2⟩ : n <= 8 /\ ∀ k : Nat, k < n -> spanOK (el k).1 (el k).2.1 = true := hpre
 unfold FnSat
 conv => arg 2; reduce
 have h3 := (spansOK_iff el n).2 h2
 simp [-Bool.forall_bool, cbxS, validS, and_assoc]
 refine ⟨by omega, fun _ => ⟨by unfold maxLen; omega, h3⟩⟩
noncomputable def SKc1 : Sums := ⟨(81, mkSum _ cbxS) :: SKc0.one, SKc0.two, SKc0.lo, SKc0.eqs, SKc0.its, SKc0.imm⟩
theorem SKc1_ok : SumsOK Tryz.prog SKc1 := (SKc0_ok.cons Tryz.func81 (by kernel_rfl) (by kernel_rfl) cbx_ok)
def albS : Spec [spansSh, spansSh, .fn 76 [] []] := ⟨fun (x, y, _) => x.1 <= 8 /\ x.1 = y.1 /\ (∀ k : Nat, k < x.1 -> spanOK (x.2 k).1 (x.2 k).2.1 = true /\ spanOK (y.2 k).1 (y.2 k).2.1 = true /\ (y.2 k).1 <= (x.2 k).1 /\ (x.2 k).2.1 <= (y.2 k).2.1), fun _ => .sb true⟩
def albI : DatL [spansSh, spansSh, .fn 76 [] []] -> Anns := fun (x, _, _) => [
 (4, [], fun fr hp => ⟨Nat, fun g => ⟨frI [.k 7, .t 1, .k 17, .s (.si .i64 (icast g)), .t 14] fr, hp⟩, Nat × Nat, fun g => (g, x.1), fun (g, n) => g <= n, fun g => nsub x.1 g⟩)]
set_option maxRecDepth 100000 in
theorem alb_ok : FnSpec Tryz.prog 75 _ albS := by
 refine FnSpec.of SKc1_ok mixed (U := 0) (I := albI) Tryz.func75 rfl (by kernel_rfl) rfl rfl (by decide +kernel) ?_
 rintro ⟨⟨n, el⟩, ⟨m, em⟩, ⟨⟩, ⟨⟩⟩ hpre
 obtain ⟨lo, hi, rfl⟩ : ∃ lo hi : Nat -> Int, el = fun k => (lo k, hi k, ()) := ⟨fun k => (el k).1, fun k => (el k).2.1, rfl⟩
 obtain ⟨bl, bh, rfl⟩ : ∃ bl bh : Nat -> Int, em = fun k => (bl k, bh k, ()) := ⟨fun k => (em k).1, fun k => (em k).2.1, rfl⟩
 obtain ⟨h1, h2, h3⟩ : n <= 8 /\ n = m /\ (∀ k : Nat, k < n -> spanOK (lo k) (hi k) = true /\ spanOK (bl k) (bh k) = true /\ bl k <= lo k /\ hi k <= bh k) := hpre
 subst h2
 unfold FnSat
 conv => arg 2; reduce
 simp [-Bool.forall_bool, albS, cbxS, niS, and_assoc]
 refine ⟨h1, fun k hk => (h3 k hk).1, h1, fun k hk => (h3 k hk).2.1, ⟨0, rfl, by omega⟩, fun g hg hlt => ⟨hlt, ?_, fun _ => ⟨by omega, by omega, g + 1, by omega, by omega, by omega⟩⟩⟩
 obtain ⟨a1, a2, a3, a4⟩ := h3 g hlt
 exact niB_iff.2 ⟨a1, a2, a3, a4⟩
noncomputable def SKc2 : Sums := ⟨(75, (mkSum _ albS)) :: SKc1.one, SKc1.two, SKc1.lo, SKc1.eqs, SKc1.its, SKc1.imm⟩
theorem SKc2_ok : SumsOK Tryz.prog SKc2 := (SKc1_ok.add Tryz.func75 (by kernel_rfl) (by kernel_rfl) (mkSum_ok alb_ok))
def bisS : Spec [spansSh, spansSh] := ⟨fun (x, y, _) => x.1 <= 8 /\ x.1 = y.1 /\ (∀ k : Nat, k < x.1 -> spanOK (x.2 k).1 (x.2 k).2.1 = true /\ spanOK (y.2 k).1 (y.2 k).2.1 = true /\ (y.2 k).1 <= (x.2 k).1 /\ (x.2 k).2.1 <= (y.2 k).2.1), fun _ => .sb true⟩
set_option maxRecDepth 100000 in
theorem bis_ok : FnSpec Tryz.prog 23 _ bisS := by
 refine FnSpec.of SKc2_ok mixed (U := 0) (I := fun _ => []) Tryz.func23 rfl (by kernel_rfl) rfl rfl (by decide +kernel) ?_
 rintro ⟨⟨n, el⟩, ⟨m, em⟩, ⟨⟩⟩ hpre
 obtain ⟨lo, hi, rfl⟩ : ∃ lo hi : Nat -> Int, el = fun k => (lo k, hi k, ()) := ⟨fun k => (el k).1, fun k => (el k).2.1, rfl⟩
 obtain ⟨bl, bh, rfl⟩ : ∃ bl bh : Nat -> Int, em = fun k => (bl k, bh k, ()) := ⟨fun k => (em k).1, fun k => (em k).2.1, rfl⟩
 obtain ⟨h1, h2, h3⟩ : n <= 8 /\ n = m /\ (∀ k : Nat, k < n -> spanOK (lo k) (hi k) = true /\ spanOK (bl k) (bh k) = true /\ bl k <= lo k /\ hi k <= bh k) := hpre
 subst h2
 unfold FnSat
 conv => arg 2; reduce
 simp [-Bool.forall_bool, bisS, albS, and_assoc]
 exact ⟨h1, h3⟩
noncomputable def SKc : Sums := ⟨(23, mkSum _ bisS) :: SKc2.one, SKc2.two, SKc2.lo, SKc2.eqs, SKc2.its, SKc2.imm⟩
theorem SKc_ok : SumsOK Tryz.prog SKc := (SKc2_ok.cons Tryz.func23 (by kernel_rfl) (by kernel_rfl) bis_ok)
end
end Abs
end Go.Proofs.YtlabbaglbcmofaaGreat

namespace Go.Proofs.YtlabbaglbcmofaaGreat
namespace Abs
open Go Go.RowKit
noncomputable section
attribute [local irreducible] FnSat
@[reducible] def sen4 : Sh := .agg [.int .i64, .int .i64, .int .i64, .int .i64, .int .i64, .int .i64, .int .i64, .int .i64, .int .i64, .int .i64, .int .i64, .int .i64, .int .i64, .int .i64, .int .i64, .int .i64]
@[reducible] def int4 : Sh := .agg [.int .i64, .int .i64, .int .i64, .int .i64]
@[irreducible] def snE (ok : Bool) (cs : Int) (inp nz : Bool) : Int := if ok = true then (if cs = 0 then (if (inp && nz) = true then 0 else 3) else cs) else 2
@[irreducible] def snV (e x : Int) : Int := if e = 0 then x else 0
@[irreducible] def snB (e : Int) : Bool := decide (e = 0)
@[irreducible] def an4 (a b c d : Bool) : Bool := a && (b && (c && d))
@[irreducible] def noiB (a n : Int) : Bool := isIn (-a) n a
@[irreducible] def senE (c : Cel) (s : Sta) (i am a0 b0 c0 d0 a1 b1 c1 d1 a2 b2 c2 d2 a3 b3 c3 d3 n0 n1 n2 n3 : Int) : Int :=
 snE (an4 (sensOK a0 b0 c0 d0) (sensOK a1 b1 c1 d1) (sensOK a2 b2 c2 d2) (sensOK a3 b3 c3 d3)) (csE c s) (inB i am) (an4 (noiB a0 n0) (noiB a1 n1) (noiB a2 n2) (noiB a3 n3))
def senS : Spec [sen4, celSh, staSh, inSh, int4] := ⟨fun (_, c, _) => CelMax (celOf c), fun ((a0, b0, c0, d0, a1, b1, c1, d1, a2, b2, c2, d2, a3, b3, c3, d3, _), c, s, ((i : Int), (am : Int), _), (n0, n1, n2, n3, _), _) =>
 .tup [.agg [.sb (snB (senE (celOf c) (staOf s) i am a0 b0 c0 d0 a1 b1 c1 d1 a2 b2 c2 d2 a3 b3 c3 d3 n0 n1 n2 n3)), .sb (snB (senE (celOf c) (staOf s) i am a0 b0 c0 d0 a1 b1 c1 d1 a2 b2 c2 d2 a3 b3 c3 d3 n0 n1 n2 n3)), .sb (snB (senE (celOf c) (staOf s) i am a0 b0 c0 d0 a1 b1 c1 d1 a2 b2 c2 d2 a3 b3 c3 d3 n0 n1 n2 n3)), .sb (snB (senE (celOf c) (staOf s) i am a0 b0 c0 d0 a1 b1 c1 d1 a2 b2 c2 d2 a3 b3 c3 d3 n0 n1 n2 n3)),
  .si .i64 (snV (senE (celOf c) (staOf s) i am a0 b0 c0 d0 a1 b1 c1 d1 a2 b2 c2 d2 a3 b3 c3 d3 n0 n1 n2 n3) (showV a0 b0 c0 d0 (voltV (celOf c) (staOf s) i) n0)), .si .i64 (snV (senE (celOf c) (staOf s) i am a0 b0 c0 d0 a1 b1 c1 d1 a2 b2 c2 d2 a3 b3 c3 d3 n0 n1 n2 n3) (showV a1 b1 c1 d1 i n1)),
  .si .i64 (snV (senE (celOf c) (staOf s) i am a0 b0 c0 d0 a1 b1 c1 d1 a2 b2 c2 d2 a3 b3 c3 d3 n0 n1 n2 n3) (showV a2 b2 c2 d2 (staOf s).tp n2)), .si .i64 (snV (senE (celOf c) (staOf s) i am a0 b0 c0 d0 a1 b1 c1 d1 a2 b2 c2 d2 a3 b3 c3 d3 n0 n1 n2 n3) (showV a3 b3 c3 d3 am n3))],
  .si .i64 (senE (celOf c) (staOf s) i am a0 b0 c0 d0 a1 b1 c1 d1 a2 b2 c2 d2 a3 b3 c3 d3 n0 n1 n2 n3)]⟩
noncomputable def SEt1 : Sums := ⟨SEs3.one, SEs3.two, SEs3.lo, SEs3.eqs, SEs3.its, SEs3.imm⟩
theorem SEt1_ok : SumsOK Tryz.prog SEt1 := SEs3_ok
theorem errB_n {b : Bool} (h : ¬errB b = 0) : b = false /\ errB b = 2 := by
 cases b with
 | true => exact absurd (by unfold errB; simp) h
 | false => exact ⟨rfl, by unfold errB; simp⟩
theorem errB_y {b : Bool} (h : errB b = 0) : b = true := by
 cases b with
 | true => rfl
 | false => unfold errB at h; simp at h
theorem sn_fin {E : Int} (v0 v1 v2 v3 e : Int) (h : ¬e = 0) (h' : e = E) : snB E = false /\ 0 = snV E v0 /\ 0 = snV E v1 /\ 0 = snV E v2 /\ 0 = snV E v3 /\ e = E := by
 subst h'
 unfold snB snV
 simp [h]
theorem sh_E {a b c d x n : Int} (h : sensOK a b c d = true) (hx : -1099511627776 <= x) (hx' : x <= 1099511627776) : showE a b c d x n = if noiB a n = true then 0 else 3 := by
 have h0 : (sensOK a b c d && isQ x) = true := by rw [h]; simp [isQ]; omega
 unfold noiB
 cases hn : isIn (-a) n a with
 | true => rw [if_pos rfl]; exact (showE_0 h0 hn).2
 | false => rw [if_neg (by simp)]; exact (showE_3 h0 hn).2
theorem sh_n {a b c d x n : Int} (h : sensOK a b c d = true) (hx : -1099511627776 <= x) (hx' : x <= 1099511627776) (k : ¬showE a b c d x n = 0) : noiB a n = false /\ showE a b c d x n = 3 := by
 rw [sh_E h hx hx'] at k ⊢
 cases hn : noiB a n with
 | true => rw [hn] at k; simp at k
 | false => simp
theorem sh_y {a b c d x n : Int} (h : sensOK a b c d = true) (hx : -1099511627776 <= x) (hx' : x <= 1099511627776) (k : showE a b c d x n = 0) : noiB a n = true := by
 rw [sh_E h hx hx'] at k
 cases hn : noiB a n with
 | true => rfl
 | false => rw [hn] at k; simp at k
theorem inB_n {i am : Int} (h : curI i = false \/ am < 0 \/ 400000 < am) : inB i am = false := by
 cases hi : inB i am with
 | false => rfl
 | true =>
   have k := inB_iff.1 hi
   have k2 := curI_iff.2 k.1
   rcases h with h | h | h
   ·rw [k2] at h; cases h
   ·omega
   ·omega
set_option maxRecDepth 100000 in
set_option maxHeartbeats 4000000 in
theorem esen_ok : FnSpec Tryz.prog 70 _ senS := by
 refine FnSpec.of SEt1_ok mixed (U := 5) (I := fun _ => []) Tryz.func70 rfl (by kernel_rfl) rfl rfl (by decide +kernel) ?_
 rintro ⟨⟨(a0 : Int), (b0 : Int), (c0 : Int), (d0 : Int), (a1 : Int), (b1 : Int), (c1 : Int), (d1 : Int), (a2 : Int), (b2 : Int), (c2 : Int), (d2 : Int), (a3 : Int), (b3 : Int), (c3 : Int), (d3 : Int), ⟨⟩⟩, c, s, ⟨(i : Int), (am : Int), ⟨⟩⟩, ⟨(n0 : Int), (n1 : Int), (n2 : Int), (n3 : Int), ⟨⟩⟩, ⟨⟩⟩ hpre
 obtain ⟨c, rfl⟩ := cel_ex c
 obtain ⟨s, rfl⟩ := sta_ex s
 have hpre : CelMax c := by have : CelMax (celOf (celD c)) := hpre; rwa [celOf_D] at this
 unfold FnSat
 conv => arg 2; reduce
 simp [-Bool.forall_bool, senS, check, show_, ccheckS, cstS, volS, betS, and_assoc]
 have hE : senE c s i am a0 b0 c0 d0 a1 b1 c1 d1 a2 b2 c2 d2 a3 b3 c3 d3 n0 n1 n2 n3 = snE (an4 (sensOK a0 b0 c0 d0) (sensOK a1 b1 c1 d1) (sensOK a2 b2 c2 d2) (sensOK a3 b3 c3 d3)) (csE c s) (inB i am) (an4 (noiB a0 n0) (noiB a1 n1) (noiB a2 n2) (noiB a3 n3)) := by unfold senE; rfl
 generalize senE c s i am a0 b0 c0 d0 a1 b1 c1 d1 a2 b2 c2 d2 a3 b3 c3 d3 n0 n1 n2 n3 = E at *
 refine ⟨fun h => sn_fin _ _ _ _ _ h ?_, fun k0 => ⟨fun h => sn_fin _ _ _ _ _ h ?_, fun k1 => ⟨fun h => sn_fin _ _ _ _ _ h ?_, fun k2 => ⟨fun h => sn_fin _ _ _ _ _ h ?_, fun k3 => ?_⟩⟩⟩⟩
 ·have := errB_n h; rw [this.2, hE, this.1]; simp [snE, an4]
 ·have := errB_n h; rw [this.2, hE, this.1]; simp [snE, an4]
 ·have := errB_n h; rw [this.2, hE, this.1]; simp [snE, an4]
 ·have := errB_n h; rw [this.2, hE, this.1]; simp [snE, an4]
 have k0 := errB_y k0
 have k1 := errB_y k1
 have k2 := errB_y k2
 have k3 := errB_y k3
 rw [k0, k1, k2, k3] at hE
 refine ⟨hpre, fun h => sn_fin _ _ _ _ _ (by rw [h]; simp [errA]) ?_, fun hc => ⟨hpre, fun h => sn_fin _ _ _ _ _ h ?_, fun hs => ?_⟩⟩
 ·have := csE_2 (s := s) h
  rw [h, hE, this]; simp [snE, an4, errA]
 ·rw [hE]; simp [snE, an4, h]
 rw [hs] at hE
 obtain ⟨_, hst⟩ := csE_iff.1 hs
 refine ⟨hpre, fun h => sn_fin _ _ _ _ _ (by decide) ?_, fun e0 m0 m1 => ?_⟩
 ·rw [hE, inB_n]
  ·simp [snE, an4]
  ·rcases h with h | h
   ·left
    cases hi : curI i with
    | false => rfl
    | true => exact absurd (by rw [aE_yes hs]; unfold wiE; rw [if_pos hi]) h
   ·exact .inr h
 obtain ⟨_, hi⟩ := aEw_0 e0
 have hi' := curI_iff.1 hi
 have hv := voltV_in hc hst hi'.1 hi'.2
 have hb : inB i am = true := inB_iff.2 ⟨hi', m0, m1⟩
 rw [hb] at hE
 have t0 := hst.t0
 have t1 := hst.t1
 have ev : aV c s (wiV i (voltV c s i)) = voltV c s i := by rw [aV_yes hs]; unfold wiV; rw [if_pos hi]
 rw [ev]
 refine ⟨fun h => sn_fin _ _ _ _ _ h ?_, fun h0 => ⟨fun h => sn_fin _ _ _ _ _ h ?_, fun h1 => ⟨fun h => sn_fin _ _ _ _ _ h ?_, fun h2 => ⟨fun h => sn_fin _ _ _ _ _ h ?_, fun h3 => ?_⟩⟩⟩⟩
 ·have := sh_n k0 (by omega) (by omega) h; rw [this.2, hE, this.1]; simp [snE, an4]
 ·have := sh_n k1 (by omega) (by omega) h; rw [this.2, hE, this.1]; simp [snE, an4]
 ·have := sh_n k2 (by omega) (by omega) h; rw [this.2, hE, this.1]; simp [snE, an4]
 ·have := sh_n k3 (by omega) (by omega) h; rw [this.2, hE, this.1]; simp [snE, an4]
 rw [hE, sh_y k0 (by omega) (by omega) h0, sh_y k1 (by omega) (by omega) h1, sh_y k2 (by omega) (by omega) h2, sh_y k3 (by omega) (by omega) h3]
 simp [snE, an4, snB, snV]
end
end Abs
end Go.Proofs.YtlabbaglbcmofaaGreat

namespace Go.Proofs.YtlabbaglbcmofaaGreat
namespace Abs
open Go Go.RowKit
noncomputable section
attribute [local irreducible] FnSat
def isqS : Spec [.int .i64] := ⟨fun _ => True, fun ((x : Int), _) => .sb (isQ x)⟩
set_option maxRecDepth 100000 in
theorem isq_ok : FnSpec Tryz.prog 134 _ isqS := by
 refine FnSpec.of SBq_ok mixed (U := 0) (I := fun _ => []) Tryz.func134 rfl (by kernel_rfl) rfl rfl (by decide +kernel) ?_
 rintro ⟨(x : Int), ⟨⟩⟩ -
 unfold FnSat
 conv => arg 2; reduce
 simp [isqS, betS]
 rw [Bool.eq_iff_iff, isQ_iff]
 simp
def apl1 : Spec [.int .i64, .ptr [intsSh]] := ⟨fun ((i : Int), ((n, _), _), _) => 0 <= i /\ i < (n : Int), fun ((i : Int), ((_, el), _), _) => .si .i64 (el (nat i)).1⟩
set_option maxRecDepth 100000 in
theorem apl1_ok : FnSpec Tryz.prog 136 _ apl1 := by
 refine FnSpec.of SBq_ok mixed (U := 0) (I := fun _ => []) Tryz.func136 rfl (by kernel_rfl) rfl rfl (by decide +kernel) ?_
 rintro ⟨(i : Int), ⟨⟨n, el⟩, ⟨⟩⟩, ⟨⟩⟩ ⟨(h1 : 0 <= i), (h2 : i < (n : Int))⟩
 obtain ⟨v, rfl⟩ : ∃ v : Nat -> Int, el = fun k => (v k, ()) := ⟨fun k => (el k).1, rfl⟩
 unfold FnSat
 conv => arg 2; reduce
 simp [apl1]
 omega
noncomputable def SAa0 : Sums := ⟨(136, mkSum _ apl1) :: (134, mkSum _ isqS) :: SBq.one, SBq.two, SBq.lo, SBq.eqs, SBq.its, SBq.imm⟩
theorem SAa0_ok : SumsOK Tryz.prog SAa0 := ((SBq_ok.cons Tryz.func134 (by kernel_rfl) (by kernel_rfl) isq_ok).cons Tryz.func136 (by kernel_rfl) (by kernel_rfl) apl1_ok)
noncomputable def SAa : Sums := ⟨SAa0.one, SBa.two, SAa0.lo, SAa0.eqs, SAa0.its, SAa0.imm⟩
theorem SAa_ok : SumsOK Tryz.prog SAa := ⟨SAa0_ok.one, SBa_ok.two, SAa0_ok.eqs, SAa0_ok.bodyOne, SBa_ok.bodyTwo, SAa0_ok.its⟩
def moAp : Spec [celSh, .fn 136 [] [.ptr [intsSh]]] := ⟨fun (c, (_, ((n, el), _), _), _) => celB (celOf c) = true /\ n = 7 /\ ofsB (fun k => (el k).1), fun (c, (_, ((_, el), _), _), _) => mvA (celOf c) (fun k => (el k).1)⟩
set_option maxRecDepth 100000 in
set_option maxHeartbeats 2000000 in
theorem moAp_ok : FnSpec Tryz.prog 135 _ moAp := by
 refine FnSpec.of SAa_ok mixed (U := 8) (I := fun _ => []) Tryz.func135 rfl (by kernel_rfl) rfl rfl (by decide +kernel) ?_
 rintro ⟨c, ⟨y, ⟨⟨n, el⟩, ⟨⟩⟩, ⟨⟩⟩, ⟨⟩⟩ hpre
 obtain ⟨c, rfl⟩ := cel_ex c
 obtain ⟨lo, rfl⟩ : ∃ lo : Nat -> Int, el = fun k => (lo k, ()) := ⟨fun k => (el k).1, rfl⟩
 have hpre : celB c = true /\ n = 7 /\ ofsB lo := by have : celB (celOf (celD c)) = true /\ n = 7 /\ ofsB lo := hpre; rwa [celOf_D] at this
 obtain ⟨hc, rfl, ho⟩ := hpre
 unfold FnSat
 conv => arg 2; reduce
 simp [moAp, apl1, numF, encL_cel, ElEq, getB, goneB, aliveB, and_assoc]
 have hk := celB_iff.1 hc
 unfold ofsB at ho
 have a0 := ho 0 (by decide)
 have a1 := ho 1 (by decide)
 have a2 := ho 2 (by decide)
 have a3 := ho 3 (by decide)
 have a4 := ho 4 (by decide)
 have a5 := ho 5 (by decide)
 have a6 := ho 6 (by decide)
 have := hk.cap0
 have := hk.cap1
 have := hk.sh0
 have := hk.sh1
 have := hk.ex0
 have := hk.ex1
 have := hk.pr0
 have := hk.pr1
 have := hk.lk0
 have := hk.lk1
 have := hk.hc0
 have := hk.hc1
 have := hk.co0
 have := hk.co1
 omega
theorem enc_cel (c : Cel) : enc celSh (celD c) = .agg [.si .i64 c.cap, .slc (.sym c.ocv.nx) 1 (fun k => [.si .i64 (c.ocv.x k)]), .slc (.sym c.ocv.ny) 1 (fun k => [.si .i64 (c.ocv.y k)]), .si .i64 c.shift,
  .slc (.sym c.cold.nx) 1 (fun k => [.si .i64 (c.cold.x k)]), .slc (.sym c.cold.ny) 1 (fun k => [.si .i64 (c.cold.y k)]), .si .i64 c.extra, .si .i64 c.pair, .si .i64 c.keep, .si .i64 c.leak, .si .i64 c.hcap, .si .i64 c.cool,
  .slc (.sym c.stress.nx) 1 (fun k => [.si .i64 (c.stress.x k)]), .slc (.sym c.stress.ny) 1 (fun k => [.si .i64 (c.stress.y k)]), .si .i64 c.cyc, .si .i64 c.agel, .si .i64 c.grow] := rfl
def CelFew (c : Cel) : Prop := CelMax c /\ c.ocv.nx <= 1048576 /\ c.ocv.ny <= 1048576 /\ c.cold.nx <= 1048576 /\ c.cold.ny <= 1048576 /\ c.stress.nx <= 1048576 /\ c.stress.ny <= 1048576
def kepS : Spec [celSh] := ⟨fun (c, _) => CelFew (celOf c), fun (c, _) => enc celSh (celD (celOf c))⟩
set_option maxRecDepth 100000 in
set_option maxHeartbeats 2000000 in
theorem kep_ok : FnSpec Tryz.prog 137 _ kepS := by
 refine FnSpec.of SBq_ok mixed (U := 4) (I := fun _ => []) Tryz.func137 rfl (by kernel_rfl) rfl rfl (by decide +kernel) ?_
 rintro ⟨c, ⟨⟩⟩ hpre
 obtain ⟨c, rfl⟩ := cel_ex c
 have hpre : CelFew c := by have : CelFew (celOf (celD c)) := hpre; rwa [celOf_D] at this
 obtain ⟨h0, h1, h2, h3, h4, h5, h6⟩ := hpre
 unfold FnSat
 conv => arg 2; reduce
 simp [kepS, enc_cel, maxRow, ElEq, getB, goneB, aliveB, and_assoc]
 omega
theorem CelOK.few {c : Cel} (h : CelOK c) : CelFew c := by
 have h1 := crB_iff.1 (scB_iff.1 h.ocv).1
 have h2 := crB_iff.1 (scB_iff.1 h.cold).1
 have h3 := crB_iff.1 (scB_iff.1 h.stress).1
 exact ⟨h.max, by omega, by omega, by omega, by omega, by omega, by omega⟩
@[irreducible] def celNil : Cel := ⟨0, ⟨0, fun _ => 0, 0, fun _ => 0⟩, 0, ⟨0, fun _ => 0, 0, fun _ => 0⟩, 0, 0, 0, 0, 0, 0, ⟨0, fun _ => 0, 0, fun _ => 0⟩, 0, 0, 0⟩
theorem celNil_n : celNil.cap = 0 /\ celNil.ocv.nx = 0 /\ celNil.ocv.ny = 0 /\ celNil.shift = 0 /\ celNil.cold.nx = 0 /\ celNil.cold.ny = 0 /\ celNil.extra = 0 /\ celNil.pair = 0 /\ celNil.keep = 0 /\ celNil.leak = 0 /\ celNil.hcap = 0 /\ celNil.cool = 0 /\ celNil.stress.nx = 0 /\ celNil.stress.ny = 0 /\ celNil.cyc = 0 /\ celNil.agel = 0 /\ celNil.grow = 0 := by
 unfold celNil Cel.cap Cel.ocv Cel.shift Cel.cold Cel.extra Cel.pair Cel.keep Cel.leak Cel.hcap Cel.cool Cel.stress Cel.cyc Cel.agel Cel.grow
 simp
@[irreducible] def apE (c : Cel) (n : Nat) (v : Nat -> Int) : Int := if celB c = true /\ n = 7 then (if allN (fun k => isQ (v k)) 7 = true then (if celB (mvC c v) = true then 0 else 3) else 2) else 2
@[irreducible] def apC (c : Cel) (n : Nat) (v : Nat -> Int) : Cel := if apE c n v = 0 then mvC c v else celNil
theorem apE_no {c : Cel} {n : Nat} {v : Nat -> Int} (h : celB c = true -> n = 7 -> False) : apE c n v = 2 := by unfold apE; rw [if_neg (fun q => h q.1 q.2)]
theorem apE_q {c : Cel} {n : Nat} {v : Nat -> Int} {k : Nat} (hk : k < n) (h : isQ (v k) = false) : apE c n v = 2 := by
 unfold apE
 split
 ·rename_i q
  obtain ⟨q1, rfl⟩ := q
  rw [if_neg]
  intro ha
  have := allN_iff.1 ha k hk
  rw [h] at this; cases this
 ·rfl
theorem apE_r {c : Cel} {v : Nat -> Int} (h : celB c = true) (hq : ∀ k, k < 7 -> isQ (v k) = true) (hm : celB (mvC c v) = false) : apE c 7 v = 3 := by
 unfold apE; rw [if_pos ⟨h, rfl⟩, if_pos (allN_iff.2 hq), if_neg (by rw [hm]; decide)]
theorem apE_0 {c : Cel} {v : Nat -> Int} (h : celB c = true) (hq : ∀ k, k < 7 -> isQ (v k) = true) (hm : celB (mvC c v) = true) : apE c 7 v = 0 := by
 unfold apE; rw [if_pos ⟨h, rfl⟩, if_pos (allN_iff.2 hq), if_pos hm]
theorem apC_0 {c : Cel} {n : Nat} {v : Nat -> Int} (h : apE c n v = 0) : apC c n v = mvC c v := by unfold apC; rw [if_pos h]
theorem apC_n {c : Cel} {n : Nat} {v : Nat -> Int} (h : ¬ apE c n v = 0) : apC c n v = celNil := by unfold apC; rw [if_neg h]
theorem nil_is {C : Cel} (h : C = celNil) : 0 = C.cap /\ C.ocv.nx = 0 /\ C.ocv.ny = 0 /\ 0 = C.shift /\ C.cold.nx = 0 /\ C.cold.ny = 0 /\ 0 = C.extra /\ 0 = C.pair /\ 0 = C.keep /\ 0 = C.leak /\ 0 = C.hcap /\ 0 = C.cool /\ C.stress.nx = 0 /\ C.stress.ny = 0 /\ 0 = C.cyc /\ 0 = C.agel /\ 0 = C.grow := by
 obtain ⟨n1, n2, n3, n4, n5, n6, n7, n8, n9, n10, n11, n12, n13, n14, n15, n16, n17⟩ := celNil_n
 subst h
 exact ⟨n1.symm, n2, n3, n4.symm, n5, n6, n7.symm, n8.symm, n9.symm, n10.symm, n11.symm, n12.symm, n13, n14, n15.symm, n16.symm, n17.symm⟩
theorem apl_no {c : Cel} {n : Nat} {v : Nat -> Int} {e : Int} (h : apE c n v = e) (he : ¬ e = 0) : 0 = (apC c n v).cap /\ (apC c n v).ocv.nx = 0 /\ (apC c n v).ocv.ny = 0 /\ 0 = (apC c n v).shift /\ (apC c n v).cold.nx = 0 /\ (apC c n v).cold.ny = 0 /\ 0 = (apC c n v).extra /\ 0 = (apC c n v).pair /\ 0 = (apC c n v).keep /\ 0 = (apC c n v).leak /\ 0 = (apC c n v).hcap /\ 0 = (apC c n v).cool /\ (apC c n v).stress.nx = 0 /\ (apC c n v).stress.ny = 0 /\ 0 = (apC c n v).cyc /\ 0 = (apC c n v).agel /\ 0 = (apC c n v).grow /\ e = apE c n v := by
 obtain ⟨n1, n2, n3, n4, n5, n6, n7, n8, n9, n10, n11, n12, n13, n14, n15, n16, n17⟩ := nil_is (apC_n (c := c) (n := n) (v := v) (by rw [h]; exact he))
 exact ⟨n1, n2, n3, n4, n5, n6, n7, n8, n9, n10, n11, n12, n13, n14, n15, n16, n17, h.symm⟩
noncomputable def SAb0 : Sums := ⟨(137, mkSum _ kepS) :: (135, mkSum _ moAp) :: (134, mkSum _ isqS) :: (71, mkSum _ chkS) :: SBf.one, SBf.two, SBf.lo, SBf.eqs, SBf.its, SBf.imm⟩
theorem SAb0_ok : SumsOK Tryz.prog SAb0 := ((((SBf_ok.cons Tryz.func71 (by kernel_rfl) (by kernel_rfl) chk_ok).cons Tryz.func134 (by kernel_rfl) (by kernel_rfl) isq_ok).cons Tryz.func135 (by kernel_rfl) (by kernel_rfl) moAp_ok).cons Tryz.func137 (by kernel_rfl) (by kernel_rfl) kep_ok)
noncomputable def SAb : Sums := ⟨SAb0.one, SAb0.two, SAb0.lo, SAb0.eqs, SAb0.its, [26, 22]⟩
theorem SAb_ok : SumsOK Tryz.prog SAb := SAb0_ok.setImm _
def aplS : Spec [celSh, intsSh] := ⟨fun (c, x, _) => CelMax (celOf c) /\ x.1 <= maxLen, fun (c, (n, el), _) => .tup [enc celSh (celD (apC (celOf c) n (fun k => (el k).1))), .si .i64 (apE (celOf c) n (fun k => (el k).1))]⟩
def aplI : DatL [celSh, intsSh] -> Anns := fun (c, (n, el), _) => [
 (4, [], fun fr hp => ⟨Nat, fun g => ⟨frI [.k 7, .t 1, .k 14, .s (.si .i64 (icast g)), .t 8, .k 9] fr, hp⟩, Nat × Nat × (Nat -> Int), fun g => (g, n, fun k => (el k).1), fun (g, n, v) => g <= n /\ ∀ k, k < g -> isQ (v k) = true, fun g => nsub n g⟩)]
set_option maxRecDepth 100000 in
set_option maxHeartbeats 4000000 in
theorem apl_ok : FnSpec Tryz.prog 66 _ aplS := by
 refine FnSpec.of SAb_ok mixed (U := 0) (I := aplI) Tryz.func66 rfl (by kernel_rfl) rfl rfl (by decide +kernel) ?_
 rintro ⟨c, ⟨n, el⟩, ⟨⟩⟩ hpre
 obtain ⟨c, rfl⟩ := cel_ex c
 obtain ⟨v, rfl⟩ : ∃ v : Nat -> Int, el = fun k => (v k, ()) := ⟨fun k => (el k).1, rfl⟩
 have hpre : CelMax c /\ n <= maxLen := by have : CelMax (celOf (celD c)) /\ n <= maxLen := hpre; rwa [celOf_D] at this
 obtain ⟨hc, hn⟩ := hpre
 unfold FnSat
 conv => arg 2; reduce
 unfold maxLen at hn
 simp [aplS, ccheckS, num0, isqS, moAp, kepS, enc_cel, celOf_mv, ElEq, getB, goneB, aliveB, and_assoc]
 refine ⟨hc, fun h => apl_no (apE_no fun q1 q2 => ?_) (by decide), fun h1 h2 => ⟨⟨0, rfl, by omega, fun k hk => by omega⟩, fun g hg hq => ⟨fun hlt => ⟨hlt, fun hb => apl_no (apE_q hlt hb) (by decide), fun hb => ⟨by omega, by omega, g + 1, by omega, by omega, fun k hk => ?_, by omega⟩⟩, fun hge => ?_⟩⟩⟩
 ·rcases h with h | h
  ·rw [q1] at h; cases h
  ·omega
 ·by_cases h' : k < g
  ·exact hq k h'
  ·obtain rfl : k = g := by omega
   exact hb
 ·obtain rfl : n = 7 := by omega
  have hq7 : ∀ k, k < 7 -> isQ (v k) = true := fun k hk => hq k (by omega)
  have ho : ofsB v := by
   unfold ofsB
   intro k hk
   exact isQ_iff.1 (hq7 k hk)
  refine ⟨h1, rfl, ho, mvM hc v, fun hb => apl_no (apE_r h1 hq7 hb) (by decide), fun hb => ?_⟩
  have E0 : apE c 7 (fun k => v k) = 0 := apE_0 h1 hq7 hb
  have E : apC c 7 (fun k => v k) = mvC c v := apC_0 E0
  rw [E, E0]
  refine ⟨(celB_iff.1 hb).few, ?_⟩
  simp
end
end Abs
end Go.Proofs.YtlabbaglbcmofaaGreat

namespace Go.Proofs.YtlabbaglbcmofaaGreat
namespace Abs
open Go Go.RowKit
structure Wt where
 a0 : Cel
 a1 : Nat
 a2 : Nat -> Int
 a3 : Nat -> Int
 a4 : Nat
 a5 : Nat -> Int
 a6 : Nat -> Int
 a7 : Int
 a8 : Int
 a9 : Int
 a10 : Int
 a11 : Int
 a12 : Int
 a13 : Int
 a14 : Int
 a15 : Int
 a16 : Int
 a17 : Int
 a18 : Int
 a19 : Int
 a20 : Int
 a21 : Int
 a22 : Int
 a23 : Int
 a24 : Int
 a25 : Int
 a26 : Int
 a27 : Int
@[irreducible] def Wt.cel (w : Wt) : Cel := w.a0
@[irreducible] def Wt.tn (w : Wt) : Nat := w.a1
@[irreducible] def Wt.tl (w : Wt) : Nat -> Int := w.a2
@[irreducible] def Wt.th (w : Wt) : Nat -> Int := w.a3
@[irreducible] def Wt.bn (w : Wt) : Nat := w.a4
@[irreducible] def Wt.bl (w : Wt) : Nat -> Int := w.a5
@[irreducible] def Wt.bh (w : Wt) : Nat -> Int := w.a6
@[irreducible] def Wt.s00 (w : Wt) : Int := w.a7
@[irreducible] def Wt.s01 (w : Wt) : Int := w.a8
@[irreducible] def Wt.s02 (w : Wt) : Int := w.a9
@[irreducible] def Wt.s03 (w : Wt) : Int := w.a10
@[irreducible] def Wt.s10 (w : Wt) : Int := w.a11
@[irreducible] def Wt.s11 (w : Wt) : Int := w.a12
@[irreducible] def Wt.s12 (w : Wt) : Int := w.a13
@[irreducible] def Wt.s13 (w : Wt) : Int := w.a14
@[irreducible] def Wt.s20 (w : Wt) : Int := w.a15
@[irreducible] def Wt.s21 (w : Wt) : Int := w.a16
@[irreducible] def Wt.s22 (w : Wt) : Int := w.a17
@[irreducible] def Wt.s23 (w : Wt) : Int := w.a18
@[irreducible] def Wt.s30 (w : Wt) : Int := w.a19
@[irreducible] def Wt.s31 (w : Wt) : Int := w.a20
@[irreducible] def Wt.s32 (w : Wt) : Int := w.a21
@[irreducible] def Wt.s33 (w : Wt) : Int := w.a22
@[irreducible] def Wt.dly (w : Wt) : Int := w.a23
@[irreducible] def Wt.cl (w : Wt) : Int := w.a24
@[irreducible] def Wt.ch (w : Wt) : Int := w.a25
@[irreducible] def Wt.al (w : Wt) : Int := w.a26
@[irreducible] def Wt.ah (w : Wt) : Int := w.a27
@[simp] theorem Wt.cel_mk (x0 : Cel) (x1 : Nat) (x2 : Nat -> Int) (x3 : Nat -> Int) (x4 : Nat) (x5 : Nat -> Int) (x6 : Nat -> Int) (x7 : Int) (x8 : Int) (x9 : Int) (x10 : Int) (x11 : Int) (x12 : Int) (x13 : Int) (x14 : Int) (x15 : Int) (x16 : Int) (x17 : Int) (x18 : Int) (x19 : Int) (x20 : Int) (x21 : Int) (x22 : Int) (x23 : Int) (x24 : Int) (x25 : Int) (x26 : Int) (x27 : Int) : (Wt.mk x0 x1 x2 x3 x4 x5 x6 x7 x8 x9 x10 x11 x12 x13 x14 x15 x16 x17 x18 x19 x20 x21 x22 x23 x24 x25 x26 x27).cel = x0 := by unfold Wt.cel; rfl
@[simp] theorem Wt.tn_mk (x0 : Cel) (x1 : Nat) (x2 : Nat -> Int) (x3 : Nat -> Int) (x4 : Nat) (x5 : Nat -> Int) (x6 : Nat -> Int) (x7 : Int) (x8 : Int) (x9 : Int) (x10 : Int) (x11 : Int) (x12 : Int) (x13 : Int) (x14 : Int) (x15 : Int) (x16 : Int) (x17 : Int) (x18 : Int) (x19 : Int) (x20 : Int) (x21 : Int) (x22 : Int) (x23 : Int) (x24 : Int) (x25 : Int) (x26 : Int) (x27 : Int) : (Wt.mk x0 x1 x2 x3 x4 x5 x6 x7 x8 x9 x10 x11 x12 x13 x14 x15 x16 x17 x18 x19 x20 x21 x22 x23 x24 x25 x26 x27).tn = x1 := by unfold Wt.tn; rfl
@[simp] theorem Wt.tl_mk (x0 : Cel) (x1 : Nat) (x2 : Nat -> Int) (x3 : Nat -> Int) (x4 : Nat) (x5 : Nat -> Int) (x6 : Nat -> Int) (x7 : Int) (x8 : Int) (x9 : Int) (x10 : Int) (x11 : Int) (x12 : Int) (x13 : Int) (x14 : Int) (x15 : Int) (x16 : Int) (x17 : Int) (x18 : Int) (x19 : Int) (x20 : Int) (x21 : Int) (x22 : Int) (x23 : Int) (x24 : Int) (x25 : Int) (x26 : Int) (x27 : Int) : (Wt.mk x0 x1 x2 x3 x4 x5 x6 x7 x8 x9 x10 x11 x12 x13 x14 x15 x16 x17 x18 x19 x20 x21 x22 x23 x24 x25 x26 x27).tl = x2 := by unfold Wt.tl; rfl
@[simp] theorem Wt.th_mk (x0 : Cel) (x1 : Nat) (x2 : Nat -> Int) (x3 : Nat -> Int) (x4 : Nat) (x5 : Nat -> Int) (x6 : Nat -> Int) (x7 : Int) (x8 : Int) (x9 : Int) (x10 : Int) (x11 : Int) (x12 : Int) (x13 : Int) (x14 : Int) (x15 : Int) (x16 : Int) (x17 : Int) (x18 : Int) (x19 : Int) (x20 : Int) (x21 : Int) (x22 : Int) (x23 : Int) (x24 : Int) (x25 : Int) (x26 : Int) (x27 : Int) : (Wt.mk x0 x1 x2 x3 x4 x5 x6 x7 x8 x9 x10 x11 x12 x13 x14 x15 x16 x17 x18 x19 x20 x21 x22 x23 x24 x25 x26 x27).th = x3 := by unfold Wt.th; rfl
@[simp] theorem Wt.bn_mk (x0 : Cel) (x1 : Nat) (x2 : Nat -> Int) (x3 : Nat -> Int) (x4 : Nat) (x5 : Nat -> Int) (x6 : Nat -> Int) (x7 : Int) (x8 : Int) (x9 : Int) (x10 : Int) (x11 : Int) (x12 : Int) (x13 : Int) (x14 : Int) (x15 : Int) (x16 : Int) (x17 : Int) (x18 : Int) (x19 : Int) (x20 : Int) (x21 : Int) (x22 : Int) (x23 : Int) (x24 : Int) (x25 : Int) (x26 : Int) (x27 : Int) : (Wt.mk x0 x1 x2 x3 x4 x5 x6 x7 x8 x9 x10 x11 x12 x13 x14 x15 x16 x17 x18 x19 x20 x21 x22 x23 x24 x25 x26 x27).bn = x4 := by unfold Wt.bn; rfl
@[simp] theorem Wt.bl_mk (x0 : Cel) (x1 : Nat) (x2 : Nat -> Int) (x3 : Nat -> Int) (x4 : Nat) (x5 : Nat -> Int) (x6 : Nat -> Int) (x7 : Int) (x8 : Int) (x9 : Int) (x10 : Int) (x11 : Int) (x12 : Int) (x13 : Int) (x14 : Int) (x15 : Int) (x16 : Int) (x17 : Int) (x18 : Int) (x19 : Int) (x20 : Int) (x21 : Int) (x22 : Int) (x23 : Int) (x24 : Int) (x25 : Int) (x26 : Int) (x27 : Int) : (Wt.mk x0 x1 x2 x3 x4 x5 x6 x7 x8 x9 x10 x11 x12 x13 x14 x15 x16 x17 x18 x19 x20 x21 x22 x23 x24 x25 x26 x27).bl = x5 := by unfold Wt.bl; rfl
@[simp] theorem Wt.bh_mk (x0 : Cel) (x1 : Nat) (x2 : Nat -> Int) (x3 : Nat -> Int) (x4 : Nat) (x5 : Nat -> Int) (x6 : Nat -> Int) (x7 : Int) (x8 : Int) (x9 : Int) (x10 : Int) (x11 : Int) (x12 : Int) (x13 : Int) (x14 : Int) (x15 : Int) (x16 : Int) (x17 : Int) (x18 : Int) (x19 : Int) (x20 : Int) (x21 : Int) (x22 : Int) (x23 : Int) (x24 : Int) (x25 : Int) (x26 : Int) (x27 : Int) : (Wt.mk x0 x1 x2 x3 x4 x5 x6 x7 x8 x9 x10 x11 x12 x13 x14 x15 x16 x17 x18 x19 x20 x21 x22 x23 x24 x25 x26 x27).bh = x6 := by unfold Wt.bh; rfl
@[simp] theorem Wt.s00_mk (x0 : Cel) (x1 : Nat) (x2 : Nat -> Int) (x3 : Nat -> Int) (x4 : Nat) (x5 : Nat -> Int) (x6 : Nat -> Int) (x7 : Int) (x8 : Int) (x9 : Int) (x10 : Int) (x11 : Int) (x12 : Int) (x13 : Int) (x14 : Int) (x15 : Int) (x16 : Int) (x17 : Int) (x18 : Int) (x19 : Int) (x20 : Int) (x21 : Int) (x22 : Int) (x23 : Int) (x24 : Int) (x25 : Int) (x26 : Int) (x27 : Int) : (Wt.mk x0 x1 x2 x3 x4 x5 x6 x7 x8 x9 x10 x11 x12 x13 x14 x15 x16 x17 x18 x19 x20 x21 x22 x23 x24 x25 x26 x27).s00 = x7 := by unfold Wt.s00; rfl
@[simp] theorem Wt.s01_mk (x0 : Cel) (x1 : Nat) (x2 : Nat -> Int) (x3 : Nat -> Int) (x4 : Nat) (x5 : Nat -> Int) (x6 : Nat -> Int) (x7 : Int) (x8 : Int) (x9 : Int) (x10 : Int) (x11 : Int) (x12 : Int) (x13 : Int) (x14 : Int) (x15 : Int) (x16 : Int) (x17 : Int) (x18 : Int) (x19 : Int) (x20 : Int) (x21 : Int) (x22 : Int) (x23 : Int) (x24 : Int) (x25 : Int) (x26 : Int) (x27 : Int) : (Wt.mk x0 x1 x2 x3 x4 x5 x6 x7 x8 x9 x10 x11 x12 x13 x14 x15 x16 x17 x18 x19 x20 x21 x22 x23 x24 x25 x26 x27).s01 = x8 := by unfold Wt.s01; rfl
@[simp] theorem Wt.s02_mk (x0 : Cel) (x1 : Nat) (x2 : Nat -> Int) (x3 : Nat -> Int) (x4 : Nat) (x5 : Nat -> Int) (x6 : Nat -> Int) (x7 : Int) (x8 : Int) (x9 : Int) (x10 : Int) (x11 : Int) (x12 : Int) (x13 : Int) (x14 : Int) (x15 : Int) (x16 : Int) (x17 : Int) (x18 : Int) (x19 : Int) (x20 : Int) (x21 : Int) (x22 : Int) (x23 : Int) (x24 : Int) (x25 : Int) (x26 : Int) (x27 : Int) : (Wt.mk x0 x1 x2 x3 x4 x5 x6 x7 x8 x9 x10 x11 x12 x13 x14 x15 x16 x17 x18 x19 x20 x21 x22 x23 x24 x25 x26 x27).s02 = x9 := by unfold Wt.s02; rfl
@[simp] theorem Wt.s03_mk (x0 : Cel) (x1 : Nat) (x2 : Nat -> Int) (x3 : Nat -> Int) (x4 : Nat) (x5 : Nat -> Int) (x6 : Nat -> Int) (x7 : Int) (x8 : Int) (x9 : Int) (x10 : Int) (x11 : Int) (x12 : Int) (x13 : Int) (x14 : Int) (x15 : Int) (x16 : Int) (x17 : Int) (x18 : Int) (x19 : Int) (x20 : Int) (x21 : Int) (x22 : Int) (x23 : Int) (x24 : Int) (x25 : Int) (x26 : Int) (x27 : Int) : (Wt.mk x0 x1 x2 x3 x4 x5 x6 x7 x8 x9 x10 x11 x12 x13 x14 x15 x16 x17 x18 x19 x20 x21 x22 x23 x24 x25 x26 x27).s03 = x10 := by unfold Wt.s03; rfl
@[simp] theorem Wt.s10_mk (x0 : Cel) (x1 : Nat) (x2 : Nat -> Int) (x3 : Nat -> Int) (x4 : Nat) (x5 : Nat -> Int) (x6 : Nat -> Int) (x7 : Int) (x8 : Int) (x9 : Int) (x10 : Int) (x11 : Int) (x12 : Int) (x13 : Int) (x14 : Int) (x15 : Int) (x16 : Int) (x17 : Int) (x18 : Int) (x19 : Int) (x20 : Int) (x21 : Int) (x22 : Int) (x23 : Int) (x24 : Int) (x25 : Int) (x26 : Int) (x27 : Int) : (Wt.mk x0 x1 x2 x3 x4 x5 x6 x7 x8 x9 x10 x11 x12 x13 x14 x15 x16 x17 x18 x19 x20 x21 x22 x23 x24 x25 x26 x27).s10 = x11 := by unfold Wt.s10; rfl
@[simp] theorem Wt.s11_mk (x0 : Cel) (x1 : Nat) (x2 : Nat -> Int) (x3 : Nat -> Int) (x4 : Nat) (x5 : Nat -> Int) (x6 : Nat -> Int) (x7 : Int) (x8 : Int) (x9 : Int) (x10 : Int) (x11 : Int) (x12 : Int) (x13 : Int) (x14 : Int) (x15 : Int) (x16 : Int) (x17 : Int) (x18 : Int) (x19 : Int) (x20 : Int) (x21 : Int) (x22 : Int) (x23 : Int) (x24 : Int) (x25 : Int) (x26 : Int) (x27 : Int) : (Wt.mk x0 x1 x2 x3 x4 x5 x6 x7 x8 x9 x10 x11 x12 x13 x14 x15 x16 x17 x18 x19 x20 x21 x22 x23 x24 x25 x26 x27).s11 = x12 := by unfold Wt.s11; rfl
@[simp] theorem Wt.s12_mk (x0 : Cel) (x1 : Nat) (x2 : Nat -> Int) (x3 : Nat -> Int) (x4 : Nat) (x5 : Nat -> Int) (x6 : Nat -> Int) (x7 : Int) (x8 : Int) (x9 : Int) (x10 : Int) (x11 : Int) (x12 : Int) (x13 : Int) (x14 : Int) (x15 : Int) (x16 : Int) (x17 : Int) (x18 : Int) (x19 : Int) (x20 : Int) (x21 : Int) (x22 : Int) (x23 : Int) (x24 : Int) (x25 : Int) (x26 : Int) (x27 : Int) : (Wt.mk x0 x1 x2 x3 x4 x5 x6 x7 x8 x9 x10 x11 x12 x13 x14 x15 x16 x17 x18 x19 x20 x21 x22 x23 x24 x25 x26 x27).s12 = x13 := by unfold Wt.s12; rfl
@[simp] theorem Wt.s13_mk (x0 : Cel) (x1 : Nat) (x2 : Nat -> Int) (x3 : Nat -> Int) (x4 : Nat) (x5 : Nat -> Int) (x6 : Nat -> Int) (x7 : Int) (x8 : Int) (x9 : Int) (x10 : Int) (x11 : Int) (x12 : Int) (x13 : Int) (x14 : Int) (x15 : Int) (x16 : Int) (x17 : Int) (x18 : Int) (x19 : Int) (x20 : Int) (x21 : Int) (x22 : Int) (x23 : Int) (x24 : Int) (x25 : Int) (x26 : Int) (x27 : Int) : (Wt.mk x0 x1 x2 x3 x4 x5 x6 x7 x8 x9 x10 x11 x12 x13 x14 x15 x16 x17 x18 x19 x20 x21 x22 x23 x24 x25 x26 x27).s13 = x14 := by unfold Wt.s13; rfl
@[simp] theorem Wt.s20_mk (x0 : Cel) (x1 : Nat) (x2 : Nat -> Int) (x3 : Nat -> Int) (x4 : Nat) (x5 : Nat -> Int) (x6 : Nat -> Int) (x7 : Int) (x8 : Int) (x9 : Int) (x10 : Int) (x11 : Int) (x12 : Int) (x13 : Int) (x14 : Int) (x15 : Int) (x16 : Int) (x17 : Int) (x18 : Int) (x19 : Int) (x20 : Int) (x21 : Int) (x22 : Int) (x23 : Int) (x24 : Int) (x25 : Int) (x26 : Int) (x27 : Int) : (Wt.mk x0 x1 x2 x3 x4 x5 x6 x7 x8 x9 x10 x11 x12 x13 x14 x15 x16 x17 x18 x19 x20 x21 x22 x23 x24 x25 x26 x27).s20 = x15 := by unfold Wt.s20; rfl
@[simp] theorem Wt.s21_mk (x0 : Cel) (x1 : Nat) (x2 : Nat -> Int) (x3 : Nat -> Int) (x4 : Nat) (x5 : Nat -> Int) (x6 : Nat -> Int) (x7 : Int) (x8 : Int) (x9 : Int) (x10 : Int) (x11 : Int) (x12 : Int) (x13 : Int) (x14 : Int) (x15 : Int) (x16 : Int) (x17 : Int) (x18 : Int) (x19 : Int) (x20 : Int) (x21 : Int) (x22 : Int) (x23 : Int) (x24 : Int) (x25 : Int) (x26 : Int) (x27 : Int) : (Wt.mk x0 x1 x2 x3 x4 x5 x6 x7 x8 x9 x10 x11 x12 x13 x14 x15 x16 x17 x18 x19 x20 x21 x22 x23 x24 x25 x26 x27).s21 = x16 := by unfold Wt.s21; rfl
@[simp] theorem Wt.s22_mk (x0 : Cel) (x1 : Nat) (x2 : Nat -> Int) (x3 : Nat -> Int) (x4 : Nat) (x5 : Nat -> Int) (x6 : Nat -> Int) (x7 : Int) (x8 : Int) (x9 : Int) (x10 : Int) (x11 : Int) (x12 : Int) (x13 : Int) (x14 : Int) (x15 : Int) (x16 : Int) (x17 : Int) (x18 : Int) (x19 : Int) (x20 : Int) (x21 : Int) (x22 : Int) (x23 : Int) (x24 : Int) (x25 : Int) (x26 : Int) (x27 : Int) : (Wt.mk x0 x1 x2 x3 x4 x5 x6 x7 x8 x9 x10 x11 x12 x13 x14 x15 x16 x17 x18 x19 x20 x21 x22 x23 x24 x25 x26 x27).s22 = x17 := by unfold Wt.s22; rfl
@[simp] theorem Wt.s23_mk (x0 : Cel) (x1 : Nat) (x2 : Nat -> Int) (x3 : Nat -> Int) (x4 : Nat) (x5 : Nat -> Int) (x6 : Nat -> Int) (x7 : Int) (x8 : Int) (x9 : Int) (x10 : Int) (x11 : Int) (x12 : Int) (x13 : Int) (x14 : Int) (x15 : Int) (x16 : Int) (x17 : Int) (x18 : Int) (x19 : Int) (x20 : Int) (x21 : Int) (x22 : Int) (x23 : Int) (x24 : Int) (x25 : Int) (x26 : Int) (x27 : Int) : (Wt.mk x0 x1 x2 x3 x4 x5 x6 x7 x8 x9 x10 x11 x12 x13 x14 x15 x16 x17 x18 x19 x20 x21 x22 x23 x24 x25 x26 x27).s23 = x18 := by unfold Wt.s23; rfl
@[simp] theorem Wt.s30_mk (x0 : Cel) (x1 : Nat) (x2 : Nat -> Int) (x3 : Nat -> Int) (x4 : Nat) (x5 : Nat -> Int) (x6 : Nat -> Int) (x7 : Int) (x8 : Int) (x9 : Int) (x10 : Int) (x11 : Int) (x12 : Int) (x13 : Int) (x14 : Int) (x15 : Int) (x16 : Int) (x17 : Int) (x18 : Int) (x19 : Int) (x20 : Int) (x21 : Int) (x22 : Int) (x23 : Int) (x24 : Int) (x25 : Int) (x26 : Int) (x27 : Int) : (Wt.mk x0 x1 x2 x3 x4 x5 x6 x7 x8 x9 x10 x11 x12 x13 x14 x15 x16 x17 x18 x19 x20 x21 x22 x23 x24 x25 x26 x27).s30 = x19 := by unfold Wt.s30; rfl
@[simp] theorem Wt.s31_mk (x0 : Cel) (x1 : Nat) (x2 : Nat -> Int) (x3 : Nat -> Int) (x4 : Nat) (x5 : Nat -> Int) (x6 : Nat -> Int) (x7 : Int) (x8 : Int) (x9 : Int) (x10 : Int) (x11 : Int) (x12 : Int) (x13 : Int) (x14 : Int) (x15 : Int) (x16 : Int) (x17 : Int) (x18 : Int) (x19 : Int) (x20 : Int) (x21 : Int) (x22 : Int) (x23 : Int) (x24 : Int) (x25 : Int) (x26 : Int) (x27 : Int) : (Wt.mk x0 x1 x2 x3 x4 x5 x6 x7 x8 x9 x10 x11 x12 x13 x14 x15 x16 x17 x18 x19 x20 x21 x22 x23 x24 x25 x26 x27).s31 = x20 := by unfold Wt.s31; rfl
@[simp] theorem Wt.s32_mk (x0 : Cel) (x1 : Nat) (x2 : Nat -> Int) (x3 : Nat -> Int) (x4 : Nat) (x5 : Nat -> Int) (x6 : Nat -> Int) (x7 : Int) (x8 : Int) (x9 : Int) (x10 : Int) (x11 : Int) (x12 : Int) (x13 : Int) (x14 : Int) (x15 : Int) (x16 : Int) (x17 : Int) (x18 : Int) (x19 : Int) (x20 : Int) (x21 : Int) (x22 : Int) (x23 : Int) (x24 : Int) (x25 : Int) (x26 : Int) (x27 : Int) : (Wt.mk x0 x1 x2 x3 x4 x5 x6 x7 x8 x9 x10 x11 x12 x13 x14 x15 x16 x17 x18 x19 x20 x21 x22 x23 x24 x25 x26 x27).s32 = x21 := by unfold Wt.s32; rfl
@[simp] theorem Wt.s33_mk (x0 : Cel) (x1 : Nat) (x2 : Nat -> Int) (x3 : Nat -> Int) (x4 : Nat) (x5 : Nat -> Int) (x6 : Nat -> Int) (x7 : Int) (x8 : Int) (x9 : Int) (x10 : Int) (x11 : Int) (x12 : Int) (x13 : Int) (x14 : Int) (x15 : Int) (x16 : Int) (x17 : Int) (x18 : Int) (x19 : Int) (x20 : Int) (x21 : Int) (x22 : Int) (x23 : Int) (x24 : Int) (x25 : Int) (x26 : Int) (x27 : Int) : (Wt.mk x0 x1 x2 x3 x4 x5 x6 x7 x8 x9 x10 x11 x12 x13 x14 x15 x16 x17 x18 x19 x20 x21 x22 x23 x24 x25 x26 x27).s33 = x22 := by unfold Wt.s33; rfl
@[simp] theorem Wt.dly_mk (x0 : Cel) (x1 : Nat) (x2 : Nat -> Int) (x3 : Nat -> Int) (x4 : Nat) (x5 : Nat -> Int) (x6 : Nat -> Int) (x7 : Int) (x8 : Int) (x9 : Int) (x10 : Int) (x11 : Int) (x12 : Int) (x13 : Int) (x14 : Int) (x15 : Int) (x16 : Int) (x17 : Int) (x18 : Int) (x19 : Int) (x20 : Int) (x21 : Int) (x22 : Int) (x23 : Int) (x24 : Int) (x25 : Int) (x26 : Int) (x27 : Int) : (Wt.mk x0 x1 x2 x3 x4 x5 x6 x7 x8 x9 x10 x11 x12 x13 x14 x15 x16 x17 x18 x19 x20 x21 x22 x23 x24 x25 x26 x27).dly = x23 := by unfold Wt.dly; rfl
@[simp] theorem Wt.cl_mk (x0 : Cel) (x1 : Nat) (x2 : Nat -> Int) (x3 : Nat -> Int) (x4 : Nat) (x5 : Nat -> Int) (x6 : Nat -> Int) (x7 : Int) (x8 : Int) (x9 : Int) (x10 : Int) (x11 : Int) (x12 : Int) (x13 : Int) (x14 : Int) (x15 : Int) (x16 : Int) (x17 : Int) (x18 : Int) (x19 : Int) (x20 : Int) (x21 : Int) (x22 : Int) (x23 : Int) (x24 : Int) (x25 : Int) (x26 : Int) (x27 : Int) : (Wt.mk x0 x1 x2 x3 x4 x5 x6 x7 x8 x9 x10 x11 x12 x13 x14 x15 x16 x17 x18 x19 x20 x21 x22 x23 x24 x25 x26 x27).cl = x24 := by unfold Wt.cl; rfl
@[simp] theorem Wt.ch_mk (x0 : Cel) (x1 : Nat) (x2 : Nat -> Int) (x3 : Nat -> Int) (x4 : Nat) (x5 : Nat -> Int) (x6 : Nat -> Int) (x7 : Int) (x8 : Int) (x9 : Int) (x10 : Int) (x11 : Int) (x12 : Int) (x13 : Int) (x14 : Int) (x15 : Int) (x16 : Int) (x17 : Int) (x18 : Int) (x19 : Int) (x20 : Int) (x21 : Int) (x22 : Int) (x23 : Int) (x24 : Int) (x25 : Int) (x26 : Int) (x27 : Int) : (Wt.mk x0 x1 x2 x3 x4 x5 x6 x7 x8 x9 x10 x11 x12 x13 x14 x15 x16 x17 x18 x19 x20 x21 x22 x23 x24 x25 x26 x27).ch = x25 := by unfold Wt.ch; rfl
@[simp] theorem Wt.al_mk (x0 : Cel) (x1 : Nat) (x2 : Nat -> Int) (x3 : Nat -> Int) (x4 : Nat) (x5 : Nat -> Int) (x6 : Nat -> Int) (x7 : Int) (x8 : Int) (x9 : Int) (x10 : Int) (x11 : Int) (x12 : Int) (x13 : Int) (x14 : Int) (x15 : Int) (x16 : Int) (x17 : Int) (x18 : Int) (x19 : Int) (x20 : Int) (x21 : Int) (x22 : Int) (x23 : Int) (x24 : Int) (x25 : Int) (x26 : Int) (x27 : Int) : (Wt.mk x0 x1 x2 x3 x4 x5 x6 x7 x8 x9 x10 x11 x12 x13 x14 x15 x16 x17 x18 x19 x20 x21 x22 x23 x24 x25 x26 x27).al = x26 := by unfold Wt.al; rfl
@[simp] theorem Wt.ah_mk (x0 : Cel) (x1 : Nat) (x2 : Nat -> Int) (x3 : Nat -> Int) (x4 : Nat) (x5 : Nat -> Int) (x6 : Nat -> Int) (x7 : Int) (x8 : Int) (x9 : Int) (x10 : Int) (x11 : Int) (x12 : Int) (x13 : Int) (x14 : Int) (x15 : Int) (x16 : Int) (x17 : Int) (x18 : Int) (x19 : Int) (x20 : Int) (x21 : Int) (x22 : Int) (x23 : Int) (x24 : Int) (x25 : Int) (x26 : Int) (x27 : Int) : (Wt.mk x0 x1 x2 x3 x4 x5 x6 x7 x8 x9 x10 x11 x12 x13 x14 x15 x16 x17 x18 x19 x20 x21 x22 x23 x24 x25 x26 x27).ah = x27 := by unfold Wt.ah; rfl
structure Ew where
 a0 : Wt
 a1 : Nat
 a2 : Nat -> Int
 a3 : Nat -> Int
 a4 : Int
 a5 : Bool
@[irreducible] def Ew.w (w : Ew) : Wt := w.a0
@[irreducible] def Ew.n (w : Ew) : Nat := w.a1
@[irreducible] def Ew.l (w : Ew) : Nat -> Int := w.a2
@[irreducible] def Ew.h (w : Ew) : Nat -> Int := w.a3
@[irreducible] def Ew.tk (w : Ew) : Int := w.a4
@[irreducible] def Ew.gn (w : Ew) : Bool := w.a5
@[simp] theorem Ew.w_mk (x0 : Wt) (x1 : Nat) (x2 : Nat -> Int) (x3 : Nat -> Int) (x4 : Int) (x5 : Bool) : (Ew.mk x0 x1 x2 x3 x4 x5).w = x0 := by unfold Ew.w; rfl
@[simp] theorem Ew.n_mk (x0 : Wt) (x1 : Nat) (x2 : Nat -> Int) (x3 : Nat -> Int) (x4 : Int) (x5 : Bool) : (Ew.mk x0 x1 x2 x3 x4 x5).n = x1 := by unfold Ew.n; rfl
@[simp] theorem Ew.l_mk (x0 : Wt) (x1 : Nat) (x2 : Nat -> Int) (x3 : Nat -> Int) (x4 : Int) (x5 : Bool) : (Ew.mk x0 x1 x2 x3 x4 x5).l = x2 := by unfold Ew.l; rfl
@[simp] theorem Ew.h_mk (x0 : Wt) (x1 : Nat) (x2 : Nat -> Int) (x3 : Nat -> Int) (x4 : Int) (x5 : Bool) : (Ew.mk x0 x1 x2 x3 x4 x5).h = x3 := by unfold Ew.h; rfl
@[simp] theorem Ew.tk_mk (x0 : Wt) (x1 : Nat) (x2 : Nat -> Int) (x3 : Nat -> Int) (x4 : Int) (x5 : Bool) : (Ew.mk x0 x1 x2 x3 x4 x5).tk = x4 := by unfold Ew.tk; rfl
@[simp] theorem Ew.gn_mk (x0 : Wt) (x1 : Nat) (x2 : Nat -> Int) (x3 : Nat -> Int) (x4 : Int) (x5 : Bool) : (Ew.mk x0 x1 x2 x3 x4 x5).gn = x5 := by unfold Ew.gn; rfl
abbrev SpnD := Nat × (Nat -> Int × Int × Unit)
abbrev WtD := Int × IntsD × IntsD × Int × IntsD × IntsD × Int × Int × Int × Int × Int × Int × IntsD × IntsD × Int × Int × Int × SpnD × SpnD × Int × Int × Int × Int × Int × Int × Int × Int × Int × Int × Int × Int × Int × Int × Int × Int × Int × Int × Int × Int × Int × Unit
abbrev EwD := Int × IntsD × IntsD × Int × IntsD × IntsD × Int × Int × Int × Int × Int × Int × IntsD × IntsD × Int × Int × Int × SpnD × SpnD × Int × Int × Int × Int × Int × Int × Int × Int × Int × Int × Int × Int × Int × Int × Int × Int × Int × Int × Int × Int × Int × SpnD × Int × Bool × Unit
@[irreducible] def wtOf (x : WtD) : Wt :=
 let (c0, c1, c2, c3, c4, c5, c6, c7, c8, c9, c10, c11, c12, c13, c14, c15, c16, t, b, i0, i1, i2, i3, i4, i5, i6, i7, i8, i9, i10, i11, i12, i13, i14, i15, i16, i17, i18, i19, i20, _) := x
 ⟨celOf (c0, c1, c2, c3, c4, c5, c6, c7, c8, c9, c10, c11, c12, c13, c14, c15, c16, ()), t.1, fun k => (t.2 k).1, fun k => (t.2 k).2.1, b.1, fun k => (b.2 k).1, fun k => (b.2 k).2.1, i0, i1, i2, i3, i4, i5, i6, i7, i8, i9, i10, i11, i12, i13, i14, i15, i16, i17, i18, i19, i20⟩
@[reducible] def wtD (w : Wt) : WtD := (w.cel.cap, (w.cel.ocv.nx, fun k => (w.cel.ocv.x k, ())), (w.cel.ocv.ny, fun k => (w.cel.ocv.y k, ())), w.cel.shift, (w.cel.cold.nx, fun k => (w.cel.cold.x k, ())), (w.cel.cold.ny, fun k => (w.cel.cold.y k, ())), w.cel.extra, w.cel.pair, w.cel.keep, w.cel.leak, w.cel.hcap, w.cel.cool, (w.cel.stress.nx, fun k => (w.cel.stress.x k, ())), (w.cel.stress.ny, fun k => (w.cel.stress.y k, ())), w.cel.cyc, w.cel.agel, w.cel.grow, (w.tn, fun k => (w.tl k, w.th k, ())), (w.bn, fun k => (w.bl k, w.bh k, ())), w.s00, w.s01, w.s02, w.s03, w.s10, w.s11, w.s12, w.s13, w.s20, w.s21, w.s22, w.s23, w.s30, w.s31, w.s32, w.s33, w.dly, w.cl, w.ch, w.al, w.ah, ())
@[simp] theorem wtOf_mk (w : Wt) : wtOf (w.cel.cap, (w.cel.ocv.nx, fun k => (w.cel.ocv.x k, ())), (w.cel.ocv.ny, fun k => (w.cel.ocv.y k, ())), w.cel.shift, (w.cel.cold.nx, fun k => (w.cel.cold.x k, ())), (w.cel.cold.ny, fun k => (w.cel.cold.y k, ())), w.cel.extra, w.cel.pair, w.cel.keep, w.cel.leak, w.cel.hcap, w.cel.cool, (w.cel.stress.nx, fun k => (w.cel.stress.x k, ())), (w.cel.stress.ny, fun k => (w.cel.stress.y k, ())), w.cel.cyc, w.cel.agel, w.cel.grow, (w.tn, fun k => (w.tl k, w.th k, ())), (w.bn, fun k => (w.bl k, w.bh k, ())), w.s00, w.s01, w.s02, w.s03, w.s10, w.s11, w.s12, w.s13, w.s20, w.s21, w.s22, w.s23, w.s30, w.s31, w.s32, w.s33, w.dly, w.cl, w.ch, w.al, w.ah, ()) = w := by
 unfold wtOf celOf crvOf Cel.cap Cel.ocv Cel.shift Cel.cold Cel.extra Cel.pair Cel.keep Cel.leak Cel.hcap Cel.cool Cel.stress Cel.cyc Cel.agel Cel.grow Crv.nx Crv.x Crv.ny Crv.y Wt.cel Wt.tn Wt.tl Wt.th Wt.bn Wt.bl Wt.bh Wt.s00 Wt.s01 Wt.s02 Wt.s03 Wt.s10 Wt.s11 Wt.s12 Wt.s13 Wt.s20 Wt.s21 Wt.s22 Wt.s23 Wt.s30 Wt.s31 Wt.s32 Wt.s33 Wt.dly Wt.cl Wt.ch Wt.al Wt.ah; rfl
theorem wtOf_D (w : Wt) : wtOf (wtD w) = w := wtOf_mk w
theorem wt_ex (x : WtD) : ∃ w : Wt, x = wtD w := ⟨wtOf x, by
 unfold wtD wtOf celOf crvOf Cel.cap Cel.ocv Cel.shift Cel.cold Cel.extra Cel.pair Cel.keep Cel.leak Cel.hcap Cel.cool Cel.stress Cel.cyc Cel.agel Cel.grow Crv.nx Crv.x Crv.ny Crv.y Wt.cel Wt.tn Wt.tl Wt.th Wt.bn Wt.bl Wt.bh Wt.s00 Wt.s01 Wt.s02 Wt.s03 Wt.s10 Wt.s11 Wt.s12 Wt.s13 Wt.s20 Wt.s21 Wt.s22 Wt.s23 Wt.s30 Wt.s31 Wt.s32 Wt.s33 Wt.dly Wt.cl Wt.ch Wt.al Wt.ah; rfl⟩
@[irreducible] def ewOf (x : EwD) : Ew :=
 let (c0, c1, c2, c3, c4, c5, c6, c7, c8, c9, c10, c11, c12, c13, c14, c15, c16, t, b, i0, i1, i2, i3, i4, i5, i6, i7, i8, i9, i10, i11, i12, i13, i14, i15, i16, i17, i18, i19, i20, s, tk, gn, _) := x
 ⟨⟨celOf (c0, c1, c2, c3, c4, c5, c6, c7, c8, c9, c10, c11, c12, c13, c14, c15, c16, ()), t.1, fun k => (t.2 k).1, fun k => (t.2 k).2.1, b.1, fun k => (b.2 k).1, fun k => (b.2 k).2.1, i0, i1, i2, i3, i4, i5, i6, i7, i8, i9, i10, i11, i12, i13, i14, i15, i16, i17, i18, i19, i20⟩, s.1, fun k => (s.2 k).1, fun k => (s.2 k).2.1, tk, gn⟩
@[reducible] def ewD (e : Ew) : EwD := (e.w.cel.cap, (e.w.cel.ocv.nx, fun k => (e.w.cel.ocv.x k, ())), (e.w.cel.ocv.ny, fun k => (e.w.cel.ocv.y k, ())), e.w.cel.shift, (e.w.cel.cold.nx, fun k => (e.w.cel.cold.x k, ())), (e.w.cel.cold.ny, fun k => (e.w.cel.cold.y k, ())), e.w.cel.extra, e.w.cel.pair, e.w.cel.keep, e.w.cel.leak, e.w.cel.hcap, e.w.cel.cool, (e.w.cel.stress.nx, fun k => (e.w.cel.stress.x k, ())), (e.w.cel.stress.ny, fun k => (e.w.cel.stress.y k, ())), e.w.cel.cyc, e.w.cel.agel, e.w.cel.grow, (e.w.tn, fun k => (e.w.tl k, e.w.th k, ())), (e.w.bn, fun k => (e.w.bl k, e.w.bh k, ())), e.w.s00, e.w.s01, e.w.s02, e.w.s03, e.w.s10, e.w.s11, e.w.s12, e.w.s13, e.w.s20, e.w.s21, e.w.s22, e.w.s23, e.w.s30, e.w.s31, e.w.s32, e.w.s33, e.w.dly, e.w.cl, e.w.ch, e.w.al, e.w.ah, (e.n, fun k => (e.l k, e.h k, ())), e.tk, e.gn, ())
@[simp] theorem ewOf_mk (e : Ew) : ewOf (e.w.cel.cap, (e.w.cel.ocv.nx, fun k => (e.w.cel.ocv.x k, ())), (e.w.cel.ocv.ny, fun k => (e.w.cel.ocv.y k, ())), e.w.cel.shift, (e.w.cel.cold.nx, fun k => (e.w.cel.cold.x k, ())), (e.w.cel.cold.ny, fun k => (e.w.cel.cold.y k, ())), e.w.cel.extra, e.w.cel.pair, e.w.cel.keep, e.w.cel.leak, e.w.cel.hcap, e.w.cel.cool, (e.w.cel.stress.nx, fun k => (e.w.cel.stress.x k, ())), (e.w.cel.stress.ny, fun k => (e.w.cel.stress.y k, ())), e.w.cel.cyc, e.w.cel.agel, e.w.cel.grow, (e.w.tn, fun k => (e.w.tl k, e.w.th k, ())), (e.w.bn, fun k => (e.w.bl k, e.w.bh k, ())), e.w.s00, e.w.s01, e.w.s02, e.w.s03, e.w.s10, e.w.s11, e.w.s12, e.w.s13, e.w.s20, e.w.s21, e.w.s22, e.w.s23, e.w.s30, e.w.s31, e.w.s32, e.w.s33, e.w.dly, e.w.cl, e.w.ch, e.w.al, e.w.ah, (e.n, fun k => (e.l k, e.h k, ())), e.tk, e.gn, ()) = e := by
 unfold ewOf celOf crvOf Cel.cap Cel.ocv Cel.shift Cel.cold Cel.extra Cel.pair Cel.keep Cel.leak Cel.hcap Cel.cool Cel.stress Cel.cyc Cel.agel Cel.grow Crv.nx Crv.x Crv.ny Crv.y Wt.cel Wt.tn Wt.tl Wt.th Wt.bn Wt.bl Wt.bh Wt.s00 Wt.s01 Wt.s02 Wt.s03 Wt.s10 Wt.s11 Wt.s12 Wt.s13 Wt.s20 Wt.s21 Wt.s22 Wt.s23 Wt.s30 Wt.s31 Wt.s32 Wt.s33 Wt.dly Wt.cl Wt.ch Wt.al Wt.ah Ew.w Ew.n Ew.l Ew.h Ew.tk Ew.gn; rfl
theorem ewOf_D (e : Ew) : ewOf (ewD e) = e := ewOf_mk e
theorem ew_ex (x : EwD) : ∃ e : Ew, x = ewD e := ⟨ewOf x, by
 unfold ewD ewOf celOf crvOf Cel.cap Cel.ocv Cel.shift Cel.cold Cel.extra Cel.pair Cel.keep Cel.leak Cel.hcap Cel.cool Cel.stress Cel.cyc Cel.agel Cel.grow Crv.nx Crv.x Crv.ny Crv.y Wt.cel Wt.tn Wt.tl Wt.th Wt.bn Wt.bl Wt.bh Wt.s00 Wt.s01 Wt.s02 Wt.s03 Wt.s10 Wt.s11 Wt.s12 Wt.s13 Wt.s20 Wt.s21 Wt.s22 Wt.s23 Wt.s30 Wt.s31 Wt.s32 Wt.s33 Wt.dly Wt.cl Wt.ch Wt.al Wt.ah Ew.w Ew.n Ew.l Ew.h Ew.tk Ew.gn; rfl⟩
@[reducible] def spnSh : Sh := .slice 2 [.int .i64, .int .i64]
@[reducible] def wchCells : List Sh := [.int .i64, intsSh, intsSh, .int .i64, intsSh, intsSh, .int .i64, .int .i64, .int .i64, .int .i64, .int .i64, .int .i64, intsSh, intsSh, .int .i64, .int .i64, .int .i64, spnSh, spnSh, .int .i64, .int .i64, .int .i64, .int .i64, .int .i64, .int .i64, .int .i64, .int .i64, .int .i64, .int .i64, .int .i64, .int .i64, .int .i64, .int .i64, .int .i64, .int .i64, .int .i64, .int .i64, .int .i64, .int .i64, .int .i64]
@[reducible] def wchSh : Sh := .agg wchCells
@[reducible] def ewCells : List Sh := [.bool, .int .i64, intsSh, intsSh, .int .i64, intsSh, intsSh, .int .i64, .int .i64, .int .i64, .int .i64, .int .i64, .int .i64, intsSh, intsSh, .int .i64, .int .i64, .int .i64, spnSh, spnSh, .int .i64, .int .i64, .int .i64, .int .i64, .int .i64, .int .i64, .int .i64, .int .i64, .int .i64, .int .i64, .int .i64, .int .i64, .int .i64, .int .i64, .int .i64, .int .i64, .int .i64, .int .i64, .int .i64, .int .i64, .int .i64, spnSh, .int .i64, .bool]
def ewCs (w : Wt) (n : Nat) (l h : Nat -> Int) (tk : Int) (gn : Bool) : List AV := [.si .i64 w.cel.cap, .slc (.sym w.cel.ocv.nx) 1 (fun k => [.si .i64 (w.cel.ocv.x k)]), .slc (.sym w.cel.ocv.ny) 1 (fun k => [.si .i64 (w.cel.ocv.y k)]), .si .i64 w.cel.shift, .slc (.sym w.cel.cold.nx) 1 (fun k => [.si .i64 (w.cel.cold.x k)]), .slc (.sym w.cel.cold.ny) 1 (fun k => [.si .i64 (w.cel.cold.y k)]), .si .i64 w.cel.extra, .si .i64 w.cel.pair, .si .i64 w.cel.keep, .si .i64 w.cel.leak, .si .i64 w.cel.hcap, .si .i64 w.cel.cool, .slc (.sym w.cel.stress.nx) 1 (fun k => [.si .i64 (w.cel.stress.x k)]), .slc (.sym w.cel.stress.ny) 1 (fun k => [.si .i64 (w.cel.stress.y k)]), .si .i64 w.cel.cyc, .si .i64 w.cel.agel, .si .i64 w.cel.grow, .slc (.sym w.tn) 2 (fun k => [.si .i64 (w.tl k), .si .i64 (w.th k)]), .slc (.sym w.bn) 2 (fun k => [.si .i64 (w.bl k), .si .i64 (w.bh k)]), .si .i64 w.s00, .si .i64 w.s01, .si .i64 w.s02, .si .i64 w.s03, .si .i64 w.s10, .si .i64 w.s11, .si .i64 w.s12, .si .i64 w.s13, .si .i64 w.s20, .si .i64 w.s21, .si .i64 w.s22, .si .i64 w.s23, .si .i64 w.s30, .si .i64 w.s31, .si .i64 w.s32, .si .i64 w.s33, .si .i64 w.dly, .si .i64 w.cl, .si .i64 w.ch, .si .i64 w.al, .si .i64 w.ah, .slc (.sym n) 2 (fun k => [.si .i64 (l k), .si .i64 (h k)]), .si .i64 tk, .sb gn]
end Abs
end Go.Proofs.YtlabbaglbcmofaaGreat

namespace Go.Proofs.YtlabbaglbcmofaaGreat
namespace Abs
open Go Go.RowKit
noncomputable section
def slK : VC -> Option Sum2
 | .need p k => (match slK k with | some ⟨ps, r, h⟩ => some ⟨p :: ps, r, h⟩ | none => none)
 | .out r hp => some ⟨[], r, hp⟩
 | _ => none
def slKP : {g : VC -> Option Sum2 // slK = g} := ⟨_, by delta slK; rfl⟩
def slKN : VC -> Option Sum2 := slKP.1
theorem slKN_eq : slKN = slK := slKP.2.symm
def ngB : AV -> Bool
 | .gd _ _ => false
 | _ => true
def ngL : List AV -> Bool
 | [] => true
 | a :: l => (match ngB a with | true => ngL l | false => false)
def lenV : List AV -> Nat
 | [] => 0
 | _ :: l => lenV l + 1
def inlS (P : Program) (S : Sums) (U : Nat) (fn : Func) : Summ2 := fun args hp =>
 match ngL args, Nat.ble (lenV args) fn.ntmps with
 | true, true => slKN (wpFT P ⟨S.one, S.two, hp.length, S.eqs, S.its, S.imm⟩ U [] fn args hp)
 | _, _ => none
end
theorem slK_sat : ∀ {v : VC} {pre : List Cd} {res : AV} {hp : Heap}, slK v = some ⟨pre, res, hp⟩ -> (∀ p ∈ pre, p.ok) -> v.sat fun r h => r = res /\ h = hp := by
 intro v
 induction v with
 | need p k ih =>
   intro pre res hp h hp'
   simp only [slK] at h
   split at h
   ·rename_i ps r h' e
    injection h with h; injection h with h1 h2 h3
    subst h1 h2 h3
    exact ⟨hp' _ (List.mem_cons_self ..), ih e fun q hq => hp' q (List.mem_cons_of_mem _ hq)⟩
   ·cases h
 | out r hp =>
   intro pre res hp0 h _
   simp only [slK] at h
   injection h with h; injection h with h1 h2 h3
   exact ⟨h2, h3⟩
 | fail => intro pre res hp h; simp [slK] at h
 | branch b t e _ _ => intro pre res hp h; simp [slK] at h
 | done => intro pre res hp h; simp [slK] at h
 | loop d e b _ _ => intro pre res hp h; simp [slK] at h
 | ex d m k _ => intro pre res hp h; simp [slK] at h
theorem ngL_spec : ∀ {l : List AV}, ngL l = true -> ∀ t, notGd (getL l t)
 | [], _, t => by simp only [getL]; trivial
 | a :: l, h, 0 => by
   simp only [ngL] at h
   simp only [getL]
   split at h
   ·rename_i ha
    cases a <;> first | (simp [ngB] at ha; done) | trivial
   ·cases h
 | a :: l, h, t + 1 => by
   simp only [ngL] at h
   simp only [getL]
   split at h
   ·exact ngL_spec h t
   ·cases h
theorem lenV_eq : ∀ l : List AV, lenV l = l.length
 | [] => rfl
 | _ :: l => by simp [lenV, lenV_eq l]
theorem inlS_ok {P : Program} {S : Sums} (hS : SumsOK P S) (hm : P.follows .mixedOrders = true) {U : Nat} {f : FuncId} {fn : Func} {c : Code} (hf : P.funcs[f]? = some fn) (hb : fn.body = some c) (hok : codeOK c = true) : Summ2OK P f (inlS P S U fn) := by
 intro args hp pre res hp' h hpre
 unfold inlS at h
 rw [slKN_eq] at h
 split at h
 ·rename_i h1 h2
  have hsat := slK_sat h hpre
  intro C w vs hH ha
  have hS' : SumsOK P ⟨S.one, S.two, hp.length, S.eqs, S.its, S.imm⟩ := ⟨hS.one, hS.two, hS.eqs, hS.bodyOne, hS.bodyTwo, hS.its⟩
  refine (calls_wpF hS' hm hf hb hok (Nat.le_refl _) hH ha (ngL_spec h1) (by rw [lenV_eq] at h2; exact Nat.le_of_ble_eq_true h2) (wpFT_sat hsat)).mono ?_
  rintro e w' ⟨v, a, hp2, C1, he, ⟨rfl, rfl⟩, h3, h4, h5, h6⟩
  refine ⟨v, C1, he, h4, h5, (Since.refl fun i hi => ?_).step h6⟩
  cases hc : C.ρ i with
  | none => rfl
  | some p => have := hH.lt hc; omega
 ·cases h
end Abs
end Go.Proofs.YtlabbaglbcmofaaGreat

namespace Go.Proofs.YtlabbaglbcmofaaGreat
namespace Abs
open Go Go.RowKit
noncomputable section
attribute [local irreducible] FnSat
def boxT : Spec [spansSh] := ⟨fun _ => True, fun ((n, el), _) => .sb (boxB n (fun k => (el k).1) (fun k => (el k).2.1))⟩
set_option maxRecDepth 100000 in
theorem esb_ok : FnSpec Tryz.prog 45 _ boxT := by
 refine FnSpec.of SBq_ok mixed (U := 7) (I := fun _ => []) Tryz.func45 rfl (by kernel_rfl) rfl rfl (by decide +kernel) ?_
 rintro ⟨⟨n, el⟩, ⟨⟩⟩ -
 obtain ⟨lo, hi, rfl⟩ : ∃ lo hi : Nat -> Int, el = fun k => (lo k, hi k, ()) := ⟨fun k => (el k).1, fun k => (el k).2.1, rfl⟩
 unfold FnSat
 conv => arg 2; reduce
 simp [boxT]
 have e : (fun k => lo k) = lo := rfl
 have e' : (fun k => hi k) = hi := rfl
 refine ⟨fun h => boxB_no fun hb => ?_, fun h => ?_⟩
 ·have := (boxB_iff.1 hb).1; omega
 obtain rfl : n = 5 := by omega
 have hb := @boxB_iff 5 lo hi
 simp only [insV_iff] at hb
 cases hc : boxB 5 lo hi with
 | true =>
   have := hb.1 hc
   simp [e, e', hc]
   omega
 | false =>
   rw [hc] at hb
   simp [e, e', hc] at hb ⊢
   omega
set_option maxRecDepth 100000 in
theorem eck1_ok : FnSpec Tryz.prog 42 _ insC := by
 refine FnSpec.of SBq_ok mixed (U := 0) (I := fun _ => []) Tryz.func42 rfl (by kernel_rfl) rfl rfl (by decide +kernel) ?_
 rintro ⟨⟨(l : Int), (h : Int), ⟨⟩⟩, (a : Int), (b : Int), ⟨⟩⟩ -
 unfold FnSat
 conv => arg 2; reduce
 simp [insC, insV]
 rw [Bool.and_comm (decide (l <= h)) (decide (a <= l))]
theorem errB_0 {b : Bool} : errB b = 0 ↔ b = true := by unfold errB; cases b <;> simp
noncomputable def Sva : Sums := ⟨(42, mkSum _ insC) :: (45, mkSum _ boxT) :: (46, mkSum _ check) :: SBq.one, SBq.two, SBq.lo, SBq.eqs, SBq.its, SBq.imm⟩
theorem Sva_ok : SumsOK Tryz.prog Sva := (((SBq_ok.cons Tryz.func46 (by kernel_rfl) (by kernel_rfl) ecs_ok).cons Tryz.func45 (by kernel_rfl) (by kernel_rfl) esb_ok).cons Tryz.func42 (by kernel_rfl) (by kernel_rfl) eck1_ok)
@[irreducible] def wcB (w : Wt) : Bool := decide (chkV w.cel w.tn w.tl w.th w.bn w.bl w.bh = 0) && (decide (0 <= w.dly) && (decide (w.dly <= 16) && (insV (-1048576) w.cl w.ch 1048576 && (insV 0 w.al w.ah 400000 &&
 (sensOK w.s00 w.s01 w.s02 w.s03 && (sensOK w.s10 w.s11 w.s12 w.s13 && (sensOK w.s20 w.s21 w.s22 w.s23 && sensOK w.s30 w.s31 w.s32 w.s33)))))))
theorem wcB_iff {w : Wt} : wcB w = true ↔ chkV w.cel w.tn w.tl w.th w.bn w.bl w.bh = 0 /\ 0 <= w.dly /\ w.dly <= 16 /\ insV (-1048576) w.cl w.ch 1048576 = true /\ insV 0 w.al w.ah 400000 = true /\
  sensOK w.s00 w.s01 w.s02 w.s03 = true /\ sensOK w.s10 w.s11 w.s12 w.s13 = true /\ sensOK w.s20 w.s21 w.s22 w.s23 = true /\ sensOK w.s30 w.s31 w.s32 w.s33 = true := by unfold wcB; simp
def wckS : Spec [wchSh] := ⟨fun (x, _) => CelMax (wtOf x).cel /\ (wtOf x).tn <= maxLen, fun (x, _) => .si .i64 (errA (wcB (wtOf x)))⟩
set_option maxRecDepth 100000 in
set_option maxHeartbeats 8000000 in
theorem wck_ok : FnSpec Tryz.prog 9 _ wckS := by
 refine FnSpec.of Sva_ok mixed (U := 5) (I := fun _ => []) Tryz.func9 rfl (by kernel_rfl) rfl rfl (by decide +kernel) ?_
 rintro ⟨x, ⟨⟩⟩ hpre
 obtain ⟨w, rfl⟩ := wt_ex x
 have hpre : CelMax w.cel /\ w.tn <= maxLen := by have : CelMax (wtOf (wtD w)).cel /\ (wtOf (wtD w)).tn <= maxLen := hpre; rwa [wtOf_D] at this
 unfold FnSat
 conv => arg 2; reduce
 simp [-Bool.forall_bool, wckS, ccheckS, posS, boxT, insC, check, and_assoc]
 refine ⟨hpre.1, fun _ => hpre, fun h => ?_, fun h1 h2 h3 h4 h5 h6 h7 h8 h9 h10 h11 => ?_⟩
 ·cases hw : wcB w with
  | false => rw [errA_false]
  | true =>
    obtain ⟨g0, g1, g2, g3, g4, g5, g6, g7, g8⟩ := wcB_iff.1 hw
    obtain ⟨k1, k2⟩ := chkV_zero.1 g0
    have k3 := (posV_zero.1 k1).1
    exfalso
    simp only [errB_0] at h
    rcases h with (((((((((h | h) | h) | h) | h) | h) | h) | h) | h) | h) | h
    all_goals first
     | omega
     | exact h k1
     | exact h g5
     | exact h g6
     | exact h g7
     | exact h g8
     | exact absurd (h.symm.trans k3) (by decide)
     | exact absurd (h.symm.trans k2) (by decide)
     | exact absurd (h.symm.trans g3) (by decide)
     | exact absurd (h.symm.trans g4) (by decide)
 ·rw [wcB_iff.2 ⟨chkV_zero.2 ⟨h2, h3⟩, h4, h5, h6, h7, errB_0.1 h8, errB_0.1 h9, errB_0.1 h10, errB_0.1 h11⟩, errA_true]
def ccnS : Spec [intsSh] := ⟨fun ((n, _), _) => n <= 1048576, fun ((n, el), _) => .slc (.sym n) 1 (fun k => [.si .i64 (el k).1])⟩
set_option maxRecDepth 100000 in
theorem ccn_ok : FnSpec Tryz.prog 111 _ ccnS := by
 refine FnSpec.of Sva_ok mixed (U := 0) (I := fun _ => []) Tryz.func111 rfl (by kernel_rfl) rfl rfl (by decide +kernel) ?_
 rintro ⟨⟨n, el⟩, ⟨⟩⟩ (h0 : n <= 1048576)
 obtain ⟨v, rfl⟩ : ∃ v : Nat -> Int, el = fun k => (v k, ()) := ⟨fun k => (el k).1, rfl⟩
 unfold FnSat
 conv => arg 2; reduce
 simp [unitA, ccnS, maxRow, ElEq, aliveB, goneB, getB, and_assoc]
 omega
def cspS : Spec [spansSh] := ⟨fun ((n, _), _) => n <= 1048576, fun ((n, el), _) => .slc (.sym n) 2 (fun k => [.si .i64 (el k).1, .si .i64 (el k).2.1])⟩
set_option maxRecDepth 100000 in
theorem csp_ok : FnSpec Tryz.prog 53 _ cspS := by
 refine FnSpec.of Sva_ok mixed (U := 0) (I := fun _ => []) Tryz.func53 rfl (by kernel_rfl) rfl rfl (by decide +kernel) ?_
 rintro ⟨⟨n, el⟩, ⟨⟩⟩ (h0 : n <= 1048576)
 obtain ⟨lo, hi, rfl⟩ : ∃ lo hi : Nat -> Int, el = fun k => (lo k, hi k, ()) := ⟨fun k => (el k).1, fun k => (el k).2.1, rfl⟩
 unfold FnSat
 conv => arg 2; reduce
 simp [unitA, cspS, maxRow, ElEq, aliveB, goneB, getB, and_assoc]
 omega
def cspN : SpecN [spansSh] := ⟨fun ((n, _), _) => 0 < n /\ n <= 1048576, fun _ => .row 0, fun ((n, el), _) => [.row 32 2 (.sym n) (fun k => [.si .i64 (el k).1, .si .i64 (el k).2.1])]⟩
set_option maxRecDepth 100000 in
theorem cspN_ok : FnSpecN Tryz.prog 53 _ cspN := by
 refine FnSpecN.of Sva_ok mixed (U := 0) (I := fun _ => []) Tryz.func53 rfl (by kernel_rfl) rfl rfl (by decide +kernel) ?_
 rintro ⟨⟨n, el⟩, ⟨⟩⟩ h0
 obtain ⟨lo, hi, rfl⟩ : ∃ lo hi : Nat -> Int, el = fun k => (lo k, hi k, ()) := ⟨fun k => (el k).1, fun k => (el k).2.1, rfl⟩
 have h0 : 0 < n /\ n <= 1048576 := h0
 unfold FnSat
 conv => arg 2; reduce
 simp [unitA, cspN, maxRow, ElEq, aliveB, goneB, getB, VC.sat, and_assoc]
 omega
noncomputable def Svb : Sums := ⟨(9, mkSum _ wckS) :: (53, mkSum _ cspS) :: (111, mkSum _ ccnS) :: Sva.one, Sva.two, Sva.lo, Sva.eqs, Sva.its, Sva.imm⟩
theorem Svb_ok : SumsOK Tryz.prog Svb := (((Sva_ok.cons Tryz.func111 (by kernel_rfl) (by kernel_rfl) ccn_ok).cons Tryz.func53 (by kernel_rfl) (by kernel_rfl) csp_ok).cons Tryz.func9 (by kernel_rfl) (by kernel_rfl) wck_ok)
set_option maxRecDepth 100000 in
set_option maxHeartbeats 2000000 in
theorem ekp_ok : FnSpec Tryz.prog 52 _ kepS := by
 refine FnSpec.of Svb_ok mixed (U := 4) (I := fun _ => []) Tryz.func52 rfl (by kernel_rfl) rfl rfl (by decide +kernel) ?_
 rintro ⟨c, ⟨⟩⟩ hpre
 obtain ⟨c, rfl⟩ := cel_ex c
 have hpre : CelFew c := by have : CelFew (celOf (celD c)) := hpre; rwa [celOf_D] at this
 obtain ⟨h0, h1, h2, h3, h4, h5, h6⟩ := hpre
 unfold FnSat
 conv => arg 2; reduce
 simp [kepS, ccnS, enc_cel, maxRow, ElEq, getB, goneB, aliveB, and_assoc]
 omega
noncomputable def Svc : Sums := ⟨(52, mkSum _ kepS) :: Svb.one, Svb.two, Svb.lo, Svb.eqs, Svb.its, Svb.imm⟩
theorem Svc_ok : SumsOK Tryz.prog Svc := (Svb_ok.cons Tryz.func52 (by kernel_rfl) (by kernel_rfl) ekp_ok)
def nwN : SpecN [wchSh] := ⟨fun (x, _) => CelMax (wtOf x).cel /\ (wtOf x).tn <= maxLen /\ wcB (wtOf x) = true, fun _ => .tup [.own 1 0, .li .i64 0], fun (x, _) => [.dead, .cells 114 (.lb true :: ewCs (wtOf x) (wtOf x).bn (wtOf x).bl (wtOf x).bh 0 false)]⟩
set_option maxRecDepth 100000 in
set_option maxHeartbeats 8000000 in
theorem nwN_ok : FnSpecN Tryz.prog 11 _ nwN := by
 refine FnSpecN.of Svc_ok mixed (U := 0) (I := fun _ => []) Tryz.func11 rfl (by kernel_rfl) rfl rfl (by decide +kernel) ?_
 rintro ⟨x, ⟨⟩⟩ hpre
 obtain ⟨w, rfl⟩ := wt_ex x
 have hpre : CelMax w.cel /\ w.tn <= maxLen /\ wcB w = true := by have : CelMax (wtOf (wtD w)).cel /\ (wtOf (wtD w)).tn <= maxLen /\ wcB (wtOf (wtD w)) = true := hpre; rwa [wtOf_D] at this
 unfold FnSat
 conv => arg 2; reduce
 obtain ⟨h1, h2, h3⟩ := hpre
 simp [-Bool.forall_bool, nwN, wckS, kepS, cspS, enc_cel, ewCs, h1, h2, h3, ElEq, getB, goneB, aliveB, VC.sat, and_assoc]
 have h4 := chk_iff.1 (wcB_iff.1 h3).1
 have := h4.n
 have := h4.m
 exact ⟨(celB_iff.1 h4.cel).few, by omega, by omega⟩
end
end Abs
end Go.Proofs.YtlabbaglbcmofaaGreat

namespace Go.Proofs.YtlabbaglbcmofaaGreat
namespace Abs
open Go Go.RowKit
noncomputable section
attribute [local irreducible] FnSat
def valW : Spec [.ptr ewCells] := ⟨fun _ => True, fun ((m, _), _) => .sb m⟩
set_option maxRecDepth 100000 in
theorem val_ok : FnSpec Tryz.prog 54 _ valW := by
 refine FnSpec.of Svc_ok mixed (U := 0) (I := fun _ => []) Tryz.func54 rfl (by kernel_rfl) rfl rfl (by decide +kernel) ?_
 rintro ⟨⟨m, x⟩, ⟨⟩⟩ -
 obtain ⟨e, rfl⟩ := ew_ex x
 unfold FnSat
 conv => arg 2; reduce
 simp [valW]
noncomputable def Svd : Sums := ⟨(54, mkSum _ valW) :: Svc.one, Svc.two, Svc.lo, Svc.eqs, Svc.its, Svc.imm⟩
theorem Svd_ok : SumsOK Tryz.prog Svd := (Svc_ok.cons Tryz.func54 (by kernel_rfl) (by kernel_rfl) val_ok)
noncomputable def SvdN : Sums := ⟨(53, mkSumN _ cspN) :: Svd.one, Svd.two, Svd.lo, Svd.eqs, Svd.its, Svd.imm⟩
theorem SvdN_ok : SumsOK Tryz.prog SvdN := (Svd_ok.add Tryz.func53 (by kernel_rfl) (by kernel_rfl) (mkSumN_ok cspN_ok))
def bxN : SpecN [.ptr ewCells] := ⟨fun ((m, x), _) => m = true /\ 0 < (ewOf x).n /\ (ewOf x).n <= 1048576, fun _ => .row 0, fun ((_, x), _) => [.row 32 2 (.sym (ewOf x).n) (fun k => [.si .i64 ((ewOf x).l k), .si .i64 ((ewOf x).h k)])]⟩
set_option maxRecDepth 100000 in
theorem bxN_ok : FnSpecN Tryz.prog 18 _ bxN := by
 refine FnSpecN.of SvdN_ok mixed (U := 0) (I := fun _ => []) Tryz.func18 rfl (by kernel_rfl) rfl rfl (by decide +kernel) ?_
 rintro ⟨⟨m, x⟩, ⟨⟩⟩ hpre
 obtain ⟨e, rfl⟩ := ew_ex x
 have hpre : m = true /\ 0 < e.n /\ e.n <= 1048576 := by have : m = true /\ 0 < (ewOf (ewD e)).n /\ (ewOf (ewD e)).n <= 1048576 := hpre; rwa [ewOf_D] at this
 obtain ⟨rfl, h1, h2⟩ := hpre
 unfold FnSat
 conv => arg 2; reduce
 simp [bxN, valW, cspN, h1, h2, ElEq, getB, goneB, aliveB, VC.sat, and_assoc]
def wcpF : SpecF [.cells 114 ewCells] [.own 0 0] := ⟨fun ((m, x), _) _ => m = true /\ (ewOf x).n <= 1048576, fun _ _ => .own 1 0, fun ((m, x), _) _ => [.cells 114 (encL ewCells (m, x)), .cells 114 (encL ewCells (m, x))]⟩
set_option maxRecDepth 100000 in
theorem wcp_ok : FnSpecF Tryz.prog 13 _ _ wcpF := by
 refine FnSpecF.of Svd_ok mixed (U := 0) (I := fun _ _ => []) Tryz.func13 rfl (by kernel_rfl) rfl (by decide +kernel) ?_
 rintro ⟨⟨m, x⟩, ⟨⟩⟩ ⟨⟨⟩, ⟨⟩⟩ hpre
 obtain ⟨e, rfl⟩ := ew_ex x
 have hpre : m = true /\ e.n <= 1048576 := by have : m = true /\ (ewOf (ewD e)).n <= 1048576 := hpre; rwa [ewOf_D] at this
 obtain ⟨rfl, h1⟩ := hpre
 have e : wcpF.after ((true, ewD e), ()) (PUnit.unit, PUnit.unit) = [.cells 114 (.sb true :: ewCs e.w e.n e.l e.h e.tk e.gn), .cells 114 (.sb true :: ewCs e.w e.n e.l e.h e.tk e.gn)] := rfl
 rw [e]
 unfold FnSat
 conv => arg 2; reduce
 simp [wcpF, valW, cspS, h1, ewCs, ElEq, aliveB, getB, encH, encB, VC.sat, and_assoc]
end
end Abs
end Go.Proofs.YtlabbaglbcmofaaGreat

namespace Go.Proofs.YtlabbaglbcmofaaGreat
namespace Abs
open Go Go.RowKit
noncomputable section
attribute [local irreducible] FnSat
@[reducible] def lookCells : List Sh := [.ptr ewCells, .int .i64, .int .i64, .int .i64, .int .i64, .int .i64, .int .i64, .int .i64, .int .i64, spnSh, .int .i64, .int .i64, .int .i64, .int .i64]
@[irreducible] def vbL (w : Wt) (m : Nat) (bl bh : Nat -> Int) (a b : Int) : Int := okV (orE (chkV w.cel w.tn w.tl w.th m bl bh) (insV (-1048576) a b 1048576) 2) (wvL (widV w.cel w.tl w.th m bl bh) a b)
@[irreducible] def vbH (w : Wt) (m : Nat) (bl bh : Nat -> Int) (a b : Int) : Int := okV (orE (chkV w.cel w.tn w.tl w.th m bl bh) (insV (-1048576) a b 1048576) 2) (wvH (widV w.cel w.tl w.th m bl bh) a b)
theorem vbL_fold (w : Wt) (m : Nat) (bl bh : Nat -> Int) (a b : Int) : okV (orE (chkV w.cel w.tn w.tl w.th m bl bh) (insV (-1048576) a b 1048576) 2) (wvL (widV w.cel w.tl w.th m bl bh) a b) = vbL w m bl bh a b := by unfold vbL; rfl
theorem vbH_fold (w : Wt) (m : Nat) (bl bh : Nat -> Int) (a b : Int) : okV (orE (chkV w.cel w.tn w.tl w.th m bl bh) (insV (-1048576) a b 1048576) 2) (wvH (widV w.cel w.tl w.th m bl bh) a b) = vbH w m bl bh a b := by unfold vbH; rfl
@[irreducible] def upB (i : Nat) (x : Int) (f : Nat -> Int) : Nat -> Int := fun j => if j = i then x else f j
theorem upB_if (i : Nat) (x : Int) (f : Nat -> Int) : (fun k => if k = i then x else f k) = upB i x f := by unfold upB; rfl
theorem upB_at (i : Nat) (x : Int) (f : Nat -> Int) : upB i x f i = x := by unfold upB; rw [if_pos rfl]
theorem upB_ne {i j : Nat} (x : Int) (f : Nat -> Int) (h : j ≠ i) : upB i x f j = f j := by unfold upB; rw [if_neg h]
@[irreducible] def fstZ (P : Int -> Bool) (a : Int) : Nat -> Int
 | 0 => a
 | n + 1 => if P a = true then a else fstZ P (a + 1) n
theorem fstZ_0 (P : Int -> Bool) (a : Int) : fstZ P a 0 = a := by unfold fstZ; rfl
theorem fstZ_s (P : Int -> Bool) (a : Int) (n : Nat) : fstZ P a (n + 1) = if P a = true then a else fstZ P (a + 1) n := by conv => lhs; unfold fstZ
theorem fstZ_eq {P : Int -> Bool} {x : Int} : ∀ {n : Nat} {a : Int}, a <= x -> x <= a + n -> (∀ y, a <= y -> y < x -> P y = false) -> (x < a + n -> P x = true) -> fstZ P a n = x
 | 0, a, h1, h2, _, _ => by rw [fstZ_0]; omega
 | n + 1, a, h1, h2, h3, h4 => by
   rw [fstZ_s]
   rcases Int.lt_or_le a x with h | h
   ·rw [h3 a (Int.le_refl _) h, if_neg (by decide)]
    exact fstZ_eq (by omega) (by omega) (fun y hy => h3 y (by omega)) (fun h => h4 (by omega))
   ·obtain rfl : a = x := by omega
    rw [h4 (by omega), if_pos rfl]
theorem fstZ_in (P : Int -> Bool) : ∀ (n : Nat) (a : Int), a <= fstZ P a n /\ fstZ P a n <= a + n /\ (∀ y, a <= y -> y < fstZ P a n -> P y = false) /\ (fstZ P a n < a + n -> P (fstZ P a n) = true)
 | 0, a => by rw [fstZ_0]; exact ⟨by omega, by omega, fun y h1 h2 => by omega, fun h => by omega⟩
 | n + 1, a => by
   rw [fstZ_s]
   cases hp : P a with
   | true => rw [if_pos rfl]; exact ⟨by omega, by omega, fun y h1 h2 => by omega, fun _ => hp⟩
   | false =>
     rw [if_neg (by decide)]
     obtain ⟨h1, h2, h3, h4⟩ := fstZ_in P n (a + 1)
     refine ⟨by omega, by omega, fun y h5 h6 => ?_, fun h => h4 (by omega)⟩
     rcases Int.lt_or_le a y with h | h
     ·exact h3 y (by omega) h6
     ·obtain rfl : a = y := by omega
      exact hp
@[irreducible] def pA (w : Wt) (m : Nat) (bl bh : Nat -> Int) (a b v : Int) (c : Int) : Bool := decide (v <= vbH w m (upB 0 c bl) (upB 0 c bh) a b)
@[irreducible] def pB (w : Wt) (m : Nat) (bl bh : Nat -> Int) (a b v : Int) (c : Int) : Bool := decide (v < vbL w m (upB 0 c bl) (upB 0 c bh) a b)
structure MonoZ (P : Int -> Bool) (s N : Int) : Prop where
 mono : ∀ i j, s <= i -> i <= j -> j < s + N -> P i = true -> P j = true
noncomputable def Sve : Sums := ⟨(167, mkSum _ vbS) :: SvdN.one, SvdN.two, SvdN.lo, SvdN.eqs, SvdN.its, SvdN.imm⟩
theorem Sve_ok : SumsOK Tryz.prog Sve := (SvdN_ok.cons Tryz.func167 (by kernel_rfl) (by kernel_rfl) vb_ok)
def vltS : Spec [.ptr lookCells, .int .i64, spanSh] := ⟨fun (((_, x), _, _, _, _, _, _, _, _, (n, _), _), (i : Int), _) => CelMax (ewOf x).w.cel /\ (ewOf x).w.tn <= maxLen /\ 0 < n /\ n <= 1048576 /\ 0 <= i /\ i < (n : Int),
 fun (((_, x), _, _, _, _, _, _, _, _, (n, el), (c0 : Int), (c1 : Int), _), (i : Int), ((u : Int), (v : Int), _), _) => .agg [.si .i64 (vbL (ewOf x).w n (upB i.toNat u (fun j => (el j).1)) (upB i.toNat v (fun j => (el j).2.1)) c0 c1), .si .i64 (vbH (ewOf x).w n (upB i.toNat u (fun j => (el j).1)) (upB i.toNat v (fun j => (el j).2.1)) c0 c1)]⟩
set_option maxRecDepth 100000 in
set_option maxHeartbeats 4000000 in
theorem vlt_ok : FnSpec Tryz.prog 116 _ vltS := by
 refine FnSpec.of Sve_ok mixed (U := 0) (I := fun _ => []) Tryz.func116 rfl (by kernel_rfl) rfl rfl (by decide +kernel) ?_
 rintro ⟨⟨⟨m, x⟩, (a0 : Int), (a1 : Int), (a2 : Int), (a3 : Int), (a4 : Int), (a5 : Int), (a6 : Int), (a7 : Int), ⟨n, el⟩, (c0 : Int), (c1 : Int), (c2 : Int), (c3 : Int), ⟨⟩⟩, (i : Int), ⟨(u : Int), (v : Int), ⟨⟩⟩, ⟨⟩⟩ hpre
 obtain ⟨e, rfl⟩ := ew_ex x
 obtain ⟨lo, hi, rfl⟩ : ∃ lo hi : Nat -> Int, el = fun k => (lo k, hi k, ()) := ⟨fun k => (el k).1, fun k => (el k).2.1, rfl⟩
 have hpre : CelMax e.w.cel /\ e.w.tn <= maxLen /\ 0 < n /\ n <= 1048576 /\ 0 <= i /\ i < (n : Int) := by have : CelMax (ewOf (ewD e)).w.cel /\ (ewOf (ewD e)).w.tn <= maxLen /\ 0 < n /\ n <= 1048576 /\ 0 <= i /\ i < (n : Int) := hpre; rwa [ewOf_D] at this
 obtain ⟨h1, h2, h3, h4, h5, h6⟩ := hpre
 unfold FnSat
 conv => arg 2; reduce
 simp [vltS, vbS, cspN, vbL_fold, vbH_fold, upB_if, ElEq, getB, goneB, aliveB, and_assoc]
 exact ⟨h3, h4, h5, h6, h1, h2, by unfold maxLen; omega⟩
def c2S : Spec [spanSh, .ptr [.int .i64, .int .i64]] := ⟨fun _ => True, fun (((_ : Int), (b : Int), _), ((c : Int), _), _) => .sb (ile c b)⟩
set_option maxRecDepth 100000 in
theorem c2_ok : FnSpec Tryz.prog 117 _ c2S := by
 refine FnSpec.of Sve_ok mixed (U := 0) (I := fun _ => []) Tryz.func117 rfl (by kernel_rfl) rfl rfl (by decide +kernel) ?_
 rintro ⟨⟨(a : Int), (b : Int), ⟨⟩⟩, ⟨(c : Int), (d : Int), ⟨⟩⟩, ⟨⟩⟩ -
 unfold FnSat
 conv => arg 2; reduce
 simp [c2S]
def c3S : Spec [spanSh, .ptr [.int .i64, .int .i64]] := ⟨fun _ => True, fun (((a : Int), _), ((_ : Int), (d : Int), _), _) => .sb (ilt d a)⟩
set_option maxRecDepth 100000 in
theorem c3_ok : FnSpec Tryz.prog 118 _ c3S := by
 refine FnSpec.of Sve_ok mixed (U := 0) (I := fun _ => []) Tryz.func118 rfl (by kernel_rfl) rfl rfl (by decide +kernel) ?_
 rintro ⟨⟨(a : Int), (b : Int), ⟨⟩⟩, ⟨(c : Int), (d : Int), ⟨⟩⟩, ⟨⟩⟩ -
 unfold FnSat
 conv => arg 2; reduce
 simp [c3S]
noncomputable def Svf : Sums := ⟨(118, mkSum _ c3S) :: (117, mkSum _ c2S) :: (116, mkSum _ vltS) :: Sve.one, Sve.two, Sve.lo, Sve.eqs, Sve.its, Sve.imm⟩
theorem Svf_ok : SumsOK Tryz.prog Svf := (((Sve_ok.cons Tryz.func116 (by kernel_rfl) (by kernel_rfl) vlt_ok).cons Tryz.func117 (by kernel_rfl) (by kernel_rfl) c2_ok).cons Tryz.func118 (by kernel_rfl) (by kernel_rfl) c3_ok)
@[reducible] def yesA : Sh := .fn 117 [] [.ptr [.int .i64, .int .i64]]
@[reducible] def yesB : Sh := .fn 118 [] [.ptr [.int .i64, .int .i64]]
@[reducible] def c11Sh (y : Sh) : List Sh := [.ptr [.int .i64, .int .i64], .ptr [y], .ptr [.ptr lookCells]]
def LkOK (x : EwD) (n : Nat) : Prop := CelMax (ewOf x).w.cel /\ (ewOf x).w.tn <= maxLen /\ 0 < n /\ n <= 1048576
def c11A : Spec (.int .i64 :: c11Sh yesA) := ⟨fun ((i : Int), ((s : Int), _), _, (((_, x), _, _, _, _, _, _, _, _, (n, _), _), _), _) => LkOK x n /\ InR .i64 (s + i),
 fun ((i : Int), ((s : Int), _), ((_, ((v : Int), _), _), _), (((_, x), _, _, _, _, _, _, _, _, (n, el), (c0 : Int), (c1 : Int), _), _), _) => .sb (pA (ewOf x).w n (fun j => (el j).1) (fun j => (el j).2.1) c0 c1 v (iadd s i))⟩
set_option maxRecDepth 100000 in
set_option maxHeartbeats 2000000 in
theorem c11A_ok : FnSpec Tryz.prog 115 _ c11A := by
 refine FnSpec.of Svf_ok mixed (U := 0) (I := fun _ => []) Tryz.func115 rfl (by kernel_rfl) rfl rfl (by decide +kernel) ?_
 rintro ⟨(i : Int), ⟨(s : Int), (s' : Int), ⟨⟩⟩, ⟨⟨⟨⟩, ⟨(v : Int), (v' : Int), ⟨⟩⟩, ⟨⟩⟩, ⟨⟩⟩, ⟨⟨⟨m, x⟩, (a0 : Int), (a1 : Int), (a2 : Int), (a3 : Int), (a4 : Int), (a5 : Int), (a6 : Int), (a7 : Int), ⟨n, el⟩, (c0 : Int), (c1 : Int), (c2 : Int), (c3 : Int), ⟨⟩⟩, ⟨⟩⟩, ⟨⟩⟩ hpre
 obtain ⟨e, rfl⟩ := ew_ex x
 obtain ⟨lo, hi, rfl⟩ : ∃ lo hi : Nat -> Int, el = fun k => (lo k, hi k, ()) := ⟨fun k => (el k).1, fun k => (el k).2.1, rfl⟩
 have hpre : (CelMax e.w.cel /\ e.w.tn <= maxLen /\ 0 < n /\ n <= 1048576) /\ InR .i64 (s + i) := by have : (CelMax (ewOf (ewD e)).w.cel /\ (ewOf (ewD e)).w.tn <= maxLen /\ 0 < n /\ n <= 1048576) /\ InR .i64 (s + i) := hpre; rwa [ewOf_D] at this
 obtain ⟨⟨h1, h2, h3, h4⟩, h5⟩ := hpre
 simp [InR, IntKind.min, IntKind.max, IntKind.signed, IntKind.bits] at h5
 unfold FnSat
 conv => arg 2; reduce
 simp [c11A, vltS, c2S, and_assoc]
 exact ⟨h5.1, h5.2, h1, h2, h3, h4, h3, by unfold pA; rfl⟩
def c11B : Spec (.int .i64 :: c11Sh yesB) := ⟨fun ((i : Int), ((s : Int), _), _, (((_, x), _, _, _, _, _, _, _, _, (n, _), _), _), _) => LkOK x n /\ InR .i64 (s + i),
 fun ((i : Int), ((s : Int), _), ((_, (_, (v : Int), _), _), _), (((_, x), _, _, _, _, _, _, _, _, (n, el), (c0 : Int), (c1 : Int), _), _), _) => .sb (pB (ewOf x).w n (fun j => (el j).1) (fun j => (el j).2.1) c0 c1 v (iadd s i))⟩
set_option maxRecDepth 100000 in
set_option maxHeartbeats 2000000 in
theorem c11B_ok : FnSpec Tryz.prog 115 _ c11B := by
 refine FnSpec.of Svf_ok mixed (U := 0) (I := fun _ => []) Tryz.func115 rfl (by kernel_rfl) rfl rfl (by decide +kernel) ?_
 rintro ⟨(i : Int), ⟨(s : Int), (s' : Int), ⟨⟩⟩, ⟨⟨⟨⟩, ⟨(v : Int), (v' : Int), ⟨⟩⟩, ⟨⟩⟩, ⟨⟩⟩, ⟨⟨⟨m, x⟩, (a0 : Int), (a1 : Int), (a2 : Int), (a3 : Int), (a4 : Int), (a5 : Int), (a6 : Int), (a7 : Int), ⟨n, el⟩, (c0 : Int), (c1 : Int), (c2 : Int), (c3 : Int), ⟨⟩⟩, ⟨⟩⟩, ⟨⟩⟩ hpre
 obtain ⟨e, rfl⟩ := ew_ex x
 obtain ⟨lo, hi, rfl⟩ : ∃ lo hi : Nat -> Int, el = fun k => (lo k, hi k, ()) := ⟨fun k => (el k).1, fun k => (el k).2.1, rfl⟩
 have hpre : (CelMax e.w.cel /\ e.w.tn <= maxLen /\ 0 < n /\ n <= 1048576) /\ InR .i64 (s + i) := by have : (CelMax (ewOf (ewD e)).w.cel /\ (ewOf (ewD e)).w.tn <= maxLen /\ 0 < n /\ n <= 1048576) /\ InR .i64 (s + i) := hpre; rwa [ewOf_D] at this
 obtain ⟨⟨h1, h2, h3, h4⟩, h5⟩ := hpre
 simp [InR, IntKind.min, IntKind.max, IntKind.signed, IntKind.bits] at h5
 unfold FnSat
 conv => arg 2; reduce
 simp [c11B, vltS, c3S, and_assoc]
 exact ⟨h5.1, h5.2, h1, h2, h3, h4, h3, by unfold pB; rfl⟩
noncomputable def Svg : Sums := ⟨(115, (altSum (mkSum _ c11A) (mkSum _ c11B))) :: Svf.one, Svf.two, Svf.lo, Svf.eqs, Svf.its, Svf.imm⟩
theorem Svg_ok : SumsOK Tryz.prog Svg := (Svf_ok.add Tryz.func115 (by kernel_rfl) (by kernel_rfl) (altSum_ok (mkSum_ok c11A_ok) (mkSum_ok c11B_ok)))
theorem shr_mid {x : Int} (h : 0 <= x) (h2 : x <= 9223372036854775807) : ishr (IntKind.u64.wrap x) 1 = x / 2 := by
 unfold ishr
 have e : IntKind.u64.wrap x = x := by
  simp [IntKind.wrap, IntKind.bits, IntKind.signed]
  omega
 rw [e, Int.fdiv_eq_ediv_of_nonneg _ (by decide)]
 rfl
structure SrInv (p : Int -> Bool) (s N i j : Int) : Prop where
 a : 0 <= i
 b : i <= j
 c : j <= N
 lo : ∀ y, s <= y -> y < s + i -> p y = false
 hi : ∀ y, s + j <= y -> y < s + N -> p y = true
theorem sr_fin {p : Int -> Bool} {s N i j : Int} (h : SrInv p s N i j) (hj : ¬ i < j) : i = fstZ p s N.toNat - s := by
 have h1 := h.a; have h2 := h.b; have h3 := h.c
 have := fstZ_eq (P := p) (x := s + i) (n := N.toNat) (a := s) (by omega) (by omega) (fun y => h.lo y) (fun h4 => h.hi (s + i) (by omega) (by omega))
 omega
theorem sr_init {p : Int -> Bool} {s N : Int} (h : 0 <= N) : SrInv p s N 0 N := ⟨Int.le_refl _, h, Int.le_refl _, fun y h1 h2 => by omega, fun y h1 h2 => by omega⟩
theorem sr_up {p : Int -> Bool} {s N i j m : Int} (h : SrInv p s N i j) (hm : MonoZ p s N) (h1 : i <= m) (h2 : m < j) (hp : p (s + m) = false) : SrInv p s N (m + 1) j := by
 have h3 := h.a; have h4 := h.c
 refine ⟨by omega, by omega, h.c, fun y h5 h6 => ?_, h.hi⟩
 cases hy : p y with
 | false => rfl
 | true => rw [hm.mono y (s + m) h5 (by omega) (by omega) hy] at hp; cases hp
theorem sr_dn {p : Int -> Bool} {s N i j m : Int} (h : SrInv p s N i j) (hm : MonoZ p s N) (h1 : i <= m) (h2 : m < j) (hp : p (s + m) = true) : SrInv p s N i m := by
 have h3 := h.a; have h4 := h.c
 exact ⟨h.a, h1, by omega, h.lo, fun y h5 h6 => hm.mono (s + m) y (by omega) h5 h6 hp⟩
def srA : Spec [.int .i64, .fn 115 [] (c11Sh yesA)] := ⟨fun ((N : Int), (_, ((s : Int), _), ((_, ((v : Int), _), _), _), (((_, x), _, _, _, _, _, _, _, _, (n, el), (c0 : Int), (c1 : Int), _), _), _), _) =>
    LkOK x n /\ 0 <= N /\ N <= 1099511627776 /\ -1099511627776 <= s /\ s <= 1099511627776 /\ MonoZ (pA (ewOf x).w n (fun j => (el j).1) (fun j => (el j).2.1) c0 c1 v ) s N,
 fun ((N : Int), (_, ((s : Int), _), ((_, ((v : Int), _), _), _), (((_, x), _, _, _, _, _, _, _, _, (n, el), (c0 : Int), (c1 : Int), _), _), _), _) => .si .i64 (isub (fstZ (pA (ewOf x).w n (fun j => (el j).1) (fun j => (el j).2.1) c0 c1 v ) s (nat N)) s)⟩
def srAI : DatL [.int .i64, .fn 115 [] (c11Sh yesA)] -> Anns := fun ((N : Int), (_, ((s : Int), _), ((_, ((v : Int), _), _), _), (((_, x), _, _, _, _, _, _, _, _, (n, el), (c0 : Int), (c1 : Int), _), _), _), _) => [
 (2, [], fun fr hp => ⟨Int × Int, fun (i, j) => ⟨frI [.k 5, .s (.si .i64 i), .s (.si .i64 j), .t 19] fr, hp⟩, (Int -> Bool) × Int × Int × Int × Int, fun (i, j) => (pA (ewOf x).w n (fun j => (el j).1) (fun j => (el j).2.1) c0 c1 v , s, N, i, j), fun (p, s, N, i, j) => SrInv p s N i j, fun (i, j) => nat (isub j i)⟩)]
def srB : Spec [.int .i64, .fn 115 [] (c11Sh yesB)] := ⟨fun ((N : Int), (_, ((s : Int), _), ((_, (_, (v : Int), _), _), _), (((_, x), _, _, _, _, _, _, _, _, (n, el), (c0 : Int), (c1 : Int), _), _), _), _) =>
    LkOK x n /\ 0 <= N /\ N <= 1099511627776 /\ -1099511627776 <= s /\ s <= 1099511627776 /\ MonoZ (pB (ewOf x).w n (fun j => (el j).1) (fun j => (el j).2.1) c0 c1 v ) s N,
 fun ((N : Int), (_, ((s : Int), _), ((_, (_, (v : Int), _), _), _), (((_, x), _, _, _, _, _, _, _, _, (n, el), (c0 : Int), (c1 : Int), _), _), _), _) => .si .i64 (isub (fstZ (pB (ewOf x).w n (fun j => (el j).1) (fun j => (el j).2.1) c0 c1 v ) s (nat N)) s)⟩
def srBI : DatL [.int .i64, .fn 115 [] (c11Sh yesB)] -> Anns := fun ((N : Int), (_, ((s : Int), _), ((_, (_, (v : Int), _), _), _), (((_, x), _, _, _, _, _, _, _, _, (n, el), (c0 : Int), (c1 : Int), _), _), _), _) => [
 (2, [], fun fr hp => ⟨Int × Int, fun (i, j) => ⟨frI [.k 5, .s (.si .i64 i), .s (.si .i64 j), .t 19] fr, hp⟩, (Int -> Bool) × Int × Int × Int × Int, fun (i, j) => (pB (ewOf x).w n (fun j => (el j).1) (fun j => (el j).2.1) c0 c1 v , s, N, i, j), fun (p, s, N, i, j) => SrInv p s N i j, fun (i, j) => nat (isub j i)⟩)]
set_option maxRecDepth 100000 in
set_option maxHeartbeats 2000000 in
theorem srA_ok : FnSpec Tryz.prog 114 _ srA := by
 refine FnSpec.of Svg_ok mixed (U := 0) (I := srAI) Tryz.func114 rfl (by kernel_rfl) rfl rfl (by decide +kernel) ?_
 rintro ⟨(N : Int), ⟨⟨⟩, ⟨(s : Int), (s' : Int), ⟨⟩⟩, ⟨⟨⟨⟩, ⟨(v : Int), (v' : Int), ⟨⟩⟩, ⟨⟩⟩, ⟨⟩⟩, ⟨⟨⟨m, x⟩, (a0 : Int), (a1 : Int), (a2 : Int), (a3 : Int), (a4 : Int), (a5 : Int), (a6 : Int), (a7 : Int), ⟨n, el⟩, (c0 : Int), (c1 : Int), (c2 : Int), (c3 : Int), ⟨⟩⟩, ⟨⟩⟩, ⟨⟩⟩, ⟨⟩⟩ hpre
 obtain ⟨e, rfl⟩ := ew_ex x
 obtain ⟨lo, hi, rfl⟩ : ∃ lo hi : Nat -> Int, el = fun k => (lo k, hi k, ()) := ⟨fun k => (el k).1, fun k => (el k).2.1, rfl⟩
 have hpre : (CelMax e.w.cel /\ e.w.tn <= maxLen /\ 0 < n /\ n <= 1048576) /\ 0 <= N /\ N <= 1099511627776 /\ -1099511627776 <= s /\ s <= 1099511627776 /\ MonoZ (pA e.w n lo hi c0 c1 v ) s N := by
  have : (CelMax (ewOf (ewD e)).w.cel /\ (ewOf (ewD e)).w.tn <= maxLen /\ 0 < n /\ n <= 1048576) /\ 0 <= N /\ N <= 1099511627776 /\ -1099511627776 <= s /\ s <= 1099511627776 /\ MonoZ (pA (ewOf (ewD e)).w n lo hi c0 c1 v) s N := hpre
  rwa [ewOf_D] at this
 obtain ⟨⟨h1, h2, h3, h4⟩, h5, h6, h7, h8, h9⟩ := hpre
 unfold FnSat
 conv => arg 2; reduce
 simp [-Bool.forall_bool, srA, c11A, and_assoc]
 have hk : LkOK (ewD e) n := by unfold LkOK; rw [ewOf_D]; exact ⟨h1, h2, h3, h4⟩
 refine ⟨sr_init h5, fun i j hi => ⟨fun hij => ?_, fun hij => sr_fin hi (by omega)⟩⟩
 have q1 := hi.a
 have q2 := hi.c
 have hm := shr_mid (x := i + j) (by omega) (by omega)
 rw [hm]
 refine ⟨by omega, by omega, by decide, by omega, by omega, hk, by omega, by omega, fun hp => ⟨by omega, by omega, sr_up hi h9 (by omega) (by omega) hp, by omega⟩, fun hp => ⟨sr_dn hi h9 (by omega) (by omega) hp, by omega⟩⟩
set_option maxRecDepth 100000 in
set_option maxHeartbeats 2000000 in
theorem srB_ok : FnSpec Tryz.prog 114 _ srB := by
 refine FnSpec.of Svg_ok mixed (U := 0) (I := srBI) Tryz.func114 rfl (by kernel_rfl) rfl rfl (by decide +kernel) ?_
 rintro ⟨(N : Int), ⟨⟨⟩, ⟨(s : Int), (s' : Int), ⟨⟩⟩, ⟨⟨⟨⟩, ⟨(v : Int), (v' : Int), ⟨⟩⟩, ⟨⟩⟩, ⟨⟩⟩, ⟨⟨⟨m, x⟩, (a0 : Int), (a1 : Int), (a2 : Int), (a3 : Int), (a4 : Int), (a5 : Int), (a6 : Int), (a7 : Int), ⟨n, el⟩, (c0 : Int), (c1 : Int), (c2 : Int), (c3 : Int), ⟨⟩⟩, ⟨⟩⟩, ⟨⟩⟩, ⟨⟩⟩ hpre
 obtain ⟨e, rfl⟩ := ew_ex x
 obtain ⟨lo, hi, rfl⟩ : ∃ lo hi : Nat -> Int, el = fun k => (lo k, hi k, ()) := ⟨fun k => (el k).1, fun k => (el k).2.1, rfl⟩
 have hpre : (CelMax e.w.cel /\ e.w.tn <= maxLen /\ 0 < n /\ n <= 1048576) /\ 0 <= N /\ N <= 1099511627776 /\ -1099511627776 <= s /\ s <= 1099511627776 /\ MonoZ (pB e.w n lo hi c0 c1 v' ) s N := by
  have : (CelMax (ewOf (ewD e)).w.cel /\ (ewOf (ewD e)).w.tn <= maxLen /\ 0 < n /\ n <= 1048576) /\ 0 <= N /\ N <= 1099511627776 /\ -1099511627776 <= s /\ s <= 1099511627776 /\ MonoZ (pB (ewOf (ewD e)).w n lo hi c0 c1 v') s N := hpre
  rwa [ewOf_D] at this
 obtain ⟨⟨h1, h2, h3, h4⟩, h5, h6, h7, h8, h9⟩ := hpre
 unfold FnSat
 conv => arg 2; reduce
 simp [-Bool.forall_bool, srB, c11B, and_assoc]
 have hk : LkOK (ewD e) n := by unfold LkOK; rw [ewOf_D]; exact ⟨h1, h2, h3, h4⟩
 refine ⟨sr_init h5, fun i j hi => ⟨fun hij => ?_, fun hij => sr_fin hi (by omega)⟩⟩
 have q1 := hi.a
 have q2 := hi.c
 have hm := shr_mid (x := i + j) (by omega) (by omega)
 rw [hm]
 refine ⟨by omega, by omega, by decide, by omega, by omega, hk, by omega, by omega, fun hp => ⟨by omega, by omega, sr_up hi h9 (by omega) (by omega) hp, by omega⟩, fun hp => ⟨sr_dn hi h9 (by omega) (by omega) hp, by omega⟩⟩
end
end Abs
end Go.Proofs.YtlabbaglbcmofaaGreat

namespace Go.Proofs.YtlabbaglbcmofaaGreat
namespace Abs
open Go Go.RowKit
noncomputable section
attribute [local irreducible] FnSat
noncomputable def Svh : Sums := ⟨(114, (altSum (mkSum _ srA) (mkSum _ srB))) :: Svg.one, Svg.two, Svg.lo, Svg.eqs, Svg.its, Svg.imm⟩
theorem Svh_ok : SumsOK Tryz.prog Svh := (Svg_ok.add Tryz.func114 (by kernel_rfl) (by kernel_rfl) (altSum_ok (mkSum_ok srA_ok) (mkSum_ok srB_ok)))
def frA : Spec [yesA, .ptr [.int .i64, .int .i64], .ptr [.ptr lookCells]] := ⟨fun ((_, ((v : Int), _), _), ((s : Int), (s' : Int), _), (((_, x), _, _, _, _, _, _, _, _, (n, el), (c0 : Int), (c1 : Int), _), _), _) =>
    LkOK x n /\ 0 <= s /\ s <= s' /\ s' <= 4294967296 /\ MonoZ (pA (ewOf x).w n (fun j => (el j).1) (fun j => (el j).2.1) c0 c1 v ) s (s' - s + 1),
 fun ((_, ((v : Int), _), _), ((s : Int), (s' : Int), _), (((_, x), _, _, _, _, _, _, _, _, (n, el), (c0 : Int), (c1 : Int), _), _), _) => .si .i64 (fstZ (pA (ewOf x).w n (fun j => (el j).1) (fun j => (el j).2.1) c0 c1 v ) s (nat (iadd (isub s' s) 1)))⟩
set_option maxRecDepth 100000 in
set_option maxHeartbeats 2000000 in
theorem frA_ok : FnSpec Tryz.prog 113 _ frA := by
 refine FnSpec.of Svh_ok mixed (U := 0) (I := fun _ => []) Tryz.func113 rfl (by kernel_rfl) rfl rfl (by decide +kernel) ?_
 rintro ⟨⟨⟨⟩, ⟨(v : Int), (v' : Int), ⟨⟩⟩, ⟨⟩⟩, ⟨(s : Int), (s' : Int), ⟨⟩⟩, ⟨⟨⟨m, x⟩, (a0 : Int), (a1 : Int), (a2 : Int), (a3 : Int), (a4 : Int), (a5 : Int), (a6 : Int), (a7 : Int), ⟨n, el⟩, (c0 : Int), (c1 : Int), (c2 : Int), (c3 : Int), ⟨⟩⟩, ⟨⟩⟩, ⟨⟩⟩ hpre
 obtain ⟨e, rfl⟩ := ew_ex x
 obtain ⟨lo, hi, rfl⟩ : ∃ lo hi : Nat -> Int, el = fun k => (lo k, hi k, ()) := ⟨fun k => (el k).1, fun k => (el k).2.1, rfl⟩
 have hpre : LkOK (ewD e) n /\ 0 <= s /\ s <= s' /\ s' <= 4294967296 /\ MonoZ (pA e.w n lo hi c0 c1 v ) s (s' - s + 1) := by
  have : LkOK (ewD e) n /\ 0 <= s /\ s <= s' /\ s' <= 4294967296 /\ MonoZ (pA (ewOf (ewD e)).w n lo hi c0 c1 v) s (s' - s + 1) := hpre
  rwa [ewOf_D] at this
 obtain ⟨hk, h5, h6, h7, h9⟩ := hpre
 have hf := fstZ_in (pA e.w n lo hi c0 c1 v ) (s' - s + 1).toNat s
 unfold FnSat
 conv => arg 2; reduce
 simp [-Bool.forall_bool, frA, srA, and_assoc]
 have h9' : MonoZ (pA (ewOf (ewD e)).w n (fun j => lo j) (fun j => hi j) c0 c1 v) s (s' - s + 1) := by rw [ewOf_D]; exact h9
 generalize hF : fstZ (pA e.w n lo hi c0 c1 v ) s (s' - s + 1).toNat = F at *
 repeat' (first | exact hk | exact h9' | refine And.intro ?_ ?_ | intro _)
 all_goals first
  | omega
  | skip
def frB : Spec [yesB, .ptr [.int .i64, .int .i64], .ptr [.ptr lookCells]] := ⟨fun ((_, (_, (v : Int), _), _), ((s : Int), (s' : Int), _), (((_, x), _, _, _, _, _, _, _, _, (n, el), (c0 : Int), (c1 : Int), _), _), _) =>
    LkOK x n /\ 0 <= s /\ s <= s' /\ s' <= 4294967296 /\ MonoZ (pB (ewOf x).w n (fun j => (el j).1) (fun j => (el j).2.1) c0 c1 v ) s (s' - s + 1),
 fun ((_, (_, (v : Int), _), _), ((s : Int), (s' : Int), _), (((_, x), _, _, _, _, _, _, _, _, (n, el), (c0 : Int), (c1 : Int), _), _), _) => .si .i64 (fstZ (pB (ewOf x).w n (fun j => (el j).1) (fun j => (el j).2.1) c0 c1 v ) s (nat (iadd (isub s' s) 1)))⟩
set_option maxRecDepth 100000 in
set_option maxHeartbeats 2000000 in
theorem frB_ok : FnSpec Tryz.prog 113 _ frB := by
 refine FnSpec.of Svh_ok mixed (U := 0) (I := fun _ => []) Tryz.func113 rfl (by kernel_rfl) rfl rfl (by decide +kernel) ?_
 rintro ⟨⟨⟨⟩, ⟨(v : Int), (v' : Int), ⟨⟩⟩, ⟨⟩⟩, ⟨(s : Int), (s' : Int), ⟨⟩⟩, ⟨⟨⟨m, x⟩, (a0 : Int), (a1 : Int), (a2 : Int), (a3 : Int), (a4 : Int), (a5 : Int), (a6 : Int), (a7 : Int), ⟨n, el⟩, (c0 : Int), (c1 : Int), (c2 : Int), (c3 : Int), ⟨⟩⟩, ⟨⟩⟩, ⟨⟩⟩ hpre
 obtain ⟨e, rfl⟩ := ew_ex x
 obtain ⟨lo, hi, rfl⟩ : ∃ lo hi : Nat -> Int, el = fun k => (lo k, hi k, ()) := ⟨fun k => (el k).1, fun k => (el k).2.1, rfl⟩
 have hpre : LkOK (ewD e) n /\ 0 <= s /\ s <= s' /\ s' <= 4294967296 /\ MonoZ (pB e.w n lo hi c0 c1 v' ) s (s' - s + 1) := by
  have : LkOK (ewD e) n /\ 0 <= s /\ s <= s' /\ s' <= 4294967296 /\ MonoZ (pB (ewOf (ewD e)).w n lo hi c0 c1 v') s (s' - s + 1) := hpre
  rwa [ewOf_D] at this
 obtain ⟨hk, h5, h6, h7, h9⟩ := hpre
 have hf := fstZ_in (pB e.w n lo hi c0 c1 v' ) (s' - s + 1).toNat s
 unfold FnSat
 conv => arg 2; reduce
 simp [-Bool.forall_bool, frB, srB, and_assoc]
 have h9' : MonoZ (pB (ewOf (ewD e)).w n (fun j => lo j) (fun j => hi j) c0 c1 v') s (s' - s + 1) := by rw [ewOf_D]; exact h9
 generalize hF : fstZ (pB e.w n lo hi c0 c1 v' ) s (s' - s + 1).toNat = F at *
 repeat' (first | exact hk | exact h9' | refine And.intro ?_ ?_ | intro _)
 all_goals first
  | omega
  | skip
theorem upB_up (i : Nat) (x y : Int) (f : Nat -> Int) : upB i x (upB i y f) = upB i x f := by
 unfold upB; funext k
 by_cases h : k = i
 ·simp [h]
 ·simp [h]
theorem pB_up (w : Wt) (m : Nat) (y z : Int) (bl bh : Nat -> Int) (a b v : Int) : pB w m (upB 0 y bl) (upB 0 z bh) a b v = pB w m bl bh a b v := by
 funext c; unfold pB; rw [upB_up, upB_up]
noncomputable def Svi0 : Sums := ⟨(113, (altSum (mkSum _ frA) (mkSum _ frB))) :: Svh.one, Svh.two, Svh.lo, Svh.eqs, Svh.its, Svh.imm⟩
theorem Svi0_ok : SumsOK Tryz.prog Svi0 := (Svh_ok.add Tryz.func113 (by kernel_rfl) (by kernel_rfl) (altSum_ok (mkSum_ok frA_ok) (mkSum_ok frB_ok)))
noncomputable def Svm : Sums := ⟨Svi0.one, Svi0.two, Svi0.lo, Svi0.eqs, Svi0.its, [32]⟩
theorem Svm_ok : SumsOK Tryz.prog Svm := Svi0_ok.setImm _
noncomputable def Svi : Sums := ⟨Svi0.one, (112, inlS Tryz.prog Svm 0 Tryz.f112) :: Svi0.two, Svi0.lo, Svi0.eqs, Svi0.its, Svi0.imm⟩
theorem Svi_ok : SumsOK Tryz.prog Svi := Svi0_ok.addTwo Tryz.func112 (by kernel_rfl) (by kernel_rfl) (inlS_ok Svm_ok mixed Tryz.func112 rfl (by kernel_rfl))
@[reducible] def lkC : List Sh := [.own 1 0, .int .i64, .int .i64, .int .i64, .int .i64, .int .i64, .int .i64, .int .i64, .int .i64, .rowr 2, .int .i64, .int .i64, .int .i64, .int .i64]
@[reducible] def wObs : List OB := [.cells 118 lkC, .cells 114 ewCells, .row 32 2 [.int .i64, .int .i64]]
def lkA (a0 a1 a2 a3 a4 a5 a6 a7 c0 c1 c2 c3 : Int) : List AV := [.own 1 0, .si .i64 a0, .si .i64 a1, .si .i64 a2, .si .i64 a3, .si .i64 a4, .si .i64 a5, .si .i64 a6, .si .i64 a7, .row 2, .si .i64 c0, .si .i64 c1, .si .i64 c2, .si .i64 c3]
def wH (W : List AV) (n : Nat) (lo hi : Nat -> Int) (a0 a1 a2 a3 a4 a5 a6 a7 c0 c1 c2 c3 : Int) : Heap := [.cells 118 (lkA a0 a1 a2 a3 a4 a5 a6 a7 c0 c1 c2 c3), .cells 114 W, .row 32 2 (.sym n) (fun k => [.si .i64 (lo k), .si .i64 (hi k)])]
@[irreducible] def chL (w : Wt) (n : Nat) (lo hi : Nat -> Int) (c0 c1 v : Int) : Int := fstZ (pA w n lo hi c0 c1 v) (lo 0) (hi 0 - lo 0 + 1).toNat
@[irreducible] def chH (w : Wt) (n : Nat) (lo hi : Nat -> Int) (c0 c1 v : Int) : Int := fstZ (pB w n lo hi c0 c1 v) (lo 0) (hi 0 - lo 0 + 1).toNat - 1
def forceLG {β : Type 1} (l : List AV) : (List AV -> β) -> β :=
 List.rec (motive := fun _ => (List AV -> β) -> β) (fun k => k []) (fun a _ ih k =>
  @AV.casesOn (fun _ => β) a (ih fun l => k (.top :: l)) (fun a b => ih fun l => k (.li a b :: l)) (fun a b => ih fun l => k (.si a b :: l)) (fun b => ih fun l => k (.lb b :: l)) (fun b => ih fun l => k (.sb b :: l)) (fun x => ih fun l => k (.v x :: l)) (fun m => ih fun l => k (.agg m :: l)) (fun m => ih fun l => k (.tup m :: l))
  (fun i o => ih fun l => k (.own i o :: l)) (fun a b c d => ih fun l => k (.elt a b c d :: l)) (fun i => ih fun l => k (.row i :: l)) (fun a b c => ih fun l => k (.lsl a b c :: l)) (fun a b c => ih fun l => k (.slc a b c :: l)) (fun m => ih fun l => k (.xp m :: l)) (fun a b c => ih fun l => k (.fn a b c :: l)) (fun c a => ih fun l => k (.gd c a :: l))) l
theorem forceLG_eq {β : Type 1} : ∀ (l : List AV) (k : List AV -> β), forceLG l k = k l
 | [], _ => rfl
 | a :: l, k => by
   have : forceLG (a :: l) k = forceLG l fun l => k (a :: l) := by cases a <;> rfl
   rw [this, forceLG_eq l]
def forceBG {β : Type 1} (b : Blk) (k : Blk -> β) : β := match b with
 | .cells t l => forceLG l fun l' => k (.cells t l')
 | .row a b c d => k (.row a b c d)
 | .dead => k .dead
def forceHG {β : Type 1} : Heap -> (Heap -> β) -> β
 | [], k => k []
 | a :: l, k => forceBG a fun a' => forceHG l fun l' => k (a' :: l')
theorem forceHG_eq {β : Type 1} : ∀ (l : Heap) (k : Heap -> β), forceHG l k = k l
 | [], _ => rfl
 | a :: l, k => by cases a <;> simp [forceHG, forceBG, forceLG_eq, forceHG_eq l]
def mkSumG (obs : List OB) (shs : List Sh) (sp : SpecF obs shs) : Summ2 := fun args hp =>
 forceN (addJ [] (refsA_refsLN args)) fun j1 => forceN (addJ j1 (refsH hp j1)) fun js =>
 match nodupB js && okR_okRLN (fun i => memN i js) args && okSub js hp js && okHB obs (subH js hp js) && okShLN shs (renA_renLN (posD js) args) with
 | true => decHK obs (subH js hp js) fun o => decKLN shs (renA_renLN (posD js) args) fun x => forceHG (sp.after o x) fun h1 =>
   (match okRN (fun _ => true) (sp.res o x) && okRH (fun _ => true) h1 with
   | true => forceHG (putH js (outN js hp.length) h1 0 hp ++ newH (outN js hp.length) js.length h1) fun h2 => some ⟨appP (canHB obs (subH js hp js)) (appP (canShLN shs (renA_renLN (posD js) args)) [⟨fun z : DatH obs × DatL shs => sp.pre z.1 z.2, (o, x)⟩]),
     renAN (outN js hp.length) (sp.res o x), h2⟩
   | false => none)
 | false => none
theorem mkSumG_eq (obs : List OB) (shs : List Sh) (sp : SpecF obs shs) : mkSumG obs shs sp = mkSumF obs shs sp := by
 unfold mkSumG mkSumF
 simp only [forceHG_eq]
 rfl
theorem mkSumG_ok {P : Program} {f : FuncId} {obs : List OB} {shs : List Sh} {sp : SpecF obs shs} (h : FnSpecF P f obs shs sp) : Summ2OK P f (mkSumG obs shs sp) := by
 rw [mkSumG_eq]; exact mkSumF_ok h
def ewAV (m : Bool) (x : EwD) : List AV :=
 let (c0, c1, c2, c3, c4, c5, c6, c7, c8, c9, c10, c11, c12, c13, c14, c15, c16, t, b, i0, i1, i2, i3, i4, i5, i6, i7, i8, i9, i10, i11, i12, i13, i14, i15, i16, i17, i18, i19, i20, s, tk, gn, _) := x
 [.sb m, .si .i64 c0, .slc (.sym c1.1) 1 (fun k => [.si .i64 (c1.2 k).1]), .slc (.sym c2.1) 1 (fun k => [.si .i64 (c2.2 k).1]), .si .i64 c3, .slc (.sym c4.1) 1 (fun k => [.si .i64 (c4.2 k).1]), .slc (.sym c5.1) 1 (fun k => [.si .i64 (c5.2 k).1]), .si .i64 c6, .si .i64 c7, .si .i64 c8, .si .i64 c9, .si .i64 c10, .si .i64 c11, .slc (.sym c12.1) 1 (fun k => [.si .i64 (c12.2 k).1]), .slc (.sym c13.1) 1 (fun k => [.si .i64 (c13.2 k).1]), .si .i64 c14, .si .i64 c15, .si .i64 c16, .slc (.sym t.1) 2 (fun k => [.si .i64 (t.2 k).1, .si .i64 (t.2 k).2.1]), .slc (.sym b.1) 2 (fun k => [.si .i64 (b.2 k).1, .si .i64 (b.2 k).2.1]), .si .i64 i0, .si .i64 i1, .si .i64 i2, .si .i64 i3, .si .i64 i4, .si .i64 i5, .si .i64 i6, .si .i64 i7, .si .i64 i8, .si .i64 i9, .si .i64 i10, .si .i64 i11, .si .i64 i12, .si .i64 i13, .si .i64 i14, .si .i64 i15, .si .i64 i16, .si .i64 i17, .si .i64 i18, .si .i64 i19, .si .i64 i20, .slc (.sym s.1) 2 (fun k => [.si .i64 (s.2 k).1, .si .i64 (s.2 k).2.1]), .si .i64 tk, .sb gn]
def chgF : SpecF wObs [.own 0 0] :=
 ⟨fun ((_, (a0 : Int), (a1 : Int), _, _, _, _, _, _, _, (c0 : Int), (c1 : Int), _), (_, x), (n, el), _) _ => LkOK x n /\ 0 <= (el 0).1 /\ (el 0).1 <= (el 0).2.1 /\ (el 0).2.1 <= 4294967296 /\
   MonoZ (pA (ewOf x).w n (fun j => (el j).1) (fun j => (el j).2.1) c0 c1 a0) (el 0).1 ((el 0).2.1 - (el 0).1 + 1) /\ MonoZ (pB (ewOf x).w n (fun j => (el j).1) (fun j => (el j).2.1) c0 c1 a1) (el 0).1 ((el 0).2.1 - (el 0).1 + 1),
  fun ((_, (a0 : Int), (a1 : Int), _, _, _, _, _, _, _, (c0 : Int), (c1 : Int), _), (_, x), (n, el), _) _ => .sb (ile (chL (ewOf x).w n (fun j => (el j).1) (fun j => (el j).2.1) c0 c1 a0) (chH (ewOf x).w n (fun j => (el j).1) (fun j => (el j).2.1) c0 c1 a1)),
  fun ((_, a0, a1, a2, a3, a4, a5, a6, a7, _, c0, c1, c2, c3, _), (m, x), (n, el), _) _ => wH (ewAV m x) n (upB 0 (chL (ewOf x).w n (fun j => (el j).1) (fun j => (el j).2.1) c0 c1 a0) (fun j => (el j).1)) (upB 0 (chH (ewOf x).w n (fun j => (el j).1) (fun j => (el j).2.1) c0 c1 a1) (fun j => (el j).2.1)) a0 a1 a2 a3 a4 a5 a6 a7 c0 c1 c2 c3⟩
set_option maxRecDepth 100000 in
set_option maxHeartbeats 4000000 in
theorem chg_ok : FnSpecF Tryz.prog 57 _ _ chgF := by
 refine FnSpecF.of Svi_ok mixed (U := 0) (I := fun _ _ => []) Tryz.func57 rfl (by kernel_rfl) rfl (by decide +kernel) ?_
 rintro ⟨⟨⟨⟩, (a0 : Int), (a1 : Int), (a2 : Int), (a3 : Int), (a4 : Int), (a5 : Int), (a6 : Int), (a7 : Int), ⟨⟩, (c0 : Int), (c1 : Int), (c2 : Int), (c3 : Int), ⟨⟩⟩, ⟨m, x⟩, ⟨n, el⟩, ⟨⟩⟩ ⟨⟨⟩, ⟨⟩⟩ hpre
 obtain ⟨e, rfl⟩ := ew_ex x
 obtain ⟨lo, hi, rfl⟩ : ∃ lo hi : Nat -> Int, el = fun k => (lo k, hi k, ()) := ⟨fun k => (el k).1, fun k => (el k).2.1, rfl⟩
 have hpre : LkOK (ewD e) n /\ 0 <= lo 0 /\ lo 0 <= hi 0 /\ hi 0 <= 4294967296 /\ MonoZ (pA e.w n lo hi c0 c1 a0) (lo 0) (hi 0 - lo 0 + 1) /\ MonoZ (pB e.w n lo hi c0 c1 a1) (lo 0) (hi 0 - lo 0 + 1) := by
  have : LkOK (ewD e) n /\ 0 <= lo 0 /\ lo 0 <= hi 0 /\ hi 0 <= 4294967296 /\ MonoZ (pA (ewOf (ewD e)).w n lo hi c0 c1 a0) (lo 0) (hi 0 - lo 0 + 1) /\ MonoZ (pB (ewOf (ewD e)).w n lo hi c0 c1 a1) (lo 0) (hi 0 - lo 0 + 1) := hpre
  rwa [ewOf_D] at this
 obtain ⟨hk, h1, h2, h3, h4, h5⟩ := hpre
 unfold FnSat
 conv => arg 2; reduce
 simp [-Bool.forall_bool, chgF, frA, frB, wH, ewAV, lkA, ewCs, upB_if, pB_up, encH, encB, ElEq, getB, goneB, aliveB, VC.sat, and_assoc]
 have eL : chL e.w n lo hi c0 c1 a0 = fstZ (pA e.w n lo hi c0 c1 a0) (lo 0) (hi 0 - lo 0 + 1).toNat := by unfold chL; rfl
 have eH : chH e.w n lo hi c0 c1 a1 = fstZ (pB e.w n lo hi c0 c1 a1) (lo 0) (hi 0 - lo 0 + 1).toNat - 1 := by unfold chH; rfl
 have hf := fstZ_in (pB e.w n lo hi c0 c1 a1) (hi 0 - lo 0 + 1).toNat (lo 0)
 generalize hF : fstZ (pA e.w n lo hi c0 c1 a0) (lo 0) (hi 0 - lo 0 + 1).toNat = F at *
 generalize hG : fstZ (pB e.w n lo hi c0 c1 a1) (lo 0) (hi 0 - lo 0 + 1).toNat = G at *
 generalize hX : chL e.w n lo hi c0 c1 a0 = X at *
 generalize hY : chH e.w n lo hi c0 c1 a1 = Y at *
 have hn := hk.2.2.1
 refine ⟨hn, hk, h1, h2, h3, h4, hn, hk, h1, h2, h3, h5, by omega, by omega, hn, by omega, fun j hj => ?_⟩
 unfold upB
 by_cases h : j = 0 <;> simp [h, eL, eH]
@[irreducible] def mxI (a b : Int) : Int := max a b
@[irreducible] def mnI (a b : Int) : Int := min a b
def tmpF : SpecF wObs [.own 0 0] :=
 ⟨fun (_, _, (n, _), _) _ => 2 < n,
  fun ((_, (a0 : Int), (a1 : Int), (a2 : Int), (a3 : Int), (a4 : Int), (a5 : Int), (a6 : Int), (a7 : Int), _, (c0 : Int), (c1 : Int), (c2 : Int), (c3 : Int), _), (m, x), (n, el), _) _ => .sb (ile (mxI (el 2).1 a4) (mnI (el 2).2.1 a5)),
  fun ((_, (a0 : Int), (a1 : Int), (a2 : Int), (a3 : Int), (a4 : Int), (a5 : Int), (a6 : Int), (a7 : Int), _, (c0 : Int), (c1 : Int), (c2 : Int), (c3 : Int), _), (m, x), (n, el), _) _ => wH (ewAV m x) n (upB 2 (mxI (el 2).1 a4) (fun j => (el j).1)) (upB 2 (mnI (el 2).2.1 a5) (fun j => (el j).2.1)) a0 a1 a2 a3 a4 a5 a6 a7 c0 c1 c2 c3⟩
set_option maxRecDepth 100000 in
set_option maxHeartbeats 4000000 in
theorem tmp_ok : FnSpecF Tryz.prog 56 _ _ tmpF := by
 refine FnSpecF.of Svi_ok mixed (U := 0) (I := fun _ _ => []) Tryz.func56 rfl (by kernel_rfl) rfl (by decide +kernel) ?_
 rintro ⟨⟨⟨⟩, (a0 : Int), (a1 : Int), (a2 : Int), (a3 : Int), (a4 : Int), (a5 : Int), (a6 : Int), (a7 : Int), ⟨⟩, (c0 : Int), (c1 : Int), (c2 : Int), (c3 : Int), ⟨⟩⟩, ⟨m, x⟩, ⟨n, el⟩, ⟨⟩⟩ ⟨⟨⟩, ⟨⟩⟩ hpre
 obtain ⟨e, rfl⟩ := ew_ex x
 obtain ⟨lo, hi, rfl⟩ : ∃ lo hi : Nat -> Int, el = fun k => (lo k, hi k, ()) := ⟨fun k => (el k).1, fun k => (el k).2.1, rfl⟩
 have hn : 2 < n := hpre
 unfold FnSat
 conv => arg 2; reduce
 simp [-Bool.forall_bool, tmpF, wH, ewAV, lkA, ewCs, upB_if, encH, encB, ElEq, getB, goneB, aliveB, VC.sat, and_assoc]
 refine ⟨hn, by unfold mxI mnI; rfl, fun j _ => ?_⟩
 unfold upB mxI mnI
 by_cases h : j = 2 <;> simp [h]
@[irreducible] def rxL (w : Wt) (n : Nat) (lo hi : Nat -> Int) (c0 c1 v : Int) : Int := max (lo 1) (vbL w n (upB 1 0 lo) (upB 1 0 hi) c0 c1 - v)
@[irreducible] def rxH (w : Wt) (n : Nat) (lo hi : Nat -> Int) (c0 c1 v : Int) : Int := min (hi 1) (vbH w n (upB 1 0 lo) (upB 1 0 hi) c0 c1 - v)
def rlxF : SpecF wObs [.own 0 0] :=
 ⟨fun ((_, (a0 : Int), (a1 : Int), (a2 : Int), (a3 : Int), (a4 : Int), (a5 : Int), (a6 : Int), (a7 : Int), _, (c0 : Int), (c1 : Int), (c2 : Int), (c3 : Int), _), (m, x), (n, el), _) _ => LkOK x n /\ 1 < n /\ -4611686018427387904 <= vbL (ewOf x).w n (upB 1 0 (fun j => (el j).1)) (upB 1 0 (fun j => (el j).2.1)) c0 c1 /\ vbL (ewOf x).w n (upB 1 0 (fun j => (el j).1)) (upB 1 0 (fun j => (el j).2.1)) c0 c1 <= 4611686018427387904 /\
   -4611686018427387904 <= vbH (ewOf x).w n (upB 1 0 (fun j => (el j).1)) (upB 1 0 (fun j => (el j).2.1)) c0 c1 /\ vbH (ewOf x).w n (upB 1 0 (fun j => (el j).1)) (upB 1 0 (fun j => (el j).2.1)) c0 c1 <= 4611686018427387904 /\ -4398046511104 <= a0 /\ a0 <= 4398046511104 /\ -4398046511104 <= a1 /\ a1 <= 4398046511104,
  fun ((_, (a0 : Int), (a1 : Int), (a2 : Int), (a3 : Int), (a4 : Int), (a5 : Int), (a6 : Int), (a7 : Int), _, (c0 : Int), (c1 : Int), (c2 : Int), (c3 : Int), _), (m, x), (n, el), _) _ => .sb (ile (rxL (ewOf x).w n (fun j => (el j).1) (fun j => (el j).2.1) c0 c1 a1) (rxH (ewOf x).w n (fun j => (el j).1) (fun j => (el j).2.1) c0 c1 a0)),
  fun ((_, (a0 : Int), (a1 : Int), (a2 : Int), (a3 : Int), (a4 : Int), (a5 : Int), (a6 : Int), (a7 : Int), _, (c0 : Int), (c1 : Int), (c2 : Int), (c3 : Int), _), (m, x), (n, el), _) _ => wH (ewAV m x) n (upB 1 (rxL (ewOf x).w n (fun j => (el j).1) (fun j => (el j).2.1) c0 c1 a1) (fun j => (el j).1)) (upB 1 (rxH (ewOf x).w n (fun j => (el j).1) (fun j => (el j).2.1) c0 c1 a0) (fun j => (el j).2.1)) a0 a1 a2 a3 a4 a5 a6 a7 c0 c1 c2 c3⟩
set_option maxRecDepth 100000 in
set_option maxHeartbeats 4000000 in
theorem rlx_ok : FnSpecF Tryz.prog 58 _ _ rlxF := by
 refine FnSpecF.of Svi_ok mixed (U := 0) (I := fun _ _ => []) Tryz.func58 rfl (by kernel_rfl) rfl (by decide +kernel) ?_
 rintro ⟨⟨⟨⟩, (a0 : Int), (a1 : Int), (a2 : Int), (a3 : Int), (a4 : Int), (a5 : Int), (a6 : Int), (a7 : Int), ⟨⟩, (c0 : Int), (c1 : Int), (c2 : Int), (c3 : Int), ⟨⟩⟩, ⟨m, x⟩, ⟨n, el⟩, ⟨⟩⟩ ⟨⟨⟩, ⟨⟩⟩ hpre
 obtain ⟨e, rfl⟩ := ew_ex x
 obtain ⟨lo, hi, rfl⟩ : ∃ lo hi : Nat -> Int, el = fun k => (lo k, hi k, ()) := ⟨fun k => (el k).1, fun k => (el k).2.1, rfl⟩
 have hpre : LkOK (ewD e) n /\ 1 < n /\ -4611686018427387904 <= vbL e.w n (upB 1 0 lo) (upB 1 0 hi) c0 c1 /\ vbL e.w n (upB 1 0 lo) (upB 1 0 hi) c0 c1 <= 4611686018427387904 /\
   -4611686018427387904 <= vbH e.w n (upB 1 0 lo) (upB 1 0 hi) c0 c1 /\ vbH e.w n (upB 1 0 lo) (upB 1 0 hi) c0 c1 <= 4611686018427387904 /\ -4398046511104 <= a0 /\ a0 <= 4398046511104 /\ -4398046511104 <= a1 /\ a1 <= 4398046511104 := by
  have : LkOK (ewD e) n /\ 1 < n /\ -4611686018427387904 <= vbL (ewOf (ewD e)).w n (upB 1 0 lo) (upB 1 0 hi) c0 c1 /\ vbL (ewOf (ewD e)).w n (upB 1 0 lo) (upB 1 0 hi) c0 c1 <= 4611686018427387904 /\
   -4611686018427387904 <= vbH (ewOf (ewD e)).w n (upB 1 0 lo) (upB 1 0 hi) c0 c1 /\ vbH (ewOf (ewD e)).w n (upB 1 0 lo) (upB 1 0 hi) c0 c1 <= 4611686018427387904 /\ -4398046511104 <= a0 /\ a0 <= 4398046511104 /\ -4398046511104 <= a1 /\ a1 <= 4398046511104 := hpre
  rwa [ewOf_D] at this
 obtain ⟨hk, hn, v1, v2, v3, v4, g1, g2, g3, g4⟩ := hpre
 unfold FnSat
 conv => arg 2; reduce
 simp [-Bool.forall_bool, rlxF, vltS, wH, ewAV, lkA, ewCs, upB_if, encH, encB, ElEq, getB, goneB, aliveB, VC.sat, and_assoc]
 have eL : rxL e.w n (fun j => lo j) (fun j => hi j) c0 c1 a1 = max (lo 1) (vbL e.w n (upB 1 0 fun j => lo j) (upB 1 0 fun j => hi j) c0 c1 - a1) := by unfold rxL; rfl
 have eH : rxH e.w n (fun j => lo j) (fun j => hi j) c0 c1 a0 = min (hi 1) (vbH e.w n (upB 1 0 fun j => lo j) (upB 1 0 fun j => hi j) c0 c1 - a0) := by unfold rxH; rfl
 rw [eL, eH]
 have hk' : CelMax e.w.cel /\ e.w.tn <= maxLen /\ 0 < n /\ n <= 1048576 := by
  have : CelMax (ewOf (ewD e)).w.cel /\ (ewOf (ewD e)).w.tn <= maxLen /\ 0 < n /\ n <= 1048576 := hk
  rwa [ewOf_D] at this
 have v1 : -4611686018427387904 <= vbL e.w n (upB 1 0 fun j => lo j) (upB 1 0 fun j => hi j) c0 c1 := v1
 have v2 : vbL e.w n (upB 1 0 fun j => lo j) (upB 1 0 fun j => hi j) c0 c1 <= 4611686018427387904 := v2
 have v3 : -4611686018427387904 <= vbH e.w n (upB 1 0 fun j => lo j) (upB 1 0 fun j => hi j) c0 c1 := v3
 have v4 : vbH e.w n (upB 1 0 fun j => lo j) (upB 1 0 fun j => hi j) c0 c1 <= 4611686018427387904 := v4
 clear eL eH
 refine ⟨hk'.1, hk'.2.1, hk'.2.2.1, hk'.2.2.2, by omega, hn, by omega, by omega, by omega, by omega, Iff.rfl, fun j _ => ?_⟩
 unfold upB
 by_cases h : j = 1 <;> simp [h]
@[irreducible] def inA (w : Wt) (a2 a3 : Int) : Bool := decide (max w.cl a2 <= min w.ch a3)
@[irreducible] def in2 (w : Wt) (a2 a3 a6 : Int) : Int := if inA w a2 a3 = true then max w.al a6 else w.al
@[irreducible] def in3 (w : Wt) (a2 a3 a7 : Int) : Int := if inA w a2 a3 = true then min w.ah a7 else w.ah
@[irreducible] def inpW (w : Wt) (a2 a3 a6 a7 : Int) : Bool := inA w a2 a3 && decide (max w.al a6 <= min w.ah a7)
def inpF : SpecF wObs [.own 0 0] :=
 ⟨fun _ _ => True,
  fun ((_, (a0 : Int), (a1 : Int), (a2 : Int), (a3 : Int), (a4 : Int), (a5 : Int), (a6 : Int), (a7 : Int), _, (c0 : Int), (c1 : Int), (c2 : Int), (c3 : Int), _), (m, x), (n, el), _) _ => .sb (inpW (ewOf x).w a2 a3 a6 a7),
  fun ((_, (a0 : Int), (a1 : Int), (a2 : Int), (a3 : Int), (a4 : Int), (a5 : Int), (a6 : Int), (a7 : Int), _, (c0 : Int), (c1 : Int), (c2 : Int), (c3 : Int), _), (m, x), (n, el), _) _ => wH (ewAV m x) n (fun j => (el j).1) (fun j => (el j).2.1) a0 a1 a2 a3 a4 a5 a6 a7 (mxI (ewOf x).w.cl a2) (mnI (ewOf x).w.ch a3) (in2 (ewOf x).w a2 a3 a6) (in3 (ewOf x).w a2 a3 a7)⟩
set_option maxRecDepth 100000 in
set_option maxHeartbeats 4000000 in
theorem inp_ok : FnSpecF Tryz.prog 55 _ _ inpF := by
 refine FnSpecF.of Svi_ok mixed (U := 0) (I := fun _ _ => []) Tryz.func55 rfl (by kernel_rfl) rfl (by decide +kernel) ?_
 rintro ⟨⟨⟨⟩, (a0 : Int), (a1 : Int), (a2 : Int), (a3 : Int), (a4 : Int), (a5 : Int), (a6 : Int), (a7 : Int), ⟨⟩, (c0 : Int), (c1 : Int), (c2 : Int), (c3 : Int), ⟨⟩⟩, ⟨m, x⟩, ⟨n, el⟩, ⟨⟩⟩ ⟨⟨⟩, ⟨⟩⟩ hpre
 obtain ⟨e, rfl⟩ := ew_ex x
 obtain ⟨lo, hi, rfl⟩ : ∃ lo hi : Nat -> Int, el = fun k => (lo k, hi k, ()) := ⟨fun k => (el k).1, fun k => (el k).2.1, rfl⟩
 unfold FnSat
 conv => arg 2; reduce
 simp [-Bool.forall_bool, inpF, wH, ewAV, lkA, ewCs, upB_if, encH, encB, ElEq, getB, goneB, aliveB, VC.sat, and_assoc]
 refine ⟨fun h => ?_, fun h => ?_⟩
 ·have hA : inA e.w a2 a3 = true := by unfold inA; simpa using h
  refine ⟨?_, ?_, ?_, ?_, ?_⟩
  ·unfold inpW; rw [hA]; simp
  ·unfold mxI; rfl
  ·unfold mnI; rfl
  ·unfold in2; rw [if_pos hA]
  ·unfold in3; rw [if_pos hA]
 ·have hA : inA e.w a2 a3 = false := by unfold inA; simp; omega
  refine ⟨?_, ?_, ?_, ?_, ?_⟩
  ·unfold inpW; rw [hA]; simp
  ·unfold mxI; rfl
  ·unfold mnI; rfl
  ·unfold in2; rw [if_neg (by simp [hA])]
  ·unfold in3; rw [if_neg (by simp [hA])]
end
end Abs
end Go.Proofs.YtlabbaglbcmofaaGreat

namespace Go.Proofs.YtlabbaglbcmofaaGreat
namespace Abs
open Go Go.RowKit
theorem chk_up {c : Cel} {n : Nat} {lo hi : Nat -> Int} {m : Nat} {bl bh : Nat -> Int} {i : Nat} {x y : Int} (h : ChkOK c n lo hi m bl bh) (hb : boxB 5 (upB i x bl) (upB i y bh) = true) : ChkOK c n lo hi m (upB i x bl) (upB i y bh) := by
 have := h.m
 subst this
 exact ⟨h.cel, h.n, rfl, h.cl, h.ch, h.le, boxB_ok.1 hb⟩
theorem box_up0 {bl bh : Nat -> Int} {x y : Int} (h : BoxOK bl bh) (h1 : bl 0 <= x) (h2 : x <= y) (h3 : y <= bh 0) : boxB 5 (upB 0 x bl) (upB 0 y bh) = true := by
 obtain ⟨_, b0, b1, b2, b3, b4⟩ := boxB_iff.1 (boxB_ok.2 h)
 have g0 := insV_iff.1 b0
 refine boxB_iff.2 ⟨rfl, ?_, ?_, ?_, ?_, ?_⟩
 ·rw [upB_at, upB_at]; exact insV_iff.2 ⟨by omega, h2, by omega⟩
 all_goals (rw [upB_ne _ _ (by decide), upB_ne _ _ (by decide)]; assumption)
theorem box_up1 {bl bh : Nat -> Int} {x y : Int} (h : BoxOK bl bh) (h1 : -8388608 <= x) (h2 : x <= y) (h3 : y <= 8388608) : boxB 5 (upB 1 x bl) (upB 1 y bh) = true := by
 obtain ⟨_, b0, b1, b2, b3, b4⟩ := boxB_iff.1 (boxB_ok.2 h)
 refine boxB_iff.2 ⟨rfl, ?_, ?_, ?_, ?_, ?_⟩
 ·rw [upB_ne _ _ (by decide), upB_ne _ _ (by decide)]; assumption
 ·rw [upB_at, upB_at]; exact insV_iff.2 ⟨h1, h2, h3⟩
 all_goals (rw [upB_ne _ _ (by decide), upB_ne _ _ (by decide)]; assumption)
theorem box_up2 {bl bh : Nat -> Int} {x y : Int} (h : BoxOK bl bh) (h1 : bl 2 <= x) (h2 : x <= y) (h3 : y <= bh 2) : boxB 5 (upB 2 x bl) (upB 2 y bh) = true := by
 obtain ⟨_, b0, b1, b2, b3, b4⟩ := boxB_iff.1 (boxB_ok.2 h)
 have g2 := insV_iff.1 b2
 refine boxB_iff.2 ⟨rfl, ?_, ?_, ?_, ?_, ?_⟩
 ·rw [upB_ne _ _ (by decide), upB_ne _ _ (by decide)]; assumption
 ·rw [upB_ne _ _ (by decide), upB_ne _ _ (by decide)]; assumption
 ·rw [upB_at, upB_at]; exact insV_iff.2 ⟨by omega, h2, by omega⟩
 all_goals (rw [upB_ne _ _ (by decide), upB_ne _ _ (by decide)]; assumption)
theorem vb_ok' {w : Wt} {m : Nat} {bl bh : Nat -> Int} {a b : Int} (h : ChkOK w.cel w.tn w.tl w.th m bl bh) (hi : insV (-1048576) a b 1048576 = true) :
  vbL w m bl bh a b = wvL (widV w.cel w.tl w.th m bl bh) a b /\ vbH w m bl bh a b = wvH (widV w.cel w.tl w.th m bl bh) a b := by
 have e : orE (chkV w.cel w.tn w.tl w.th m bl bh) (insV (-1048576) a b 1048576) 2 = 0 := orE_t (chk_iff.2 h) hi
 unfold vbL vbH
 rw [okV_0 e, okV_0 e]
 exact ⟨rfl, rfl⟩
theorem wv_in {x : Wid} {a b : Int} (h : WidOK x) (hi : insV (-1048576) a b 1048576 = true) : -2147483648 <= wvL x a b /\ wvL x a b <= 2147483648 /\ -2147483648 <= wvH x a b /\ wvH x a b <= 2147483648 := by
 obtain ⟨i0, i1, i2⟩ := insV_iff.1 hi
 have hb := boxB_ok.1 h.bx
 have := h.n
 have o1 := open_in (f := x.fl) h.lo
 have o2 := open_in (f := x.fh) h.hi
 have := h.r0
 have := h.r1
 have := h.s0
 have := h.s1
 have := hb.x0
 have := hb.x1
 have := hb.x2
 have hp := prB (a := a) (b := b) (c := x.rl) (d := x.rh) (K := 1048576) (L := 1048576) (by omega) (by omega) (by omega) (by omega)
 have d1 := dvI_ge (a := prL a b x.rl x.rh) (d := 1000) (m := -1099511628) (by decide) (by omega)
 have d2 := dvI_le (a := prH a b x.rl x.rh) (d := 1000) (m := 1099511628) (by decide) (by omega)
 have d3 := dvI_mono (a := prL a b x.rl x.rh) (b := prH a b x.rl x.rh) (d := 1000) (by decide) hp.2.1
 have el : wvL x a b = openV x.lo x.fl - x.bh 1 - dvI (prH a b x.rl x.rh) 1000 := by unfold wvL; rfl
 have eh : wvH x a b = openV x.hi x.fh - x.bl 1 - dvI (prL a b x.rl x.rh) 1000 := by unfold wvH; rfl
 rw [el, eh]
 omega
theorem vb_in {w : Wt} {m : Nat} {bl bh : Nat -> Int} {a b : Int} (h : ChkOK w.cel w.tn w.tl w.th m bl bh) (hi : insV (-1048576) a b 1048576 = true) : -2147483648 <= vbL w m bl bh a b /\ vbL w m bl bh a b <= 2147483648 /\ -2147483648 <= vbH w m bl bh a b /\ vbH w m bl bh a b <= 2147483648 := by
 obtain ⟨e1, e2⟩ := vb_ok' h hi
 rw [e1, e2]
 exact wv_in (wid_of h) hi
theorem vb_mono {w : Wt} {m : Nat} {bl bh : Nat -> Int} {a b i j : Int} (h : ChkOK w.cel w.tn w.tl w.th m bl bh) (hi : insV (-1048576) a b 1048576 = true) (h1 : bl 0 <= i) (h2 : i <= j) (h3 : j <= bh 0) :
  vbL w m (upB 0 i bl) (upB 0 i bh) a b <= vbL w m (upB 0 j bl) (upB 0 j bh) a b /\ vbH w m (upB 0 i bl) (upB 0 i bh) a b <= vbH w m (upB 0 j bl) (upB 0 j bh) a b := by
 have ci := chk_up h (box_up0 h.bx h1 (Int.le_refl i) (by omega))
 have cj := chk_up h (box_up0 h.bx (by omega) (Int.le_refl j) h3)
 obtain ⟨e1, e2⟩ := vb_ok' ci hi
 obtain ⟨e3, e4⟩ := vb_ok' cj hi
 rw [e1, e2, e3, e4]
 have hq := h.bx.q0
 have w1 : ∀ x, wdWL w.cel (upB 0 x bl) = wdWL w.cel bl := fun x => by unfold wdWL; rw [upB_ne _ _ (by decide), upB_ne _ _ (by decide)]
 have w2 : ∀ x, wdWL w.cel (upB 0 x bh) = wdWL w.cel bh := fun x => by unfold wdWL; rw [upB_ne _ _ (by decide), upB_ne _ _ (by decide)]
 have fl : ∀ x, wdFL w.cel w.th (upB 0 x bl) (upB 0 x bh) = pcV x (roomV (mvC w.cel w.th) (wdWL w.cel bl)) := fun x => by unfold wdFL; rw [upB_at, w1]
 have fh : ∀ x, wdFH w.cel w.tl (upB 0 x bl) (upB 0 x bh) = pcV x (roomV (mvC w.cel w.tl) (wdWL w.cel bh)) := fun x => by unfold wdFH; rw [upB_at, w2]
 have rl : ∀ x, wdRL w.cel w.tl (upB 0 x bl) (upB 0 x bh) = wdRL w.cel w.tl bl bh := fun x => by unfold wdRL; rw [w1, upB_ne _ _ (by decide)]
 have rh : ∀ x, wdRH w.cel w.th (upB 0 x bl) (upB 0 x bh) = wdRH w.cel w.th bl bh := fun x => by unfold wdRH; rw [w2, upB_ne _ _ (by decide)]
 have el : ∀ x, wvL (widV w.cel w.tl w.th m (upB 0 x bl) (upB 0 x bh)) a b = openV (mvC w.cel w.tl) (pcV x (roomV (mvC w.cel w.th) (wdWL w.cel bl))) - bh 1 - dvI (prH a b (wdRL w.cel w.tl bl bh) (wdRH w.cel w.th bl bh)) 1000 := fun x => by
  unfold wvL
  rw [widV_lo, widV_fl, widV_bh, widV_rl, widV_rh, fl, rl, rh, upB_ne _ _ (by decide)]
 have eh : ∀ x, wvH (widV w.cel w.tl w.th m (upB 0 x bl) (upB 0 x bh)) a b = openV (mvC w.cel w.th) (pcV x (roomV (mvC w.cel w.tl) (wdWL w.cel bh))) - bl 1 - dvI (prL a b (wdRL w.cel w.tl bl bh) (wdRH w.cel w.th bl bh)) 1000 := fun x => by
  unfold wvH
  rw [widV_hi, widV_fh, widV_bl, widV_rl, widV_rh, fh, rl, rh, upB_ne _ _ (by decide)]
 rw [el, el, eh, eh]
 have o1 := openV_le (c := mvC w.cel w.tl) (d := mvC w.cel w.tl) h.cl rfl (pcV_le (x := i) (x' := j) (o := roomV (mvC w.cel w.th) (wdWL w.cel bl)) (by omega) h2 roomV_in.1 (Int.le_refl _)) (Int.le_refl _)
 have o2 := openV_le (c := mvC w.cel w.th) (d := mvC w.cel w.th) h.ch rfl (pcV_le (x := i) (x' := j) (o := roomV (mvC w.cel w.tl) (wdWL w.cel bh)) (by omega) h2 roomV_in.1 (Int.le_refl _)) (Int.le_refl _)
 omega
theorem pA_mono {w : Wt} {m : Nat} {bl bh : Nat -> Int} {a b v : Int} (h : ChkOK w.cel w.tn w.tl w.th m bl bh) (hi : insV (-1048576) a b 1048576 = true) : MonoZ (pA w m bl bh a b v) (bl 0) (bh 0 - bl 0 + 1) := ⟨fun i j h1 h2 h3 hp => by
 have := (vb_mono h hi h1 h2 (by omega)).2
 unfold pA at hp ⊢
 simp at hp ⊢
 omega⟩
theorem pB_mono {w : Wt} {m : Nat} {bl bh : Nat -> Int} {a b v : Int} (h : ChkOK w.cel w.tn w.tl w.th m bl bh) (hi : insV (-1048576) a b 1048576 = true) : MonoZ (pB w m bl bh a b v) (bl 0) (bh 0 - bl 0 + 1) := ⟨fun i j h1 h2 h3 hp => by
 have := (vb_mono h hi h1 h2 (by omega)).1
 unfold pB at hp ⊢
 simp at hp ⊢
 omega⟩
end Abs
end Go.Proofs.YtlabbaglbcmofaaGreat

namespace Go.Proofs.YtlabbaglbcmofaaGreat
namespace Abs
open Go Go.RowKit
noncomputable section
@[reducible] def rdgSh : Sh := .agg [.bool, .bool, .bool, .bool, .int .i64, .int .i64, .int .i64, .int .i64]
structure EwOK (e : Ew) : Prop where
 big : CelMax e.w.cel
 wat : wcB e.w = true
 chk : ChkOK e.w.cel e.w.tn e.w.tl e.w.th e.n e.l e.h
 tk0 : 0 <= e.tk
 tk1 : e.tk <= 4294967296
@[irreducible] def spL (h : Bool) (a b c d r : Int) : Int := if h = true then behLo a b c d r else -1099511627776
@[irreducible] def spH (h : Bool) (a b c d r : Int) : Int := if h = true then behHi a b c d r else 1099511627776
@[irreducible] def spE (h : Bool) (a b c d r : Int) : Int := if h = true then behE a b c d r else 0
@[reducible] def t1L (e : Ew) (a4 : Int) : Nat -> Int := upB 2 (mxI (e.l 2) a4) e.l
@[reducible] def t1H (e : Ew) (a5 : Int) : Nat -> Int := upB 2 (mnI (e.h 2) a5) e.h
@[reducible] def t2L (e : Ew) (a0 a2 a3 a4 a5 : Int) : Nat -> Int := upB 0 (chL e.w e.n (t1L e a4) (t1H e a5) (mxI e.w.cl a2) (mnI e.w.ch a3) a0) (t1L e a4)
@[reducible] def t2H (e : Ew) (a1 a2 a3 a4 a5 : Int) : Nat -> Int := upB 0 (chH e.w e.n (t1L e a4) (t1H e a5) (mxI e.w.cl a2) (mnI e.w.ch a3) a1) (t1H e a5)
@[reducible] def t3L (e : Ew) (a0 a1 a2 a3 a4 a5 : Int) : Nat -> Int := upB 1 (rxL e.w e.n (t2L e a0 a2 a3 a4 a5) (t2H e a1 a2 a3 a4 a5) (mxI e.w.cl a2) (mnI e.w.ch a3) a1) (t2L e a0 a2 a3 a4 a5)
@[reducible] def t3H (e : Ew) (a0 a1 a2 a3 a4 a5 : Int) : Nat -> Int := upB 1 (rxH e.w e.n (t2L e a0 a2 a3 a4 a5) (t2H e a1 a2 a3 a4 a5) (mxI e.w.cl a2) (mnI e.w.ch a3) a0) (t2H e a1 a2 a3 a4 a5)
@[irreducible] def tlB (e : Ew) (a0 a1 a2 a3 a4 a5 a6 a7 : Int) : Bool :=
 inpW e.w a2 a3 a6 a7 && (ile (t1L e a4 2) (t1H e a5 2) && (ile (t2L e a0 a2 a3 a4 a5 0) (t2H e a1 a2 a3 a4 a5 0) && ile (t3L e a0 a1 a2 a3 a4 a5 1) (t3H e a0 a1 a2 a3 a4 a5 1)))
@[irreducible] def tlX (e : Ew) (a0 a1 a2 a3 a4 a5 a6 a7 : Int) : Int :=
 if farB (widV e.w.cel e.w.tl e.w.th e.n (t3L e a0 a1 a2 a3 a4 a5) (t3H e a0 a1 a2 a3 a4 a5)) (mxI e.w.cl a2) (mnI e.w.ch a3) = true then 0 else 4
@[irreducible] def tkE (e : Ew) (q : Bool) (a0 a1 a2 a3 a4 a5 a6 a7 : Int) : Int := if e.gn = true then 21 else if q = true then (if tlB e a0 a1 a2 a3 a4 a5 a6 a7 = true then tlX e a0 a1 a2 a3 a4 a5 a6 a7 else 21) else 2
@[irreducible] def tkK (e : Ew) (q : Bool) (a0 a1 a2 a3 a4 a5 a6 a7 : Int) : Bool := !e.gn && (q && (tlB e a0 a1 a2 a3 a4 a5 a6 a7 && decide (tlX e a0 a1 a2 a3 a4 a5 a6 a7 = 0)))
@[irreducible] def tkL (e : Ew) (q : Bool) (a0 a1 a2 a3 a4 a5 a6 a7 : Int) : Nat -> Int := fun k => if tkK e q a0 a1 a2 a3 a4 a5 a6 a7 = true then nbL (widV e.w.cel e.w.tl e.w.th e.n (t3L e a0 a1 a2 a3 a4 a5) (t3H e a0 a1 a2 a3 a4 a5)) (mxI e.w.cl a2) (mnI e.w.ch a3) (in2 e.w a2 a3 a6) (in3 e.w a2 a3 a7) k else e.l k
@[irreducible] def tkH (e : Ew) (q : Bool) (a0 a1 a2 a3 a4 a5 a6 a7 : Int) : Nat -> Int := fun k => if tkK e q a0 a1 a2 a3 a4 a5 a6 a7 = true then nbH (widV e.w.cel e.w.tl e.w.th e.n (t3L e a0 a1 a2 a3 a4 a5) (t3H e a0 a1 a2 a3 a4 a5)) (mxI e.w.cl a2) (mnI e.w.ch a3) (in2 e.w a2 a3 a6) (in3 e.w a2 a3 a7) k else e.h k
@[irreducible] def tkT (e : Ew) (q : Bool) (a0 a1 a2 a3 a4 a5 a6 a7 : Int) : Int := if tkK e q a0 a1 a2 a3 a4 a5 a6 a7 = true then e.tk + 1 else e.tk
@[irreducible] def tkG (e : Ew) (q : Bool) (a0 a1 a2 a3 a4 a5 a6 a7 : Int) : Bool := e.gn || (q && !tlB e a0 a1 a2 a3 a4 a5 a6 a7)
@[irreducible] def rdB (w : Wt) (h0 h1 h2 h3 : Bool) (v0 v1 v2 v3 : Int) : Bool := decide (spE h0 w.s00 w.s01 w.s02 w.s03 v0 = 0) && (decide (spE h1 w.s10 w.s11 w.s12 w.s13 v1 = 0) && (decide (spE h2 w.s20 w.s21 w.s22 w.s23 v2 = 0) && decide (spE h3 w.s30 w.s31 w.s32 w.s33 v3 = 0)))
@[irreducible] def ewN (e : Ew) (h0 h1 h2 h3 : Bool) (v0 v1 v2 v3 : Int) : Ew :=
 let q := rdB e.w h0 h1 h2 h3 v0 v1 v2 v3
 let a0 := spL h0 e.w.s00 e.w.s01 e.w.s02 e.w.s03 v0
 let a1 := spH h0 e.w.s00 e.w.s01 e.w.s02 e.w.s03 v0
 let a2 := spL h1 e.w.s10 e.w.s11 e.w.s12 e.w.s13 v1
 let a3 := spH h1 e.w.s10 e.w.s11 e.w.s12 e.w.s13 v1
 let a4 := spL h2 e.w.s20 e.w.s21 e.w.s22 e.w.s23 v2
 let a5 := spH h2 e.w.s20 e.w.s21 e.w.s22 e.w.s23 v2
 let a6 := spL h3 e.w.s30 e.w.s31 e.w.s32 e.w.s33 v3
 let a7 := spH h3 e.w.s30 e.w.s31 e.w.s32 e.w.s33 v3
 ⟨e.w, e.n, tkL e q a0 a1 a2 a3 a4 a5 a6 a7, tkH e q a0 a1 a2 a3 a4 a5 a6 a7, tkT e q a0 a1 a2 a3 a4 a5 a6 a7, tkG e q a0 a1 a2 a3 a4 a5 a6 a7⟩
@[irreducible] def ewE (e : Ew) (h0 h1 h2 h3 : Bool) (v0 v1 v2 v3 : Int) : Int :=
 tkE e (rdB e.w h0 h1 h2 h3 v0 v1 v2 v3) (spL h0 e.w.s00 e.w.s01 e.w.s02 e.w.s03 v0) (spH h0 e.w.s00 e.w.s01 e.w.s02 e.w.s03 v0) (spL h1 e.w.s10 e.w.s11 e.w.s12 e.w.s13 v1) (spH h1 e.w.s10 e.w.s11 e.w.s12 e.w.s13 v1)
  (spL h2 e.w.s20 e.w.s21 e.w.s22 e.w.s23 v2) (spH h2 e.w.s20 e.w.s21 e.w.s22 e.w.s23 v2) (spL h3 e.w.s30 e.w.s31 e.w.s32 e.w.s33 v3) (spH h3 e.w.s30 e.w.s31 e.w.s32 e.w.s33 v3)
theorem ew_five {e : Ew} (hk : EwOK e) : e.n = 5 := hk.chk.m
theorem ck1 {e : Ew} {a4 a5 : Int} (hk : EwOK e) (h : mxI (e.l 2) a4 <= mnI (e.h 2) a5) : ChkOK e.w.cel e.w.tn e.w.tl e.w.th e.n (t1L e a4) (t1H e a5) :=
 chk_up hk.chk (box_up2 hk.chk.bx (by unfold mxI; omega) h (by unfold mnI; omega))
theorem ck2 {w : Wt} {n : Nat} {L H : Nat -> Int} {c0 c1 a0 a1 : Int} (h : ChkOK w.cel w.tn w.tl w.th n L H) (hle : chL w n L H c0 c1 a0 <= chH w n L H c0 c1 a1) :
  ChkOK w.cel w.tn w.tl w.th n (upB 0 (chL w n L H c0 c1 a0) L) (upB 0 (chH w n L H c0 c1 a1) H) := by
 refine chk_up h (box_up0 h.bx ?_ hle ?_)
 ·unfold chL
  exact (fstZ_in _ _ _).1
 ·unfold chH
  have := (fstZ_in (pB w n L H c0 c1 a1) (H 0 - L 0 + 1).toNat (L 0)).2.1
  have := h.bx.q1
  omega
theorem ck3 {w : Wt} {n : Nat} {L H : Nat -> Int} {c0 c1 a0 a1 : Int} (h : ChkOK w.cel w.tn w.tl w.th n L H) (hle : rxL w n L H c0 c1 a1 <= rxH w n L H c0 c1 a0) :
  ChkOK w.cel w.tn w.tl w.th n (upB 1 (rxL w n L H c0 c1 a1) L) (upB 1 (rxH w n L H c0 c1 a0) H) := by
 refine chk_up h (box_up1 h.bx ?_ hle ?_)
 ·unfold rxL
  have := h.bx.x0
  omega
 ·unfold rxH
  have := h.bx.x2
  omega
theorem ck4 {w : Wt} {n : Nat} {L H : Nat -> Int} {c0 c1 : Int} (h : ChkOK w.cel w.tn w.tl w.th n L H) (hi : insV (-1048576) c0 c1 1048576 = true) :
  -2147483648 <= vbL w n (upB 1 0 L) (upB 1 0 H) c0 c1 /\ vbL w n (upB 1 0 L) (upB 1 0 H) c0 c1 <= 2147483648 /\ -2147483648 <= vbH w n (upB 1 0 L) (upB 1 0 H) c0 c1 /\ vbH w n (upB 1 0 L) (upB 1 0 H) c0 c1 <= 2147483648 :=
 vb_in (chk_up h (box_up1 h.bx (by decide) (by decide) (by decide))) hi
theorem ckI {e : Ew} {a2 a3 a6 a7 : Int} (hk : EwOK e) (h : inpW e.w a2 a3 a6 a7 = true) :
  insV (-1048576) (mxI e.w.cl a2) (mnI e.w.ch a3) 1048576 = true /\ insV 0 (in2 e.w a2 a3 a6) (in3 e.w a2 a3 a7) 400000 = true := by
 obtain ⟨_, _, _, g3, g4, _⟩ := wcB_iff.1 hk.wat
 obtain ⟨g3, g3', g3''⟩ := insV_iff.1 g3
 obtain ⟨g4, g4', g4''⟩ := insV_iff.1 g4
 unfold inpW at h
 rw [Bool.and_eq_true] at h
 obtain ⟨h1, h2⟩ := h
 have h2 := of_decide_eq_true h2
 have h1' := h1
 unfold inA at h1'
 have h1' := of_decide_eq_true h1'
 constructor
 ·unfold mxI mnI
  exact insV_iff.2 ⟨by omega, h1', by omega⟩
 ·unfold in2 in3
  rw [if_pos h1, if_pos h1]
  exact insV_iff.2 ⟨by omega, h2, by omega⟩
theorem sbE_far {w : Wt} {n : Nat} {L H : Nat -> Int} {il ih : Nat -> Int} (h : ChkOK w.cel w.tn w.tl w.th n L H) (h1 : insV (-1048576) (il 0) (ih 0) 1048576 = true) (h2 : insV 0 (il 1) (ih 1) 400000 = true) :
  sbE w.cel w.tn w.tl w.th n L H 2 il ih = if farB (widV w.cel w.tl w.th n L H) (il 0) (ih 0) = true then 0 else 4 := by
 have hc := chk_iff.2 h
 have hb : inpB 2 il ih = true := inpB_iff.2 ⟨rfl, h1, h2⟩
 cases hf : farB (widV w.cel w.tl w.th n L H) (il 0) (ih 0) with
 | true => rw [sbE_0 hc hb hf]; rfl
 | false => rw [sbE_4 hc hb hf]; rfl
theorem beh_in {a b c d r : Int} (h : sensOK a b c d = true) : -4398046511104 <= behLo a b c d r /\ behLo a b c d r <= 4398046511104 /\ -4398046511104 <= behHi a b c d r /\ behHi a b c d r <= 4398046511104 := by
 cases hr : readOK b c d r with
 | false =>
   obtain ⟨g1, g2, _⟩ := beh_5 h hr
   rw [g1, g2]; decide
 | true =>
   obtain ⟨g1, g2, _⟩ := beh_0 h hr
   rw [g1, g2]
   have h1 := sens_of h
   have hm1 := mul_div_le r b (by omega)
   have hm2 := mul_cdiv_le r b (by omega)
   simp [readOK] at hr
   generalize b * (r / b) = u at *
   generalize b * -(-r / b) = v at *
   refine ⟨?_, ?_, ?_, ?_⟩ <;> (split <;> omega)
theorem spL_t (a b c d r : Int) : spL true a b c d r = behLo a b c d r := by unfold spL; rfl
theorem spL_f (a b c d r : Int) : spL false a b c d r = -1099511627776 := by unfold spL; rfl
theorem spH_t (a b c d r : Int) : spH true a b c d r = behHi a b c d r := by unfold spH; rfl
theorem spH_f (a b c d r : Int) : spH false a b c d r = 1099511627776 := by unfold spH; rfl
theorem spE_t (a b c d r : Int) : spE true a b c d r = behE a b c d r := by unfold spE; rfl
theorem spE_f (a b c d r : Int) : spE false a b c d r = 0 := by unfold spE; rfl
theorem sp_in {h : Bool} {a b c d r : Int} (hs : sensOK a b c d = true) : -4398046511104 <= spL h a b c d r /\ spL h a b c d r <= 4398046511104 /\ -4398046511104 <= spH h a b c d r /\ spH h a b c d r <= 4398046511104 := by
 cases h with
 | true => rw [spL_t, spH_t]; exact beh_in hs
 | false => rw [spL_f, spH_f]; decide
theorem rd_no {e : Ew} {h0 h1 h2 h3 : Bool} {v0 v1 v2 v3 : Int} (h : ¬ ((spE h0 e.w.s00 e.w.s01 e.w.s02 e.w.s03 v0) = 0 /\ (spE h1 e.w.s10 e.w.s11 e.w.s12 e.w.s13 v1) = 0 /\ (spE h2 e.w.s20 e.w.s21 e.w.s22 e.w.s23 v2) = 0 /\ (spE h3 e.w.s30 e.w.s31 e.w.s32 e.w.s33 v3) = 0)) : rdB e.w h0 h1 h2 h3 v0 v1 v2 v3 = false := by
 cases hb : rdB e.w h0 h1 h2 h3 v0 v1 v2 v3 with
 | false => rfl
 | true => unfold rdB at hb; simp at hb; exact absurd hb h
theorem rd_yes {e : Ew} {k0 k1 k2 k3 : Bool} {v0 v1 v2 v3 : Int} (h0 : (spE k0 e.w.s00 e.w.s01 e.w.s02 e.w.s03 v0) = 0) (h1 : (spE k1 e.w.s10 e.w.s11 e.w.s12 e.w.s13 v1) = 0) (h2 : (spE k2 e.w.s20 e.w.s21 e.w.s22 e.w.s23 v2) = 0) (h3 : (spE k3 e.w.s30 e.w.s31 e.w.s32 e.w.s33 v3) = 0) : rdB e.w k0 k1 k2 k3 v0 v1 v2 v3 = true := by unfold rdB; simp [h0, h1, h2, h3]
theorem ew_gn {e : Ew} {h0 h1 h2 h3 : Bool} {v0 v1 v2 v3 : Int} (h : e.gn = true) : 21 = ewE e h0 h1 h2 h3 v0 v1 v2 v3 /\ (∀ j : Nat, j < e.n -> e.l j = (ewN e h0 h1 h2 h3 v0 v1 v2 v3).l j /\ e.h j = (ewN e h0 h1 h2 h3 v0 v1 v2 v3).h j) /\ e.tk = (ewN e h0 h1 h2 h3 v0 v1 v2 v3).tk /\ e.gn = (ewN e h0 h1 h2 h3 v0 v1 v2 v3).gn := by
 unfold ewE ewN tkE tkL tkH tkT tkG tkK; simp [h]
theorem ew_bad {e : Ew} {h0 h1 h2 h3 : Bool} {v0 v1 v2 v3 : Int} (h : e.gn = false) (hq : rdB e.w h0 h1 h2 h3 v0 v1 v2 v3 = false) : 2 = ewE e h0 h1 h2 h3 v0 v1 v2 v3 /\ (∀ j : Nat, j < e.n -> e.l j = (ewN e h0 h1 h2 h3 v0 v1 v2 v3).l j /\ e.h j = (ewN e h0 h1 h2 h3 v0 v1 v2 v3).h j) /\ e.tk = (ewN e h0 h1 h2 h3 v0 v1 v2 v3).tk /\ e.gn = (ewN e h0 h1 h2 h3 v0 v1 v2 v3).gn := by
 unfold ewE ewN tkE tkL tkH tkT tkG tkK; simp [h, hq]
theorem ew_lost {e : Ew} {h0 h1 h2 h3 : Bool} {v0 v1 v2 v3 : Int} (h : e.gn = false) (hq : rdB e.w h0 h1 h2 h3 v0 v1 v2 v3 = true) (hb : tlB e (spL h0 e.w.s00 e.w.s01 e.w.s02 e.w.s03 v0) (spH h0 e.w.s00 e.w.s01 e.w.s02 e.w.s03 v0) (spL h1 e.w.s10 e.w.s11 e.w.s12 e.w.s13 v1) (spH h1 e.w.s10 e.w.s11 e.w.s12 e.w.s13 v1) (spL h2 e.w.s20 e.w.s21 e.w.s22 e.w.s23 v2) (spH h2 e.w.s20 e.w.s21 e.w.s22 e.w.s23 v2) (spL h3 e.w.s30 e.w.s31 e.w.s32 e.w.s33 v3) (spH h3 e.w.s30 e.w.s31 e.w.s32 e.w.s33 v3) = false) : 21 = ewE e h0 h1 h2 h3 v0 v1 v2 v3 /\ (∀ j : Nat, j < e.n -> e.l j = (ewN e h0 h1 h2 h3 v0 v1 v2 v3).l j /\ e.h j = (ewN e h0 h1 h2 h3 v0 v1 v2 v3).h j) /\ e.tk = (ewN e h0 h1 h2 h3 v0 v1 v2 v3).tk /\ (ewN e h0 h1 h2 h3 v0 v1 v2 v3).gn = true := by
 unfold ewE ewN tkE tkL tkH tkT tkG tkK; simp [h, hq, hb]
theorem ew_far {e : Ew} {h0 h1 h2 h3 : Bool} {v0 v1 v2 v3 : Int} (h : e.gn = false) (hq : rdB e.w h0 h1 h2 h3 v0 v1 v2 v3 = true) (hb : tlB e (spL h0 e.w.s00 e.w.s01 e.w.s02 e.w.s03 v0) (spH h0 e.w.s00 e.w.s01 e.w.s02 e.w.s03 v0) (spL h1 e.w.s10 e.w.s11 e.w.s12 e.w.s13 v1) (spH h1 e.w.s10 e.w.s11 e.w.s12 e.w.s13 v1) (spL h2 e.w.s20 e.w.s21 e.w.s22 e.w.s23 v2) (spH h2 e.w.s20 e.w.s21 e.w.s22 e.w.s23 v2) (spL h3 e.w.s30 e.w.s31 e.w.s32 e.w.s33 v3) (spH h3 e.w.s30 e.w.s31 e.w.s32 e.w.s33 v3) = true) (hx : tlX e (spL h0 e.w.s00 e.w.s01 e.w.s02 e.w.s03 v0) (spH h0 e.w.s00 e.w.s01 e.w.s02 e.w.s03 v0) (spL h1 e.w.s10 e.w.s11 e.w.s12 e.w.s13 v1) (spH h1 e.w.s10 e.w.s11 e.w.s12 e.w.s13 v1) (spL h2 e.w.s20 e.w.s21 e.w.s22 e.w.s23 v2) (spH h2 e.w.s20 e.w.s21 e.w.s22 e.w.s23 v2) (spL h3 e.w.s30 e.w.s31 e.w.s32 e.w.s33 v3) (spH h3 e.w.s30 e.w.s31 e.w.s32 e.w.s33 v3) = 4) : 4 = ewE e h0 h1 h2 h3 v0 v1 v2 v3 /\ (∀ j : Nat, j < e.n -> e.l j = (ewN e h0 h1 h2 h3 v0 v1 v2 v3).l j /\ e.h j = (ewN e h0 h1 h2 h3 v0 v1 v2 v3).h j) /\ e.tk = (ewN e h0 h1 h2 h3 v0 v1 v2 v3).tk /\ e.gn = (ewN e h0 h1 h2 h3 v0 v1 v2 v3).gn := by
 unfold ewE ewN tkE tkL tkH tkT tkG tkK; simp [h, hq, hb, hx]
theorem ew_ok {e : Ew} {h0 h1 h2 h3 : Bool} {v0 v1 v2 v3 : Int} (h : e.gn = false) (hq : rdB e.w h0 h1 h2 h3 v0 v1 v2 v3 = true) (hb : tlB e (spL h0 e.w.s00 e.w.s01 e.w.s02 e.w.s03 v0) (spH h0 e.w.s00 e.w.s01 e.w.s02 e.w.s03 v0) (spL h1 e.w.s10 e.w.s11 e.w.s12 e.w.s13 v1) (spH h1 e.w.s10 e.w.s11 e.w.s12 e.w.s13 v1) (spL h2 e.w.s20 e.w.s21 e.w.s22 e.w.s23 v2) (spH h2 e.w.s20 e.w.s21 e.w.s22 e.w.s23 v2) (spL h3 e.w.s30 e.w.s31 e.w.s32 e.w.s33 v3) (spH h3 e.w.s30 e.w.s31 e.w.s32 e.w.s33 v3) = true) (hx : tlX e (spL h0 e.w.s00 e.w.s01 e.w.s02 e.w.s03 v0) (spH h0 e.w.s00 e.w.s01 e.w.s02 e.w.s03 v0) (spL h1 e.w.s10 e.w.s11 e.w.s12 e.w.s13 v1) (spH h1 e.w.s10 e.w.s11 e.w.s12 e.w.s13 v1) (spL h2 e.w.s20 e.w.s21 e.w.s22 e.w.s23 v2) (spH h2 e.w.s20 e.w.s21 e.w.s22 e.w.s23 v2) (spL h3 e.w.s30 e.w.s31 e.w.s32 e.w.s33 v3) (spH h3 e.w.s30 e.w.s31 e.w.s32 e.w.s33 v3) = 0) : 0 = ewE e h0 h1 h2 h3 v0 v1 v2 v3 /\ (∀ j : Nat, nbL (widV e.w.cel e.w.tl e.w.th e.n (t3L e (spL h0 e.w.s00 e.w.s01 e.w.s02 e.w.s03 v0) (spH h0 e.w.s00 e.w.s01 e.w.s02 e.w.s03 v0) (spL h1 e.w.s10 e.w.s11 e.w.s12 e.w.s13 v1) (spH h1 e.w.s10 e.w.s11 e.w.s12 e.w.s13 v1) (spL h2 e.w.s20 e.w.s21 e.w.s22 e.w.s23 v2) (spH h2 e.w.s20 e.w.s21 e.w.s22 e.w.s23 v2)) (t3H e (spL h0 e.w.s00 e.w.s01 e.w.s02 e.w.s03 v0) (spH h0 e.w.s00 e.w.s01 e.w.s02 e.w.s03 v0) (spL h1 e.w.s10 e.w.s11 e.w.s12 e.w.s13 v1) (spH h1 e.w.s10 e.w.s11 e.w.s12 e.w.s13 v1) (spL h2 e.w.s20 e.w.s21 e.w.s22 e.w.s23 v2) (spH h2 e.w.s20 e.w.s21 e.w.s22 e.w.s23 v2))) (mxI e.w.cl (spL h1 e.w.s10 e.w.s11 e.w.s12 e.w.s13 v1)) (mnI e.w.ch (spH h1 e.w.s10 e.w.s11 e.w.s12 e.w.s13 v1)) (in2 e.w (spL h1 e.w.s10 e.w.s11 e.w.s12 e.w.s13 v1) (spH h1 e.w.s10 e.w.s11 e.w.s12 e.w.s13 v1) (spL h3 e.w.s30 e.w.s31 e.w.s32 e.w.s33 v3)) (in3 e.w (spL h1 e.w.s10 e.w.s11 e.w.s12 e.w.s13 v1) (spH h1 e.w.s10 e.w.s11 e.w.s12 e.w.s13 v1) (spH h3 e.w.s30 e.w.s31 e.w.s32 e.w.s33 v3)) j = (ewN e h0 h1 h2 h3 v0 v1 v2 v3).l j /\ nbH (widV e.w.cel e.w.tl e.w.th e.n (t3L e (spL h0 e.w.s00 e.w.s01 e.w.s02 e.w.s03 v0) (spH h0 e.w.s00 e.w.s01 e.w.s02 e.w.s03 v0) (spL h1 e.w.s10 e.w.s11 e.w.s12 e.w.s13 v1) (spH h1 e.w.s10 e.w.s11 e.w.s12 e.w.s13 v1) (spL h2 e.w.s20 e.w.s21 e.w.s22 e.w.s23 v2) (spH h2 e.w.s20 e.w.s21 e.w.s22 e.w.s23 v2)) (t3H e (spL h0 e.w.s00 e.w.s01 e.w.s02 e.w.s03 v0) (spH h0 e.w.s00 e.w.s01 e.w.s02 e.w.s03 v0) (spL h1 e.w.s10 e.w.s11 e.w.s12 e.w.s13 v1) (spH h1 e.w.s10 e.w.s11 e.w.s12 e.w.s13 v1) (spL h2 e.w.s20 e.w.s21 e.w.s22 e.w.s23 v2) (spH h2 e.w.s20 e.w.s21 e.w.s22 e.w.s23 v2))) (mxI e.w.cl (spL h1 e.w.s10 e.w.s11 e.w.s12 e.w.s13 v1)) (mnI e.w.ch (spH h1 e.w.s10 e.w.s11 e.w.s12 e.w.s13 v1)) (in2 e.w (spL h1 e.w.s10 e.w.s11 e.w.s12 e.w.s13 v1) (spH h1 e.w.s10 e.w.s11 e.w.s12 e.w.s13 v1) (spL h3 e.w.s30 e.w.s31 e.w.s32 e.w.s33 v3)) (in3 e.w (spL h1 e.w.s10 e.w.s11 e.w.s12 e.w.s13 v1) (spH h1 e.w.s10 e.w.s11 e.w.s12 e.w.s13 v1) (spH h3 e.w.s30 e.w.s31 e.w.s32 e.w.s33 v3)) j = (ewN e h0 h1 h2 h3 v0 v1 v2 v3).h j) /\ e.tk + 1 = (ewN e h0 h1 h2 h3 v0 v1 v2 v3).tk /\ e.gn = (ewN e h0 h1 h2 h3 v0 v1 v2 v3).gn := by
 unfold ewE ewN tkE tkL tkH tkT tkG tkK; simp [h, hq, hb, hx]
theorem tlB_iff {e : Ew} {a0 a1 a2 a3 a4 a5 a6 a7 : Int} : tlB e a0 a1 a2 a3 a4 a5 a6 a7 = true ↔ inpW e.w a2 a3 a6 a7 = true /\ mxI (e.l 2) a4 <= mnI (e.h 2) a5 /\
  chL e.w e.n (t1L e a4) (t1H e a5) (mxI e.w.cl a2) (mnI e.w.ch a3) a0 <= chH e.w e.n (t1L e a4) (t1H e a5) (mxI e.w.cl a2) (mnI e.w.ch a3) a1 /\
  rxL e.w e.n (t2L e a0 a2 a3 a4 a5) (t2H e a1 a2 a3 a4 a5) (mxI e.w.cl a2) (mnI e.w.ch a3) a1 <= rxH e.w e.n (t2L e a0 a2 a3 a4 a5) (t2H e a1 a2 a3 a4 a5) (mxI e.w.cl a2) (mnI e.w.ch a3) a0 := by
 unfold tlB
 simp [upB_at, ile]
theorem tlB_no {e : Ew} {a0 a1 a2 a3 a4 a5 a6 a7 : Int} (h : ¬ tlB e a0 a1 a2 a3 a4 a5 a6 a7 = true) : tlB e a0 a1 a2 a3 a4 a5 a6 a7 = false := by
 cases hb : tlB e a0 a1 a2 a3 a4 a5 a6 a7 with
 | false => rfl
 | true => exact absurd hb h
theorem dec_r4 (a b c d : Int) : (decL [.int .i64, .int .i64] (rowAt 2 [.si .i64 a, .si .i64 b, .si .i64 c, .si .i64 d] 0)).1 = a /\ (decL [.int .i64, .int .i64] (rowAt 2 [.si .i64 a, .si .i64 b, .si .i64 c, .si .i64 d] 0)).2.1 = b /\
  (decL [.int .i64, .int .i64] (rowAt 2 [.si .i64 a, .si .i64 b, .si .i64 c, .si .i64 d] 1)).1 = c /\ (decL [.int .i64, .int .i64] (rowAt 2 [.si .i64 a, .si .i64 b, .si .i64 c, .si .i64 d] 1)).2.1 = d := ⟨rfl, rfl, rfl, rfl⟩
theorem tk_last {e NW : Ew} {EE a0 a1 a2 a3 a4 a5 a6 a7 : Int} (hk : EwOK e) (h5 : e.n = 5) (c1 : insV (-1048576) (mxI e.w.cl a2) (mnI e.w.ch a3) 1048576 = true) (c2 : insV 0 (in2 e.w a2 a3 a6) (in3 e.w a2 a3 a7) 400000 = true)
  (k3 : ChkOK e.w.cel e.w.tn e.w.tl e.w.th e.n (t3L e a0 a1 a2 a3 a4 a5) (t3H e a0 a1 a2 a3 a4 a5)) (HF : tlX e a0 a1 a2 a3 a4 a5 a6 a7 = 4 -> 4 = EE /\ (∀ j : Nat, j < e.n -> e.l j = NW.l j /\ e.h j = NW.h j) /\ e.tk = NW.tk /\ e.gn = NW.gn)
  (HK : tlX e a0 a1 a2 a3 a4 a5 a6 a7 = 0 -> 0 = EE /\ (∀ j : Nat, nbL (widV e.w.cel e.w.tl e.w.th e.n (t3L e a0 a1 a2 a3 a4 a5) (t3H e a0 a1 a2 a3 a4 a5)) (mxI e.w.cl a2) (mnI e.w.ch a3) (in2 e.w a2 a3 a6) (in3 e.w a2 a3 a7) j = NW.l j /\ nbH (widV e.w.cel e.w.tl e.w.th e.n (t3L e a0 a1 a2 a3 a4 a5) (t3H e a0 a1 a2 a3 a4 a5)) (mxI e.w.cl a2) (mnI e.w.ch a3) (in2 e.w a2 a3 a6) (in3 e.w a2 a3 a7) j = NW.h j) /\ e.tk + 1 = NW.tk /\ e.gn = NW.gn)
  {il ih : Nat -> Int} (i0 : il 0 = mxI e.w.cl a2) (i1 : ih 0 = mnI e.w.ch a3) (i2 : il 1 = in2 e.w a2 a3 a6) (i3 : ih 1 = in3 e.w a2 a3 a7) :
  (¬ sbE e.w.cel e.w.tn e.w.tl e.w.th e.n (t3L e a0 a1 a2 a3 a4 a5) (t3H e a0 a1 a2 a3 a4 a5) 2 il ih = 0 -> sbE e.w.cel e.w.tn e.w.tl e.w.th e.n (t3L e a0 a1 a2 a3 a4 a5) (t3H e a0 a1 a2 a3 a4 a5) 2 il ih = EE /\ (∀ j : Nat, j < e.n -> e.l j = NW.l j /\ e.h j = NW.h j) /\ e.tk = NW.tk /\ e.gn = NW.gn) /\ (sbE e.w.cel e.w.tn e.w.tl e.w.th e.n (t3L e a0 a1 a2 a3 a4 a5) (t3H e a0 a1 a2 a3 a4 a5) 2 il ih = 0 -> -9223372036854775808 <= e.tk + 1 /\ e.tk + 1 <= 9223372036854775807 /\ 0 = EE /\ sbN (sbE e.w.cel e.w.tn e.w.tl e.w.th e.n (t3L e a0 a1 a2 a3 a4 a5) (t3H e a0 a1 a2 a3 a4 a5) 2 il ih) = e.n /\
   (∀ j : Nat, j < e.n -> nbL (widV e.w.cel e.w.tl e.w.th e.n (t3L e a0 a1 a2 a3 a4 a5) (t3H e a0 a1 a2 a3 a4 a5)) (mxI e.w.cl a2) (mnI e.w.ch a3) (in2 e.w a2 a3 a6) (in3 e.w a2 a3 a7) j = NW.l j /\ nbH (widV e.w.cel e.w.tl e.w.th e.n (t3L e a0 a1 a2 a3 a4 a5) (t3H e a0 a1 a2 a3 a4 a5)) (mxI e.w.cl a2) (mnI e.w.ch a3) (in2 e.w a2 a3 a6) (in3 e.w a2 a3 a7) j = NW.h j) /\ e.tk + 1 = NW.tk /\ e.gn = NW.gn) := by
 have hS := sbE_far (il := il) (ih := ih) k3 (by rw [i0, i1]; exact c1) (by rw [i2, i3]; exact c2)
 rw [i0, i1] at hS
 have hX : sbE e.w.cel e.w.tn e.w.tl e.w.th e.n (t3L e a0 a1 a2 a3 a4 a5) (t3H e a0 a1 a2 a3 a4 a5) 2 il ih = tlX e a0 a1 a2 a3 a4 a5 a6 a7 := by unfold tlX; exact hS
 rw [hX]
 refine ⟨fun h => ?_, fun h => ?_⟩
 ·have h4 : tlX e a0 a1 a2 a3 a4 a5 a6 a7 = 4 := by
   unfold tlX at h ⊢
   split
   ·rename_i hf; rw [if_pos hf] at h; exact absurd rfl h
   ·rfl
  rw [h4]; exact HF h4
 ·obtain ⟨g1, g2, g3, g4⟩ := HK h
  have := hk.tk0
  have := hk.tk1
  exact ⟨by omega, by omega, g1, by rw [h, h5]; exact sbN_5 rfl, fun j _ => g2 j, g3, g4⟩
end
end Abs
end Go.Proofs.YtlabbaglbcmofaaGreat

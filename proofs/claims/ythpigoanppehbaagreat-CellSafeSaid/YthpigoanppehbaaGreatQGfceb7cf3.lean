/- A part of the proof: no statement of its own. -/
import Derived.Test.YthpigoanppehbaaGreatQG6cdd66e7
set_option linter.unusedSimpArgs false
set_option linter.unusedVariables false
/- Cells, by the program: the greatest safe currents. -/
namespace Go.Proofs.YthpigoanppehbaaGreat
namespace Abs
open Go Go.RowKit
noncomputable section
attribute [local irreducible] FnSat
@[reducible] def outCap : List Sh := [.ptr limCells, .ptr staCells, .ptr [.int .i64]]
def outS1 : Spec [vwSh, .int .i64, .ptr limCells, .ptr staCells, .ptr [.int .i64]] := ⟨fun (v, (i : Int), _, s, ((a : Int), _), _) => VwOK v ∧ staOf s = vwS v ∧ 0 ≤ i ∧ i ≤ 1048576 ∧ 0 ≤ a ∧ a ≤ 400000,
  fun (v, (i : Int), ((l : Int), (_ : Int), (_ : Int), (_ : Int), (h : Int), _), _, ((a : Int), _), _) => .sb (outP (vwC v) (vwS v) l h a i)⟩
set_option maxRecDepth 100000 in
set_option maxHeartbeats 2000000 in
theorem out_ok1 : FnSpec Tryz.prog 78 _ outS1 := by
  refine FnSpec.of SMa_ok mixed (U := 0) (I := fun _ => []) Tryz.func78 rfl (by kernel_rfl) rfl rfl (by decide +kernel) ?_
  rintro ⟨v, (i : Int), ⟨(l : Int), (m : Int), (o : Int), (k : Int), (h : Int), ⟨⟩⟩, s', ⟨(a : Int), ⟨⟩⟩, ⟨⟩⟩ ⟨hv, hs', (i1 : 0 ≤ i), (i2 : i ≤ 1048576), (a1 : 0 ≤ a), (a2 : a ≤ 400000)⟩
  obtain ⟨c, s, rfl, h1, h2⟩ := vw_ex (show VwOK v from hv)
  obtain ⟨s', rfl⟩ := sta_ex s'
  have e1 := vwC_D c s
  have e2 := vwS_D c s
  obtain rfl : s' = s := by rw [e2] at hs'; exact (staOf_D s').symm.trans hs'
  unfold FnSat
  conv => arg 2; reduce
  simp [outS1, vvoltS, vnextS, e1, e2, and_assoc]
  have hk := celB_iff.1 h1
  have := hk.lk0
  have := hk.lk1
  exact ⟨vw_ok h1 h2, by omega, i2, fun _ => by omega, fun _ _ => ⟨vw_ok h1 h2, by omega, i2, a1, a2⟩, by unfold outP; rfl⟩
def inS1 : Spec [vwSh, .int .i64, .ptr [.int .i64], .ptr limCells, .ptr staCells] := ⟨fun (v, (i : Int), ((a : Int), _), _, s, _) => VwOK v ∧ staOf s = vwS v ∧ 0 ≤ i ∧ i ≤ 1048576 ∧ 0 ≤ a ∧ a ≤ 400000,
  fun (v, (i : Int), ((a : Int), _), ((_ : Int), (m : Int), (_ : Int), (_ : Int), (h : Int), _), _) => .sb (inP (vwC v) (vwS v) m h a i)⟩
set_option maxRecDepth 100000 in
set_option maxHeartbeats 2000000 in
theorem in_ok1 : FnSpec Tryz.prog 81 _ inS1 := by
  refine FnSpec.of SMa_ok mixed (U := 0) (I := fun _ => []) Tryz.func81 rfl (by kernel_rfl) rfl rfl (by decide +kernel) ?_
  rintro ⟨v, (i : Int), ⟨(a : Int), ⟨⟩⟩, ⟨(l : Int), (m : Int), (o : Int), (k : Int), (h : Int), ⟨⟩⟩, s', ⟨⟩⟩ ⟨hv, hs', (i1 : 0 ≤ i), (i2 : i ≤ 1048576), (a1 : 0 ≤ a), (a2 : a ≤ 400000)⟩
  obtain ⟨c, s, rfl, h1, h2⟩ := vw_ex (show VwOK v from hv)
  obtain ⟨s', rfl⟩ := sta_ex s'
  have e1 := vwC_D c s
  have e2 := vwS_D c s
  obtain rfl : s' = s := by rw [e2] at hs'; exact (staOf_D s').symm.trans hs'
  unfold FnSat
  conv => arg 2; reduce
  simp [inS1, vvoltS, vnextS, wearS, roomS, e1, e2, and_assoc]
  have hk := celB_iff.1 h1
  have := hk.lk0
  have := hk.lk1
  have q1 := q_in h2
  have k1 := kV_in h1 h2
  have vs := sc_val hk.stress s'.tp
  have := h2.h0
  have := h2.h1
  have := h2.a0
  have := h2.a1
  have hH : nxH s' (-i) = s'.th + max (-i) (- -i) := by unfold nxH; rfl
  have hA : nxA c s' = s'.ag + valL c.stress s'.tp := by unfold nxA; rfl
  have hw : WearOK c (nxH s' (-i)) (nxA c s') := ⟨hk.cy0, hk.cy1, hk.al0, hk.al1, by omega, by omega, by omega, by omega⟩
  have hw2 := wearV_in hw
  exact ⟨by omega, by omega, vw_ok h1 h2, by omega, by omega, a1, a2, hw, by have := hk.cap0; omega, hk.cap1, by omega, by omega, by omega, by omega, vw_ok h1 h2, by omega, by omega, fun _ _ => by omega, fun _ _ => by omega, by unfold inP; rfl⟩
@[reducible] def inCap : List Sh := [.ptr [.int .i64], .ptr limCells, .ptr staCells]
structure BsInv (p : Int → Bool) (most lo hi : Int) : Prop where
  a : 0 ≤ lo
  b : lo ≤ hi
  c : hi ≤ most
  d : p lo = true
  e : ∀ i, hi < i → i ≤ most → p i = false
@[irreducible] def grV (p : Int → Bool) (most : Int) : Int := if p 0 = true then grI p most else 0
@[irreducible] def grE (p : Int → Bool) : Int := if p 0 = true then 0 else 17
@[irreducible] def mgE (lb : Bool) (a : Int) (p : Int → Bool) : Int := if lb = true then (if isIn 0 a 400000 = true then grE p else 3) else 2
@[irreducible] def mgV (lb : Bool) (a : Int) (p : Int → Bool) (most : Int) : Int := if lb = true then (if isIn 0 a 400000 = true then grV p most else 0) else 0
theorem mid_in {lo hi : Int} (h : lo < hi) : lo < (lo + hi + 1).tdiv 2 ∨ lo + hi + 1 < 0 := by
  rcases Int.lt_or_le (lo + hi + 1) 0 with h1 | h1
  · exact .inr h1
  · rw [Int.tdiv_eq_ediv_of_nonneg h1]; omega
noncomputable def SMb : Sums := ⟨(81, mkSum _ inS1) :: (78, mkSum _ outS1) :: SMa.one, SMa.two, SMa.lo, SMa.eqs, SMa.its, SMa.imm⟩
theorem SMb_ok : SumsOK Tryz.prog SMb := ((SMa_ok.cons Tryz.func78 (by kernel_rfl) (by kernel_rfl) out_ok1).cons Tryz.func81 (by kernel_rfl) (by kernel_rfl) in_ok1)
def outs11 : Spec [.int .i64, .ptr [.fn 78 [] outCap], .ptr vwCells] := ⟨fun ((i : Int), ((_, ((l : Int), (_ : Int), (_ : Int), (_ : Int), (h : Int), _), s, ((a : Int), _), _), _), v, _) => VwOK v ∧ staOf s = vwS v ∧ 0 ≤ i ∧ i ≤ 1048576 ∧ 0 ≤ a ∧ a ≤ 400000, fun ((i : Int), ((_, ((l : Int), (_ : Int), (_ : Int), (_ : Int), (h : Int), _), s, ((a : Int), _), _), _), v, _) => .sb (outP (vwC v) (vwS v) l h a i)⟩
set_option maxRecDepth 100000 in
set_option maxHeartbeats 2000000 in
theorem outs11_ok : FnSpec Tryz.prog 116 _ outs11 := by
  refine FnSpec.of SMb_ok mixed (U := 0) (I := fun _ => []) Tryz.func116 rfl (by kernel_rfl) rfl rfl (by decide +kernel) ?_
  rintro ⟨(i : Int), ⟨⟨y, ⟨(l : Int), (m : Int), (o : Int), (k : Int), (h : Int), ⟨⟩⟩, s', ⟨(a : Int), ⟨⟩⟩, ⟨⟩⟩, ⟨⟩⟩, v, ⟨⟩⟩ ⟨hv, hs', (i1 : 0 ≤ i), (i2 : i ≤ 1048576), (a1 : 0 ≤ a), (a2 : a ≤ 400000)⟩
  obtain ⟨c, s, rfl, h1, h2⟩ := vw_ex (show VwOK v from hv)
  obtain ⟨s', rfl⟩ := sta_ex s'
  have e1 := vwC_D c s
  have e2 := vwS_D c s
  obtain rfl : s' = s := by rw [e2] at hs'; exact (staOf_D s').symm.trans hs'
  unfold FnSat
  conv => arg 2; reduce
  simp [outs11, outS1, e1, e2, and_assoc]
  exact ⟨vw_ok h1 h2, i1, i2, a1, a2⟩
def ins11 : Spec [.int .i64, .ptr [.fn 81 [] inCap], .ptr vwCells] := ⟨fun ((i : Int), ((_, ((a : Int), _), ((_ : Int), (l : Int), (_ : Int), (_ : Int), (h : Int), _), s, _), _), v, _) => VwOK v ∧ staOf s = vwS v ∧ 0 ≤ i ∧ i ≤ 1048576 ∧ 0 ≤ a ∧ a ≤ 400000, fun ((i : Int), ((_, ((a : Int), _), ((_ : Int), (l : Int), (_ : Int), (_ : Int), (h : Int), _), s, _), _), v, _) => .sb (inP (vwC v) (vwS v) l h a i)⟩
set_option maxRecDepth 100000 in
set_option maxHeartbeats 2000000 in
theorem ins11_ok : FnSpec Tryz.prog 116 _ ins11 := by
  refine FnSpec.of SMb_ok mixed (U := 0) (I := fun _ => []) Tryz.func116 rfl (by kernel_rfl) rfl rfl (by decide +kernel) ?_
  rintro ⟨(i : Int), ⟨⟨y, ⟨(a : Int), ⟨⟩⟩, ⟨(m : Int), (l : Int), (o : Int), (k : Int), (h : Int), ⟨⟩⟩, s', ⟨⟩⟩, ⟨⟩⟩, v, ⟨⟩⟩ ⟨hv, hs', (i1 : 0 ≤ i), (i2 : i ≤ 1048576), (a1 : 0 ≤ a), (a2 : a ≤ 400000)⟩
  obtain ⟨c, s, rfl, h1, h2⟩ := vw_ex (show VwOK v from hv)
  obtain ⟨s', rfl⟩ := sta_ex s'
  have e1 := vwC_D c s
  have e2 := vwS_D c s
  obtain rfl : s' = s := by rw [e2] at hs'; exact (staOf_D s').symm.trans hs'
  unfold FnSat
  conv => arg 2; reduce
  simp [ins11, inS1, e1, e2, and_assoc]
  exact ⟨vw_ok h1 h2, i1, i2, a1, a2⟩
noncomputable def SMc : Sums := ⟨(116, (altSum (mkSum _ outs11) (mkSum _ ins11))) :: SMb.one, SMb.two, SMb.lo, SMb.eqs, SMb.its, SMb.imm⟩
theorem SMc_ok : SumsOK Tryz.prog SMc := (SMb_ok.add Tryz.func116 (by kernel_rfl) (by kernel_rfl) (altSum_ok (mkSum_ok outs11_ok) (mkSum_ok ins11_ok)))
theorem bs_fin {p : Int → Bool} {most lo hi : Int} (h : BsInv p most lo hi) (hm : Mono p most) (hh : hi ≤ lo) : lo = grV p most ∧ 0 = grE p := by
  have := h.a
  have := h.b
  have := h.c
  have e := grI_uniq hm h.a (by omega) h.d fun hl => h.e (lo + 1) (by omega) (by omega)
  unfold grV grE
  rw [if_pos hm.p0, if_pos hm.p0, e]
  exact ⟨rfl, rfl⟩
theorem bs_up {p : Int → Bool} {most lo hi m : Int} (h : BsInv p most lo hi) (h1 : lo < m) (h2 : m ≤ hi) (hp : p m = true) : BsInv p most m hi := ⟨by have := h.a; omega, h2, h.c, hp, h.e⟩
theorem bs_dn {p : Int → Bool} {most lo hi m : Int} (h : BsInv p most lo hi) (hm : Mono p most) (h1 : lo < m) (h2 : m ≤ hi) (hp : p m = false) : BsInv p most lo (m - 1) :=
  ⟨h.a, by omega, by have := h.c; omega, h.d, fun i i1 i2 => by
    cases hi : p i with
    | false => rfl
    | true =>
      have := hm.dn m i (by have := h.a; omega) (by omega) i2 hi
      rw [hp] at this; cases this⟩
theorem mid_b {lo hi : Int} (h0 : 0 ≤ lo) (h : lo < hi) : lo < (lo + hi + 1).tdiv 2 ∧ (lo + hi + 1).tdiv 2 ≤ hi := by
  rw [Int.tdiv_eq_ediv_of_nonneg (by omega)]; omega
theorem gr_no {p : Int → Bool} {most : Int} (h : p 0 = false) : 0 = grV p most ∧ 17 = grE p := by
  unfold grV grE
  rw [h]; simp
def outgr : Spec [.int .i64, .fn 116 [] [.ptr [.fn 78 [] outCap], .ptr vwCells]] := ⟨fun ((most : Int), (_, ((_, ((l : Int), (_ : Int), (_ : Int), (_ : Int), (h : Int), _), s, ((a : Int), _), _), _), v, _), _) => VwOK v ∧ staOf s = vwS v ∧ 0 ≤ most ∧ most ≤ 1048576 ∧ 0 ≤ a ∧ a ≤ 400000,
  fun ((most : Int), (_, ((_, ((l : Int), (_ : Int), (_ : Int), (_ : Int), (h : Int), _), s, ((a : Int), _), _), _), v, _), _) => .tup [.si .i64 (grV (outP (vwC v) (vwS v) l h a) most), .si .i64 (grE (outP (vwC v) (vwS v) l h a))]⟩
def outgrI : DatL [.int .i64, .fn 116 [] [.ptr [.fn 78 [] outCap], .ptr vwCells]] → Anns := fun ((most : Int), (_, ((_, ((l : Int), (_ : Int), (_ : Int), (_ : Int), (h : Int), _), s, ((a : Int), _), _), _), v, _), _) => [
  (4, [], fun fr hp => ⟨Int × Int, fun (lo, hi) => ⟨frI [.k 6, .s (.si .i64 lo), .s (.si .i64 hi), .t 1, .k 4, .t 14, .k 1] fr, hp⟩, (Int → Bool) × Int × Int × Int, fun (lo, hi) => (outP (vwC v) (vwS v) l h a, most, lo, hi), fun (p, most, lo, hi) => BsInv p most lo hi, fun (lo, hi) => nat (isub hi lo)⟩)]
set_option maxRecDepth 100000 in
set_option maxHeartbeats 2000000 in
theorem outgr_ok : FnSpec Tryz.prog 47 _ outgr := by
  refine FnSpec.of SMc_ok mixed (U := 0) (I := outgrI) Tryz.func47 rfl (by kernel_rfl) rfl rfl (by decide +kernel) ?_
  rintro ⟨(most : Int), ⟨y, ⟨⟨z, ⟨(l : Int), (m : Int), (o : Int), (k : Int), (h : Int), ⟨⟩⟩, s', ⟨(a : Int), ⟨⟩⟩, ⟨⟩⟩, ⟨⟩⟩, v, ⟨⟩⟩, ⟨⟩⟩ ⟨hv, hs', (m1 : 0 ≤ most), (m2 : most ≤ 1048576), (a1 : 0 ≤ a), (a2 : a ≤ 400000)⟩
  obtain ⟨c, s, rfl, h1, h2⟩ := vw_ex (show VwOK v from hv)
  obtain ⟨s', rfl⟩ := sta_ex s'
  have e1 := vwC_D c s
  have e2 := vwS_D c s
  obtain rfl : s' = s := by rw [e2] at hs'; exact (staOf_D s').symm.trans hs'
  unfold FnSat
  conv => arg 2; reduce
  simp [-Bool.forall_bool, outgr, outs11, e1, e2, and_assoc]
  refine ⟨vw_ok h1 h2, a1, a2, gr_no, fun hp => ?_⟩
  have hm := out_mono (a := a) h1 m1 hp
  refine ⟨⟨by omega, by omega, by omega, hp, fun i j1 j2 => by omega⟩, fun lo hi hb => ⟨fun hlt => ?_, fun hge => bs_fin hb hm hge⟩⟩
  have q1 := hb.a
  have q2 := hb.c
  have md := mid_b q1 hlt
  exact ⟨by omega, by omega, by omega, by omega, by omega, by omega, vw_ok h1 h2, by omega, by omega, a1, a2, fun hq => ⟨bs_up hb md.1 md.2 hq, by omega⟩, fun hq => ⟨by omega, by omega, bs_dn hb hm md.1 md.2 hq, by omega⟩⟩
def ingr : Spec [.int .i64, .fn 116 [] [.ptr [.fn 81 [] inCap], .ptr vwCells]] := ⟨fun ((most : Int), (_, ((_, ((a : Int), _), ((_ : Int), (l : Int), (_ : Int), (_ : Int), (h : Int), _), s, _), _), v, _), _) => VwOK v ∧ staOf s = vwS v ∧ 0 ≤ most ∧ most ≤ 1048576 ∧ 0 ≤ a ∧ a ≤ 400000,
  fun ((most : Int), (_, ((_, ((a : Int), _), ((_ : Int), (l : Int), (_ : Int), (_ : Int), (h : Int), _), s, _), _), v, _), _) => .tup [.si .i64 (grV (inP (vwC v) (vwS v) l h a) most), .si .i64 (grE (inP (vwC v) (vwS v) l h a))]⟩
def ingrI : DatL [.int .i64, .fn 116 [] [.ptr [.fn 81 [] inCap], .ptr vwCells]] → Anns := fun ((most : Int), (_, ((_, ((a : Int), _), ((_ : Int), (l : Int), (_ : Int), (_ : Int), (h : Int), _), s, _), _), v, _), _) => [
  (4, [], fun fr hp => ⟨Int × Int, fun (lo, hi) => ⟨frI [.k 6, .s (.si .i64 lo), .s (.si .i64 hi), .t 1, .k 4, .t 14, .k 1] fr, hp⟩, (Int → Bool) × Int × Int × Int, fun (lo, hi) => (inP (vwC v) (vwS v) l h a, most, lo, hi), fun (p, most, lo, hi) => BsInv p most lo hi, fun (lo, hi) => nat (isub hi lo)⟩)]
set_option maxRecDepth 100000 in
set_option maxHeartbeats 2000000 in
theorem ingr_ok : FnSpec Tryz.prog 47 _ ingr := by
  refine FnSpec.of SMc_ok mixed (U := 0) (I := ingrI) Tryz.func47 rfl (by kernel_rfl) rfl rfl (by decide +kernel) ?_
  rintro ⟨(most : Int), ⟨y, ⟨⟨z, ⟨(a : Int), ⟨⟩⟩, ⟨(m : Int), (l : Int), (o : Int), (k : Int), (h : Int), ⟨⟩⟩, s', ⟨⟩⟩, ⟨⟩⟩, v, ⟨⟩⟩, ⟨⟩⟩ ⟨hv, hs', (m1 : 0 ≤ most), (m2 : most ≤ 1048576), (a1 : 0 ≤ a), (a2 : a ≤ 400000)⟩
  obtain ⟨c, s, rfl, h1, h2⟩ := vw_ex (show VwOK v from hv)
  obtain ⟨s', rfl⟩ := sta_ex s'
  have e1 := vwC_D c s
  have e2 := vwS_D c s
  obtain rfl : s' = s := by rw [e2] at hs'; exact (staOf_D s').symm.trans hs'
  unfold FnSat
  conv => arg 2; reduce
  simp [-Bool.forall_bool, ingr, ins11, e1, e2, and_assoc]
  refine ⟨vw_ok h1 h2, a1, a2, gr_no, fun hp => ?_⟩
  have hm := in_mono (a := a) h1 m1 hp
  refine ⟨⟨by omega, by omega, by omega, hp, fun i j1 j2 => by omega⟩, fun lo hi hb => ⟨fun hlt => ?_, fun hge => bs_fin hb hm hge⟩⟩
  have q1 := hb.a
  have q2 := hb.c
  have md := mid_b q1 hlt
  exact ⟨by omega, by omega, by omega, by omega, by omega, by omega, vw_ok h1 h2, by omega, by omega, a1, a2, fun hq => ⟨bs_up hb md.1 md.2 hq, by omega⟩, fun hq => ⟨by omega, by omega, bs_dn hb hm md.1 md.2 hq, by omega⟩⟩
noncomputable def SMd : Sums := ⟨(47, (altSum (mkSum _ outgr) (mkSum _ ingr))) :: SMc.one, SMc.two, SMc.lo, SMc.eqs, SMc.its, SMc.imm⟩
theorem SMd_ok : SumsOK Tryz.prog SMd := (SMc_ok.add Tryz.func47 (by kernel_rfl) (by kernel_rfl) (altSum_ok (mkSum_ok outgr_ok) (mkSum_ok ingr_ok)))
theorem mg_no {lb : Bool} {a most : Int} {p : Int → Bool} (h : lb = false) : 0 = mgV lb a p most ∧ errA lb = mgE lb a p := by
  unfold mgV mgE
  subst h
  simp [errA]
theorem mg_amb {lb : Bool} {a most : Int} {p : Int → Bool} (h : lb = true) (ha : a < 0 ∨ 400000 < a) : 0 = mgV lb a p most ∧ 3 = mgE lb a p := by
  have : isIn 0 a 400000 = false := by
    cases hb : isIn 0 a 400000 with
    | false => rfl
    | true => simp at hb; omega
  unfold mgV mgE
  subst h
  rw [this]
  simp
theorem mg_yes {lb : Bool} {a most : Int} {p : Int → Bool} (h : lb = true) (a1 : 0 ≤ a) (a2 : a ≤ 400000) : grV p most = mgV lb a p most ∧ grE p = mgE lb a p := by
  have : isIn 0 a 400000 = true := by simp [a1, a2]
  unfold mgV mgE
  subst h
  rw [this]
  simp
def outse : Spec [vwSh, .ptr limCells, .ptr [.int .i64], .ptr [.int .i64], .ptr [.fn 78 [] outCap]] := ⟨fun (v, L, ((a' : Int), _), ((most : Int), _), ((_, ((l : Int), (m : Int), (o : Int), (k : Int), (h : Int), _), s, ((a : Int), _), _), _), _) => VwOK v ∧ staOf s = vwS v ∧ L = (l, m, o, k, h, ()) ∧ a' = a ∧ most = o,
  fun (v, ((l : Int), (m : Int), (o : Int), (k : Int), (h : Int), _), ((a : Int), _), ((most : Int), _), _, _) => .tup [.si .i64 (mgV (limB l m o k h) a (outP (vwC v) (vwS v) l h a) most), .si .i64 (mgE (limB l m o k h) a (outP (vwC v) (vwS v) l h a))]⟩
set_option maxRecDepth 100000 in
set_option maxHeartbeats 2000000 in
theorem outse_ok : FnSpec Tryz.prog 115 _ outse := by
  refine FnSpec.of SMd_ok mixed (U := 0) (I := fun _ => []) Tryz.func115 rfl (by kernel_rfl) rfl rfl (by decide +kernel) ?_
  rintro ⟨v, L, ⟨(a' : Int), ⟨⟩⟩, ⟨(most : Int), ⟨⟩⟩, ⟨⟨z, ⟨(l : Int), (m : Int), (o : Int), (k : Int), (h : Int), ⟨⟩⟩, s', ⟨(a : Int), ⟨⟩⟩, ⟨⟩⟩, ⟨⟩⟩, ⟨⟩⟩ ⟨hv, hs', hL, ha, hmost⟩
  obtain ⟨c, s, rfl, h1, h2⟩ := vw_ex (show VwOK v from hv)
  obtain ⟨s', rfl⟩ := sta_ex s'
  have e1 := vwC_D c s
  have e2 := vwS_D c s
  obtain rfl : s' = s := by rw [e2] at hs'; exact (staOf_D s').symm.trans hs'
  obtain rfl : L = (l, m, o, k, h, ()) := hL
  obtain rfl : a' = a := ha
  obtain rfl : most = o := hmost
  unfold FnSat
  conv => arg 2; reduce
  simp [-Bool.forall_bool, outse, outgr, limS, betS, e1, e2, and_assoc]
  refine ⟨fun hb => mg_no hb, fun hb => ⟨fun ha => mg_amb hb ha, fun a1 a2 => ?_⟩⟩
  have := limB_iff.1 hb
  exact ⟨vw_ok h1 h2, by omega, by omega, a1, a2, (mg_yes hb a1 a2).1, (mg_yes (most := 0) hb a1 a2).2⟩
def inse : Spec [vwSh, .ptr limCells, .ptr [.int .i64], .ptr [.int .i64], .ptr [.fn 81 [] inCap]] := ⟨fun (v, L, ((a' : Int), _), ((most : Int), _), ((_, ((a : Int), _), ((l : Int), (m : Int), (o : Int), (k : Int), (h : Int), _), s, _), _), _) => VwOK v ∧ staOf s = vwS v ∧ L = (l, m, o, k, h, ()) ∧ a' = a ∧ most = k,
  fun (v, ((l : Int), (m : Int), (o : Int), (k : Int), (h : Int), _), ((a : Int), _), ((most : Int), _), _, _) => .tup [.si .i64 (mgV (limB l m o k h) a (inP (vwC v) (vwS v) m h a) most), .si .i64 (mgE (limB l m o k h) a (inP (vwC v) (vwS v) m h a))]⟩
set_option maxRecDepth 100000 in
set_option maxHeartbeats 2000000 in
theorem inse_ok : FnSpec Tryz.prog 115 _ inse := by
  refine FnSpec.of SMd_ok mixed (U := 0) (I := fun _ => []) Tryz.func115 rfl (by kernel_rfl) rfl rfl (by decide +kernel) ?_
  rintro ⟨v, L, ⟨(a' : Int), ⟨⟩⟩, ⟨(most : Int), ⟨⟩⟩, ⟨⟨z, ⟨(a : Int), ⟨⟩⟩, ⟨(l : Int), (m : Int), (o : Int), (k : Int), (h : Int), ⟨⟩⟩, s', ⟨⟩⟩, ⟨⟩⟩, ⟨⟩⟩ ⟨hv, hs', hL, ha, hmost⟩
  obtain ⟨c, s, rfl, h1, h2⟩ := vw_ex (show VwOK v from hv)
  obtain ⟨s', rfl⟩ := sta_ex s'
  have e1 := vwC_D c s
  have e2 := vwS_D c s
  obtain rfl : s' = s := by rw [e2] at hs'; exact (staOf_D s').symm.trans hs'
  obtain rfl : L = (l, m, o, k, h, ()) := hL
  obtain rfl : a' = a := ha
  obtain rfl : most = k := hmost
  unfold FnSat
  conv => arg 2; reduce
  simp [-Bool.forall_bool, inse, ingr, limS, betS, e1, e2, and_assoc]
  refine ⟨fun hb => mg_no hb, fun hb => ⟨fun ha => mg_amb hb ha, fun a1 a2 => ?_⟩⟩
  have := limB_iff.1 hb
  exact ⟨vw_ok h1 h2, by omega, by omega, a1, a2, (mg_yes hb a1 a2).1, (mg_yes (most := 0) hb a1 a2).2⟩
noncomputable def SMe : Sums := ⟨(115, (altSum (mkSum _ outse) (mkSum _ inse))) :: SMd.one, SMd.two, SMd.lo, SMd.eqs, SMd.its, SMd.imm⟩
theorem SMe_ok : SumsOK Tryz.prog SMe := (SMd_ok.add Tryz.func115 (by kernel_rfl) (by kernel_rfl) (altSum_ok (mkSum_ok outse_ok) (mkSum_ok inse_ok)))
end
end Abs
end Go.Proofs.YthpigoanppehbaaGreat

/- Cells, by the program: the greatest safe currents, asked. -/
namespace Go.Proofs.YthpigoanppehbaaGreat
namespace Abs
open Go Go.RowKit
noncomputable section
attribute [local irreducible] FnSat
def outas : Spec [celSh, staSh, .fn 115 [] [.ptr limCells, .ptr [.int .i64], .ptr [.int .i64], .ptr [.fn 78 [] outCap]]] := ⟨fun (c, s0, (_, L, ((a' : Int), _), ((most : Int), _), ((_, ((l : Int), (m : Int), (o : Int), (k : Int), (h : Int), _), s, ((a : Int), _), _), _), _), _) => CelMax (celOf c) ∧ staOf s = staOf s0 ∧ L = (l, m, o, k, h, ()) ∧ a' = a ∧ most = o,
  fun (c, s0, (_, ((l : Int), (m : Int), (o : Int), (k : Int), (h : Int), _), ((a : Int), _), ((most : Int), _), _, _), _) => .tup [.si .i64 (aV (celOf c) (staOf s0) (mgV (limB l m o k h) a (outP (celOf c) (staOf s0) l h a) most)), .si .i64 (aE (celOf c) (staOf s0) (mgE (limB l m o k h) a (outP (celOf c) (staOf s0) l h a)))]⟩
set_option maxRecDepth 100000 in
set_option maxHeartbeats 20000000 in
theorem outas_ok : FnSpec Tryz.prog 71 _ outas := by
  refine FnSpec.of SMe_ok mixed (U := 0) (I := fun _ => []) Tryz.func71 rfl (by kernel_rfl) rfl rfl (by decide +kernel) ?_
  rintro ⟨c, s, ⟨y, L, ⟨(a' : Int), ⟨⟩⟩, ⟨(most : Int), ⟨⟩⟩, ⟨⟨z, ⟨(l : Int), (m : Int), (o : Int), (k : Int), (h : Int), ⟨⟩⟩, s', ⟨(a : Int), ⟨⟩⟩, ⟨⟩⟩, ⟨⟩⟩, ⟨⟩⟩, ⟨⟩⟩ ⟨hpre, hs', hL, ha, hmost⟩
  obtain ⟨c, rfl⟩ := cel_ex c
  obtain ⟨s, rfl⟩ := sta_ex s
  obtain ⟨s', rfl⟩ := sta_ex s'
  have hpre : CelMax c := by have : CelMax (celOf (celD c)) := hpre; rwa [celOf_D] at this
  obtain rfl : s' = s := by have : staOf (staD s') = staOf (staD s) := hs'; rwa [staOf_D, staOf_D] at this
  obtain rfl : L = (l, m, o, k, h, ()) := hL
  obtain rfl : a' = a := ha
  obtain rfl : most = o := hmost
  have e1 := vwC_D c s'
  have e2 := vwS_D c s'
  unfold FnSat
  conv => arg 2; reduce
  simp [-Bool.forall_bool, outas, cstS, lookF, outse, e1, e2, and_assoc]
  refine ⟨hpre, fun h => ⟨(aV_no h).symm, (aE_no h).symm⟩, fun h => ?_⟩
  have k := csE_iff.1 h
  exact ⟨k.1, k.2, vw_ok k.1 k.2, (aV_yes h).symm, (aE_yes h).symm⟩
def inas : Spec [celSh, staSh, .fn 115 [] [.ptr limCells, .ptr [.int .i64], .ptr [.int .i64], .ptr [.fn 81 [] inCap]]] := ⟨fun (c, s0, (_, L, ((a' : Int), _), ((most : Int), _), ((_, ((a : Int), _), ((l : Int), (m : Int), (o : Int), (k : Int), (h : Int), _), s, _), _), _), _) => CelMax (celOf c) ∧ staOf s = staOf s0 ∧ L = (l, m, o, k, h, ()) ∧ a' = a ∧ most = k,
  fun (c, s0, (_, ((l : Int), (m : Int), (o : Int), (k : Int), (h : Int), _), ((a : Int), _), ((most : Int), _), _, _), _) => .tup [.si .i64 (aV (celOf c) (staOf s0) (mgV (limB l m o k h) a (inP (celOf c) (staOf s0) m h a) most)), .si .i64 (aE (celOf c) (staOf s0) (mgE (limB l m o k h) a (inP (celOf c) (staOf s0) m h a)))]⟩
set_option maxRecDepth 100000 in
set_option maxHeartbeats 20000000 in
theorem inas_ok : FnSpec Tryz.prog 71 _ inas := by
  refine FnSpec.of SMe_ok mixed (U := 0) (I := fun _ => []) Tryz.func71 rfl (by kernel_rfl) rfl rfl (by decide +kernel) ?_
  rintro ⟨c, s, ⟨y, L, ⟨(a' : Int), ⟨⟩⟩, ⟨(most : Int), ⟨⟩⟩, ⟨⟨z, ⟨(a : Int), ⟨⟩⟩, ⟨(l : Int), (m : Int), (o : Int), (k : Int), (h : Int), ⟨⟩⟩, s', ⟨⟩⟩, ⟨⟩⟩, ⟨⟩⟩, ⟨⟩⟩ ⟨hpre, hs', hL, ha, hmost⟩
  obtain ⟨c, rfl⟩ := cel_ex c
  obtain ⟨s, rfl⟩ := sta_ex s
  obtain ⟨s', rfl⟩ := sta_ex s'
  have hpre : CelMax c := by have : CelMax (celOf (celD c)) := hpre; rwa [celOf_D] at this
  obtain rfl : s' = s := by have : staOf (staD s') = staOf (staD s) := hs'; rwa [staOf_D, staOf_D] at this
  obtain rfl : L = (l, m, o, k, h, ()) := hL
  obtain rfl : a' = a := ha
  obtain rfl : most = k := hmost
  have e1 := vwC_D c s'
  have e2 := vwS_D c s'
  unfold FnSat
  conv => arg 2; reduce
  simp [-Bool.forall_bool, inas, cstS, lookF, inse, e1, e2, and_assoc]
  refine ⟨hpre, fun h => ⟨(aV_no h).symm, (aE_no h).symm⟩, fun h => ?_⟩
  have k := csE_iff.1 h
  exact ⟨k.1, k.2, vw_ok k.1 k.2, (aV_yes h).symm, (aE_yes h).symm⟩
noncomputable def SMf : Sums := ⟨(71, (altSum (mkSum _ outas) (mkSum _ inas))) :: SMe.one, SMe.two, SMe.lo, SMe.eqs, SMe.its, SMe.imm⟩
theorem SMf_ok : SumsOK Tryz.prog SMf := (SMe_ok.add Tryz.func71 (by kernel_rfl) (by kernel_rfl) (altSum_ok (mkSum_ok outas_ok) (mkSum_ok inas_ok)))
def outsr : Spec [celSh, staSh, limSh, .int .i64, .int .i64, .fn 78 [] outCap] := ⟨fun (c, s0, L, (a' : Int), (most : Int), (_, ((l : Int), (m : Int), (o : Int), (k : Int), (h : Int), _), s, ((a : Int), _), _), _) => CelMax (celOf c) ∧ staOf s = staOf s0 ∧ L = (l, m, o, k, h, ()) ∧ a' = a ∧ most = o,
  fun (c, s0, ((l : Int), (m : Int), (o : Int), (k : Int), (h : Int), _), (a : Int), (most : Int), _, _) => .tup [.si .i64 (aV (celOf c) (staOf s0) (mgV (limB l m o k h) a (outP (celOf c) (staOf s0) l h a) most)), .si .i64 (aE (celOf c) (staOf s0) (mgE (limB l m o k h) a (outP (celOf c) (staOf s0) l h a)))]⟩
set_option maxRecDepth 100000 in
set_option maxHeartbeats 2000000 in
theorem outsr_ok : FnSpec Tryz.prog 77 _ outsr := by
  refine FnSpec.of SMf_ok mixed (U := 0) (I := fun _ => []) Tryz.func77 rfl (by kernel_rfl) rfl rfl (by decide +kernel) ?_
  rintro ⟨c, s, L, (a' : Int), (most : Int), ⟨z, ⟨(l : Int), (m : Int), (o : Int), (k : Int), (h : Int), ⟨⟩⟩, s', ⟨(a : Int), ⟨⟩⟩, ⟨⟩⟩, ⟨⟩⟩ ⟨hpre, hs', hL, ha, hmost⟩
  obtain ⟨c, rfl⟩ := cel_ex c
  obtain ⟨s, rfl⟩ := sta_ex s
  obtain ⟨s', rfl⟩ := sta_ex s'
  have hpre : CelMax c := by have : CelMax (celOf (celD c)) := hpre; rwa [celOf_D] at this
  obtain rfl : s' = s := by have : staOf (staD s') = staOf (staD s) := hs'; rwa [staOf_D, staOf_D] at this
  obtain rfl : L = (l, m, o, k, h, ()) := hL
  obtain rfl : a' = a := ha
  obtain rfl : most = o := hmost
  unfold FnSat
  conv => arg 2; reduce
  simp [-Bool.forall_bool, outsr, outas, and_assoc]
  exact hpre
def insr : Spec [celSh, staSh, limSh, .int .i64, .int .i64, .fn 81 [] inCap] := ⟨fun (c, s0, L, (a' : Int), (most : Int), (_, ((a : Int), _), ((l : Int), (m : Int), (o : Int), (k : Int), (h : Int), _), s, _), _) => CelMax (celOf c) ∧ staOf s = staOf s0 ∧ L = (l, m, o, k, h, ()) ∧ a' = a ∧ most = k,
  fun (c, s0, ((l : Int), (m : Int), (o : Int), (k : Int), (h : Int), _), (a : Int), (most : Int), _, _) => .tup [.si .i64 (aV (celOf c) (staOf s0) (mgV (limB l m o k h) a (inP (celOf c) (staOf s0) m h a) most)), .si .i64 (aE (celOf c) (staOf s0) (mgE (limB l m o k h) a (inP (celOf c) (staOf s0) m h a)))]⟩
set_option maxRecDepth 100000 in
set_option maxHeartbeats 2000000 in
theorem insr_ok : FnSpec Tryz.prog 77 _ insr := by
  refine FnSpec.of SMf_ok mixed (U := 0) (I := fun _ => []) Tryz.func77 rfl (by kernel_rfl) rfl rfl (by decide +kernel) ?_
  rintro ⟨c, s, L, (a' : Int), (most : Int), ⟨z, ⟨(a : Int), ⟨⟩⟩, ⟨(l : Int), (m : Int), (o : Int), (k : Int), (h : Int), ⟨⟩⟩, s', ⟨⟩⟩, ⟨⟩⟩ ⟨hpre, hs', hL, ha, hmost⟩
  obtain ⟨c, rfl⟩ := cel_ex c
  obtain ⟨s, rfl⟩ := sta_ex s
  obtain ⟨s', rfl⟩ := sta_ex s'
  have hpre : CelMax c := by have : CelMax (celOf (celD c)) := hpre; rwa [celOf_D] at this
  obtain rfl : s' = s := by have : staOf (staD s') = staOf (staD s) := hs'; rwa [staOf_D, staOf_D] at this
  obtain rfl : L = (l, m, o, k, h, ()) := hL
  obtain rfl : a' = a := ha
  obtain rfl : most = k := hmost
  unfold FnSat
  conv => arg 2; reduce
  simp [-Bool.forall_bool, insr, inas, and_assoc]
  exact hpre
noncomputable def SMg : Sums := ⟨(77, (altSum (mkSum _ outsr) (mkSum _ insr))) :: SMf.one, SMf.two, SMf.lo, SMf.eqs, SMf.its, SMf.imm⟩
theorem SMg_ok : SumsOK Tryz.prog SMg := (SMf_ok.add Tryz.func77 (by kernel_rfl) (by kernel_rfl) (altSum_ok (mkSum_ok outsr_ok) (mkSum_ok insr_ok)))
def outmo : Spec [celSh, staSh, limSh, .int .i64] := ⟨fun (c, _) => CelMax (celOf c),
  fun (c, s0, ((l : Int), (m : Int), (o : Int), (k : Int), (h : Int), _), (a : Int), _) => .tup [.si .i64 (aV (celOf c) (staOf s0) (mgV (limB l m o k h) a (outP (celOf c) (staOf s0) l h a) o)), .si .i64 (aE (celOf c) (staOf s0) (mgE (limB l m o k h) a (outP (celOf c) (staOf s0) l h a)))]⟩
set_option maxRecDepth 100000 in
set_option maxHeartbeats 2000000 in
theorem outmo_ok : FnSpec Tryz.prog 30 _ outmo := by
  refine FnSpec.of SMg_ok mixed (U := 0) (I := fun _ => []) Tryz.func30 rfl (by kernel_rfl) rfl rfl (by decide +kernel) ?_
  rintro ⟨c, s, ⟨(l : Int), (m : Int), (o : Int), (k : Int), (h : Int), ⟨⟩⟩, (a : Int), ⟨⟩⟩ hpre
  obtain ⟨c, rfl⟩ := cel_ex c
  obtain ⟨s, rfl⟩ := sta_ex s
  have hpre : CelMax c := by have : CelMax (celOf (celD c)) := hpre; rwa [celOf_D] at this
  unfold FnSat
  conv => arg 2; reduce
  simp [-Bool.forall_bool, outmo, outsr, and_assoc]
  exact hpre
def inmo : Spec [celSh, staSh, limSh, .int .i64] := ⟨fun (c, _) => CelMax (celOf c),
  fun (c, s0, ((l : Int), (m : Int), (o : Int), (k : Int), (h : Int), _), (a : Int), _) => .tup [.si .i64 (aV (celOf c) (staOf s0) (mgV (limB l m o k h) a (inP (celOf c) (staOf s0) m h a) k)), .si .i64 (aE (celOf c) (staOf s0) (mgE (limB l m o k h) a (inP (celOf c) (staOf s0) m h a)))]⟩
set_option maxRecDepth 100000 in
set_option maxHeartbeats 2000000 in
theorem inmo_ok : FnSpec Tryz.prog 32 _ inmo := by
  refine FnSpec.of SMg_ok mixed (U := 0) (I := fun _ => []) Tryz.func32 rfl (by kernel_rfl) rfl rfl (by decide +kernel) ?_
  rintro ⟨c, s, ⟨(l : Int), (m : Int), (o : Int), (k : Int), (h : Int), ⟨⟩⟩, (a : Int), ⟨⟩⟩ hpre
  obtain ⟨c, rfl⟩ := cel_ex c
  obtain ⟨s, rfl⟩ := sta_ex s
  have hpre : CelMax c := by have : CelMax (celOf (celD c)) := hpre; rwa [celOf_D] at this
  unfold FnSat
  conv => arg 2; reduce
  simp [-Bool.forall_bool, inmo, insr, and_assoc]
  exact hpre
noncomputable def SMh : Sums := ⟨(32, mkSum _ inmo) :: (30, mkSum _ outmo) :: SMg.one, SMg.two, SMg.lo, SMg.eqs, SMg.its, SMg.imm⟩
theorem SMh_ok : SumsOK Tryz.prog SMh := ((SMg_ok.cons Tryz.func30 (by kernel_rfl) (by kernel_rfl) outmo_ok).cons Tryz.func32 (by kernel_rfl) (by kernel_rfl) inmo_ok)
end
end Abs
end Go.Proofs.YthpigoanppehbaaGreat

/- Cells, by the document: the greatest safe currents. -/
namespace Go.Proofs.YthpigoanppehbaaGreat
namespace Abs
open Go Go.RowKit
noncomputable section
attribute [local irreducible] FnSat
-- by halves
@[irreducible] def p2 (e : Nat) : Int := (2 : Int) ^ e
theorem p2_s (e : Nat) : p2 (e + 1) = 2 * p2 e := by unfold p2; rw [Int.pow_succ]; omega
theorem p2_0 : p2 0 = 1 := by unfold p2; rfl
theorem p2_pos : ∀ e, 1 ≤ p2 e
  | 0 => by rw [p2_0]; decide
  | e + 1 => by have := p2_pos e; rw [p2_s]; omega
theorem p2_mono {d : Nat} : ∀ {e : Nat}, d ≤ e → p2 d ≤ p2 e
  | 0, h => by obtain rfl : d = 0 := by omega
               exact Int.le_refl _
  | e + 1, h => by
    rcases Nat.lt_or_ge d (e + 1) with h1 | h1
    · have := p2_mono (d := d) (e := e) (by omega)
      have := p2_pos e
      rw [p2_s]; omega
    · obtain rfl : d = e + 1 := by omega
      exact Int.le_refl _
@[irreducible] def stp (e : Nat) : Int := match e with | 0 => 0 | e + 1 => p2 e
theorem stp_0 : stp 0 = 0 := by unfold stp; rfl
theorem stp_s (e : Nat) : stp (e + 1) = p2 e := by unfold stp; rfl
theorem stp_half (e : Nat) : (stp (e + 1)).tdiv 2 = stp e := by
  rw [stp_s]
  cases e with
  | zero => rw [p2_0, stp_0]; rfl
  | succ e =>
    have := p2_pos e
    rw [p2_s, stp_s, Int.tdiv_eq_ediv_of_nonneg (by omega)]
    omega
theorem stp_b {e : Nat} (h : e ≤ 21) : 0 ≤ stp e ∧ stp e ≤ 1048576 := by
  cases e with
  | zero => rw [stp_0]; decide
  | succ e =>
    have h1 := p2_mono (d := e) (e := 20) (by omega)
    have h2 := p2_pos e
    have h3 : p2 20 = 1048576 := by unfold p2; rfl
    rw [stp_s]; omega
structure HvInv (p : Int → Bool) (most : Int) (e : Nat) (x : Int) : Prop where
  e1 : e ≤ 21
  a : 0 ≤ x
  b : x ≤ most
  c : p x = true
  d : ∀ i, x + p2 e ≤ i → i ≤ most → p i = false
theorem hv_0 {p : Int → Bool} {most : Int} (hm : Mono p most) (h : most ≤ 1048576) : HvInv p most 21 0 := ⟨by decide, by decide, hm.h0, hm.p0, fun i h1 h2 => by
  have : p2 21 = 2097152 := by unfold p2; rfl
  omega⟩
theorem hv_fin {p : Int → Bool} {most x : Int} {e : Nat} (h : HvInv p most e x) (hm : Mono p most) (hs : stp e ≤ 0) : x = grV p most ∧ 0 = grE p := by
  obtain rfl : e = 0 := by
    cases e with
    | zero => rfl
    | succ e => have := p2_pos e; rw [stp_s] at hs; omega
  have hd := h.d
  rw [p2_0] at hd
  have e := grI_uniq hm h.a h.b h.c fun hl => hd (x + 1) (by omega) (by omega)
  unfold grV grE
  rw [if_pos hm.p0, if_pos hm.p0, e]
  exact ⟨rfl, rfl⟩
theorem hv_up {p : Int → Bool} {most x : Int} {e : Nat} (h : HvInv p most (e + 1) x) (h1 : x + stp (e + 1) ≤ most) (hp : p (x + stp (e + 1)) = true) : HvInv p most e (x + stp (e + 1)) := by
  rw [stp_s] at *
  have := p2_pos e
  exact ⟨by have := h.e1; omega, by have := h.a; omega, h1, hp, fun i i1 i2 => h.d i (by rw [p2_s]; omega) i2⟩
theorem hv_dn {p : Int → Bool} {most x : Int} {e : Nat} (h : HvInv p most (e + 1) x) (hm : Mono p most) (hp : most < x + stp (e + 1) ∨ p (x + stp (e + 1)) = false) : HvInv p most e x := by
  rw [stp_s] at *
  have := p2_pos e
  refine ⟨by have := h.e1; omega, h.a, h.b, h.c, fun i i1 i2 => ?_⟩
  cases hi : p i with
  | false => rfl
  | true =>
    rcases hp with hp | hp
    · omega
    · have := hm.dn (x + p2 e) i (by have := h.a; omega) i1 i2 hi
      rw [hp] at this; cases this
theorem stp_ex {e : Nat} (h : 0 < stp e) : ∃ d, e = d + 1 := by
  cases e with
  | zero => rw [stp_0] at h; omega
  | succ e => exact ⟨e, rfl⟩
def routmI : DatL [celSh, staSh, limSh, .int .i64] → Anns := fun (c, s0, ((l : Int), (m : Int), (o : Int), (k : Int), (h : Int), _), (a : Int), _) => [
  (11, [], fun fr hp => ⟨Nat × Int, fun (e, x) => ⟨frI [.k 10, .s (.si .i64 x), .s (.si .i64 (stp e)), .k 21, .t 23, .k 1] fr, hp⟩, (Int → Bool) × Int × Nat × Int, fun (e, x) => (outP (celOf c) (staOf s0) l h a, o, e, x), fun (p, most, e, x) => HvInv p most e x, fun (e, _) => e⟩)]
def rinmI : DatL [celSh, staSh, limSh, .int .i64] → Anns := fun (c, s0, ((l : Int), (m : Int), (o : Int), (k : Int), (h : Int), _), (a : Int), _) => [
  (11, [], fun fr hp => ⟨Nat × Int, fun (e, x) => ⟨frI [.k 10, .s (.si .i64 x), .s (.si .i64 (stp e)), .k 21, .t 23, .k 1] fr, hp⟩, (Int → Bool) × Int × Nat × Int, fun (e, x) => (inP (celOf c) (staOf s0) m h a, k, e, x), fun (p, most, e, x) => HvInv p most e x, fun (e, _) => e⟩)]
end
end Abs
end Go.Proofs.YthpigoanppehbaaGreat

/- Cells with tolerances, by the document: VoltageBox, FillBox, StepBox, SafeOut. -/
namespace Go.Proofs.YthpigoanppehbaaGreat
namespace Abs
open Go Go.RowKit
noncomputable section
attribute [local irreducible] FnSat
set_option maxRecDepth 100000 in
theorem rbx_ok : FnSpec Tryz.prog 40 _ chkS := by
  refine FnSpec.of SWd_ok mixed (U := 0) (I := fun _ => []) Tryz.func40 rfl (by kernel_rfl) rfl rfl (by decide +kernel) ?_
  rintro ⟨c, ⟨n, el⟩, ⟨m, em⟩, ⟨⟩⟩ hpre
  obtain ⟨c, rfl⟩ := cel_ex c
  obtain ⟨lo, hi, rfl⟩ : ∃ lo hi : Nat → Int, el = fun k => (lo k, hi k, ()) := ⟨fun k => (el k).1, fun k => (el k).2.1, rfl⟩
  obtain ⟨bl, bh, rfl⟩ : ∃ bl bh : Nat → Int, em = fun k => (bl k, bh k, ()) := ⟨fun k => (em k).1, fun k => (em k).2.1, rfl⟩
  have hpre : CelMax c ∧ n ≤ maxLen ∧ m ≤ maxLen := by have : CelMax (celOf (celD c)) ∧ n ≤ maxLen ∧ m ≤ maxLen := hpre; rwa [celOf_D] at this
  obtain ⟨hc, hn, hm⟩ := hpre
  unfold FnSat
  conv => arg 2; reduce
  simp [chkS, posS, sbxS, and_assoc]
  refine ⟨hc, hn, fun h => ⟨hc, hn, chkV_pos h⟩, fun h => by unfold chkV; rw [if_pos h]⟩
noncomputable def SWe : Sums := ⟨(40, mkSum _ chkS) :: SWd.one, SWd.two, SWd.lo, SWd.eqs, SWd.its, SWd.imm⟩
theorem SWe_ok : SumsOK Tryz.prog SWe := (SWd_ok.cons Tryz.func40 (by kernel_rfl) (by kernel_rfl) rbx_ok)
set_option maxRecDepth 100000 in
set_option maxHeartbeats 4000000 in
theorem rvb_ok : FnSpec Tryz.prog 10 _ vbS := by
  refine FnSpec.of SWe_ok mixed (U := 0) (I := fun _ => []) Tryz.func10 rfl (by kernel_rfl) rfl rfl (by decide +kernel) ?_
  rintro ⟨c, ⟨n, el⟩, ⟨m, em⟩, ⟨(a : Int), (b : Int), ⟨⟩⟩, ⟨⟩⟩ hpre
  obtain ⟨c, rfl⟩ := cel_ex c
  obtain ⟨lo, hi, rfl⟩ : ∃ lo hi : Nat → Int, el = fun k => (lo k, hi k, ()) := ⟨fun k => (el k).1, fun k => (el k).2.1, rfl⟩
  obtain ⟨bl, bh, rfl⟩ : ∃ bl bh : Nat → Int, em = fun k => (bl k, bh k, ()) := ⟨fun k => (em k).1, fun k => (em k).2.1, rfl⟩
  have hpre : CelMax c ∧ n ≤ maxLen ∧ m ≤ maxLen := by have : CelMax (celOf (celD c)) ∧ n ≤ maxLen ∧ m ≤ maxLen := hpre; rwa [celOf_D] at this
  obtain ⟨hc, hn, hm⟩ := hpre
  unfold FnSat
  conv => arg 2; reduce
  simp [vbS, chkS, insC, spoS, rvlS, enc_rsp, mkW_V, ElEq, getB, goneB, aliveB, and_assoc]
  exact ⟨hc, hn, hm, fun h => ⟨hc, hn, hm, (okV_1 (by rw [orE_e h]; exact h)).symm, (okV_1 (by rw [orE_e h]; exact h)).symm, (orE_e h).symm⟩, fun h => ⟨fun hb => ⟨(okV_1 (by rw [orE_f h hb]; decide)).symm, (okV_1 (by rw [orE_f h hb]; decide)).symm, (orE_f h hb).symm⟩,
    fun hb => ⟨chk_iff.1 h, rsp_of (chk_iff.1 h), hb, (okV_0 (orE_t h hb)).symm, (okV_0 (orE_t h hb)).symm, (orE_t h hb).symm⟩⟩⟩
set_option maxRecDepth 100000 in
set_option maxHeartbeats 4000000 in
theorem rfb_ok : FnSpec Tryz.prog 12 _ fbS := by
  refine FnSpec.of SWe_ok mixed (U := 0) (I := fun _ => []) Tryz.func12 rfl (by kernel_rfl) rfl rfl (by decide +kernel) ?_
  rintro ⟨c, ⟨n, el⟩, ⟨m, em⟩, ⟨⟩⟩ hpre
  obtain ⟨c, rfl⟩ := cel_ex c
  obtain ⟨lo, hi, rfl⟩ : ∃ lo hi : Nat → Int, el = fun k => (lo k, hi k, ()) := ⟨fun k => (el k).1, fun k => (el k).2.1, rfl⟩
  obtain ⟨bl, bh, rfl⟩ : ∃ bl bh : Nat → Int, em = fun k => (bl k, bh k, ()) := ⟨fun k => (em k).1, fun k => (em k).2.1, rfl⟩
  have hpre : CelMax c ∧ n ≤ maxLen ∧ m ≤ maxLen := by have : CelMax (celOf (celD c)) ∧ n ≤ maxLen ∧ m ≤ maxLen := hpre; rwa [celOf_D] at this
  obtain ⟨hc, hn, hm⟩ := hpre
  unfold FnSat
  conv => arg 2; reduce
  simp [fbS, chkS, spoS, enc_rsp, ElEq, getB, goneB, aliveB, and_assoc]
  refine ⟨hc, hn, hm, fun h => ⟨hc, hn, hm, (okV_1 h).symm, (okV_1 h).symm⟩, fun h => ⟨chk_iff.1 h, ?_, ?_, h.symm⟩⟩
  · rw [okV_0 h, rspV_fl, widV_fl]
  · rw [okV_0 h, rspV_fh, widV_fh]
set_option maxRecDepth 100000 in
set_option maxHeartbeats 4000000 in
theorem rsbx_ok : FnSpec Tryz.prog 14 _ sbS := by
  refine FnSpec.of SWe_ok mixed (U := 0) (I := fun _ => []) Tryz.func14 rfl (by kernel_rfl) rfl rfl (by decide +kernel) ?_
  rintro ⟨c, ⟨n, el⟩, ⟨m, em⟩, ⟨p, en⟩, ⟨⟩⟩ hpre
  obtain ⟨c, rfl⟩ := cel_ex c
  obtain ⟨lo, hi, rfl⟩ : ∃ lo hi : Nat → Int, el = fun k => (lo k, hi k, ()) := ⟨fun k => (el k).1, fun k => (el k).2.1, rfl⟩
  obtain ⟨bl, bh, rfl⟩ : ∃ bl bh : Nat → Int, em = fun k => (bl k, bh k, ()) := ⟨fun k => (em k).1, fun k => (em k).2.1, rfl⟩
  obtain ⟨il, ih, rfl⟩ : ∃ il ih : Nat → Int, en = fun k => (il k, ih k, ()) := ⟨fun k => (en k).1, fun k => (en k).2.1, rfl⟩
  have hpre : CelMax c ∧ n ≤ maxLen ∧ m ≤ maxLen ∧ p ≤ maxLen := by have : CelMax (celOf (celD c)) ∧ n ≤ maxLen ∧ m ≤ maxLen ∧ p ≤ maxLen := hpre; rwa [celOf_D] at this
  obtain ⟨hc, hn, hm, hp⟩ := hpre
  unfold FnSat
  conv => arg 2; reduce
  simp [sbS, chkS, insC, rnxS, ElEq, getB, goneB, aliveB, and_assoc]
  refine ⟨hc, hn, hm, fun h => ⟨hc, hn, hm, sbN_0 (by rw [sbE_1 h]; exact h), (sbE_1 h).symm⟩, fun h => ⟨fun q => by omega, fun q _ => by omega, fun q => ?_, fun q1 q2 q3 => ?_⟩⟩
  · have hb : inpB p il ih = false := inpB_no fun hb => by
      obtain ⟨b1, b2, b3⟩ := inpB_iff.1 hb
      rcases q with (q | q) | q
      · omega
      · rw [b2] at q; cases q
      · rw [b3] at q; cases q
    exact ⟨sbN_0 (by rw [sbE_2 h hb]; decide), (sbE_2 h hb).symm⟩
  · have hb : inpB p il ih = true := inpB_iff.2 ⟨by omega, q2, q3⟩
    have e3 := (nb_3 (widV c lo hi m bl bh) (il 0) (ih 0) (il 1) (ih 1)).2
    have e4 := (nb_4 (widV c lo hi m bl bh) (il 0) (ih 0) (il 1) (ih 1)).2
    refine ⟨chk_iff.1 h, hb, fun q => ?_, fun r1 r2 => ?_⟩
    · have hf : farB (widV c lo hi m bl bh) (il 0) (ih 0) = false := farB_no fun hf => by
        obtain ⟨f1, f2⟩ := farB_iff.1 hf
        rcases q with q | q
        · have : 1099511627776 < nbH (widV c lo hi m bl bh) (il 0) (ih 0) (il 1) (ih 1) 3 := q
          omega
        · have : 1099511627776 < nbH (widV c lo hi m bl bh) (il 0) (ih 0) (il 1) (ih 1) 4 := q
          omega
      exact ⟨sbN_0 (by rw [sbE_4 h hb hf]; decide), (sbE_4 h hb hf).symm⟩
    · have r1 : nbH (widV c lo hi m bl bh) (il 0) (ih 0) (il 1) (ih 1) 3 ≤ 1099511627776 := r1
      have r2 : nbH (widV c lo hi m bl bh) (il 0) (ih 0) (il 1) (ih 1) 4 ≤ 1099511627776 := r2
      have hf : farB (widV c lo hi m bl bh) (il 0) (ih 0) = true := farB_iff.2 ⟨by omega, by omega⟩
      exact ⟨(sbN_5 (sbE_0 h hb hf)).symm, (sbE_0 h hb hf).symm⟩
-- what is safe for a box
@[irreducible] def boxP (x : Wid) (l h u v i : Int) : Bool := decide (l ≤ wvL x i i) && decide (wtH x i i u v ≤ h) && decide (i + x.hi.leak ≤ x.bl 0)
theorem boxP_iff {x : Wid} {l h u v i : Int} : boxP x l h u v i = true ↔ l ≤ wvL x i i ∧ wtH x i i u v ≤ h ∧ i + x.hi.leak ≤ x.bl 0 := by unfold boxP; simp [and_assoc]
def rbsS : Spec [celSh, spansSh, spansSh, limSh, spanSh, .int .i64] := ⟨fun (c, (n, el), (m, em), _, ((u : Int), (v : Int), _), (i : Int), _) => ChkOK (celOf c) n (fun k => (el k).1) (fun k => (el k).2.1) m (fun k => (em k).1) (fun k => (em k).2.1) ∧ insV 0 u v 400000 = true ∧ 0 ≤ i ∧ i ≤ 1048576,
  fun (c, (_, el), (m, em), ((l : Int), (_ : Int), (_ : Int), (_ : Int), (h : Int), _), ((u : Int), (v : Int), _), (i : Int), _) => .sb (boxP (widV (celOf c) (fun k => (el k).1) (fun k => (el k).2.1) m (fun k => (em k).1) (fun k => (em k).2.1)) l h u v i)⟩
set_option maxRecDepth 100000 in
set_option maxHeartbeats 8000000 in
theorem rbs_ok : FnSpec Tryz.prog 51 _ rbsS := by
  refine FnSpec.of SWe_ok mixed (U := 0) (I := fun _ => []) Tryz.func51 rfl (by kernel_rfl) rfl rfl (by decide +kernel) ?_
  rintro ⟨c, ⟨n, el⟩, ⟨m, em⟩, ⟨(l : Int), (q : Int), (o : Int), (w : Int), (h : Int), ⟨⟩⟩, ⟨(u : Int), (v : Int), ⟨⟩⟩, (i : Int), ⟨⟩⟩ hpre
  obtain ⟨c, rfl⟩ := cel_ex c
  obtain ⟨lo, hi, rfl⟩ : ∃ lo hi : Nat → Int, el = fun k => (lo k, hi k, ()) := ⟨fun k => (el k).1, fun k => (el k).2.1, rfl⟩
  obtain ⟨bl, bh, rfl⟩ : ∃ bl bh : Nat → Int, em = fun k => (bl k, bh k, ()) := ⟨fun k => (em k).1, fun k => (em k).2.1, rfl⟩
  have hpre : ChkOK c n lo hi m bl bh ∧ insV 0 u v 400000 = true ∧ 0 ≤ i ∧ i ≤ 1048576 := by have : ChkOK (celOf (celD c)) n lo hi m bl bh ∧ insV 0 u v 400000 = true ∧ 0 ≤ i ∧ i ≤ 1048576 := hpre; rwa [celOf_D] at this
  obtain ⟨hC, hu, i0, i1⟩ := hpre
  obtain rfl : n = 7 := hC.n
  obtain rfl : m = 5 := hC.m
  unfold FnSat
  conv => arg 2; reduce
  simp [-Bool.forall_bool, rbsS, spoS, rvlS, rtpS, enc_rsp, mkW_V, ElEq, getB, goneB, aliveB, and_assoc]
  have R := rsp_of hC
  have hi' : insV (-1048576) i i 1048576 = true := insV_iff.2 (by omega)
  have kh := celB_iff.1 hC.ch
  have := kh.lk0
  have := kh.lk1
  refine ⟨hC, R, hi', fun _ => ⟨R, hi', hu⟩, fun _ _ => ?_, ?_⟩
  · rw [rspV_hi]
    show -9223372036854775808 ≤ i + (mvC c hi).leak ∧ i + (mvC c hi).leak ≤ 9223372036854775807
    omega
  · unfold boxP
    rw [rspV_hi, widV_hi, widV_bl]
noncomputable def SWf : Sums := ⟨(51, mkSum _ rbsS) :: (14, mkSum _ sbS) :: (12, mkSum _ fbS) :: (10, mkSum _ vbS) :: SWe.one, SWe.two, SWe.lo, SWe.eqs, SWe.its, SWe.imm⟩
theorem SWf_ok : SumsOK Tryz.prog SWf := ((((SWe_ok.cons Tryz.func10 (by kernel_rfl) (by kernel_rfl) rvb_ok).cons Tryz.func12 (by kernel_rfl) (by kernel_rfl) rfb_ok).cons Tryz.func14 (by kernel_rfl) (by kernel_rfl) rsbx_ok).cons Tryz.func51 (by kernel_rfl) (by kernel_rfl) rbs_ok)
end
end Abs
end Go.Proofs.YthpigoanppehbaaGreat

/- The greatest current that is safe for a box, by the program and by the document. -/
namespace Go.Proofs.YthpigoanppehbaaGreat
namespace Abs
open Go Go.RowKit
noncomputable section
attribute [local irreducible] FnSat
theorem wv_mono {x : Wid} {i j : Int} (hx : WidOK x) (h : i ≤ j) : wvL x j j ≤ wvL x i i := by
  have m1 := Int.mul_le_mul_of_nonneg_right h hx.r0
  have m2 := Int.mul_le_mul_of_nonneg_right h hx.s0
  have p : prH i i x.rl x.rh ≤ prH j j x.rl x.rh := by unfold prH; omega
  have d := dvI_mono (d := 1000) (by decide) p
  unfold wvL
  omega
theorem wt_mono {x : Wid} {i j u v : Int} (hx : WidOK x) (h0 : 0 ≤ i) (h : i ≤ j) : wtH x i i u v ≤ wtH x j j u v := by
  have m := Int.mul_le_mul_of_nonneg_right (sq_mono h0 h) hx.s0
  have d := dvI_mono (d := 1000000000) (by decide) m
  have e : whH x i i ≤ whH x j j := by
    unfold whH
    rw [(sq_one i).2, (sq_one j).2]
    omega
  have hk := celB_iff.1 hx.lo
  have d2 := dvI_mono (d := x.lo.hcap) hk.hc0 (show 1000 * whH x i i ≤ 1000 * whH x j j by omega)
  unfold wtH
  exact clipV_mono (by omega)
theorem box_mono {x : Wid} {l h u v most : Int} (hx : WidOK x) (h0 : 0 ≤ most) (hp : boxP x l h u v 0 = true) : Mono (boxP x l h u v) most := by
  refine ⟨h0, hp, fun i j i0 ij _ hj => ?_⟩
  obtain ⟨h1, h2, h3⟩ := boxP_iff.1 hj
  have a := wv_mono hx ij
  have b := wt_mono (u := u) (v := v) hx i0 ij
  exact boxP_iff.2 ⟨by omega, by omega, by omega⟩
@[irreducible] def soE (e : Int) (p : Int → Bool) : Int := if e = 0 then grE p else e
@[irreducible] def soV (e : Int) (p : Int → Bool) (most : Int) : Int := if e = 0 then grV p most else 0
theorem so_e {e most : Int} {p : Int → Bool} (h : ¬ e = 0) : 0 = soV e p most ∧ e = soE e p := by unfold soV soE; rw [if_neg h, if_neg h]; exact ⟨rfl, rfl⟩
theorem so_0 {e most : Int} {p : Int → Bool} (h : e = 0) : grV p most = soV e p most ∧ grE p = soE e p := by unfold soV soE; rw [if_pos h, if_pos h]; exact ⟨rfl, rfl⟩
def sfoS : Spec [celSh, spansSh, spansSh, limSh, spanSh] := ⟨fun (c, x, y, _) => CelMax (celOf c) ∧ x.1 ≤ maxLen ∧ y.1 ≤ maxLen,
  fun (c, (n, el), (m, em), ((l : Int), (q : Int), (o : Int), (w : Int), (h : Int), _), ((u : Int), (v : Int), _), _) => .tup [.si .i64 (soV (orE (orE (chkV (celOf c) n (fun k => (el k).1) (fun k => (el k).2.1) m (fun k => (em k).1) (fun k => (em k).2.1)) (limB l q o w h) 2) (insV 0 u v 400000) 2) (boxP (widV (celOf c) (fun k => (el k).1) (fun k => (el k).2.1) m (fun k => (em k).1) (fun k => (em k).2.1)) l h u v) o), .si .i64 (soE (orE (orE (chkV (celOf c) n (fun k => (el k).1) (fun k => (el k).2.1) m (fun k => (em k).1) (fun k => (em k).2.1)) (limB l q o w h) 2) (insV 0 u v 400000) 2) (boxP (widV (celOf c) (fun k => (el k).1) (fun k => (el k).2.1) m (fun k => (em k).1) (fun k => (em k).2.1)) l h u v))]⟩
def rsfoI : DatL [celSh, spansSh, spansSh, limSh, spanSh] → Anns := fun (c, (n, el), (m, em), ((l : Int), (q : Int), (o : Int), (w : Int), (h : Int), _), ((u : Int), (v : Int), _), _) => [
  (11, [], fun fr hp => ⟨Nat × Int, fun (e, x) => ⟨frI [.k 12, .s (.si .i64 x), .s (.si .i64 (stp e)), .k 24, .t 24, .k 1] fr, hp⟩, (Int → Bool) × Int × Nat × Int, fun (e, x) => ((boxP (widV (celOf c) (fun k => (el k).1) (fun k => (el k).2.1) m (fun k => (em k).1) (fun k => (em k).2.1)) l h u v), o, e, x), fun (p, most, e, x) => HvInv p most e x, fun (e, _) => e⟩)]
noncomputable def SWg : Sums := ⟨(50, mkSum _ limS) :: SWf.one, SWf.two, SWf.lo, SWf.eqs, SWf.its, SWf.imm⟩
theorem SWg_ok : SumsOK Tryz.prog SWg := (SWf_ok.cons Tryz.func50 (by kernel_rfl) (by kernel_rfl) rlim_ok)
set_option maxRecDepth 100000 in
set_option maxHeartbeats 8000000 in
theorem rsfo_ok : FnSpec Tryz.prog 16 _ sfoS := by
  refine FnSpec.of SWg_ok mixed (U := 0) (I := rsfoI) Tryz.func16 rfl (by kernel_rfl) rfl rfl (by decide +kernel) ?_
  rintro ⟨c, ⟨n, el⟩, ⟨m, em⟩, ⟨(l : Int), (q : Int), (o : Int), (w : Int), (hh : Int), ⟨⟩⟩, ⟨(u : Int), (v : Int), ⟨⟩⟩, ⟨⟩⟩ hpre
  obtain ⟨c, rfl⟩ := cel_ex c
  obtain ⟨lo, hi, rfl⟩ : ∃ lo hi : Nat → Int, el = fun k => (lo k, hi k, ()) := ⟨fun k => (el k).1, fun k => (el k).2.1, rfl⟩
  obtain ⟨bl, bh, rfl⟩ : ∃ bl bh : Nat → Int, em = fun k => (bl k, bh k, ()) := ⟨fun k => (em k).1, fun k => (em k).2.1, rfl⟩
  have hpre : CelMax c ∧ n ≤ maxLen ∧ m ≤ maxLen := by have : CelMax (celOf (celD c)) ∧ n ≤ maxLen ∧ m ≤ maxLen := hpre; rwa [celOf_D] at this
  obtain ⟨hc, hn, hm⟩ := hpre
  unfold FnSat
  conv => arg 2; reduce
  simp [-Bool.forall_bool, sfoS, chkS, limS, insC, rbsS, ElEq, getB, goneB, aliveB, and_assoc]
  have oE : ∀ e b, ¬ e = 0 → ¬ orE e b 2 = 0 := fun e b h => by rw [orE_e h]; exact h
  refine ⟨hc, hn, hm, fun h => ⟨hc, hn, hm, ?_⟩, fun h => ⟨fun hb => ?_, fun hb => ⟨fun hu => ?_, fun hu => ⟨chk_iff.1 h, hu, ?_⟩⟩⟩⟩
  · have e : orE (orE (chkV c n lo hi m bl bh) (limB l q o w hh) 2) (insV 0 u v 400000) 2 = chkV c n lo hi m bl bh := by rw [orE_e (oE _ _ h), orE_e h]
    have := so_e (most := o) (p := boxP (widV c lo hi m bl bh) l hh u v) (e := orE (orE (chkV c n lo hi m bl bh) (limB l q o w hh) 2) (insV 0 u v 400000) 2) (by rw [e]; exact h)
    exact ⟨this.1, e.symm.trans this.2⟩
  · have e : orE (orE (chkV c n lo hi m bl bh) (limB l q o w hh) 2) (insV 0 u v 400000) 2 = 2 := by rw [orE_e (e := orE (chkV c n lo hi m bl bh) (limB l q o w hh) 2) (by rw [orE_f h hb]; decide), orE_f h hb]
    have := so_e (most := o) (p := boxP (widV c lo hi m bl bh) l hh u v) (e := orE (orE (chkV c n lo hi m bl bh) (limB l q o w hh) 2) (insV 0 u v 400000) 2) (by rw [e]; decide)
    refine ⟨this.1, ?_⟩
    rw [hb, errA_false]
    rw [hb] at e this
    exact e.symm.trans this.2
  · have e : orE (orE (chkV c n lo hi m bl bh) (limB l q o w hh) 2) (insV 0 u v 400000) 2 = 2 := by rw [orE_f (orE_t h hb) hu]
    have := so_e (most := o) (p := boxP (widV c lo hi m bl bh) l hh u v) (e := orE (orE (chkV c n lo hi m bl bh) (limB l q o w hh) 2) (insV 0 u v 400000) 2) (by rw [e]; decide)
    exact ⟨this.1, e.symm.trans this.2⟩
  · have e : orE (orE (chkV c n lo hi m bl bh) (limB l q o w hh) 2) (insV 0 u v 400000) 2 = 0 := by rw [orE_t (orE_t h hb) hu]
    obtain ⟨z1, z2⟩ := so_0 (most := o) (p := boxP (widV c lo hi m bl bh) l hh u v) e
    rw [show soV (orE (orE (chkV c n (fun k => lo k) (fun k => hi k) m (fun k => bl k) (fun k => bh k)) (limB l q o w hh) 2) (insV 0 u v 400000) 2) (boxP (widV c (fun k => lo k) (fun k => hi k) m (fun k => bl k) (fun k => bh k)) l hh u v) o = grV (boxP (widV c lo hi m bl bh) l hh u v) o from z1.symm,
      show soE (orE (orE (chkV c n (fun k => lo k) (fun k => hi k) m (fun k => bl k) (fun k => bh k)) (limB l q o w hh) 2) (insV 0 u v 400000) 2) (boxP (widV c (fun k => lo k) (fun k => hi k) m (fun k => bl k) (fun k => bh k)) l hh u v) = grE (boxP (widV c lo hi m bl bh) l hh u v) from z2.symm]
    refine ⟨gr_no, fun hp => ?_⟩
    have lb := limB_iff.1 hb
    have hW := wid_of (chk_iff.1 h)
    have hm : Mono (boxP (widV c lo hi m bl bh) l hh u v) o := box_mono hW (by omega) hp
    refine ⟨⟨21, by unfold stp p2; rfl, hv_0 hm (by omega)⟩, fun e x hv => ⟨fun hs => ?_, fun hs => hv_fin hv hm hs⟩⟩
    obtain ⟨d, rfl⟩ := stp_ex hs
    have sb := stp_b hv.e1
    have sh := stp_half d
    have sb2 := stp_b (e := d) (by have := hv.e1; omega)
    have xa := hv.a
    have xb := hv.b
    refine ⟨by omega, by omega, fun _ => by omega, fun hx => ⟨chk_iff.1 h, hu, by omega, by omega⟩, fun hx hq => ⟨by omega, by omega, by omega, by omega, d, sh, hv_up hv hx hq, by omega⟩, fun hx => ⟨by omega, by omega, d, sh, hv_dn hv hm ?_, by omega⟩⟩
    rcases Int.lt_or_le o (x + stp (d + 1)) with hl | hl
    · exact .inl hl
    · exact .inr (hx hl)
@[reducible] def sfoCap : List Sh := [.ptr [.ptr widCells], .ptr limCells, .ptr [.int .i64, .int .i64], .ptr [spansSh]]
def sfo1 : Spec [.int .i64, .ptr [.ptr widCells], .ptr limCells, .ptr [.int .i64, .int .i64], .ptr [spansSh]] := ⟨fun ((i : Int), (x, _), _, ((u : Int), (v : Int), _), ((m, em), _), _) => WidOK (widOf x) ∧ m = 5 ∧ (em 0).1 = (widOf x).bl 0 ∧ insV 0 u v 400000 = true ∧ 0 ≤ i ∧ i ≤ 1048576,
  fun ((i : Int), (x, _), ((l : Int), (_ : Int), (_ : Int), (_ : Int), (h : Int), _), ((u : Int), (v : Int), _), _, _) => .sb (boxP (widOf x) l h u v i)⟩
set_option maxRecDepth 100000 in
set_option maxHeartbeats 8000000 in
theorem sfo1_ok : FnSpec Tryz.prog 48 _ sfo1 := by
  refine FnSpec.of SBq_ok mixed (U := 0) (I := fun _ => []) Tryz.func48 rfl (by kernel_rfl) rfl rfl (by decide +kernel) ?_
  rintro ⟨(i : Int), ⟨x, ⟨⟩⟩, ⟨(l : Int), (q : Int), (o : Int), (w : Int), (h : Int), ⟨⟩⟩, ⟨(u : Int), (v : Int), ⟨⟩⟩, ⟨⟨m, em⟩, ⟨⟩⟩, ⟨⟩⟩ hpre
  obtain ⟨x, rfl⟩ := wid_ex x
  obtain ⟨bl, bh, rfl⟩ : ∃ bl bh : Nat → Int, em = fun k => (bl k, bh k, ()) := ⟨fun k => (em k).1, fun k => (em k).2.1, rfl⟩
  have hpre : WidOK x ∧ m = 5 ∧ bl 0 = x.bl 0 ∧ insV 0 u v 400000 = true ∧ 0 ≤ i ∧ i ≤ 1048576 := by have : WidOK (widOf (widD x)) ∧ m = 5 ∧ bl 0 = (widOf (widD x)).bl 0 ∧ insV 0 u v 400000 = true ∧ 0 ≤ i ∧ i ≤ 1048576 := hpre; rwa [widOf_D] at this
  obtain ⟨hx, rfl, e0, hu, i0, i1⟩ := hpre
  unfold FnSat
  conv => arg 2; reduce
  simp [-Bool.forall_bool, sfo1, wvS, wtS, ElEq, getB, goneB, aliveB, and_assoc]
  have kh := celB_iff.1 hx.hi
  have := kh.lk0
  have := kh.lk1
  have hi' : insV (-1048576) i i 1048576 = true := insV_iff.2 (by omega)
  refine ⟨hx, hi', fun _ => ⟨hx, hi', hu⟩, fun _ _ => by omega, ?_⟩
  unfold boxP
  rw [e0]
noncomputable def SQa : Sums := ⟨(46, mkSum _ limS) :: (48, mkSum _ sfo1) :: SBq.one, SBq.two, SBq.lo, SBq.eqs, SBq.its, SBq.imm⟩
theorem SQa_ok : SumsOK Tryz.prog SQa := ((SBq_ok.cons Tryz.func48 (by kernel_rfl) (by kernel_rfl) sfo1_ok).cons Tryz.func46 (by kernel_rfl) (by kernel_rfl) lim_ok)
def sfgr : Spec [.int .i64, .fn 48 [] sfoCap] := ⟨fun ((most : Int), (_, (x, _), _, ((u : Int), (v : Int), _), ((m, em), _), _), _) => WidOK (widOf x) ∧ m = 5 ∧ (em 0).1 = (widOf x).bl 0 ∧ insV 0 u v 400000 = true ∧ 0 ≤ most ∧ most ≤ 1048576,
  fun ((most : Int), (_, (x, _), ((l : Int), (_ : Int), (_ : Int), (_ : Int), (h : Int), _), ((u : Int), (v : Int), _), _, _), _) => .tup [.si .i64 (grV (boxP (widOf x) l h u v) most), .si .i64 (grE (boxP (widOf x) l h u v))]⟩
def sfgrI : DatL [.int .i64, .fn 48 [] sfoCap] → Anns := fun ((most : Int), (_, (x, _), ((l : Int), (_ : Int), (_ : Int), (_ : Int), (h : Int), _), ((u : Int), (v : Int), _), _, _), _) => [
  (4, [], fun fr hp => ⟨Int × Int, fun (lo, hi) => ⟨frI [.k 6, .s (.si .i64 lo), .s (.si .i64 hi), .t 1, .k 4, .t 14, .k 1] fr, hp⟩, (Int → Bool) × Int × Int × Int, fun (lo, hi) => (boxP (widOf x) l h u v, most, lo, hi), fun (p, most, lo, hi) => BsInv p most lo hi, fun (lo, hi) => nat (isub hi lo)⟩)]
set_option maxRecDepth 100000 in
set_option maxHeartbeats 4000000 in
theorem sfgr_ok : FnSpec Tryz.prog 47 _ sfgr := by
  refine FnSpec.of SQa_ok mixed (U := 0) (I := sfgrI) Tryz.func47 rfl (by kernel_rfl) rfl rfl (by decide +kernel) ?_
  rintro ⟨(most : Int), ⟨y, ⟨x, ⟨⟩⟩, ⟨(l : Int), (q : Int), (o : Int), (w : Int), (h : Int), ⟨⟩⟩, ⟨(u : Int), (v : Int), ⟨⟩⟩, ⟨⟨m, em⟩, ⟨⟩⟩, ⟨⟩⟩, ⟨⟩⟩ hpre
  obtain ⟨x, rfl⟩ := wid_ex x
  obtain ⟨bl, bh, rfl⟩ : ∃ bl bh : Nat → Int, em = fun k => (bl k, bh k, ()) := ⟨fun k => (em k).1, fun k => (em k).2.1, rfl⟩
  have hpre : WidOK x ∧ m = 5 ∧ bl 0 = x.bl 0 ∧ insV 0 u v 400000 = true ∧ 0 ≤ most ∧ most ≤ 1048576 := by have : WidOK (widOf (widD x)) ∧ m = 5 ∧ bl 0 = (widOf (widD x)).bl 0 ∧ insV 0 u v 400000 = true ∧ 0 ≤ most ∧ most ≤ 1048576 := hpre; rwa [widOf_D] at this
  obtain ⟨hx, rfl, e0, hu, m1, m2⟩ := hpre
  unfold FnSat
  conv => arg 2; reduce
  simp [-Bool.forall_bool, sfgr, sfo1, and_assoc]
  refine ⟨hx, e0, hu, gr_no, fun hp => ?_⟩
  have hm := box_mono hx m1 hp
  refine ⟨⟨by omega, by omega, by omega, hp, fun i j1 j2 => by omega⟩, fun lo hi hb => ⟨fun hlt => ?_, fun hge => bs_fin hb hm hge⟩⟩
  have q1 := hb.a
  have q2 := hb.c
  have md := mid_b q1 hlt
  exact ⟨by omega, by omega, by omega, by omega, by omega, by omega, hx, e0, hu, by omega, by omega, fun hq => ⟨bs_up hb md.1 md.2 hq, by omega⟩, fun hq => ⟨by omega, by omega, bs_dn hb hm md.1 md.2 hq, by omega⟩⟩
noncomputable def SQb : Sums := ⟨(36, mkSum _ chkS) :: (47, mkSum _ sfgr) :: SQa.one, SQa.two, SQa.lo, SQa.eqs, SQa.its, SQa.imm⟩
theorem SQb_ok : SumsOK Tryz.prog SQb := ((SQa_ok.cons Tryz.func47 (by kernel_rfl) (by kernel_rfl) sfgr_ok).cons Tryz.func36 (by kernel_rfl) (by kernel_rfl) chk_ok)
end
end Abs
end Go.Proofs.YthpigoanppehbaaGreat

/- The greatest current that is safe for a box, by the program: SafeOut. -/
namespace Go.Proofs.YthpigoanppehbaaGreat
namespace Abs
open Go Go.RowKit
noncomputable section
attribute [local irreducible] FnSat
set_option maxRecDepth 100000 in
set_option maxHeartbeats 8000000 in
theorem sfo_ok : FnSpec Tryz.prog 15 _ sfoS := by
  refine FnSpec.of SQb_ok mixed (U := 0) (I := fun _ => []) Tryz.func15 rfl (by kernel_rfl) rfl rfl (by decide +kernel) ?_
  rintro ⟨c, ⟨n, el⟩, ⟨m, em⟩, ⟨(l : Int), (q : Int), (o : Int), (w : Int), (hh : Int), ⟨⟩⟩, ⟨(u : Int), (v : Int), ⟨⟩⟩, ⟨⟩⟩ hpre
  obtain ⟨c, rfl⟩ := cel_ex c
  obtain ⟨lo, hi, rfl⟩ : ∃ lo hi : Nat → Int, el = fun k => (lo k, hi k, ()) := ⟨fun k => (el k).1, fun k => (el k).2.1, rfl⟩
  obtain ⟨bl, bh, rfl⟩ : ∃ bl bh : Nat → Int, em = fun k => (bl k, bh k, ()) := ⟨fun k => (em k).1, fun k => (em k).2.1, rfl⟩
  have hpre : CelMax c ∧ n ≤ maxLen ∧ m ≤ maxLen := by have : CelMax (celOf (celD c)) ∧ n ≤ maxLen ∧ m ≤ maxLen := hpre; rwa [celOf_D] at this
  obtain ⟨hc, hn, hm⟩ := hpre
  unfold FnSat
  conv => arg 2; reduce
  simp [-Bool.forall_bool, sfoS, chkS, limS, insC, sprS, sfgr, ElEq, getB, goneB, aliveB, and_assoc]
  have oE : ∀ e b, ¬ e = 0 → ¬ orE e b 2 = 0 := fun e b h => by rw [orE_e h]; exact h
  refine ⟨hc, hn, hm, fun h => ?_, fun h => ⟨fun hb => ?_, fun hb => ⟨fun hu => ?_, fun hu => ?_⟩⟩⟩
  · have e : orE (orE (chkV c n lo hi m bl bh) (limB l q o w hh) 2) (insV 0 u v 400000) 2 = chkV c n lo hi m bl bh := by rw [orE_e (oE _ _ h), orE_e h]
    have := so_e (most := o) (p := boxP (widV c lo hi m bl bh) l hh u v) (e := orE (orE (chkV c n lo hi m bl bh) (limB l q o w hh) 2) (insV 0 u v 400000) 2) (by rw [e]; exact h)
    exact ⟨this.1, e.symm.trans this.2⟩
  · have e : orE (orE (chkV c n lo hi m bl bh) (limB l q o w hh) 2) (insV 0 u v 400000) 2 = 2 := by rw [orE_e (e := orE (chkV c n lo hi m bl bh) (limB l q o w hh) 2) (by rw [orE_f h hb]; decide), orE_f h hb]
    have := so_e (most := o) (p := boxP (widV c lo hi m bl bh) l hh u v) (e := orE (orE (chkV c n lo hi m bl bh) (limB l q o w hh) 2) (insV 0 u v 400000) 2) (by rw [e]; decide)
    refine ⟨this.1, ?_⟩
    rw [hb, errA_false]
    rw [hb] at e this
    exact e.symm.trans this.2
  · have e : orE (orE (chkV c n lo hi m bl bh) (limB l q o w hh) 2) (insV 0 u v 400000) 2 = 2 := by rw [orE_f (orE_t h hb) hu]
    have := so_e (most := o) (p := boxP (widV c lo hi m bl bh) l hh u v) (e := orE (orE (chkV c n lo hi m bl bh) (limB l q o w hh) 2) (insV 0 u v 400000) 2) (by rw [e]; decide)
    exact ⟨this.1, e.symm.trans this.2⟩
  · have e : orE (orE (chkV c n lo hi m bl bh) (limB l q o w hh) 2) (insV 0 u v 400000) 2 = 0 := by rw [orE_t (orE_t h hb) hu]
    obtain ⟨z1, z2⟩ := so_0 (most := o) (p := boxP (widV c lo hi m bl bh) l hh u v) e
    have lb := limB_iff.1 hb
    have h' : chkV c n lo hi m bl bh = 0 := h
    obtain ⟨k1, k2⟩ := chkV_zero.1 h'
    exact ⟨k1, k2, wid_of (chk_iff.1 h'), (chk_iff.1 h').m, by rw [widV_bl], hu, by omega, by omega, z1, z2⟩
end
end Abs
end Go.Proofs.YthpigoanppehbaaGreat

/- A part of the proof: no statement of its own. -/
import Derived.Test.YtlabbaglbcmofaaGreatQGd251ed88
set_option linter.unusedSimpArgs false
set_option linter.unusedVariables false
namespace Go.Proofs.YtlabbaglbcmofaaGreat
namespace Abs
open Go Go.RowKit
noncomputable section
attribute [local irreducible] FnSat
theorem mx_c (a b : Int) : mxI a b = mxI b a := by unfold mxI; omega
theorem mn_c (a b : Int) : mnI a b = mnI b a := by unfold mnI; omega
@[irreducible] def rcH (w : Wt) (n : Nat) (lo hi : Nat -> Int) (c0 c1 a0 a1 : Int) : Int := max (chH w n lo hi c0 c1 a1) (chL w n lo hi c0 c1 a0 - 1)
theorem fst_sub {p : Int -> Bool} {s N f : Int} (hm : MonoZ p s N) (h1 : s <= f) (h2 : f <= s + N) : fstZ p f (s + N - f).toNat = max f (fstZ p s N.toNat) := by
 obtain ⟨g1, g2, g3, g4⟩ := fstZ_in p N.toNat s
 refine fstZ_eq (by omega) (by omega) (fun y y1 y2 => g3 y (by omega) (by omega)) (fun h => ?_)
 have hx : p (fstZ p s N.toNat) = true := g4 (by omega)
 exact hm.mono _ _ g1 (by omega) (by omega) hx
theorem ch_eq {w : Wt} {n : Nat} {lo hi : Nat -> Int} {c0 c1 a0 a1 : Int} : chL w n lo hi c0 c1 a0 <= rcH w n lo hi c0 c1 a0 a1 ↔ chL w n lo hi c0 c1 a0 <= chH w n lo hi c0 c1 a1 := by unfold rcH; omega
theorem rcH_is {w : Wt} {n : Nat} {lo hi : Nat -> Int} {c0 c1 a0 a1 : Int} (h : chL w n lo hi c0 c1 a0 <= chH w n lo hi c0 c1 a1) : rcH w n lo hi c0 c1 a0 a1 = chH w n lo hi c0 c1 a1 := by unfold rcH; omega
def cutS : Spec [.ptr rewCells, spansSh, spanSh, spanSh] := ⟨fun (x, (n, el), ((c0 : Int), (c1 : Int), _), ((a0 : Int), (a1 : Int), _), _) => LkOK x n /\ 0 <= (el 0).1 /\ (el 0).1 <= (el 0).2.1 /\ (el 0).2.1 <= 4294967296 /\
   MonoZ (pA (ewOf x).w n (fun j => (el j).1) (fun j => (el j).2.1) c0 c1 a0) (el 0).1 ((el 0).2.1 - (el 0).1 + 1) /\ MonoZ (pB (ewOf x).w n (fun j => (el j).1) (fun j => (el j).2.1) c0 c1 a1) (el 0).1 ((el 0).2.1 - (el 0).1 + 1),
 fun (x, (n, el), ((c0 : Int), (c1 : Int), _), ((a0 : Int), (a1 : Int), _), _) => .tup [.agg [.si .i64 (chL (ewOf x).w n (fun j => (el j).1) (fun j => (el j).2.1) c0 c1 a0), .si .i64 (rcH (ewOf x).w n (fun j => (el j).1) (fun j => (el j).2.1) c0 c1 a0 a1)], .sb (ile (chL (ewOf x).w n (fun j => (el j).1) (fun j => (el j).2.1) c0 c1 a0) (rcH (ewOf x).w n (fun j => (el j).1) (fun j => (el j).2.1) c0 c1 a0 a1))]⟩
def cutI : DatL [.ptr rewCells, spansSh, spanSh, spanSh] -> Anns := fun (x, (n, el), ((c0 : Int), (c1 : Int), _), ((a0 : Int), (a1 : Int), _), _) => [
 (3, [], fun fr hp => ⟨Int × Int, fun (i, j) => ⟨frI [.k 10, .s (.si .i64 i), .s (.si .i64 j), .t 64] fr, hp⟩, (Int -> Bool) × Int × Int × Int × Int, fun (i, j) => (pA (ewOf x).w n (fun j => (el j).1) (fun j => (el j).2.1) c0 c1 a0, (el 0).1, (el 0).2.1, i, j), fun (p, s, e, i, j) => SrInv p s (e - s + 1) (i - s) (j - s), fun (i, j) => nat (isub j i)⟩),
 (10, [], fun fr hp => ⟨Int × Int × Int, fun (f, i, j) => ⟨frI [.k 10, .s (.si .i64 i), .s (.si .i64 j), .t 1, .s (.si .i64 f), .t 62] fr, hp⟩, (Int -> Bool) × Int × Int × Int × Int × Int, fun (f, i, j) => (pB (ewOf x).w n (fun j => (el j).1) (fun j => (el j).2.1) c0 c1 a1, chL (ewOf x).w n (fun j => (el j).1) (fun j => (el j).2.1) c0 c1 a0, (el 0).2.1, f, i, j), fun (p, c, e, f, i, j) => f = c /\ SrInv p f (e + 1 - f) (i - f) (j - f), fun (_, i, j) => nat (isub j i)⟩)]
set_option maxRecDepth 100000 in
set_option maxHeartbeats 4000000 in
theorem cut_ok : FnSpec Tryz.prog 125 _ cutS := by
 refine FnSpec.of Srd_ok mixed (U := 0) (I := cutI) Tryz.func125 rfl (by kernel_rfl) rfl rfl (by decide +kernel) ?_
 rintro ⟨x, ⟨n, el⟩, ⟨(c0 : Int), (c1 : Int), ⟨⟩⟩, ⟨(a0 : Int), (a1 : Int), ⟨⟩⟩, ⟨⟩⟩ hpre
 obtain ⟨e, rfl⟩ := ew_ex x
 obtain ⟨lo, hi, rfl⟩ : ∃ lo hi : Nat -> Int, el = fun k => (lo k, hi k, ()) := ⟨fun k => (el k).1, fun k => (el k).2.1, rfl⟩
 have hpre : LkOK (ewD e) n /\ 0 <= lo 0 /\ lo 0 <= hi 0 /\ hi 0 <= 4294967296 /\ MonoZ (pA e.w n lo hi c0 c1 a0) (lo 0) (hi 0 - lo 0 + 1) /\ MonoZ (pB e.w n lo hi c0 c1 a1) (lo 0) (hi 0 - lo 0 + 1) := by
  have : LkOK (ewD e) n /\ 0 <= lo 0 /\ lo 0 <= hi 0 /\ hi 0 <= 4294967296 /\ MonoZ (pA (ewOf (ewD e)).w n lo hi c0 c1 a0) (lo 0) (hi 0 - lo 0 + 1) /\ MonoZ (pB (ewOf (ewD e)).w n lo hi c0 c1 a1) (lo 0) (hi 0 - lo 0 + 1) := hpre
  rwa [ewOf_D] at this
 obtain ⟨hk, h1, h2, h3, h4, h5⟩ := hpre
 unfold FnSat
 conv => arg 2; reduce
 simp [-Bool.forall_bool, cutS, rvltS, divS, and_assoc]
 have dv : ∀ x : Int, dvI x 2 = x / 2 := fun x => by unfold dvI; rfl
 simp only [dv]
 have hn := hk.2.2.1
 have eL : chL e.w n lo hi c0 c1 a0 = fstZ (pA e.w n lo hi c0 c1 a0) (lo 0) (hi 0 - lo 0 + 1).toNat := by unfold chL; rfl
 have eH : chH e.w n lo hi c0 c1 a1 = fstZ (pB e.w n lo hi c0 c1 a1) (lo 0) (hi 0 - lo 0 + 1).toNat - 1 := by unfold chH; rfl
 have eR : rcH e.w n lo hi c0 c1 a0 a1 = max (chH e.w n lo hi c0 c1 a1) (chL e.w n lo hi c0 c1 a0 - 1) := by unfold rcH; rfl
 have pAt : ∀ c, (pA e.w n lo hi c0 c1 a0 c = true ↔ a0 <= vbH e.w n (upB 0 c lo) (upB 0 c hi) c0 c1) := fun c => by unfold pA; simp
 have pBt : ∀ c, (pB e.w n lo hi c0 c1 a1 c = true ↔ a1 < vbL e.w n (upB 0 c lo) (upB 0 c hi) c0 c1) := fun c => by unfold pB; simp
 have e1 : (fun j => lo j) = lo := rfl
 have e2 : (fun j => hi j) = hi := rfl
 simp only [e1, e2]
 have hfA := fstZ_in (pA e.w n lo hi c0 c1 a0) (hi 0 - lo 0 + 1).toNat (lo 0)
 generalize hPA : pA e.w n lo hi c0 c1 a0 = PA at *
 generalize hPB : pB e.w n lo hi c0 c1 a1 = PB at *
 generalize hXL : chL e.w n lo hi c0 c1 a0 = XL at *
 generalize hXH : chH e.w n lo hi c0 c1 a1 = XH at *
 generalize hXR : rcH e.w n lo hi c0 c1 a0 a1 = XR at *
 have no : ∀ {p : Int -> Bool} {c : Int} {q : Prop}, (p c = true ↔ q) -> ¬ q -> p c = false := fun {p c q} h hq => by
  cases hb : p c with
  | false => rfl
  | true => exact absurd (h.1 hb) hq
 have hmB : ∀ f, lo 0 <= f -> f <= hi 0 + 1 -> MonoZ PB f (hi 0 + 1 - f) := fun f f1 f2 => ⟨fun i j i1 i2 i3 hp => h5.mono i j (by omega) i2 (by omega) hp⟩
 refine ⟨hn, by omega, by omega, ?_, fun a b hab => ⟨fun hlt => ?_, fun hge => ?_⟩⟩
 ·have := sr_init (p := PA) (s := lo 0) (N := hi 0 - lo 0 + 1) (by omega)
  rwa [show hi 0 + 1 - lo 0 = hi 0 - lo 0 + 1 by omega]
 ·have q1 := hab.a
  have q3 := hab.c
  have m1 : a <= (a + b) / 2 := by omega
  have m2 : (a + b) / 2 < b := by omega
  generalize (a + b) / 2 = m at *
  have em : lo 0 + (m - lo 0) = m := by omega
  refine ⟨by omega, by omega, by omega, by omega, hk, fun hp => ⟨sr_dn hab h4 (by omega) (by omega) (by rw [em]; exact (pAt m).2 hp), by omega⟩, fun hp => ⟨by omega, by omega, ?_, by omega⟩⟩
  have := sr_up hab h4 (m := m - lo 0) (by omega) (by omega) (by rw [em]; exact no (pAt m) (by omega))
  rwa [show m + 1 - lo 0 = m - lo 0 + 1 by omega]
 ·have q1 := hab.a
  have q2 := hab.b
  have q3 := hab.c
  have f1 := sr_fin hab (by omega)
  have ea : a = XL := by omega
  refine ⟨hn, by omega, by omega, ea, ?_, fun f i j hf hij => ⟨fun hlt => ?_, fun hge => ?_⟩⟩
  ·exact sr_init (by omega)
  ·have r1 := hij.a
   have r3 := hij.c
   have m1 : i <= (i + j) / 2 := by omega
   have m2 : (i + j) / 2 < j := by omega
   generalize (i + j) / 2 = m at *
   have em : f + (m - f) = m := by omega
   have hm := hmB f (by omega) (by omega)
   refine ⟨by omega, by omega, by omega, by omega, hk, fun hp => ⟨hf, sr_dn hij hm (by omega) (by omega) (by rw [em]; exact (pBt m).2 hp), by omega⟩, fun hp => ⟨by omega, by omega, hf, ?_, by omega⟩⟩
   have := sr_up hij hm (m := m - f) (by omega) (by omega) (by rw [em]; exact no (pBt m) (by omega))
   rwa [show m + 1 - f = m - f + 1 by omega]
  ·have r1 := hij.a
   have r2 := hij.b
   have r3 := hij.c
   have g1 := sr_fin hij (by omega)
   have g2 := fst_sub (f := f) h5 (by omega) (by omega)
   rw [show lo 0 + (hi 0 - lo 0 + 1) - f = hi 0 + 1 - f by omega] at g2
   have : i - 1 = XR := by omega
   exact ⟨by omega, by omega, by omega, by omega, hf, this, by omega⟩
def rmtS : Spec [spanSh, spanSh] := ⟨fun _ => True, fun (((a : Int), (b : Int), _), ((c : Int), (d : Int), _), _) => .tup [.agg [.si .i64 (mxI a c), .si .i64 (mnI b d)], .sb (ile (mxI a c) (mnI b d))]⟩
def rmtI : DatL [spanSh, spanSh] -> Anns := fun _ => [(2097154, [(6, 0, 0)], fun _ _ => unitA), (4194306, [], fun _ _ => unitA)]
set_option maxRecDepth 100000 in
theorem rmt_ok : FnSpec Tryz.prog 123 _ rmtS := by
 refine FnSpec.of Srd_ok mixed (U := 0) (I := rmtI) Tryz.func123 rfl (by kernel_rfl) rfl rfl (by decide +kernel) ?_
 rintro ⟨⟨(a : Int), (b : Int), ⟨⟩⟩, ⟨(c : Int), (d : Int), ⟨⟩⟩, ⟨⟩⟩ -
 unfold FnSat
 conv => arg 2; reduce
 simp [rmtS]
 unfold mxI mnI
 simp
noncomputable def Sre : Sums := ⟨(123, mkSum _ rmtS) :: (125, mkSum _ cutS) :: Srd.one, Srd.two, Srd.lo, Srd.eqs, Srd.its, Srd.imm⟩
theorem Sre_ok : SumsOK Tryz.prog Sre := ((Srd_ok.cons Tryz.func125 (by kernel_rfl) (by kernel_rfl) cut_ok).cons Tryz.func123 (by kernel_rfl) (by kernel_rfl) rmt_ok)
@[irreducible] def tlN (e : Ew) (a0 a1 a2 a3 a4 a5 a6 a7 : Int) : Nat := if tlB e a0 a1 a2 a3 a4 a5 a6 a7 = true then e.n else 0
@[irreducible] def shL (e : Ew) (a0 a1 a2 a3 a4 a5 : Int) : Nat -> Int := t3L e a0 a1 a2 a3 a4 a5
@[irreducible] def shH (e : Ew) (a0 a1 a2 a3 a4 a5 : Int) : Nat -> Int := t3H e a0 a1 a2 a3 a4 a5
@[reducible] def sp4Sh : Sh := .agg [.int .i64, .int .i64, .int .i64, .int .i64, .int .i64, .int .i64, .int .i64, .int .i64]
def shrF : SpecF [.cells 61 rewCells] [.own 0 0, sp4Sh] := ⟨fun (x, _) (_, ((a0 : Int), (a1 : Int), _), _) => EwOK (ewOf x) /\ -4398046511104 <= a0 /\ a0 <= 4398046511104 /\ -4398046511104 <= a1 /\ a1 <= 4398046511104,
 fun (x, _) (_, ((a0 : Int), (a1 : Int), (a2 : Int), (a3 : Int), (a4 : Int), (a5 : Int), (a6 : Int), (a7 : Int), _), _) => .tup [.slc (.sym (tlN (ewOf x) a0 a1 a2 a3 a4 a5 a6 a7)) 2 (fun k => [.si .i64 (shL (ewOf x) a0 a1 a2 a3 a4 a5 k), .si .i64 (shH (ewOf x) a0 a1 a2 a3 a4 a5 k)]),
  .agg [.si .i64 (mxI (ewOf x).w.cl a2), .si .i64 (mnI (ewOf x).w.ch a3)], .agg [.si .i64 (mxI (ewOf x).w.al a6), .si .i64 (mnI (ewOf x).w.ah a7)], .sb (tlB (ewOf x) a0 a1 a2 a3 a4 a5 a6 a7)],
 fun (x, _) _ => [.cells 61 (encL rewCells x)]⟩
def shrI : DatH [.cells 61 rewCells] -> DatL [.own 0 0, sp4Sh] -> Anns := fun _ _ => [(2097158, [(9, 0, 0), (11, 0, 0)], fun _ _ => unitA), (4194310, [], fun _ _ => unitA), (2097162, [(9, 0, 0), (11, 0, 0)], fun _ _ => unitA), (4194314, [], fun _ _ => unitA),
 (2097167, [(9, 0, 0), (11, 0, 0)], fun _ _ => unitA), (4194319, [], fun _ _ => unitA), (2097168, [(9, 0, 0), (11, 0, 0), (18, 0, 0)], fun _ _ => unitA), (4194320, [], fun _ _ => unitA)]
set_option maxRecDepth 100000 in
set_option maxHeartbeats 8000000 in
theorem shr_ok : FnSpecF Tryz.prog 60 _ _ shrF := by
 refine FnSpecF.of Sre_ok mixed (U := 0) (I := shrI) Tryz.func60 rfl (by kernel_rfl) rfl (by decide +kernel) ?_
 rintro ⟨x, ⟨⟩⟩ ⟨⟨⟩, ⟨(a0 : Int), (a1 : Int), (a2 : Int), (a3 : Int), (a4 : Int), (a5 : Int), (a6 : Int), (a7 : Int), ⟨⟩⟩, ⟨⟩⟩ hpre
 obtain ⟨e, rfl⟩ := ew_ex x
 have hpre : EwOK e /\ -4398046511104 <= a0 /\ a0 <= 4398046511104 /\ -4398046511104 <= a1 /\ a1 <= 4398046511104 := by have : EwOK (ewOf (ewD e)) /\ -4398046511104 <= a0 /\ a0 <= 4398046511104 /\ -4398046511104 <= a1 /\ a1 <= 4398046511104 := hpre; rwa [ewOf_D] at this
 obtain ⟨hk, g0, g1, g2, g3⟩ := hpre
 have eA : shrF.after (ewD e, PUnit.unit) (PUnit.unit, (a0, a1, a2, a3, a4, a5, a6, a7, PUnit.unit), PUnit.unit) = [.cells 61 (ewCs e.w e.n e.l e.h e.tk e.gn)] := rfl
 rw [eA]
 have eH : encH [OB.cells 61 rewCells] (ewD e, PUnit.unit) = [.cells 61 (ewCs e.w e.n e.l e.h e.tk e.gn)] := rfl
 rw [eH]
 unfold FnSat
 conv => arg 2; reduce
 simp [-Bool.forall_bool, shrF, rmtS, wthS, cutS, vbS, vbL_fold, vbH_fold, ewCs, encH, encB, ElEq, getB, goneB, aliveB, VC.sat, and_assoc]
 rw [mx_c a2 e.w.cl, mn_c a3 e.w.ch, mx_c a6 e.w.al, mn_c a7 e.w.ah]
 have h5 := ew_five hk
 have hT := hk.chk.n
 have F : tlB e a0 a1 a2 a3 a4 a5 a6 a7 = false -> tlN e a0 a1 a2 a3 a4 a5 a6 a7 = 0 /\ mxI e.w.cl a2 = mxI e.w.cl a2 /\ mnI e.w.ch a3 = mnI e.w.ch a3 /\ mxI e.w.al a6 = mxI e.w.al a6 /\ mnI e.w.ah a7 = mnI e.w.ah a7 /\ tlB e a0 a1 a2 a3 a4 a5 a6 a7 = false := fun h => ⟨by unfold tlN; rw [h]; simp, rfl, rfl, rfl, rfl, h⟩
 have hLk : LkOK (ewD e) e.n := by
  show CelMax (ewOf (ewD e)).w.cel /\ (ewOf (ewD e)).w.tn <= maxLen /\ 0 < e.n /\ e.n <= 1048576
  rw [ewOf_D]
  exact ⟨hk.big, by rw [hT]; unfold maxLen; omega, by omega, by omega⟩
 have eW : inpW e.w a2 a3 a6 a7 = true ↔ mxI e.w.cl a2 <= mnI e.w.ch a3 /\ mxI e.w.al a6 <= mnI e.w.ah a7 := by
  unfold inpW inA mxI mnI
  simp
 refine ⟨by omega, fun h => F (tlB_no fun hb => ?_), fun h1 h2 h3 => ?_⟩
 ·obtain ⟨b1, b2, _⟩ := tlB_iff.1 hb
  obtain ⟨b3, b4⟩ := eW.1 b1
  omega
 have hi := eW.2 ⟨h1, h2⟩
 obtain ⟨c1, c2⟩ := ckI hk hi
 have k1 := ck1 hk h3
 have b1 := k1.bx
 refine ⟨by omega, by omega, hLk, b1.q0, b1.q1, b1.q2, pA_mono k1 c1, pB_mono k1 c1, fun h => F (tlB_no fun hb => ?_), fun h => ?_⟩
 ·have h4 : rcH e.w e.n (t1L e a4) (t1H e a5) (mxI e.w.cl a2) (mnI e.w.ch a3) a0 a1 < chL e.w e.n (t1L e a4) (t1H e a5) (mxI e.w.cl a2) (mnI e.w.ch a3) a0 := h
  have h6 := (ch_eq (a0 := a0) (a1 := a1)).2 (tlB_iff.1 hb).2.2.1
  omega
 have hc := (ch_eq (w := e.w) (n := e.n) (lo := t1L e a4) (hi := t1H e a5) (c0 := mxI e.w.cl a2) (c1 := mnI e.w.ch a3) (a0 := a0) (a1 := a1)).1 h
 have hR := rcH_is hc
 have hR : rcH e.w e.n (fun j => upB 2 (mxI (e.l 2) a4) (fun j => e.l j) j) (fun j => upB 2 (mnI (e.h 2) a5) (fun j => e.h j) j) (mxI e.w.cl a2) (mnI e.w.ch a3) a0 a1 = chH e.w e.n (t1L e a4) (t1H e a5) (mxI e.w.cl a2) (mnI e.w.ch a3) a1 := hR
 rw [hR]
 have k2 := ck2 k1 hc
 obtain ⟨r1, r2, r3, r4⟩ : -2147483648 <= vbL e.w e.n (upB 1 0 (t2L e a0 a2 a3 a4 a5)) (upB 1 0 (t2H e a1 a2 a3 a4 a5)) (mxI e.w.cl a2) (mnI e.w.ch a3) /\ vbL e.w e.n (upB 1 0 (t2L e a0 a2 a3 a4 a5)) (upB 1 0 (t2H e a1 a2 a3 a4 a5)) (mxI e.w.cl a2) (mnI e.w.ch a3) <= 2147483648 /\ -2147483648 <= vbH e.w e.n (upB 1 0 (t2L e a0 a2 a3 a4 a5)) (upB 1 0 (t2H e a1 a2 a3 a4 a5)) (mxI e.w.cl a2) (mnI e.w.ch a3) /\ vbH e.w e.n (upB 1 0 (t2L e a0 a2 a3 a4 a5)) (upB 1 0 (t2H e a1 a2 a3 a4 a5)) (mxI e.w.cl a2) (mnI e.w.ch a3) <= 2147483648 := ck4 k2 c1
 have X1 : mxI (t2L e a0 a2 a3 a4 a5 1) (vbL e.w e.n (upB 1 0 (t2L e a0 a2 a3 a4 a5)) (upB 1 0 (t2H e a1 a2 a3 a4 a5)) (mxI e.w.cl a2) (mnI e.w.ch a3) - a1) = rxL e.w e.n (t2L e a0 a2 a3 a4 a5) (t2H e a1 a2 a3 a4 a5) (mxI e.w.cl a2) (mnI e.w.ch a3) a1 := by unfold mxI rxL; rfl
 have X2 : mnI (t2H e a1 a2 a3 a4 a5 1) (vbH e.w e.n (upB 1 0 (t2L e a0 a2 a3 a4 a5)) (upB 1 0 (t2H e a1 a2 a3 a4 a5)) (mxI e.w.cl a2) (mnI e.w.ch a3) - a0) = rxH e.w e.n (t2L e a0 a2 a3 a4 a5) (t2H e a1 a2 a3 a4 a5) (mxI e.w.cl a2) (mnI e.w.ch a3) a0 := by unfold mnI rxH; rfl
 have key : -9223372036854775808 <= vbL e.w e.n (upB 1 0 (t2L e a0 a2 a3 a4 a5)) (upB 1 0 (t2H e a1 a2 a3 a4 a5)) (mxI e.w.cl a2) (mnI e.w.ch a3) - a1 /\ vbL e.w e.n (upB 1 0 (t2L e a0 a2 a3 a4 a5)) (upB 1 0 (t2H e a1 a2 a3 a4 a5)) (mxI e.w.cl a2) (mnI e.w.ch a3) - a1 <= 9223372036854775807 /\
   -9223372036854775808 <= vbH e.w e.n (upB 1 0 (t2L e a0 a2 a3 a4 a5)) (upB 1 0 (t2H e a1 a2 a3 a4 a5)) (mxI e.w.cl a2) (mnI e.w.ch a3) - a0 /\ vbH e.w e.n (upB 1 0 (t2L e a0 a2 a3 a4 a5)) (upB 1 0 (t2H e a1 a2 a3 a4 a5)) (mxI e.w.cl a2) (mnI e.w.ch a3) - a0 <= 9223372036854775807 /\
   (mnI (t2H e a1 a2 a3 a4 a5 1) (vbH e.w e.n (upB 1 0 (t2L e a0 a2 a3 a4 a5)) (upB 1 0 (t2H e a1 a2 a3 a4 a5)) (mxI e.w.cl a2) (mnI e.w.ch a3) - a0) < mxI (t2L e a0 a2 a3 a4 a5 1) (vbL e.w e.n (upB 1 0 (t2L e a0 a2 a3 a4 a5)) (upB 1 0 (t2H e a1 a2 a3 a4 a5)) (mxI e.w.cl a2) (mnI e.w.ch a3) - a1) ->
    tlN e a0 a1 a2 a3 a4 a5 a6 a7 = 0 /\ mxI e.w.cl a2 = mxI e.w.cl a2 /\ mnI e.w.ch a3 = mnI e.w.ch a3 /\ mxI e.w.al a6 = mxI e.w.al a6 /\ mnI e.w.ah a7 = mnI e.w.ah a7 /\ tlB e a0 a1 a2 a3 a4 a5 a6 a7 = false) /\
   (mxI (t2L e a0 a2 a3 a4 a5 1) (vbL e.w e.n (upB 1 0 (t2L e a0 a2 a3 a4 a5)) (upB 1 0 (t2H e a1 a2 a3 a4 a5)) (mxI e.w.cl a2) (mnI e.w.ch a3) - a1) <= mnI (t2H e a1 a2 a3 a4 a5 1) (vbH e.w e.n (upB 1 0 (t2L e a0 a2 a3 a4 a5)) (upB 1 0 (t2H e a1 a2 a3 a4 a5)) (mxI e.w.cl a2) (mnI e.w.ch a3) - a0) ->
    e.n <= 1048576 /\ 1 < (e.n : Int) /\ e.n = tlN e a0 a1 a2 a3 a4 a5 a6 a7 /\ (∀ (j : Nat), j < tlN e a0 a1 a2 a3 a4 a5 a6 a7 -> upB 1 (mxI (t2L e a0 a2 a3 a4 a5 1) (vbL e.w e.n (upB 1 0 (t2L e a0 a2 a3 a4 a5)) (upB 1 0 (t2H e a1 a2 a3 a4 a5)) (mxI e.w.cl a2) (mnI e.w.ch a3) - a1)) (t2L e a0 a2 a3 a4 a5) j = shL e a0 a1 a2 a3 a4 a5 j /\
     upB 1 (mnI (t2H e a1 a2 a3 a4 a5 1) (vbH e.w e.n (upB 1 0 (t2L e a0 a2 a3 a4 a5)) (upB 1 0 (t2H e a1 a2 a3 a4 a5)) (mxI e.w.cl a2) (mnI e.w.ch a3) - a0)) (t2H e a1 a2 a3 a4 a5) j = shH e a0 a1 a2 a3 a4 a5 j) /\
    mxI e.w.cl a2 = mxI e.w.cl a2 /\ mnI e.w.ch a3 = mnI e.w.ch a3 /\ mxI e.w.al a6 = mxI e.w.al a6 /\ mnI e.w.ah a7 = mnI e.w.ah a7 /\ tlB e a0 a1 a2 a3 a4 a5 a6 a7 = true) := by
  rw [X1, X2]
  refine ⟨by omega, by omega, by omega, by omega, fun h => F (tlB_no fun hb => absurd (tlB_iff.1 hb).2.2.2 (Int.not_le.2 h)), fun hr => ?_⟩
  have hB := tlB_iff.2 ⟨hi, h3, hc, hr⟩
  have hN : tlN e a0 a1 a2 a3 a4 a5 a6 a7 = e.n := by unfold tlN; rw [hB]; simp
  refine ⟨by omega, by omega, hN.symm, fun j _ => ?_, rfl, rfl, rfl, rfl, hB⟩
  unfold shL shH
  exact ⟨rfl, rfl⟩
 exact ⟨by omega, by omega, by omega, by omega, hk.big, by rw [hT]; unfold maxLen; omega, by rw [h5]; unfold maxLen; omega, by omega, key⟩
noncomputable def Srf : Sums := ⟨Sre.one, (60, mkSumG _ _ shrF) :: Sre.two, Sre.lo, Sre.eqs, Sre.its, Sre.imm⟩
theorem Srf_ok : SumsOK Tryz.prog Srf := Sre_ok.addTwo Tryz.func60 (by kernel_rfl) (by kernel_rfl) (mkSumG_ok shr_ok)
end
end Abs
end Go.Proofs.YtlabbaglbcmofaaGreat

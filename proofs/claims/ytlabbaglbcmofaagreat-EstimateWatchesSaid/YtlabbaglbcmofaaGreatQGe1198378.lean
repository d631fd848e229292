/- A part of the proof: no statement of its own. -/
import Derived.Test.YtlabbaglbcmofaaGreatQG1fd522c5
set_option linter.unusedSimpArgs false
set_option linter.unusedVariables false
namespace Go.Proofs.YtlabbaglbcmofaaGreat
namespace Abs
open Go Go.RowKit
noncomputable section
attribute [local irreducible] FnSat decL
def rewAW (x : EwD) (l h : Nat -> Int) (tk : Int) (gn : Bool) : List AV :=
 let (c0, c1, c2, c3, c4, c5, c6, c7, c8, c9, c10, c11, c12, c13, c14, c15, c16, t, b, i0, i1, i2, i3, i4, i5, i6, i7, i8, i9, i10, i11, i12, i13, i14, i15, i16, i17, i18, i19, i20, s, _) := x
 [.si .i64 c0, .slc (.sym c1.1) 1 (fun k => [.si .i64 (c1.2 k).1]), .slc (.sym c2.1) 1 (fun k => [.si .i64 (c2.2 k).1]), .si .i64 c3, .slc (.sym c4.1) 1 (fun k => [.si .i64 (c4.2 k).1]), .slc (.sym c5.1) 1 (fun k => [.si .i64 (c5.2 k).1]), .si .i64 c6, .si .i64 c7, .si .i64 c8, .si .i64 c9, .si .i64 c10, .si .i64 c11, .slc (.sym c12.1) 1 (fun k => [.si .i64 (c12.2 k).1]), .slc (.sym c13.1) 1 (fun k => [.si .i64 (c13.2 k).1]), .si .i64 c14, .si .i64 c15, .si .i64 c16, .slc (.sym t.1) 2 (fun k => [.si .i64 (t.2 k).1, .si .i64 (t.2 k).2.1]), .slc (.sym b.1) 2 (fun k => [.si .i64 (b.2 k).1, .si .i64 (b.2 k).2.1]), .si .i64 i0, .si .i64 i1, .si .i64 i2, .si .i64 i3, .si .i64 i4, .si .i64 i5, .si .i64 i6, .si .i64 i7, .si .i64 i8, .si .i64 i9, .si .i64 i10, .si .i64 i11, .si .i64 i12, .si .i64 i13, .si .i64 i14, .si .i64 i15, .si .i64 i16, .si .i64 i17, .si .i64 i18, .si .i64 i19, .si .i64 i20, .slc (.sym s.1) 2 (fun k => [.si .i64 (l k), .si .i64 (h k)]), .si .i64 tk, .sb gn]
def rtkF : SpecF [.cells 61 rewCells] [.own 0 0, rdgSh] :=
 ⟨fun (x, _) _ => EwOK (ewOf x),
  fun (x, _) (_, ((h0 : Bool), (h1 : Bool), (h2 : Bool), (h3 : Bool), (v0 : Int), (v1 : Int), (v2 : Int), (v3 : Int), _), _) => .si .i64 (ewE (ewOf x) h0 h1 h2 h3 v0 v1 v2 v3),
  fun (x, _) (_, ((h0 : Bool), (h1 : Bool), (h2 : Bool), (h3 : Bool), (v0 : Int), (v1 : Int), (v2 : Int), (v3 : Int), _), _) => [.cells 61 (rewAW x (ewN (ewOf x) h0 h1 h2 h3 v0 v1 v2 v3).l (ewN (ewOf x) h0 h1 h2 h3 v0 v1 v2 v3).h (ewN (ewOf x) h0 h1 h2 h3 v0 v1 v2 v3).tk (ewN (ewOf x) h0 h1 h2 h3 v0 v1 v2 v3).gn)]⟩
noncomputable def Srg : Sums := ⟨(61, mkSum _ sbS) :: Srf.one, Srf.two, Srf.lo, Srf.eqs, Srf.its, Srf.imm⟩
theorem Srg_ok : SumsOK Tryz.prog Srg := (Srf_ok.cons Tryz.func61 (by kernel_rfl) (by kernel_rfl) rsbx_ok)
def look2 (hp : Heap) (k : Nat) (x y : Int) : Heap :=
 match getB hp 2 with
 | .cells t l => setB hp 2 (.cells t (sel4 k (setL (setL l 0 (.si .i64 x)) 1 (.si .i64 y)) (setL (setL l 2 (.si .i64 x)) 3 (.si .i64 y)) (setL (setL l 4 (.si .i64 x)) 5 (.si .i64 y)) (setL (setL l 6 (.si .i64 x)) 7 (.si .i64 y))))
 | _ => hp
@[reducible] def cutR (e : Ew) (h0 h1 h2 h3 : Bool) (v0 v1 v2 v3 : Int) : List AV -> Heap -> Ann := fun fr hp =>
 ⟨Nat, fun _ => ⟨frI [.k 7, .t 2, .k 6, .t 80] fr, look2 hp (numA (getL fr 6))
   (sel4 (numA (getL fr 6)) (spL h0 e.w.s00 e.w.s01 e.w.s02 e.w.s03 v0) (spL h1 e.w.s10 e.w.s11 e.w.s12 e.w.s13 v1) (spL h2 e.w.s20 e.w.s21 e.w.s22 e.w.s23 v2) (spL h3 e.w.s30 e.w.s31 e.w.s32 e.w.s33 v3))
   (sel4 (numA (getL fr 6)) (spH h0 e.w.s00 e.w.s01 e.w.s02 e.w.s03 v0) (spH h1 e.w.s10 e.w.s11 e.w.s12 e.w.s13 v1) (spH h2 e.w.s20 e.w.s21 e.w.s22 e.w.s23 v2) (spH h3 e.w.s30 e.w.s31 e.w.s32 e.w.s33 v3))⟩,
  Int, fun _ => sel4 (numA (getL fr 6)) (spE h0 e.w.s00 e.w.s01 e.w.s02 e.w.s03 v0) (spE h1 e.w.s10 e.w.s11 e.w.s12 e.w.s13 v1) (spE h2 e.w.s20 e.w.s21 e.w.s22 e.w.s23 v2) (spE h3 e.w.s30 e.w.s31 e.w.s32 e.w.s33 v3), fun z => z = 0, fun _ => 0⟩
theorem cutR_q (e : Ew) (h0 h1 h2 h3 : Bool) (v0 v1 v2 v3 : Int) (fr : List AV) (hp : Heap) (z : Int) : (cutR e h0 h1 h2 h3 v0 v1 v2 v3 fr hp).q z = (z = 0) := rfl
def rtkI : DatH [OB.cells 61 rewCells] -> DatL [.own 0 0, rdgSh] -> Anns := fun (x, _) (_, ((h0 : Bool), (h1 : Bool), (h2 : Bool), (h3 : Bool), (v0 : Int), (v1 : Int), (v2 : Int), (v3 : Int), _), _) => [(1048582, [], cutR (ewOf x) h0 h1 h2 h3 v0 v1 v2 v3)]
set_option maxRecDepth 100000 in
set_option maxHeartbeats 4000000 in
theorem rtk_ok : FnSpecF Tryz.prog 16 _ _ rtkF := by
 refine FnSpecF.of Srg_ok mixed (U := 5) (I := rtkI) Tryz.func16 rfl (by kernel_rfl) rfl (by decide +kernel) ?_
 rintro ⟨x, ⟨⟩⟩ ⟨⟨⟩, ⟨(h0 : Bool), (h1 : Bool), (h2 : Bool), (h3 : Bool), (v0 : Int), (v1 : Int), (v2 : Int), (v3 : Int), ⟨⟩⟩, ⟨⟩⟩ hpre
 obtain ⟨e, rfl⟩ := ew_ex x
 have hk : EwOK e := by have : EwOK (ewOf (ewD e)) := hpre; rwa [ewOf_D] at this
 have eH : encH [OB.cells 61 rewCells] (ewD e, PUnit.unit) = [.cells 61 (ewCs e.w e.n e.l e.h e.tk e.gn)] := rfl
 rw [eH]
 have eI : rtkI (ewD e, PUnit.unit) (PUnit.unit, (h0, h1, h2, h3, v0, v1, v2, v3, PUnit.unit), PUnit.unit) = [(1048582, [], cutR e h0 h1 h2 h3 v0 v1 v2 v3)] := by
  show [(1048582, [], cutR (ewOf (ewD e)) h0 h1 h2 h3 v0 v1 v2 v3)] = _
  rw [ewOf_D]
 rw [eI]
 unfold FnSat
 conv => arg 2; reduce
 simp [-Bool.forall_bool, cutR_q, decL_cons, dec_int, rtkF, shrF, sbS, behind, rewAW, ewCs, encH, encB, ElEq, getB, goneB, aliveB, VC.sat, and_assoc]
 have h5 := ew_five hk
 obtain ⟨_, _, _, _, _, z0, z1, z2, z3⟩ := wcB_iff.1 hk.wat
 refine ⟨fun h => ew_gn h, fun hg => ⟨fun h => ⟨fun hb => ew_bad hg (rd_no fun hz => hb ?_), fun hb => by rw [h, spE_t, spL_t, spH_t]; exact ⟨hb, rfl, rfl⟩⟩, fun h => by rw [h, spE_f, spL_f, spH_f]; exact ⟨rfl, rfl, rfl⟩, fun e0 => ⟨fun h => ⟨fun hb => ew_bad hg (rd_no fun hz => hb ?_), fun hb => by rw [h, spE_t, spL_t, spH_t]; exact ⟨hb, rfl, rfl⟩⟩, fun h => by rw [h, spE_f, spL_f, spH_f]; exact ⟨rfl, rfl, rfl⟩, fun e1 => ⟨fun h => ⟨fun hb => ew_bad hg (rd_no fun hz => hb ?_), fun hb => by rw [h, spE_t, spL_t, spH_t]; exact ⟨hb, rfl, rfl⟩⟩, fun h => by rw [h, spE_f, spL_f, spH_f]; exact ⟨rfl, rfl, rfl⟩, fun e2 => ⟨fun h => ⟨fun hb => ew_bad hg (rd_no fun hz => hb ?_), fun hb => by rw [h, spE_t, spL_t, spH_t]; exact ⟨hb, rfl, rfl⟩⟩, fun h => by rw [h, spE_f, spL_f, spH_f]; exact ⟨rfl, rfl, rfl⟩, fun e3 => ?_⟩⟩⟩⟩⟩
 ·rw [h, spE_t] at hz; exact hz.1
 ·rw [h, spE_t] at hz; exact hz.2.1
 ·rw [h, spE_t] at hz; exact hz.2.2.1
 ·rw [h, spE_t] at hz; exact hz.2.2.2
 have hq := rd_yes e0 e1 e2 e3
 have hA := sp_in (h := h0) (r := v0) z0
 have HL := ew_lost hg hq
 have HF := ew_far hg hq
 have HK := ew_ok hg hq
 generalize ewN e h0 h1 h2 h3 v0 v1 v2 v3 = NW at *
 generalize ewE e h0 h1 h2 h3 v0 v1 v2 v3 = EE at *
 generalize spL h0 e.w.s00 e.w.s01 e.w.s02 e.w.s03 v0 = a0 at *
 generalize spH h0 e.w.s00 e.w.s01 e.w.s02 e.w.s03 v0 = a1 at *
 generalize spL h1 e.w.s10 e.w.s11 e.w.s12 e.w.s13 v1 = a2 at *
 generalize spH h1 e.w.s10 e.w.s11 e.w.s12 e.w.s13 v1 = a3 at *
 generalize spL h2 e.w.s20 e.w.s21 e.w.s22 e.w.s23 v2 = a4 at *
 generalize spH h2 e.w.s20 e.w.s21 e.w.s22 e.w.s23 v2 = a5 at *
 generalize spL h3 e.w.s30 e.w.s31 e.w.s32 e.w.s33 v3 = a6 at *
 generalize spH h3 e.w.s30 e.w.s31 e.w.s32 e.w.s33 v3 = a7 at *
 refine ⟨hk, hA.1, hA.2.1, hA.2.2.1, hA.2.2.2, fun h => HL h, fun hT => ?_⟩
 obtain ⟨hi, ht, hc, hr⟩ := tlB_iff.1 hT
 obtain ⟨c1, c2⟩ := ckI hk hi
 have k3 := ck3 (ck2 (ck1 hk ht) hc) hr
 have eN : tlN e a0 a1 a2 a3 a4 a5 a6 a7 = e.n := by unfold tlN; rw [hT]; simp
 have eL : shL e a0 a1 a2 a3 a4 a5 = t3L e a0 a1 a2 a3 a4 a5 := by unfold shL; rfl
 have eHH : shH e a0 a1 a2 a3 a4 a5 = t3H e a0 a1 a2 a3 a4 a5 := by unfold shH; rfl
 have hiA : inA e.w a2 a3 = true := by unfold inpW at hi; rw [Bool.and_eq_true] at hi; exact hi.1
 have e2' : mxI e.w.al a6 = in2 e.w a2 a3 a6 := by unfold mxI in2; rw [if_pos hiA]
 have e3' : mnI e.w.ah a7 = in3 e.w a2 a3 a7 := by unfold mnI in3; rw [if_pos hiA]
 rw [eN, e2', e3', eL, eHH]
 clear HL eH eI hpre
 obtain ⟨d0, d1, d2, d3⟩ := dec_r4 (mxI e.w.cl a2) (mnI e.w.ch a3) (in2 e.w a2 a3 a6) (in3 e.w a2 a3 a7)
 refine ⟨fun k hk2 => ?_, hk.big, by rw [hk.chk.n]; unfold maxLen; omega, by rw [h5]; unfold maxLen; omega, by unfold maxLen; omega, tk_last hk h5 c1 c2 k3 (HF hT) (HK hT) d0 d1 d2 d3⟩
 have : k = 0 \/ k = 1 := by omega
 rcases this with rfl | rfl <;> first | exact ⟨trivial, trivial, trivial⟩ | trivial | simp [rowAt, CanL, CanSh]
end
end Abs
end Go.Proofs.YtlabbaglbcmofaaGreat

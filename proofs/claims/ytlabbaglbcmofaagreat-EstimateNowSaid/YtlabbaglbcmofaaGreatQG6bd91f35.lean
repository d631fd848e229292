/- A part of the proof: no statement of its own. -/
import Derived.Test.YtlabbaglbcmofaaGreatQG318d9436
set_option linter.unusedSimpArgs false
set_option linter.unusedVariables false
namespace Go.Proofs.YtlabbaglbcmofaaGreat
namespace Abs
open Go Go.RowKit
noncomputable section
attribute [local irreducible] FnSat decL
def ewAW (m : Bool) (x : EwD) (l h : Nat -> Int) (tk : Int) (gn : Bool) : List AV :=
 let (c0, c1, c2, c3, c4, c5, c6, c7, c8, c9, c10, c11, c12, c13, c14, c15, c16, t, b, i0, i1, i2, i3, i4, i5, i6, i7, i8, i9, i10, i11, i12, i13, i14, i15, i16, i17, i18, i19, i20, s, _) := x
 [.sb m, .si .i64 c0, .slc (.sym c1.1) 1 (fun k => [.si .i64 (c1.2 k).1]), .slc (.sym c2.1) 1 (fun k => [.si .i64 (c2.2 k).1]), .si .i64 c3, .slc (.sym c4.1) 1 (fun k => [.si .i64 (c4.2 k).1]), .slc (.sym c5.1) 1 (fun k => [.si .i64 (c5.2 k).1]), .si .i64 c6, .si .i64 c7, .si .i64 c8, .si .i64 c9, .si .i64 c10, .si .i64 c11, .slc (.sym c12.1) 1 (fun k => [.si .i64 (c12.2 k).1]), .slc (.sym c13.1) 1 (fun k => [.si .i64 (c13.2 k).1]), .si .i64 c14, .si .i64 c15, .si .i64 c16, .slc (.sym t.1) 2 (fun k => [.si .i64 (t.2 k).1, .si .i64 (t.2 k).2.1]), .slc (.sym b.1) 2 (fun k => [.si .i64 (b.2 k).1, .si .i64 (b.2 k).2.1]), .si .i64 i0, .si .i64 i1, .si .i64 i2, .si .i64 i3, .si .i64 i4, .si .i64 i5, .si .i64 i6, .si .i64 i7, .si .i64 i8, .si .i64 i9, .si .i64 i10, .si .i64 i11, .si .i64 i12, .si .i64 i13, .si .i64 i14, .si .i64 i15, .si .i64 i16, .si .i64 i17, .si .i64 i18, .si .i64 i19, .si .i64 i20, .slc (.sym s.1) 2 (fun k => [.si .i64 (l k), .si .i64 (h k)]), .si .i64 tk, .sb gn]
def tkwF : SpecF [.cells 114 ewCells] [.own 0 0, rdgSh] :=
 ⟨fun ((m, x), _) _ => m = true /\ EwOK (ewOf x),
  fun ((_, x), _) (_, ((h0 : Bool), (h1 : Bool), (h2 : Bool), (h3 : Bool), (v0 : Int), (v1 : Int), (v2 : Int), (v3 : Int), _), _) => .si .i64 (ewE (ewOf x) h0 h1 h2 h3 v0 v1 v2 v3),
  fun ((m, x), _) (_, ((h0 : Bool), (h1 : Bool), (h2 : Bool), (h3 : Bool), (v0 : Int), (v1 : Int), (v2 : Int), (v3 : Int), _), _) => [.cells 114 (ewAW m x (ewN (ewOf x) h0 h1 h2 h3 v0 v1 v2 v3).l (ewN (ewOf x) h0 h1 h2 h3 v0 v1 v2 v3).h (ewN (ewOf x) h0 h1 h2 h3 v0 v1 v2 v3).tk (ewN (ewOf x) h0 h1 h2 h3 v0 v1 v2 v3).gn)]⟩
noncomputable def Svk : Sums := ⟨(22, mkSum _ sbS) :: (41, mkSum _ behind) :: Svi.one, Svi.two, Svi.lo, Svi.eqs, Svi.its, Svi.imm⟩
theorem Svk_ok : SumsOK Tryz.prog Svk := ((Svi_ok.cons Tryz.func41 (by kernel_rfl) (by kernel_rfl) ebh_ok).cons Tryz.func22 (by kernel_rfl) (by kernel_rfl) sb_ok)
noncomputable def Svn : Sums := ⟨Svk.one, (55, mkSumG _ _ inpF) :: (56, mkSumG _ _ tmpF) :: (57, mkSumG _ _ chgF) :: (58, mkSumG _ _ rlxF) :: Svk.two, Svk.lo, Svk.eqs, Svk.its, Svk.imm⟩
theorem Svn_ok : SumsOK Tryz.prog Svn :=
 (((Svk_ok.addTwo Tryz.func58 (by kernel_rfl) (by kernel_rfl) (mkSumG_ok rlx_ok)).addTwo Tryz.func57 (by kernel_rfl) (by kernel_rfl) (mkSumG_ok chg_ok)).addTwo Tryz.func56 (by kernel_rfl) (by kernel_rfl) (mkSumG_ok tmp_ok)).addTwo Tryz.func55 (by kernel_rfl) (by kernel_rfl) (mkSumG_ok inp_ok)
def natI : Int -> Nat
 | .ofNat n => n
 | .negSucc _ => 0
def sel4 {α : Type} (k : Nat) (a b c d : α) : α := match k with | 0 => a | 1 => b | 2 => c | _ => d
def lookSet (hp : Heap) (k : Nat) (x y : Int) : Heap :=
 match getB hp 3 with
 | .cells t l => setB hp 3 (.cells t (sel4 k (setL (setL l 1 (.si .i64 x)) 2 (.si .i64 y)) (setL (setL l 3 (.si .i64 x)) 4 (.si .i64 y)) (setL (setL l 5 (.si .i64 x)) 6 (.si .i64 y)) (setL (setL l 7 (.si .i64 x)) 8 (.si .i64 y))))
 | _ => hp
def numA : AV -> Nat
 | .li _ k => natI k
 | _ => 0
@[reducible] def cutT (e : Ew) (h0 h1 h2 h3 : Bool) (v0 v1 v2 v3 : Int) : List AV -> Heap -> Ann := fun fr hp =>
 ⟨Nat, fun _ => ⟨frI [.k 6, .t 3, .k 20, .t 36] fr, lookSet hp (numA (getL fr 28))
   (sel4 (numA (getL fr 28)) (spL h0 e.w.s00 e.w.s01 e.w.s02 e.w.s03 v0) (spL h1 e.w.s10 e.w.s11 e.w.s12 e.w.s13 v1) (spL h2 e.w.s20 e.w.s21 e.w.s22 e.w.s23 v2) (spL h3 e.w.s30 e.w.s31 e.w.s32 e.w.s33 v3))
   (sel4 (numA (getL fr 28)) (spH h0 e.w.s00 e.w.s01 e.w.s02 e.w.s03 v0) (spH h1 e.w.s10 e.w.s11 e.w.s12 e.w.s13 v1) (spH h2 e.w.s20 e.w.s21 e.w.s22 e.w.s23 v2) (spH h3 e.w.s30 e.w.s31 e.w.s32 e.w.s33 v3))⟩,
  Int, fun _ => sel4 (numA (getL fr 28)) (spE h0 e.w.s00 e.w.s01 e.w.s02 e.w.s03 v0) (spE h1 e.w.s10 e.w.s11 e.w.s12 e.w.s13 v1) (spE h2 e.w.s20 e.w.s21 e.w.s22 e.w.s23 v2) (spE h3 e.w.s30 e.w.s31 e.w.s32 e.w.s33 v3), fun z => z = 0, fun _ => 0⟩
theorem cutT_q (e : Ew) (h0 h1 h2 h3 : Bool) (v0 v1 v2 v3 : Int) (fr : List AV) (hp : Heap) (z : Int) : (cutT e h0 h1 h2 h3 v0 v1 v2 v3 fr hp).q z = (z = 0) := rfl
def tkI : DatH [OB.cells 114 ewCells] -> DatL [.own 0 0, rdgSh] -> Anns := fun ((_, x), _) (_, ((h0 : Bool), (h1 : Bool), (h2 : Bool), (h3 : Bool), (v0 : Int), (v1 : Int), (v2 : Int), (v3 : Int), _), _) => [(1048591, [], cutT (ewOf x) h0 h1 h2 h3 v0 v1 v2 v3)]
set_option maxRecDepth 100000 in
set_option maxHeartbeats 4000000 in
set_option profiler true in
theorem tkw_ok : FnSpecF Tryz.prog 14 _ _ tkwF := by
 refine FnSpecF.of Svn_ok mixed (U := 5) (I := tkI) Tryz.func14 rfl (by kernel_rfl) rfl (by decide +kernel) ?_
 rintro ⟨⟨m, x⟩, ⟨⟩⟩ ⟨⟨⟩, ⟨(h0 : Bool), (h1 : Bool), (h2 : Bool), (h3 : Bool), (v0 : Int), (v1 : Int), (v2 : Int), (v3 : Int), ⟨⟩⟩, ⟨⟩⟩ hpre
 obtain ⟨e, rfl⟩ := ew_ex x
 have hpre : m = true /\ EwOK e := by have : m = true /\ EwOK (ewOf (ewD e)) := hpre; rwa [ewOf_D] at this
 obtain ⟨rfl, hk⟩ := hpre
 have eH : encH [OB.cells 114 ewCells] ((true, ewD e), PUnit.unit) = [.cells 114 (.sb true :: ewCs e.w e.n e.l e.h e.tk e.gn)] := rfl
 rw [eH]
 have eI : tkI ((true, ewD e), PUnit.unit) (PUnit.unit, (h0, h1, h2, h3, v0, v1, v2, v3, PUnit.unit), PUnit.unit) = [(1048591, [], cutT e h0 h1 h2 h3 v0 v1 v2 v3)] := by
  show [(1048591, [], cutT (ewOf (ewD e)) h0 h1 h2 h3 v0 v1 v2 v3)] = _
  rw [ewOf_D]
 rw [eI]
 unfold FnSat
 conv => arg 2; reduce
 simp [-Bool.forall_bool, cutT_q, decL_cons, dec_int, tkwF, valW, cspN, inpF, tmpF, chgF, rlxF, sbS, behind, wH, ewAV, ewAW, lkA, ewCs, encH, encB, ElEq, getB, goneB, aliveB, VC.sat, and_assoc]
 have h5 := ew_five hk
 obtain ⟨_, _, _, _, _, z0, z1, z2, z3⟩ := wcB_iff.1 hk.wat
 refine ⟨fun h => ew_gn h, fun hg => ⟨by omega, by omega, fun h => by rw [h, spE_f, spL_f, spH_f]; exact ⟨rfl, rfl, rfl⟩, fun h => ⟨fun hb => ew_bad hg (rd_no fun hz => hb ?_), fun hb => by rw [h, spE_t, spL_t, spH_t]; exact ⟨hb, rfl, rfl⟩⟩, fun e0 => ⟨fun h => by rw [h, spE_f, spL_f, spH_f]; exact ⟨rfl, rfl, rfl⟩, fun h => ⟨fun hb => ew_bad hg (rd_no fun hz => hb ?_), fun hb => by rw [h, spE_t, spL_t, spH_t]; exact ⟨hb, rfl, rfl⟩⟩, fun e1 => ⟨fun h => by rw [h, spE_f, spL_f, spH_f]; exact ⟨rfl, rfl, rfl⟩, fun h => ⟨fun hb => ew_bad hg (rd_no fun hz => hb ?_), fun hb => by rw [h, spE_t, spL_t, spH_t]; exact ⟨hb, rfl, rfl⟩⟩, fun e2 => ⟨fun h => by rw [h, spE_f, spL_f, spH_f]; exact ⟨rfl, rfl, rfl⟩, fun h => ⟨fun hb => ew_bad hg (rd_no fun hz => hb ?_), fun hb => by rw [h, spE_t, spL_t, spH_t]; exact ⟨hb, rfl, rfl⟩⟩, fun e3 => ?_⟩⟩⟩⟩⟩
 ·rw [h, spE_t] at hz; exact hz.1
 ·rw [h, spE_t] at hz; exact hz.2.1
 ·rw [h, spE_t] at hz; exact hz.2.2.1
 ·rw [h, spE_t] at hz; exact hz.2.2.2
 have hq := rd_yes e0 e1 e2 e3
 have hA := sp_in (h := h0) (r := v0) z0
 have HL := ew_lost hg hq
 have HF := ew_far hg hq
 have HK := ew_ok hg hq
 generalize ewN e h0 h1 h2 h3 v0 v1 v2 v3 = NW at *
 generalize ewE e h0 h1 h2 h3 v0 v1 v2 v3 = EE at *
 generalize spL h0 e.w.s00 e.w.s01 e.w.s02 e.w.s03 v0 = a0 at *
 generalize spH h0 e.w.s00 e.w.s01 e.w.s02 e.w.s03 v0 = a1 at *
 generalize spL h1 e.w.s10 e.w.s11 e.w.s12 e.w.s13 v1 = a2 at *
 generalize spH h1 e.w.s10 e.w.s11 e.w.s12 e.w.s13 v1 = a3 at *
 generalize spL h2 e.w.s20 e.w.s21 e.w.s22 e.w.s23 v2 = a4 at *
 generalize spH h2 e.w.s20 e.w.s21 e.w.s22 e.w.s23 v2 = a5 at *
 generalize spL h3 e.w.s30 e.w.s31 e.w.s32 e.w.s33 v3 = a6 at *
 generalize spH h3 e.w.s30 e.w.s31 e.w.s32 e.w.s33 v3 = a7 at *
 have hLk : LkOK (ewD e) e.n := by
  show CelMax (ewOf (ewD e)).w.cel /\ (ewOf (ewD e)).w.tn <= maxLen /\ 0 < e.n /\ e.n <= 1048576
  rw [ewOf_D]
  exact ⟨hk.big, by have := hk.chk.n; rw [this]; unfold maxLen; omega, by omega, by omega⟩
 have hLk' : CelMax e.w.cel /\ e.w.tn <= maxLen /\ 0 < e.n /\ e.n <= 1048576 := by
  have : CelMax (ewOf (ewD e)).w.cel /\ (ewOf (ewD e)).w.tn <= maxLen /\ 0 < e.n /\ e.n <= 1048576 := hLk
  rwa [ewOf_D] at this
 refine ⟨fun h => HL (tlB_no fun hb => by rw [(tlB_iff.1 hb).1] at h; cases h), fun hi => ?_⟩
 obtain ⟨c1, c2⟩ := ckI hk hi
 refine ⟨by omega, fun h => HL (tlB_no fun hb => absurd (tlB_iff.1 hb).2.1 (by omega)), fun ht => ?_⟩
 have k1 := ck1 hk ht
 have b1 := k1.bx
 refine ⟨hLk, b1.q0, b1.q1, b1.q2, pA_mono k1 c1, pB_mono k1 c1, fun h => HL (tlB_no fun hb => absurd (tlB_iff.1 hb).2.2.1 (Int.not_le.2 h)), fun hc => ?_⟩
 have k2 := ck2 k1 hc
 obtain ⟨r1, r2, r3, r4⟩ := ck4 k2 c1
 refine ⟨hLk, by omega, Int.le_trans (by decide) r1, Int.le_trans r2 (by decide), Int.le_trans (by decide) r3, Int.le_trans r4 (by decide), hA.1, hA.2.1, hA.2.2.1, hA.2.2.2, fun h => HL (tlB_no fun hb => absurd (tlB_iff.1 hb).2.2.2 (Int.not_le.2 h)), fun hr => ?_⟩
 have k3 := ck3 k2 hr
 have hT := tlB_iff.2 ⟨hi, ht, hc, hr⟩
 clear HL eH eI hpre
 obtain ⟨d0, d1, d2, d3⟩ := dec_r4 (mxI e.w.cl a2) (mnI e.w.ch a3) (in2 e.w a2 a3 a6) (in3 e.w a2 a3 a7)
 refine ⟨fun k hk2 => ?_, hk.big, hLk'.2.1, by rw [h5]; unfold maxLen; omega, by unfold maxLen; omega, tk_last hk h5 c1 c2 k3 (HF hT) (HK hT) d0 d1 d2 d3⟩
 have : k = 0 \/ k = 1 := by omega
 rcases this with rfl | rfl <;> first | exact ⟨trivial, trivial, trivial⟩ | trivial | simp [rowAt, CanL, CanSh]
end
end Abs
end Go.Proofs.YtlabbaglbcmofaaGreat

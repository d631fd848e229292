/- The box behind a reading is inside of the next box without it; with fewer sensors that show something it is not smaller; no condition. -/
import Derived.Test.YtlabbaglbcmofaaGreatQGa2727e44
import Derived.Test.YtlabbaglbcmofaaGreatRows
set_option linter.unusedSimpArgs false
set_option linter.unusedVariables false
namespace Go.Proofs.YtlabbaglbcmofaaGreat
namespace Abs
open Go Go.RowKit
noncomputable section
attribute [local irreducible] FnSat
noncomputable def SNr0 : Sums := ⟨(23, mkSum _ bisS) :: (22, mkSum _ sbS) :: (24, mkSum _ stpT) :: (25, mkSum _ inpW3) :: (21, mkSum _ rdnS) :: (8, mkSum _ tru3) :: SKt.one, SKt.two, SKt.lo, SKt.eqs, SKt.its, SKt.imm⟩
theorem SNr0_ok : SumsOK Tryz.prog SNr0 := ((((((SKt_ok.cons Tryz.func8 (by kernel_rfl) (by kernel_rfl) works_ok).cons Tryz.func21 (by kernel_rfl) (by kernel_rfl) rdn_ok).cons Tryz.func25 (by kernel_rfl) (by kernel_rfl) inpW_ok).cons Tryz.func24 (by kernel_rfl) (by kernel_rfl) stpT_ok).cons Tryz.func22 (by kernel_rfl) (by kernel_rfl) sb_ok).cons Tryz.func23 (by kernel_rfl) (by kernel_rfl) bis_ok)
noncomputable def SNr1 : Sums := ⟨(18, mkSumN _ bxN) :: (11, mkSumN _ nwN) :: (20, mkSum _ truB) :: SNr0.one, SNr0.two, SNr0.lo, SNr0.eqs, SNr0.its, SNr0.imm⟩
theorem SNr1_ok : SumsOK Tryz.prog SNr1 := (((SNr0_ok.cons Tryz.func20 (by kernel_rfl) (by kernel_rfl) truB_ok).add Tryz.func11 (by kernel_rfl) (by kernel_rfl) (mkSumN_ok nwN_ok)).add Tryz.func18 (by kernel_rfl) (by kernel_rfl) (mkSumN_ok bxN_ok))
noncomputable def SNrA : Sums := ⟨(20, mkSum _ truA) :: SNr0.one, SNr0.two, SNr0.lo, SNr0.eqs, SNr0.its, SNr0.imm⟩
theorem SNrA_ok : SumsOK Tryz.prog SNrA := (SNr0_ok.cons Tryz.func20 (by kernel_rfl) (by kernel_rfl) truA_ok)
noncomputable def SNr : Sums := ⟨SNr1.one, (13, mkSumG _ _ wcpF) :: (14, mkSumG _ _ tkwF) :: SNr1.two, SNr1.lo, SNr1.eqs, SNr1.its, SNr1.imm⟩
theorem SNr_ok : SumsOK Tryz.prog SNr := (SNr1_ok.addTwo Tryz.func14 (by kernel_rfl) (by kernel_rfl) (mkSumG_ok tkw_ok)).addTwo Tryz.func13 (by kernel_rfl) (by kernel_rfl) (mkSumG_ok wcp_ok)
@[reducible] def nrSh : List Sh := [casSh, tksSh, .int .u8]
def nrA : Spec nrSh := ⟨fun x => ValidL nrSh x /\ ¬ (shtB (casOf x.1).w.cel = true /\ wcB (casOf x.1).w = true), fun _ => .sb true⟩
def nrB : Spec nrSh := ⟨fun x => ValidL nrSh x /\ shtB (casOf x.1).w.cel = true /\ wcB (casOf x.1).w = true, fun _ => .sb true⟩
set_option maxRecDepth 100000 in
set_option maxHeartbeats 4000000 in
theorem nrA_ok : FnSpec Tryz.prog 4 _ nrA := by
 refine FnSpec.of SNrA_ok mixed (U := 0) (I := fun _ => []) Tryz.func4 rfl (by kernel_rfl) rfl rfl (by decide +kernel) ?_
 rintro ⟨x, ⟨n, el⟩, (ls : Int), ⟨⟩⟩ hpre
 obtain ⟨x, rfl⟩ := cas_ex x
 have hi := cas_in2 hpre.1
 have hpre : ¬ (shtB x.w.cel = true /\ wcB x.w = true) := by have := hpre.2; rwa [casOf_D] at this
 unfold FnSat
 conv => arg 2; reduce
 simp [-Bool.forall_bool, nrA, tru3, truA, and_assoc]
 refine ⟨hi, fun h => ?_⟩
 cases hc : wcB x.w with
 | false => rfl
 | true => exact absurd ⟨h, hc⟩ hpre
@[irreducible] def fkB (h : Bool) (x : Int) (k : Int) : Bool := h && hkB x k
theorem fkB_t {h : Bool} {x k : Int} (e : ibit .and .u8 (ishr x k) 1 = 1) : fkB h x k = false := by unfold fkB; rw [hkB_t e]; simp
theorem fkB_f {h : Bool} {x k : Int} (e : ¬ ibit .and .u8 (ishr x k) 1 = 1) : fkB h x k = h := by unfold fkB; rw [hkB_f e]; simp
theorem fkB_le {h : Bool} {x k : Int} (e : fkB h x k = true) : h = true := by unfold fkB at e; simp at e; exact e.1
def nrSet (hp : Heap) (k : Nat) (ls : Int) : Heap := match getB hp 6 with
 | .cells t l => setB hp 6 (.cells t (setL l k (.sb (fkB (boolOf (getL l k)) ls (sel4 k 0 1 2 3)))))
 | _ => hp
@[reducible] def cutR (ls : Int) : List AV -> Heap -> Ann := fun fr hp => ⟨Nat, fun _ => ⟨frI [.k 70, .t 9, .k 81] fr, nrSet hp (numA (getL fr 16)) ls⟩, Nat, fun z => z, fun _ => True, fun _ => 0⟩
theorem cutR_q (ls : Int) (fr : List AV) (hp : Heap) (z : Nat) : (cutR ls fr hp).q z = True := rfl
@[irreducible] def sbX (w : Wt) (e : Ew) : Int := if farB (widV w.cel w.tl w.th e.n e.l e.h) w.cl w.ch = true then 0 else 4
@[irreducible] def wiL (w : Wt) (e : Ew) (k : Nat) : Int := nbL (widV w.cel w.tl w.th e.n e.l e.h) w.cl w.ch w.al w.ah k
@[irreducible] def wiH (w : Wt) (e : Ew) (k : Nat) : Int := nbH (widV w.cel w.tl w.th e.n e.l e.h) w.cl w.ch w.al w.ah k
theorem sbX_or (w : Wt) (e : Ew) : sbX w e = 0 \/ sbX w e = 4 := by unfold sbX; split <;> simp
theorem wi_ok {x : Cas} {e : Ew} (hk : EwOK e) (hw : e.w = x.w) (h0 : sbX x.w e = 0) (k : Nat) (h : k < 5) : spanOK (wiL x.w e k) (wiH x.w e k) = true := by
 obtain ⟨_, _, _, w3, w4, _⟩ := wcB_iff.1 hk.wat
 unfold sbX at h0
 rw [<- hw] at h0
 have hf : farB (widV e.w.cel e.w.tl e.w.th e.n e.l e.h) e.w.cl e.w.ch = true := by
  split at h0
  ·assumption
  ·cases h0
 obtain ⟨q0, q1, q2, q3, q4, q5, q6, q7, q8, q9, q10, q11, q12, q13, q14⟩ := nb_box' hk.chk w3 w4 hf
 unfold wiL wiH
 rw [<- hw]
 match k, h with
 | 0, _ => exact spanOK_iff.2 (by omega)
 | 1, _ => exact spanOK_iff.2 (by omega)
 | 2, _ => exact spanOK_iff.2 (by omega)
 | 3, _ => exact spanOK_iff.2 (by omega)
 | 4, _ => exact spanOK_iff.2 (by omega)
theorem box_n5 {c : Cel} {lo hi d L H : Nat -> Int} {s : Sta} (hb : InBox c lo hi d L H s) (k : Nat) (hk : k < 5) : spanOK (L k) (H k) = true := by
 obtain ⟨q0, q1, q2, q3, q4, q5, q6, q7, q8, q9, q10, q11, q12, q13, q14⟩ := hb.chk.bx
 match k, hk with
 | 0, _ => exact spanOK_iff.2 (by omega)
 | 1, _ => exact spanOK_iff.2 (by omega)
 | 2, _ => exact spanOK_iff.2 (by omega)
 | 3, _ => exact spanOK_iff.2 (by omega)
 | 4, _ => exact spanOK_iff.2 (by omega)
theorem narrow_step {n m : Nat} {x : Cas} {g : Nat} {s : Sta} {e : Ew} {t : TkD} {r r2 : R8} (hinv : KInv n m x g s e) (ht : TkIn t.1 t.2.1 t.2.2.1 t.2.2.2.1 t.2.2.2.2.1 t.2.2.2.2.2.1)
  (hv : r.2.2.2.2 = (rdT x s t).2.2.2.2) (hv2 : r2.2.2.2.2 = r.2.2.2.2) (f0 : r2.1 = true -> r.1 = true) (f1 : r2.2.1 = true -> r.2.1 = true) (f2 : r2.2.2.1 = true -> r.2.2.1 = true) (f3 : r2.2.2.2.1 = true -> r.2.2.2.1 = true)
  (ha : ¬ (tkP e r).2 = 4) (hc : ¬ (tkP e r2).2 = 4) :
  (∀ k, k < 5 -> (tkP e r2).1.l k <= (tkP e r).1.l k /\ (tkP e r).1.h k <= (tkP e r2).1.h k) /\ (∀ k, k < 5 -> wiL x.w e k <= (tkP e r2).1.l k /\ (tkP e r2).1.h k <= wiH x.w e k) := by
 obtain ⟨_, _, hk, hg, htk, hw, hb⟩ := kInv_iff.1 hinv
 obtain ⟨a0, a1, b0, b1, b2, b3⟩ := tkIn_iff.1 ht
 obtain ⟨_, _, _, w3, w4, z0, z1, z2, z3⟩ := wcB_iff.1 hk.wat
 obtain ⟨c0, c1, c2⟩ := insV_iff.1 w3
 obtain ⟨u0, u1, u2⟩ := insV_iff.1 w4
 obtain ⟨h0, h1, h2, h3, v0, v1, v2, v3⟩ := r
 obtain ⟨g0, g1, g2, g3, y0, y1, y2, y3⟩ := r2
 unfold rdT rv0 rv1 rv2 rv3 at hv
 simp only [Prod.mk.injEq] at hv hv2
 obtain ⟨rfl, rfl, rfl, rfl⟩ := hv2
 obtain ⟨e0, e1, e2, e3⟩ := hv
 rw [casC_eq] at e0
 unfold wiL wiH
 rw [<- hw] at e0 e1 e2 e3 ⊢
 have i := bt_in (p := t.1) c1 (by omega) a0.1 a0.2
 have j := bt_in (p := t.2.1) u1 (by omega) a1.1 a1.2
 unfold tkP at ha hc ⊢
 exact narrow (d := casT x) (s := s) f0 f1 f2 f3 hk hg hb i.1 i.2 j.1 j.2 (nz_in z0 b0) (nz_in z1 b1) (nz_in z2 b2) (nz_in z3 b3) e0 e1 e2 e3 ha hc
@[reducible] def cutSb (x : Cas) : List AV -> Heap -> Ann := fun fr hp => ⟨Int, fun E => ⟨frI [.k 18, .s (.slc (.sym (sbN E)) 2 (fun k => [.si .i64 (wiL x.w (ewO hp 4) k), .si .i64 (wiH x.w (ewO hp 4) k)])), .s (.si .i64 E), .t 140] fr, hp⟩, Int × Int, fun E => (E, sbX x.w (ewO hp 4)), fun z => z.1 = z.2, fun _ => 0⟩
def nrI : DatL nrSh -> Anns := fun (x, (n, el), (ls : Int), _) => [(1048578, [], cutTr (casOf x) 7 1 160), (1048587, [], cutRd (casOf x) el 13 12 2 5 160), (1048597, [], cutSb (casOf x)), (1048598, [], cutTk 20 4 5 160), (1048599, [], cutTk 21 7 6 160),
 (8, [], fun fr hp => ⟨Nat × Sta × Ew, fun (g, s, e) => ⟨frI [.k 12, .s (.si .i64 (icast g)), .t 147] fr, setB (setB hp 2 (.cells 70 [.si .i64 s.q, .si .i64 s.rx, .si .i64 s.tp, .si .i64 s.th, .si .i64 s.ag])) 4 (.cells 114 (.sb true :: ewCs e.w e.n e.l e.h e.tk e.gn))⟩,
  Nat × Cas × (Nat × Sta × Ew), fun y => (n, casOf x, y), fun (n, x, (g, s, e)) => KInv n 8 x g s e, fun (g, _) => nsub n g⟩),
 (1048592, [], cutR ls)]
set_option maxRecDepth 100000 in
set_option maxRecDepth 100000 in
set_option maxHeartbeats 8000000 in
theorem nrB_ok : FnSpec Tryz.prog 4 _ nrB := by
 refine FnSpec.of SNr_ok mixed (U := 5) (I := nrI) Tryz.func4 rfl (by kernel_rfl) rfl rfl (by decide +kernel) ?_
 rintro ⟨x, ⟨n, el⟩, (ls : Int), ⟨⟩⟩ hpre
 obtain ⟨x, rfl⟩ := cas_ex x
 have hi := cas_in2 hpre.1
 have hpre' : shtB x.w.cel = true /\ wcB x.w = true := by have := hpre.2; rwa [casOf_D] at this
 have eI : nrI (casD x, (n, el), ls, ()) = [(1048578, [], cutTr x 7 1 160), (1048587, [], cutRd x el 13 12 2 5 160), (1048597, [], cutSb x), (1048598, [], cutTk 20 4 5 160), (1048599, [], cutTk 21 7 6 160),
  (8, [], fun fr hp => ⟨Nat × Sta × Ew, fun (g, s, e) => ⟨frI [.k 12, .s (.si .i64 (icast g)), .t 147] fr, setB (setB hp 2 (.cells 70 [.si .i64 s.q, .si .i64 s.rx, .si .i64 s.tp, .si .i64 s.th, .si .i64 s.ag])) 4 (.cells 114 (.sb true :: ewCs e.w e.n e.l e.h e.tk e.gn))⟩,
   Nat × Cas × (Nat × Sta × Ew), fun y => (n, x, y), fun (n, x, (g, s, e)) => KInv n 8 x g s e, fun (g, _) => nsub n g⟩),
  (1048592, [], cutR ls)] := by
  unfold nrI
  simp only [casOf_D]
 rw [eI]
 clear eI
 unfold FnSat
 conv => arg 2; reduce
 simp [-Bool.forall_bool, cutR_q, nrB, tru3, truB, nwN, bxN, rdnS, inpW3, tkwF, wcpF, stpT, sbS, bisS, ew_up, enc_cel, ElEq, getB, goneB, aliveB, and_assoc]
 obtain ⟨hs, hw⟩ := hpre'
 have hm := shtB_max hs
 have hv := hpre.1
 clear hpre
 have hel : ∀ k, k < n -> ValidL [.int .u16, .int .u16, .int .i16, .int .i16, .int .i16, .int .i16, .int .u8] (el k) := hv.2.1.2
 have hsub : IntKind.u8.bits = 8 := rfl
 refine ⟨hi, hs, hw, fun hok => ⟨hm, hi.tn, hw, ⟨0, rfl, casS x, rfl, rfl, rfl, rfl, rfl, ⟨x.w, x.w.bn, x.w.bl, x.w.bh, 0, false⟩, ?_⟩, fun g s e hinv h1 h2 => ?_⟩⟩
 ·simp only [Ew.w_mk, Ew.n_mk, Ew.l_mk, Ew.h_mk, Ew.tk_mk, Ew.gn_mk]
  simp
  exact kInv_0 hi hm hw (truOK_iff.1 hok)
 obtain ⟨hT, hH0, hH1⟩ := tick_in (hel g h1)
 obtain ⟨_, _, hk, hg, htk, hwe, hb⟩ := kInv_iff.1 hinv
 have hcs : csE (casC x) s = 0 := by
  have := hb.cs
  rw [hwe] at this
  rwa [casC_eq]
 have hcm := casC_max hm
 have n5 := ew_five hk
 have htn : x.w.tn <= maxLen := hi.tn
 have st := keep_step (r := rdT x s (el g)) (by decide) hinv h1 h2 hT rfl
 have st2 := keep_step (r := (fkB (rdT x s (el g)).1 ls 0, fkB (rdT x s (el g)).2.1 ls 1, fkB (rdT x s (el g)).2.2.1 ls 2, fkB (rdT x s (el g)).2.2.2.1 ls 3, (rdT x s (el g)).2.2.2.2)) (by decide) hinv h1 h2 hT rfl
 have nr := narrow_step (r := rdT x s (el g)) (r2 := (fkB (rdT x s (el g)).1 ls 0, fkB (rdT x s (el g)).2.1 ls 1, fkB (rdT x s (el g)).2.2.1 ls 2, fkB (rdT x s (el g)).2.2.2.1 ls 3, (rdT x s (el g)).2.2.2.2)) hinv hT rfl rfl fkB_le fkB_le fkB_le fkB_le
 have er : ∀ r : R8, (r.1, r.2.1, r.2.2.1, r.2.2.2.1, r.2.2.2.2.1, r.2.2.2.2.2.1, r.2.2.2.2.2.2.1, r.2.2.2.2.2.2.2) = r := fun _ => rfl
 have nw : ∀ r : R8, (tkP e r).1.w = e.w := fun r => by unfold tkP; exact ewN_w _ _ _ _ _ _ _ _ _
 have nn : ∀ r : R8, (tkP e r).1.n = e.n := fun r => by unfold tkP; exact ewN_n _ _ _ _ _ _ _ _ _
 have et : rdT x s (el g) = (hkB (el g).2.2.2.2.2.2.1 0, hkB (el g).2.2.2.2.2.2.1 1, hkB (el g).2.2.2.2.2.2.1 2, hkB (el g).2.2.2.2.2.2.1 3, rv0 x.w (casC x) s (el g).1 (el g).2.2.1, rv1 x.w (el g).1 (el g).2.2.2.1, rv2 x.w s (el g).2.2.2.2.1, rv3 x.w (el g).2.1 (el g).2.2.2.2.2.1) := by unfold rdT; rfl
 have q1 : ∀ f0 f1 f2 f3 v0 v1 v2 v3, ewN e f0 f1 f2 f3 v0 v1 v2 v3 = (tkP e (f0, f1, f2, f3, v0, v1, v2, v3)).1 := fun _ _ _ _ _ _ _ _ => by unfold tkP; rfl
 have q2 : ∀ f0 f1 f2 f3 v0 v1 v2 v3, ewE e f0 f1 f2 f3 v0 v1 v2 v3 = (tkP e (f0, f1, f2, f3, v0, v1, v2, v3)).2 := fun _ _ _ _ _ _ _ _ => by unfold tkP; rfl
 have hS : ∀ (il ih : Nat -> Int), il 0 = x.w.cl -> ih 0 = x.w.ch -> il 1 = x.w.al -> ih 1 = x.w.ah -> sbE x.w.cel x.w.tn (fun k => x.w.tl k) (fun k => x.w.th k) e.n (fun k => e.l k) (fun k => e.h k) 2 il ih = sbX x.w e := fun il ih i0 i1 i2 i3 => by
  obtain ⟨_, _, _, w3, w4, _⟩ := wcB_iff.1 hw
  have hc := hk.chk
  rw [hwe] at hc
  have h := sbE_far (il := il) (ih := ih) hc (by rw [i0, i1]; exact w3) (by rw [i2, i3]; exact w4)
  rw [i0, i1] at h
  unfold sbX
  exact h
 simp only [ew_eta, q1, q2, er]
 refine ⟨h1, hw, hcm, hcs, hT, hH0, hH1, et.symm, by decide, fun h => fkB_t h, fun h => (fkB_f h).symm, by decide, fun h => fkB_t h, fun h => (fkB_f h).symm, by decide, fun h => fkB_t h, fun h => (fkB_f h).symm, by decide, fun h => fkB_t h, fun h => (fkB_f h).symm,
  by omega, by omega, by omega, fun k _ => rfl, fun k hk2 => ?_, hm, htn, by rw [n5]; unfold maxLen; omega, by unfold maxLen; omega, ⟨sbX x.w e, ?_, fun j _ => ?_, ?_, rfl⟩, hk, ⟨(tkP e (rdT x s (el g))).1, ?_⟩, hk, ⟨(tkP e (fkB (rdT x s (el g)).1 ls 0, fkB (rdT x s (el g)).2.1 ls 1, fkB (rdT x s (el g)).2.2.1 ls 2, fkB (rdT x s (el g)).2.2.2.1 ls 3, (rdT x s (el g)).2.2.2.2.1, (rdT x s (el g)).2.2.2.2.2.1, (rdT x s (el g)).2.2.2.2.2.2.1, (rdT x s (el g)).2.2.2.2.2.2.2)).1, ?_⟩, ?_⟩
 ·have : k = 0 \/ k = 1 := by omega
  rcases this with rfl | rfl <;> first | exact ⟨trivial, trivial, trivial⟩ | trivial | simp [rowAt, CanL, CanSh]
 ·rw [hS _ _ rfl rfl rfl rfl]
 ·unfold wiL wiH
  exact ⟨rfl, rfl⟩
 ·exact hS _ _ rfl rfl rfl rfl
 ·simp only [nw, nn, eq_self, true_and, and_self, implies_true]
 ·simp only [nw, nn, eq_self, true_and, and_self, implies_true]
 have nT := nn (rdT x s (el g))
 have wT := nw (rdT x s (el g))
 have nU := nn (fkB (rdT x s (el g)).1 ls 0, fkB (rdT x s (el g)).2.1 ls 1, fkB (rdT x s (el g)).2.2.1 ls 2, fkB (rdT x s (el g)).2.2.2.1 ls 3, (rdT x s (el g)).2.2.2.2)
 have eU : (fkB (rdT x s (el g)).1 ls 0, fkB (rdT x s (el g)).2.1 ls 1, fkB (rdT x s (el g)).2.2.1 ls 2, fkB (rdT x s (el g)).2.2.2.1 ls 3, (rdT x s (el g)).2.2.2.2.1, (rdT x s (el g)).2.2.2.2.2.1, (rdT x s (el g)).2.2.2.2.2.2.1, (rdT x s (el g)).2.2.2.2.2.2.2) = ((fkB (rdT x s (el g)).1 ls 0, fkB (rdT x s (el g)).2.1 ls 1, fkB (rdT x s (el g)).2.2.1 ls 2, fkB (rdT x s (el g)).2.2.2.1 ls 3, (rdT x s (el g)).2.2.2.2) : R8) := rfl
 rw [eU]
 clear eU et hS er nw nn q1 q2
 generalize tkP e (fkB (rdT x s (el g)).1 ls 0, fkB (rdT x s (el g)).2.1 ls 1, fkB (rdT x s (el g)).2.2.1 ls 2, fkB (rdT x s (el g)).2.2.2.1 ls 3, (rdT x s (el g)).2.2.2.2) = U at *
 generalize tkP e (rdT x s (el g)) = T at *
 intro s4 t4 u4
 obtain ⟨T, TE⟩ := T
 obtain ⟨U, UE⟩ := U
 simp only at st st2 nr nT wT nU t4 u4 ⊢
 obtain ⟨t0, tS, tK⟩ := st.resolve_left t4
 obtain ⟨u0, _, uK⟩ := st2.resolve_left u4
 have s0 := (sbX_or x.w e).resolve_right s4
 obtain ⟨N1, N2⟩ := nr t4 u4
 obtain ⟨_, _, _, _, _, _, tb⟩ := kInv_iff.1 tK
 obtain ⟨_, _, _, _, _, _, ub⟩ := kInv_iff.1 uK
 have n55 : sbN (sbX x.w e) = 5 := sbN_5 s0
 refine ⟨fun _ _ _ => ⟨by omega, by omega⟩, fun _ _ _ => fun k _ => rfl, fun _ _ _ => ⟨by omega, by omega⟩, fun _ _ _ => fun k _ => rfl, fun _ _ _ => ⟨by omega, by omega, fun k hk2 => ⟨box_n5 tb k (by omega), box_n5 ub k (by omega), N1 k (by omega)⟩⟩,
  fun _ _ _ => ⟨by omega, by omega⟩, fun _ _ _ => fun k _ => rfl, fun _ _ _ => ⟨by omega, by omega, fun k hk2 => ⟨box_n5 ub k (by omega), wi_ok hk hwe s0 k (by omega), N2 k (by omega)⟩⟩, s0, t0, u0, fun _ _ _ => ⟨h1, hw, hT, hcm, fun _ => ⟨by omega, by omega, g + 1, by omega, _, rfl, rfl, rfl, rfl, rfl, T, ?_⟩⟩⟩
 simp only [eq_self, true_and, and_self, implies_true]
 exact ⟨tK, by omega⟩
theorem estimateNarrows_law : LawFn Tryz.prog 4 nrSh := fun x hv => by
 by_cases h : shtB (casOf x.1).w.cel = true /\ wcB (casOf x.1).w = true
 ·exact nrB_ok x ⟨hv, h⟩
 ·exact nrA_ok x ⟨hv, h⟩
end
end Abs
open Go.ChangeShapes Go.WideShapes Go.ChangeAt Go.RowKit
set_option maxRecDepth 100000 in
theorem estimateNarrows_lifted (os : Os) (started : os.Started) (H : Type) (enc : TypeId × Value -> H) :
  ReturnsInHanded {} Tryz.checked os 4 .any (Rows.estimateNarrowsSpec.pre6 enc Tryz.prog Tryz.f4 Rows.estimateNarrowsRow.domain false) (Rows.estimateNarrowsSpec.post enc Tryz.prog Tryz.f4 false true false false) := by
 refine returnsInHanded_of_change (C := Tryz.checked) (show ownKnob Tryz.prog.godebug = none by kernel_rfl) started (by kernel_rfl) Tryz.func4
  (ChangeSpec.witness6 (enc := enc) (C := Tryz.checked) false ⟨#[], #[.agg #[.int .i64 0, .slice none 0 0, .slice none 0 0, .int .i64 0, .slice none 0 0, .slice none 0 0, .int .i64 0, .int .i64 0, .int .i64 0, .int .i64 0, .int .i64 0, .int .i64 0, .slice none 0 0, .slice none 0 0, .int .i64 0, .int .i64 0, .int .i64 0, .slice none 0 0, .slice none 0 0, .int .i64 0, .int .i64 0, .int .i64 0, .int .i64 0, .int .i64 0, .int .i64 0, .int .i64 0, .int .i64 0, .int .i64 0, .int .i64 0, .int .i64 0, .int .i64 0, .int .i64 0, .int .i64 0, .int .i64 0, .int .i64 0, .int .i64 0, .int .i64 0, .int .i64 0, .int .i64 0, .int .i64 0, .int .u16 0, .int .u16 0, .int .u16 0, .int .u16 0, .int .u16 0, .int .u16 0, .int .u16 0, .int .u16 0, .int .u16 0, .int .u16 0, .int .u16 0, .int .u16 0], .slice none 0 0, .int .u8 0], []⟩ 8 (by kernel_rfl) (by kernel_rfl) (by kernel_rfl) (by kernel_rfl)) ?_
 intro W base args ds gs before hval0 hW hcnd _
 have hW0 := hW
 obtain ⟨p, q, hA, hV, rfl, hfz, hnd⟩ := hW0
 refine (Abs.law_calls (enc' := enc) Abs.estimateNarrows_law (fn := Tryz.f4) (d := 6) (by kernel_rfl) hA hval0).mono fun e W' hh => ?_
 obtain ⟨he, hb⟩ := hh
 subst he
 exact ⟨_, rfl, Abs.law_post (s := Rows.estimateNarrowsSpec) (f := Tryz.f4) (by kernel_rfl) rfl (by kernel_rfl) (by kernel_rfl) rfl 3 (by kernel_rfl) (fun ds hl => by
  rcases ds with _ | ⟨d0, _ | ⟨d1, _ | ⟨d2, _ | ⟨d3, _⟩⟩⟩⟩
  all_goals first | exact ⟨rfl, rfl, rfl⟩ | (exfalso; simp only [List.length_cons, List.length_nil] at hl; omega)) hW hb⟩
theorem estimateNarrows_holds : Rows.EstimateNarrowsSaid :=
 OpenClaim.holds_of_wide 4 Tryz.f4 rfl rfl rfl rfl rfl rfl rfl ⟨rfl, rfl, rfl, rfl, rfl⟩ rfl rfl rfl rfl rfl (by kernel_rfl) Tryz.func4 (by kernel_rfl)
  (of_decide_eq_true (by kernel_rfl)) (by unfold Func.isWrapper; first | (rw [if_pos (by decide +kernel)]; kernel_rfl) | (rw [if_neg (by decide +kernel)]; exact ⟨rfl, rfl⟩))
  (fun os started H enc _ => estimateNarrows_lifted os started H enc)
end Go.Proofs.YtlabbaglbcmofaaGreat

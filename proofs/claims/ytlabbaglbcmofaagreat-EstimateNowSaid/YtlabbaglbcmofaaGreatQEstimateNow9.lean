/- Readings are late: the box of now holds the state of now, and each current up to the one that Power answers is safe there; no condition. -/
import Derived.Test.YtlabbaglbcmofaaGreatQGe722bb22
import Derived.Test.YtlabbaglbcmofaaGreatRows
set_option linter.unusedSimpArgs false
set_option linter.unusedVariables false
namespace Go.Proofs.YtlabbaglbcmofaaGreat
namespace Abs
open Go Go.RowKit
noncomputable section
attribute [local irreducible] FnSat
noncomputable def SNo0 : Sums := ⟨(36, mkSum _ pwrS) :: (35, mkSum _ nowS) :: (37, mkSum _ btwS) :: (28, mkSum _ bhsS) :: (29, mkSumN _ vecN) :: (38, mkSum _ volS) :: (24, mkSum _ stpT) :: (25, mkSum _ inpW3) :: (21, mkSum _ rdnS) :: (8, mkSum _ tru3) :: SKt.one, SKt.two, SKt.lo, SKt.eqs, SKt.its, SKt.imm⟩
theorem SNo0_ok : SumsOK Tryz.prog SNo0 := ((((((((((SKt_ok.cons Tryz.func8 (by kernel_rfl) (by kernel_rfl) works_ok).cons Tryz.func21 (by kernel_rfl) (by kernel_rfl) rdn_ok).cons Tryz.func25 (by kernel_rfl) (by kernel_rfl) inpW_ok).cons Tryz.func24 (by kernel_rfl) (by kernel_rfl) stpT_ok).cons Tryz.func38 (by kernel_rfl) (by kernel_rfl) vol_ok).add Tryz.func29 (by kernel_rfl) (by kernel_rfl) (mkSumN_ok vector_ok)).cons Tryz.func28 (by kernel_rfl) (by kernel_rfl) bhs_ok).cons Tryz.func37 (by kernel_rfl) (by kernel_rfl) btw_ok).cons Tryz.func35 (by kernel_rfl) (by kernel_rfl) now_ok).cons Tryz.func36 (by kernel_rfl) (by kernel_rfl) pwr_ok)
noncomputable def SNo1 : Sums := ⟨(11, mkSumN _ nwN) :: (20, mkSum _ truB) :: SNo0.one, SNo0.two, SNo0.lo, SNo0.eqs, SNo0.its, SNo0.imm⟩
theorem SNo1_ok : SumsOK Tryz.prog SNo1 := ((SNo0_ok.cons Tryz.func20 (by kernel_rfl) (by kernel_rfl) truB_ok).add Tryz.func11 (by kernel_rfl) (by kernel_rfl) (mkSumN_ok nwN_ok))
noncomputable def SNoA : Sums := ⟨(20, mkSum _ truA) :: SNo0.one, SNo0.two, SNo0.lo, SNo0.eqs, SNo0.its, SNo0.imm⟩
theorem SNoA_ok : SumsOK Tryz.prog SNoA := (SNo0_ok.cons Tryz.func20 (by kernel_rfl) (by kernel_rfl) truA_ok)
noncomputable def SNo : Sums := ⟨SNo1.one, (14, mkSumG _ _ tkwF) :: SNo1.two, SNo1.lo, SNo1.eqs, SNo1.its, SNo1.imm⟩
theorem SNo_ok : SumsOK Tryz.prog SNo := SNo1_ok.addTwo Tryz.func14 (by kernel_rfl) (by kernel_rfl) (mkSumG_ok tkw_ok)
@[reducible] def noSh : List Sh := [casSh, tksSh, tksSh, limSh, .int .u16]
def noA : Spec noSh := ⟨fun x => ValidL noSh x /\ ¬ (shtB (casOf x.1).w.cel = true /\ wcB (casOf x.1).w = true), fun _ => .sb true⟩
def noB : Spec noSh := ⟨fun x => ValidL noSh x /\ shtB (casOf x.1).w.cel = true /\ wcB (casOf x.1).w = true, fun _ => .sb true⟩
set_option maxRecDepth 100000 in
set_option maxHeartbeats 4000000 in
theorem noA_ok : FnSpec Tryz.prog 6 _ noA := by
 refine FnSpec.of SNoA_ok mixed (U := 0) (I := fun _ => []) Tryz.func6 rfl (by kernel_rfl) rfl rfl (by decide +kernel) ?_
 rintro ⟨x, ⟨n, el⟩, ⟨m, em⟩, ⟨(l : Int), (q : Int), (o : Int), (w : Int), (h : Int), ⟨⟩⟩, (pt : Int), ⟨⟩⟩ hpre
 obtain ⟨x, rfl⟩ := cas_ex x
 have hi := cas_in2 hpre.1
 have hpre : ¬ (shtB x.w.cel = true /\ wcB x.w = true) := by have := hpre.2; rwa [casOf_D] at this
 unfold FnSat
 conv => arg 2; reduce
 simp [-Bool.forall_bool, noA, tru3, truA, and_assoc]
 refine ⟨hi, fun h => ?_⟩
 cases hc : wcB x.w with
 | false => rfl
 | true => exact absurd ⟨h, hc⟩ hpre
def NInv (x : Cas) (g : Nat) (s : Sta) (e : Ew) : Prop := g <= e.w.dly.toNat /\ EwOK e /\ e.gn = false /\ e.w = x.w /\ nowE e = 0 /\ InBox e.w.cel e.w.tl e.w.th (casT x) (nwL e.w e.l e.h g) (nwH e.w e.l e.h g) s
attribute [irreducible] NInv
theorem nInv_iff {x : Cas} {g : Nat} {s : Sta} {e : Ew} : NInv x g s e ↔ g <= e.w.dly.toNat /\ EwOK e /\ e.gn = false /\ e.w = x.w /\ nowE e = 0 /\ InBox e.w.cel e.w.tl e.w.th (casT x) (nwL e.w e.l e.h g) (nwH e.w e.l e.h g) s := by unfold NInv; exact Iff.rfl
theorem box_n {c : Cel} {lo hi d L H : Nat -> Int} {s : Sta} (hb : InBox c lo hi d L H s) (k : Nat) (hk : k < 5) : spanOK (L k) (H k) = true /\ L k <= stV s k /\ stV s k <= H k := by
 obtain ⟨q0, q1, q2, q3, q4, q5, q6, q7, q8, q9, q10, q11, q12, q13, q14⟩ := hb.chk.bx
 refine ⟨?_, hb.ss k hk⟩
 match k, hk with
 | 0, _ => exact spanOK_iff.2 (by omega)
 | 1, _ => exact spanOK_iff.2 (by omega)
 | 2, _ => exact spanOK_iff.2 (by omega)
 | 3, _ => exact spanOK_iff.2 (by omega)
 | 4, _ => exact spanOK_iff.2 (by omega)
theorem nInv_0 {n m g : Nat} {x : Cas} {s : Sta} {e : Ew} (h : KInv n m x g s e) (hE : nowE e = 0) : NInv x 0 s e := by
 obtain ⟨_, _, hk, hg, _, hw, hb⟩ := kInv_iff.1 h
 exact nInv_iff.2 ⟨Nat.zero_le _, hk, hg, hw, hE, by rw [nwL_0, nwH_0]; exact hb⟩
theorem nInv_s {x : Cas} {g : Nat} {s : Sta} {e : Ew} {t0 t1 : Int} (h : NInv x g s e) (hlt : (g : Int) < x.w.dly) (a0 : 0 <= t0 /\ t0 <= 65535) (a1 : 0 <= t1 /\ t1 <= 65535) :
  stAE (casC x) s (btV x.w.cl x.w.ch t0) (btV x.w.al x.w.ah t1) = 0 /\ NInv x (g + 1) (stA (casC x) s (btV x.w.cl x.w.ch t0) (btV x.w.al x.w.ah t1)) e := by
 obtain ⟨hg, hk, hn, hw, hE, hb⟩ := nInv_iff.1 h
 obtain ⟨_, _, _, w3, w4, _⟩ := wcB_iff.1 hk.wat
 obtain ⟨c0, c1, c2⟩ := insV_iff.1 w3
 obtain ⟨u0, u1, u2⟩ := insV_iff.1 w4
 obtain ⟨hB, _⟩ := now_is hE
 unfold nat at hB
 rw [<- hw] at hlt
 rw [casC_eq]
 rw [<- hw]
 have i := bt_in (p := t0) c1 (by omega) a0.1 a0.2
 have j := bt_in (p := t1) u1 (by omega) a1.1 a1.2
 obtain ⟨k1, k2⟩ := now_keep hk.wat hB (by omega) hb i.1 i.2 j.1 j.2
 exact ⟨k1, nInv_iff.2 ⟨by omega, hk, hn, hw, hE, k2⟩⟩
theorem stAE_no3 {c : Cel} {s : Sta} {i a : Int} (h : csE c s = 0) (hb : inB i a = true) : stAE c s i a = 0 \/ stAE c s i a = 4 := by
 unfold stAE
 rw [aE_yes h]
 unfold stpE
 rw [hb]
 cases ovr c s i <;> simp
theorem now_fin {x : Cas} {g : Nat} {s : Sta} {e : Ew} {l q o w h pt : Int} (hi : NInv x g s e) (hd : x.w.dly <= (g : Int)) (hp : 0 <= pt /\ pt <= 65535) :
  nowN e = 5 /\ (∀ k, k < 5 -> spanOK (nowL e k) (nowH e k) = true /\ nowL e k <= stV s k /\ stV s k <= nowH e k) /\ (pwE e l q o w h = 0 \/ pwE e l q o w h = 2 \/ pwE e l q o w h = 17) /\
  (pwE e l q o w h = 0 -> spanOK 0 (pwV e l q o w h) = true /\ spanOK x.w.al x.w.ah = true /\ 0 <= pwV e l q o w h /\ pwV e l q o w h <= o /\ aE (casC x) s (wiE (btV 0 (pwV e l q o w h) pt)) = 0 /\
   l <= aV (casC x) s (wiV (btV 0 (pwV e l q o w h) pt) (voltV (casC x) s (btV 0 (pwV e l q o w h) pt))) /\
   (stAE (casC x) s (btV 0 (pwV e l q o w h) pt) (btV x.w.al x.w.ah pt) = 4 \/ stAE (casC x) s (btV 0 (pwV e l q o w h) pt) (btV x.w.al x.w.ah pt) = 0 /\ (stA (casC x) s (btV 0 (pwV e l q o w h) pt) (btV x.w.al x.w.ah pt)).tp <= h)) := by
 obtain ⟨hg, hk, hn, hw, hE, hb⟩ := nInv_iff.1 hi
 obtain ⟨_, _, _, w3, w4, _⟩ := wcB_iff.1 hk.wat
 obtain ⟨u0, u1, u2⟩ := insV_iff.1 w4
 obtain ⟨_, hN⟩ := now_is hE
 have h5 := ew_five hk
 rw [<- hw] at hd
 have eg : g = e.w.dly.toNat := by omega
 have eL : nwL e.w e.l e.h g = nowL e := by unfold nowL nat; rw [eg]
 have eH : nwH e.w e.l e.h g = nowH e := by unfold nowH nat; rw [eg]
 rw [eL, eH] at hb
 have hcs := hb.cs
 obtain ⟨p1, p2⟩ := pw_safe (l := l) (q := q) (o := o) (w := w) (h := h) hk hE hb
 rw [casC_eq]
 rw [<- hw]
 refine ⟨by rw [hN, h5], box_n hb, p1, fun h0 => ?_⟩
 obtain ⟨v0, v1, v2, v3⟩ := p2 h0
 generalize pwV e l q o w h = v at *
 have i := bt_in (lo := 0) (hi := v) (p := pt) v0 (by omega) hp.1 hp.2
 have j := bt_in (lo := e.w.al) (hi := e.w.ah) (p := pt) u1 (by omega) hp.1 hp.2
 generalize btV 0 v pt = c at *
 generalize btV e.w.al e.w.ah pt = a at *
 obtain ⟨b1, b2, b3⟩ := outP_iff.1 (v3 c a i.1 i.2 j.1 j.2)
 have hin : inB c a = true := inB_iff.2 ⟨⟨by omega, by omega⟩, by omega, by omega⟩
 have hcur : curI c = true := by unfold curI; simp; omega
 refine ⟨spanOK_iff.2 (by omega), ins_span w4 (by decide) (by decide), v0, v1, ?_, ?_, ?_⟩
 ·rw [aE_yes hcs]; unfold wiE; rw [if_pos hcur]
 ·rw [aV_yes hcs]
  have : wiV c (voltV (mvC e.w.cel (casT x)) s c) = voltV (mvC e.w.cel (casT x)) s c := by unfold wiV; rw [if_pos hcur]
  rw [this]; exact b1
 ·rcases stAE_no3 hcs hin with k | k
  ·refine Or.inr ⟨k, ?_⟩
   rw [stA_0 hcs k, Sta.tp_mk]
   exact b3
  ·exact Or.inl k
def ewX (a : AV) : Ew := match a with
 | .xp l => ewOf (decL ewCells l).2
 | _ => ewOf (decL ewCells []).2
def noI : DatL noSh -> Anns := fun (x, (n, el), _) => [(1048578, [], cutTr (casOf x) 11 2 217), (1048587, [], cutRd (casOf x) el 17 16 3 6 217),
 (8, [], fun fr hp => ⟨Nat × Sta × Ew, fun (g, s, e) => ⟨frI [.k 16, .s (.si .i64 (icast g)), .t 200] fr, setB (setB hp 3 (.cells 70 [.si .i64 s.q, .si .i64 s.rx, .si .i64 s.tp, .si .i64 s.th, .si .i64 s.ag])) 5 (.cells 114 (.sb true :: ewCs e.w e.n e.l e.h e.tk e.gn))⟩,
  Nat × Cas × (Nat × Sta × Ew), fun y => (n, casOf x, y), fun (n, x, (g, s, e)) => KInv n 8 x g s e, fun (g, _) => nsub n g⟩),
 (2097169, [(14, 0, 0)], fun _ _ => unitA),
 (21, [], fun fr hp => ⟨Nat × Sta, fun (g, s) => ⟨frI [.k 22, .s (.si .i64 (icast g)), .t 194] fr, setB hp 3 (.cells 70 [.si .i64 s.q, .si .i64 s.rx, .si .i64 s.tp, .si .i64 s.th, .si .i64 s.ag])⟩,
  Cas × Ew × (Nat × Sta), fun y => (casOf x, ewX (getL fr 14), y), fun (x, e, (g, s)) => NInv x g s e, fun (g, _) => nsub (nat (casOf x).w.dly) g⟩)]
set_option maxRecDepth 100000 in
set_option maxRecDepth 100000 in
set_option maxHeartbeats 8000000 in
theorem noB_ok : FnSpec Tryz.prog 6 _ noB := by
 refine FnSpec.of SNo_ok mixed (U := 0) (I := noI) Tryz.func6 rfl (by kernel_rfl) rfl rfl (by decide +kernel) ?_
 rintro ⟨x, ⟨n, el⟩, ⟨m, em⟩, ⟨(l : Int), (q : Int), (o : Int), (w : Int), (h : Int), ⟨⟩⟩, (pt : Int), ⟨⟩⟩ hpre
 obtain ⟨x, rfl⟩ := cas_ex x
 have hi := cas_in2 hpre.1
 have hpre' : shtB x.w.cel = true /\ wcB x.w = true := by have := hpre.2; rwa [casOf_D] at this
 have eI : noI (casD x, (n, el), (m, em), (l, q, o, w, h, ()), pt, ()) = [(1048578, [], cutTr x 11 2 217), (1048587, [], cutRd x el 17 16 3 6 217),
  (8, [], fun fr hp => ⟨Nat × Sta × Ew, fun (g, s, e) => ⟨frI [.k 16, .s (.si .i64 (icast g)), .t 200] fr, setB (setB hp 3 (.cells 70 [.si .i64 s.q, .si .i64 s.rx, .si .i64 s.tp, .si .i64 s.th, .si .i64 s.ag])) 5 (.cells 114 (.sb true :: ewCs e.w e.n e.l e.h e.tk e.gn))⟩,
   Nat × Cas × (Nat × Sta × Ew), fun y => (n, x, y), fun (n, x, (g, s, e)) => KInv n 8 x g s e, fun (g, _) => nsub n g⟩),
  (2097169, [(14, 0, 0)], fun _ _ => unitA),
  (21, [], fun fr hp => ⟨Nat × Sta, fun (g, s) => ⟨frI [.k 22, .s (.si .i64 (icast g)), .t 194] fr, setB hp 3 (.cells 70 [.si .i64 s.q, .si .i64 s.rx, .si .i64 s.tp, .si .i64 s.th, .si .i64 s.ag])⟩,
   Cas × Ew × (Nat × Sta), fun y => (x, ewX (getL fr 14), y), fun (x, e, (g, s)) => NInv x g s e, fun (g, _) => nsub (nat x.w.dly) g⟩)] := by
  unfold noI
  simp only [casOf_D]
 rw [eI]
 clear eI
 unfold FnSat
 conv => arg 2; reduce
 simp [-Bool.forall_bool, noB, tru3, truB, nwN, rdnS, inpW3, tkwF, stpT, volS, vecN, bhsS, btwS, nowS, pwrS, ew_up, sel5_st, enc_cel, ElEq, getB, goneB, aliveB, and_assoc]
 obtain ⟨hs, hw⟩ := hpre'
 have hm := shtB_max hs
 have hv := hpre.1
 clear hpre
 have hel : ∀ k, k < n -> ValidL [.int .u16, .int .u16, .int .i16, .int .i16, .int .i16, .int .i16, .int .u8] (el k) := hv.2.1.2
 have hem : ∀ k, k < m -> ValidL [.int .u16, .int .u16, .int .i16, .int .i16, .int .i16, .int .i16, .int .u8] (em k) := hv.2.2.1.2
 have hpt : 0 <= pt /\ pt <= 65535 := part_in hv.2.2.2.2.1
 refine ⟨hi, hs, hw, fun hok => ⟨hm, hi.tn, hw, ⟨0, rfl, casS x, rfl, rfl, rfl, rfl, rfl, ⟨x.w, x.w.bn, x.w.bl, x.w.bh, 0, false⟩, ?_⟩, fun g s e hinv => ?_⟩⟩
 ·simp only [Ew.w_mk, Ew.n_mk, Ew.l_mk, Ew.h_mk, Ew.tk_mk, Ew.gn_mk]
  simp
  exact kInv_0 hi hm hw (truOK_iff.1 hok)
 obtain ⟨_, _, hk, hg, htk, hwe, hb⟩ := kInv_iff.1 hinv
 have hcm := casC_max hm
 have hd0 := (wcB_iff.1 hw).2.1
 have hd1 := (wcB_iff.1 hw).2.2.1
 have nw := fun r : R8 => ewN_w e r.1 r.2.1 r.2.2.1 r.2.2.2.1 r.2.2.2.2.1 r.2.2.2.2.2.1 r.2.2.2.2.2.2.1 r.2.2.2.2.2.2.2
 have nn := fun r : R8 => ewN_n e r.1 r.2.1 r.2.2.1 r.2.2.2.1 r.2.2.2.2.1 r.2.2.2.2.2.1 r.2.2.2.2.2.2.1 r.2.2.2.2.2.2.2
 simp only [ew_eta e]
 refine ⟨fun h1 h2 => ?_, fun _ => ⟨hk, fun h0 => ?_, fun h0 => ⟨⟨0, rfl, s, rfl, rfl, rfl, rfl, rfl, nInv_0 hinv h0⟩, fun g2 s2 hn => ⟨fun hd => ⟨fun hlt => ?_, fun _ => ?_⟩, fun hd => ?_⟩⟩⟩⟩
 ·obtain ⟨hT, hH0, hH1⟩ := tick_in (hel g h1)
  have hcs : csE (casC x) s = 0 := by
   have := hb.cs
   rw [hwe] at this
   rwa [casC_eq]
  have st := keep_step (r := rdT x s (el g)) (by decide) hinv h1 h2 hT rfl
  have et : rdT x s (el g) = (hkB (el g).2.2.2.2.2.2.1 0, hkB (el g).2.2.2.2.2.2.1 1, hkB (el g).2.2.2.2.2.2.1 2, hkB (el g).2.2.2.2.2.2.1 3, rv0 x.w (casC x) s (el g).1 (el g).2.2.1, rv1 x.w (el g).1 (el g).2.2.2.1, rv2 x.w s (el g).2.2.2.2.1, rv3 x.w (el g).2.1 (el g).2.2.2.2.2.1) := by unfold rdT; rfl
  refine ⟨h1, hw, hcm, hcs, hT, hH0, hH1, et.symm, h1, hw, hT, hcm, hk, fun hE _ => ⟨by omega, by omega, g + 1, by omega, _, rfl, rfl, rfl, rfl, rfl, ewN e (rdT x s (el g)).1 (rdT x s (el g)).2.1 (rdT x s (el g)).2.2.1 (rdT x s (el g)).2.2.2.1 (rdT x s (el g)).2.2.2.2.1 (rdT x s (el g)).2.2.2.2.2.1 (rdT x s (el g)).2.2.2.2.2.2.1 (rdT x s (el g)).2.2.2.2.2.2.2, ?_⟩⟩
  simp only [nw, nn, eq_self, true_and, and_self, implies_true]
  rw [tkP_2] at hE
  rcases st with st | ⟨_, _, s3⟩
  ·omega
  ·rw [tkP_1]
   exact ⟨s3, by omega⟩
 ·exact (now_or e).resolve_left h0
 ·obtain ⟨hT, _, _⟩ := tick_in (hem g2 hlt)
  obtain ⟨a0, a1, _⟩ := tkIn_iff.1 hT
  obtain ⟨k1, k2⟩ := nInv_s hn hd a0 a1
  exact ⟨hlt, hw, hT, hcm, k1, fun _ => ⟨by omega, by omega, g2 + 1, by omega, _, rfl, rfl, rfl, rfl, rfl, k2, by omega⟩⟩
 ·have hT : TkIn 0 0 0 0 0 0 := tkIn_iff.2 (by decide)
  obtain ⟨k1, k2⟩ := nInv_s (t0 := 0) (t1 := 0) hn hd (by decide) (by decide)
  exact ⟨hw, hT, hcm, k1, fun _ => ⟨by omega, by omega, g2 + 1, by omega, _, rfl, rfl, rfl, rfl, rfl, k2, by omega⟩⟩
 ·obtain ⟨f1, f2, f3, f4⟩ := now_fin (l := l) (q := q) (o := o) (w := w) (h := h) hn hd hpt
  refine ⟨by omega, f1, fun k hk2 => f2 k (by omega), hk, fun h1 => ?_, fun h1 => ?_⟩
  ·rcases f3 with f | f | f
   ·exact absurd f h1
   ·exact Or.inr f
   ·exact Or.inl f
  ·obtain ⟨d1, d2, d3, d4, d5, d6, d7⟩ := f4 h1
   exact ⟨d1, hpt.1, hpt.2, hcm, d2, hpt.1, hpt.2, hcm, d3, d4, d5, d6, fun _ _ _ _ => ⟨fun a b => ⟨a, b⟩, d7⟩⟩
theorem estimateNow_law : LawFn Tryz.prog 6 noSh := fun x hv => by
 by_cases h : shtB (casOf x.1).w.cel = true /\ wcB (casOf x.1).w = true
 ·exact noB_ok x ⟨hv, h⟩
 ·exact noA_ok x ⟨hv, h⟩
end
end Abs
open Go.ChangeShapes Go.WideShapes Go.ChangeAt Go.RowKit
set_option maxRecDepth 100000 in
theorem estimateNow_lifted (os : Os) (started : os.Started) (H : Type) (enc : TypeId × Value -> H) :
  ReturnsInHanded {} Tryz.checked os 6 .any (Rows.estimateNowSpec.pre6 enc Tryz.prog Tryz.f6 Rows.estimateNowRow.domain false) (Rows.estimateNowSpec.post enc Tryz.prog Tryz.f6 false true false false) := by
 refine returnsInHanded_of_change (C := Tryz.checked) (show ownKnob Tryz.prog.godebug = none by kernel_rfl) started (by kernel_rfl) Tryz.func6
  (ChangeSpec.witness6 (enc := enc) (C := Tryz.checked) false ⟨#[], #[.agg #[.int .i64 0, .slice none 0 0, .slice none 0 0, .int .i64 0, .slice none 0 0, .slice none 0 0, .int .i64 0, .int .i64 0, .int .i64 0, .int .i64 0, .int .i64 0, .int .i64 0, .slice none 0 0, .slice none 0 0, .int .i64 0, .int .i64 0, .int .i64 0, .slice none 0 0, .slice none 0 0, .int .i64 0, .int .i64 0, .int .i64 0, .int .i64 0, .int .i64 0, .int .i64 0, .int .i64 0, .int .i64 0, .int .i64 0, .int .i64 0, .int .i64 0, .int .i64 0, .int .i64 0, .int .i64 0, .int .i64 0, .int .i64 0, .int .i64 0, .int .i64 0, .int .i64 0, .int .i64 0, .int .i64 0, .int .u16 0, .int .u16 0, .int .u16 0, .int .u16 0, .int .u16 0, .int .u16 0, .int .u16 0, .int .u16 0, .int .u16 0, .int .u16 0, .int .u16 0, .int .u16 0], .slice none 0 0, .slice none 0 0, .agg #[.int .i64 0, .int .i64 0, .int .i64 0, .int .i64 0, .int .i64 0], .int .u16 0], []⟩ 8 (by kernel_rfl) (by kernel_rfl) (by kernel_rfl) (by kernel_rfl)) ?_
 intro W base args ds gs before hval0 hW hcnd _
 have hW0 := hW
 obtain ⟨p, q, hA, hV, rfl, hfz, hnd⟩ := hW0
 refine (Abs.law_calls (enc' := enc) Abs.estimateNow_law (fn := Tryz.f6) (d := 6) (by kernel_rfl) hA hval0).mono fun e W' hh => ?_
 obtain ⟨he, hb⟩ := hh
 subst he
 exact ⟨_, rfl, Abs.law_post (s := Rows.estimateNowSpec) (f := Tryz.f6) (by kernel_rfl) rfl (by kernel_rfl) (by kernel_rfl) rfl 5 (by kernel_rfl) (fun ds hl => by
  rcases ds with _ | ⟨d0, _ | ⟨d1, _ | ⟨d2, _ | ⟨d3, _ | ⟨d4, _ | ⟨d5, _⟩⟩⟩⟩⟩⟩
  all_goals first | exact ⟨rfl, rfl, rfl⟩ | (exfalso; simp only [List.length_cons, List.length_nil] at hl; omega)) hW hb⟩
theorem estimateNow_holds : Rows.EstimateNowSaid :=
 OpenClaim.holds_of_wide 6 Tryz.f6 rfl rfl rfl rfl rfl rfl rfl ⟨rfl, rfl, rfl, rfl, rfl⟩ rfl rfl rfl rfl rfl (by kernel_rfl) Tryz.func6 (by kernel_rfl)
  (of_decide_eq_true (by kernel_rfl)) (by unfold Func.isWrapper; first | (rw [if_pos (by decide +kernel)]; kernel_rfl) | (rw [if_neg (by decide +kernel)]; exact ⟨rfl, rfl⟩))
  (fun os started H enc _ => estimateNow_lifted os started H enc)
end Go.Proofs.YtlabbaglbcmofaaGreat

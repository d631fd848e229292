/- A part of the proof: no statement of its own. -/
import Derived.Test.YtlacopdaibhkkaaQG38588125
set_option linter.unusedSimpArgs false
set_option linter.unusedVariables false
namespace Go.Proofs.Ytlacopdaibhkkaa
namespace Abs
open Go Go.RowKit
noncomputable section
attribute [local irreducible] FnSat
theorem Fn.res {P : Program} {f : FuncId} {args : List AV} {H H' : Heap} {r r' : AV} (h : Fn P f args H r H') (hr : ∀ (C : Cx) (w : World) (v : Value), Rel C w r v -> Rel C w r' v) : Fn P f args H r' H' :=
 fun C w vs h0 h1 h2 => (h C w vs h0 h1 h2).mono fun e w' ⟨v, C', he, h3, h4, h5⟩ => ⟨v, C', he, h3, hr _ _ _ h4, h5⟩
structure Two (c : Crv) (a b u v : Int) : Prop where
 nx : c.nx = 2
 ny : c.ny = 2
 x0 : c.x 0 = a
 x1 : c.x 1 = b
 y0 : c.y 0 = u
 y1 : c.y 1 = v
theorem Two.val {c : Crv} {a b u v x : Int} (h : Two c a b u v) (hc : crB c = true) (h0 : a <= x) (h1 : x < b) : valL c x = u + (x - a) * (v - u) / (b - a) := by
 have hs : sgI c x = 0 := sgI_uniq hc (by rw [h.nx]; decide) (by rw [h.x0]; exact h0) (by rw [h.x1]; exact h1)
 unfold valL
 rw [h.nx]
 show (if c.x 1 <= x then _ else _) = _
 rw [h.x1, h.x0, if_neg (by omega), if_neg (by omega), hs]
 unfold pcL
 rw [h.x0, h.x1, h.y0, h.y1]
noncomputable def SCex : Sums := ⟨SCst.one, SCst.two, SCst.lo, SCst.eqs, SCst.its, SCst.imm⟩
theorem SCex_ok : SumsOK Try.prog SCex := SCst_ok
@[reducible] def st5 : List (Option IntKind) := [some .i64, some .i64, some .i64, some .i64, some .i64]
@[reducible] def sp2 : List (Option IntKind) := [some .i64, some .i64]
def eqsC : List (Nat × List (Option IntKind)) := [(48, st5), (153, sp2)]
theorem eqsC_ok : ∀ t ks, findS eqsC t = some ks -> EqOK Try.prog t ks := by
 intro t ks h
 unfold eqsC at h
 simp only [findS] at h
 split at h
 ·rename_i e
  obtain rfl := Nat.eq_of_beq_eq_true e
  injection h with h; subst h
  exact EqOK.of 3 (by decide) (by kernel_rfl) (by kernel_rfl) (by kernel_rfl)
 ·first
  | cases h; done
  | split at h
    ·rename_i e
     obtain rfl := Nat.eq_of_beq_eq_true e
     injection h with h; subst h
     exact EqOK.of 3 (by decide) (by kernel_rfl) (by kernel_rfl) (by kernel_rfl)
    ·cases h
noncomputable def SCeq : Sums := ⟨SCex.one, SCex.two, SCex.lo, eqsC, SCex.its, SCex.imm⟩
theorem SCeq_ok : SumsOK Try.prog SCeq := SCex_ok.setEqs eqsC_ok
noncomputable def SCkn : Sums := ⟨SCeq.one, SCeq.two, SCeq.lo, SCeq.eqs, SCeq.its, SCeq.imm⟩
theorem SCkn_ok : SumsOK Try.prog SCkn := SCeq_ok
end
end Abs
end Go.Proofs.Ytlacopdaibhkkaa

namespace Go.Proofs.Ytlacopdaibhkkaa
namespace Abs
open Go Go.RowKit
noncomputable section
attribute [local irreducible] FnSat
noncomputable def SVa : Sums := SCkn
theorem SVa_ok : SumsOK Try.prog SVa := SCkn_ok
noncomputable def SVb : Sums := ⟨SVa.one, SVa.two, SVa.lo, SVa.eqs, SVa.its, SVa.imm⟩
theorem SVb_ok : SumsOK Try.prog SVb := SVa_ok
end
end Abs
end Go.Proofs.Ytlacopdaibhkkaa

namespace Go.Proofs.Ytlacopdaibhkkaa
namespace Abs
open Go Go.RowKit
noncomputable section
attribute [local irreducible] FnSat
set_option maxRecDepth 100000 in
theorem floor_ok : FnSpec Try.prog 57 _ divS := by
 refine FnSpec.of SVb_ok mixed (U := 0) (I := fun _ => []) Try.func57 rfl (by kernel_rfl) rfl rfl (by decide +kernel) ?_
 rintro ⟨(n : Int), (d : Int), ⟨⟩⟩ ⟨(h1 : -4611686018427387904 <= n), (h2 : n <= 4611686018427387904), (h3 : 1 <= d)⟩
 unfold FnSat
 conv => arg 2; reduce
 simp [divS, and_assoc]
 exact dvI_by h1 h2 h3
set_option maxRecDepth 100000 in
theorem within_ok : FnSpec Try.prog 55 _ betS := by
 refine FnSpec.of SVb_ok mixed (U := 0) (I := fun _ => []) Try.func55 rfl (by kernel_rfl) rfl rfl (by decide +kernel) ?_
 rintro ⟨(x : Int), (lo : Int), (hi : Int), ⟨⟩⟩ -
 unfold FnSat
 conv => arg 2; reduce
 simp [betS, isIn]
set_option maxRecDepth 100000 in
theorem ris_ok : FnSpec Try.prog 85 _ isS := by
 refine FnSpec.of SVb_ok mixed (U := 0) (I := fun _ => []) Try.func85 rfl (by kernel_rfl) rfl rfl (by decide +kernel) ?_
 rintro ⟨(x : Int), ⟨⟩⟩ -
 unfold FnSat
 conv => arg 2; reduce
 simp [isS, isQ]
noncomputable def SRa : Sums := ⟨(85, mkSum _ isS) :: (55, mkSum _ betS) :: (57, mkSum _ divS) :: SVb.one, SVb.two, SVb.lo, SVb.eqs, SVb.its, SVb.imm⟩
theorem SRa_ok : SumsOK Try.prog SRa := (((SVb_ok.cons Try.func57 (by kernel_rfl) (by kernel_rfl) floor_ok).cons Try.func55 (by kernel_rfl) (by kernel_rfl) within_ok).cons Try.func85 (by kernel_rfl) (by kernel_rfl) ris_ok)
def rcrI : DatL [crvSh] -> Anns := fun (c, _) => [
 (6, [], fun fr hp => ⟨Nat, fun g => ⟨frI [.k 3, .s (.si .i64 (icast g)), .k 23, .t 55] fr, hp⟩, Nat × Crv, fun g => (g, crvOf c), fun (g, c) => g <= c.nx /\ (∀ j, j < g -> isQ (c.x j) = true /\ isQ (c.y j) = true) /\ ∀ j, j + 1 < g -> c.x j < c.x (j + 1) /\ c.y j <= c.y (j + 1), fun g => nsub c.1.1 g⟩)]
set_option maxRecDepth 100000 in
theorem rcr_ok : FnSpec Try.prog 79 _ crS := by
 refine FnSpec.of SRa_ok mixed (U := 0) (I := rcrI) Try.func79 rfl (by kernel_rfl) rfl rfl (by decide +kernel) ?_
 rintro ⟨c, ⟨⟩⟩ hpre
 obtain ⟨c, rfl⟩ := crv_ex c
 have hpre : c.nx <= maxLen /\ c.ny <= maxLen := hpre
 obtain ⟨p1, p2⟩ := hpre
 unfold FnSat
 conv => arg 2; reduce
 simp [crS, isS, ElEq, getB, goneB, aliveB, and_assoc]
 have bad : (crB c = true -> False) -> c.nx <= 64 -> c.ny <= 64 -> 2 = crE c := fun h h1 h2 => by unfold crE; rw [if_neg (by omega), if_neg (fun hb => h hb)]
 refine ⟨fun h => by unfold crE; rw [if_pos (by omega)], fun n1 n2 => ⟨fun h => bad (fun hb => ?_) (by omega) (by omega), fun h1 h2 => ⟨⟨0, rfl, by omega, fun j hj => by omega, fun j hj => by omega⟩, fun g hg hq hf => ⟨fun hlt => ⟨hlt, fun _ => by omega, fun _ _ _ => hlt, fun _ _ _ => by omega, fun _ _ _ => by omega, fun _ _ _ _ => by omega, fun _ _ _ _ => by omega, fun _ _ _ _ => by omega, fun a b c d => ⟨a, b, c, d⟩, fun a b c => ⟨a, b, c⟩, fun h => bad (fun hb => ?_) (by omega) (by omega), fun a1 a2 a3 => ⟨by omega, by omega, g + 1, by omega, by omega, fun j hj => ?_, fun j hj => ?_, by omega⟩⟩, fun hge => ?_⟩⟩⟩⟩
 ·have := crB_iff.1 hb; omega
 ·have hb := crB_iff.1 hb
  rcases h with (h | h) | ⟨h0, h⟩
  ·rw [(hb.2.2.2.1 g hlt).1] at h; cases h
  ·rw [(hb.2.2.2.1 g hlt).2] at h; cases h
  ·have := hb.2.2.2.2 (g - 1) (by omega)
   rw [show g - 1 + 1 = g by omega] at this
   omega
 ·by_cases h' : j < g
  ·exact hq j h'
  ·obtain rfl : j = g := by omega
   exact ⟨a1, a2⟩
 ·by_cases h' : j + 1 < g
  ·exact hf j h'
  ·have := a3 (by omega)
   rw [show j = g - 1 by omega, show g - 1 + 1 = g by omega]
   exact this
 ·exact (crE_iff.2 (crB_iff.2 ⟨by omega, by omega, by omega, fun k hk => hq k (by omega), fun k hk => hf k (by omega)⟩)).symm
noncomputable def SRb : Sums := ⟨(79, mkSum _ crS) :: SRa.one, SRa.two, SRa.lo, SRa.eqs, SRa.its, SRa.imm⟩
theorem SRb_ok : SumsOK Try.prog SRb := (SRa_ok.cons Try.func79 (by kernel_rfl) (by kernel_rfl) rcr_ok)
set_option maxRecDepth 100000 in
theorem rscale_ok : FnSpec Try.prog 71 _ scaleS := by
 refine FnSpec.of SRb_ok mixed (U := 0) (I := fun _ => []) Try.func71 rfl (by kernel_rfl) rfl rfl (by decide +kernel) ?_
 rintro ⟨c, (last : Int), (most : Int), ⟨⟩⟩ hpre
 obtain ⟨c, rfl⟩ := crv_ex c
 have hpre : c.nx <= maxLen /\ c.ny <= maxLen := hpre
 obtain ⟨p1, p2⟩ := hpre
 unfold FnSat
 conv => arg 2; reduce
 simp [scaleS, crS, and_assoc]
 refine ⟨p1, p2, fun h => ?_, fun h => ?_⟩
 ·have hb : crB c = false := by
   cases hb : crB c with
   | false => rfl
   | true => exact absurd (crE_iff.2 hb) h
  unfold scB; rw [hb]; simp
 ·have hb : crB c = true := crE_iff.1 h
  have h1 := crB_iff.1 hb
  unfold maxLen at p1 p2
  refine ⟨by omega, fun _ => by omega, fun _ => by omega, fun _ _ => by omega, fun _ _ _ => by omega, fun _ _ _ => by omega, ?_⟩
  unfold scB
  rw [Bool.eq_iff_iff]
  simp [hb]
def rwearS : Spec [celSh, .int .i64, .int .i64] := ⟨fun (c, (t : Int), (a : Int), _) => WearOK (celOf c) t a, fun (c, (t : Int), (a : Int), _) => .si .i64 (wearV (celOf c) t a)⟩
set_option maxRecDepth 100000 in
theorem rwear_ok : FnSpec Try.prog 33 _ rwearS := by
 refine FnSpec.of SRb_ok mixed (U := 0) (I := fun _ => []) Try.func33 rfl (by kernel_rfl) rfl rfl (by decide +kernel) ?_
 rintro ⟨c, (t : Int), (a : Int), ⟨⟩⟩ hpre
 obtain ⟨c, rfl⟩ := cel_ex c
 have hpre : WearOK c t a := by have : WearOK (celOf (celD c)) t a := hpre; rwa [celOf_D] at this
 unfold FnSat
 conv => arg 2; reduce
 simp [rwearS, divS, and_assoc]
 have h1 := mul_in hpre.t0 hpre.t1 hpre.c0 hpre.c1
 have h2 := mul_in hpre.g0 hpre.g1 hpre.a0 hpre.a1
 have h3 := wearV_in hpre
 have e : dvI (t * c.cyc) 1073741824 + dvI (a * c.agel) 1073741824 = wearV c t a := by unfold wearV; rfl
 rw [e]
 omega
noncomputable def SRc : Sums := ⟨(33, mkSum _ rwearS) :: (71, mkSum _ scaleS) :: SRb.one, SRb.two, SRb.lo, SRb.eqs, SRb.its, SRb.imm⟩
theorem SRc_ok : SumsOK Try.prog SRc := ((SRb_ok.cons Try.func71 (by kernel_rfl) (by kernel_rfl) rscale_ok).cons Try.func33 (by kernel_rfl) (by kernel_rfl) rwear_ok)
def rcapS : Spec [celSh, staSh] := ⟨fun (c, s, _) => WearOK (celOf c) (staOf s).th (staOf s).ag /\ 0 <= (celOf c).cap /\ (celOf c).cap <= 4294967296, fun (c, s, _) => .si .i64 (roomV (celOf c) (wearV (celOf c) (staOf s).th (staOf s).ag))⟩
set_option maxRecDepth 100000 in
theorem rcap_ok : FnSpec Try.prog 31 _ rcapS := by
 refine FnSpec.of SRc_ok mixed (U := 0) (I := fun _ => []) Try.func31 rfl (by kernel_rfl) rfl rfl (by decide +kernel) ?_
 rintro ⟨c, s, ⟨⟩⟩ hpre
 obtain ⟨c, rfl⟩ := cel_ex c
 obtain ⟨s, rfl⟩ := sta_ex s
 have hpre : WearOK c s.th s.ag /\ 0 <= c.cap /\ c.cap <= 4294967296 := by have : WearOK (celOf (celD c)) (staOf (staD s)).th (staOf (staD s)).ag /\ 0 <= (celOf (celD c)).cap /\ (celOf (celD c)).cap <= 4294967296 := hpre; rwa [celOf_D, staOf_D] at this
 obtain ⟨hw, c0, c1⟩ := hpre
 unfold FnSat
 conv => arg 2; reduce
 simp [rcapS, rwearS, and_assoc]
 have := wearV_in hw
 unfold roomV
 exact ⟨hw, by omega, by omega, rfl⟩
set_option maxRecDepth 100000 in
set_option maxHeartbeats 4000000 in
theorem rcheck_ok : FnSpec Try.prog 54 _ ccheckS := by
 refine FnSpec.of SRc_ok mixed (U := 0) (I := fun _ => []) Try.func54 rfl (by kernel_rfl) rfl rfl (by decide +kernel) ?_
 rintro ⟨c, ⟨⟩⟩ hpre
 obtain ⟨c, rfl⟩ := cel_ex c
 have hpre : CelMax c := by have : CelMax (celOf (celD c)) := hpre; rwa [celOf_D] at this
 obtain ⟨p1, p2, p3, p4, p5, p6⟩ := hpre
 unfold FnSat
 conv => arg 2; reduce
 simp [ccheckS, betS, scaleS, and_assoc]
 have no : (CelOK c -> False) -> 2 = errA (celB c) := fun h => by rw [celB_no h]; simp [errA]
 refine ⟨fun _ _ => ⟨p1, p2⟩, fun _ _ _ => ⟨p3, p4⟩, fun _ _ _ _ => ⟨p5, p6⟩, fun h => no fun k => ?_, fun q0 q1 h1 h2 h3 => ⟨fun h => no fun k => ?_, fun q2 q3 q4 q5 q6 q7 q8 q9 q10 q11 q12 q13 q14 q15 => ⟨fun h => no fun k => ?_, fun q16 q17 q18 q19 q20 q21 => ?_⟩⟩⟩
 ·have := k.cap0
  have := k.cap1
  rcases h with (((h | h) | h) | h) | h
  ·omega
  ·omega
  ·rw [k.ocv] at h; cases h
  ·rw [k.cold] at h; cases h
  ·rw [k.stress] at h; cases h
 ·have := k.sh0
  have := k.sh1
  have := k.ex0
  have := k.ex1
  have := k.pr0
  have := k.pr1
  have := k.lk0
  have := k.lk1
  have := k.kp0
  have := k.kp1
  have := k.co0
  have := k.co1
  have := k.hc0
  have := k.hc1
  omega
 ·have := k.cy0
  have := k.cy1
  have := k.al0
  have := k.al1
  have := k.gr0
  have := k.gr1
  omega
 ·rw [celB_iff.2 ⟨q0, q1, q2, q3, q4, q5, q6, q7, q8, q9, q10, q11, q12, q13, q14, q15, q16, q17, q18, q19, q20, q21, h1, h2, h3⟩]; simp [errA]
noncomputable def SRd : Sums := ⟨(54, mkSum _ ccheckS) :: (31, mkSum _ rcapS) :: SRc.one, SRc.two, SRc.lo, SRc.eqs, SRc.its, SRc.imm⟩
theorem SRd_ok : SumsOK Try.prog SRd := ((SRc_ok.cons Try.func31 (by kernel_rfl) (by kernel_rfl) rcap_ok).cons Try.func54 (by kernel_rfl) (by kernel_rfl) rcheck_ok)
set_option maxRecDepth 100000 in
set_option maxHeartbeats 4000000 in
theorem rcst_ok : FnSpec Try.prog 28 _ cstS := by
 refine FnSpec.of SRd_ok mixed (U := 0) (I := fun _ => []) Try.func28 rfl (by kernel_rfl) rfl rfl (by decide +kernel) ?_
 rintro ⟨c, s, ⟨⟩⟩ hpre
 obtain ⟨c, rfl⟩ := cel_ex c
 obtain ⟨s, rfl⟩ := sta_ex s
 have hpre : CelMax c := by have : CelMax (celOf (celD c)) := hpre; rwa [celOf_D] at this
 unfold FnSat
 conv => arg 2; reduce
 simp [cstS, betS, ccheckS, rcapS, and_assoc]
 refine ⟨hpre, fun h => (csE_2 h).symm, fun h => ⟨fun t0 t1 h0 h1 a0 a1 r0 r1 => ?_, fun h' => (csE_3 h fun k => ?_).symm, fun t0 t1 h0 h1 a0 a1 r0 r1 q0 q1 => (csE_0 h ⟨t0, t1, h0, h1, a0, a1, r0, r1, q0, q1⟩).symm⟩⟩
 ·have hc := celB_iff.1 h
  exact ⟨⟨hc.cy0, hc.cy1, hc.al0, hc.al1, h0, by omega, a0, by omega⟩, by have := hc.cap0; omega, hc.cap1⟩
 ·have := k.t0
  have := k.t1
  have := k.h0
  have := k.h1
  have := k.a0
  have := k.a1
  have := k.r0
  have := k.r1
  have := k.q0
  have := k.q1
  omega
end
end Abs
end Go.Proofs.Ytlacopdaibhkkaa

namespace Go.Proofs.Ytlacopdaibhkkaa
namespace Abs
open Go Go.RowKit
noncomputable section
structure Pk where
 n : Nat
 m : Nat -> Nat
 c : Nat -> Nat -> Cel
@[irreducible] def Pk.len (p : Pk) : Nat := p.n
@[irreducible] def Pk.sz (p : Pk) : Nat -> Nat := p.m
@[irreducible] def Pk.at (p : Pk) : Nat -> Nat -> Cel := p.c
@[reducible] def grpSh : Sh := .slice 17 celCells
@[reducible] def pkSh : Sh := .agg [.slice 1 [grpSh]]
abbrev PkD := (Nat × (Nat -> (Nat × (Nat -> CelD)) × Unit)) × Unit
@[irreducible] def pkOf (x : PkD) : Pk := ⟨x.1.1, fun i => (x.1.2 i).1.1, fun i k => celOf ((x.1.2 i).1.2 k)⟩
@[reducible] def pkD (p : Pk) : PkD := ((p.len, fun i => ((p.sz i, fun k => celD (p.at i k)), ())), ())
@[simp] theorem pkOf_D (p : Pk) : pkOf (pkD p) = p := by
 unfold pkOf pkD Pk.len Pk.sz Pk.at
 simp only [celOf_D]
theorem cel_D (x : CelD) : celD (celOf x) = x := by
 obtain ⟨c, rfl⟩ := cel_ex x
 rw [celOf_D]
theorem pk_ex (x : Dat pkSh) : ∃ p : Pk, x = pkD p := ⟨pkOf x, by
 unfold pkD pkOf Pk.len Pk.sz Pk.at
 obtain ⟨⟨n, f⟩, ⟨⟩⟩ := x
 simp only [cel_D]⟩
structure Sx where
 n : Nat
 m : Nat -> Nat
 s : Nat -> Nat -> Sta
@[irreducible] def Sx.len (p : Sx) : Nat := p.n
@[irreducible] def Sx.sz (p : Sx) : Nat -> Nat := p.m
@[irreducible] def Sx.at (p : Sx) : Nat -> Nat -> Sta := p.s
@[reducible] def stgSh : Sh := .slice 5 staCells
@[reducible] def sxSh : Sh := .slice 1 [stgSh]
abbrev SxD := Nat × (Nat -> (Nat × (Nat -> StaD)) × Unit)
@[irreducible] def sxOf (x : SxD) : Sx := ⟨x.1, fun i => (x.2 i).1.1, fun i k => staOf ((x.2 i).1.2 k)⟩
@[reducible] def sxD (p : Sx) : SxD := (p.len, fun i => ((p.sz i, fun k => staD (p.at i k)), ()))
@[simp] theorem sxOf_D (p : Sx) : sxOf (sxD p) = p := by
 unfold sxOf sxD Sx.len Sx.sz Sx.at
 simp only [staOf_D]
theorem sta_D (x : StaD) : staD (staOf x) = x := by
 obtain ⟨c, rfl⟩ := sta_ex x
 rw [staOf_D]
theorem sx_ex (x : Dat sxSh) : ∃ p : Sx, x = sxD p := ⟨sxOf x, by
 unfold sxD sxOf Sx.len Sx.sz Sx.at
 obtain ⟨n, f⟩ := x
 simp only [sta_D]⟩
@[irreducible] def ferB (e : Nat -> Int) (k : Nat) : Bool := !(decide (e k = 0))
theorem ferB_f {e : Nat -> Int} {k : Nat} : ferB e k = false ↔ e k = 0 := by unfold ferB; simp
theorem ferB_t {e : Nat -> Int} {k : Nat} : ferB e k = true ↔ e k ≠ 0 := by unfold ferB; simp
@[irreducible] def ferE (e : Nat -> Int) (n : Nat) : Int := if firstN (ferB e) n < n then e (firstN (ferB e) n) else 0
theorem ferE_at {e : Nat -> Int} {n k : Nat} (hk : k < n) (h : ∀ j, j < k -> ferB e j = false) (h2 : e k ≠ 0) : ferE e n = e k := by
 have hf : firstN (ferB e) n = k := firstN_uniq (by omega) h fun _ => ferB_t.2 h2
 unfold ferE; rw [hf, if_pos hk]
theorem ferE_no {e : Nat -> Int} {n : Nat} (h : ∀ j, j < n -> ferB e j = false) : ferE e n = 0 := by
 have hf : firstN (ferB e) n = n := firstN_uniq (Nat.le_refl _) h fun hh => absurd hh (by omega)
 unfold ferE; rw [hf, if_neg (by omega)]
theorem ferE_0 {e : Nat -> Int} {n : Nat} : ferE e n = 0 ↔ ∀ j, j < n -> e j = 0 := by
 constructor
 ·intro h j hj
  have hle := firstN_le (ferB e) n
  by_cases hf : firstN (ferB e) n < n
  ·have h1 := ferB_t.1 (firstN_is _ n hf)
   unfold ferE at h
   rw [if_pos hf] at h
   exact absurd h h1
  ·exact ferB_f.1 (firstN_not (ferB e) n j (by omega))
 ·intro h
  exact ferE_no fun j hj => ferB_f.2 (h j hj)
@[irreducible] def cebB (c : Nat -> Cel) (k : Nat) : Bool := !(celB (c k))
theorem cebB_f {c : Nat -> Cel} {k : Nat} : cebB c k = false ↔ celB (c k) = true := by unfold cebB; simp
theorem cebB_t {c : Nat -> Cel} {k : Nat} : cebB c k = true ↔ celB (c k) = false := by unfold cebB; simp
@[irreducible] def gcE (m : Nat) (c : Nat -> Cel) : Int := if m < 1 \/ 4 < m then 6 else if anyN (cebB c) m = true then 2 else 0
theorem gcE_6 {m : Nat} {c : Nat -> Cel} (h : m < 1 \/ 4 < m) : gcE m c = 6 := by unfold gcE; rw [if_pos h]
theorem gcE_2 {m k : Nat} {c : Nat -> Cel} (h1 : 1 <= m) (h4 : m <= 4) (hk : k < m) (h : celB (c k) = false) : gcE m c = 2 := by
 unfold gcE; rw [if_neg (by omega), if_pos (anyN_iff.2 ⟨k, hk, cebB_t.2 h⟩)]
theorem gcE_0 {m : Nat} {c : Nat -> Cel} : gcE m c = 0 ↔ (1 <= m /\ m <= 4) /\ ∀ k, k < m -> celB (c k) = true := by
 unfold gcE
 split
 ·constructor
  ·intro h; omega
  ·rintro ⟨h1, _⟩; omega
 ·rename_i h
  cases ha : anyN (cebB c) m with
  | true =>
    obtain ⟨k, hk, hp⟩ := anyN_iff.1 ha
    simp only [if_true]
    constructor
    ·intro h; omega
    ·rintro ⟨_, h3⟩
     have := cebB_t.1 hp
     rw [h3 k hk] at this; cases this
  | false =>
    simp only [Bool.false_eq_true, if_false, true_iff]
    exact ⟨by omega, fun k hk => cebB_f.1 (anyN_false.1 ha k hk)⟩
@[irreducible] def pgE (p : Pk) (i : Nat) : Int := gcE (p.sz i) (p.at i)
theorem pgE_eq (p : Pk) (i : Nat) : pgE p i = gcE (p.sz i) (p.at i) := by unfold pgE; rfl
@[irreducible] def pkE (p : Pk) : Int := if p.len < 1 \/ 16 < p.len then 6 else ferE (pgE p) p.len
theorem pkE_6 {p : Pk} (h : p.len < 1 \/ 16 < p.len) : pkE p = 6 := by unfold pkE; rw [if_pos h]
theorem pkE_n {p : Pk} (h : 1 <= p.len) (h' : p.len <= 16) : pkE p = ferE (pgE p) p.len := by unfold pkE; rw [if_neg (by omega)]
theorem pkE_0 {p : Pk} : pkE p = 0 ↔ (1 <= p.len /\ p.len <= 16) /\ ∀ i, i < p.len -> (1 <= p.sz i /\ p.sz i <= 4) /\ ∀ k, k < p.sz i -> celB (p.at i k) = true := by
 by_cases h : p.len < 1 \/ 16 < p.len
 ·rw [pkE_6 h]
  constructor
  ·intro h; omega
  ·rintro ⟨h1, _⟩; omega
 ·rw [pkE_n (by omega) (by omega), ferE_0]
  constructor
  ·intro h1; exact ⟨by omega, fun i hi => gcE_0.1 (by rw [<- pgE_eq]; exact h1 i hi)⟩
  ·rintro ⟨_, h2⟩ i hi; rw [pgE_eq]; exact gcE_0.2 (h2 i hi)
def PkMax (p : Pk) : Prop := ∀ i, i < p.len -> ∀ k, k < p.sz i -> CelMax (p.at i k)
def pckS : Spec [pkSh] := ⟨fun (p, _) => PkMax (pkOf p), fun (p, _) => .si .i64 (pkE (pkOf p))⟩
def pckI : DatL [pkSh] -> Anns := fun (p, _) => [
 (4, [], fun fr hp => ⟨Nat, fun g => ⟨frI [.k 4, .t 4, .k 13, .s (.si .i64 (icast g)), .t 24] fr, hp⟩, Nat × Pk, fun g => (g, pkOf p), fun (g, p) => g <= p.len /\ ∀ j, j < g -> ferB (pgE p) j = false, fun g => nsub 17 g⟩),
 (9, [], fun fr hp => ⟨Nat, fun k => ⟨frI [.k 5, .t 3, .k 27, .s (.si .i64 (icast k)), .t 10] fr, hp⟩, Nat × Nat × Pk, fun k => (k, nat (intOf (getL fr 21)), pkOf p), fun (k, i, p) => k <= p.sz i /\ ∀ j, j < k -> cebB (p.at i) j = false, fun k => nsub 5 k⟩)]
attribute [local irreducible] FnSat
noncomputable def SL0 : Sums := ⟨S17.one, S17.two, S17.lo, S17.eqs, S17.its, [24, 44, 48]⟩
theorem SL0_ok : SumsOK Try.prog SL0 := S17_ok.setImm _
noncomputable def SL1 : Sums := ⟨(45, mkSum _ cstS) :: (65, mkSum _ ccheckS) :: SL0.one, SL0.two, SL0.lo, SL0.eqs, SL0.its, SL0.imm⟩
theorem SL1_ok : SumsOK Try.prog SL1 := ((SL0_ok.cons Try.func65 (by kernel_rfl) (by kernel_rfl) ccheck_ok).cons Try.func45 (by kernel_rfl) (by kernel_rfl) cst_ok)
set_option maxRecDepth 100000 in
set_option maxHeartbeats 2000000 in
theorem pck_ok : FnSpec Try.prog 44 _ pckS := by
 refine FnSpec.of SL1_ok mixed (U := 0) (I := pckI) Try.func44 rfl (by kernel_rfl) rfl rfl (by decide +kernel) ?_
 rintro ⟨p, ⟨⟩⟩ hpre
 obtain ⟨p, rfl⟩ := pk_ex p
 have hpre : PkMax p := by have : PkMax (pkOf (pkD p)) := hpre; rwa [pkOf_D] at this
 unfold FnSat
 conv => arg 2; reduce
 simp [pckS, ccheckS, ElEq, getB, goneB, aliveB, and_assoc]
 have h6 : p.len < 1 \/ 16 < p.len -> 6 = pkE p := fun h => (pkE_6 h).symm
 refine ⟨fun h => h6 (by omega), fun a1 a2 => ⟨⟨0, rfl, by omega, fun j hj => by omega⟩, fun g hg hall => ⟨fun hlt => ?_, fun hge => ?_⟩⟩⟩
 ·have hE : pgE p g ≠ 0 -> pgE p g = pkE p := fun h => by rw [pkE_n (by omega) (by omega), ferE_at hlt hall h]
  have hG := pgE_eq p g
  refine ⟨hlt, fun h => ?_, fun b1 b2 => ⟨⟨0, rfl, by omega, fun j hj => by omega⟩, fun k hk hal2 => ⟨fun hkl => ⟨hkl, hpre g hlt k hkl, fun hf => ?_, fun ht => ⟨by omega, by omega, k + 1, by omega, by omega, fun j hj => ?_, by omega⟩⟩, fun hkg => ⟨by omega, by omega, g + 1, by omega, by omega, fun j hj => ?_, by omega⟩⟩⟩⟩
  ·rw [gcE_6 (by omega)] at hG
   rw [<- hE (by omega), hG]
  ·rw [gcE_2 (by omega) (by omega) hkl hf] at hG
   rw [<- hE (by omega), hG, hf]; simp [errA]
  ·by_cases e : j = k
   ·subst e; exact cebB_f.2 ht
   ·exact hal2 j (by omega)
  ·by_cases e : j = g
   ·subst e
    rw [gcE_0.2 ⟨by omega, fun i hi => cebB_f.1 (hal2 i (by omega))⟩] at hG
    exact ferB_f.2 hG
   ·exact hall j (by omega)
 ·rw [pkE_n (by omega) (by omega), ferE_no fun j hj => hall j (by omega)]
noncomputable def SL2 : Sums := ⟨(28, mkSum _ cstS) :: (54, mkSum _ ccheckS) :: (44, mkSum _ pckS) :: SL1.one, SL1.two, SL1.lo, SL1.eqs, SL1.its, SL1.imm⟩
theorem SL2_ok : SumsOK Try.prog SL2 := (((SL1_ok.cons Try.func44 (by kernel_rfl) (by kernel_rfl) pck_ok).cons Try.func54 (by kernel_rfl) (by kernel_rfl) rcheck_ok).cons Try.func28 (by kernel_rfl) (by kernel_rfl) rcst_ok)
def rpckI : DatL [pkSh] -> Anns := fun (p, _) => [
 (4, [], fun fr hp => ⟨Nat, fun g => ⟨frI [.k 3, .s (.si .i64 (icast g)), .t 2, .k 10, .t 32] fr, hp⟩, Nat × Pk, fun g => (g, pkOf p), fun (g, p) => g <= p.len /\ ∀ j, j < g -> ferB (pgE p) j = false, fun g => nsub 17 g⟩),
 (10, [], fun fr hp => ⟨Nat, fun k => ⟨frI [.k 5, .s (.si .i64 (icast k)), .k 30, .t 12] fr, hp⟩, Nat × Nat × Pk, fun k => (k, nat (intOf (getL fr 3)), pkOf p), fun (k, i, p) => k <= p.sz i /\ ∀ j, j < k -> cebB (p.at i) j = false, fun k => nsub 5 k⟩)]
set_option maxRecDepth 100000 in
set_option maxHeartbeats 2000000 in
theorem rpck_ok : FnSpec Try.prog 46 _ pckS := by
 refine FnSpec.of SL2_ok mixed (U := 0) (I := rpckI) Try.func46 rfl (by kernel_rfl) rfl rfl (by decide +kernel) ?_
 rintro ⟨p, ⟨⟩⟩ hpre
 obtain ⟨p, rfl⟩ := pk_ex p
 have hpre : PkMax p := by have : PkMax (pkOf (pkD p)) := hpre; rwa [pkOf_D] at this
 unfold FnSat
 conv => arg 2; reduce
 simp [pckS, ccheckS, ElEq, getB, goneB, aliveB, and_assoc]
 have h6 : p.len < 1 \/ 16 < p.len -> 6 = pkE p := fun h => (pkE_6 h).symm
 refine ⟨fun h => h6 (by omega), fun a1 a2 => ⟨⟨0, rfl, by omega, fun j hj => by omega⟩, fun g hg hall => ⟨fun hlt => ?_, fun hge => ?_⟩⟩⟩
 ·have hE : pgE p g ≠ 0 -> pgE p g = pkE p := fun h => by rw [pkE_n (by omega) (by omega), ferE_at hlt hall h]
  have hG := pgE_eq p g
  refine ⟨hlt, fun h => ?_, fun b1 b2 => ⟨⟨0, rfl, by omega, fun j hj => by omega⟩, fun k hk hal2 => ⟨fun hkl => ⟨hkl, hpre g hlt k hkl, fun hf => ?_, fun ht => ⟨by omega, by omega, k + 1, by omega, by omega, fun j hj => ?_, by omega⟩⟩, fun hkg => ⟨by omega, by omega, g + 1, by omega, by omega, fun j hj => ?_, by omega⟩⟩⟩⟩
  ·rw [gcE_6 (by omega)] at hG
   rw [<- hE (by omega), hG]
  ·rw [gcE_2 (by omega) (by omega) hkl hf] at hG
   rw [<- hE (by omega), hG]
  ·by_cases e : j = k
   ·subst e; exact cebB_f.2 ht
   ·exact hal2 j (by omega)
  ·by_cases e : j = g
   ·subst e
    rw [gcE_0.2 ⟨by omega, fun i hi => cebB_f.1 (hal2 i (by omega))⟩] at hG
    exact ferB_f.2 hG
   ·exact hall j (by omega)
 ·rw [pkE_n (by omega) (by omega), ferE_no fun j hj => hall j (by omega)]
noncomputable def SL3 : Sums := ⟨(46, mkSum _ pckS) :: SL2.one, SL2.two, SL2.lo, SL2.eqs, SL2.its, SL2.imm⟩
theorem SL3_ok : SumsOK Try.prog SL3 := (SL2_ok.cons Try.func46 (by kernel_rfl) (by kernel_rfl) rpck_ok)
@[irreducible] def sebB (c : Nat -> Cel) (s : Nat -> Sta) (k : Nat) : Bool := !(stB (c k) (s k))
theorem sebB_f {c : Nat -> Cel} {s : Nat -> Sta} {k : Nat} : sebB c s k = false ↔ StOK (c k) (s k) := by unfold sebB; rw [<- stB_iff]; simp
theorem sebB_t {c : Nat -> Cel} {s : Nat -> Sta} {k : Nat} : sebB c s k = true ↔ ¬ StOK (c k) (s k) := by unfold sebB; rw [<- stB_iff]; simp
@[irreducible] def gsE (m : Nat) (c : Nat -> Cel) (n : Nat) (s : Nat -> Sta) : Int := if n ≠ m then 20 else if anyN (sebB c s) m = true then 3 else 0
theorem gsE_20 {m n : Nat} {c : Nat -> Cel} {s : Nat -> Sta} (h : n ≠ m) : gsE m c n s = 20 := by unfold gsE; rw [if_pos h]
theorem gsE_3 {m n k : Nat} {c : Nat -> Cel} {s : Nat -> Sta} (h : n = m) (hk : k < m) (hs : ¬ StOK (c k) (s k)) : gsE m c n s = 3 := by
 unfold gsE; rw [if_neg (by omega), if_pos (anyN_iff.2 ⟨k, hk, sebB_t.2 hs⟩)]
theorem gsE_0 {m n : Nat} {c : Nat -> Cel} {s : Nat -> Sta} : gsE m c n s = 0 ↔ n = m /\ ∀ k, k < m -> StOK (c k) (s k) := by
 unfold gsE
 split
 ·constructor
  ·intro h; omega
  ·rintro ⟨h1, _⟩; omega
 ·rename_i h
  cases ha : anyN (sebB c s) m with
  | true =>
    obtain ⟨k, hk, hp⟩ := anyN_iff.1 ha
    simp only [if_true]
    constructor
    ·intro h; omega
    ·rintro ⟨_, h3⟩
     exact absurd (h3 k hk) (sebB_t.1 hp)
  | false =>
    simp only [Bool.false_eq_true, if_false, true_iff]
    exact ⟨by omega, fun k hk => sebB_f.1 (anyN_false.1 ha k hk)⟩
@[irreducible] def sgE (p : Pk) (s : Sx) (i : Nat) : Int := gsE (p.sz i) (p.at i) (s.sz i) (s.at i)
theorem sgE_eq (p : Pk) (s : Sx) (i : Nat) : sgE p s i = gsE (p.sz i) (p.at i) (s.sz i) (s.at i) := by unfold sgE; rfl
@[irreducible] def ssE (p : Pk) (s : Sx) : Int := if pkE p = 0 then (if s.len = p.len then ferE (sgE p s) p.len else 20) else pkE p
theorem ssE_p {p : Pk} {s : Sx} (h : pkE p ≠ 0) : ssE p s = pkE p := by unfold ssE; rw [if_neg h]
theorem ssE_20 {p : Pk} {s : Sx} (h : pkE p = 0) (h' : s.len ≠ p.len) : ssE p s = 20 := by unfold ssE; rw [if_pos h, if_neg h']
theorem ssE_n {p : Pk} {s : Sx} (h : pkE p = 0) (h' : s.len = p.len) : ssE p s = ferE (sgE p s) p.len := by unfold ssE; rw [if_pos h, if_pos h']
theorem ssE_0 {p : Pk} {s : Sx} : ssE p s = 0 ↔ pkE p = 0 /\ s.len = p.len /\ ∀ i, i < p.len -> s.sz i = p.sz i /\ ∀ k, k < p.sz i -> StOK (p.at i k) (s.at i k) := by
 by_cases h : pkE p = 0
 ·by_cases h' : s.len = p.len
  ·rw [ssE_n h h', ferE_0]
   constructor
   ·intro h1; exact ⟨h, h', fun i hi => gsE_0.1 (by rw [<- sgE_eq]; exact h1 i hi)⟩
   ·rintro ⟨_, _, h2⟩ i hi; rw [sgE_eq]; exact gsE_0.2 (h2 i hi)
  ·rw [ssE_20 h h']
   constructor
   ·intro h; omega
   ·rintro ⟨_, h1, _⟩; exact absurd h1 h'
 ·rw [ssE_p h]
  exact ⟨fun h' => absurd h' h, fun h' => absurd h'.1 h⟩
def scsS : Spec [pkSh, sxSh] := ⟨fun (p, _) => PkMax (pkOf p), fun (p, s, _) => .si .i64 (ssE (pkOf p) (sxOf s))⟩
def scsI : DatL [pkSh, sxSh] -> Anns := fun (p, s, _) => [
 (7, [], fun fr hp => ⟨Nat, fun g => ⟨frI [.k 6, .t 5, .k 14, .s (.si .i64 (icast g)), .t 33] fr, hp⟩, Nat × Pk × Sx, fun g => (g, pkOf p, sxOf s), fun (g, p, s) => g <= p.len /\ ∀ j, j < g -> ferB (sgE p s) j = false, fun g => nsub 17 g⟩),
 (12, [], fun fr hp => ⟨Nat, fun k => ⟨frI [.k 8, .t 3, .k 29, .s (.si .i64 (icast k)), .t 18] fr, hp⟩, Nat × Nat × Pk × Sx, fun k => (k, nat (intOf (getL fr 6)), pkOf p, sxOf s), fun (k, i, p, s) => k <= p.sz i /\ ∀ j, j < k -> sebB (p.at i) (s.at i) j = false, fun k => nsub 5 k⟩)]
set_option maxRecDepth 100000 in
set_option maxHeartbeats 2000000 in
theorem scs_ok : FnSpec Try.prog 19 _ scsS := by
 refine FnSpec.of SL3_ok mixed (U := 0) (I := scsI) Try.func19 rfl (by kernel_rfl) rfl rfl (by decide +kernel) ?_
 rintro ⟨p, s, ⟨⟩⟩ hpre
 obtain ⟨p, rfl⟩ := pk_ex p
 obtain ⟨s, rfl⟩ := sx_ex s
 have hpre : PkMax p := by have : PkMax (pkOf (pkD p)) := hpre; rwa [pkOf_D] at this
 unfold FnSat
 conv => arg 2; reduce
 simp [scsS, pckS, cstS, ElEq, getB, goneB, aliveB, and_assoc]
 refine ⟨hpre, fun h => (ssE_p h).symm, fun hp => ⟨fun h => (ssE_20 hp (by omega)).symm, fun hl => ⟨⟨0, rfl, by omega, fun j hj => by omega⟩, fun g hg hall => ⟨fun hlt => ?_, fun hge => ?_⟩⟩⟩⟩
 ·obtain ⟨⟨n1, n2⟩, hcl⟩ := pkE_0.1 hp
  have hE : sgE p s g ≠ 0 -> sgE p s g = ssE p s := fun h => by rw [ssE_n hp (by omega), ferE_at (by omega) hall h]
  have hG := sgE_eq p s g
  have hgc := hcl g (by omega)
  refine ⟨by omega, by omega, fun h => ?_, fun hs => ⟨⟨0, rfl, by omega, fun j hj => by omega⟩, fun k hk hal2 => ⟨fun hkl => ⟨by omega, by omega, by omega, hpre g (by omega) k (by omega), fun hne => ?_, fun he => ⟨by omega, by omega, k + 1, by omega, by omega, fun j hj => ?_, by omega⟩⟩, fun hkg => ⟨by omega, by omega, g + 1, by omega, by omega, fun j hj => ?_, by omega⟩⟩⟩⟩
  ·rw [gsE_20 (by omega)] at hG
   rw [<- hE (by omega), hG]
  ·have hb : ¬ StOK (p.at g k) (s.at g k) := fun hh => hne (csE_0 (hgc.2 k (by omega)) hh)
   rw [gsE_3 (by omega) (by omega) hb] at hG
   rw [<- hE (by omega), hG, csE_3 (hgc.2 k (by omega)) hb]
  ·by_cases e : j = k
   ·subst e; exact sebB_f.2 (csE_iff.1 he).2
   ·exact hal2 j (by omega)
  ·by_cases e : j = g
   ·subst e
    rw [gsE_0.2 ⟨by omega, fun i hi => sebB_f.1 (hal2 i (by omega))⟩] at hG
    exact ferB_f.2 hG
   ·exact hall j (by omega)
 ·rw [ssE_n hp (by omega), ferE_no fun j hj => hall j (by omega)]
noncomputable def SL4 : Sums := ⟨(19, mkSum _ scsS) :: SL3.one, SL3.two, SL3.lo, SL3.eqs, SL3.its, SL3.imm⟩
theorem SL4_ok : SumsOK Try.prog SL4 := (SL3_ok.cons Try.func19 (by kernel_rfl) (by kernel_rfl) scs_ok)
def rscsI : DatL [pkSh, sxSh] -> Anns := fun (p, s, _) => [
 (6, [], fun fr hp => ⟨Nat, fun g => ⟨frI [.k 5, .s (.si .i64 (icast g)), .t 1, .k 11, .t 44] fr, hp⟩, Nat × Pk × Sx, fun g => (g, pkOf p, sxOf s), fun (g, p, s) => g <= p.len /\ ∀ j, j < g -> ferB (sgE p s) j = false, fun g => nsub 17 g⟩),
 (11, [], fun fr hp => ⟨Nat, fun k => ⟨frI [.k 6, .s (.si .i64 (icast k)), .k 29, .t 26] fr, hp⟩, Nat × Nat × Pk × Sx, fun k => (k, nat (intOf (getL fr 5)), pkOf p, sxOf s), fun (k, i, p, s) => k <= p.sz i /\ ∀ j, j < k -> sebB (p.at i) (s.at i) j = false, fun k => nsub 5 k⟩)]
set_option maxRecDepth 100000 in
set_option maxHeartbeats 2000000 in
theorem rscs_ok : FnSpec Try.prog 21 _ scsS := by
 refine FnSpec.of SL4_ok mixed (U := 0) (I := rscsI) Try.func21 rfl (by kernel_rfl) rfl rfl (by decide +kernel) ?_
 rintro ⟨p, s, ⟨⟩⟩ hpre
 obtain ⟨p, rfl⟩ := pk_ex p
 obtain ⟨s, rfl⟩ := sx_ex s
 have hpre : PkMax p := by have : PkMax (pkOf (pkD p)) := hpre; rwa [pkOf_D] at this
 unfold FnSat
 conv => arg 2; reduce
 simp [scsS, pckS, cstS, ElEq, getB, goneB, aliveB, and_assoc]
 refine ⟨hpre, fun h => ⟨hpre, (ssE_p h).symm⟩, fun hp => ⟨fun h => (ssE_20 hp (by omega)).symm, fun hl => ⟨⟨0, rfl, by omega, fun j hj => by omega⟩, fun g hg hall => ⟨fun hlt => ?_, fun hge => ?_⟩⟩⟩⟩
 ·obtain ⟨⟨n1, n2⟩, hcl⟩ := pkE_0.1 hp
  have hE : sgE p s g ≠ 0 -> sgE p s g = ssE p s := fun h => by rw [ssE_n hp (by omega), ferE_at (by omega) hall h]
  have hG := sgE_eq p s g
  have hgc := hcl g (by omega)
  refine ⟨by omega, by omega, fun h => ?_, fun hs => ⟨⟨0, rfl, by omega, fun j hj => by omega⟩, fun k hk hal2 => ⟨by omega, ⟨fun hkl => ⟨by omega, by omega, by omega, by omega, hpre g (by omega) k (by omega), fun hne => ?_, fun he => ⟨by omega, by omega, k + 1, by omega, by omega, fun j hj => ?_, by omega⟩⟩, fun hkg => ⟨by omega, by omega, g + 1, by omega, by omega, fun j hj => ?_, by omega⟩⟩⟩⟩⟩
  ·rw [gsE_20 (by omega)] at hG
   rw [<- hE (by omega), hG]
  ·have hb : ¬ StOK (p.at g k) (s.at g k) := fun hh => hne (csE_0 (hgc.2 k (by omega)) hh)
   rw [gsE_3 (by omega) (by omega) hb] at hG
   rw [<- hE (by omega), hG]
  ·by_cases e : j = k
   ·subst e; exact sebB_f.2 (csE_iff.1 he).2
   ·exact hal2 j (by omega)
  ·by_cases e : j = g
   ·subst e
    rw [gsE_0.2 ⟨by omega, fun i hi => sebB_f.1 (hal2 i (by omega))⟩] at hG
    exact ferB_f.2 hG
   ·exact hall j (by omega)
 ·rw [ssE_n hp (by omega), ferE_no fun j hj => hall j (by omega)]
noncomputable def SL5 : Sums := ⟨(21, mkSum _ scsS) :: SL4.one, SL4.two, SL4.lo, SL4.eqs, SL4.its, SL4.imm⟩
theorem SL5_ok : SumsOK Try.prog SL5 := (SL4_ok.cons Try.func21 (by kernel_rfl) (by kernel_rfl) rscs_ok)
end
end Abs
end Go.Proofs.Ytlacopdaibhkkaa

namespace Go.Proofs.Ytlacopdaibhkkaa
namespace Abs
open Go Go.RowKit
noncomputable section
attribute [local irreducible] FnSat
@[irreducible] def sqF (s : Nat -> Sta) (k : Nat) : Int := (s k).q
theorem sqF_eq (s : Nat -> Sta) (k : Nat) : sqF s k = (s k).q := by unfold sqF; rfl
@[irreducible] def chV (s : Sx) (i : Nat) : Int := sumN (sqF (s.at i)) (s.sz i)
theorem chV_eq (s : Sx) (i : Nat) : chV s i = sumN (sqF (s.at i)) (s.sz i) := by unfold chV; rfl
def SxIn (s : Sx) : Prop := s.len <= 16 /\ ∀ i, i < s.len -> s.sz i <= 4 /\ ∀ k, k < s.sz i -> 0 <= (s.at i k).q /\ (s.at i k).q <= 4294967296
theorem chV_in {s : Sx} {i : Nat} (h : SxIn s) (hi : i < s.len) : 0 <= chV s i /\ chV s i <= 17179869184 := by
 obtain ⟨_, h⟩ := h
 have h := h i hi
 rw [chV_eq]
 have a := sumN_in (c := sqF (s.at i)) (M := 4294967296) (n := s.sz i) fun k hk => by rw [sqF_eq]; have := h.2 k hk; omega
 have b := sumN_nn (c := sqF (s.at i)) (n := s.sz i) fun k hk => by rw [sqF_eq]; exact (h.2 k hk).1
 omega
theorem ssE_in {p : Pk} {s : Sx} (h : ssE p s = 0) : SxIn s /\ s.len = p.len /\ 1 <= p.len := by
 obtain ⟨h1, h2, h3⟩ := ssE_0.1 h
 obtain ⟨⟨n1, n2⟩, hcl⟩ := pkE_0.1 h1
 refine ⟨⟨by omega, fun i hi => ?_⟩, h2, n1⟩
 have a := h3 i (by omega)
 have b := hcl i (by omega)
 refine ⟨by omega, fun k hk => ?_⟩
 have S := a.2 k (by omega)
 have hc := celB_iff.1 (b.2 k (by omega))
 have hw : WearOK (p.at i k) (s.at i k).th (s.at i k).ag := ⟨hc.cy0, hc.cy1, hc.al0, hc.al1, S.h0, by have := S.h1; omega, S.a0, by have := S.a1; omega⟩
 have hw2 := wearV_in hw
 have hr := (roomV_in (c := p.at i k) (w := wearV (p.at i k) (s.at i k).th (s.at i k).ag)).2 hw2.1 hc.cap0
 have := S.q0
 have := S.q1
 have := hc.cap1
 omega
def chS : Spec [sxSh] := ⟨fun (s, _) => SxIn (sxOf s), fun (s, _) => .slc (.sym (sxOf s).len) 1 (fun i => [.si .i64 (chV (sxOf s) i)])⟩
@[irreducible] def chP (s : Sx) (g k i : Nat) : Int := if i < g then chV s i else if i = g then sumN (sqF (s.at i)) k else 0
theorem chP_lt {s : Sx} {g k i : Nat} (h : i < g) : chP s g k i = chV s i := by unfold chP; rw [if_pos h]
theorem chP_at {s : Sx} {g k : Nat} : chP s g k g = sumN (sqF (s.at g)) k := by unfold chP; rw [if_neg (by omega), if_pos rfl]
theorem chP_gt {s : Sx} {g k i : Nat} (h : g < i) : chP s g k i = 0 := by unfold chP; rw [if_neg (by omega), if_neg (by omega)]
def chI : DatL [sxSh] -> Anns := fun (s, _) => [
 (3, [], fun fr hp => ⟨Nat, fun g => ⟨frI [.k 4, .t 4, .k 5, .s (.si .i64 (icast g)), .t 21] fr, setB hp 0 (.row 2 1 (.sym (sxOf s).len) (fun i => [.si .i64 (chP (sxOf s) g 0 i)]))⟩, Nat × Sx, fun g => (g, sxOf s), fun (g, s) => g <= s.len, fun g => nsub 17 g⟩),
 (6, [], fun fr hp => ⟨Nat, fun k => ⟨frI [.k 6, .t 2, .k 12, .s (.si .i64 (icast k)), .t 14] fr, setB hp 0 (.row 2 1 (.sym (sxOf s).len) (fun i => [.si .i64 (chP (sxOf s) (nat (intOf (getL fr 4))) k i)]))⟩, Nat × Nat × Sx, fun k => (k, nat (intOf (getL fr 4)), sxOf s), fun (k, i, s) => k <= s.sz i, fun k => nsub 5 k⟩)]
set_option maxRecDepth 100000 in
set_option maxHeartbeats 2000000 in
theorem ch_ok : FnSpec Try.prog 20 _ chS := by
 refine FnSpec.of SL5_ok mixed (U := 0) (I := chI) Try.func20 rfl (by kernel_rfl) rfl rfl (by decide +kernel) ?_
 rintro ⟨s, ⟨⟩⟩ hpre
 obtain ⟨s, rfl⟩ := sx_ex s
 have hpre : SxIn s := by have : SxIn (sxOf (sxD s)) := hpre; rwa [sxOf_D] at this
 unfold FnSat
 conv => arg 2; reduce
 simp [chS, ElEq, getB, goneB, aliveB, maxRow, and_assoc]
 have hS := hpre
 obtain ⟨n16, hpre⟩ := hpre
 refine ⟨by omega, ⟨0, rfl, fun j hj => ?_, by omega⟩, fun g hg => ⟨fun hlt => ⟨hlt, ⟨0, rfl, fun j hj => rfl, by omega⟩, fun k hk => ⟨fun hkl => ?_, fun hkg => ⟨by omega, by omega, g + 1, by omega, fun j hj => ?_, by omega⟩⟩⟩, fun hge j hj => chP_lt (by omega)⟩⟩
 ·by_cases e : j = 0
  ·subst e; rw [chP_at, sumN_zero]
  ·rw [chP_gt (by omega)]
 ·have h := hpre g hlt
  have a := sumN_in (c := sqF (s.at g)) (M := 4294967296) (n := k) fun j hj => by rw [sqF_eq]; have := h.2 j (by omega); omega
  have b := h.2 k hkl
  have e0 := sumN_succ (sqF (s.at g)) k
  rw [sqF_eq] at e0
  rw [chP_at]
  refine ⟨hkl, hlt, by omega, by omega, hlt, by omega, by omega, k + 1, by omega, fun j hj => ?_, by omega, by omega⟩
  by_cases e : j = g
  ·subst e; rw [if_pos rfl, chP_at, e0]
  ·rw [if_neg e]
   by_cases h : j < g
   ·rw [chP_lt h, chP_lt h]
   ·rw [chP_gt (by omega), chP_gt (by omega)]
 ·obtain rfl : k = s.sz g := by have := hpre g hlt; omega
  by_cases e : j = g
  ·subst e; rw [chP_at, chP_lt (by omega), chV_eq]
  ·by_cases h : j < g
   ·rw [chP_lt h, chP_lt (by omega)]
   ·rw [chP_gt (by omega)]
    by_cases e2 : j = g + 1
    ·subst e2; rw [chP_at, sumN_zero]
    ·rw [chP_gt (by omega)]
def usS : Spec [stgSh] := ⟨fun ((n, s), _) => n <= 4 /\ ∀ k, k < n -> 0 <= (staOf (s k)).q /\ (staOf (s k)).q <= 4294967296, fun ((n, s), _) => .si .i64 (sumN (sqF (fun k => staOf (s k))) n)⟩
def usI : DatL [stgSh] -> Anns := fun ((n, s), _) => [
 (3, [], fun fr hp => ⟨Nat, fun k => ⟨frI [.k 3, .s (.si .i64 (sumN (sqF (fun k => staOf (s k))) k)), .s (.si .i64 (icast k)), .t 14] fr, hp⟩, Nat × Nat, fun k => (k, n), fun (k, n) => k <= n, fun k => nsub 5 k⟩)]
set_option maxRecDepth 100000 in
set_option maxHeartbeats 2000000 in
theorem us_ok : FnSpec Try.prog 22 _ usS := by
 refine FnSpec.of SL5_ok mixed (U := 0) (I := usI) Try.func22 rfl (by kernel_rfl) rfl rfl (by decide +kernel) ?_
 rintro ⟨⟨n, s⟩, ⟨⟩⟩ hpre
 obtain ⟨S, rfl⟩ : ∃ S : Nat -> Sta, s = fun k => staD (S k) := ⟨fun k => staOf (s k), by funext k; exact (sta_D (s k)).symm⟩
 obtain ⟨h1, h2⟩ : n <= 4 /\ ∀ k, k < n -> 0 <= (staOf (staD (S k))).q /\ (staOf (staD (S k))).q <= 4294967296 := hpre
 simp only [staOf_D] at h2
 unfold FnSat
 conv => arg 2; reduce
 simp [usS, ElEq, getB, goneB, aliveB, and_assoc]
 have eS : (fun k => S k) = S := rfl
 simp only [eS]
 refine ⟨⟨0, by simp, rfl, by omega⟩, fun g hg => ⟨fun hlt => ?_, fun hge => by rw [show g = n by omega]⟩⟩
 have a := sumN_in (c := sqF S) (M := 4294967296) (n := g) fun j hj => by rw [sqF_eq]; have := h2 j (by omega); omega
 have b := h2 g hlt
 have e0 := sumN_succ (sqF S) g
 rw [sqF_eq] at e0
 exact ⟨hlt, by omega, by omega, by omega, by omega, g + 1, e0.symm, by omega, by omega, by omega⟩
noncomputable def SL6 : Sums := ⟨(22, mkSum _ usS) :: (20, mkSum _ chS) :: SL5.one, SL5.two, SL5.lo, SL5.eqs, SL5.its, SL5.imm⟩
theorem SL6_ok : SumsOK Try.prog SL6 := ((SL5_ok.cons Try.func20 (by kernel_rfl) (by kernel_rfl) ch_ok).cons Try.func22 (by kernel_rfl) (by kernel_rfl) us_ok)
def amN0 (v : Nat -> Int) : Nat -> Nat
 | 0 => 0
 | g + 1 => if v g < v (amN0 v g) then g else amN0 v g
@[irreducible] def amN (v : Nat -> Int) (g : Nat) : Nat := amN0 v g
theorem amN_0 (v : Nat -> Int) : amN v 0 = 0 := by unfold amN; rfl
theorem amN_y {v : Nat -> Int} {g : Nat} (h : v g < v (amN v g)) : amN v (g + 1) = g := by unfold amN at *; rw [amN0, if_pos h]
theorem amN_n {v : Nat -> Int} {g : Nat} (h : ¬ v g < v (amN v g)) : amN v (g + 1) = amN v g := by unfold amN at *; rw [amN0, if_neg h]
theorem amN_lt {v : Nat -> Int} : ∀ {g n : Nat}, g <= n -> 0 < n -> amN v g < n
 | 0, n, _, h => by rw [amN_0]; omega
 | g + 1, n, h, h0 => by
   by_cases hh : v g < v (amN v g)
   ·rw [amN_y hh]; omega
   ·rw [amN_n hh]; exact amN_lt (by omega) h0
def uaS : Spec [pkSh, sxSh] := ⟨fun (p, _) => PkMax (pkOf p), fun (p, s, _) => .tup [.si .i64 (okI (ssE (pkOf p) (sxOf s)) (chV (sxOf s) (amN (chV (sxOf s)) (sxOf s).len))), .si .i64 (okI (ssE (pkOf p) (sxOf s)) (icast (amN (chV (sxOf s)) (sxOf s).len))), .si .i64 (ssE (pkOf p) (sxOf s))]⟩
def uaI : DatL [pkSh, sxSh] -> Anns := fun (p, s, _) => [
 (7, [], fun fr hp => ⟨Nat, fun g => ⟨frI [.k 8, .s (.si .i64 (icast (amN (chV (sxOf s)) g))), .k 1, .t 2, .k 10, .s (.si .i64 (icast g)), .t 17] fr, hp⟩, Nat × Sx, fun g => (g, sxOf s), fun (g, s) => g <= s.len, fun g => nsub 17 g⟩)]
set_option maxRecDepth 100000 in
set_option maxHeartbeats 2000000 in
theorem ua_ok : FnSpec Try.prog 7 _ uaS := by
 refine FnSpec.of SL6_ok mixed (U := 0) (I := uaI) Try.func7 rfl (by kernel_rfl) rfl rfl (by decide +kernel) ?_
 rintro ⟨p, s, ⟨⟩⟩ hpre
 obtain ⟨p, rfl⟩ := pk_ex p
 obtain ⟨s, rfl⟩ := sx_ex s
 have hpre : PkMax p := by have : PkMax (pkOf (pkD p)) := hpre; rwa [pkOf_D] at this
 unfold FnSat
 conv => arg 2; reduce
 simp [uaS, scsS, chS, ElEq, getB, goneB, aliveB, and_assoc]
 refine ⟨hpre, fun h => ⟨(okI_e h).symm, (okI_e h).symm⟩, fun h => ?_⟩
 obtain ⟨hS, hl, h1⟩ := ssE_in h
 have n16 := hS.1
 refine ⟨hS, ⟨0, by rw [amN_0]; rfl, rfl, by omega⟩, fun g hg => ⟨fun hlt => ⟨hlt, amN_lt hg (by omega), fun hy => ⟨by omega, by omega, g + 1, by rw [amN_y hy], by omega, by omega, by omega⟩, fun hn => ⟨by omega, by omega, g + 1, by rw [amN_n (by omega)], by omega, by omega, by omega⟩⟩, fun hge => ?_⟩⟩
 obtain rfl : g = s.len := by omega
 exact ⟨amN_lt hg (by omega), (okI_0 h).symm, (okI_0 h).symm, h.symm⟩
def ruaI : DatL [pkSh, sxSh] -> Anns := fun (p, s, _) => [
 (5, [], fun fr hp => ⟨Nat, fun g => ⟨frI [.k 7, .s (.si .i64 (icast (amN (chV (sxOf s)) (nadd g 1)))), .s (.si .i64 (icast (nadd g 1))), .k 7, .t 24] fr, hp⟩, Nat × Sx, fun g => (g, sxOf s), fun (g, s) => g + 1 <= s.len, fun g => nsub 17 g⟩)]
set_option maxRecDepth 100000 in
set_option maxHeartbeats 2000000 in
theorem rua_ok : FnSpec Try.prog 8 _ uaS := by
 refine FnSpec.of SL6_ok mixed (U := 0) (I := ruaI) Try.func8 rfl (by kernel_rfl) rfl rfl (by decide +kernel) ?_
 rintro ⟨p, s, ⟨⟩⟩ hpre
 obtain ⟨p, rfl⟩ := pk_ex p
 obtain ⟨s, rfl⟩ := sx_ex s
 have hpre : PkMax p := by have : PkMax (pkOf (pkD p)) := hpre; rwa [pkOf_D] at this
 unfold FnSat
 conv => arg 2; reduce
 simp [uaS, scsS, usS, ElEq, getB, goneB, aliveB, and_assoc]
 refine ⟨hpre, fun h => ⟨hpre, (okI_e h).symm, (okI_e h).symm⟩, fun h => ?_⟩
 obtain ⟨hS, hl, h1⟩ := ssE_in h
 have n16 := hS.1
 have hus := hS.2
 have hV : ∀ i, sumN (sqF (fun k => s.at i k)) (s.sz i) = chV s i := fun i => (chV_eq s i).symm
 simp only [hV]
 have h10 : amN (chV s) 1 = 0 := by rw [amN_n (by rw [amN_0]; omega), amN_0]
 refine ⟨⟨0, by rw [h10]; rfl, by omega, by omega⟩, fun g hg => ⟨fun hlt => ?_, fun hge => ?_⟩⟩
 ·have hm := amN_lt (v := chV s) hg (by omega)
  refine ⟨by omega, by omega, (hus _ (by omega)).1, (hus _ (by omega)).2, hm, (hus _ hm).1, (hus _ hm).2, fun hy => ⟨by omega, by omega, g + 1, by rw [amN_y hy]; omega, by omega, by omega, by omega⟩, fun hn => ⟨by omega, by omega, g + 1, by rw [amN_n (g := g + 1) (by omega)], by omega, by omega, by omega⟩⟩
 ·obtain e : g + 1 = s.len := by omega
  have hm := amN_lt (v := chV s) hg (by omega)
  refine ⟨hm, (hus _ hm).1, (hus _ hm).2, ?_, ?_, h.symm⟩
  ·rw [okI_0 h, e]
  ·rw [okI_0 h, e]
@[irreducible] def lvlE (e u : Int) : Int := if e = 0 then (if u < 1 \/ 1099511627776 < u then 2 else 0) else e
theorem lvlE_e {e u : Int} (h : e ≠ 0) : lvlE e u = e := by unfold lvlE; rw [if_neg h]
theorem lvlE_2 {e u : Int} (h : e = 0) (h' : u < 1 \/ 1099511627776 < u) : lvlE e u = 2 := by unfold lvlE; rw [if_pos h, if_pos h']
theorem lvlE_0 {e u : Int} (h : e = 0) (h' : 1 <= u) (h'' : u <= 1099511627776) : lvlE e u = 0 := by unfold lvlE; rw [if_pos h, if_neg (by omega)]
@[irreducible] def lvlV (s : Sx) (u : Int) (i : Nat) : Int := min 100 ((chV s i).tdiv u)
theorem lvlV_eq (s : Sx) (u : Int) (i : Nat) : lvlV s u i = min 100 ((chV s i).tdiv u) := by unfold lvlV; rfl
def lvsS : Spec [pkSh, sxSh, .int .i64] := ⟨fun (p, _) => PkMax (pkOf p), fun (p, s, (u : Int), _) => .tup [.slc (.sym (okN (lvlE (ssE (pkOf p) (sxOf s)) u) (sxOf s).len)) 1 (fun i => [.si .i64 (lvlV (sxOf s) u i)]), .si .i64 (lvlE (ssE (pkOf p) (sxOf s)) u)]⟩
def lvsI : DatL [pkSh, sxSh, .int .i64] -> Anns := fun (p, s, (u : Int), _) => [
 (8, [(9, 3, 1)], fun fr hp => ⟨Nat, fun g => ⟨frI [.k 11, .t 1, .k 15, .s (.si .i64 (icast g)), .t 12] fr, setB hp 0 (.row 3 1 (.sym g) (fun i => [.si .i64 (lvlV (sxOf s) u i)]))⟩, Nat × Sx, fun g => (g, sxOf s), fun (g, s) => g <= s.len, fun g => nsub 17 g⟩)]
set_option maxRecDepth 100000 in
set_option maxHeartbeats 2000000 in
theorem lvs_ok : FnSpec Try.prog 9 _ lvsS := by
 refine FnSpec.of SL6_ok mixed (U := 0) (I := lvsI) Try.func9 rfl (by kernel_rfl) rfl rfl (by decide +kernel) ?_
 rintro ⟨p, s, (u : Int), ⟨⟩⟩ hpre
 obtain ⟨p, rfl⟩ := pk_ex p
 obtain ⟨s, rfl⟩ := sx_ex s
 have hpre : PkMax p := by have : PkMax (pkOf (pkD p)) := hpre; rwa [pkOf_D] at this
 unfold FnSat
 conv => arg 2; reduce
 simp [lvsS, scsS, chS, ElEq, getB, goneB, aliveB, maxRow, and_assoc]
 refine ⟨hpre, fun h => ⟨(okN_e (by rw [lvlE_e h]; exact h)), (lvlE_e h).symm⟩, fun h => ⟨fun hu => ⟨okN_e (by rw [lvlE_2 h (by omega)]; omega), (lvlE_2 h (by omega)).symm⟩, fun u1 u2 => ?_⟩⟩
 obtain ⟨hS, hl, h1⟩ := ssE_in h
 have n16 := hS.1
 refine ⟨hS, ⟨0, rfl, rfl, fun j => by omega, by omega⟩, fun g hg => ⟨fun hlt => ?_, fun hge => ?_⟩⟩
 ·have hc := chV_in hS hlt
  have ht := tdiv_b (a := chV s g) (m := u) (M := 17179869184) (by omega) hc.2 u1
  exact ⟨hlt, by omega, by omega, by omega, by omega, by omega, by omega, g + 1, by omega, rfl, fun j hj => app_one hj (fun _ => rfl) (fun e => by subst e; rw [lvlV_eq]; rfl), by omega, by omega⟩
 ·obtain rfl : g = s.len := by omega
  exact ⟨(okN_0 (lvlE_0 h u1 u2)).symm, (lvlE_0 h u1 u2).symm⟩
def rleI : DatL [pkSh, sxSh, .int .i64] -> Anns := fun (p, s, (u : Int), _) => [
 (7, [(8, 3, 1)], fun fr hp => ⟨Nat, fun g => ⟨frI [.k 9, .s (.si .i64 (icast g)), .k 13, .t 18] fr, setB hp 0 (.row 3 1 (.sym g) (fun i => [.si .i64 (lvlV (sxOf s) u i)]))⟩, Nat × Sx, fun g => (g, sxOf s), fun (g, s) => g <= s.len, fun g => nsub 17 g⟩)]
set_option maxRecDepth 100000 in
set_option maxHeartbeats 2000000 in
theorem rle_ok : FnSpec Try.prog 10 _ lvsS := by
 refine FnSpec.of SL6_ok mixed (U := 0) (I := rleI) Try.func10 rfl (by kernel_rfl) rfl rfl (by decide +kernel) ?_
 rintro ⟨p, s, (u : Int), ⟨⟩⟩ hpre
 obtain ⟨p, rfl⟩ := pk_ex p
 obtain ⟨s, rfl⟩ := sx_ex s
 have hpre : PkMax p := by have : PkMax (pkOf (pkD p)) := hpre; rwa [pkOf_D] at this
 unfold FnSat
 conv => arg 2; reduce
 simp [lvsS, scsS, usS, ElEq, getB, goneB, aliveB, maxRow, and_assoc]
 refine ⟨hpre, fun h => ⟨hpre, (okN_e (by rw [lvlE_e h]; exact h)), (lvlE_e h).symm⟩, fun h => ⟨fun hu => ⟨okN_e (by rw [lvlE_2 h (by omega)]; omega), (lvlE_2 h (by omega)).symm⟩, fun u1 u2 => ?_⟩⟩
 obtain ⟨hS, hl, h1⟩ := ssE_in h
 have n16 := hS.1
 have hus := hS.2
 have hV : ∀ i, sumN (sqF (fun k => s.at i k)) (s.sz i) = chV s i := fun i => (chV_eq s i).symm
 simp only [hV]
 refine ⟨⟨0, rfl, rfl, fun j => by omega, by omega⟩, fun g hg => ⟨fun hlt => ?_, fun hge => ?_⟩⟩
 ·have hc := chV_in hS hlt
  have ht := tdiv_b (a := chV s g) (m := u) (M := 17179869184) (by omega) hc.2 u1
  exact ⟨hlt, (hus g hlt).1, (hus g hlt).2, by omega, by omega, by omega, by omega, by omega, by omega, g + 1, by omega, rfl, fun j hj => app_one hj (fun _ => rfl) (fun e => by subst e; rw [lvlV_eq]; rfl), by omega, by omega⟩
 ·obtain rfl : g = s.len := by omega
  exact ⟨(okN_0 (lvlE_0 h u1 u2)).symm, (lvlE_0 h u1 u2).symm⟩
noncomputable def SL7 : Sums := ⟨(10, mkSum _ lvsS) :: (9, mkSum _ lvsS) :: (8, mkSum _ uaS) :: (7, mkSum _ uaS) :: SL6.one, SL6.two, SL6.lo, SL6.eqs, SL6.its, SL6.imm⟩
theorem SL7_ok : SumsOK Try.prog SL7 := ((((SL6_ok.cons Try.func7 (by kernel_rfl) (by kernel_rfl) ua_ok).cons Try.func8 (by kernel_rfl) (by kernel_rfl) rua_ok).cons Try.func9 (by kernel_rfl) (by kernel_rfl) lvs_ok).cons Try.func10 (by kernel_rfl) (by kernel_rfl) rle_ok)
@[irreducible] def bigC (c : Cel) : Bool := decide (70 < c.ocv.nx) || decide (70 < c.ocv.ny) || decide (70 < c.cold.nx) || decide (70 < c.cold.ny) || decide (70 < c.stress.nx) || decide (70 < c.stress.ny)
@[irreducible] def bgC (c : Nat -> Cel) (k : Nat) : Bool := bigC (c k)
@[irreducible] def bgP (p : Pk) (i : Nat) : Bool := decide (6 < p.sz i) || anyN (bgC (p.at i)) (p.sz i)
@[irreducible] def bgS (s : Sx) (i : Nat) : Bool := decide (6 < s.sz i)
@[irreducible] def grB (p : Pk) (s : Sx) : Bool := decide (20 < p.len) || decide (20 < s.len) || anyN (bgP p) p.len || anyN (bgS s) s.len
def grS : Spec [pkSh, sxSh] := ⟨fun _ => True, fun (p, s, _) => .sb (grB (pkOf p) (sxOf s))⟩
def grI : DatL [pkSh, sxSh] -> Anns := fun (p, s, _) => [
 (4, [], fun fr hp => ⟨Nat, fun g => ⟨frI [.k 5, .s (.si .i64 (icast g)), .t 2, .k 10, .t 84] fr, hp⟩, Nat × Pk, fun g => (g, pkOf p), fun (g, p) => g <= p.len /\ ∀ j, j < g -> bgP p j = false, fun g => nsub 21 g⟩),
 (9, [], fun fr hp => ⟨Nat, fun k => ⟨frI [.k 6, .s (.si .i64 (icast k)), .t 1, .k 24, .t 70] fr, hp⟩, Nat × Nat × Pk, fun k => (k, nat (intOf (getL fr 5)), pkOf p), fun (k, i, p) => k <= p.sz i /\ ∀ j, j < k -> bgC (p.at i) j = false, fun k => nsub 7 k⟩),
 (15, [], fun fr hp => ⟨Nat, fun g => ⟨frI [.k 8, .s (.si .i64 (icast g)), .k 81, .t 12] fr, hp⟩, Nat × Sx, fun g => (g, sxOf s), fun (g, s) => g <= s.len /\ ∀ j, j < g -> bgS s j = false, fun g => nsub 21 g⟩)]
set_option maxRecDepth 100000 in
set_option maxHeartbeats 2000000 in
theorem gr_ok : FnSpec Try.prog 5 _ grS := by
 refine FnSpec.of SL7_ok mixed (U := 0) (I := grI) Try.func5 rfl (by kernel_rfl) rfl rfl (by decide +kernel) ?_
 rintro ⟨p, s, ⟨⟩⟩ -
 obtain ⟨p, rfl⟩ := pk_ex p
 obtain ⟨s, rfl⟩ := sx_ex s
 unfold FnSat
 conv => arg 2; reduce
 simp [grS, ElEq, getB, goneB, aliveB, and_assoc]
 have hP : ∀ g, g < p.len -> bgP p g = true -> grB p s = true := fun g a b => by
  have : anyN (bgP p) p.len = true := anyN_iff.2 ⟨g, a, b⟩
  unfold grB; rw [this]; simp
 have hPn : ∀ g, bgP p g = false ↔ p.sz g <= 6 /\ ∀ k, k < p.sz g -> bgC (p.at g) k = false := fun g => by
  unfold bgP
  rw [Bool.or_eq_false_iff, anyN_false]
  simp
 have hPt : ∀ g, ¬ bgP p g = false -> bgP p g = true := fun g h => by simpa using h
 have hS : ∀ g, g < s.len -> 6 < s.sz g -> grB p s = true := fun g a b => by
  have : anyN (bgS s) s.len = true := anyN_iff.2 ⟨g, a, by unfold bgS; simpa using b⟩
  unfold grB; rw [this]; simp
 have hC : ∀ g k, bgC (p.at g) k = true ↔ (((((70 < (p.at g k).ocv.nx \/ 70 < (p.at g k).ocv.ny) \/ 70 < (p.at g k).cold.nx) \/ 70 < (p.at g k).cold.ny) \/ 70 < (p.at g k).stress.nx) \/ 70 < (p.at g k).stress.ny) := fun g k => by
  unfold bgC bigC
  simp only [Bool.or_eq_true, decide_eq_true_eq]
 have hCf : ∀ g k, ¬ bgC (p.at g) k = true -> bgC (p.at g) k = false := fun g k h => by simpa using h
 refine ⟨fun h => ?_, fun a1 a2 => ⟨⟨0, rfl, by omega, fun j hj => by omega⟩, fun g hg hall => ⟨fun hlt => ⟨hlt, fun h6 => hP g hlt (hPt g fun hh => by have := (hPn g).1 hh; omega), fun h6 => ⟨⟨0, rfl, by omega, fun j hj => by omega⟩, fun k hk hal2 => ⟨hlt, fun hkl => ⟨hlt, hkl, fun hb => ?_, fun c1 c2 c3 c4 c5 c6 => ⟨by omega, by omega, k + 1, by omega, by omega, fun j hj => ?_, by omega⟩⟩, fun hkg => ⟨by omega, by omega, g + 1, by omega, by omega, fun j hj => ?_, by omega⟩⟩⟩⟩, fun hge => ⟨⟨0, rfl, by omega, fun j hj => by omega⟩, fun q hq hal3 => ⟨fun hql => ⟨hql, fun h6 => hS q hql (by omega), fun h6 => ⟨by omega, by omega, q + 1, by omega, by omega, fun j hj => ?_, by omega⟩⟩, fun hqg => ?_⟩⟩⟩⟩⟩
 ·unfold grB
  rcases h with h | h
  ·have : decide (20 < p.len) = true := by simp; omega
   rw [this]; simp
  ·have : decide (20 < s.len) = true := by simp; omega
   rw [this]; simp
 ·exact hP g hlt (hPt g fun hh => by have := ((hPn g).1 hh).2 k hkl; rw [(hC g k).2 (by omega)] at this; cases this)
 ·by_cases e : j = k
  ·subst e; exact hCf g j fun hh => by have := (hC g j).1 hh; omega
  ·exact hal2 j (by omega)
 ·by_cases e : j = g
  ·subst e; exact (hPn j).2 ⟨by omega, fun i hi => hal2 i (by omega)⟩
  ·exact hall j (by omega)
 ·by_cases e : j = q
  ·subst e; unfold bgS; simp; omega
  ·exact hal3 j (by omega)
 ·have e1 : anyN (bgP p) p.len = false := anyN_false.2 fun j hj => hall j (by omega)
  have e2 : anyN (bgS s) s.len = false := anyN_false.2 fun j hj => hal3 j (by omega)
  unfold grB; rw [e1, e2]; simp; omega
noncomputable def SL8 : Sums := ⟨(5, mkSum _ grS) :: SL7.one, SL7.two, SL7.lo, SL7.eqs, SL7.its, SL7.imm⟩
theorem SL8_ok : SumsOK Try.prog SL8 := (SL7_ok.cons Try.func5 (by kernel_rfl) (by kernel_rfl) gr_ok)
theorem grB_f {p : Pk} {s : Sx} (h : grB p s = false) : p.len <= 20 /\ s.len <= 20 /\ PkMax p /\ (∀ i, i < p.len -> p.sz i <= 6) /\ ∀ i, i < s.len -> s.sz i <= 6 := by
 unfold grB at h
 simp only [Bool.or_eq_false_iff, anyN_false, decide_eq_false_iff_not] at h
 obtain ⟨⟨⟨h1, h2⟩, h3⟩, h4⟩ := h
 refine ⟨by omega, by omega, fun i hi k hk => ?_, fun i hi => ?_, fun i hi => ?_⟩
 ·have := h3 i hi
  unfold bgP at this
  rw [Bool.or_eq_false_iff, anyN_false] at this
  have := this.2 k hk
  unfold bgC bigC at this
  simp only [Bool.or_eq_false_iff, decide_eq_false_iff_not] at this
  unfold CelMax maxLen
  omega
 ·have := h3 i hi
  unfold bgP at this
  rw [Bool.or_eq_false_iff] at this
  have := this.1
  simp only [decide_eq_false_iff_not] at this
  omega
 ·have := h4 i hi
  unfold bgS at this
  simp only [decide_eq_false_iff_not] at this
  omega
end
end Abs
end Go.Proofs.Ytlacopdaibhkkaa

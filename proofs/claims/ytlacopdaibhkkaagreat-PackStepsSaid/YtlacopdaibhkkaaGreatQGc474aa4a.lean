/- A part of the proof: no statement of its own. -/
import Derived.Test.YtlacopdaibhkkaaGreatQG4e8dd893
set_option linter.unusedSimpArgs false
set_option linter.unusedVariables false
namespace Go.Proofs.YtlacopdaibhkkaaGreat
namespace Abs
open Go Go.RowKit
noncomputable section
attribute [local irreducible] FnSat
noncomputable def HG0 : Sums := ⟨(40, mkSum _ stpT) :: HZo.one, HZo.two, HZo.lo, HZo.eqs, HZo.its, HZo.imm⟩
theorem HG0_ok : SumsOK Tryz.prog HG0 := (HZo_ok.cons Tryz.func40 (by kernel_rfl) (by kernel_rfl) stpT_ok)
noncomputable def HG0e : Sums := ⟨(40, mkSum _ stpT) :: HZe.one, HZe.two, HZe.lo, HZe.eqs, HZe.its, HZe.imm⟩
theorem HG0e_ok : SumsOK Tryz.prog HG0e := (HZe_ok.cons Tryz.func40 (by kernel_rfl) (by kernel_rfl) stpT_ok)
@[irreducible] def ceE (p : Pk) (s : Sx) (i a : Int) (g k : Nat) : Int := stAE (p.at g k) (s.at g k) (swO (wOf p s) i g k) a
theorem ceE_eq (p : Pk) (s : Sx) (i a : Int) (g k : Nat) : ceE p s i a g k = stAE (p.at g k) (s.at g k) (swO (wOf p s) i g k) a := by unfold ceE; rfl
@[irreducible] def geE (p : Pk) (s : Sx) (i a : Int) (g : Nat) : Int := ferE (ceE p s i a g) (p.sz g)
theorem geE_eq (p : Pk) (s : Sx) (i a : Int) (g : Nat) : geE p s i a g = ferE (ceE p s i a g) (p.sz g) := by unfold geE; rfl
@[irreducible] def stxE (p : Pk) (s : Sx) (i a : Int) : Int := if ssE p s = 0 then (if cuE (wOf p s) i a = 0 then ferE (geE p s i a) p.len else cuE (wOf p s) i a) else ssE p s
theorem stxE_e {p : Pk} {s : Sx} {i a : Int} (h : ssE p s ≠ 0) : stxE p s i a = ssE p s := by unfold stxE; rw [if_neg h]
theorem stxE_c {p : Pk} {s : Sx} {i a : Int} (h : ssE p s = 0) (h' : cuE (wOf p s) i a ≠ 0) : stxE p s i a = cuE (wOf p s) i a := by unfold stxE; rw [if_pos h, if_neg h']
theorem stxE_n {p : Pk} {s : Sx} {i a : Int} (h : ssE p s = 0) (h' : cuE (wOf p s) i a = 0) : stxE p s i a = ferE (geE p s i a) p.len := by unfold stxE; rw [if_pos h, if_pos h']
@[irreducible] def stxN (p : Pk) (s : Sx) (i a : Int) : Sx := ⟨p.len, p.sz, fun g k => stA (p.at g k) (s.at g k) (swO (wOf p s) i g k) a⟩
@[simp] theorem stxN_len (p : Pk) (s : Sx) (i a : Int) : (stxN p s i a).len = p.len := by unfold stxN Sx.len; rfl
@[simp] theorem stxN_sz (p : Pk) (s : Sx) (i a : Int) : (stxN p s i a).sz = p.sz := by unfold stxN Sx.sz; rfl
theorem stxN_at (p : Pk) (s : Sx) (i a : Int) (g k : Nat) : (stxN p s i a).at g k = stA (p.at g k) (s.at g k) (swO (wOf p s) i g k) a := by unfold stxN Sx.at; rfl
@[reducible] def stxR : DatL [pkSh, sxSh, inSh] -> AV := fun (p, s, ((i : Int), (a : Int), _), _) => .tup [.slc (.sym (okN (stxE (pkOf p) (sxOf s) i a) (pkOf p).len)) 1 (fun g => [.slc (.sym ((pkOf p).sz g)) 5 (fun k => encL staCells (staD ((stxN (pkOf p) (sxOf s) i a).at g k)))]), .si .i64 (stxE (pkOf p) (sxOf s) i a)]
def stxS : Spec [pkSh, sxSh, inSh] := ⟨fun (p, _) => PkMax (pkOf p), stxR⟩
def stxSe : Spec [pkSh, sxSh, inSh] := ⟨fun (p, s, _) => PkMax (pkOf p) /\ ssE (pkOf p) (sxOf s) ≠ 0, stxR⟩
def stxSo : Spec [pkSh, sxSh, inSh] := ⟨fun (p, s, _) => PkMax (pkOf p) /\ ssE (pkOf p) (sxOf s) = 0, stxR⟩
set_option maxRecDepth 100000 in
set_option maxHeartbeats 2000000 in
theorem stx_e : FnSpec Tryz.prog 16 _ stxSe := by
 refine FnSpec.of HG0e_ok mixed (U := 0) (I := fun _ => []) Tryz.func16 rfl (by kernel_rfl) rfl rfl (by decide +kernel) ?_
 rintro ⟨p, s, ⟨(i : Int), (a : Int), ⟨⟩⟩, ⟨⟩⟩ hpre
 obtain ⟨p, rfl⟩ := pk_ex p
 obtain ⟨s, rfl⟩ := sx_ex s
 have hpre : PkMax p /\ ssE p s ≠ 0 := by have : PkMax (pkOf (pkD p)) /\ ssE (pkOf (pkD p)) (sxOf (sxD s)) ≠ 0 := hpre; rwa [pkOf_D, sxOf_D] at this
 unfold FnSat
 conv => arg 2; reduce
 simp [stxSe, wirS, ElEq, getB, goneB, aliveB, and_assoc]
 obtain ⟨hP, h0⟩ := hpre
 exact ⟨hP, h0, fun _ => ⟨by rw [stxE_e h0, okN_e h0], (stxE_e h0).symm⟩, h0⟩
@[irreducible] def sxL (p : Pk) (g k : Nat) : Nat := if k < g then p.sz k else 0
theorem sxL_lt {p : Pk} {g k : Nat} (h : k < g) : sxL p g k = p.sz k := by unfold sxL; rw [if_pos h]
theorem sxL_ge {p : Pk} {g k : Nat} (h : g <= k) : sxL p g k = 0 := by unfold sxL; rw [if_neg (by omega)]
@[irreducible] def sxM (p : Pk) (g q k : Nat) : Nat := if k = g then q else sxL p g k
theorem sxM_at {p : Pk} {g q : Nat} : sxM p g q g = q := by unfold sxM; rw [if_pos rfl]
theorem sxM_ne {p : Pk} {g q k : Nat} (h : k ≠ g) : sxM p g q k = sxL p g k := by unfold sxM; rw [if_neg h]
def stxI : DatL [pkSh, sxSh, inSh] -> Anns := fun (p, s, ((i : Int), (a : Int), _), _) => [
 (2097152 + 8, [(11, 58, 21)], fun _ _ => ⟨Unit, fun _ => ⟨[], []⟩, Unit, fun _ => (), fun _ => True, fun _ => 0⟩),
 (2097152 + 17, [(11, 12, 1)], fun _ _ => ⟨Unit, fun _ => ⟨[], []⟩, Unit, fun _ => (), fun _ => True, fun _ => 0⟩),
 (2097152 + 18, [(11, 0, 2)], fun _ _ => ⟨Unit, fun _ => ⟨[], []⟩, Unit, fun _ => (), fun _ => True, fun _ => 0⟩),
 (2097152 + 20, [(11, 0, 4)], fun _ _ => ⟨Unit, fun _ => ⟨[], []⟩, Unit, fun _ => (), fun _ => True, fun _ => 0⟩),
 (4194304 + 17, [], fun _ _ => ⟨Unit, fun _ => ⟨[], []⟩, Unit, fun _ => (), fun _ => True, fun _ => 0⟩),
 (9, [], fun fr hp => ⟨Nat, fun g => ⟨frI [.k 12, .t 6, .k 24, .s (.si .i64 (icast g)), .t 49] fr, setB hp 0 (.rows 50 58 5 (.sym (sxOf s).len) (fun _ => false) (fun k => sxL (pkOf p) g k) (fun q k => encL staCells (staD ((stxN (pkOf p) (sxOf s) i a).at q k))) none)⟩, Nat × Pk × (Nat -> Int), fun g => (g, pkOf p, geE (pkOf p) (sxOf s) i a), fun (g, p, e) => g <= p.len /\ ∀ j, j < g -> ferB e j = false, fun g => nsub 17 g⟩),
 (12, [], fun fr hp => ⟨Nat, fun k => ⟨frI [.k 14, .t 4, .k 31, .s (.si .i64 (icast k)), .t 42] fr, setB hp 0 (.rows 50 58 5 (.sym (sxOf s).len) (fun _ => false) (fun q => sxM (pkOf p) (nat (intOf (getL fr 12))) k q) (fun q k => encL staCells (staD ((stxN (pkOf p) (sxOf s) i a).at q k))) none)⟩, Nat × Nat × Pk × (Nat -> Int), fun k => (k, nat (intOf (getL fr 12)), pkOf p, ceE (pkOf p) (sxOf s) i a (nat (intOf (getL fr 12)))), fun (k, g, p, e) => k <= p.sz g /\ ∀ j, j < k -> ferB e j = false, fun k => nsub 5 k⟩)]
set_option maxRecDepth 100000 in
set_option maxHeartbeats 2000000 in
theorem stx_o : FnSpec Tryz.prog 16 _ stxSo := by
 refine FnSpec.of HG0_ok mixed (U := 0) (I := stxI) Tryz.func16 rfl (by kernel_rfl) rfl rfl (by decide +kernel) ?_
 rintro ⟨p, s, ⟨(i : Int), (a : Int), ⟨⟩⟩, ⟨⟩⟩ hpre
 obtain ⟨p, rfl⟩ := pk_ex p
 obtain ⟨s, rfl⟩ := sx_ex s
 have hpre : PkMax p /\ ssE p s = 0 := by have : PkMax (pkOf (pkD p)) /\ ssE (pkOf (pkD p)) (sxOf (sxD s)) = 0 := hpre; rwa [pkOf_D, sxOf_D] at this
 unfold FnSat
 conv => arg 2; reduce
 simp [stxSo, wirP, wirX, wirL, curS, stpT, ElEq, RowsEq, getB, goneB, aliveB, maxRow, and_assoc]
 obtain ⟨hP, h0⟩ := hpre
 have S := ssOK h0
 have n16 := S.n
 have hl := S.l
 refine ⟨hP, h0, S.w, fun h => ?_, fun hc => ?_⟩
 ·exact ⟨by rw [stxE_c h0 h, okN_e h], (stxE_c h0 h).symm⟩
 have hE := stxE_n (i := i) (a := a) h0 hc
 refine ⟨by omega, by omega, ⟨0, rfl, fun k hk => ⟨by rw [sxL_ge (by omega)], fun j => by rw [sxL_ge (by omega)]; omega⟩, by omega, fun j hj => by omega⟩, fun g hg hall => ⟨fun hlt => ?_, fun hge => ?_⟩⟩
 ·have hm := S.m g hlt
  have hG := geE_eq p s i a g
  refine ⟨hlt, ⟨0, rfl, fun k hk => ?_, by omega, fun j hj => by omega⟩, fun q hq hal2 => ⟨fun hql => ?_, fun hqg => ?_⟩⟩
  ·by_cases e : k = g
   ·subst e; rw [sxM_at, sxL_ge (by omega)]
   ·rw [sxM_ne e]
  ·have hC := ceE_eq p s i a g q
   rw [<- hC]
   refine ⟨hql, by omega, by omega, by rw [okN_0 hc]; omega, hql, hP g hlt q hql, fun hne => ?_, fun he => ?_⟩
   ·rw [ferE_at hql hal2 hne] at hG
    have : ferE (geE p s i a) p.len = geE p s i a g := ferE_at hlt hall (by rw [hG]; exact hne)
    rw [this, hG] at hE
    exact ⟨by rw [hE, okN_e hne], hE.symm⟩
   ·rw [sxM_at]
    refine ⟨by omega, by omega, by omega, by omega, by omega, q + 1, by omega, fun k hk => ⟨?_, ?_, fun j hj => ?_⟩, by omega, fun j hj => ?_, by omega⟩
    ·unfold updZ; split <;> rfl
    ·unfold updN
     by_cases e : k = g
     ·subst e; rw [if_pos rfl, sxM_at]
     ·rw [if_neg e]
      show sxM p g q k = _
      rw [sxM_ne e, sxM_ne e]
    ·unfold updR
     by_cases e : k = g
     ·subst e
      rw [sxM_at] at hj
      rw [if_pos rfl]
      refine app_one hj (fun _ => rfl) (fun e => ?_)
      subst e
      rw [stxN_at]; rfl
     ·rw [if_neg e]; rfl
    ·by_cases e : j = q
     ·subst e; exact ferB_f.2 he
     ·exact hal2 j (by omega)
  ·refine ⟨by omega, by omega, g + 1, by omega, fun k hk => ?_, by omega, fun j hj => ?_, by omega⟩
   ·by_cases e : k = g
    ·subst e; rw [sxM_at, sxL_lt (by omega)]; omega
    ·rw [sxM_ne e]
     by_cases h : k < g
     ·rw [sxL_lt h, sxL_lt (by omega)]
     ·rw [sxL_ge (by omega), sxL_ge (by omega)]
   ·by_cases e : j = g
    ·subst e
     rw [ferE_no fun k hk => hal2 k (by omega)] at hG
     exact ferB_f.2 hG
    ·exact hall j (by omega)
 ·rw [ferE_no fun j hj => hall j (by omega)] at hE
  rw [hE, okN_0 rfl]
  exact ⟨hl, fun j hj => ⟨sxL_lt (by omega), rfl⟩, rfl⟩
theorem stx_ok : FnSpec Tryz.prog 16 _ stxS := fun x hx => by
 by_cases h : ssE (pkOf x.1) (sxOf x.2.1) = 0
 ·exact stx_o x ⟨hx, h⟩
 ·exact stx_e x ⟨hx, h⟩
noncomputable def HG1 : Sums := ⟨(16, mkSum _ stxS) :: (14, mkSum _ vtS) :: HZ3.one, HZ3.two, HZ3.lo, HZ3.eqs, HZ3.its, HZ3.imm⟩
theorem HG1_ok : SumsOK Tryz.prog HG1 := ((HZ3_ok.cons Tryz.func14 (by kernel_rfl) (by kernel_rfl) vt_ok).cons Tryz.func16 (by kernel_rfl) (by kernel_rfl) stx_ok)
noncomputable def HG2 : Sums := ⟨(42, mkSum _ stpT) :: (45, mkSum _ rftS) :: (44, mkSum _ rspS) :: HG1.one, HG1.two, HG1.lo, HG1.eqs, HG1.its, HG1.imm⟩
theorem HG2_ok : SumsOK Tryz.prog HG2 := (((HG1_ok.cons Tryz.func44 (by kernel_rfl) (by kernel_rfl) rsp_ok).cons Tryz.func45 (by kernel_rfl) (by kernel_rfl) rft_ok).cons Tryz.func42 (by kernel_rfl) (by kernel_rfl) rstp_ok)
def rsxS : Spec [pkSh, sxSh, .int .i64] := ⟨fun (p, s, (i : Int), _) => ssE (pkOf p) (sxOf s) = 0 /\ -1048576 <= i /\ i <= 1048576, fun (p, s, (i : Int), _) => .tup [.slc (.sym (pkOf p).len) 1 (fun g => [.slc (.sym ((pkOf p).sz g)) 1 (fun k => [.si .i64 (swO (wOf (pkOf p) (sxOf s)) i g k)])]), .si .i64 (swT (wOf (pkOf p) (sxOf s)) i (pkOf p).len), .sb (gokA (wOf (pkOf p) (sxOf s)) i (pkOf p).len)]⟩
def rsxI : DatL [pkSh, sxSh, .int .i64] -> Anns := fun (p, s, (i : Int), _) => [
 (5, [(9, 40, 1)], fun fr hp => ⟨Nat, fun g => ⟨frI [.k 10, .s (.si .i64 (swT (wOf (pkOf p) (sxOf s)) i g)), .s (.sb (gokA (wOf (pkOf p) (sxOf s)) i g)), .s (.si .i64 (icast g)), .t 37] fr, setB hp 0 (.row 40 1 (.sym g) (fun g => [.slc (.sym ((pkOf p).sz g)) 1 (fun k => [.si .i64 (swO (wOf (pkOf p) (sxOf s)) i g k)])]))⟩, Nat × Pk, fun g => (g, pkOf p), fun (g, p) => g <= p.len, fun g => nsub 17 g⟩)]
set_option maxRecDepth 100000 in
set_option maxHeartbeats 2000000 in
theorem rsx_ok : FnSpec Tryz.prog 38 _ rsxS := by
 refine FnSpec.of HG2_ok mixed (U := 0) (I := rsxI) Tryz.func38 rfl (by kernel_rfl) rfl rfl (by decide +kernel) ?_
 rintro ⟨p, s, (i : Int), ⟨⟩⟩ hpre
 obtain ⟨p, rfl⟩ := pk_ex p
 obtain ⟨s, rfl⟩ := sx_ex s
 have hpre : ssE p s = 0 /\ -1048576 <= i /\ i <= 1048576 := by have : ssE (pkOf (pkD p)) (sxOf (sxD s)) = 0 /\ -1048576 <= i /\ i <= 1048576 := hpre; rwa [pkOf_D, sxOf_D] at this
 unfold FnSat
 conv => arg 2; reduce
 simp [rsxS, rspS, rftS, GrpOK, ElEq, getB, goneB, aliveB, maxRow, and_assoc]
 obtain ⟨h0, i1, i2⟩ := hpre
 have S := ssOK h0
 have n16 := S.n
 have hl := S.l
 have hW := S.w
 have eC : ∀ g, (fun k => p.at g k) = p.at g := fun g => rfl
 have eS : ∀ g, (fun k => s.at g k) = s.at g := fun g => rfl
 simp only [eC, eS]
 have hX : ∀ g k, shO (sA (p.at g) (s.at g)) (sR (p.at g) (s.at g)) (p.sz g) i k = swO (wOf p s) i g k := fun g k => by rw [swO_eq, wOf_a, wOf_r, wOf_m]
 have hV : ∀ g, shV (sA (p.at g) (s.at g)) (sR (p.at g) (s.at g)) (p.sz g) i = swV (wOf p s) i g := fun g => by rw [swV_eq, wOf_a, wOf_r, wOf_m]
 simp only [hX, hV]
 have hTb : ∀ g, g <= p.len -> -(g * 1099511627776) <= swT (wOf p s) i g /\ swT (wOf p s) i g <= g * 1099511627776 := fun g => by
  induction g with
  | zero => intro _; rw [swT_0]; omega
  | succ g ih =>
    intro h
    have ih := ih (by omega)
    have K := shOK (S.src (i := g) (by omega)) (S.m g (by omega)).1.1 i1 i2
    have k1 := K.lo
    have k2 := K.hi
    rw [hV] at k1 k2
    rw [swT_s]; omega
 refine ⟨⟨0, (swT_0 _ i).symm, gokA_0 _ i, rfl, rfl, fun j => by omega, by omega⟩, fun g hg => ⟨fun hlt => ?_, fun hge => ?_⟩⟩
 ·have hm := S.m g (by omega)
  have K := shOK (S.src (i := g) (by omega)) hm.1.1 i1 i2
  have k1 := K.lo
  have k2 := K.hi
  rw [hV] at k1 k2
  have hT := hTb g hg
  refine ⟨by omega, hlt, hm.2.symm, hm.1.2, fun k hk => csE_iff.2 (S.c g (by omega) k hk), hm.1.1, i1, i2, by omega, by omega, by omega, fun _ => by unfold maxLen; omega, by omega, by omega, g + 1, (swT_s _ i g).symm, ?_, by omega, rfl, fun j hj => app_one hj (fun _ => rfl) (fun e => by subst e; rfl), by omega, by omega⟩
  rw [gokA_s, fitL_pf, wOf_m]
 ·obtain rfl : g = p.len := by omega
  exact ⟨rfl, rfl, rfl⟩
noncomputable def HG3 : Sums := ⟨(38, mkSum _ rsxS) :: HG2.one, HG2.two, HG2.lo, HG2.eqs, HG2.its, HG2.imm⟩
theorem HG3_ok : SumsOK Tryz.prog HG3 := (HG2_ok.cons Tryz.func38 (by kernel_rfl) (by kernel_rfl) rsx_ok)
@[irreducible] def inpE (p : Pk) (s : Sx) (i a : Int) : Int := if ssE p s = 0 then cuE (wOf p s) i a else ssE p s
theorem inpE_e {p : Pk} {s : Sx} {i a : Int} (h : ssE p s ≠ 0) : inpE p s i a = ssE p s := by unfold inpE; rw [if_neg h]
theorem inpE_n {p : Pk} {s : Sx} {i a : Int} (h : ssE p s = 0) : inpE p s i a = cuE (wOf p s) i a := by unfold inpE; rw [if_pos h]
def inpS : Spec [pkSh, sxSh, inSh] := ⟨fun (p, _) => PkMax (pkOf p), fun (p, s, ((i : Int), (a : Int), _), _) => .si .i64 (inpE (pkOf p) (sxOf s) i a)⟩
set_option maxRecDepth 100000 in
set_option maxHeartbeats 2000000 in
theorem rinp_ok : FnSpec Tryz.prog 41 _ inpS := by
 refine FnSpec.of HG3_ok mixed (U := 0) (I := fun _ => []) Tryz.func41 rfl (by kernel_rfl) rfl rfl (by decide +kernel) ?_
 rintro ⟨p, s, ⟨(i : Int), (a : Int), ⟨⟩⟩, ⟨⟩⟩ hpre
 obtain ⟨p, rfl⟩ := pk_ex p
 obtain ⟨s, rfl⟩ := sx_ex s
 have hpre : PkMax p := by have : PkMax (pkOf (pkD p)) := hpre; rwa [pkOf_D] at this
 unfold FnSat
 conv => arg 2; reduce
 simp [inpS, scsS, rsxS, ElEq, getB, goneB, aliveB, and_assoc]
 have hP := hpre
 refine ⟨hP, fun h => ⟨hP, (inpE_e h).symm⟩, fun h0 => ?_⟩
 rw [inpE_n h0]
 exact ⟨fun h => (cuE_3 (by omega)).symm, fun i1 i2 a1 a2 => ⟨h0, i1, i2, fun hf => (cuE_4 (by omega) (by rw [wOf_n]; exact hf)).symm, fun ht => (cuE_0 (by omega) (by rw [wOf_n]; exact ht)).symm⟩⟩
set_option maxRecDepth 100000 in
set_option maxHeartbeats 2000000 in
theorem rvt_ok : FnSpec Tryz.prog 15 _ vtS := by
 refine FnSpec.of HG3_ok mixed (U := 0) (I := fun _ => []) Tryz.func15 rfl (by kernel_rfl) rfl rfl (by decide +kernel) ?_
 rintro ⟨p, s, (i : Int), ⟨⟩⟩ hpre
 obtain ⟨p, rfl⟩ := pk_ex p
 obtain ⟨s, rfl⟩ := sx_ex s
 have hpre : PkMax p := by have : PkMax (pkOf (pkD p)) := hpre; rwa [pkOf_D] at this
 unfold FnSat
 conv => arg 2; reduce
 simp [vtS, vtR, scsS, rsxS, ElEq, getB, goneB, aliveB, and_assoc]
 have hP := hpre
 refine ⟨hP, fun h0 => ⟨hP, ?_, (vtE_e h0).symm⟩, fun h0 => ⟨fun h => ?_, fun i1 i2 => ⟨h0, i1, i2, fun hf => ?_, fun ht => ?_⟩⟩⟩
 ·unfold vtV; rw [vtE_e h0, okI_e h0]
 ·have e := cuE_3 (w := wOf p s) (i := i) (a := 0) (by omega)
  rw [<- vtE_n h0] at e
  exact ⟨by unfold vtV; rw [e, okI_e (by omega)], e.symm⟩
 ·have e := cuE_4 (w := wOf p s) (i := i) (a := 0) (by omega) (by rw [wOf_n]; exact hf)
  rw [<- vtE_n h0] at e
  exact ⟨by unfold vtV; rw [e, okI_e (by omega)], e.symm⟩
 ·have e := cuE_0 (w := wOf p s) (i := i) (a := 0) (by omega) (by rw [wOf_n]; exact ht)
  rw [<- vtE_n h0] at e
  exact ⟨by unfold vtV; rw [e, okI_0 rfl], e.symm⟩
noncomputable def HG4 : Sums := ⟨(15, mkSum _ vtS) :: (41, mkSum _ inpS) :: HG3.one, HG3.two, HG3.lo, HG3.eqs, HG3.its, HG3.imm⟩
theorem HG4_ok : SumsOK Tryz.prog HG4 := ((HG3_ok.cons Tryz.func41 (by kernel_rfl) (by kernel_rfl) rinp_ok).cons Tryz.func15 (by kernel_rfl) (by kernel_rfl) rvt_ok)
def rstxI : DatL [pkSh, sxSh, inSh] -> Anns := fun (p, s, ((i : Int), (a : Int), _), _) => [
 (6, [(11, 50, 1)], fun fr hp => ⟨Nat, fun g => ⟨frI [.k 12, .s (.si .i64 (icast g)), .t 4, .k 18, .t 56] fr, setB hp 0 (.row 50 1 (.sym g) (fun g => [.slc (.sym ((pkOf p).sz g)) 5 (fun k => encL staCells (staD ((stxN (pkOf p) (sxOf s) i a).at g k)))]))⟩, Nat × Pk × (Nat -> Int), fun g => (g, pkOf p, geE (pkOf p) (sxOf s) i a), fun (g, p, e) => g <= p.len /\ ∀ j, j < g -> ferB e j = false, fun g => nsub 17 g⟩),
 (10, [(13, 58, 5)], fun fr hp => ⟨Nat, fun k => ⟨frI [.k 14, .s (.si .i64 (icast k)), .t 2, .k 24, .t 50] fr, setB hp 1 (.row 58 5 (.sym k) (fun k => encL staCells (staD ((stxN (pkOf p) (sxOf s) i a).at (nat (intOf (getL fr 12))) k))))⟩, Nat × Nat × Pk × (Nat -> Int), fun k => (k, nat (intOf (getL fr 12)), pkOf p, ceE (pkOf p) (sxOf s) i a (nat (intOf (getL fr 12)))), fun (k, g, p, e) => k <= p.sz g /\ ∀ j, j < k -> ferB e j = false, fun k => nsub 5 k⟩)]
set_option maxRecDepth 100000 in
set_option maxHeartbeats 2000000 in
theorem rstx_ok : FnSpec Tryz.prog 17 _ stxS := by
 refine FnSpec.of HG4_ok mixed (U := 0) (I := rstxI) Tryz.func17 rfl (by kernel_rfl) rfl rfl (by decide +kernel) ?_
 rintro ⟨p, s, ⟨(i : Int), (a : Int), ⟨⟩⟩, ⟨⟩⟩ hpre
 obtain ⟨p, rfl⟩ := pk_ex p
 obtain ⟨s, rfl⟩ := sx_ex s
 have hpre : PkMax p := by have : PkMax (pkOf (pkD p)) := hpre; rwa [pkOf_D] at this
 unfold FnSat
 conv => arg 2; reduce
 simp [stxS, inpS, rsxS, stpT, ElEq, getB, goneB, aliveB, maxRow, and_assoc]
 have hP := hpre
 have hi1 : ∀ {e : Int}, inpE p s i a ≠ 0 -> stxE p s i a = inpE p s i a := fun {e} h => by
  by_cases h0 : ssE p s = 0
  ·rw [inpE_n h0] at h ⊢
   exact stxE_c h0 h
  ·rw [inpE_e h0, stxE_e h0]
 refine ⟨hP, fun h => ⟨hP, by rw [hi1 (e := 0) h, okN_e h], (hi1 (e := 0) h).symm⟩, fun h => ?_⟩
 have h0 : ssE p s = 0 := by
  apply Classical.byContradiction
  intro h0
  rw [inpE_e h0] at h
  exact h0 h
 rw [inpE_n h0] at h
 have hc := h
 obtain ⟨⟨⟨i1, i2⟩, _⟩, _⟩ := cuE_iff.1 h
 have S := ssOK h0
 have n16 := S.n
 have hl := S.l
 have hE := stxE_n (i := i) (a := a) h0 hc
 refine ⟨h0, i1, i2, ⟨0, rfl, rfl, fun j => by omega, by omega, fun j hj => by omega⟩, fun g hg hall => ⟨fun hlt => ?_, fun hge => ?_⟩⟩
 ·have hm := S.m g (by omega)
  have hG := geE_eq p s i a g
  refine ⟨⟨0, rfl, rfl, fun j => by omega, by omega, fun j hj => by omega⟩, fun q hq hal2 => ⟨hlt, fun hql => ?_, fun hqg => ?_⟩⟩
  ·have hC := ceE_eq p s i a g q
   rw [<- hC]
   refine ⟨by omega, by omega, hlt, hql, by omega, by omega, hP g (by omega) q (by omega), fun hne => ?_, fun he => ?_⟩
   ·rw [ferE_at (by omega) hal2 hne] at hG
    have : ferE (geE p s i a) p.len = geE p s i a g := ferE_at (by omega) hall (by rw [hG]; exact hne)
    rw [this, hG] at hE
    exact ⟨by rw [hE, okN_e hne], hE.symm⟩
   ·refine ⟨by omega, by omega, by omega, q + 1, by omega, rfl, fun j hj => app_one hj (fun _ => rfl) (fun e => ?_), by omega, fun j hj => ?_, by omega⟩
    ·subst e; rw [stxN_at]; rfl
    ·by_cases e : j = q
     ·subst e; exact ferB_f.2 he
     ·exact hal2 j (by omega)
  ·obtain rfl : q = p.sz g := by omega
   refine ⟨by omega, by omega, by omega, g + 1, by omega, rfl, fun j hj => app_one hj (fun _ => rfl) (fun e => by subst e; rfl), by omega, fun j hj => ?_, by omega⟩
   by_cases e : j = g
   ·subst e
    rw [ferE_no fun k hk => hal2 k (by omega)] at hG
    exact ferB_f.2 hG
   ·exact hall j (by omega)
 ·obtain rfl : g = p.len := by omega
  rw [ferE_no fun j hj => hall j (by omega)] at hE
  rw [hE, okN_0 rfl]
  exact ⟨rfl, fun j hj => rfl, rfl⟩
noncomputable def HG5 : Sums := ⟨(17, mkSum _ stxS) :: HG4.one, HG4.two, HG4.lo, HG4.eqs, HG4.its, HG4.imm⟩
theorem HG5_ok : SumsOK Tryz.prog HG5 := (HG4_ok.cons Tryz.func17 (by kernel_rfl) (by kernel_rfl) rstx_ok)
end
end Abs
end Go.Proofs.YtlacopdaibhkkaaGreat

namespace Go.Proofs.YtlacopdaibhkkaaGreat
namespace Abs
open Go Go.RowKit
noncomputable section
attribute [local irreducible] FnSat
def rnX0 (p : Pk) (s : Sx) (il al : Nat -> Int) : Nat -> Sx
 | 0 => s
 | k + 1 => stxN p (rnX0 p s il al k) (il k) (al k)
@[irreducible] def rnX (p : Pk) (s : Sx) (il al : Nat -> Int) (k : Nat) : Sx := rnX0 p s il al k
theorem rnX_0 (p : Pk) (s : Sx) (il al : Nat -> Int) : rnX p s il al 0 = s := by unfold rnX; rfl
theorem rnX_s (p : Pk) (s : Sx) (il al : Nat -> Int) (k : Nat) : rnX p s il al (k + 1) = stxN p (rnX p s il al k) (il k) (al k) := by unfold rnX; rfl
@[irreducible] def rnE (p : Pk) (s : Sx) (il al : Nat -> Int) (k : Nat) : Int := stxE p (rnX p s il al k) (il k) (al k)
theorem rnE_eq (p : Pk) (s : Sx) (il al : Nat -> Int) (k : Nat) : rnE p s il al k = stxE p (rnX p s il al k) (il k) (al k) := by unfold rnE; rfl
@[irreducible] def runE (p : Pk) (s : Sx) (n : Nat) (il al : Nat -> Int) : Int := if ssE p s = 0 then (if 10000 < n then 6 else ferE (rnE p s il al) n) else ssE p s
theorem runE_e {p : Pk} {s : Sx} {n : Nat} {il al : Nat -> Int} (h : ssE p s ≠ 0) : runE p s n il al = ssE p s := by unfold runE; rw [if_neg h]
theorem runE_6 {p : Pk} {s : Sx} {n : Nat} {il al : Nat -> Int} (h : ssE p s = 0) (h' : 10000 < n) : runE p s n il al = 6 := by unfold runE; rw [if_pos h, if_pos h']
theorem runE_n {p : Pk} {s : Sx} {n : Nat} {il al : Nat -> Int} (h : ssE p s = 0) (h' : n <= 10000) : runE p s n il al = ferE (rnE p s il al) n := by unfold runE; rw [if_pos h, if_neg (by omega)]
@[reducible] def inpsSh : Sh := .slice 2 [.int .i64, .int .i64]
def runS : Spec [pkSh, sxSh, inpsSh] := ⟨fun (p, _) => PkMax (pkOf p), fun (p, s, (n, el), _) => .tup [.slc (.sym (okN (runE (pkOf p) (sxOf s) n (fun k => (el k).1) (fun k => (el k).2.1)) (rnX (pkOf p) (sxOf s) (fun k => (el k).1) (fun k => (el k).2.1) n).len)) 1 (fun g => [.slc (.sym ((rnX (pkOf p) (sxOf s) (fun k => (el k).1) (fun k => (el k).2.1) n).sz g)) 5 (fun k => encL staCells (staD ((rnX (pkOf p) (sxOf s) (fun k => (el k).1) (fun k => (el k).2.1) n).at g k)))]), .si .i64 (runE (pkOf p) (sxOf s) n (fun k => (el k).1) (fun k => (el k).2.1))]⟩
@[irreducible] def cpL (s : Sx) (g k : Nat) : Nat := if k < g then s.sz k else 0
theorem cpL_lt {s : Sx} {g k : Nat} (h : k < g) : cpL s g k = s.sz k := by unfold cpL; rw [if_pos h]
theorem cpL_ge {s : Sx} {g k : Nat} (h : g <= k) : cpL s g k = 0 := by unfold cpL; rw [if_neg (by omega)]
def runI : DatL [pkSh, sxSh, inpsSh] -> Anns := fun (p, s, (n, el), _) => [
 (2097152 + 7, [(9, 58, 21)], fun _ _ => ⟨Unit, fun _ => ⟨[], []⟩, Unit, fun _ => (), fun _ => True, fun _ => 0⟩),
 (2097152 + 10, [(9, 10, 1)], fun _ _ => ⟨Unit, fun _ => ⟨[], []⟩, Unit, fun _ => (), fun _ => True, fun _ => 0⟩),
 (2097152 + 11, [(9, 0, 2)], fun _ _ => ⟨Unit, fun _ => ⟨[], []⟩, Unit, fun _ => (), fun _ => True, fun _ => 0⟩),
 (2097152 + 12, [(9, 0, 4), (9, 0, 0)], fun _ _ => ⟨Unit, fun _ => ⟨[], []⟩, Unit, fun _ => (), fun _ => True, fun _ => 0⟩),
 (4194304 + 10, [], fun _ _ => ⟨Unit, fun _ => ⟨[], []⟩, Unit, fun _ => (), fun _ => True, fun _ => 0⟩),
 (8, [], fun fr hp => ⟨Nat, fun g => ⟨frI [.k 10, .t 1, .k 18, .s (.si .i64 (icast g)), .t 34] fr, setB hp 0 (.rows 50 58 5 (.sym (sxOf s).len) (fun _ => false) (fun k => cpL (sxOf s) g k) (fun q k => encL staCells (staD ((sxOf s).at q k))) none)⟩, Nat × Nat, fun g => (g, (sxOf s).len), fun (g, n) => g <= n, fun g => nsub 17 g⟩),
 (13, [], fun fr hp => ⟨Nat, fun g => ⟨frI [.k 9, .s (.slc (.sym (rnX (pkOf p) (sxOf s) (fun k => (el k).1) (fun k => (el k).2.1) g).len) 1 (fun q => [.slc (.sym ((rnX (pkOf p) (sxOf s) (fun k => (el k).1) (fun k => (el k).2.1) g).sz q)) 5 (fun k => encL staCells (staD ((rnX (pkOf p) (sxOf s) (fun k => (el k).1) (fun k => (el k).2.1) g).at q k)))])), .k 2, .t 3, .k 32, .s (.si .i64 (icast g)), .t 16] fr, hp⟩, Nat × Nat × (Nat -> Int), fun g => (g, n, rnE (pkOf p) (sxOf s) (fun k => (el k).1) (fun k => (el k).2.1)), fun (g, n, e) => g <= n /\ ∀ j, j < g -> ferB e j = false, fun g => nsub n g⟩)]
set_option maxRecDepth 100000 in
set_option maxHeartbeats 2000000 in
theorem run_ok : FnSpec Tryz.prog 11 _ runS := by
 refine FnSpec.of HG5_ok mixed (U := 0) (I := runI) Tryz.func11 rfl (by kernel_rfl) rfl rfl (by decide +kernel) ?_
 rintro ⟨p, s, ⟨n, el⟩, ⟨⟩⟩ hpre
 obtain ⟨p, rfl⟩ := pk_ex p
 obtain ⟨s, rfl⟩ := sx_ex s
 obtain ⟨il, al, rfl⟩ : ∃ il al : Nat -> Int, el = fun k => (il k, al k, ()) := ⟨fun k => (el k).1, fun k => (el k).2.1, rfl⟩
 have hpre : PkMax p := by have : PkMax (pkOf (pkD p)) := hpre; rwa [pkOf_D] at this
 unfold FnSat
 conv => arg 2; reduce
 simp [runS, scsS, stxS, ElEq, RowsEq, getB, goneB, aliveB, maxRow, and_assoc]
 have hP := hpre
 have ei : (fun k => il k) = il := rfl
 have ea : (fun k => al k) = al := rfl
 simp only [ei, ea]
 refine ⟨hP, fun h0 => ⟨by rw [runE_e h0, okN_e h0], (runE_e h0).symm⟩, fun h0 => ⟨fun hb => ?_, fun hn => ?_⟩⟩
 ·have e := runE_6 (il := il) (al := al) h0 (show 10000 < n by omega)
  exact ⟨by rw [e, okN_e (by omega)], e.symm⟩
 have S := ssOK h0
 have n16 := S.n
 have hl := S.l
 have hR := runE_n (il := il) (al := al) h0 (show n <= 10000 by omega)
 refine ⟨by omega, by omega, ⟨0, rfl, fun k hk => ⟨by rw [cpL_ge (by omega)], fun j => by rw [cpL_ge (by omega)]; omega⟩, by omega⟩, fun g hg => ⟨fun hlt => ?_, fun hge => ⟨⟨0, by rw [rnX_0], fun j hj => ?_, rfl, by omega, fun j hj => by omega⟩, fun g hg hall => ⟨fun hlt => ?_, fun hge2 => ?_⟩⟩⟩⟩
 ·have hm := S.m g (by omega)
  have e0 : cpL s g g = 0 := cpL_ge (Nat.le_refl _)
  rw [e0]
  refine ⟨hlt, by omega, hlt, by omega, by omega, g + 1, by omega, fun k hk => ⟨?_, ?_, fun j hj => ?_⟩, by omega, by omega⟩
  ·unfold updZ; split <;> rfl
  ·unfold updN
   by_cases e : k = g
   ·subst e; rw [if_pos rfl, cpL_lt (by omega)]; omega
   ·rw [if_neg e]
    show cpL s g k = _
    by_cases h : k < g
    ·rw [cpL_lt h, cpL_lt (by omega)]
    ·rw [cpL_ge (by omega), cpL_ge (by omega)]
  ·unfold updR
   by_cases e : k = g
   ·subst e
    rw [if_pos rfl, catE_eq, if_neg (by omega)]
    rfl
   ·rw [if_neg e]; rfl
 ·rw [rnX_0] at hj ⊢
  exact ⟨cpL_lt (by omega), rfl⟩
 ·have hE := rnE_eq p s il al g
  rw [<- hE]
  refine ⟨hlt, hP, fun hne => ?_, fun he => ?_⟩
  ·have hf : ferE (rnE p s il al) n = rnE p s il al g := ferE_at hlt hall hne
   rw [hf] at hR
   exact ⟨by rw [hR, okN_e hne], hR.symm⟩
  ·rw [he, okN_0 rfl]
   refine ⟨by omega, by omega, g + 1, by rw [rnX_s, stxN_len], fun j hj => ?_, ?_⟩
   ·rw [rnX_s, stxN_sz]; exact ⟨rfl, rfl⟩
   ·refine ⟨by omega, by omega, fun j hj => ?_, by omega⟩
    by_cases e : j = g
    ·subst e; exact ferB_f.2 he
    ·exact hall j (by omega)
 ·obtain rfl : g = n := by omega
  rw [ferE_no fun j hj => hall j (by omega)] at hR
  rw [hR, okN_0 rfl]
  exact ⟨rfl, fun j _ => ⟨rfl, rfl⟩, rfl⟩
def rrunI : DatL [pkSh, sxSh, inpsSh] -> Anns := fun (p, s, (n, el), _) => [
 (6, [], fun fr hp => ⟨Nat, fun g => ⟨frI [.k 1, .s (.slc (.sym (rnX (pkOf p) (sxOf s) (fun k => (el k).1) (fun k => (el k).2.1) g).len) 1 (fun q => [.slc (.sym ((rnX (pkOf p) (sxOf s) (fun k => (el k).1) (fun k => (el k).2.1) g).sz q)) 5 (fun k => encL staCells (staD ((rnX (pkOf p) (sxOf s) (fun k => (el k).1) (fun k => (el k).2.1) g).at q k)))])), .k 6, .s (.si .i64 (icast g)), .t 2, .k 10, .t 21] fr, hp⟩, Nat × Nat × (Nat -> Int), fun g => (g, n, rnE (pkOf p) (sxOf s) (fun k => (el k).1) (fun k => (el k).2.1)), fun (g, n, e) => g <= n /\ ∀ j, j < g -> ferB e j = false, fun g => nsub n g⟩)]
set_option maxRecDepth 100000 in
set_option maxHeartbeats 2000000 in
theorem rrun_ok : FnSpec Tryz.prog 12 _ runS := by
 refine FnSpec.of HG5_ok mixed (U := 0) (I := rrunI) Tryz.func12 rfl (by kernel_rfl) rfl rfl (by decide +kernel) ?_
 rintro ⟨p, s, ⟨n, el⟩, ⟨⟩⟩ hpre
 obtain ⟨p, rfl⟩ := pk_ex p
 obtain ⟨s, rfl⟩ := sx_ex s
 obtain ⟨il, al, rfl⟩ : ∃ il al : Nat -> Int, el = fun k => (il k, al k, ()) := ⟨fun k => (el k).1, fun k => (el k).2.1, rfl⟩
 have hpre : PkMax p := by have : PkMax (pkOf (pkD p)) := hpre; rwa [pkOf_D] at this
 unfold FnSat
 conv => arg 2; reduce
 simp [runS, scsS, stxS, ElEq, RowsEq, getB, goneB, aliveB, maxRow, and_assoc]
 have hP := hpre
 have ei : (fun k => il k) = il := rfl
 have ea : (fun k => al k) = al := rfl
 simp only [ei, ea]
 refine ⟨hP, fun h0 => ⟨hP, by rw [runE_e h0, okN_e h0], (runE_e h0).symm⟩, fun h0 => ⟨fun hb => ?_, fun hn => ?_⟩⟩
 ·have e := runE_6 (il := il) (al := al) h0 (show 10000 < n by omega)
  exact ⟨by rw [e, okN_e (by omega)], e.symm⟩
 have hR := runE_n (il := il) (al := al) h0 (show n <= 10000 by omega)
 refine ⟨⟨0, by rw [rnX_0], fun j hj => by rw [rnX_0]; exact ⟨rfl, rfl⟩, rfl, by omega, fun j hj => by omega⟩, fun g hg hall => ⟨fun hlt => ?_, fun hge2 => ?_⟩⟩
 ·have hE := rnE_eq p s il al g
  rw [<- hE]
  refine ⟨hlt, hP, fun hne => ?_, fun he => ?_⟩
  ·have hf : ferE (rnE p s il al) n = rnE p s il al g := ferE_at hlt hall hne
   rw [hf] at hR
   exact ⟨by rw [hR, okN_e hne], hR.symm⟩
  ·rw [he, okN_0 rfl]
   refine ⟨by omega, by omega, g + 1, by rw [rnX_s, stxN_len], fun j hj => ?_, ?_⟩
   ·rw [rnX_s, stxN_sz]; exact ⟨rfl, rfl⟩
   ·refine ⟨by omega, by omega, fun j hj => ?_, by omega⟩
    by_cases e : j = g
    ·subst e; exact ferB_f.2 he
    ·exact hall j (by omega)
 ·obtain rfl : g = n := by omega
  rw [ferE_no fun j hj => hall j (by omega)] at hR
  rw [hR, okN_0 rfl]
  exact ⟨rfl, fun j _ => ⟨rfl, rfl⟩, rfl⟩
noncomputable def HH0 : Sums := ⟨(19, mkSum _ splS) :: (18, mkSum _ splS) :: (12, mkSum _ runS) :: (11, mkSum _ runS) :: HG5.one, HG5.two, HG5.lo, HG5.eqs, HG5.its, HG5.imm⟩
theorem HH0_ok : SumsOK Tryz.prog HH0 := ((((HG5_ok.cons Tryz.func11 (by kernel_rfl) (by kernel_rfl) run_ok).cons Tryz.func12 (by kernel_rfl) (by kernel_rfl) rrun_ok).cons Tryz.func18 (by kernel_rfl) (by kernel_rfl) spl_ok).cons Tryz.func19 (by kernel_rfl) (by kernel_rfl) rspl_ok)
noncomputable def HH1 : Sums := ⟨HH0.one, HH0.two, HH0.lo, eqs0, HH0.its, HH0.imm⟩
theorem HH1_ok : SumsOK Tryz.prog HH1 := HH0_ok.setEqs eqs0_ok
def smsS : Spec [sxSh, sxSh] := ⟨fun (x, y, _) => sxOf x = sxOf y /\ (sxOf x).len <= 1000 /\ ∀ i, i < (sxOf x).len -> (sxOf x).sz i <= 1000, fun _ => .sb true⟩
def smsI : DatL [sxSh, sxSh] -> Anns := fun (x, _, _) => [
 (4, [], fun fr hp => ⟨Nat, fun g => ⟨frI [.k 5, .s (.si .i64 (icast g)), .t 1, .k 5, .t 41] fr, hp⟩, Nat × Nat, fun g => (g, (sxOf x).len), fun (g, n) => g <= n, fun g => nsub 1001 g⟩),
 (9, [], fun fr hp => ⟨Nat, fun k => ⟨frI [.k 6, .s (.si .i64 (icast k)), .k 22, .t 24] fr, hp⟩, Nat × Nat, fun k => (k, (sxOf x).sz (nat (intOf (getL fr 5)))), fun (k, n) => k <= n, fun k => nsub 1001 k⟩)]
set_option maxRecDepth 100000 in
set_option maxHeartbeats 2000000 in
theorem sms_ok : FnSpec Tryz.prog 13 _ smsS := by
 refine FnSpec.of HH1_ok mixed (U := 0) (I := smsI) Tryz.func13 rfl (by kernel_rfl) rfl rfl (by decide +kernel) ?_
 rintro ⟨x, y, ⟨⟩⟩ hpre
 obtain ⟨x, rfl⟩ := sx_ex x
 obtain ⟨y, rfl⟩ := sx_ex y
 obtain ⟨he, h1, h2⟩ : x = y /\ x.len <= 1000 /\ ∀ i, i < x.len -> x.sz i <= 1000 := by have : sxOf (sxD x) = sxOf (sxD y) /\ (sxOf (sxD x)).len <= 1000 /\ ∀ i, i < (sxOf (sxD x)).len -> (sxOf (sxD x)).sz i <= 1000 := hpre; rwa [sxOf_D, sxOf_D] at this
 subst he
 unfold FnSat
 conv => arg 2; reduce
 simp [smsS, ElEq, getB, goneB, aliveB, and_assoc]
 exact ⟨⟨0, rfl, by omega⟩, fun g hg hlt => ⟨hlt, ⟨0, rfl, by omega⟩, fun k hk => ⟨hlt, fun hkl => ⟨hlt, hkl, hlt, hkl, by have := h2 g hlt; omega, by have := h2 g hlt; omega, k + 1, by omega, by omega, by have := h2 g hlt; omega⟩, fun hkg => ⟨by omega, by omega, g + 1, by omega, by omega, by omega⟩⟩⟩⟩
theorem sxOf_len (n : Nat) (f : Nat -> (Nat × (Nat -> StaD)) × Unit) : (sxOf (n, f)).len = n := by unfold sxOf Sx.len; rfl
theorem sxOf_sz (n : Nat) (f : Nat -> (Nat × (Nat -> StaD)) × Unit) (i : Nat) : (sxOf (n, f)).sz i = (f i).1.1 := by unfold sxOf Sx.sz; rfl
def smcS : Spec [.slice 1 [.int .i64], .slice 1 [.int .i64]] := ⟨fun ((n, x), (m, y), _) => n = m /\ n <= 1000 /\ ∀ k, k < n -> (x k).1 = (y k).1, fun _ => .sb true⟩
def smcI : DatL [.slice 1 [.int .i64], .slice 1 [.int .i64]] -> Anns := fun ((n, _), _, _) => [
 (4, [], fun fr hp => ⟨Nat, fun g => ⟨frI [.k 5, .s (.si .i64 (icast g)), .k 5, .t 15] fr, hp⟩, Nat × Nat, fun g => (g, n), fun (g, n) => g <= n, fun g => nsub 1001 g⟩)]
set_option maxRecDepth 100000 in
theorem smc_ok : FnSpec Tryz.prog 20 _ smcS := by
 refine FnSpec.of HH1_ok mixed (U := 0) (I := smcI) Tryz.func20 rfl (by kernel_rfl) rfl rfl (by decide +kernel) ?_
 rintro ⟨⟨n, x'⟩, ⟨m, y'⟩, ⟨⟩⟩ hpre
 obtain ⟨x, rfl⟩ : ∃ x : Nat -> Int, x' = fun k => (x k, ()) := ⟨fun k => (x' k).1, rfl⟩
 obtain ⟨y, rfl⟩ : ∃ y : Nat -> Int, y' = fun k => (y k, ()) := ⟨fun k => (y' k).1, rfl⟩
 obtain ⟨h1, h2, h3⟩ : n = m /\ n <= 1000 /\ ∀ k, k < n -> x k = y k := hpre
 subst h1
 unfold FnSat
 conv => arg 2; reduce
 simp [smcS, ElEq, getB, goneB, aliveB, and_assoc]
 exact ⟨⟨0, rfl, by omega⟩, fun g hg hlt => ⟨hlt, h3 g hlt, fun _ => ⟨by omega, by omega, g + 1, by omega, by omega, by omega⟩⟩⟩
noncomputable def HH2 : Sums := ⟨(5, mkSum _ grS) :: (20, mkSum _ smcS) :: (13, mkSum _ smsS) :: HH1.one, HH1.two, HH1.lo, HH1.eqs, HH1.its, HH1.imm⟩
theorem HH2_ok : SumsOK Tryz.prog HH2 := (((HH1_ok.cons Tryz.func13 (by kernel_rfl) (by kernel_rfl) sms_ok).cons Tryz.func20 (by kernel_rfl) (by kernel_rfl) smc_ok).cons Tryz.func5 (by kernel_rfl) (by kernel_rfl) gr_ok)
end
end Abs
end Go.Proofs.YtlacopdaibhkkaaGreat

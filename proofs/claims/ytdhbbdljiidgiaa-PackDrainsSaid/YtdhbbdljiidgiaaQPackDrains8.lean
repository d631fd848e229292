/- No losses with a lesser sum bring the levels within the width, and no schedule can have fewer ticks: for all levels (at most 4, up to 6, made of any numbers), widths and numbers; no condition. -/
import Derived.Test.YtdhbbdljiidgiaaQGbafc5dbd
import Derived.Test.YtdhbbdljiidgiaaRows
set_option linter.unusedSimpArgs false
set_option linter.unusedVariables false
namespace Go.Proofs.Ytdhbbdljiidgiaa
namespace Abs
open Go Go.RowKit
attribute [local irreducible] FnSat
noncomputable section
@[reducible] def drnSh : List Sh := [bySh, .int .u8, .int .u8, .int .u8]
@[irreducible] def drC (l : Nat -> Int) (lo : Int) (k : Nat) : Int := smC l lo 6 k
@[irreducible] def drV (ql : Nat) (l : Nat -> Int) (lo wd : Int) (k : Nat) : Int := lsV (smC l lo 6) (smN ql 4) (wd.tmod 7) k
def drnI : DatL drnSh -> Anns := fun ((ql, l), (lo : Int), (wd : Int), (mo : Int), _) => [
 (8, [], fun fr hp => ⟨Nat, fun g => ⟨frI [.k 16, .s (.si .i64 (sumN (drV ql (fun k => (l k).1) lo wd) g)), .s (.si .i64 (maxN (drV ql (fun k => (l k).1) lo wd) g)), .s (.si .i64 (icast g)), .k 36, .t 115] fr, hp⟩, Nat × Nat, fun g => (smN ql 4, g), fun (n, g) => g <= n, fun g => nsub 16 g⟩),
 (15, [], fun fr hp => ⟨Nat -> Int, fun x => ⟨frI [.k 20, .t 4, .k 72, .t 74] fr, setB hp 1 (.row 3 1 (.sym (smN ql 4)) (fun k => [.si .i64 (x k)]))⟩, Nat × (Nat -> Int), fun x => (smN ql 4, x), fun (n, x) => ∀ k, k < n -> 0 <= x k /\ x k <= 6, fun x => drN x (smN ql 4)⟩),
 (17, [], fun fr hp => ⟨Nat, fun g => ⟨frI [.k 20, .s (.si .i64 (sumN (rwX (getB hp 1)) g)), .s (.si .i64 (drLo (drC (fun k => (l k).1) lo) (rwX (getB hp 1)) g)), .s (.si .i64 (drHi (drC (fun k => (l k).1) lo) (rwX (getB hp 1)) g)), .s (.si .i64 (icast g)), .k 72, .t 34, .k 40] fr, hp⟩, Nat × Nat, fun g => (smN ql 4, g), fun (n, g) => g <= n, fun g => nsub 16 g⟩)]
end
set_option maxRecDepth 100000 in
set_option maxHeartbeats 2000000 in
theorem packDrains_law : LawFn Try.prog 4 [.slice 1 [.int .u8], .int .u8, .int .u8, .int .u8] := by
 refine FnSpec.of SN2_ok mixed (U := 0) (I := drnI) Try.func4 rfl (by kernel_rfl) rfl rfl (by decide +kernel) ?_
 rintro ⟨⟨ql, l'⟩, (lo : Int), (wd : Int), (mo : Int), ⟨⟩⟩ hv
 obtain ⟨l, rfl⟩ : ∃ l : Nat -> Int, l' = fun k => (l k, ()) := ⟨fun k => (l' k).1, rfl⟩
 unfold FnSat
 conv => arg 2; reduce
 simp [-Bool.forall_bool, truS, smlS, bleS, cbS, morF, encH, encB, ElEq, getB, goneB, aliveB, maxRow, and_assoc]
 have e1 : (fun k => l k) = l := rfl
 simp only [e1]
 have e4 : (fun k => smC l lo 6 k) = smC l lo 6 := rfl
 have hdV : drV ql l lo wd = lsV (smC l lo 6) (smN ql 4) (wd.tmod 7) := by funext k; unfold drV; rfl
 have hdC : drC l lo = smC l lo 6 := by funext k; unfold drC; rfl
 simp only [e4, hdV, hdC]
 have u8 : ∀ x : Int, InR .u8 x -> 0 <= x /\ x <= 255 := fun x h => by
  unfold InR at h
  simpa [IntKind.min, IntKind.max, IntKind.signed, IntKind.bits] using h
 have hl : ∀ k, k < ql -> 0 <= l k /\ l k <= 255 := fun k hk => u8 _ (hv.1.2 k hk).1
 have hlo := u8 lo hv.2.1
 have hwd := u8 wd hv.2.2.1
 have hmo := u8 mo hv.2.2.2.1
 have hqm : ql <= maxLen := hv.1.1
 have hn := smN_in (q := ql) (many := 4) (by omega)
 have hc : ∀ k, 0 <= smC l lo 6 k /\ smC l lo 6 k <= 6 := fun k => smC_in (by omega) k
 have hw : 0 <= wd.tmod 7 /\ wd.tmod 7 <= 6 := by rw [tmod_e hwd.1]; omega
 have hm : 1 <= mo.tmod 4 + 1 /\ mo.tmod 4 + 1 <= 4 := by rw [tmod_e hmo.1]; omega
 generalize smC l lo 6 = c at *
 generalize smN ql 4 = n at *
 generalize wd.tmod 7 = w at *
 generalize mo.tmod 4 + 1 = m at *
 have hbl : blE n c w m = 0 := blE_0.2 ⟨lvE_0.2 ⟨by omega, by omega, fun k _ => by have := hc k; omega⟩, by omega, by omega, by omega, by omega⟩
 rw [okN_0 hbl, okN_0 hbl, hbl]
 have K := losK hbl
 have eV : (fun k => lsV c n w k) = lsV c n w := rfl
 have r1 : rwLn (fun k => ((blL n c w m n 0 k, fun j => (blV n c w m k j, PUnit.unit)), PUnit.unit)) = blL n c w m n 0 := rwLn_mk _ _
 have r2 : rwVn (fun k => ((blL n c w m n 0 k, fun j => (blV n c w m k j, PUnit.unit)), PUnit.unit)) = blV n c w m := rwVn_mk _ _
 simp only [eV, r1, r2]
 rw [cb_own hbl]
 have hTe := lsT_eq c n w m
 have hKT := K.T
 have hKTb := K.Tb
 have hbest := fun x hx a b => dr_best (n := n) (c := c) (x := x) (w := w) hx (by omega) a b
 have hlc : ∀ k, k < n -> 0 <= lsV c n w k /\ lsV c n w k <= c k := fun k hk => by
  have a := K.V k hk
  have b := hc k
  refine ⟨a.1, ?_⟩
  rw [lsV_eq]
  obtain ⟨j, hj, e⟩ := minG_at (c := c) (n - 1)
  have d := hc j
  rw [e]; omega
 have hsm := K.sm
 generalize lsV c n w = V at *
 generalize blT n c w m = T at *
 generalize lsT c n w m = LT at *
 refine ⟨hqm, hlo.1, hlo.2, hl, by omega, by omega, by omega, by omega, by omega, by omega, trivial, trivial, fun _ _ => ⟨⟨0, by simp, by simp, rfl, by omega⟩, fun g hg => ⟨fun hlt => ?_, fun hge => ?_⟩⟩⟩
 ·have a := hlc g hlt
  have b := hsm g hg
  have d := hc g
  refine ⟨hlt, fun _ => hlt, fun _ => hlt, a.1, a.2, fun _ _ => ⟨hlt, by omega, by omega, hlt, by omega, by omega, g + 1, by rw [sumN_succ], by rw [maxN_succ], by omega, by omega, by omega⟩⟩
 obtain rfl : g = n := by omega
 refine ⟨by omega, ⟨fun _ => 0, fun j hj => rfl, fun k hk => show (0 : Int) <= 0 /\ (0 : Int) <= 6 by omega⟩, fun x hx => ?_⟩
 have ex : (fun k => x k) = x := rfl
 simp only [ex]
 refine ⟨⟨0, by simp, (drLo_0 c x).symm, (drHi_0 c x).symm, rfl, by omega⟩, fun i hi => ⟨fun hlt => ?_, fun hge2 => ?_⟩⟩
 ·have a := sumN_in (c := x) (M := 6) (n := i) fun k hk => by have := hx k (by omega); omega
  have b := hx i hlt
  have d := hc i
  exact ⟨hlt, by omega, by omega, hlt, by omega, by omega, hlt, by omega, by omega, by omega, by omega, i + 1, by rw [sumN_succ], by rw [drLo_s], by rw [drHi_s], by omega, by omega, by omega⟩
 obtain rfl : i = g := by omega
 have hb := hbest x (fun k hk => (hx k hk).1)
 have hlb := dr_in (n := i) (c := c) (x := x) (fun k _ => hc k) hx
 have hs := hsm i (Nat.le_refl _)
 have ht := tdiv_b (a := sumN V i + m - 1) (m := m) (M := 1700) (by omega) (by omega) (by omega)
 exact ⟨fun _ => by omega, hb, fun _ => ⟨by unfold maxLen; omega, fun k hk => by have := hx k hk; show (-1000 : Int) <= x k /\ x k <= 1000; omega, fun _ => ⟨by omega, by omega, by omega, by omega, by omega, by omega, by omega, by omega, trivial⟩, fun hmr => ⟨mrE i x 6, fun j hj => rfl, mr_in hx, mr_lt hmr hx⟩⟩⟩
end Abs
open Go.ChangeShapes Go.WideShapes Go.ChangeAt Go.RowKit
set_option maxRecDepth 100000 in
theorem packDrains_lifted (os : Os) (started : os.Started) (H : Type) (enc : TypeId × Value -> H) :
  ReturnsInHanded {} Try.checked os 4 .any (Rows.packDrainsSpec.pre6 enc Try.prog Try.f4 Rows.packDrainsRow.domain false) (Rows.packDrainsSpec.post enc Try.prog Try.f4 false true false false) := by
 refine returnsInHanded_of_change (C := Try.checked) (show ownKnob Try.prog.godebug = none by kernel_rfl) started (by kernel_rfl) Try.func4
  (ChangeSpec.witness6 (enc := enc) (C := Try.checked) false ⟨#[], #[.slice none 0 0, .int .u8 0, .int .u8 0, .int .u8 0], []⟩ 8 (by kernel_rfl) (by kernel_rfl) (by kernel_rfl) (by kernel_rfl)) ?_
 intro W base args ds gs before hval0 hW hcnd _
 have hW0 := hW
 obtain ⟨p, q, hA, hV, rfl, hfz, hnd⟩ := hW0
 refine (Abs.law_calls (enc' := enc) Abs.packDrains_law (fn := Try.f4) (d := 2) (by kernel_rfl) hA hval0).mono fun e W' hh => ?_
 obtain ⟨he, hb⟩ := hh
 subst he
 exact ⟨_, rfl, Abs.law_post (s := Rows.packDrainsSpec) (f := Try.f4) (by kernel_rfl) rfl (by kernel_rfl) (by kernel_rfl) rfl 4 (by kernel_rfl) (fun ds hl => by
  rcases ds with _ | ⟨d0, _ | ⟨d1, _ | ⟨d2, _ | ⟨d3, _ | ⟨d4, _⟩⟩⟩⟩⟩
  all_goals first | exact ⟨rfl, rfl, rfl⟩ | (exfalso; simp only [List.length_cons, List.length_nil] at hl; omega)) hW hb⟩
theorem packDrains_holds : Rows.PackDrainsSaid :=
 OpenClaim.holds_of_wide 4 Try.f4 rfl rfl rfl rfl rfl rfl rfl ⟨rfl, rfl, rfl, rfl, rfl⟩ rfl rfl rfl rfl rfl (by kernel_rfl) Try.func4 (by kernel_rfl)
  (of_decide_eq_true (by kernel_rfl)) (by unfold Func.isWrapper; first | (rw [if_pos (by decide +kernel)]; kernel_rfl) | (rw [if_neg (by decide +kernel)]; exact ⟨rfl, rfl⟩))
  (fun os started H enc _ => packDrains_lifted os started H enc)
end Go.Proofs.Ytdhbbdljiidgiaa

/- A plan that bleeds is the one of the definition, and so is what is said of any plan, for all levels (at most 20), widths and numbers, and plans of at most 120 ticks with 20 groups; no condition. -/
import Derived.Test.YtdhbbdljiidgiaaQGee3f4e69
import Derived.Test.YtdhbbdljiidgiaaRows
set_option linter.unusedSimpArgs false
set_option linter.unusedVariables false
namespace Go.Proofs.Ytdhbbdljiidgiaa
namespace Abs
open Go Go.RowKit
attribute [local irreducible] FnSat
noncomputable section
@[reducible] def blsSh : List Sh := [inSh, .int .i64, .int .i64, .agg drL]
def blsI : DatL blsSh -> Anns := fun ((n, c), (w : Int), (m : Int), ((q, L), (T, el), _), _) => [
 (4, [], fun fr hp => ⟨Nat, fun t => ⟨frI [.k 9, .s (.si .i64 (icast t)), .k 21, .t 92] fr, hp⟩, Nat × Nat, fun t => (T, t), fun (T, t) => t <= T, fun t => nsub T t⟩),
 (13, [], fun fr hp => ⟨Nat, fun t => ⟨frI [.k 14, .s (.si .i64 (icast t)), .k 65, .t 43] fr, hp⟩, Nat × Nat, fun t => (blT n (fun k => (c k).1) w m, t), fun (T, t) => t <= T, fun t => nsub (blT n (fun k => (c k).1) w m) t⟩)]
end
set_option maxRecDepth 100000 in
set_option maxHeartbeats 2000000 in
theorem packBleeds_law : LawFn Try.prog 8 [.slice 1 [.int .i64], .int .i64, .int .i64, .agg [.slice 1 [.int .i64], .slice 1 [.slice 1 [.int .i64]]]] := by
 refine FnSpec.of SO1_ok mixed (U := 0) (I := blsI) Try.func8 rfl (by kernel_rfl) rfl rfl (by decide +kernel) ?_
 rintro ⟨⟨n, c'⟩, (w : Int), (m : Int), ⟨⟨q, L'⟩, ⟨T, el⟩, ⟨⟩⟩, ⟨⟩⟩ hv
 obtain ⟨c, rfl⟩ : ∃ c : Nat -> Int, c' = fun k => (c k, ()) := ⟨fun k => (c' k).1, rfl⟩
 obtain ⟨L, rfl⟩ : ∃ L : Nat -> Int, L' = fun k => (L k, ()) := ⟨fun k => (L' k).1, rfl⟩
 obtain ⟨ln, v, rfl⟩ := rw_ex el
 unfold FnSat
 conv => arg 2; reduce
 simp [-Bool.forall_bool, truS, smS, bleS, cbS, ElEq, getB, goneB, aliveB, maxRow, and_assoc]
 have e1 : (fun k => c k) = c := rfl
 have e2 : (fun k => L k) = L := rfl
 have eV : (fun k => lsV c n w k) = lsV c n w := rfl
 have hqm : n <= maxLen := hv.1.1
 have r1 : rwLn (fun k => ((blL n c w m n 0 k, fun j => (blV n c w m k j, PUnit.unit)), PUnit.unit)) = blL n c w m n 0 := rwLn_mk _ _
 have r2 : rwVn (fun k => ((blL n c w m n 0 k, fun j => (blV n c w m k j, PUnit.unit)), PUnit.unit)) = blV n c w m := rwVn_mk _ _
 simp only [e1, e2, eV, r1, r2]
 intro a1 a2 a3
 refine ⟨⟨0, rfl, by omega⟩, fun g hg => ⟨fun hlt => ⟨hlt, fun _ => ⟨by omega, by omega, g + 1, by omega, by omega, by omega⟩⟩, fun hge => ⟨?_, smB_iff.2 ⟨rfl, fun _ _ => rfl⟩, fun _ => ⟨⟨0, rfl, by omega⟩, fun k hk => ⟨fun hlt => ?_, fun hge2 h => ?_⟩⟩⟩⟩⟩
 ·by_cases h : blE n c w m = 0
  ·rw [okN_0 h]; exact hqm
  ·rw [okN_e h]; unfold maxLen; omega
 ·by_cases h : blE n c w m = 0
  ·rw [okN_0 h] at hlt
   have K := losK h
   have hs := K.sm n (Nat.le_refl _)
   have hb : blL n c w m n 0 k <= 1700 := by
    have e : blL n c w m n 0 k = rwL (blT n c w m) (blQ n c w m n 0) k := by unfold blL; rfl
    have e2 : blQ n c w m n 0 = (sumN (lsV c n w) n).toNat + 0 := by unfold blQ; exact cumQ_eq ..
    rw [e, rwL_eq]
    have := Nat.div_le_self (blQ n c w m n 0) (blT n c w m)
    split <;> omega
   have hTb := K.Tb
   exact ⟨by rw [okN_0 h]; exact hlt, by unfold maxLen; omega, smB_iff.2 ⟨rfl, fun _ _ => rfl⟩, fun _ => ⟨by omega, by omega, k + 1, by omega, by omega, by omega⟩⟩
  ·rw [okN_e h] at hlt; omega
 ·rw [okN_0 h, okN_0 h]
  exact cb_own h
end Abs
open Go.ChangeShapes Go.WideShapes Go.ChangeAt Go.RowKit
set_option maxRecDepth 100000 in
theorem packBleeds_lifted (os : Os) (started : os.Started) (H : Type) (enc : TypeId × Value -> H) :
  ReturnsInHanded {} Try.checked os 8 .any (Rows.packBleedsSpec.pre6 enc Try.prog Try.f8 Rows.packBleedsRow.domain false) (Rows.packBleedsSpec.post enc Try.prog Try.f8 false true false false) := by
 refine returnsInHanded_of_change (C := Try.checked) (show ownKnob Try.prog.godebug = none by kernel_rfl) started (by kernel_rfl) Try.func8
  (ChangeSpec.witness6 (enc := enc) (C := Try.checked) false ⟨#[], #[.slice none 0 0, .int .i64 0, .int .i64 0, .agg #[.slice none 0 0, .slice none 0 0]], []⟩ 8 (by kernel_rfl) (by kernel_rfl) (by kernel_rfl) (by kernel_rfl)) ?_
 intro W base args ds gs before hval0 hW hcnd _
 have hW0 := hW
 obtain ⟨p, q, hA, hV, rfl, hfz, hnd⟩ := hW0
 refine (Abs.law_calls (enc' := enc) Abs.packBleeds_law (fn := Try.f8) (d := 4) (by kernel_rfl) hA hval0).mono fun e W' hh => ?_
 obtain ⟨he, hb⟩ := hh
 subst he
 exact ⟨_, rfl, Abs.law_post (s := Rows.packBleedsSpec) (f := Try.f8) (by kernel_rfl) rfl (by kernel_rfl) (by kernel_rfl) rfl 4 (by kernel_rfl) (fun ds hl => by
  rcases ds with _ | ⟨d0, _ | ⟨d1, _ | ⟨d2, _ | ⟨d3, _ | ⟨d4, _⟩⟩⟩⟩⟩
  all_goals first | exact ⟨rfl, rfl, rfl⟩ | (exfalso; simp only [List.length_cons, List.length_nil] at hl; omega)) hW hb⟩
theorem packBleeds_holds : Rows.PackBleedsSaid :=
 OpenClaim.holds_of_wide 8 Try.f8 rfl rfl rfl rfl rfl rfl rfl ⟨rfl, rfl, rfl, rfl, rfl⟩ rfl rfl rfl rfl rfl (by kernel_rfl) Try.func8 (by kernel_rfl)
  (of_decide_eq_true (by kernel_rfl)) (by unfold Func.isWrapper; first | (rw [if_pos (by decide +kernel)]; kernel_rfl) | (rw [if_neg (by decide +kernel)]; exact ⟨rfl, rfl⟩))
  (fun os started H enc _ => packBleeds_lifted os started H enc)
end Go.Proofs.Ytdhbbdljiidgiaa

/- For all levels and flows (at most 30) and ticks the levels behind flows, and behind some ticks of them, are those of the definitions, or refused; on the way each level is between what it was and what it is in the end, and the sum stays; no condition. -/
import Derived.Test.YtdhbbdljiidgiaaQG4322e9fa
import Derived.Test.YtdhbbdljiidgiaaRows
set_option linter.unusedSimpArgs false
set_option linter.unusedVariables false
namespace Go.Proofs.Ytdhbbdljiidgiaa
namespace Abs
open Go Go.RowKit
attribute [local irreducible] FnSat
noncomputable section
theorem bh_mid {c f : Nat -> Int} {m : Nat} {t : Int} (ht : 0 <= t) (k : Nat) : min (c k) (bhV c m f k) <= bhV c m (cutF f t) k /\ bhV c m (cutF f t) k <= max (c k) (bhV c m f k) := by
 have hc : ∀ k, flAt m (cutF f t) k = max (-t) (min (flAt m f k) t) := fun k => by
  by_cases hk : k < m
  ·rw [flAt_in hk, flAt_in hk, cutF_eq]
  ·rw [flAt_out (by omega), flAt_out (by omega)]; omega
 have hi : inAt m (cutF f t) k = max (-t) (min (inAt m f k) t) := by
  cases k with
  | zero => rw [inAt_zero, inAt_zero]; omega
  | succ k => rw [inAt_succ, inAt_succ, hc]
 rw [bhV_eq, bhV_eq, hc, hi]
 omega
theorem bh_sum {c f : Nat -> Int} {m : Nat} : ∀ {k : Nat}, sumN (bhV c m f) (k + 1) = sumN c (k + 1) - flAt m f k
 | 0 => by simp [bhV_eq]
 | k + 1 => by
   rw [sumN_succ, bh_sum (k := k), sumN_succ c (k + 1), bhV_eq, inAt_succ]; omega
def pflI : DatL [inSh, inSh, .int .i64] -> Anns := fun ((n, c), (m, f), (t : Int), _) => [
 (13, [], fun fr hp => ⟨Nat, fun g => ⟨frI [.k 15, .s (.si .i64 (sumN (fun k => (c k).1) g)), .s (.si .i64 (sumN (bhV (fun k => (c k).1) m (cutF (fun k => (f k).1) t)) g)), .s (.si .i64 (icast g)), .k 58, .t 54] fr, hp⟩, Nat × Nat, fun g => (n, g), fun (n, g) => g <= n, fun g => nsub n g⟩)]
end
set_option maxRecDepth 100000 in
theorem packFlows_law : LawFn Try.prog 6 [inSh, inSh, .int .i64] := by
 refine FnSpec.of SF5_ok mixed (U := 0) (I := pflI) Try.func6 rfl (by kernel_rfl) rfl rfl (by decide +kernel) ?_
 rintro ⟨⟨n, c'⟩, ⟨m, f'⟩, (t : Int), ⟨⟩⟩ hv
 obtain ⟨c, rfl⟩ : ∃ c : Nat -> Int, c' = fun k => (c k, ()) := ⟨fun k => (c' k).1, rfl⟩
 obtain ⟨f, rfl⟩ : ∃ f : Nat -> Int, f' = fun k => (f k, ()) := ⟨fun k => (f' k).1, rfl⟩
 unfold FnSat
 conv => arg 2; reduce
 simp [truS, fbS, faS, smS, ElEq, getB, goneB, aliveB, and_assoc]
 have e1 : (fun k => c k) = c := rfl
 have e2 : (fun k => f k) = f := rfl
 simp only [e1, e2]
 intro hn hm
 have ht9 : t <= 9223372036854775807 := by have h : InR .i64 t := hv.2.2.1; simp at h; omega
 have lN : ∀ e k, okN e k <= k := fun e k => by unfold okN; split <;> omega
 have l1 := lN (fhE n c m f) n
 have l2 := lN (afE n c m f t) n
 refine ⟨by omega, ht9, by omega, ht9, by unfold maxLen; omega, fun _ => by unfold maxLen; omega, smB_self _ _, smB_self _ _, fun _ _ h => ?_⟩
 obtain ⟨hf, ht⟩ := afE_0.1 h
 obtain ⟨hl, hfl⟩ := fhE_0.1 hf
 obtain ⟨q1, q2, q3⟩ := lvE_0.1 hl
 obtain ⟨p1, p2⟩ := flE_0.1 hfl
 rw [okN_0 h, okN_0 hf]
 have hb : ∀ k, k < n -> -4000 <= bhV c m (cutF f t) k /\ bhV c m (cutF f t) k <= 4100 := fun k hk => by
  have a := q3 k hk
  have hc : ∀ k, k < m -> -2000 <= cutF f t k /\ cutF f t k <= 2000 := fun k hk => cutF_in (p2 k hk) ht
  have b := inAt_in hc k
  have d : -2000 <= flAt m (cutF f t) k /\ flAt m (cutF f t) k <= 2000 := by
   by_cases hk : k < m
   ·rw [flAt_in hk]; exact hc k hk
   ·rw [flAt_out (by omega)]; omega
  rw [bhV_eq]; omega
 refine ⟨⟨0, by simp, by simp, rfl, by omega⟩, fun g hg => ⟨fun hlt => ?_, fun hge => ?_⟩⟩
 ·have hs := bh_mid (c := c) (f := f) (m := m) (t := t) ht g
  have a := sumN_in (c := c) (M := 100) (n := g) fun k hk => by have := q3 k (by omega); omega
  have b := sumN_in (c := bhV c m (cutF f t)) (M := 5000) (n := g) fun k hk => by have := hb k (by omega); omega
  have c1 := q3 g hlt
  have c2 := hb g hlt
  exact ⟨hlt, hlt, hlt, fun _ => hlt, fun _ => hlt, fun _ => hlt, hs.1, hs.2, fun _ _ => ⟨hlt, by omega, by omega, hlt, by omega, by omega, by omega, by omega, g + 1, by simp, by simp, by omega, by omega, by omega⟩⟩
 ·obtain rfl : g = n := by omega
  have := bh_sum (c := c) (f := cutF f t) (m := m) (k := g - 1)
  rw [show g - 1 + 1 = g by omega, flAt_out (by omega)] at this
  omega
end Abs
open Go.ChangeShapes Go.WideShapes Go.ChangeAt Go.RowKit
set_option maxRecDepth 100000 in
theorem packFlows_lifted (os : Os) (started : os.Started) (H : Type) (enc : TypeId × Value -> H) :
  ReturnsInHanded {} Try.checked os 6 .any (Rows.packFlowsSpec.pre6 enc Try.prog Try.f6 Rows.packFlowsRow.domain false) (Rows.packFlowsSpec.post enc Try.prog Try.f6 false true false false) := by
 refine returnsInHanded_of_change (C := Try.checked) (show ownKnob Try.prog.godebug = none by kernel_rfl) started (by kernel_rfl) Try.func6
  (ChangeSpec.witness6 (enc := enc) (C := Try.checked) false ⟨#[], #[.slice none 0 0, .slice none 0 0, .int .i64 0], []⟩ 8 (by kernel_rfl) (by kernel_rfl) (by kernel_rfl) (by kernel_rfl)) ?_
 intro W base args ds gs before hval0 hW hcnd _
 have hW0 := hW
 obtain ⟨p, q, hA, hV, rfl, hfz, hnd⟩ := hW0
 refine (Abs.law_calls (enc' := enc) Abs.packFlows_law (fn := Try.f6) (d := 2) (by kernel_rfl) hA hval0).mono fun e W' hh => ?_
 obtain ⟨he, hb⟩ := hh
 subst he
 exact ⟨_, rfl, Abs.law_post (s := Rows.packFlowsSpec) (f := Try.f6) (by kernel_rfl) rfl (by kernel_rfl) (by kernel_rfl) rfl 3 (by kernel_rfl) (fun ds hl => by
  rcases ds with _ | ⟨d0, _ | ⟨d1, _ | ⟨d2, _ | ⟨d3, _⟩⟩⟩⟩
  all_goals first | exact ⟨rfl, rfl, rfl⟩ | (exfalso; simp only [List.length_cons, List.length_nil] at hl; omega)) hW hb⟩
theorem packFlows_holds : Rows.PackFlowsSaid :=
 OpenClaim.holds_of_wide 6 Try.f6 rfl rfl rfl rfl rfl rfl rfl ⟨rfl, rfl, rfl, rfl, rfl⟩ rfl rfl rfl rfl rfl (by kernel_rfl) Try.func6 (by kernel_rfl)
  (of_decide_eq_true (by kernel_rfl)) (by unfold Func.isWrapper; first | (rw [if_pos (by decide +kernel)]; kernel_rfl) | (rw [if_neg (by decide +kernel)]; exact ⟨rfl, rfl⟩))
  (fun os started H enc _ => packFlows_lifted os started H enc)
end Go.Proofs.Ytdhbbdljiidgiaa

/- The examples of the chapter: what the program says of them; no condition. -/
import Derived.Test.YtdhbbdljiidgiaaQG0e950f0a
import Derived.Test.YtdhbbdljiidgiaaRows
set_option linter.unusedSimpArgs false
set_option linter.unusedVariables false
namespace Go.Proofs.Ytdhbbdljiidgiaa
namespace Abs
open Go Go.RowKit
attribute [local irreducible] FnSat decL
theorem ex3 {k : Nat} (h : k < 3) {P : Nat -> Prop} (a : P 0) (b : P 1) (c : P 2) : P k := by
 rcases (show k = 0 \/ k = 1 \/ k = 2 by omega) with rfl | rfl | rfl <;> assumption
set_option maxRecDepth 100000 in
theorem packKnown_law : LawFn Try.prog 11 [] := by
 refine FnSpec.of SH4_ok mixed (U := 0) (I := fun _ => []) Try.func11 rfl (by kernel_rfl) rfl rfl (by decide +kernel) ?_
 rintro ⟨⟩ hv
 unfold FnSat
 conv => arg 2; reduce
 simp [truS, fbS, fewS, qckS, bleS, smS, cfS, neS, nwS, ElEq, and_assoc]
 have k_c8 : ∀ k, k < 3 -> CanL [Sh.int IntKind.i64] (rowAt 1 [AV.li IntKind.i64 8, AV.li IntKind.i64 0, AV.li IntKind.i64 4] k) := canR fun k hk => by
  rcases (show k = 0 \/ k = 1 \/ k = 2 by omega) with rfl | rfl | rfl <;> exact ⟨_, rfl⟩
 have k_f4 : ∀ k, k < 2 -> CanL [Sh.int IntKind.i64] (rowAt 1 [AV.li IntKind.i64 4, AV.li IntKind.i64 0] k) := canR fun k hk => by
  rcases (show k = 0 \/ k = 1 by omega) with rfl | rfl <;> exact ⟨_, rfl⟩
 have k_c5 : ∀ k, k < 5 -> CanL [Sh.int IntKind.i64] (rowAt 1 [AV.li IntKind.i64 0, AV.li IntKind.i64 0, AV.li IntKind.i64 12, AV.li IntKind.i64 0, AV.li IntKind.i64 0] k) := canR fun k hk => by
  rcases (show k = 0 \/ k = 1 \/ k = 2 \/ k = 3 \/ k = 4 by omega) with rfl | rfl | rfl | rfl | rfl <;> exact ⟨_, rfl⟩
 have k_r4 : ∀ k, k < 3 -> CanL [Sh.int IntKind.i64] (rowAt 1 [AV.li IntKind.i64 4, AV.li IntKind.i64 4, AV.li IntKind.i64 4] k) := canR fun k hk => by
  rcases (show k = 0 \/ k = 1 \/ k = 2 by omega) with rfl | rfl | rfl <;> exact ⟨_, rfl⟩
 have k_r3 : ∀ k, k < 2 -> CanL [Sh.int IntKind.i64] (rowAt 1 [AV.li IntKind.i64 3, AV.li IntKind.i64 0] k) := canR fun k hk => by
  rcases (show k = 0 \/ k = 1 by omega) with rfl | rfl <;> exact ⟨_, rfl⟩
 have k_rq : ∀ k, k < 4 -> CanL [Sh.int IntKind.i64] (rowAt 1 [AV.li IntKind.i64 (-3), AV.li IntKind.i64 (-5), AV.li IntKind.i64 4, AV.li IntKind.i64 2] k) := canR fun k hk => by
  rcases (show k = 0 \/ k = 1 \/ k = 2 \/ k = 3 by omega) with rfl | rfl | rfl | rfl <;> exact ⟨_, rfl⟩
 have k_p1 : ∀ k, k < 3 -> CanL [Sh.int IntKind.i64] (rowAt 1 [AV.li IntKind.i64 1, AV.li IntKind.i64 0, AV.li IntKind.i64 0] k) := canR fun k hk => by
  rcases (show k = 0 \/ k = 1 \/ k = 2 by omega) with rfl | rfl | rfl <;> exact ⟨_, rfl⟩
 have k_p0 : ∀ k, k < 3 -> CanL [Sh.int IntKind.i64] (rowAt 1 [AV.li IntKind.i64 0, AV.li IntKind.i64 0, AV.li IntKind.i64 0] k) := canR fun k hk => by
  rcases (show k = 0 \/ k = 1 \/ k = 2 by omega) with rfl | rfl | rfl <;> exact ⟨_, rfl⟩
 have k_c12 : ∀ k, k < 3 -> CanL [Sh.int IntKind.i64] (rowAt 1 [AV.li IntKind.i64 12, AV.li IntKind.i64 0, AV.li IntKind.i64 0] k) := canR fun k hk => by
  rcases (show k = 0 \/ k = 1 \/ k = 2 by omega) with rfl | rfl | rfl <;> exact ⟨_, rfl⟩
 have k_c13 : ∀ k, k < 3 -> CanL [Sh.int IntKind.i64] (rowAt 1 [AV.li IntKind.i64 12, AV.li IntKind.i64 0, AV.li IntKind.i64 1] k) := canR fun k hk => by
  rcases (show k = 0 \/ k = 1 \/ k = 2 by omega) with rfl | rfl | rfl <;> exact ⟨_, rfl⟩
 have k_c9 : ∀ k, k < 3 -> CanL [Sh.int IntKind.i64] (rowAt 1 [AV.li IntKind.i64 9, AV.li IntKind.i64 0, AV.li IntKind.i64 0] k) := canR fun k hk => by
  rcases (show k = 0 \/ k = 1 \/ k = 2 by omega) with rfl | rfl | rfl <;> exact ⟨_, rfl⟩
 have k_c53 : ∀ k, k < 3 -> CanL [Sh.int IntKind.i64] (rowAt 1 [AV.li IntKind.i64 5, AV.li IntKind.i64 3, AV.li IntKind.i64 7] k) := canR fun k hk => by
  rcases (show k = 0 \/ k = 1 \/ k = 2 by omega) with rfl | rfl | rfl <;> exact ⟨_, rfl⟩
 have k_r1 : ∀ k, k < 3 -> CanL [Sh.int IntKind.i64] (rowAt 1 [AV.li IntKind.i64 1, AV.li IntKind.i64 0, AV.li IntKind.i64 3] k) := canR fun k hk => by
  rcases (show k = 0 \/ k = 1 \/ k = 2 by omega) with rfl | rfl | rfl <;> exact ⟨_, rfl⟩
 have k_r02 : ∀ k, k < 2 -> CanL [Sh.int IntKind.i64] (rowAt 1 [AV.li IntKind.i64 0, AV.li IntKind.i64 2] k) := canR fun k hk => by
  rcases (show k = 0 \/ k = 1 by omega) with rfl | rfl <;> exact ⟨_, rfl⟩
 have k_r2 : ∀ k, k < 1 -> CanL [Sh.int IntKind.i64] (rowAt 1 [AV.li IntKind.i64 2] k) := canR fun k hk => by
  obtain rfl : k = 0 := by omega
  exact ⟨_, rfl⟩
 simp only [(iff_true_intro k_c8), (iff_true_intro k_f4), (iff_true_intro k_c5), (iff_true_intro k_r4), (iff_true_intro k_r3), (iff_true_intro k_rq), (iff_true_intro k_p1), (iff_true_intro k_p0), (iff_true_intro k_c12), (iff_true_intro k_c13), (iff_true_intro k_c9), (iff_true_intro k_c53), (iff_true_intro k_r1), (iff_true_intro k_r02), (iff_true_intro k_r2), implies_true, true_and, and_true]
 generalize hc8 : (fun k => (decL [Sh.int IntKind.i64] (rowAt 1 [AV.li IntKind.i64 8, AV.li IntKind.i64 0, AV.li IntKind.i64 4] k)).1) = c8
 generalize hf4 : (fun k => (decL [Sh.int IntKind.i64] (rowAt 1 [AV.li IntKind.i64 4, AV.li IntKind.i64 0] k)).1) = f4
 generalize hc5 : (fun k => (decL [Sh.int IntKind.i64] (rowAt 1 [AV.li IntKind.i64 0, AV.li IntKind.i64 0, AV.li IntKind.i64 12, AV.li IntKind.i64 0, AV.li IntKind.i64 0] k)).1) = c5
 generalize hr4 : (fun k => (decL [Sh.int IntKind.i64] (rowAt 1 [AV.li IntKind.i64 4, AV.li IntKind.i64 4, AV.li IntKind.i64 4] k)).1) = r4
 generalize hr3 : (fun k => (decL [Sh.int IntKind.i64] (rowAt 1 [AV.li IntKind.i64 3, AV.li IntKind.i64 0] k)).1) = r3
 generalize hrq : (fun k => (decL [Sh.int IntKind.i64] (rowAt 1 [AV.li IntKind.i64 (-3), AV.li IntKind.i64 (-5), AV.li IntKind.i64 4, AV.li IntKind.i64 2] k)).1) = rq
 generalize hp1 : (fun k => (decL [Sh.int IntKind.i64] (rowAt 1 [AV.li IntKind.i64 1, AV.li IntKind.i64 0, AV.li IntKind.i64 0] k)).1) = p1
 generalize hp0 : (fun k => (decL [Sh.int IntKind.i64] (rowAt 1 [AV.li IntKind.i64 0, AV.li IntKind.i64 0, AV.li IntKind.i64 0] k)).1) = p0
 generalize hc12 : (fun k => (decL [Sh.int IntKind.i64] (rowAt 1 [AV.li IntKind.i64 12, AV.li IntKind.i64 0, AV.li IntKind.i64 0] k)).1) = c12
 generalize hc13 : (fun k => (decL [Sh.int IntKind.i64] (rowAt 1 [AV.li IntKind.i64 12, AV.li IntKind.i64 0, AV.li IntKind.i64 1] k)).1) = c13
 generalize hc9 : (fun k => (decL [Sh.int IntKind.i64] (rowAt 1 [AV.li IntKind.i64 9, AV.li IntKind.i64 0, AV.li IntKind.i64 0] k)).1) = c9
 generalize hc53 : (fun k => (decL [Sh.int IntKind.i64] (rowAt 1 [AV.li IntKind.i64 5, AV.li IntKind.i64 3, AV.li IntKind.i64 7] k)).1) = c53
 generalize hr1 : (fun k => (decL [Sh.int IntKind.i64] (rowAt 1 [AV.li IntKind.i64 1, AV.li IntKind.i64 0, AV.li IntKind.i64 3] k)).1) = r1
 generalize hr02 : (fun k => (decL [Sh.int IntKind.i64] (rowAt 1 [AV.li IntKind.i64 0, AV.li IntKind.i64 2] k)).1) = r02
 generalize hr2 : (fun k => (decL [Sh.int IntKind.i64] (rowAt 1 [AV.li IntKind.i64 2] k)).1) = r2
 have q0 : fhE 3 c8 2 f4 = 0 := by
  subst hc8 ; subst hf4 ; decide +kernel
 have q1 : fewE 3 c8 3 5 = 0 := by
  subst hc8 ; decide +kernel
 have q2 : fewE 5 c5 2 3 = 0 := by
  subst hc5 ; decide +kernel
 have q3 : fwF 3 c8 3 5 0 = 3 /\ fwF 3 c8 3 5 1 = 0 := by
  subst hc8 ; decide +kernel
 have q4 : qckT 5 c5 2 3 = 5 /\ qckL 5 c5 2 3 = 4 /\ qF 5 c5 2 3 5 0 = 2 /\ qO 5 c5 2 3 5 0 = 2 := by
  subst hc5 ; decide +kernel
 have q5 : cfE 3 c8 4 4 2 f4 4 3 p1 = 0 /\ cfE 3 c8 4 4 2 f4 4 3 p0 = 19 := by
  subst hc8 ; subst hf4 ; subst hp1 ; subst hp0 ; decide +kernel
 have q6 : neE 3 c12 4 4 0 0 = 0 /\ ndN 3 c12 4 4 0 0 = 8 /\ neE 3 c12 4 4 1 2 = 0 /\ ndN 3 c12 4 4 1 2 = 8 /\ neE 3 c12 4 4 0 2 = 0 /\ ndN 3 c12 4 4 0 2 = 0 := by
  subst hc12 ; decide +kernel
 have q7 : neE 3 c13 4 4 0 2 = 18 := by
  subst hc13 ; decide +kernel
 have q8 : nwE 3 c9 2 = 0 /\ nwL 3 c9 2 = 1 /\ nwH 3 c9 2 = 7 := by
  subst hc9 ; decide +kernel
 have q9 : blE 3 c53 1 2 = 0 /\ blT 3 c53 1 2 = 3 /\ blL 3 c53 1 2 3 0 0 = 2 /\ blL 3 c53 1 2 3 0 1 = 1 /\ blL 3 c53 1 2 3 0 2 = 1 := by
  subst hc53 ; decide +kernel
 have mp1 : ∀ k, k < 3 -> (-1000 : Int) <= p1 k /\ (p1 k : Int) <= 1000 := fun k hk => by
  subst hp1
  rcases (show k = 0 \/ k = 1 \/ k = 2 by omega) with rfl | rfl | rfl <;> decide +kernel
 have mp0 : ∀ k, k < 3 -> (-1000 : Int) <= p0 k /\ (p0 k : Int) <= 1000 := fun k hk => by
  subst hp0
  rcases (show k = 0 \/ k = 1 \/ k = 2 by omega) with rfl | rfl | rfl <;> decide +kernel
 simp only [q0, q1, q2, q3.1, q3.2, q4.1, q4.2.1, q4.2.2.1, q4.2.2.2, q5.1, q5.2, q6.1, q6.2.1, q6.2.2.1, q6.2.2.2.1, q6.2.2.2.2.1, q6.2.2.2.2.2, q7, q8.1, q8.2.1, q8.2.2, q9.1, q9.2.1, q9.2.2.1, q9.2.2.2.1, q9.2.2.2.2, okI_0 rfl, okN_0 rfl]
 simp [maxLen]
 refine ⟨?_, ?_, by decide, ?_, fun _ _ _ _ => ⟨fun k hk => by have := mp1 k hk; subst hp1; exact this, fun k hk => by have := mp0 k hk; subst hp0; exact this, fun _ _ => k_r2 0 (by omega), fun _ _ _ => k_r2 0 (by omega), ?_, ?_, ?_, ?_⟩⟩
 ·subst hc8 ; subst hf4 ; subst hr4 ; decide +kernel
 ·subst hc8 ; subst hr3 ; decide +kernel
 ·subst hc5 ; subst hrq ; decide +kernel
 ·subst hc53 ; subst hr1 ; decide +kernel
 ·subst hc53 ; subst hr02 ; decide +kernel
 ·subst hc53 ; subst hr2 ; decide +kernel
 ·subst hc53 ; subst hr2 ; decide +kernel
end Abs
open Go.ChangeShapes Go.WideShapes Go.ChangeAt Go.RowKit
set_option maxRecDepth 100000 in
theorem packKnown_lifted (os : Os) (started : os.Started) (H : Type) (enc : TypeId × Value -> H) :
  ReturnsInHanded {} Try.checked os 11 .any (Rows.packKnownSpec.pre6 enc Try.prog Try.f11 Rows.packKnownRow.domain false) (Rows.packKnownSpec.post enc Try.prog Try.f11 false true false false) := by
 refine returnsInHanded_of_change (C := Try.checked) (show ownKnob Try.prog.godebug = none by kernel_rfl) started (by kernel_rfl) Try.func11
  (ChangeSpec.witness6 (enc := enc) (C := Try.checked) false ⟨#[], #[], []⟩ 8 (by kernel_rfl) (by kernel_rfl) (by kernel_rfl) (by kernel_rfl)) ?_
 intro W base args ds gs before hval0 hW hcnd _
 have hW0 := hW
 obtain ⟨p, q, hA, hV, rfl, hfz, hnd⟩ := hW0
 refine (Abs.law_calls (enc' := enc) Abs.packKnown_law (fn := Try.f11) (d := 2) (by kernel_rfl) hA hval0).mono fun e W' hh => ?_
 obtain ⟨he, hb⟩ := hh
 subst he
 exact ⟨_, rfl, Abs.law_post (s := Rows.packKnownSpec) (f := Try.f11) (by kernel_rfl) rfl (by kernel_rfl) (by kernel_rfl) rfl 0 (by kernel_rfl) (fun ds hl => by
  rcases ds with _ | ⟨d0, _⟩
  all_goals first | exact ⟨rfl, rfl, rfl⟩ | (exfalso; simp only [List.length_cons, List.length_nil] at hl; omega)) hW hb⟩
theorem packKnown_holds : Rows.PackKnownSaid :=
 OpenClaim.holds_of_wide 11 Try.f11 rfl rfl rfl rfl rfl rfl rfl ⟨rfl, rfl, rfl, rfl, rfl⟩ rfl rfl rfl rfl rfl (by kernel_rfl) Try.func11 (by kernel_rfl)
  (of_decide_eq_true (by kernel_rfl)) (by unfold Func.isWrapper; first | (rw [if_pos (by decide +kernel)]; kernel_rfl) | (rw [if_neg (by decide +kernel)]; exact ⟨rfl, rfl⟩))
  (fun os started H enc _ => packKnown_lifted os started H enc)
end Go.Proofs.Ytdhbbdljiidgiaa

/- Whatever flows, prices and intervals are given: flows behind which the levels are in the band have at least as many moves as prices prove, and at least as many ticks as an interval needs, and no fewer moves than the plan; no condition. -/
import Derived.Test.YtdhbbdljiidgiaaQGbe3f5922
import Derived.Test.YtdhbbdljiidgiaaRows
set_option linter.unusedSimpArgs false
set_option linter.unusedVariables false
namespace Go.Proofs.Ytdhbbdljiidgiaa
namespace Abs
open Go Go.RowKit
attribute [local irreducible] FnSat
noncomputable section
@[reducible] def b8Sh : Sh := .slice 1 [.int .i8]
@[reducible] def bnSh : List Sh := [bySh, b8Sh, b8Sh, .int .u8, .int .u8, .int .u8, .int .u8]
@[irreducible] def bnF (q : Nat) (f : Nat -> Int) (k : Nat) : Int := flAt q f k
@[irreducible] def bnFg (q : Nat) (f : Nat -> Int) (g k : Nat) : Int := filT (flAt q f) g k
@[irreducible] def bnP (q : Nat) (p : Nat -> Int) (g k : Nat) : Int := filT (bpP q p) (g + 1) k
@[irreducible] def bnX (l : Nat -> Int) (lo : Int) (n q : Nat) (f : Nat -> Int) (k : Nat) : Int := bhV (smC l lo 100) (n - 1) (bnF q f) k
@[irreducible] def bnB (lo wide : Int) : Int := min 100 (smZ lo 100 wide + wide)
def bnI : DatL bnSh -> Anns := fun ((ql, l), (qf, f), (qp, p), (lo : Int), (wide : Int), _) => [
 (6, [], fun fr hp => ⟨Nat, fun g => ⟨frI [.k 20, .s (.si .i64 (icast g)), .k 28, .t 150] fr, setB hp 0 (.row 3 1 (.sym (nsub (smN ql 16) 1)) (fun k => [.si .i64 (bnFg qf (fun k => (f k).1) g k)]))⟩, Nat × Nat × Nat, fun g => (smN ql 16, qf, g), fun (n, q, g) => g + 1 <= n /\ g <= q, fun g => nsub 16 g⟩),
 (13, [], fun fr hp => ⟨Nat, fun g => ⟨frI [.k 23, .s (.si .i64 (icast g)), .k 59, .t 116] fr, hp⟩, Nat × Nat × Int × Int × (Nat -> Int), fun g => (smN ql 16, g, smA lo 100, bnB lo wide, bnX (fun k => (l k).1) lo (smN ql 16) qf (fun k => (f k).1)), fun (n, g, (a : Int), (b : Int), x) => g <= n /\ ∀ k, k < g -> a <= x k /\ x k <= b, fun g => nsub 17 g⟩),
 (19, [], fun fr hp => ⟨Nat, fun g => ⟨frI [.k 25, .s (.si .i64 (icast (nadd g 1))), .k 79, .t 94] fr, setB hp 1 (.row 3 1 (.sym (smN ql 16)) (fun k => [.si .i64 (bnP qp (fun k => (p k).1) g k)]))⟩, Nat × Nat, fun g => (smN ql 16, g), fun (n, g) => g + 1 <= n, fun g => nsub 17 g⟩)]
end
set_option maxRecDepth 100000 in
set_option maxHeartbeats 2000000 in
theorem packBounds_law : LawFn Try.prog 7 [.slice 1 [.int .u8], .slice 1 [.int .i8], .slice 1 [.int .i8], .int .u8, .int .u8, .int .u8, .int .u8] := by
 refine FnSpec.of SK1_ok mixed (U := 0) (I := bnI) Try.func7 rfl (by kernel_rfl) rfl rfl (by decide +kernel) ?_
 rintro ⟨⟨ql, l'⟩, ⟨qf, f'⟩, ⟨qp, p'⟩, (lo : Int), (wide : Int), (a : Int), (b : Int), ⟨⟩⟩ hv
 obtain ⟨l, rfl⟩ : ∃ l : Nat -> Int, l' = fun k => (l k, ()) := ⟨fun k => (l' k).1, rfl⟩
 obtain ⟨f, rfl⟩ : ∃ f : Nat -> Int, f' = fun k => (f k, ()) := ⟨fun k => (f' k).1, rfl⟩
 obtain ⟨p, rfl⟩ : ∃ p : Nat -> Int, p' = fun k => (p k, ()) := ⟨fun k => (p' k).1, rfl⟩
 unfold FnSat
 conv => arg 2; reduce
 simp [truS, smlS, fbS, neS, fewS, rpvS, rmvS, rtkS, ElEq, getB, goneB, aliveB, maxRow, and_assoc]
 have e1 : (fun k => l k) = l := rfl
 have e2 : (fun k => f k) = f := rfl
 have e3 : (fun k => p k) = p := rfl
 simp only [e1, e2, e3]
 have e4 : (fun k => smC l lo 100 k) = smC l lo 100 := rfl
 have hX : bnX l lo (smN ql 16) qf f = bhV (smC l lo 100) (smN ql 16 - 1) (bnF qf f) := by funext k; unfold bnX; rfl
 have hB : bnB lo wide = min 100 (smZ lo 100 wide + wide) := by unfold bnB; rfl
 simp only [e4, hX]
 have u8 : ∀ x : Int, InR .u8 x -> 0 <= x /\ x <= 255 := fun x h => by
  unfold InR at h
  simpa [IntKind.min, IntKind.max, IntKind.signed, IntKind.bits] using h
 have i8 : ∀ x : Int, InR .i8 x -> -128 <= x /\ x <= 127 := fun x h => by
  unfold InR at h
  simpa [IntKind.min, IntKind.max, IntKind.signed, IntKind.bits] using h
 have hl : ∀ k, k < ql -> 0 <= l k /\ l k <= 255 := fun k hk => u8 _ (hv.1.2 k hk).1
 have hf : ∀ k, k < qf -> -128 <= f k /\ f k <= 127 := fun k hk => i8 _ (hv.2.1.2 k hk).1
 have hp : ∀ k, k < qp -> -128 <= p k /\ p k <= 127 := fun k hk => i8 _ (hv.2.2.1.2 k hk).1
 have hlo := u8 lo hv.2.2.2.1
 have hwd := u8 wide hv.2.2.2.2.1
 have ha := u8 a hv.2.2.2.2.2.1
 have hb := u8 b hv.2.2.2.2.2.2.1
 have hqm : ql <= maxLen := hv.1.1
 have hn := smN_in (q := ql) (many := 16) (by omega)
 have hc : ∀ k, 0 <= smC l lo 100 k /\ smC l lo 100 k <= 100 := fun k => smC_in (by omega) k
 have hA := smA_in (lo := lo) (most := 100) (by omega)
 have hZ := smZ_eq lo 100 wide
 rw [<- hB]
 generalize smC l lo 100 = c at *
 generalize smN ql 16 = n at *
 have hlv : lvE n c = 0 := lvE_0.2 ⟨by omega, by omega, fun k _ => hc k⟩
 have w3 : 0 <= wide % 3 /\ wide % 3 <= 2 := by omega
 have hbd : bdE n c (smA lo 100) (bnB lo wide) = 0 := bdE_0.2 ⟨hlv, by omega, by omega, by omega⟩
 have hFb : ∀ g k, -128 <= bnFg qf f g k /\ bnFg qf f g k <= 127 := fun g k => by
  unfold bnFg filT
  split
  ·by_cases h : k < qf
   ·rw [flAt_in h]; exact hf k h
   ·rw [flAt_out (by omega)]; omega
  ·omega
 have hF1 : ∀ g j, g < qf -> (if j = g then f g else bnFg qf f g j) = bnFg qf f (g + 1) j := fun g j hg => by
  unfold bnFg
  by_cases e : j = g
  ·subst e; rw [if_pos rfl, filT_in (by omega), flAt_in hg]
  ·rw [if_neg e]
   by_cases h : j < g
   ·rw [filT_in h, filT_in (by omega)]
   ·rw [filT_out (by omega), filT_out (by omega)]
 refine ⟨hqm, hlo.1, hlo.2, hwd.1, hwd.2, hl, by omega, by omega, by omega, by omega, by omega, by omega, by omega, by omega, ⟨0, rfl, fun j _ => by unfold bnFg; rw [filT_zero], by omega, by omega⟩, fun g hg hgq => ⟨by omega, by omega, fun h1 h2 => ?_, fun hge => ?_⟩⟩
 ·have := hf g h2
  exact ⟨h2, by omega, by omega, by omega, by omega, by omega, g + 1, by omega, fun j _ => hF1 g j h2, by omega, by omega, by omega⟩
 have hFX : ∀ k, bhV c (n - 1) (bnF qf f) k = bhV c (n - 1) (bnFg qf f g) k := fun k => bhV_congr fun i hi => by
  unfold bnF bnFg
  by_cases h : i < g
  ·rw [filT_in h]
  ·rw [filT_out (by omega), flAt_out (by have := hge; omega)]
 have eF : (fun k => bnFg qf f g k) = bnFg qf f g := rfl
 simp only [eF, hFX]
 have hFb := hFb g
 generalize bnFg qf f g = F at *
 have hfl : flE n (n - 1) F = 0 := flE_0.2 ⟨by omega, fun k _ => by have := hFb k; omega⟩
 have hfh : fhE n c (n - 1) F = 0 := fhE_0.2 ⟨hlv, hfl⟩
 rw [okN_0 hfh]
 refine ⟨by omega, hfh, rfl, fun _ _ => ⟨⟨0, rfl, by omega, fun k hk => by omega⟩, fun k hk hall => ⟨fun hlt => ⟨hlt, fun _ => hlt, fun x1 x2 => ⟨by omega, by omega, k + 1, by omega, by omega, fun j hj => ?_, by omega⟩⟩, fun hge2 => ?_⟩⟩⟩
 ·by_cases e : j = k
  ·subst e; exact ⟨x1, x2⟩
  ·exact hall j (by omega)
 obtain rfl : k = n := by omega
 have hfit : fitB k c (k - 1) F (smA lo 100) (bnB lo wide) = true := fitB_t.2 hall
 have hPv : ∀ g j, bnP qp p g j = filT (bpP qp p) (g + 1) j := fun g j => by unfold bnP; rfl
 have hPb : ∀ g j, -16 <= bnP qp p g j /\ bnP qp p g j <= 16 := fun g j => by
  rw [hPv]
  by_cases h : j < g + 1
  ·rw [filT_in h]; exact bpP_in ..
  ·rw [filT_out (by omega)]; omega
 refine ⟨by omega, ⟨0, by omega, fun j _ => ?_, by omega⟩, fun g hg => ⟨fun hlt => ⟨by omega, by omega, by omega, by omega, fun hq => ?_, fun hq => ?_⟩, fun hge3 => ?_⟩⟩
 ·rw [hPv]
  cases j with
  | zero => rw [filT_in (by omega), bpP_0]
  | succ j => rw [filT_out (by omega)]
 ·have hpv := hp (g + 1) (by omega)
  have ht := tmod2 (p (g + 1))
  have hb0 := hPb g g
  refine ⟨by omega, by omega, by omega, by omega, by omega, by omega, by omega, by omega, by omega, by omega, by omega, by omega, g + 1, by omega, fun j hj => ?_, by omega, by omega⟩
  rw [hPv, hPv, hPv]
  by_cases e : j = g + 1
  ·subst e; rw [if_pos rfl, filT_in (by omega), filT_in (by omega), bpP_y (by omega)]
  ·rw [if_neg e, if_neg e]
   by_cases h : j < g + 1
   ·rw [filT_in h, filT_in (by omega)]
   ·rw [filT_out (by omega), filT_out (by omega)]
 ·refine ⟨by omega, by omega, g + 1, by omega, fun j hj => ?_, by omega, by omega⟩
  rw [hPv, hPv, hPv]
  by_cases e : j = g + 1
  ·subst e; rw [if_pos rfl, filT_in (by omega), filT_in (by omega), bpP_n (by omega)]
  ·rw [if_neg e]
   by_cases h : j < g + 1
   ·rw [filT_in h, filT_in (by omega)]
   ·rw [filT_out (by omega), filT_out (by omega)]
 obtain rfl : k = g + 1 := by omega
 have eP : (fun j => bnP qp p g j) = bnP qp p g := rfl
 simp only [eP]
 have hPs : ∀ i, i + 1 < g + 1 -> -1 <= bnP qp p g (i + 1) - bnP qp p g i /\ bnP qp p g (i + 1) - bnP qp p g i <= 1 := fun i hi => by
  rw [hPv, hPv, filT_in (by omega), filT_in (by omega)]; exact bpP_d ..
 have hweak := weak_fit (p := bnP qp p g) (by omega) hfit hPs
 have hPb := hPb g
 generalize bnP qp p g = P at *
 have hA0 := Int.emod_nonneg a (show ((g + 1 : Nat) : Int) ≠ 0 by omega)
 have hA1 := Int.emod_lt_of_pos a (show (0 : Int) < ((g + 1 : Nat) : Int) by omega)
 rw [tmod_e ha.1]
 generalize a % ((g + 1 : Nat) : Int) = A at *
 have hB0 := Int.emod_nonneg b (show ((g + 1 : Nat) : Int) - A ≠ 0 by omega)
 have hB1 := Int.emod_lt_of_pos b (show (0 : Int) < ((g + 1 : Nat) : Int) - A by omega)
 rw [tmod_e hb.1]
 generalize b % (((g + 1 : Nat) : Int) - A) = B at *
 obtain ⟨x, rfl⟩ := Int.eq_ofNat_of_zero_le hA0
 obtain ⟨y, rfl⟩ := Int.eq_ofNat_of_zero_le hB0
 have hnd := fit_nd hfit (a := x) (b := x + y) (by omega) (by omega)
 have exy : ((x : Int) + y).toNat = x + y := by omega
 have hne : neE (g + 1) c (smA lo 100) (bnB lo wide) x ((x : Int) + y) = 0 := neE_ok hbd ⟨by omega, by omega, by omega⟩ (by rw [exy, Int.toNat_natCast]; exact hnd.2)
 have hpos : posB (g + 1) c (smA lo 100) (bnB lo wide) = true := (pos_whole (by omega)).2 (fit_nd hfit (a := 0) (b := g + 1 - 1) (by omega) (by omega)).2
 have hfew := fewE_ok hbd hpos
 have hbest := (fBest hfew).le F hfit
 rw [hne, hfew, okI_0 rfl, okI_0 rfl, exy, Int.toNat_natCast]
 have hF2 : ∀ k, k < g + 1 - 1 -> -2000 <= F k /\ F k <= 2000 := fun k _ => by have := hFb k; omega
 exact ⟨by omega, by omega, by omega, by omega, by omega, by omega, by omega, by omega, by omega, by omega, fun _ _ => ⟨by omega, by omega, by omega, by omega, by omega, fun k _ => hc k, fun k _ => hPb k⟩, fun _ _ => ⟨by omega, hF2⟩, fun _ _ _ => ⟨by omega, hF2⟩, fun _ _ _ _ => ⟨by omega, hF2⟩, rfl, rfl, hweak, hnd.1, hbest⟩
end Abs
open Go.ChangeShapes Go.WideShapes Go.ChangeAt Go.RowKit
set_option maxRecDepth 100000 in
theorem packBounds_lifted (os : Os) (started : os.Started) (H : Type) (enc : TypeId × Value -> H) :
  ReturnsInHanded {} Try.checked os 7 .any (Rows.packBoundsSpec.pre6 enc Try.prog Try.f7 Rows.packBoundsRow.domain false) (Rows.packBoundsSpec.post enc Try.prog Try.f7 false true false false) := by
 refine returnsInHanded_of_change (C := Try.checked) (show ownKnob Try.prog.godebug = none by kernel_rfl) started (by kernel_rfl) Try.func7
  (ChangeSpec.witness6 (enc := enc) (C := Try.checked) false ⟨#[], #[.slice none 0 0, .slice none 0 0, .slice none 0 0, .int .u8 0, .int .u8 0, .int .u8 0, .int .u8 0], []⟩ 8 (by kernel_rfl) (by kernel_rfl) (by kernel_rfl) (by kernel_rfl)) ?_
 intro W base args ds gs before hval0 hW hcnd _
 have hW0 := hW
 obtain ⟨p, q, hA, hV, rfl, hfz, hnd⟩ := hW0
 refine (Abs.law_calls (enc' := enc) Abs.packBounds_law (fn := Try.f7) (d := 2) (by kernel_rfl) hA hval0).mono fun e W' hh => ?_
 obtain ⟨he, hb⟩ := hh
 subst he
 exact ⟨_, rfl, Abs.law_post (s := Rows.packBoundsSpec) (f := Try.f7) (by kernel_rfl) rfl (by kernel_rfl) (by kernel_rfl) rfl 7 (by kernel_rfl) (fun ds hl => by
  rcases ds with _ | ⟨d0, _ | ⟨d1, _ | ⟨d2, _ | ⟨d3, _ | ⟨d4, _ | ⟨d5, _ | ⟨d6, _ | ⟨d7, _⟩⟩⟩⟩⟩⟩⟩⟩
  all_goals first | exact ⟨rfl, rfl, rfl⟩ | (exfalso; simp only [List.length_cons, List.length_nil] at hl; omega)) hW hb⟩
theorem packBounds_holds : Rows.PackBoundsSaid :=
 OpenClaim.holds_of_wide 7 Try.f7 rfl rfl rfl rfl rfl rfl rfl ⟨rfl, rfl, rfl, rfl, rfl⟩ rfl rfl rfl rfl rfl (by kernel_rfl) Try.func7 (by kernel_rfl)
  (of_decide_eq_true (by kernel_rfl)) (by unfold Func.isWrapper; first | (rw [if_pos (by decide +kernel)]; kernel_rfl) | (rw [if_neg (by decide +kernel)]; exact ⟨rfl, rfl⟩))
  (fun os started H enc _ => packBounds_lifted os started H enc)
end Go.Proofs.Ytdhbbdljiidgiaa

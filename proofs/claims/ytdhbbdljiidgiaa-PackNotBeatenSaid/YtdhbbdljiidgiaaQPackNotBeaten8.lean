/- No flows of at most 4 groups with levels up to 4 beat the plans with the fewest moves and ticks, the plans are the first of the best, and where there is none there are no flows; for all levels and bands, made of any numbers; no condition. -/
import Derived.Test.YtdhbbdljiidgiaaQG8d9c95f2
import Derived.Test.YtdhbbdljiidgiaaRows
set_option linter.unusedSimpArgs false
set_option linter.unusedVariables false
namespace Go.Proofs.Ytdhbbdljiidgiaa
namespace Abs
open Go Go.RowKit
attribute [local irreducible] FnSat
noncomputable section
@[reducible] def nbSh : List Sh := [bySh, .int .u8, .int .u8]
@[irreducible] def nbC (l : Nat -> Int) (lo : Int) (k : Nat) : Int := smC l lo 4 k
@[irreducible] def nbG (m : Int) (g k : Nat) : Int := if k < g then -m else 0
theorem nbG_in {m : Int} {g k : Nat} (h : k < g) : nbG m g k = -m := by unfold nbG; rw [if_pos h]
theorem nbG_out {m : Int} {g k : Nat} (h : ¬ k < g) : nbG m g k = 0 := by unfold nbG; rw [if_neg h]
@[irreducible] def nbQ (n : Nat) (c : Nat -> Int) (lo hi m : Int) (x : Nat -> Int) (b : Bool) : Prop := (∀ k, k < n - 1 -> -m <= x k /\ x k <= m) /\ (b = true -> fewE n c lo hi = 0) /\ (b = true \/ (fewE n c lo hi = 0 -> ahd m (fwF n c lo hi) x (n - 1)))
theorem nxM_lt16 {m M : Int} {B : Nat} (hB : (2 * M).toNat < B) (h0 : 0 <= m) (hM : m <= M) : ∀ {n p : Nat} {x y : Nat -> Int}, p < n -> (∀ k, k < p -> x k = m) -> x p < m -> (∀ k, k < p -> y k = -m) -> y p = x p + 1 -> (∀ k, p < k -> k < n -> y k = x k) -> nxM M B y n < nxM M B x n
 | 0, p, _, _, hp, _, _, _, _, _ => by omega
 | n + 1, 0, x, y, _, _, h2, _, h4, h5 => by
   rw [nxM, nxM, nxM_cg (n := n) (x := fun k => x (k + 1)) (y := fun k => y (k + 1)) fun k hk => h5 (k + 1) (by omega) (by omega)]
   omega
 | n + 1, p + 1, x, y, hp, h1, h2, h3, h4, h5 => by
   have ih := nxM_lt16 hB h0 hM (n := n) (p := p) (x := fun k => x (k + 1)) (y := fun k => y (k + 1)) (by omega) (fun k hk => h1 (k + 1) (by omega)) h2 (fun k hk => h3 (k + 1) (by omega)) h4 (fun k a b => h5 (k + 1) (by omega) (by omega))
   have a := h1 0 (by omega)
   have b := h3 0 (by omega)
   rw [nxM, nxM, a, b]
   have e : B * (nxM M B (fun k => y (k + 1)) n + 1) <= B * nxM M B (fun k => x (k + 1)) n := Nat.mul_le_mul_left _ ih
   rw [Nat.mul_add, Nat.mul_one] at e
   omega
theorem nx_lt16 {n : Nat} {x : Nat -> Int} {m : Int} (hm : 0 <= m) (h16 : m <= 16) (h : mrB n x m = true) (hx : ∀ k, k < n -> -m <= x k /\ x k <= m) : nxN 16 (nxE n x m) n < nxN 16 x n := by
 obtain ⟨h1, h2, h3⟩ := mrF_is h
 unfold nxN
 refine nxM_lt16 (by omega) hm h16 h1 (fun k hk => by have := h2 k hk; have := hx k (by omega); omega) h3 (fun k hk => ?_) ?_ fun k a b => ?_
 ·unfold nxE; rw [if_pos hk]
 ·unfold nxE; rw [if_neg (by omega), if_pos rfl]
 ·unfold nxE; rw [if_neg (by omega), if_neg (by omega)]
def nbI : DatL nbSh -> Anns := fun ((ql, l), (lo : Int), (wide : Int), _) => [
 (6, [], fun fr hp => ⟨Nat, fun g => ⟨frI [.k 14, .s (.si .i64 (sumN (nbC (fun k => (l k).1) lo) g)), .s (.si .i64 (icast g)), .k 28, .t 112] fr, hp⟩, Nat × Nat, fun g => (smN ql 4, g), fun (n, g) => g <= n, fun g => nsub 16 g⟩),
 (12, [], fun fr hp => ⟨Nat, fun g => ⟨frI [.k 18, .s (.si .i64 (icast g)), .k 45, .t 92] fr, setB hp 2 (.row 3 1 (.sym (nsub (smN ql 4) 1)) (fun k => [.si .i64 (nbG (intOf (getL fr 16)) g k)]))⟩, Nat × Nat, fun g => (smN ql 4, g), fun (n, g) => g + 1 <= n, fun g => nsub 16 g⟩),
 (16, [], fun fr hp => ⟨(Nat -> Int) × Bool, fun g => ⟨frI [.k 19, .s (.sb g.2), .t 2, .k 53, .t 81] fr, setB hp 2 (.row 3 1 (.sym (nsub (smN ql 4) 1)) (fun k => [.si .i64 (g.1 k)]))⟩, Nat × (Nat -> Int) × Int × Int × Int × (Nat -> Int) × Bool, fun g => (smN ql 4, nbC (fun k => (l k).1) lo, smA lo 4, smZ lo 4 wide, intOf (getL fr 16), g.1, g.2), fun (n, c, (a : Int), (b : Int), (m : Int), x, f) => nbQ n c a b m x f, fun g => nxN 16 g.1 (nsub (smN ql 4) 1)⟩)]
end
set_option maxRecDepth 100000 in
set_option maxHeartbeats 2000000 in
theorem packNotBeaten_law : LawFn Try.prog 3 [.slice 1 [.int .u8], .int .u8, .int .u8] := by
 refine FnSpec.of SP3_ok mixed (U := 0) (I := nbI) Try.func3 rfl (by kernel_rfl) rfl rfl (by decide +kernel) ?_
 rintro ⟨⟨ql, l'⟩, (lo : Int), (wide : Int), ⟨⟩⟩ hv
 obtain ⟨l, rfl⟩ : ∃ l : Nat -> Int, l' = fun k => (l k, ()) := ⟨fun k => (l' k).1, rfl⟩
 unfold FnSat
 conv => arg 2; reduce
 simp [-Bool.forall_bool, truS, smlS, fewS, qckS, rmvS, rtkS, bfS, fiL, nxF, cfS, cqS, encH, encB, ElEq, getB, goneB, aliveB, maxRow, and_assoc]
 have e1 : (fun k => l k) = l := rfl
 simp only [e1]
 have e4 : (fun k => smC l lo 4 k) = smC l lo 4 := rfl
 have hdC : nbC l lo = smC l lo 4 := by funext k; unfold nbC; rfl
 simp only [e4, hdC]
 have u8 : ∀ x : Int, InR .u8 x -> 0 <= x /\ x <= 255 := fun x h => by
  unfold InR at h
  simpa [IntKind.min, IntKind.max, IntKind.signed, IntKind.bits] using h
 have hl : ∀ k, k < ql -> 0 <= l k /\ l k <= 255 := fun k hk => u8 _ (hv.1.2 k hk).1
 have hlo := u8 lo hv.2.1
 have hwd := u8 wide hv.2.2.1
 have hqm : ql <= maxLen := hv.1.1
 have hn := smN_in (q := ql) (many := 4) (by omega)
 have hc : ∀ k, 0 <= smC l lo 4 k /\ smC l lo 4 k <= 4 := fun k => smC_in (by omega) k
 have hA := smA_in (lo := lo) (most := 4) (by omega)
 have hZ := smZ_eq lo 4 wide
 generalize smC l lo 4 = c at *
 generalize smN ql 4 = n at *
 generalize smA lo 4 = a at *
 generalize smZ lo 4 wide = b at *
 have hb : a <= b /\ b <= 4 := by omega
 have hbd : bdE n c a b = 0 := bdE_0.2 ⟨lvE_0.2 ⟨by omega, by omega, fun k _ => by have := hc k; omega⟩, by omega, by omega, by omega⟩
 have hsum := fun g (hg : g <= n) => sumN_in (c := c) (M := 4) (n := g) fun k _ => by have := hc k; omega
 refine ⟨hqm, hlo.1, hlo.2, hwd.1, hwd.2, hl, ⟨0, by simp, rfl, by omega⟩, fun g hg => ⟨fun hlt => ?_, fun hge => ?_⟩⟩
 ·have h1 := hsum g (by omega)
  have h2 := hc g
  exact ⟨hlt, by omega, by omega, by omega, by omega, g + 1, by rw [sumN_succ], by omega, by omega, by omega⟩
 obtain rfl : g = n := by omega
 have hm0 := hsum g (Nat.le_refl _)
 have hmd : sumN c g <= 16 := by omega
 have hmn : max (sumN c g) (4 * b) <= 16 /\ 0 <= max (sumN c g) (4 * b) := by omega
 have hfm := fun (h : fewE g c a b = 0) k hk => fwF_most h (by omega) (k := k) hk
 generalize max (sumN c g) (4 * b) = m at *
 refine ⟨by omega, by omega, by omega, by omega, by omega, by omega, ⟨0, rfl, fun j hj => (nbG_out (by omega)).symm, by omega⟩, fun i hi => ⟨fun hlt => ?_, fun hge2 => ?_⟩⟩
 ·refine ⟨by omega, by omega, hlt, by omega, by omega, i + 1, by omega, fun j hj => ?_, by omega, by omega⟩
  by_cases e : j = i
  ·subst e; rw [if_pos rfl, nbG_in (by omega)]
  ·rw [if_neg e]
   by_cases h : j < i
   ·rw [nbG_in h, nbG_in (by omega)]
   ·rw [nbG_out h, nbG_out (by omega)]
 refine ⟨⟨fun _ => -m, fun j hj => nbG_in (by omega), ?_⟩, fun x f hq => ?_⟩
 ·unfold nbQ
  exact ⟨fun k hk => show -m <= -m /\ -m <= m by omega, fun h => (nomatch h), .inr fun h => ahd_first (hfm h) fun k hk => rfl⟩
 unfold nbQ at hq
 obtain ⟨hx, hf0, hah⟩ := hq
 have ex : (fun k => x k) = x := rfl
 simp only [ex]
 refine ⟨by omega, by omega, fun k _ => by have := hc k; show 0 <= c k /\ c k <= 100; omega, fun k hk => by have := hx k hk; show -2000 <= x k /\ x k <= 2000; omega, fun hfit => ?_, fun hno => ?_⟩
 ·have he := fit_few hbd hfit
  have B := fBest he
  have P := qPlan he
  have F1 := B.le x hfit
  have F2 := fun h => few_lex he hfit h
  have F3 := fit_t he hfit
  have F4 := fun h => qck_lex he hfit h
  rw [P.L, he, okI_0 rfl, okI_0 rfl, okN_0 rfl]
  have eF : (fun k => fwF g c a b k) = fwF g c a b := rfl
  have eQ : (fun k => qckF g c a b k) = qckF g c a b := rfl
  simp only [eF, eQ]
  have hx2 : ∀ k, k < g - 1 -> -2000 <= x k /\ x k <= 2000 := fun k hk => by have := hx k hk; omega
  have hmx : g <= maxLen + 1 := by unfold maxLen; omega
  rw [okN_0 rfl, okI_0 rfl, okI_0 rfl, few_checks he, qck_checks he]
  have K := fewK he
  refine ⟨trivial, fun _ => ⟨by omega, hx2, by omega, hx2, fun _ _ => ⟨trivial, hmx⟩, fun p q => ⟨p, q⟩, fun p q => ⟨p, (Classical.em _).elim (fun h => .inr (q h)) .inl⟩, fun _ _ _ _ => ⟨trivial, hmx⟩, fun p q r s => ⟨p, q, r, s⟩, fun p q r => ⟨p, (Classical.em _).elim (fun h => .inr (q h)) .inl, r⟩, F1, F2, F3, F4, fun _ _ _ _ => ⟨hmx, by omega, by omega, fun k hk => by have := hx2 k hk; show -10000 <= x k /\ x k <= 10000; omega, fun _ => ⟨by omega, fun k hk => by have := K.b k hk; show -1000 <= fewP g c a b k /\ fewP g c a b k <= 1000; omega, rfl, rfl⟩, fun hmr => ⟨nxE (g - 1) x m, fun j hj => rfl, ?_, nx_lt16 (by omega) (by omega) hmr hx⟩⟩⟩⟩
  unfold nbQ
  exact ⟨nx_in (by omega) hmr hx, fun _ => he, .inl rfl⟩
 ·have hnx : fewE g c a b = 0 -> ahd m (fwF g c a b) x (g - 1) -> mrB (g - 1) x m = true /\ ahd m (fwF g c a b) (nxE (g - 1) x m) (g - 1) := fun he ha => by
   rcases ahd_next (by omega) ha hx with h | h
   ·rw [fitB_cg h, (fBest he).fit] at hno; cases hno
   ·exact h
  refine ⟨by unfold maxLen; omega, by omega, by omega, fun k hk => by have := hx k hk; show -10000 <= x k /\ x k <= 10000; omega, fun hmr => ⟨fun hf => ?_, fun hf => ?_⟩, fun hmr => ⟨nxE (g - 1) x m, fun j hj => rfl, ?_, nx_lt16 (by omega) (by omega) hmr hx⟩⟩
  ·subst hf
   have hne : fewE g c a b ≠ 0 := fun he => by
    rcases hah with h | h
    ·cases h
    ·rw [(hnx he (h he)).1] at hmr; cases hmr
   refine fewE_18 hbd ?_
   cases hp : posB g c a b with
   | false => rfl
   | true => exact absurd (fewE_ok hbd hp) hne
  ·have he := hf0 hf
   have K := fewK he
   have P := qPlan he
   have eF : (fun k => fwF g c a b k) = fwF g c a b := rfl
   have eQ : (fun k => qckF g c a b k) = qckF g c a b := rfl
   have eP : (fun k => fewP g c a b k) = fewP g c a b := rfl
   rw [P.L, he, okI_0 rfl, okI_0 rfl, okN_0 rfl, okN_0 rfl, okI_0 rfl, okI_0 rfl, eF, eQ, eP, few_checks he, qck_checks he]
   exact ⟨by omega, fun k hk => by have := K.b k hk; show -1000 <= fewP g c a b k /\ fewP g c a b k <= 1000; omega, rfl, rfl⟩
  ·unfold nbQ
   refine ⟨nx_in (by omega) hmr hx, hf0, ?_⟩
   rcases hah with h | h
   ·exact .inl h
   ·exact .inr fun he => (hnx he (h he)).2
end Abs
open Go.ChangeShapes Go.WideShapes Go.ChangeAt Go.RowKit
set_option maxRecDepth 100000 in
theorem packNotBeaten_lifted (os : Os) (started : os.Started) (H : Type) (enc : TypeId × Value -> H) :
  ReturnsInHanded {} Try.checked os 3 .any (Rows.packNotBeatenSpec.pre6 enc Try.prog Try.f3 Rows.packNotBeatenRow.domain false) (Rows.packNotBeatenSpec.post enc Try.prog Try.f3 false true false false) := by
 refine returnsInHanded_of_change (C := Try.checked) (show ownKnob Try.prog.godebug = none by kernel_rfl) started (by kernel_rfl) Try.func3
  (ChangeSpec.witness6 (enc := enc) (C := Try.checked) false ⟨#[], #[.slice none 0 0, .int .u8 0, .int .u8 0], []⟩ 8 (by kernel_rfl) (by kernel_rfl) (by kernel_rfl) (by kernel_rfl)) ?_
 intro W base args ds gs before hval0 hW hcnd _
 have hW0 := hW
 obtain ⟨p, q, hA, hV, rfl, hfz, hnd⟩ := hW0
 refine (Abs.law_calls (enc' := enc) Abs.packNotBeaten_law (fn := Try.f3) (d := 2) (by kernel_rfl) hA hval0).mono fun e W' hh => ?_
 obtain ⟨he, hb⟩ := hh
 subst he
 exact ⟨_, rfl, Abs.law_post (s := Rows.packNotBeatenSpec) (f := Try.f3) (by kernel_rfl) rfl (by kernel_rfl) (by kernel_rfl) rfl 3 (by kernel_rfl) (fun ds hl => by
  rcases ds with _ | ⟨d0, _ | ⟨d1, _ | ⟨d2, _ | ⟨d3, _⟩⟩⟩⟩
  all_goals first | exact ⟨rfl, rfl, rfl⟩ | (exfalso; simp only [List.length_cons, List.length_nil] at hl; omega)) hW hb⟩
theorem packNotBeaten_holds : Rows.PackNotBeatenSaid :=
 OpenClaim.holds_of_wide 3 Try.f3 rfl rfl rfl rfl rfl rfl rfl ⟨rfl, rfl, rfl, rfl, rfl⟩ rfl rfl rfl rfl rfl (by kernel_rfl) Try.func3 (by kernel_rfl)
  (of_decide_eq_true (by kernel_rfl)) (by unfold Func.isWrapper; first | (rw [if_pos (by decide +kernel)]; kernel_rfl) | (rw [if_neg (by decide +kernel)]; exact ⟨rfl, rfl⟩))
  (fun os started H enc _ => packNotBeaten_lifted os started H enc)
end Go.Proofs.Ytdhbbdljiidgiaa

/- A part of the proof: no statement of its own. -/
import Derived.Test.YtdhbbdljiidgiaaQG09f7dd99
set_option linter.unusedSimpArgs false
set_option linter.unusedVariables false
namespace Go.Proofs.Ytdhbbdljiidgiaa
namespace Abs
open Go Go.RowKit
noncomputable section
def rwX : Blk -> Nat -> Int
 | .row _ _ _ f => fun k => intOf (getL (f k) 0)
 | _ => fun _ => 0
@[irreducible] def mrP (x : Nat -> Int) (m : Int) (k : Nat) : Bool := decide (x k < m)
theorem mrP_f {x : Nat -> Int} {m : Int} {k : Nat} : mrP x m k = false ↔ m <= x k := by unfold mrP; simp
theorem mrP_t {x : Nat -> Int} {m : Int} {k : Nat} : mrP x m k = true ↔ x k < m := by unfold mrP; simp
@[irreducible] def mrF (n : Nat) (x : Nat -> Int) (m : Int) : Nat := firstN (mrP x m) n
@[irreducible] def mrB (n : Nat) (x : Nat -> Int) (m : Int) : Bool := decide (mrF n x m < n)
@[irreducible] def mrE (n : Nat) (x : Nat -> Int) (m : Int) (k : Nat) : Int := if k < mrF n x m then 0 else if k = mrF n x m then x k + 1 else x k
@[irreducible] def mrV (g k : Nat) (y : Int) : Int := if k < g then 0 else y
theorem mrV_eq (g k : Nat) (y : Int) : mrV g k y = if k < g then 0 else y := by unfold mrV; rfl
theorem mrF_at {n : Nat} {x : Nat -> Int} {m : Int} {g : Nat} (hg : g < n) (h : ∀ k, k < g -> mrP x m k = false) (h2 : x g < m) : mrF n x m = g := by
 unfold mrF
 exact firstN_uniq (by omega) h fun _ => mrP_t.2 h2
theorem mrF_no {n : Nat} {x : Nat -> Int} {m : Int} (h : ∀ k, k < n -> mrP x m k = false) : mrF n x m = n := by
 unfold mrF
 exact firstN_uniq (Nat.le_refl _) h fun hh => absurd hh (by omega)
def morF : SpecF [.row 3 1 [.int .i64]] [.rowr 0, .int .i64] := ⟨fun ((n, x), _) _ => n <= maxLen /\ ∀ k, k < n -> -1000 <= (x k).1 /\ (x k).1 <= 1000, fun ((n, x), _) (_, (m : Int), _) => .sb (mrB n (fun k => (x k).1) m), fun ((n, x), _) (_, (m : Int), _) => [.row 3 1 (.sym n) (fun k => [.si .i64 (mrE n (fun k => (x k).1) m k)])]⟩
def morI : DatH [.row 3 1 [.int .i64]] -> DatL [.rowr 0, .int .i64] -> Anns := fun ((n, x), _) (_, (m : Int), _) => [
 (2, [], fun fr hp => ⟨Nat, fun g => ⟨frI [.k 5, .s (.si .i64 (icast g)), .t 21] fr, setB hp 0 (.row 3 1 (.sym n) (fun k => [.si .i64 (mrV g k (x k).1)]))⟩, Nat × Nat × (Nat -> Bool), fun g => (g, n, mrP (fun k => (x k).1) m), fun (g, n, p) => g <= n /\ ∀ k, k < g -> p k = false, fun g => nsub n g⟩)]
set_option maxRecDepth 100000 in
theorem mor_ok : FnSpecF Try.prog 24 _ _ morF := by
 refine FnSpecF.of SM4_ok mixed (U := 0) (I := morI) Try.func24 rfl (by kernel_rfl) rfl (by decide +kernel) ?_
 rintro ⟨⟨n, x'⟩, ⟨⟩⟩ ⟨⟨⟩, (m : Int), ⟨⟩⟩ ⟨(hn : n <= maxLen), (hx : ∀ k, k < n -> -1000 <= (x' k).1 /\ (x' k).1 <= 1000)⟩
 obtain ⟨x, rfl⟩ : ∃ x : Nat -> Int, x' = fun k => (x k, ()) := ⟨fun k => (x' k).1, rfl⟩
 have hx : ∀ k, k < n -> -1000 <= x k /\ x k <= 1000 := hx
 unfold FnSat
 conv => arg 2; reduce
 unfold maxLen at hn
 simp [morF, encH, encB, ElEq, aliveB, getB, goneB, and_assoc]
 have ex : (fun k => x k) = x := rfl
 simp only [ex]
 have hb : ∀ g, g < n -> (∀ k, k < g -> mrP x m k = false) -> x g < m -> mrF n x m = g := fun g a b d => mrF_at a b d
 refine ⟨⟨0, rfl, fun j hj => by rw [mrV_eq, if_neg (by omega)], by omega, fun k hk => by omega⟩, fun g hg hall => ⟨fun hlt => ⟨hlt, fun hm => ?_, fun hm => ?_⟩, fun hge => ?_⟩⟩
 ·rw [mrV_eq, if_neg (by omega)] at hm ⊢
  have hF := hb g hlt hall hm
  have hxg := hx g hlt
  refine ⟨hlt, by omega, by omega, hlt, by unfold mrB; rw [hF]; simpa using hlt, fun j hj => ?_⟩
  unfold mrE
  rw [hF, mrV_eq]
  by_cases e : j = g
  ·subst e; rw [if_pos rfl, if_neg (by omega), if_pos rfl]
  ·rw [if_neg e]
   by_cases h : j < g
   ·rw [if_pos h, if_pos h]
   ·rw [if_neg h, if_neg h, if_neg e]
 ·rw [mrV_eq, if_neg (by omega)] at hm
  refine ⟨hlt, by omega, by omega, g + 1, by omega, fun j hj => ?_, by omega, fun k hk => ?_, by omega⟩
  ·rw [mrV_eq, mrV_eq]
   by_cases e : j = g
   ·subst e; rw [if_pos rfl, if_pos (by omega)]
   ·rw [if_neg e]
    by_cases h : j < g
    ·rw [if_pos h, if_pos (by omega)]
    ·rw [if_neg h, if_neg (by omega)]
  ·by_cases e : k = g
   ·subst e; exact mrP_f.2 hm
   ·exact hall k (by omega)
 ·obtain rfl : g = n := by omega
  have hF := mrF_no hall
  refine ⟨by unfold mrB; rw [hF]; simp, fun j hj => ?_⟩
  unfold mrE
  rw [hF, mrV_eq, if_pos hj, if_pos hj]
noncomputable def SN1 : Sums := ⟨(12, mkSum _ smlS) :: SM4.one, SM4.two, SM4.lo, SM4.eqs, SM4.its, SM4.imm⟩
theorem SN1_ok : SumsOK Try.prog SN1 := (SM4_ok.cons Try.func12 (by kernel_rfl) (by kernel_rfl) sml_ok)
noncomputable def SN2 : Sums := ⟨SN1.one, (24, mkSumF _ _ morF) :: SN1.two, SN1.lo, SN1.eqs, SN1.its, SN1.imm⟩
theorem SN2_ok : SumsOK Try.prog SN2 := SN1_ok.addTwo Try.func24 (by kernel_rfl) (by kernel_rfl) (mkSumF_ok mor_ok)
def drLo0 (c x : Nat -> Int) : Nat -> Int
 | 0 => 100
 | g + 1 => min (drLo0 c x g) (c g - x g)
def drHi0 (c x : Nat -> Int) : Nat -> Int
 | 0 => 0
 | g + 1 => max (drHi0 c x g) (c g - x g)
@[irreducible] def drLo (c x : Nat -> Int) (g : Nat) : Int := drLo0 c x g
@[irreducible] def drHi (c x : Nat -> Int) (g : Nat) : Int := drHi0 c x g
theorem drLo_0 (c x : Nat -> Int) : drLo c x 0 = 100 := by unfold drLo; rfl
theorem drLo_s (c x : Nat -> Int) (g : Nat) : drLo c x (g + 1) = min (drLo c x g) (c g - x g) := by unfold drLo; rfl
theorem drHi_0 (c x : Nat -> Int) : drHi c x 0 = 0 := by unfold drHi; rfl
theorem drHi_s (c x : Nat -> Int) (g : Nat) : drHi c x (g + 1) = max (drHi c x g) (c g - x g) := by unfold drHi; rfl
theorem drLo_le {c x : Nat -> Int} : ∀ {n k : Nat}, k < n -> drLo c x n <= c k - x k
 | 0, k, h => by omega
 | n + 1, k, h => by
   rw [drLo_s]
   by_cases e : k = n
   ·subst e; omega
   ·have := drLo_le (c := c) (x := x) (show k < n by omega); omega
theorem drHi_ge {c x : Nat -> Int} : ∀ {n k : Nat}, k < n -> c k - x k <= drHi c x n
 | 0, k, h => by omega
 | n + 1, k, h => by
   rw [drHi_s]
   by_cases e : k = n
   ·subst e; omega
   ·have := drHi_ge (c := c) (x := x) (show k < n by omega); omega
theorem dr_in {c x : Nat -> Int} : ∀ {n : Nat}, (∀ k, k < n -> 0 <= c k /\ c k <= 6) -> (∀ k, k < n -> 0 <= x k /\ x k <= 6) -> (-6 <= drLo c x n /\ drLo c x n <= 100) /\ 0 <= drHi c x n /\ drHi c x n <= 6
 | 0, _, _ => by rw [drLo_0, drHi_0]; omega
 | n + 1, hc, hx => by
   have ih := dr_in (n := n) (fun k hk => hc k (by omega)) fun k hk => hx k (by omega)
   have a := hc n (by omega)
   have b := hx n (by omega)
   rw [drLo_s, drHi_s]; omega
theorem minG_at {c : Nat -> Int} : ∀ g : Nat, ∃ k, k <= g /\ minG c g = c k
 | 0 => ⟨0, by omega, by rw [minG_zero]⟩
 | g + 1 => by
   obtain ⟨k, h1, h2⟩ := minG_at (c := c) g
   rw [minG_succ, h2]
   by_cases e : c k <= c (g + 1)
   ·exact ⟨k, by omega, by omega⟩
   ·exact ⟨g + 1, by omega, by omega⟩
theorem sumN_le2 {f g : Nat -> Int} : ∀ {n : Nat}, (∀ k, k < n -> f k <= g k) -> sumN f n <= sumN g n
 | 0, _ => by simp
 | n + 1, h => by
   have a := sumN_le2 (f := f) (g := g) (n := n) fun k hk => h k (by omega)
   have b := h n (by omega)
   rw [sumN_succ, sumN_succ]; omega
theorem dr_best {n : Nat} {c x : Nat -> Int} {w : Int} (hx : ∀ k, k < n -> 0 <= x k) (hn : 0 < n) (h1 : 0 <= drLo c x n) (h2 : drHi c x n - drLo c x n <= w) : sumN (lsV c n w) n <= sumN x n := by
 refine sumN_le2 fun k hk => ?_
 rw [lsV_eq]
 obtain ⟨j, hj, e⟩ : ∃ j, j < n /\ minG c (n - 1) = c j := by
  obtain ⟨j, h1, h2⟩ := minG_at (c := c) (n - 1)
  exact ⟨j, by omega, h2⟩
 have a := drLo_le (c := c) (x := x) hj
 have b := drHi_ge (c := c) (x := x) hk
 have d := hx k hk
 have f := hx j hj
 rw [e]; omega
def drM : (x : Nat -> Int) -> Nat -> Nat
 | _, 0 => 0
 | x, n + 1 => (6 - x 0).toNat + 7 * drM (fun k => x (k + 1)) n
theorem drM_cg : ∀ {n : Nat} {x y : Nat -> Int}, (∀ k, k < n -> y k = x k) -> drM y n = drM x n
 | 0, _, _, _ => rfl
 | n + 1, x, y, h => by
   rw [drM, drM, h 0 (by omega), drM_cg (n := n) (x := fun k => x (k + 1)) (y := fun k => y (k + 1)) fun k hk => h (k + 1) (by omega)]
theorem drM_lt : ∀ {n p : Nat} {x y : Nat -> Int}, p < n -> (∀ k, k < p -> x k = 6) -> x p < 6 -> (∀ k, k < p -> y k = 0) -> y p = x p + 1 -> (∀ k, p < k -> k < n -> y k = x k) -> drM y n < drM x n
 | 0, p, _, _, hp, _, _, _, _, _ => by omega
 | n + 1, 0, x, y, _, _, h2, _, h4, h5 => by
   rw [drM, drM, drM_cg (n := n) (x := fun k => x (k + 1)) (y := fun k => y (k + 1)) fun k hk => h5 (k + 1) (by omega) (by omega)]
   omega
 | n + 1, p + 1, x, y, hp, h1, h2, h3, h4, h5 => by
   have ih := drM_lt (n := n) (p := p) (x := fun k => x (k + 1)) (y := fun k => y (k + 1)) (by omega) (fun k hk => h1 (k + 1) (by omega)) h2 (fun k hk => h3 (k + 1) (by omega)) h4 (fun k a b => h5 (k + 1) (by omega) (by omega))
   have a := h1 0 (by omega)
   have b := h3 0 (by omega)
   rw [drM, drM, a, b]
   omega
@[irreducible] def drN (x : Nat -> Int) (n : Nat) : Nat := drM x n
theorem mr_lt {n : Nat} {x : Nat -> Int} (h : mrB n x 6 = true) (hx : ∀ k, k < n -> 0 <= x k /\ x k <= 6) : drN (mrE n x 6) n < drN x n := by
 unfold mrB at h
 have h : mrF n x 6 < n := by simpa using h
 have e1 : ∀ k, k < mrF n x 6 -> mrP x 6 k = false := fun k hk => by unfold mrF at hk; exact firstN_not _ _ k hk
 have e2 : mrP x 6 (mrF n x 6) = true := by unfold mrF at h ⊢; exact firstN_is _ _ h
 have e3 := mrP_t.1 e2
 unfold drN
 refine drM_lt h (fun k hk => by have := mrP_f.1 (e1 k hk); have := hx k (by omega); omega) e3 (fun k hk => ?_) ?_ fun k a b => ?_
 ·unfold mrE; rw [if_pos hk]
 ·unfold mrE; rw [if_neg (by omega), if_pos rfl]
 ·unfold mrE; rw [if_neg (by omega), if_neg (by omega)]
theorem mr_in {n : Nat} {x : Nat -> Int} (hx : ∀ k, k < n -> 0 <= x k /\ x k <= 6) (k : Nat) (hk : k < n) : 0 <= mrE n x 6 k /\ mrE n x 6 k <= 6 := by
 have a := hx k hk
 unfold mrE
 split
 ·omega
 ·split
  ·rename_i h
   have : mrP x 6 k = true := by
    subst h
    unfold mrF at hk ⊢
    exact firstN_is _ _ hk
   have := mrP_t.1 this
   omega
  ·exact a
end
end Abs
end Go.Proofs.Ytdhbbdljiidgiaa

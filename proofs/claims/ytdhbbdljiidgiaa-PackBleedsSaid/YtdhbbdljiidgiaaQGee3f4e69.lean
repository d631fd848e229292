/- A part of the proof: no statement of its own. -/
import Derived.Test.YtdhbbdljiidgiaaQGa910bee5
set_option linter.unusedSimpArgs false
set_option linter.unusedVariables false
namespace Go.Proofs.Ytdhbbdljiidgiaa
namespace Abs
open Go Go.RowKit
theorem grp_ex {V : Nat -> Int} : ∀ {n : Nat} {q : Int}, (∀ k, k < n -> 0 <= V k) -> 0 <= q -> q < sumN V n -> ∃ g, g < n /\ sumN V g <= q /\ q < sumN V (g + 1)
 | 0, q, _, h0, h => by rw [sumN_zero] at h; omega
 | n + 1, q, hV, h0, h => by
   by_cases e : q < sumN V n
   ·obtain ⟨g, h1, h2, h3⟩ := grp_ex (n := n) (fun k hk => hV k (by omega)) h0 e
    exact ⟨g, by omega, h2, h3⟩
   ·exact ⟨n, by omega, by omega, h⟩
theorem pkG_ex {V : Nat -> Int} {n q : Nat} (hV : ∀ k, k < n -> 0 <= V k) (h : (q : Int) < sumN V n) : ∃ g, g < n /\ pkG V n q = g /\ sumN V g <= q /\ (q : Int) < sumN V g + V g := by
 obtain ⟨g, h1, h2, h3⟩ := grp_ex hV (Int.natCast_nonneg q) h
 exact ⟨g, h1, pkG_at hV h1 h2 h3, h2, by rw [sumN_succ] at h3; exact h3⟩
theorem pkG_iff {V : Nat -> Int} {n q j : Nat} (hV : ∀ k, k < n -> 0 <= V k) (h : (q : Int) < sumN V n) (hj : j < n) : pkG V n q = j ↔ sumN V j <= q /\ (q : Int) < sumN V j + V j := by
 constructor
 ·intro e
  obtain ⟨g, h1, h2, h3, h4⟩ := pkG_ex hV h
  obtain rfl : g = j := by omega
  exact ⟨h3, h4⟩
 ·rintro ⟨a, b⟩
  exact pkG_at hV hj a (by rw [sumN_succ]; exact b)
def cntQ (V : Nat -> Int) (n j : Nat) : Nat -> Int
 | 0 => 0
 | q + 1 => cntQ V n j q + (if pkG V n q = (j : Int) then 1 else 0)
theorem sumN_le {V : Nat -> Int} {n j : Nat} (hV : ∀ k, k < n -> 0 <= V k) (hj : j < n) : sumN V j + V j <= sumN V n := by
 have := sumN_mono hV (show j + 1 <= n by omega) (Nat.le_refl _)
 rw [sumN_succ] at this; exact this
theorem cntQ_eq {V : Nat -> Int} {n j : Nat} (hV : ∀ k, k < n -> 0 <= V k) (hj : j < n) : ∀ q : Nat, (q : Int) <= sumN V n -> cntQ V n j q = max 0 (min (V j) (q - sumN V j))
 | 0, _ => by
   have a := hV j hj
   have b := sumN_mono hV (Nat.zero_le j) (by omega)
   rw [sumN_zero] at b
   rw [cntQ]; omega
 | q + 1, h => by
   have ih := cntQ_eq hV hj q (by omega)
   have hi := pkG_iff (q := q) hV (by omega) hj
   have a := hV j hj
   rw [cntQ, ih]
   by_cases e : pkG V n q = (j : Int)
   ·rw [if_pos e]; have := hi.1 e; omega
   ·rw [if_neg e]
    have : ¬ (sumN V j <= q /\ (q : Int) < sumN V j + V j) := fun h => e (hi.2 h)
    omega
theorem sumN_upd {f g : Nat -> Int} {d : Int} {t0 : Nat} : ∀ {T : Nat}, t0 < T -> g t0 = f t0 + d -> (∀ t, t < T -> t ≠ t0 -> g t = f t) -> sumN g T = sumN f T + d
 | 0, h, _, _ => by omega
 | T + 1, h, h0, h1 => by
   rw [sumN_succ, sumN_succ]
   by_cases e : t0 = T
   ·subst e
    have : sumN g t0 = sumN f t0 := sumN_cg fun k hk => h1 k (by omega) (by omega)
    omega
   ·have := sumN_upd (T := T) (by omega) h0 fun t ht => h1 t (by omega)
    have := h1 T (by omega) (by omega)
    omega
where sumN_cg {f g : Nat -> Int} : ∀ {n : Nat}, (∀ k, k < n -> g k = f k) -> sumN g n = sumN f n
 | 0, _ => by simp
 | n + 1, h => by rw [sumN_succ, sumN_succ, sumN_cg (n := n) fun k hk => h k (by omega), h n (by omega)]
theorem cnt_rw {V : Nat -> Int} {n T j : Nat} (hT : 0 < T) : ∀ q : Nat, sumN (fun t => cnP (rwV V n T) t (rwL T q t) j) T = cntQ V n j q
 | 0 => by
   have : ∀ m : Nat, sumN (fun t => cnP (rwV V n T) t (rwL T 0 t) j) m = 0 := fun m => by
    induction m with
    | zero => simp
    | succ m ih => rw [sumN_succ, ih, rwL_zero, cnP_zero]; rfl
   rw [this]; rfl
 | q + 1 => by
   rw [cntQ, <- cnt_rw hT q]
   refine sumN_upd (t0 := rwA T q) (rwA_lt hT) ?_ fun t htT ht => ?_
   ·rw [rwL_succ hT (rwA_lt hT), if_pos rfl, cnP_succ, rwL_here, rwV_here]
   ·rw [rwL_succ hT htT, if_neg ht]
theorem rw_lt {T Q t i : Nat} (ht : t < T) (hi : i < rwL T Q t) : t + i * T < Q := by
 rw [rwL_eq] at hi
 have hd := Nat.div_add_mod Q T
 rw [Nat.mul_comm] at hd
 by_cases e : i < Q / T
 ·have : (i + 1) * T <= Q / T * T := Nat.mul_le_mul_right _ e
  rw [Nat.add_mul, Nat.one_mul] at this
  omega
 ·split at hi
  ·obtain rfl : i = Q / T := by omega
   omega
  ·omega
theorem rw_le {T Q t : Nat} {m : Int} (hT : 0 < T) (hQ : (Q : Int) <= m * T) : (rwL T Q t : Int) <= m := by
 rw [rwL_eq]
 have hd := Nat.div_add_mod Q T
 rw [Nat.mul_comm] at hd
 have hm := Nat.mod_lt Q hT
 have hdi : ((Q / T : Nat) : Int) * T + (Q % T : Nat) = Q := by exact_mod_cast hd
 have hle : ((Q / T : Nat) : Int) <= m := Int.le_of_mul_le_mul_right (a := (T : Int)) (by omega) (by omega)
 split
 ·rename_i h
  have : ((Q / T : Nat) : Int) ≠ m := fun e => by rw [e] at hdi; omega
  omega
 ·omega
theorem rw_all {V : Nat -> Int} {n T Q j : Nat} (hV : ∀ k, k < n -> 0 <= V k) (hT : 0 < T) (hQ : (Q : Int) = sumN V n) (hj : j < n) : sumN (fun t => cnP (rwV V n T) t (rwL T Q t) j) T = V j := by
 rw [cnt_rw hT, cntQ_eq hV hj Q (by omega)]
 have := sumN_le hV hj
 have := hV j hj
 omega
theorem ct_own {V : Nat -> Int} {n T Q t : Nat} {m : Int} (hV : ∀ k, k < n -> 0 <= V k) (hT : 0 < T) (hVT : ∀ k, k < n -> V k <= T) (hQ : (Q : Int) = sumN V n) (hm : (Q : Int) <= m * T) (ht : t < T) : ctX n m (rwL T Q) (rwV V n T) t = false := by
 refine ctX_f.2 ⟨rw_le hT hm, fun i hi => cbX_f.2 ?_⟩
 have hv : ∀ i, rwV V n T t i = pkG V n (t + i * T) := fun i => by unfold rwV; rfl
 have hlt := rw_lt ht hi
 obtain ⟨g, h1, h2, h3, h4⟩ := pkG_ex (q := t + i * T) hV (by omega)
 rw [hv, h2]
 refine ⟨by omega, fun k hk e => ?_⟩
 have hkT : (k + 1) * T <= i * T := Nat.mul_le_mul_right _ hk
 rw [Nat.add_mul, Nat.one_mul] at hkT
 rw [hv] at e
 have a := (pkG_iff (q := t + k * T) hV (by omega) h1).1 e
 have b := hVT g h1
 omega
theorem cb_own {n : Nat} {c : Nat -> Int} {w m : Int} (h : blE n c w m = 0) : cbE n c w m n (lsV c n w) (blT n c w m) (blL n c w m n 0) (blV n c w m) = 0 := by
 rw [cbE_t h rfl]
 have K := losK h
 obtain ⟨hl, w0, w1, m0, m1⟩ := blE_0.1 h
 have hV0 : ∀ k, k < n -> 0 <= lsV c n w k := fun k hk => (K.V k hk).1
 have hsm := K.sm n (Nat.le_refl _)
 have hLL : blL n c w m n 0 = rwL (blT n c w m) (sumN (lsV c n w) n).toNat := by
  funext t; unfold blL blQ; rw [cumQ_eq]; rfl
 have hVV : blV n c w m = rwV (lsV c n w) n (blT n c w m) := by funext t j; unfold blV; rfl
 have hT := K.T
 have hge := K.ge
 rw [hLL, hVV]
 have hTe := lsT_eq c n w m
 have hS : sumN (lsV c n w) n <= m * (blT n c w m : Int) := by
  have e : (sumN (lsV c n w) n + m - 1).tdiv m <= blT n c w m := by rw [<- hT, hTe]; omega
  rw [Int.tdiv_eq_ediv_of_nonneg (by omega)] at e
  have a := Int.emod_add_mul_ediv (sumN (lsV c n w) n + m - 1) m
  have b := Int.emod_lt_of_pos (sumN (lsV c n w) n + m - 1) (show 0 < m by omega)
  have d := Int.mul_le_mul_of_nonneg_left e (show 0 <= m by omega)
  omega
 refine cbT_0 ⟨fun k hk => rfl, by omega, fun t ht => ?_, fun j hj => cfX_f.2 ?_⟩
 ·exact ct_own hV0 (by omega) hge (by omega) (by omega) ht
 ·by_cases e : blT n c w m = 0
  ·rw [e, cnT_zero]
   have a := hV0 j hj
   have b := hge j hj
   omega
  ·unfold cnT
   exact (rw_all hV0 (by omega) (by omega) hj).symm
end Abs
end Go.Proofs.Ytdhbbdljiidgiaa

namespace Go.Proofs.Ytdhbbdljiidgiaa
namespace Abs
open Go Go.RowKit
noncomputable section
def rbleI0 : Anns := [
 (7, [], fun fr hp => ⟨Nat, fun g => ⟨frI [.k 11, .t 1, .s (.si .i64 (icast g)), .t 1, .k 21, .t 33] fr, hp⟩, Nat, fun g => g, fun g => g <= 16, fun g => nsub 17 g⟩),
 (10, [], fun fr hp => ⟨Nat, fun k => ⟨frI [.k 11, .t 1, .k 1, .s (.si .i64 (icast k)), .k 27, .t 27] fr, hp⟩, Nat, fun k => k, fun k => k = 0, fun k => k⟩)]
def rbleI1 (n : Nat) (c : Nat -> Int) (w m : Int) : Anns := [
 (2097152 + 5, [(10, 3, 64 + 17)], fun _ _ => ⟨Unit, fun _ => ⟨[], []⟩, Unit, fun _ => (), fun _ => True, fun _ => 0⟩),
 (2097152 + 12, [(10, 11 + 4096 * 9, 64 + 1)], fun _ _ => ⟨Unit, fun _ => ⟨[], []⟩, Unit, fun _ => (), fun _ => True, fun _ => 0⟩),
 (2097152 + 13, [(10, 0, 64 + 2)], fun _ _ => ⟨Unit, fun _ => ⟨[], []⟩, Unit, fun _ => (), fun _ => True, fun _ => 0⟩),
 (2097152 + 14, [(10, 0, 64 + 4)], fun _ _ => ⟨Unit, fun _ => ⟨[], []⟩, Unit, fun _ => (), fun _ => True, fun _ => 0⟩),
 (4194304 + 12, [], fun _ _ => ⟨Unit, fun _ => ⟨[], []⟩, Unit, fun _ => (), fun _ => True, fun _ => 0⟩),
 (7, [], fun fr hp => ⟨Nat, fun g => ⟨frI [.k 11, .s (.si .i64 (icast (blQ n c w m g 0))), .s (.si .i64 (icast g)), .t 1, .k 21, .t 33] fr, setB hp 1 (.rows 23 3 1 (.sym (blT n c w m)) (fun _ => false) (fun t => blL n c w m g 0 t) (fun t j => [.si .i64 (blV n c w m t j)]) none)⟩, Nat × Nat, fun g => (n, g), fun (n, g) => g <= n, fun g => nsub n g⟩),
 (10, [], fun fr hp => ⟨Nat, fun k => ⟨frI [.k 11, .s (.si .i64 (icast (blQ n c w m (nat (intOf (getL fr 12))) k))), .k 1, .s (.si .i64 (icast k)), .k 27, .t 27] fr, setB hp 1 (.rows 23 3 1 (.sym (blT n c w m)) (fun _ => false) (fun t => blL n c w m (nat (intOf (getL fr 12))) k t) (fun t j => [.si .i64 (blV n c w m t j)]) none)⟩, Nat × Int, fun k => (k, lsV c n w (nat (intOf (getL fr 12)))), fun (k, v) => k <= v, fun k => nsub 101 k⟩)]
def rbleI : DatL [inSh, .int .i64, .int .i64] -> Anns := fun ((n, c), (w : Int), (m : Int), _) => if blT n (fun k => (c k).1) w m = 0 then rbleI0 else rbleI1 n (fun k => (c k).1) w m
set_option maxRecDepth 100000 in
set_option maxHeartbeats 4000000 in
theorem rble_ok : FnSpec Try.prog 34 _ bleS := by
 refine FnSpec.of SM2_ok mixed (U := 0) (I := rbleI) Try.func34 rfl (by kernel_rfl) rfl rfl (by decide +kernel) ?_
 rintro ⟨⟨n, c'⟩, (w : Int), (m : Int), ⟨⟩⟩ -
 obtain ⟨c, rfl⟩ : ∃ c : Nat -> Int, c' = fun k => (c k, ()) := ⟨fun k => (c' k).1, rfl⟩
 by_cases hT : blT n c w m = 0
 ·have hI : rbleI ((n, fun k => (c k, ())), w, m, ()) = rbleI0 := if_pos hT
  rw [hI]
  unfold FnSat
  conv => arg 2; reduce
  simp [bleS, blS, lsS, ElEq, RowsEq, getB, goneB, aliveB, maxRow, and_assoc]
  have e1 : (fun k => c k) = c := rfl
  simp only [e1]
  refine ⟨fun h => ⟨okN_e h, okN_e h⟩, fun h => ?_⟩
  obtain ⟨hl, w0, w1, m0, m1⟩ := blE_0.1 h
  obtain ⟨l1, l2, l3⟩ := lvE_0.1 hl
  have K := losK h
  have hT0 := K.T
  rw [hT] at hT0
  rw [hT0]
  refine ⟨l1, l2, l3, w0, w1, m0, m1, by omega, by omega, ⟨0, rfl, by omega⟩, fun g hg => ⟨fun hlt => ?_, fun hge => ⟨by rw [okN_0 h], by rw [okN_0 h, hT]; rfl, fun j => by rw [okN_0 h, hT]; omega, h.symm⟩⟩⟩
  have := K.ge g hlt
  exact ⟨hlt, by omega, fun _ => ⟨by omega, by omega, g + 1, by omega, by omega, by omega⟩⟩
 ·have hI : rbleI ((n, fun k => (c k, ())), w, m, ()) = rbleI1 n c w m := if_neg hT
  rw [hI]
  unfold FnSat
  conv => arg 2; reduce
  simp [bleS, blS, lsS, ElEq, RowsEq, getB, goneB, aliveB, maxRow, and_assoc]
  have e1 : (fun k => c k) = c := rfl
  simp only [e1]
  refine ⟨fun h => ⟨okN_e h, okN_e h⟩, fun h => ?_⟩
  obtain ⟨hl, w0, w1, m0, m1⟩ := blE_0.1 h
  obtain ⟨l1, l2, l3⟩ := lvE_0.1 hl
  have K := losK h
  have hL : ∀ g k t, blL n c w m g k t = rwL (blT n c w m) (blQ n c w m g k) t := fun g k t => by unfold blL; rfl
  have hV : ∀ t j, blV n c w m t j = rwV (lsV c n w) n (blT n c w m) t j := fun t j => by unfold blV; rfl
  have hQ : ∀ g k, blQ n c w m g k = (sumN (lsV c n w) g).toNat + k := fun g k => by unfold blQ; exact cumQ_eq ..
  have hQ0 : blQ n c w m 0 0 = 0 := by rw [hQ, sumN_zero]; rfl
  have hQs : ∀ g k, blQ n c w m g (k + 1) = blQ n c w m g k + 1 := fun g k => by rw [hQ, hQ]; omega
  have hQr : ∀ g k : Nat, g < n -> lsV c n w g = (k : Int) -> blQ n c w m (g + 1) 0 = blQ n c w m g k := fun g k hg e => by
   have := (K.sm g (by omega)).1
   rw [hQ, hQ, sumN_succ]; omega
  have hP : ∀ g k : Nat, g < n -> (k : Int) < lsV c n w g -> pkG (lsV c n w) n (blQ n c w m g k) = g := fun g k hg hk => by
   have := (K.sm g (by omega)).1
   have e := sumN_succ (lsV c n w) g
   have e2 := hQ g k
   exact pkG_at (fun k hk => (K.V k hk).1) hg (by omega) (by omega)
  have hTl := K.T
  have hTb := K.Tb
  rw [hTl]
  simp only [hL, hV]
  have hKV := K.V
  have hKs := K.sm
  generalize blT n c w m = T at *
  generalize blQ n c w m = Q at *
  generalize lsV c n w = V at *
  have hT0 : 0 < T := by omega
  have hr : ∀ g k, ((Q g k : Nat) : Int).tmod (T : Int) = (rwA T (Q g k) : Nat) := fun g k => by
   rw [rwA_eq, Int.tmod_eq_emod_of_nonneg (by omega), Int.natCast_emod]
  simp only [hr, Int.toNat_natCast]
  refine ⟨l1, l2, l3, w0, w1, m0, m1, by omega, by omega, by omega, ⟨0, ?_, rfl, trivial, fun k hk => ?_, by omega⟩, fun g hg => ⟨fun hlt => ⟨⟨0, rfl, rfl, fun k hk => rfl, (hKV g hlt).1⟩, fun k hk => ⟨hlt, fun hkl => ?_, fun hkg => ?_⟩⟩, fun hge => ?_⟩⟩
  ·rw [hQ0]; rfl
  ·rw [hQ0, rwL_zero]; exact ⟨rfl, fun j => by omega⟩
  ·have ha := rwA_lt (q := Q g k) hT0
   have hv := hKV g hlt
   have hq : rwL T (Q g k) (rwA T (Q g k)) <= 1700 + Q g k := by
    rw [rwL_here]; have := Nat.div_le_self (Q g k) T; omega
   have hQb : Q g k <= 1700 := by have := hKs g (by omega); have := hKV g hlt; rw [hQ]; omega
   refine ⟨by omega, by omega, by omega, by omega, by omega, by omega, by omega, by omega, by omega, by omega, by omega, by omega, k + 1, by rw [hQs]; omega, by omega, fun t ht => ⟨?_, ?_, fun j hj => ?_⟩, by omega, by omega⟩
   ·unfold updZ; split <;> rfl
   ·unfold updN
    rw [hQs, rwL_succ hT0 ht]
    by_cases e : t = rwA T (Q g k)
    ·subst e; rw [if_pos rfl]; try rw [if_pos rfl]
    ·rw [if_neg e, if_neg e]
   ·rw [hQs, rwL_succ hT0 ht] at hj
    unfold updR
    by_cases e : t = rwA T (Q g k)
    ·subst e
     rw [if_pos rfl] at hj ⊢
     refine app_one hj (fun _ => rfl) (fun e => ?_)
     subst e
     rw [rwL_here, rwV_here, hP g k hlt hkl]; rfl
    ·rw [if_neg e]; rfl
  ·have hv : V g = k := by omega
   refine ⟨by omega, by omega, g + 1, by rw [hQr g k hlt hv], by omega, fun t _ => by rw [hQr g k hlt hv], by omega, by omega⟩
  ·obtain rfl : g = n := by omega
   exact ⟨(okN_0 h).symm, (okN_0 h).symm, fun j _ => rfl, h.symm⟩
noncomputable def SO1 : Sums := ⟨(34, mkSum _ bleS) :: SM4.one, SM4.two, SM4.lo, SM4.eqs, SM4.its, SM4.imm⟩
theorem SO1_ok : SumsOK Try.prog SO1 := (SM4_ok.cons Try.func34 (by kernel_rfl) (by kernel_rfl) rble_ok)
end
end Abs
end Go.Proofs.Ytdhbbdljiidgiaa

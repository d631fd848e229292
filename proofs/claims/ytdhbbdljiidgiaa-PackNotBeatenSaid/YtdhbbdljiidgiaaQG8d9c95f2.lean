/- A part of the proof: no statement of its own. -/
import Derived.Test.YtdhbbdljiidgiaaQGb7e82509
set_option linter.unusedSimpArgs false
set_option linter.unusedVariables false
namespace Go.Proofs.Ytdhbbdljiidgiaa
namespace Abs
open Go Go.RowKit
noncomputable section
def rbdS : Spec [inSh, .int .i64, .int .i64] := ⟨fun _ => True, fun ((n, el), (lo : Int), (hi : Int), _) => .si .i64 (bdE n (fun k => (el k).1) lo hi)⟩
set_option maxRecDepth 100000 in
theorem rbd_ok : FnSpec Try.prog 52 _ rbdS := by
 refine FnSpec.of SH4_ok mixed (U := 0) (I := fun _ => []) Try.func52 rfl (by kernel_rfl) rfl rfl (by decide +kernel) ?_
 rintro ⟨⟨n, el⟩, (lo : Int), (hi : Int), ⟨⟩⟩ -
 obtain ⟨c, rfl⟩ : ∃ c : Nat -> Int, el = fun k => (c k, ()) := ⟨fun k => (el k).1, rfl⟩
 unfold FnSat
 conv => arg 2; reduce
 simp [rbdS, lvS, and_assoc]
 have e : (fun k => c k) = c := rfl
 simp only [e]
 refine ⟨fun h => (bdE_lv h).symm, fun h => ?_⟩
 refine ⟨fun h' => (bdE_2 h (by omega)).symm, fun a b d => (bdE_0.2 ⟨h, a, b, d⟩).symm⟩
def rneI : DatL [inSh, .int .i64, .int .i64, .int .i64, .int .i64] -> Anns := fun ((n, c), (lo : Int), (hi : Int), (a : Int), (b : Int), _) => [
 (7, [], fun fr hp => ⟨Nat, fun g => ⟨frI [.k 12, .s (.si .i64 (segN (fun k => (c k).1) (nat a) g)), .k 2, .s (.si .i64 (iadd a (icast g))), .t 75] fr, hp⟩, Nat × Int, fun g => (g, isub b a), fun (g, q) => g <= q + 1, fun g => nsub 17 g⟩)]
noncomputable def SI1 : Sums := ⟨(52, mkSum _ rbdS) :: SH4.one, SH4.two, SH4.lo, SH4.eqs, SH4.its, SH4.imm⟩
theorem SI1_ok : SumsOK Try.prog SI1 := (SH4_ok.cons Try.func52 (by kernel_rfl) (by kernel_rfl) rbd_ok)
set_option maxRecDepth 100000 in
theorem rne_ok : FnSpec Try.prog 41 _ neS := by
 refine FnSpec.of SI1_ok mixed (U := 0) (I := rneI) Try.func41 rfl (by kernel_rfl) rfl rfl (by decide +kernel) ?_
 rintro ⟨⟨n, c'⟩, (lo : Int), (hi : Int), (a : Int), (b : Int), ⟨⟩⟩ -
 obtain ⟨c, rfl⟩ : ∃ c : Nat -> Int, c' = fun k => (c k, ()) := ⟨fun k => (c' k).1, rfl⟩
 unfold FnSat
 conv => arg 2; reduce
 simp [neS, rbdS, ElEq, getB, goneB, aliveB, and_assoc]
 have e1 : (fun k => c k) = c := rfl
 simp only [e1]
 refine ⟨fun h => ?_, fun h => ⟨fun h' => ?_, fun a1 a2 a3 => ?_⟩⟩
 ·have e := neE_bd (n := n) (c := c) (lo := lo) (hi := hi) (a := a) (b := b) h
  exact ⟨(okI_e (by rw [e]; exact h)).symm, e.symm⟩
 ·have e := neE_3 (n := n) (c := c) (lo := lo) (hi := hi) (a := a) (b := b) h (by omega)
  exact ⟨(okI_e (by omega)).symm, e.symm⟩
 obtain ⟨hl, b1, b2, b3⟩ := bdE_0.1 h
 obtain ⟨l1, l2, l3⟩ := lvE_0.1 hl
 obtain ⟨x, rfl⟩ := Int.eq_ofNat_of_zero_le a1
 obtain ⟨y, rfl⟩ := Int.eq_ofNat_of_zero_le (Int.le_trans a1 a2)
 have hok : ndB n c lo hi x y = true -> neE n c lo hi x y = 0 := fun h2 => neE_ok h ⟨a1, a2, a3⟩ (by simpa using h2)
 have hno : ndB n c lo hi x y = false -> neE n c lo hi x y = 18 := fun h2 => neE_18 h ⟨a1, a2, a3⟩ (by simpa using h2)
 simp only [Int.toNat_natCast]
 have p1 := mul_b (x := (y : Int) - x + 1) (h := hi) (by omega) (by omega) (by omega) b3
 have p2 := mul_b (x := (y : Int) - x + 1) (h := lo) (by omega) (by omega) b1 (by omega)
 refine ⟨by omega, by omega, by omega, by omega, ⟨0, by simp, by omega, by omega⟩, fun g hg => ?_⟩
 have hs := segN_in (a := x) (k := g) l3 (by omega)
 have hN : ((x : Int) + g).toNat = x + g := by omega
 rw [hN]
 refine ⟨fun hlt => ?_, fun hge => ?_⟩
 ·have hc := l3 (x + g) (by omega)
  exact ⟨by omega, by omega, by omega, by omega, by omega, by omega, g + 1, by simp, by omega, by omega, by omega⟩
 obtain rfl : g = y - x + 1 := by omega
 have E : max 0 (max (segN c x (y - x + 1) - ((y : Int) - x + 1) * hi) (((y : Int) - x + 1) * lo - segN c x (y - x + 1))) = excN c lo hi x y := by rw [excN_eq]; omega
 have he := excN_in (c := c) (lo := lo) (hi := hi) (a := x) (b := y) l2 (by omega) (by omega) l3 b1 (by omega) (by omega) b3
 rw [E]
 have n0 : endsN n x y = 0 -> ndN n c lo hi x y = 0 /\ ndB n c lo hi x y = decide (excN c lo hi x y = 0) := fun h => ⟨ndN_0 h, ndB_0 h⟩
 have n1 : endsN n x y ≠ 0 -> ndN n c lo hi x y = (excN c lo hi x y + endsN n x y - 1).tdiv (endsN n x y) /\ ndB n c lo hi x y = true := fun h => ⟨ndN_n h, ndB_n h⟩
 have en := endsN_eq n x y
 generalize excN c lo hi x y = X at *
 refine ⟨fun hx => ⟨by omega, by omega, fun hy => ?_, fun hy => ?_⟩, fun hx => ⟨by omega, by omega, fun hy => ?_, fun hy => ?_⟩⟩
 ·rw [if_pos (by omega), if_pos (by omega)] at en
  have en : endsN n x y = 2 := en
  rw [en] at n1
  obtain ⟨q1, q2⟩ := n1 (by omega)
  have e := hok q2
  have hq : (X + 2 - 1).tdiv 2 = (X + 2 - 1) / 2 := Int.tdiv_eq_ediv_of_nonneg (by omega)
  rw [okI_0 e, e]
  rw [hq] at q1 ⊢
  repeat' refine And.intro ?_ ?_
  all_goals first | omega | rfl
 ·rw [if_pos (by omega), if_neg (by omega)] at en
  have en : endsN n x y = 1 := en
  rw [en] at n1
  obtain ⟨q1, q2⟩ := n1 (by omega)
  have e := hok q2
  rw [okI_0 e, e]
  rw [Int.tdiv_one] at q1
  repeat' refine And.intro ?_ ?_
  all_goals first | omega | rfl
 ·rw [if_neg (by omega), if_pos (by omega)] at en
  have en : endsN n x y = 1 := en
  rw [en] at n1
  obtain ⟨q1, q2⟩ := n1 (by omega)
  have e := hok q2
  rw [okI_0 e, e]
  rw [Int.tdiv_one] at q1
  repeat' refine And.intro ?_ ?_
  all_goals first | omega | rfl
 ·rw [if_neg (by omega), if_neg (by omega)] at en
  have en : endsN n x y = 0 := en
  obtain ⟨q1, q2⟩ := n0 en
  have e1 : X = 0 -> neE n c lo hi x y = 0 := fun h => hok (by rw [q2]; simp [h])
  have e2 : X ≠ 0 -> neE n c lo hi x y = 18 := fun h => hno (by rw [q2]; simp [h])
  refine ⟨by omega, by omega, by omega, by omega, by omega, by omega, by omega, by omega, fun h => ?_, fun h => ?_⟩
  ·have e := e2 (by omega)
   exact ⟨(okI_e (by omega)).symm, e.symm⟩
  ·have e := e1 (by omega)
   exact ⟨by rw [okI_0 e, q1], e.symm⟩
noncomputable def SI2 : Sums := ⟨(41, mkSum _ neS) :: SI1.one, SI1.two, SI1.lo, SI1.eqs, SI1.its, SI1.imm⟩
theorem SI2_ok : SumsOK Try.prog SI2 := (SI1_ok.cons Try.func41 (by kernel_rfl) (by kernel_rfl) rne_ok)
noncomputable def SI3 : Sums := ⟨SI2.one, SI2.two, SI2.lo, SI2.eqs, SI2.its, SI2.imm⟩
theorem SI3_ok : SumsOK Try.prog SI3 := SI2_ok
@[irreducible] def ibX (x : Nat -> Int) (lo hi : Int) (k : Nat) : Bool := !(isIn lo (x k) hi)
theorem ibX_f {x : Nat -> Int} {lo hi : Int} {k : Nat} : ibX x lo hi k = false ↔ lo <= x k /\ x k <= hi := by unfold ibX; simp
@[irreducible] def ibB (n : Nat) (x : Nat -> Int) (lo hi : Int) : Bool := !(anyN (ibX x lo hi) n)
theorem ibB_t {n : Nat} {x : Nat -> Int} {lo hi : Int} : ibB n x lo hi = true ↔ ∀ k, k < n -> lo <= x k /\ x k <= hi := by
 unfold ibB
 rw [Bool.not_eq_true', anyN_false]
 exact ⟨fun h k hk => ibX_f.1 (h k hk), fun h k hk => ibX_f.2 (h k hk)⟩
theorem ibB_f {n k : Nat} {x : Nat -> Int} {lo hi : Int} (hk : k < n) (h : x k < lo \/ hi < x k) : ibB n x lo hi = false := by
 cases h' : ibB n x lo hi with
 | false => rfl
 | true => have := ibB_t.1 h' k hk; omega
theorem ibB_fit (n : Nat) (c : Nat -> Int) (m : Nat) (f : Nat -> Int) (lo hi : Int) : ibB n (fun k => bhV c m f k) lo hi = fitB n c m f lo hi := by
 cases h : fitB n c m f lo hi with
 | true => exact ibB_t.2 (fitB_t.1 h)
 | false =>
   cases h' : ibB n (fun k => bhV c m f k) lo hi with
   | false => rfl
   | true => rw [fitB_t.2 (ibB_t.1 h')] at h; cases h
def ribS : Spec [inSh, .int .i64, .int .i64] := ⟨fun ((n, _), _) => n <= 4611686018427387904, fun ((n, x), (lo : Int), (hi : Int), _) => .sb (ibB n (fun k => (x k).1) lo hi)⟩
def ribI : DatL [inSh, .int .i64, .int .i64] -> Anns := fun ((n, x), (lo : Int), (hi : Int), _) => [
 (2, [], fun fr hp => ⟨Nat, fun g => ⟨frI [.k 7, .s (.si .i64 (icast g)), .t 20] fr, hp⟩, Nat × Nat × (Nat -> Bool), fun g => (n, g, ibX (fun k => (x k).1) lo hi), fun (n, g, p) => g <= n /\ ∀ k, k < g -> p k = false, fun g => nsub n g⟩)]
set_option maxRecDepth 100000 in
theorem rib_ok : FnSpec Try.prog 54 _ ribS := by
 refine FnSpec.of SI3_ok mixed (U := 0) (I := ribI) Try.func54 rfl (by kernel_rfl) rfl rfl (by decide +kernel) ?_
 rintro ⟨⟨n, x'⟩, (lo : Int), (hi : Int), ⟨⟩⟩ (hn : n <= 4611686018427387904)
 obtain ⟨x, rfl⟩ : ∃ x : Nat -> Int, x' = fun k => (x k, ()) := ⟨fun k => (x' k).1, rfl⟩
 unfold FnSat
 conv => arg 2; reduce
 simp [ribS, ElEq, getB, goneB, aliveB, and_assoc]
 have e1 : (fun k => x k) = x := rfl
 simp only [e1]
 have nx : ∀ g, (∀ k, k < g -> ibX x lo hi k = false) -> lo <= x g -> x g <= hi -> ∀ k, k < g + 1 -> ibX x lo hi k = false := fun g hall a b k hk => by
  by_cases e : k = g
  ·subst e; exact ibX_f.2 ⟨a, b⟩
  ·exact hall k (by omega)
 exact ⟨⟨0, rfl, by omega, fun k hk => by omega⟩, fun g hg hall => ⟨fun hlt => ⟨hlt, fun _ => hlt, fun hb => ibB_f hlt hb, fun a b => ⟨by omega, by omega, g + 1, by omega, by omega, nx g hall a b, by omega⟩⟩, fun hge => ibB_t.2 fun k hk => ibX_f.1 (hall k (by omega))⟩⟩
def rtkS : Spec [inSh] := ⟨fun ((m, f), _) => m <= 30 /\ ∀ k, k < m -> -2000 <= (f k).1 /\ (f k).1 <= 2000, fun ((m, f), _) => .si .i64 (tckN (fun k => (f k).1) m)⟩
def rtkI : DatL [inSh] -> Anns := fun ((m, f), _) => [
 (3, [], fun fr hp => ⟨Nat, fun g => ⟨frI [.k 3, .s (.si .i64 (tckN (fun k => (f k).1) g)), .s (.si .i64 (icast g)), .t 14] fr, hp⟩, Nat × Nat, fun g => (m, g), fun (m, g) => g <= m, fun g => nsub m g⟩)]
set_option maxRecDepth 100000 in
theorem rtk_ok : FnSpec Try.prog 17 _ rtkS := by
 refine FnSpec.of SI3_ok mixed (U := 0) (I := rtkI) Try.func17 rfl (by kernel_rfl) rfl rfl (by decide +kernel) ?_
 rintro ⟨⟨m, f'⟩, ⟨⟩⟩ ⟨(hm : m <= 30), (h : ∀ k, k < m -> -2000 <= (f' k).1 /\ (f' k).1 <= 2000)⟩
 obtain ⟨f, rfl⟩ : ∃ f : Nat -> Int, f' = fun k => (f k, ()) := ⟨fun k => (f' k).1, rfl⟩
 have h : ∀ k, k < m -> -2000 <= f k /\ f k <= 2000 := h
 unfold FnSat
 conv => arg 2; reduce
 simp [rtkS, amS, ElEq, getB, goneB, aliveB, and_assoc]
 have e : (fun k => f k) = f := rfl
 simp only [e]
 exact ⟨⟨0, by simp, rfl, by omega⟩, fun g hg => ⟨fun hlt => by
  have a := h g hlt
  exact ⟨hlt, by omega, by omega, by omega, by omega, g + 1, by simp, by omega, by omega, by omega⟩, fun hge => by rw [show g = m by omega]⟩⟩
def rmvS : Spec [inSh] := ⟨fun ((m, f), _) => m <= 30 /\ ∀ k, k < m -> -2000 <= (f k).1 /\ (f k).1 <= 2000, fun ((m, f), _) => .si .i64 (movN (fun k => (f k).1) m)⟩
def rmvI : DatL [inSh] -> Anns := fun ((m, f), _) => [
 (3, [], fun fr hp => ⟨Nat, fun g => ⟨frI [.k 3, .s (.si .i64 (movN (fun k => (f k).1) g)), .s (.si .i64 (icast g)), .t 13] fr, hp⟩, Nat × Nat, fun g => (m, g), fun (m, g) => g <= m, fun g => nsub m g⟩)]
set_option maxRecDepth 100000 in
theorem rmv_ok : FnSpec Try.prog 16 _ rmvS := by
 refine FnSpec.of SI3_ok mixed (U := 0) (I := rmvI) Try.func16 rfl (by kernel_rfl) rfl rfl (by decide +kernel) ?_
 rintro ⟨⟨m, f'⟩, ⟨⟩⟩ ⟨(hm : m <= 30), (h : ∀ k, k < m -> -2000 <= (f' k).1 /\ (f' k).1 <= 2000)⟩
 obtain ⟨f, rfl⟩ : ∃ f : Nat -> Int, f' = fun k => (f k, ()) := ⟨fun k => (f' k).1, rfl⟩
 have h : ∀ k, k < m -> -2000 <= f k /\ f k <= 2000 := h
 unfold FnSat
 conv => arg 2; reduce
 simp [rmvS, amS, ElEq, getB, goneB, aliveB, and_assoc]
 have e : (fun k => f k) = f := rfl
 simp only [e]
 exact ⟨⟨0, by simp, rfl, by omega⟩, fun g hg => ⟨fun hlt => by
  have a := h g hlt
  have b := movN_in (f := f) (M := 2000) (m := g) fun k hk => h k (by omega)
  exact ⟨hlt, by omega, by omega, by omega, by omega, by omega, by omega, g + 1, by simp, by omega, by omega, by omega⟩, fun hge => by rw [show g = m by omega]⟩⟩
noncomputable def SI4 : Sums := ⟨(16, mkSum _ rmvS) :: (17, mkSum _ rtkS) :: (54, mkSum _ ribS) :: SI3.one, SI3.two, SI3.lo, SI3.eqs, SI3.its, SI3.imm⟩
theorem SI4_ok : SumsOK Try.prog SI4 := (((SI3_ok.cons Try.func54 (by kernel_rfl) (by kernel_rfl) rib_ok).cons Try.func17 (by kernel_rfl) (by kernel_rfl) rtk_ok).cons Try.func16 (by kernel_rfl) (by kernel_rfl) rmv_ok)
set_option maxRecDepth 100000 in
theorem rcq_ok : FnSpec Try.prog 22 _ cqS := by
 refine FnSpec.of SI4_ok mixed (U := 0) (I := fun _ => []) Try.func22 rfl (by kernel_rfl) rfl rfl (by decide +kernel) ?_
 rintro ⟨⟨n, c'⟩, (lo : Int), (hi : Int), ⟨⟨m, f'⟩, (t : Int), (a : Int), (b : Int), ⟨⟩⟩, ⟨⟩⟩ -
 obtain ⟨c, rfl⟩ : ∃ c : Nat -> Int, c' = fun k => (c k, ()) := ⟨fun k => (c' k).1, rfl⟩
 obtain ⟨f, rfl⟩ : ∃ f : Nat -> Int, f' = fun k => (f k, ()) := ⟨fun k => (f' k).1, rfl⟩
 unfold FnSat
 conv => arg 2; reduce
 simp [cqS, rbdS, rflS, neS, rbS, bhS, ribS, rtkS, ElEq, getB, goneB, aliveB, and_assoc]
 have e1 : (fun k => c k) = c := rfl
 have e2 : (fun k => f k) = f := rfl
 simp only [e1, e2]
 refine ⟨fun h => (cqE_bd h).symm, fun h => ?_⟩
 obtain ⟨hl, b1, b2, b3⟩ := bdE_0.1 h
 obtain ⟨l1, l2, l3⟩ := lvE_0.1 hl
 refine ⟨by omega, fun h' => ⟨by omega, (cqE_fl h h').symm⟩, fun h' => ?_⟩
 obtain ⟨q1, q2⟩ := flE_0.1 h'
 rw [cqE_t h h', ibB_fit]
 refine ⟨fun hb => (cqT_3 (by omega)).symm, fun a1 a2 a3 => ?_⟩
 have hnd : neE n c lo hi a b = 0 ↔ ndB n c lo hi a.toNat b.toNat = true := ⟨fun e => (neE_0.1 e).2.2, fun e => neE_ok h ⟨a1, a2, a3⟩ e⟩
 refine ⟨fun _ => ⟨l2, by omega, l3, q2⟩, fun _ => by omega, fun _ _ => ⟨by omega, q2⟩, fun hx => (cqT_19 ⟨a1, a2, a3⟩ fun hh => ?_).symm, fun x1 x2 x3 x4 => (cqT_0 ⟨a1, a2, a3⟩ ⟨hnd.1 x1, x2, x3.symm, by rw [okI_0 x1] at x4; exact x4.symm⟩).symm⟩
 obtain ⟨y1, y2, y3, y4⟩ := hh
 rw [okI_0 (hnd.2 y1), y2] at hx
 rcases hx with ((hx | hx) | hx) | hx
 ·exact hx (hnd.2 y1)
 ·cases hx
 ·exact hx y3.symm
 ·exact hx y4.symm
noncomputable def SI5 : Sums := ⟨(22, mkSum _ cqS) :: SI4.one, SI4.two, SI4.lo, SI4.eqs, SI4.its, SI4.imm⟩
theorem SI5_ok : SumsOK Try.prog SI5 := (SI4_ok.cons Try.func22 (by kernel_rfl) (by kernel_rfl) rcq_ok)
end
end Abs
end Go.Proofs.Ytdhbbdljiidgiaa

namespace Go.Proofs.Ytdhbbdljiidgiaa
namespace Abs
open Go Go.RowKit
theorem tckN_ge {f : Nat -> Int} : ∀ {m k : Nat}, k < m -> amt (f k) <= tckN f m
 | 0, k, h => by omega
 | m + 1, k, h => by
   rw [tckN_succ]
   by_cases e : k = m
   ·subst e; omega
   ·have := tckN_ge (f := f) (show k < m by omega); omega
theorem tckN_nn {f : Nat -> Int} : ∀ {m : Nat}, 0 <= tckN f m
 | 0 => by simp
 | m + 1 => by have := tckN_nn (f := f) (m := m); rw [tckN_succ]; omega
theorem tckN_le {f : Nat -> Int} {M : Int} (h0 : 0 <= M) : ∀ {m : Nat}, (∀ k, k < m -> -M <= f k /\ f k <= M) -> tckN f m <= M := fun h => (tckN_in h0 h).2
theorem fit_brings {n : Nat} {c f : Nat -> Int} {lo hi : Int} (hn : 0 < n) (h : fitB n c (n - 1) f lo hi = true) : Brings n c (inAt (n - 1) f) lo hi (tckN f (n - 1)) := by
 have h1 := fitB_t.1 h
 have hb : ∀ i, -(tckN f (n - 1)) <= flAt (n - 1) f i /\ flAt (n - 1) f i <= tckN f (n - 1) := fun i => by
  have h0 := tckN_nn (f := f) (m := n - 1)
  by_cases hi' : i < n - 1
  ·have := tckN_ge (f := f) hi'
   rw [amt_eq] at this
   rw [flAt_in hi']; omega
  ·rw [flAt_out (by omega)]; omega
 refine ⟨inAt_zero .., ?_, fun i hi' => ?_, fun i hi' => ?_⟩
 ·obtain ⟨k, rfl⟩ : ∃ k, n = k + 1 := ⟨n - 1, by omega⟩
  rw [inAt_succ, flAt_out (by omega)]
 ·cases i with
  | zero => rw [inAt_zero]; have := tckN_nn (f := f) (m := n - 1); omega
  | succ i => rw [inAt_succ]; exact hb i
 ·have := h1 i hi'
  rw [bhV_eq] at this
  rw [inAt_succ]; exact this
theorem fit_nd {n : Nat} {c f : Nat -> Int} {lo hi : Int} (h : fitB n c (n - 1) f lo hi = true) {a b : Nat} (hab : a <= b) (hb : b < n) : ndN n c lo hi a b <= tckN f (n - 1) /\ ndB n c lo hi a b = true := by
 have hB := brings_exc (fit_brings (by omega) h) tckN_nn hab hb
 have k := exc_nd tckN_nn hab hB
 refine ⟨k.1, ?_⟩
 by_cases e : endsN n a b = 0
 ·exact k.2 e
 ·exact ndB_n e
structure QPlan (n : Nat) (c : Nat -> Int) (lo hi : Int) : Prop where
 L : qckL n c lo hi = n - 1
 b : ∀ k, k < n - 1 -> -1600 <= qckF n c lo hi k /\ qckF n c lo hi k <= 1600
 fit : fitB n c (n - 1) (qckF n c lo hi) lo hi = true
 t : tckN (qckF n c lo hi) (n - 1) = qckT n c lo hi
 tb : 0 <= qckT n c lo hi /\ qckT n c lo hi <= 1600
theorem few_split {n : Nat} {c : Nat -> Int} {lo hi : Int} (h : fewE n c lo hi = 0) : (0 < n /\ n <= 16 /\ ∀ k, k < n -> 0 <= c k /\ c k <= 100) /\ 0 <= lo /\ lo <= hi /\ hi <= 100 /\ posB n c lo hi = true := by
 obtain ⟨hb, hp⟩ := fewE_0.1 h
 obtain ⟨hl, b1, b2, b3⟩ := bdE_0.1 hb
 obtain ⟨l1, l2, l3⟩ := lvE_0.1 hl
 exact ⟨⟨by omega, l2, l3⟩, b1, b2, b3, hp⟩
theorem qPlan {n : Nat} {c : Nat -> Int} {lo hi : Int} (h : fewE n c lo hi = 0) : QPlan n c lo hi := by
 obtain ⟨⟨l1, l2, l3⟩, b1, b2, b3, hp⟩ := few_split h
 have hq := qAt_in (c := c) (lo := lo) (hi := hi) l2 l3 b1 (by omega) (by omega) b3 n 0 (fun _ => by omega) (Nat.le_refl _) (fun _ => rfl)
 rw [<- qckT_eq] at hq
 have hs : slB n c lo hi (qckT n c lo hi) = true := (slB_q b2 hq.1 l1).2 ⟨hp, Int.le_refl _⟩
 have hB := slN_brings b2 hq.1 hs
 have hF : ∀ k, qckF n c lo hi k = slN n c lo hi (qckT n c lo hi) (k + 1) := fun k => by unfold qckF; rw [slF_eq]
 have hI : ∀ i, i <= n -> inAt (n - 1) (qckF n c lo hi) i = slN n c lo hi (qckT n c lo hi) i := fun i hi' => by
  cases i with
  | zero => rw [inAt_zero, slN_zero]
  | succ i =>
    rw [inAt_succ]
    by_cases e : i < n - 1
    ·rw [flAt_in e, hF]
    ·rw [flAt_out (by omega), show i + 1 = n by omega, hB.zn]
 have hfit : fitB n c (n - 1) (qckF n c lo hi) lo hi = true := fitB_t.2 fun k hk => by
  have := hB.l k hk
  rw [bhV_eq, <- inAt_succ, hI k (by omega), hI (k + 1) (by omega)]; exact this
 have hb : ∀ k, k < n - 1 -> -(qckT n c lo hi) <= qckF n c lo hi k /\ qckF n c lo hi k <= qckT n c lo hi := fun k hk => by rw [hF]; exact hB.b (k + 1) (by omega)
 obtain ⟨x, y, q⟩ := qMax (c := c) (lo := lo) (hi := hi) l1
 have h1 := (fit_nd hfit q.xy q.yn).1
 rw [<- q.t] at h1
 have h2 := tckN_le hq.1 hb
 exact ⟨by unfold qckL; rw [okN_0 h, slL_t hs], fun k hk => by have := hb k hk; omega, hfit, by omega, hq⟩
theorem qck_checks {n : Nat} {c : Nat -> Int} {lo hi : Int} (h : fewE n c lo hi = 0) : cqE n c lo hi (n - 1) (qckF n c lo hi) (qckT n c lo hi) (qF n c lo hi n 0) (qO n c lo hi n 0) = 0 := by
 obtain ⟨⟨l1, l2, l3⟩, b1, b2, b3, hp⟩ := few_split h
 have P := qPlan h
 obtain ⟨x, y, q⟩ := qMax (c := c) (lo := lo) (hi := hi) l1
 have hfl : flE n (n - 1) (qckF n c lo hi) = 0 := flE_0.2 ⟨by omega, fun k hk => by have := P.b k hk; omega⟩
 rw [cqE_t (fewE_0.1 h).1 hfl, q.F, q.O]
 have := q.xy
 have := q.yn
 refine cqT_0 ⟨by omega, by omega, by omega⟩ ⟨?_, P.fit, P.t, ?_⟩
 ·simp only [Int.toNat_natCast]; exact (fit_nd P.fit q.xy q.yn).2
 ·simp only [Int.toNat_natCast]; exact q.t.symm
end Abs
end Go.Proofs.Ytdhbbdljiidgiaa

namespace Go.Proofs.Ytdhbbdljiidgiaa
namespace Abs
open Go Go.RowKit
noncomputable section
@[reducible] def bySh : Sh := .slice 1 [.int .u8]
@[irreducible] def smN (q : Nat) (many : Int) : Nat := if (q : Int) < many - 1 then q + 1 else many.toNat
theorem smN_eq (q : Nat) (many : Int) : smN q many = if (q : Int) < many - 1 then q + 1 else many.toNat := by unfold smN; rfl
@[irreducible] def smC (l : Nat -> Int) (lo most : Int) (k : Nat) : Int := if k = 0 then lo % (most + 1) else l (k - 1) % (most + 1)
theorem smC_0 (l : Nat -> Int) (lo most : Int) : smC l lo most 0 = lo % (most + 1) := by unfold smC; rfl
theorem smC_s (l : Nat -> Int) (lo most : Int) (k : Nat) : smC l lo most (k + 1) = l k % (most + 1) := by unfold smC; rw [if_neg (by omega), Nat.add_sub_cancel]
theorem smC_in {l : Nat -> Int} {lo most : Int} (h : 0 <= most) (k : Nat) : 0 <= smC l lo most k /\ smC l lo most k <= most := by
 unfold smC
 split
 ·exact ⟨Int.emod_nonneg _ (by omega), by have := Int.emod_lt_of_pos lo (show 0 < most + 1 by omega); omega⟩
 ·exact ⟨Int.emod_nonneg _ (by omega), by have := Int.emod_lt_of_pos (l (k - 1)) (show 0 < most + 1 by omega); omega⟩
@[irreducible] def smA (lo most : Int) : Int := (lo / 16) % (most + 1)
theorem smA_eq (lo most : Int) : smA lo most = (lo / 16) % (most + 1) := by unfold smA; rfl
theorem smA_in {lo most : Int} (h : 0 <= most) : 0 <= smA lo most /\ smA lo most <= most := by
 rw [smA_eq]
 exact ⟨Int.emod_nonneg _ (by omega), by have := Int.emod_lt_of_pos (lo / 16) (show 0 < most + 1 by omega); omega⟩
@[irreducible] def smZ (lo most wide : Int) : Int := min most (smA lo most + wide % 3)
theorem smZ_eq (lo most wide : Int) : smZ lo most wide = min most (smA lo most + wide % 3) := by unfold smZ; rfl
def smlS : Spec [bySh, .int .i64, .int .i64, .int .u8, .int .u8] := ⟨fun ((q, l), (many : Int), (most : Int), (lo : Int), (wide : Int), _) => q <= maxLen /\ 1 <= many /\ many <= 16 /\ 0 <= most /\ most <= 100 /\ 0 <= lo /\ lo <= 255 /\ 0 <= wide /\ wide <= 255 /\ ∀ k, k < q -> 0 <= (l k).1 /\ (l k).1 <= 255,
 fun ((q, l), (many : Int), (most : Int), (lo : Int), (wide : Int), _) => .tup [.slc (.sym (smN q many)) 1 (fun k => [.si .i64 (smC (fun k => (l k).1) lo most k)]), .si .i64 (smA lo most), .si .i64 (smZ lo most wide)]⟩
def smlI : DatL [bySh, .int .i64, .int .i64, .int .u8, .int .u8] -> Anns := fun ((q, l), (many : Int), (most : Int), (lo : Int), (wide : Int), _) => [
 (3, [], fun fr hp => ⟨Nat, fun g => ⟨frI [.k 14, .s (.si .i64 (icast g)), .k 6, .t 39] fr, setB hp 0 (.row 3 1 (.sym (nadd g 1)) (fun k => [.si .i64 (smC (fun k => (l k).1) lo most k)]))⟩, Nat × Int × Nat, fun g => (q, many, g), fun (q, (many : Int), g) => g <= q /\ (g : Int) <= many - 1, fun g => nsub 16 g⟩)]
theorem tmod_e {a b : Int} (h : 0 <= a) : a.tmod b = a % b := Int.tmod_eq_emod_of_nonneg h
set_option maxRecDepth 100000 in
theorem sml_ok : FnSpec Try.prog 12 _ smlS := by
 refine FnSpec.of SI5_ok mixed (U := 0) (I := smlI) Try.func12 rfl (by kernel_rfl) rfl rfl (by decide +kernel) ?_
 rintro ⟨⟨q, l'⟩, (many : Int), (most : Int), (lo : Int), (wide : Int), ⟨⟩⟩ ⟨(hq : q <= maxLen), (m1 : 1 <= many), (m2 : many <= 16), (t0 : 0 <= most), (t1 : most <= 100), (o0 : 0 <= lo), (o1 : lo <= 255), (w0 : 0 <= wide), (w1 : wide <= 255), (hl : ∀ k, k < q -> 0 <= (l' k).1 /\ (l' k).1 <= 255)⟩
 obtain ⟨l, rfl⟩ : ∃ l : Nat -> Int, l' = fun k => (l k, ()) := ⟨fun k => (l' k).1, rfl⟩
 have hl : ∀ k, k < q -> 0 <= l k /\ l k <= 255 := hl
 unfold maxLen at hq
 unfold FnSat
 conv => arg 2; reduce
 simp [smlS, ElEq, getB, goneB, aliveB, maxRow, and_assoc]
 have e1 : (fun k => l k) = l := rfl
 simp only [e1]
 have hw : IntKind.u8.wrap (lo.tdiv 16) = lo / 16 := by
  rw [Int.tdiv_eq_ediv_of_nonneg o0]
  first | (rw [IntKind.wrap_u8]; omega) | exact inR_wrap (by constructor <;> simp [IntKind.min, IntKind.max, IntKind.bits] <;> omega) | exact inR_wrap (show (0 : Int) <= lo / 16 /\ lo / 16 <= 255 by omega)
 have hA := smA_in (lo := lo) t0
 have hZ := smZ_eq lo most wide
 have hw3 : wide.tmod 3 = wide % 3 := tmod_e w0
 rw [hw, tmod_e (by omega : 0 <= lo / 16), <- smA_eq, hw3]
 refine ⟨by omega, by omega, by omega, by omega, by omega, ⟨0, rfl, rfl, fun j hj => ?_, by omega, by omega⟩, fun g hg hgm => ⟨fun _ => by omega, fun hlt hlm => ?_, fun hge => ?_⟩⟩
 ·obtain rfl : j = 0 := by omega
  rw [smC_0, tmod_e o0]; rfl
 ·have a := hl g hlt
  refine ⟨hlt, by omega, by omega, by omega, by omega, by omega, by omega, by omega, by omega, g + 1, by omega, rfl, fun j hj => app_one hj (fun _ => rfl) (fun e => by subst e; rw [smC_s, tmod_e a.1]; rfl), by omega, by omega, by omega⟩
 ·refine ⟨by omega, by omega, by omega, by omega, by omega, by omega, by omega, by omega, by omega, ?_, rfl, by omega⟩
  rw [smN_eq]
  by_cases h : g < q
  ·rw [if_neg (by have := hge h; omega)]; have := hge h; omega
  ·obtain rfl : g = q := by omega
   by_cases h2 : (g : Int) < many - 1
   ·rw [if_pos h2]
   ·rw [if_neg h2]; omega
theorem smN_in {q : Nat} {many : Int} (h : 1 <= many) : 1 <= smN q many /\ (smN q many : Int) <= many := by
 rw [smN_eq]; split <;> omega
noncomputable def SJ1 : Sums := ⟨(12, mkSum _ smlS) :: SI5.one, SI5.two, SI5.lo, SI5.eqs, SI5.its, SI5.imm⟩
theorem SJ1_ok : SumsOK Try.prog SJ1 := (SI5_ok.cons Try.func12 (by kernel_rfl) (by kernel_rfl) sml_ok)
end
end Abs
end Go.Proofs.Ytdhbbdljiidgiaa

namespace Go.Proofs.Ytdhbbdljiidgiaa
namespace Abs
open Go
end Abs
end Go.Proofs.Ytdhbbdljiidgiaa

namespace Go.Proofs.Ytdhbbdljiidgiaa
namespace Abs
open Go Go.RowKit
noncomputable section
end
end Abs
end Go.Proofs.Ytdhbbdljiidgiaa

namespace Go.Proofs.Ytdhbbdljiidgiaa
namespace Abs
open Go Go.RowKit
noncomputable section
end
end Abs
end Go.Proofs.Ytdhbbdljiidgiaa

namespace Go.Proofs.Ytdhbbdljiidgiaa
namespace Abs
open Go Go.RowKit
end Abs
end Go.Proofs.Ytdhbbdljiidgiaa

namespace Go.Proofs.Ytdhbbdljiidgiaa
namespace Abs
open Go Go.RowKit
noncomputable section
@[irreducible] def mrP (x : Nat -> Int) (m : Int) (k : Nat) : Bool := decide (x k < m)
theorem mrP_f {x : Nat -> Int} {m : Int} {k : Nat} : mrP x m k = false ↔ m <= x k := by unfold mrP; simp
theorem mrP_t {x : Nat -> Int} {m : Int} {k : Nat} : mrP x m k = true ↔ x k < m := by unfold mrP; simp
@[irreducible] def mrF (n : Nat) (x : Nat -> Int) (m : Int) : Nat := firstN (mrP x m) n
@[irreducible] def mrB (n : Nat) (x : Nat -> Int) (m : Int) : Bool := decide (mrF n x m < n)
theorem mrF_at {n : Nat} {x : Nat -> Int} {m : Int} {g : Nat} (hg : g < n) (h : ∀ k, k < g -> mrP x m k = false) (h2 : x g < m) : mrF n x m = g := by
 unfold mrF
 exact firstN_uniq (by omega) h fun _ => mrP_t.2 h2
theorem mrF_no {n : Nat} {x : Nat -> Int} {m : Int} (h : ∀ k, k < n -> mrP x m k = false) : mrF n x m = n := by
 unfold mrF
 exact firstN_uniq (Nat.le_refl _) h fun hh => absurd hh (by omega)
end
end Abs
end Go.Proofs.Ytdhbbdljiidgiaa

namespace Go.Proofs.Ytdhbbdljiidgiaa
namespace Abs
open Go Go.RowKit
theorem bstN_le {c0 f lo : Int} {nx : Nat -> Int} {o : Int} : ∀ {d e : Nat}, e < d -> o = c0 + f - (lo + e) -> -1600 <= o -> o <= 1600 -> bstN c0 f lo nx d <= max o (-o) + nx (o + 1600).toNat
 | 0, e, h, _, _, _ => by omega
 | d + 1, e, h, ho, h1, h2 => by
   by_cases he : e = d
   ·subst he; rw [bstN_in ho h1 h2]; omega
   ·have ih := bstN_le (c0 := c0) (f := f) (lo := lo) (nx := nx) (d := d) (e := e) (by omega) ho h1 h2
    by_cases hc : -1600 <= c0 + f - (lo + d) /\ c0 + f - (lo + d) <= 1600
    ·rw [bstN_in rfl hc.1 hc.2]; omega
    ·rw [bstN_out rfl (by omega)]; exact ih
theorem bstN_at {c0 f lo : Int} {nx : Nat -> Int} : ∀ {d : Nat}, bstN c0 f lo nx d < 1073741824 -> ∃ e, e < d /\ (-1600 <= c0 + f - (lo + e) /\ c0 + f - (lo + e) <= 1600) /\ bstN c0 f lo nx d = max (c0 + f - (lo + e)) (-(c0 + f - (lo + e))) + nx (c0 + f - (lo + e) + 1600).toNat
 | 0, h => by rw [bstN_zero] at h; omega
 | d + 1, h => by
   by_cases hc : -1600 <= c0 + f - (lo + d) /\ c0 + f - (lo + d) <= 1600
   ·have e := bstN_in (nx := nx) (d := d) rfl hc.1 hc.2
    by_cases hm : bstN c0 f lo nx d <= max (c0 + f - (lo + d)) (-(c0 + f - (lo + d))) + nx (c0 + f - (lo + d) + 1600).toNat
    ·have e2 : bstN c0 f lo nx (d + 1) = bstN c0 f lo nx d := by rw [e]; omega
     obtain ⟨x, h1, h2, h3⟩ := bstN_at (c0 := c0) (f := f) (lo := lo) (nx := nx) (d := d) (by omega)
     exact ⟨x, by omega, h2, by rw [e2]; exact h3⟩
    ·exact ⟨d, by omega, hc, by rw [e]; omega⟩
   ·have e := bstN_out (nx := nx) (d := d) rfl (show c0 + f - (lo + d) < -1600 \/ 1600 < c0 + f - (lo + d) by omega)
    rw [e] at h
    obtain ⟨x, h1, h2, h3⟩ := bstN_at (c0 := c0) (f := f) (lo := lo) (nx := nx) (d := d) h
    exact ⟨x, by omega, h2, by rw [e]; exact h3⟩
def movF (F : Nat -> Int) (i : Nat) : Nat -> Int
 | 0 => 0
 | d + 1 => max (F (i + 1)) (-(F (i + 1))) + movF F (i + 1) d
theorem movF_sum {F : Nat -> Int} : ∀ {d i : Nat}, movF F i (d + 1) = movF F i d + max (F (i + d + 1)) (-(F (i + d + 1)))
 | 0, i => by simp [movF]
 | d + 1, i => by
   rw [movF, movF_sum (d := d) (i := i + 1), show movF F i (d + 1) = max (F (i + 1)) (-(F (i + 1))) + movF F (i + 1) d from rfl, show i + 1 + d + 1 = i + (d + 1) + 1 by omega]
   omega
theorem movF_nn {F : Nat -> Int} : ∀ {d i : Nat}, 0 <= movF F i d
 | 0, i => by simp [movF]
 | d + 1, i => by have := movF_nn (F := F) (d := d) (i := i + 1); rw [movF]; omega
theorem tab_endT {n : Nat} {c : Nat -> Int} {lo hi : Int} : tab n c lo hi n 1600 = 0 := by rw [tab_end]; unfold endT; simp
theorem tab_endN {n : Nat} {c : Nat -> Int} {lo hi : Int} {o : Int} (h : o ≠ 0) (h1 : -1600 <= o) (h2 : o <= 1600) : tab n c lo hi n (o + 1600).toNat = 1073741824 := by
 rw [tab_end]; unfold endT; rw [if_pos (by omega), if_neg (by omega)]
theorem tab_le {n : Nat} {c F : Nat -> Int} {lo hi t : Int} (h : Brings n c F lo hi t) (ht : t <= 1600) : ∀ {d i : Nat}, n - i = d -> i <= n -> tab n c lo hi i (F i + 1600).toNat <= movF F i d
 | 0, i, e, hi' => by
   obtain rfl : i = n := by omega
   rw [h.zn, show (0 + 1600 : Int).toNat = 1600 by rfl, tab_endT, movF]; exact Int.le_refl _
 | d + 1, i, e, hi' => by
   have ih := tab_le h ht (d := d) (i := i + 1) (by omega) (by omega)
   have hb := h.b i hi'
   have hb2 := h.b (i + 1) (by omega)
   have hl := h.l i (by omega)
   have ek : (((F i + 1600).toNat : Nat) : Int) - 1600 = F i := by omega
   rw [tab_at (by omega) (by omega), movF, ek]
   have key := bstN_le (c0 := c i) (f := F i) (lo := lo) (nx := tab n c lo hi (i + 1)) (o := F (i + 1)) (d := (hi - lo + 1).toNat) (e := (c i + F i - F (i + 1) - lo).toNat) (by omega) (by omega) (by omega) (by omega)
   omega
structure FPlan (n : Nat) (c : Nat -> Int) (lo hi : Int) (k : Nat) : Prop where
 s : movF (fwN n c lo hi) 0 k + tab n c lo hi k (fwN n c lo hi k + 1600).toNat = tab n c lo hi 0 1600
 l : ∀ i, i < k -> lo <= c i + fwN n c lo hi i - fwN n c lo hi (i + 1) /\ c i + fwN n c lo hi i - fwN n c lo hi (i + 1) <= hi
theorem fPlan {n : Nat} {c : Nat -> Int} {lo hi : Int} (hlh : lo <= hi) (h : tab n c lo hi 0 1600 < 1073741824) : ∀ k : Nat, k + 1 <= n -> FPlan n c lo hi k
 | 0, _ => ⟨by rw [movF, fwN_zero, show (0 + 1600 : Int).toNat = 1600 by rfl]; omega, fun i hi' => by omega⟩
 | k + 1, hk => by
   have ih := fPlan (n := n) (c := c) hlh h k (by omega)
   have hm := movF_nn (F := fwN n c lo hi) (d := k) (i := 0)
   have hF := fwN_in (n := n) (c := c) (lo := lo) (hi := hi) k
   have hs := ih.s
   have ek : (((fwN n c lo hi k + 1600).toNat : Nat) : Int) - 1600 = fwN n c lo hi k := by omega
   have hta := tab_at (n := n) (c := c) (lo := lo) (hi := hi) (i := k) (k := (fwN n c lo hi k + 1600).toNat) (by omega) (by omega)
   rw [ek] at hta
   obtain ⟨e, he, hin, hv⟩ := bstN_at (c0 := c k) (f := fwN n c lo hi k) (lo := lo) (nx := tab n c lo hi (k + 1)) (d := (hi - lo + 1).toNat) (by omega)
   have hw := wid_eq lo hi
   have hfk := fwK_eq n c lo hi k (fwN n c lo hi k)
   have hlt : fwK n c lo hi k (fwN n c lo hi k) < wid lo hi := by
    have hle := firstN_le (fwB n c lo hi k (fwN n c lo hi k)) (wid lo hi)
    rcases Nat.lt_or_ge (fwK n c lo hi k (fwN n c lo hi k)) (wid lo hi) with hh | hh
    ·exact hh
    ·have hno := firstN_not (fwB n c lo hi k (fwN n c lo hi k)) (wid lo hi) ((hi - lo).toNat - e) (by omega)
     have hyes : fwB n c lo hi k (fwN n c lo hi k) ((hi - lo).toNat - e) = true := (fwB_iff (o := c k + fwN n c lo hi k - (lo + e)) (by omega)).2 ⟨hin, by rw [hta, hv]⟩
     rw [hyes] at hno; cases hno
   have hB := firstN_is (fwB n c lo hi k (fwN n c lo hi k)) (wid lo hi) (by omega)
   rw [<- hfk] at hB
   have hS : fwN n c lo hi (k + 1) = c k + fwN n c lo hi k - (hi - fwK n c lo hi k (fwN n c lo hi k)) := by rw [fwN_succ]; exact fwS_at (Nat.le_refl _) hlt hB
   obtain ⟨b1, b2⟩ := (fwB_iff rfl).1 hB
   rw [<- hS] at b1 b2
   refine ⟨?_, fun i hi' => ?_⟩
   ·rw [movF_sum, Nat.zero_add]; omega
   ·by_cases hik : i = k
    ·subst hik; omega
    ·exact ih.l i (by omega)
structure FBest (n : Nat) (c : Nat -> Int) (lo hi : Int) : Prop where
 fit : fitB n c (n - 1) (fwF n c lo hi) lo hi = true
 le : ∀ f, fitB n c (n - 1) f lo hi = true -> movN (fwF n c lo hi) (n - 1) <= movN f (n - 1)
 t : movN (fwF n c lo hi) (n - 1) = tab n c lo hi 0 1600
 z : tab n c lo hi (n - 1) (fwN n c lo hi (n - 1) + 1600).toNat = 0
theorem movN_movF {f : Nat -> Int} {F : Nat -> Int} : ∀ {m : Nat}, (∀ k, k < m -> F (k + 1) = f k) -> movF F 0 m = movN f m
 | 0, _ => by rw [movF, movN_zero]
 | m + 1, h => by
   rw [movF_sum, movN_succ, movN_movF (m := m) fun k hk => h k (by omega), Nat.zero_add, h m (by omega), amt_eq]
theorem brings_b {n : Nat} {c F : Nat -> Int} {lo hi t : Int} (h : Brings n c F lo hi t) (hc : ∀ k, k < n -> 0 <= c k /\ c k <= 100) (l0 : 0 <= lo) (h1 : hi <= 100) : ∀ i : Nat, i <= n -> -(100 * i) <= F i /\ F i <= 100 * (i : Int)
 | 0, _ => by rw [h.z0]; simp
 | i + 1, hi' => by
   have ih := brings_b h hc l0 h1 i (by omega)
   have := h.l i (by omega)
   have := hc i (by omega)
   omega
theorem fBest {n : Nat} {c : Nat -> Int} {lo hi : Int} (h : fewE n c lo hi = 0) : FBest n c lo hi := by
 obtain ⟨⟨l1, l2, l3⟩, b1, b2, b3, hp⟩ := few_split h
 have hany : ∀ f, fitB n c (n - 1) f lo hi = true -> tab n c lo hi 0 1600 <= movN f (n - 1) /\ movN f (n - 1) <= 16 * 1600 := fun f hf => by
  have hB := fit_brings l1 hf
  have hb := brings_b hB l3 b1 b3
  have hB2 : Brings n c (inAt (n - 1) f) lo hi 1600 := ⟨hB.z0, hB.zn, fun i hi' => by have := hb i hi'; omega, hB.l⟩
  have hle := tab_le hB2 (Int.le_refl _) (d := n) (i := 0) rfl (Nat.zero_le _)
  rw [hB.z0, show (0 + 1600 : Int).toNat = 1600 by rfl] at hle
  obtain ⟨m, rfl⟩ : ∃ m, n = m + 1 := ⟨n - 1, by omega⟩
  have hz := hB.zn
  simp only [Nat.add_sub_cancel] at hle hz ⊢
  rw [movF_sum, Nat.zero_add, hz, movN_movF (f := f) fun k hk => by rw [inAt_succ, flAt_in hk]] at hle
  have hm := movN_in (f := f) (M := 1600) (m := m) fun k hk => by
   have := hb (k + 1) (by omega)
   simp only [Nat.add_sub_cancel] at this
   rw [inAt_succ, flAt_in hk] at this; omega
  exact ⟨by omega, by omega⟩
 have P := qPlan h
 have hq := hany _ P.fit
 have hfp := fPlan (n := n) (c := c) b2 (by omega) (n - 1) (by omega)
 have hs := hfp.s
 have hm := movF_nn (F := fwN n c lo hi) (d := n - 1) (i := 0)
 have hF := fwN_in (n := n) (c := c) (lo := lo) (hi := hi) (n - 1)
 have hF0 : ∀ k, fwF n c lo hi k = fwN n c lo hi (k + 1) := fun k => fwF_eq ..
 have ek : (((fwN n c lo hi (n - 1) + 1600).toNat : Nat) : Int) - 1600 = fwN n c lo hi (n - 1) := by omega
 have hta := tab_at (n := n) (c := c) (lo := lo) (hi := hi) (i := n - 1) (k := (fwN n c lo hi (n - 1) + 1600).toNat) (by omega) (by omega)
 rw [ek, show n - 1 + 1 = n by omega] at hta
 obtain ⟨e, he, hin, hv⟩ := bstN_at (c0 := c (n - 1)) (f := fwN n c lo hi (n - 1)) (lo := lo) (nx := tab n c lo hi n) (d := (hi - lo + 1).toNat) (by omega)
 have ho : c (n - 1) + fwN n c lo hi (n - 1) - (lo + e) = 0 := by
  by_cases hz : c (n - 1) + fwN n c lo hi (n - 1) - (lo + e) = 0
  ·exact hz
  ·have := tab_endN (n := n) (c := c) (lo := lo) (hi := hi) hz hin.1 hin.2
   omega
 have hz : tab n c lo hi (n - 1) (fwN n c lo hi (n - 1) + 1600).toNat = 0 := by
  rw [hta, hv, ho, show (0 + 1600 : Int).toNat = 1600 by rfl, tab_endT]; rfl
 have hmov : movN (fwF n c lo hi) (n - 1) = tab n c lo hi 0 1600 := by
  rw [<- movN_movF (F := fwN n c lo hi) (f := fwF n c lo hi) fun k _ => (hF0 k).symm]; omega
 refine ⟨fitB_t.2 fun k hk => ?_, fun f hf => by rw [hmov]; exact (hany f hf).1, hmov, hz⟩
 have hI : inAt (n - 1) (fwF n c lo hi) k = fwN n c lo hi k := by
  cases k with
  | zero => rw [inAt_zero, fwN_zero]
  | succ k => rw [inAt_succ, flAt_in (by omega), hF0]
 rw [bhV_eq, hI]
 by_cases hkn : k < n - 1
 ·rw [flAt_in hkn, hF0]; exact hfp.l k hkn
 ·obtain rfl : k = n - 1 := by omega
  rw [flAt_out (by omega)]
  omega
end Abs
end Go.Proofs.Ytdhbbdljiidgiaa

namespace Go.Proofs.Ytdhbbdljiidgiaa
namespace Abs
open Go Go.RowKit
noncomputable section
def rpvS : Spec [inSh, .int .i64, .int .i64, inSh] := ⟨fun ((n, c), (lo : Int), (hi : Int), (m, p), _) => n <= 16 /\ m = n /\ 0 <= lo /\ lo <= 100 /\ 0 <= hi /\ hi <= 100 /\ (∀ k, k < n -> 0 <= (c k).1 /\ (c k).1 <= 100) /\ ∀ k, k < m -> -16 <= (p k).1 /\ (p k).1 <= 16, fun ((n, c), (lo : Int), (hi : Int), (m, p), _) => .si .i64 (pvN (fun k => (c k).1) (fun k => (p k).1) lo hi n)⟩
def rpvI : DatL [inSh, .int .i64, .int .i64, inSh] -> Anns := fun ((n, c), (lo : Int), (hi : Int), (m, p), _) => [
 (3, [], fun fr hp => ⟨Nat, fun g => ⟨frI [.k 9, .s (.si .i64 (pvN (fun k => (c k).1) (fun k => (p k).1) lo hi g)), .s (.si .i64 (icast g)), .t 32] fr, hp⟩, Nat × Nat, fun g => (n, g), fun (n, g) => g <= n, fun g => nsub n g⟩)]
set_option maxRecDepth 100000 in
theorem rpv_ok : FnSpec Try.prog 33 _ rpvS := by
 refine FnSpec.of SJ1_ok mixed (U := 0) (I := rpvI) Try.func33 rfl (by kernel_rfl) rfl rfl (by decide +kernel) ?_
 rintro ⟨⟨n, c'⟩, (lo : Int), (hi : Int), ⟨m, p'⟩, ⟨⟩⟩ ⟨(h1 : n <= 16), (h2 : m = n), (l0 : 0 <= lo), (l1 : lo <= 100), (u0 : 0 <= hi), (u1 : hi <= 100), (h3 : ∀ k, k < n -> 0 <= (c' k).1 /\ (c' k).1 <= 100), (h4 : ∀ k, k < m -> -16 <= (p' k).1 /\ (p' k).1 <= 16)⟩
 obtain ⟨c, rfl⟩ : ∃ c : Nat -> Int, c' = fun k => (c k, ()) := ⟨fun k => (c' k).1, rfl⟩
 obtain ⟨p, rfl⟩ : ∃ p : Nat -> Int, p' = fun k => (p k, ()) := ⟨fun k => (p' k).1, rfl⟩
 subst h2
 have h3 : ∀ k, k < m -> 0 <= c k /\ c k <= 100 := h3
 have h4 : ∀ k, k < m -> -16 <= p k /\ p k <= 16 := h4
 unfold FnSat
 conv => arg 2; reduce
 simp [rpvS, ElEq, getB, goneB, aliveB, and_assoc]
 have e1 : (fun k => c k) = c := rfl
 have e2 : (fun k => p k) = p := rfl
 simp only [e1, e2]
 refine ⟨⟨0, by simp, rfl, by omega⟩, fun g hg => ⟨fun hlt => ?_, fun hge => by rw [show g = m by omega]⟩⟩
 have a := h4 g hlt
 have b := h3 g hlt
 have m1 := mul_B (X := 16) (Y := 100) a (y := c g) (by omega)
 have m2 := mul_B (X := 16) (Y := 100) a (y := lo) (by omega)
 have m3 := mul_B (X := 16) (Y := 100) a (y := hi) (by omega)
 have d := pvN_in (c := c) (p := p) ⟨l0, l1⟩ ⟨u0, u1⟩ (n := g) fun k hk => ⟨h4 k (by omega), h3 k (by omega)⟩
 have e := pvN_succ c p lo hi g
 rw [pvK_eq] at e
 repeat' refine And.intro ?_ ?_
 all_goals first | omega | exact ⟨g + 1, e.symm, by omega, by omega, by omega⟩
noncomputable def SK1 : Sums := ⟨(33, mkSum _ rpvS) :: SJ1.one, SJ1.two, SJ1.lo, SJ1.eqs, SJ1.its, SJ1.imm⟩
theorem SK1_ok : SumsOK Try.prog SK1 := (SJ1_ok.cons Try.func33 (by kernel_rfl) (by kernel_rfl) rpv_ok)
end
end Abs
end Go.Proofs.Ytdhbbdljiidgiaa

namespace Go.Proofs.Ytdhbbdljiidgiaa
namespace Abs
open Go Go.RowKit
def shF (F : Nat -> Int) (s : Int) (a b k : Nat) : Int := if a <= k /\ k < b then F k + s else F k
def shG (F : Nat -> Int) (s : Int) (k : Nat) : Int := max (F k + s) (-(F k + s)) - max (F k) (-(F k))
theorem shf_mov {F : Nat -> Int} {s : Int} {a b : Nat} (h : a <= b) : ∀ m : Nat, movN (shF F s a b) m = movN F m + (sumN (shG F s) (min m b) - sumN (shG F s) (min m a))
 | 0 => by simp
 | m + 1 => by
   have ih := shf_mov (F := F) (s := s) h m
   rw [movN_succ, movN_succ, ih, amt_eq, amt_eq]
   by_cases h1 : m < a
   ·rw [show min (m + 1) b = m + 1 by omega, show min (m + 1) a = m + 1 by omega, show min m b = m by omega, show min m a = m by omega]
    unfold shF; rw [if_neg (by omega)]; omega
   ·by_cases h2 : m < b
    ·rw [show min (m + 1) b = m + 1 by omega, show min (m + 1) a = a by omega, show min m b = m by omega, show min m a = a by omega, sumN_succ]
     unfold shF; rw [if_pos (by omega)]
     have : shG F s m = max (F m + s) (-(F m + s)) - max (F m) (-(F m)) := rfl
     omega
    ·rw [show min (m + 1) b = b by omega, show min (m + 1) a = a by omega, show min m b = b by omega, show min m a = a by omega]
     unfold shF; rw [if_neg (by omega)]; omega
theorem shf_bh {n : Nat} {c F : Nat -> Int} {s : Int} {a b k : Nat} (hb : b + 1 <= n) (hk : k < n) (hab : a < b) :
  bhV c (n - 1) (shF F s a b) k = bhV c (n - 1) F k + (if k = a then -s else if k = b then s else 0) := by
 rw [bhV_eq, bhV_eq]
 have hin : inAt (n - 1) (shF F s a b) k = inAt (n - 1) F k + (if a + 1 <= k /\ k < b + 1 then s else 0) := by
  cases k with
  | zero => rw [inAt_zero, inAt_zero, if_neg (by omega)]; rfl
  | succ k =>
    rw [inAt_succ, inAt_succ, flAt_in (by omega), flAt_in (by omega)]
    unfold shF
    by_cases h : a <= k /\ k < b
    ·rw [if_pos h, if_pos (by omega)]
    ·rw [if_neg h, if_neg (by omega)]; omega
 have hout : flAt (n - 1) (shF F s a b) k = flAt (n - 1) F k + (if a <= k /\ k < b then s else 0) := by
  by_cases hkn : k < n - 1
  ·rw [flAt_in hkn, flAt_in hkn]
   unfold shF
   split <;> omega
  ·rw [flAt_out (by omega), flAt_out (by omega), if_neg (by omega)]; rfl
 rw [hin, hout]
 by_cases e1 : k = a
 ·subst e1; rw [if_neg (by omega), if_pos (by omega), if_pos rfl]; omega
 ·by_cases e2 : k = b
  ·subst e2; rw [if_pos (by omega), if_neg (by omega), if_neg e1, if_pos rfl]; omega
  ·rw [if_neg e1, if_neg e2]
   by_cases h : a <= k /\ k < b
   ·rw [if_pos (by omega), if_pos h]; omega
   ·rw [if_neg (by omega), if_neg h]; omega
structure OptF (n : Nat) (c F : Nat -> Int) (lo hi : Int) : Prop where
 fit : ∀ k, k < n -> lo <= bhV c (n - 1) F k /\ bhV c (n - 1) F k <= hi
 le : ∀ f, fitB n c (n - 1) f lo hi = true -> movN F (n - 1) <= movN f (n - 1)
theorem opt_no {n : Nat} {c F : Nat -> Int} {lo hi s : Int} {a b : Nat} (O : OptF n c F lo hi) (hb : b + 1 <= n) (hab : a < b)
  (ha : lo <= bhV c (n - 1) F a - s /\ bhV c (n - 1) F a - s <= hi) (hb2 : lo <= bhV c (n - 1) F b + s /\ bhV c (n - 1) F b + s <= hi) : 0 <= sumN (shG F s) b - sumN (shG F s) a := by
 have h := O.le (shF F s a b) (fitB_t.2 fun k hk => by
  have hf := O.fit k hk
  rw [shf_bh hb hk hab]
  by_cases e1 : k = a
  ·subst e1; rw [if_pos rfl]; omega
  ·by_cases e2 : k = b
   ·subst e2; rw [if_neg e1, if_pos rfl]; omega
   ·rw [if_neg e1, if_neg e2]; omega)
 rw [shf_mov (Nat.le_of_lt hab), show min (n - 1) b = b by omega, show min (n - 1) a = a by omega] at h
 omega
def dlF (F : Nat -> Int) (k : Nat) : Int := if F k < 0 then 1 else -1
def duF (F : Nat -> Int) (k : Nat) : Int := if 0 < F k then -1 else 1
def lwB (x lo : Int) : Int := if x = lo then -16 else 0
def upB (x hi : Int) : Int := if x = hi then 16 else 0
theorem shG_p {F : Nat -> Int} {k : Nat} : shG F 1 k = -dlF F k := by unfold shG dlF; split <;> omega
theorem shG_n {F : Nat -> Int} {k : Nat} : shG F (-1) k = duF F k := by unfold shG duF; split <;> omega
theorem sumN_neg {f g : Nat -> Int} (h : ∀ k, f k = -g k) : ∀ n, sumN f n = -sumN g n
 | 0 => by simp
 | n + 1 => by rw [sumN_succ, sumN_succ, sumN_neg h n, h n]; omega
theorem sumN_eqA {f g : Nat -> Int} (h : ∀ k, f k = g k) : ∀ n, sumN f n = sumN g n
 | 0 => by simp
 | n + 1 => by rw [sumN_succ, sumN_succ, sumN_eqA h n, h n]
theorem sum_step {g : Nat -> Int} (h : ∀ k, -1 <= g k /\ g k <= 1) {j : Nat} : ∀ {i : Nat}, j <= i -> -((i : Int) - j) <= sumN g i - sumN g j /\ sumN g i - sumN g j <= (i : Int) - j
 | 0, hj => by obtain rfl : j = 0 := by omega
               omega
 | i + 1, hj => by
   by_cases e : j = i + 1
   ·subst e; omega
   ·have ih := sum_step h (j := j) (i := i) (by omega)
    have := h i
    rw [sumN_succ]; omega
theorem sum_sub {f g : Nat -> Int} (h : ∀ k, f k <= g k) {j : Nat} : ∀ {i : Nat}, j <= i -> sumN f i - sumN f j <= sumN g i - sumN g j
 | 0, hj => by obtain rfl : j = 0 := by omega
               omega
 | i + 1, hj => by
   by_cases e : j = i + 1
   ·subst e; omega
   ·have ih := sum_sub h (j := j) (i := i) (by omega)
    have := h i
    rw [sumN_succ, sumN_succ]; omega
def rgA (x F : Nat -> Int) (lo : Int) : Nat -> Int
 | 0 => lwB (x 0) lo
 | i + 1 => max (rgA x F lo i + dlF F i) (lwB (x (i + 1)) lo)
def rgB (x F : Nat -> Int) (hi : Int) : Nat -> Int
 | 0 => upB (x 0) hi
 | i + 1 => min (rgB x F hi i + duF F i) (upB (x (i + 1)) hi)
theorem rgA_ch {x F : Nat -> Int} {lo : Int} : ∀ i : Nat, ∃ j, j <= i /\ rgA x F lo i = lwB (x j) lo + (sumN (dlF F) i - sumN (dlF F) j)
 | 0 => ⟨0, by omega, by rw [rgA]; omega⟩
 | i + 1 => by
   obtain ⟨j, h1, h2⟩ := rgA_ch (x := x) (F := F) (lo := lo) i
   rw [rgA]
   by_cases h : lwB (x (i + 1)) lo <= rgA x F lo i + dlF F i
   ·exact ⟨j, by omega, by rw [sumN_succ]; omega⟩
   ·exact ⟨i + 1, by omega, by omega⟩
theorem rgB_ch {x F : Nat -> Int} {hi : Int} : ∀ i : Nat, ∃ j, j <= i /\ rgB x F hi i = upB (x j) hi + (sumN (duF F) i - sumN (duF F) j)
 | 0 => ⟨0, by omega, by rw [rgB]; omega⟩
 | i + 1 => by
   obtain ⟨j, h1, h2⟩ := rgB_ch (x := x) (F := F) (hi := hi) i
   rw [rgB]
   by_cases h : rgB x F hi i + duF F i <= upB (x (i + 1)) hi
   ·exact ⟨j, by omega, by rw [sumN_succ]; omega⟩
   ·exact ⟨i + 1, by omega, by omega⟩
theorem lwB_in (x lo : Int) : -16 <= lwB x lo /\ lwB x lo <= 0 := by unfold lwB; split <;> omega
theorem upB_in (x hi : Int) : 0 <= upB x hi /\ upB x hi <= 16 := by unfold upB; split <;> omega
theorem rgA_lw {x F : Nat -> Int} {lo : Int} : ∀ i : Nat, lwB (x i) lo <= rgA x F lo i
 | 0 => by rw [rgA]; exact Int.le_refl _
 | i + 1 => by rw [rgA]; omega
theorem rgB_up {x F : Nat -> Int} {hi : Int} : ∀ i : Nat, rgB x F hi i <= upB (x i) hi
 | 0 => by rw [rgB]; exact Int.le_refl _
 | i + 1 => by rw [rgB]; omega
theorem dl_in {F : Nat -> Int} (k : Nat) : -1 <= dlF F k /\ dlF F k <= 1 := by unfold dlF; split <;> omega
theorem du_in {F : Nat -> Int} (k : Nat) : -1 <= duF F k /\ duF F k <= 1 := by unfold duF; split <;> omega
theorem dl_du {F : Nat -> Int} (k : Nat) : dlF F k <= duF F k := by unfold dlF duF; split <;> split <;> omega
theorem rg_le {n : Nat} {c F : Nat -> Int} {lo hi : Int} (O : OptF n c F lo hi) (hn : n <= 16) {i : Nat} (hi' : i < n) : rgA (bhV c (n - 1) F) F lo i <= rgB (bhV c (n - 1) F) F hi i := by
 obtain ⟨j, j1, j2⟩ := rgA_ch (x := bhV c (n - 1) F) (F := F) (lo := lo) i
 obtain ⟨k, k1, k2⟩ := rgB_ch (x := bhV c (n - 1) F) (F := F) (hi := hi) i
 have lj := lwB_in (bhV c (n - 1) F j) lo
 have uk := upB_in (bhV c (n - 1) F k) hi
 have fj := O.fit j (by omega)
 have fk := O.fit k (by omega)
 apply Classical.byContradiction
 intro hlt
 by_cases hjk : j <= k
 ·have s1 := sum_sub (f := dlF F) (g := duF F) dl_du k1
  have s2 := sum_step (g := dlF F) dl_in hjk
  have hj0 : ¬ bhV c (n - 1) F j = lo := fun e => by unfold lwB at lj j2; rw [if_pos e] at lj j2; omega
  have hk0 : ¬ bhV c (n - 1) F k = hi := fun e => by unfold upB at uk k2; rw [if_pos e] at uk k2; omega
  have e1 : lwB (bhV c (n - 1) F j) lo = 0 := by unfold lwB; rw [if_neg hj0]
  have e2 : upB (bhV c (n - 1) F k) hi = 0 := by unfold upB; rw [if_neg hk0]
  have hjk2 : j < k := by
   rcases Nat.lt_or_ge j k with h | h
   ·exact h
   ·obtain rfl : j = k := by omega
    omega
  have hno := opt_no (s := 1) O (by omega) hjk2 (by omega) (by omega)
  have a := sumN_neg (f := shG F 1) (g := dlF F) (fun k => shG_p) k
  have b := sumN_neg (f := shG F 1) (g := dlF F) (fun k => shG_p) j
  omega
 ·have s1 := sum_sub (f := dlF F) (g := duF F) dl_du j1
  have s2 := sum_step (g := duF F) du_in (show k <= j by omega)
  have hj0 : ¬ bhV c (n - 1) F j = lo := fun e => by unfold lwB at lj j2; rw [if_pos e] at lj j2; omega
  have hk0 : ¬ bhV c (n - 1) F k = hi := fun e => by unfold upB at uk k2; rw [if_pos e] at uk k2; omega
  have e1 : lwB (bhV c (n - 1) F j) lo = 0 := by unfold lwB; rw [if_neg hj0]
  have e2 : upB (bhV c (n - 1) F k) hi = 0 := by unfold upB; rw [if_neg hk0]
  have hno := opt_no (s := -1) O (a := k) (b := j) (by omega) (by omega) (by omega) (by omega)
  have a := sumN_eqA (f := shG F (-1)) (g := duF F) (fun k => shG_n) k
  have b := sumN_eqA (f := shG F (-1)) (g := duF F) (fun k => shG_n) j
  omega
theorem can_ft {a f : Nat -> Int} {lo hi : Int} {i p : Nat} (h : canV a f lo hi i p = true) : ftB (a i) ((p : Int) - 16) lo hi = true := by
 cases e : ftB (a i) ((p : Int) - 16) lo hi with
 | true => rfl
 | false => rw [canV_no e] at h; cases h
theorem can_src {a f : Nat -> Int} {lo hi : Int} {i p : Nat} (h : canV a f lo hi (i + 1) p = true) : ∃ q, q < 33 /\ canV a f lo hi i q = true /\ stB (f i) ((q : Int) - 16) ((p : Int) - 16) = true := by
 rw [canV_at (can_ft h)] at h
 unfold canS at h
 obtain ⟨q, h1, h2⟩ := anyN_iff.1 h
 unfold srcB at h2
 simp at h2
 exact ⟨q, h1, h2⟩
theorem can_of {a f : Nat -> Int} {lo hi : Int} {i p q : Nat} (h : ftB (a (i + 1)) ((p : Int) - 16) lo hi = true) (hq : q < 33) (h1 : canV a f lo hi i q = true) (h2 : stB (f i) ((q : Int) - 16) ((p : Int) - 16) = true) : canV a f lo hi (i + 1) p = true := by
 rw [canV_at h]
 unfold canS
 refine anyN_iff.2 ⟨q, hq, ?_⟩
 unfold srcB
 simp [h1, h2]
theorem can_zero {a f : Nat -> Int} {lo hi : Int} {p : Nat} (h : ftB (a 0) ((p : Int) - 16) lo hi = true) : canV a f lo hi 0 p = true := by
 rw [canV_at h]
 unfold canS
 refine anyN_iff.2 ⟨0, by omega, ?_⟩
 unfold srcB; simp
theorem ft_of {x lo hi p : Int} (h1 : lwB x lo <= p) (h2 : p <= upB x hi) : ftB x p lo hi = true := by
 refine ftB_t.2 ⟨fun h => ?_, fun h => ?_⟩
 ·unfold upB at h2; split at h2
  ·assumption
  ·omega
 ·unfold lwB at h1; split at h1
  ·assumption
  ·omega
theorem rg_can {x F : Nat -> Int} {lo hi : Int} : ∀ {i : Nat}, (∀ k, k <= i -> rgA x F lo k <= rgB x F hi k) -> ∀ {p : Nat}, rgA x F lo i <= (p : Int) - 16 -> (p : Int) - 16 <= rgB x F hi i -> canV x F lo hi i p = true
 | 0, _, p, h1, h2 => can_zero (ft_of h1 h2)
 | i + 1, hR, p, h1, h2 => by
   have hr := hR i (by omega)
   have a1 := rgA_lw (x := x) (F := F) (lo := lo) i
   have a2 := lwB_in (x i) lo
   have b1 := rgB_up (x := x) (F := F) (hi := hi) i
   have b2 := upB_in (x i) hi
   have c1 := rgA_lw (x := x) (F := F) (lo := lo) (i + 1)
   have c2 := rgB_up (x := x) (F := F) (hi := hi) (i + 1)
   have hft : ftB (x (i + 1)) ((p : Int) - 16) lo hi = true := ft_of (by omega) (by omega)
   rw [rgA] at h1
   rw [rgB] at h2
   have ih := fun q => rg_can (x := x) (F := F) (lo := lo) (hi := hi) (i := i) (fun k hk => hR k (by omega)) (p := q)
   have use : ∀ q : Int, rgA x F lo i <= q -> q <= rgB x F hi i -> stB (F i) q ((p : Int) - 16) = true -> canV x F lo hi (i + 1) p = true := fun q q1 q2 hs => by
    have e : (((q + 16).toNat : Nat) : Int) - 16 = q := by omega
    exact can_of hft (q := (q + 16).toNat) (by omega) (ih _ (by omega) (by omega)) (by rw [e]; exact hs)
   by_cases f1 : 0 < F i
   ·have d1 : dlF F i = -1 := by unfold dlF; rw [if_neg (by omega)]
    have d2 : duF F i = -1 := by unfold duF; rw [if_pos f1]
    refine use ((p : Int) - 16 + 1) (by omega) (by omega) ?_
    rw [stB_p f1]; simp; omega
   ·by_cases f2 : F i < 0
    ·have d1 : dlF F i = 1 := by unfold dlF; rw [if_pos f2]
     have d2 : duF F i = 1 := by unfold duF; rw [if_neg f1]
     refine use ((p : Int) - 16 - 1) (by omega) (by omega) ?_
     rw [stB_n f2]; simp; omega
    ·have d1 : dlF F i = -1 := by unfold dlF; rw [if_neg f2]
     have d2 : duF F i = 1 := by unfold duF; rw [if_neg f1]
     refine use (max (rgA x F lo i) (min (rgB x F hi i) ((p : Int) - 16))) (by omega) (by omega) ?_
     rw [stB_z f1 f2]
     simp only [decide_eq_true_eq]
     omega
theorem pkP_is {p : Nat -> Bool} (h : ∃ k, k < 33 /\ p k = true) : ∃ k, k < 33 /\ p k = true /\ pkP p = (k : Int) - 16 := by
 obtain ⟨k, hk, hp⟩ := h
 have hlt : firstN p 33 < 33 := by
  have hle := firstN_le p 33
  rcases Nat.lt_or_ge (firstN p 33) 33 with hh | hh
  ·exact hh
  ·rw [firstN_not p 33 k (by omega)] at hp; cases hp
 exact ⟨firstN p 33, hlt, firstN_is p 33 hlt, by unfold pkP; rw [if_pos hlt]⟩
theorem pri_ok {n : Nat} {a f : Nat -> Int} {lo hi : Int} (hl : ∃ k, k < 33 /\ canV a f lo hi (n - 1) k = true) : ∀ {d i : Nat}, n - 1 - i = d -> i < n ->
  ∃ k, k < 33 /\ canV a f lo hi i k = true /\ priV (canV a f lo hi) f n i = (k : Int) - 16 /\ (i + 1 < n -> stB (f i) (priV (canV a f lo hi) f n i) (priV (canV a f lo hi) f n (i + 1)) = true)
 | 0, i, e, h => by
   obtain rfl : i = n - 1 := by omega
   rw [priV_eq h]
   obtain ⟨k, h1, h2, h3⟩ := pkP_is (p := pqB (canV a f lo hi) f n (n - 1)) (by
    obtain ⟨k, h1, h2⟩ := hl
    exact ⟨k, h1, by rw [pqB_eq, h2]; simp; omega⟩)
   rw [pqB_eq] at h2
   simp only [Bool.and_eq_true] at h2
   exact ⟨k, h1, h2.1, h3, fun hh => by omega⟩
 | d + 1, i, e, h => by
   obtain ⟨k, h1, h2, h3, _⟩ := pri_ok hl (d := d) (i := i + 1) (by omega) (by omega)
   obtain ⟨q, q1, q2, q3⟩ := can_src h2
   obtain ⟨k', k1, k2, k3⟩ := pkP_is (p := pqB (canV a f lo hi) f n i) ⟨q, q1, by rw [pqB_eq, q2, h3, q3]; simp⟩
   rw [<- priV_eq h] at k3
   rw [pqB_eq] at k2
   simp only [Bool.and_eq_true, Bool.or_eq_true, decide_eq_true_eq] at k2
   refine ⟨k', k1, k2.1, k3, fun hh => ?_⟩
   rw [k3]
   rcases k2.2 with h | h
   ·omega
   ·exact h
theorem mul_fit {p x lo hi : Int} (hlh : lo <= hi) (h : ftB x p lo hi = true) : p * x = max (p * lo) (p * hi) := by
 obtain ⟨h1, h2⟩ := ftB_t.1 h
 rcases Int.lt_trichotomy p 0 with hp | hp | hp
 ·rw [h2 hp]
  have := Int.mul_le_mul_of_nonpos_left (a := p) (by omega) hlh
  omega
 ·subst hp; simp
 ·rw [h1 hp]
  have := Int.mul_le_mul_of_nonneg_left hlh (show 0 <= p by omega)
  omega
theorem mul_st {F a b : Int} (h : stB F a b = true) : (a - b) * F = max F (-F) := by
 by_cases f1 : 0 < F
 ·rw [stB_p f1] at h
  have : a - b = 1 := by simpa using h
  rw [this]; omega
 ·by_cases f2 : F < 0
  ·rw [stB_n f2] at h
   have : a - b = -1 := by simpa using h
   rw [this]; omega
  ·obtain rfl : F = 0 := by omega
   simp
theorem st_in {F a b : Int} (h : stB F a b = true) : -1 <= b - a /\ b - a <= 1 := by
 by_cases f1 : 0 < F
 ·rw [stB_p f1] at h
  have : a - b = 1 := by simpa using h
  omega
 ·by_cases f2 : F < 0
  ·rw [stB_n f2] at h
   have : a - b = -1 := by simpa using h
   omega
  ·rw [stB_z f1 f2] at h
   simp only [decide_eq_true_eq] at h
   omega
theorem strong {n : Nat} {c F p : Nat -> Int} {lo hi : Int} (hlh : lo <= hi) (hf : ∀ k, k < n -> ftB (bhV c (n - 1) F k) (p k) lo hi = true) (hs : ∀ k, k + 1 < n -> stB (F k) (p k) (p (k + 1)) = true) :
  ∀ k : Nat, k + 1 <= n -> pvN c p lo hi (k + 1) = movN F k + p k * flAt (n - 1) F k
 | 0, hk => by
   rw [pvN_succ, pvN_zero, pvK_eq, movN_zero]
   have := mul_fit hlh (hf 0 (by omega))
   rw [bhV_eq, inAt_zero] at this
   have e : p 0 * (c 0 + 0 - flAt (n - 1) F 0) = p 0 * c 0 - p 0 * flAt (n - 1) F 0 := by rw [Int.mul_sub, Int.add_zero]
   rw [e] at this
   omega
 | k + 1, hk => by
   have ih := strong hlh hf hs k (by omega)
   rw [pvN_succ, pvK_eq, movN_succ, ih, amt_eq]
   have h1 := mul_fit hlh (hf (k + 1) (by omega))
   rw [bhV_eq, inAt_succ] at h1
   have e : p (k + 1) * (c (k + 1) + flAt (n - 1) F k - flAt (n - 1) F (k + 1)) = p (k + 1) * c (k + 1) + p (k + 1) * flAt (n - 1) F k - p (k + 1) * flAt (n - 1) F (k + 1) := by rw [Int.mul_sub, Int.mul_add]
   rw [e] at h1
   have h2 := mul_st (hs k (by omega))
   rw [Int.sub_mul] at h2
   rw [flAt_in (show k < n - 1 by omega)] at h1 ⊢
   omega
structure FewK (n : Nat) (c : Nat -> Int) (lo hi : Int) : Prop where
 b : ∀ k, k < n -> -16 <= fewP n c lo hi k /\ fewP n c lo hi k <= 16
 d : ∀ k, k + 1 < n -> -1 <= fewP n c lo hi (k + 1) - fewP n c lo hi k /\ fewP n c lo hi (k + 1) - fewP n c lo hi k <= 1
 v : pvN c (fewP n c lo hi) lo hi n = movN (fwF n c lo hi) (n - 1)
theorem fewK {n : Nat} {c : Nat -> Int} {lo hi : Int} (h : fewE n c lo hi = 0) : FewK n c lo hi := by
 obtain ⟨⟨l1, l2, l3⟩, b1, b2, b3, hp⟩ := few_split h
 have B := fBest h
 have O : OptF n c (fwF n c lo hi) lo hi := ⟨fitB_t.1 B.fit, B.le⟩
 have hR := fun k (hk : k <= n - 1) => rg_le O l2 (i := k) (by omega)
 have a1 := rgA_lw (x := bhV c (n - 1) (fwF n c lo hi)) (F := fwF n c lo hi) (lo := lo) (n - 1)
 have a2 := lwB_in (bhV c (n - 1) (fwF n c lo hi) (n - 1)) lo
 have c1 := rgB_up (x := bhV c (n - 1) (fwF n c lo hi)) (F := fwF n c lo hi) (hi := hi) (n - 1)
 have c2 := upB_in (bhV c (n - 1) (fwF n c lo hi) (n - 1)) hi
 have hr := hR (n - 1) (Nat.le_refl _)
 have hcan := rg_can hR (p := (rgA (bhV c (n - 1) (fwF n c lo hi)) (fwF n c lo hi) lo (n - 1) + 16).toNat) (by omega) (by omega)
 have hpr := fun i (hi' : i < n) => pri_ok (n := n) ⟨_, by omega, hcan⟩ (d := n - 1 - i) (i := i) rfl hi'
 have hP : ∀ k, fewP n c lo hi k = priV (canV (bhV c (n - 1) (fwF n c lo hi)) (fwF n c lo hi) lo hi) (fwF n c lo hi) n k := fun k => by
  unfold fewP prc
  congr 1
  funext i p
  unfold pcT; rfl
 have hPf : fewP n c lo hi = priV (canV (bhV c (n - 1) (fwF n c lo hi)) (fwF n c lo hi) lo hi) (fwF n c lo hi) n := funext hP
 rw [<- hPf] at hpr
 refine ⟨fun k hk => ?_, fun k hk => ?_, ?_⟩
 ·obtain ⟨q, q1, _, q3, _⟩ := hpr k hk
  omega
 ·obtain ⟨q, q1, _, q3, q4⟩ := hpr k (by omega)
  exact st_in (q4 hk)
 ·have hst := strong (n := n) (c := c) (F := fwF n c lo hi) (p := fewP n c lo hi) b2 (fun k hk => by
   obtain ⟨q, q1, q2, q3, _⟩ := hpr k hk
   rw [q3]; exact can_ft q2) (fun k hk => by
   obtain ⟨q, q1, _, q3, q4⟩ := hpr k (by omega)
   exact q4 hk) (n - 1) (by omega)
  rw [show n - 1 + 1 = n by omega, flAt_out (Nat.le_refl _)] at hst
  rw [hst]; omega
theorem few_checks {n : Nat} {c : Nat -> Int} {lo hi : Int} (h : fewE n c lo hi = 0) : cfE n c lo hi (n - 1) (fwF n c lo hi) (movN (fwF n c lo hi) (n - 1)) n (fewP n c lo hi) = 0 := by
 obtain ⟨⟨l1, l2, l3⟩, b1, b2, b3, hp⟩ := few_split h
 have B := fBest h
 have K := fewK h
 have hpr : prE n n (fewP n c lo hi) = 0 := prE_0.2 ⟨rfl, fun k hk => prB_f fun hh => by
  have := K.b k hk
  rcases hh with hh | ⟨h0, hh⟩
  ·omega
  ·have := K.d (k - 1) (by omega)
   rw [show k - 1 + 1 = k by omega] at this
   omega⟩
 have hfl : flE n (n - 1) (fwF n c lo hi) = 0 := flE_0.2 ⟨by omega, fun k hk => by
  rw [fwF_eq]
  have := fwN_in (n := n) (c := c) (lo := lo) (hi := hi) (k + 1)
  omega⟩
 rw [cfE_mq (fewE_0.1 h).1 hfl hpr]
 exact mqE_0 ⟨B.fit, rfl, K.v⟩
end Abs
end Go.Proofs.Ytdhbbdljiidgiaa

namespace Go.Proofs.Ytdhbbdljiidgiaa
namespace Abs
open Go Go.RowKit
noncomputable section
noncomputable def SP0 : Sums := ⟨SK1.one, SK1.two, SK1.lo, SK1.eqs, SK1.its, [27]⟩
theorem SP0_ok : SumsOK Try.prog SP0 := SK1_ok.setImm _
theorem prB_in {p : Nat -> Int} {k : Nat} (h : prB p k = false) : (-16 <= p k /\ p k <= 16) /\ (0 < k -> max (p k - p (k - 1)) (-(p k - p (k - 1))) <= 1) := by
 have h1 : ¬ (16 < max (p k) (-(p k)) \/ (0 < k /\ 1 < max (p k - p (k - 1)) (-(p k - p (k - 1))))) := fun hh => by rw [prB_t.2 hh] at h; cases h
 exact ⟨by omega, fun h0 => by omega⟩
theorem prB_of {p : Nat -> Int} {k : Nat} (h : (p k < -16 \/ 16 < p k) \/ 0 < k /\ 1 < max (p k - p (k - 1)) (-(p k - p (k - 1)))) : prB p k = true := prB_t.2 (by omega)
theorem prB_no {p : Nat -> Int} {k : Nat} (h1 : -16 <= p k) (h2 : p k <= 16) (h3 : 0 < k -> max (p k - p (k - 1)) (-(p k - p (k - 1))) <= 1) : prB p k = false := prB_f (by omega)
theorem prB_ar {p : Nat -> Int} {q g : Nat} (h1 : ∀ k, k < q -> -1000 <= p k /\ p k <= 1000) (hg : g < q) : -2000 <= p g - p (g - 1) /\ p g - p (g - 1) <= 2000 := by
 have a := h1 g hg
 have b := h1 (g - 1) (by omega)
 omega
def rcfI : DatL [inSh, .int .i64, .int .i64, .agg mvL] -> Anns := fun ((n, c), (lo : Int), (hi : Int), ((m, f), (t : Int), (q, p), _), _) => [
 (8, [], fun fr hp => ⟨Nat, fun k => ⟨frI [.k 9, .s (.si .i64 (icast k)), .k 26, .t 67] fr, hp⟩, Nat × Nat × (Nat -> Bool), fun k => (n, k, prB (fun k => (p k).1)), fun (n, k, b) => k <= n /\ ∀ j, j < k -> b j = false, fun k => nsub n k⟩)]
set_option maxRecDepth 100000 in
set_option maxHeartbeats 2000000 in
theorem rcf_ok : FnSpec Try.prog 21 _ cfS := by
 refine FnSpec.of SP0_ok mixed (U := 0) (I := rcfI) Try.func21 rfl (by kernel_rfl) rfl rfl (by decide +kernel) ?_
 rintro ⟨⟨n, c'⟩, (lo : Int), (hi : Int), ⟨⟨m, f'⟩, (t : Int), ⟨q, p'⟩, ⟨⟩⟩, ⟨⟩⟩ ⟨(hq9 : q <= 4611686018427387904), (h1 : ∀ k, k < q -> -1000 <= (p' k).1 /\ (p' k).1 <= 1000)⟩
 obtain ⟨c, rfl⟩ : ∃ c : Nat -> Int, c' = fun k => (c k, ()) := ⟨fun k => (c' k).1, rfl⟩
 obtain ⟨f, rfl⟩ : ∃ f : Nat -> Int, f' = fun k => (f k, ()) := ⟨fun k => (f' k).1, rfl⟩
 obtain ⟨p, rfl⟩ : ∃ p : Nat -> Int, p' = fun k => (p k, ()) := ⟨fun k => (p' k).1, rfl⟩
 have h1 : ∀ k, k < q -> -1000 <= p k /\ p k <= 1000 := h1
 unfold FnSat
 conv => arg 2; reduce
 simp [cfS, rbdS, rflS, rbS, bhS, ribS, rmvS, rpvS, amS, ElEq, getB, goneB, aliveB, and_assoc]
 have e1 : (fun k => c k) = c := rfl
 have e2 : (fun k => f k) = f := rfl
 have e3 : (fun k => p k) = p := rfl
 simp only [e1, e2, e3]
 refine ⟨fun h => (cfE_bd h).symm, fun h => ?_⟩
 obtain ⟨hl, b1, b2, b3⟩ := bdE_0.1 h
 obtain ⟨l1, l2, l3⟩ := lvE_0.1 hl
 refine ⟨by omega, fun h' => ⟨by omega, (cfE_fl h h').symm⟩, fun h' => ⟨fun hq => ?_, fun hq => ?_⟩⟩
 ·have e := prE_20 (n := n) (q := q) (p := p) (by omega)
  rw [cfE_pr h h' (by rw [e]; omega), e]
 obtain ⟨q1, q2⟩ := flE_0.1 h'
 obtain rfl : q = n := by omega
 refine ⟨⟨0, rfl, by omega, fun j hj => by omega⟩, fun g hg hall => ⟨fun hlt => ?_, fun hge => ?_⟩⟩
 ·have ar := prB_ar h1 hlt
  refine ⟨hlt, fun _ => hlt, fun _ _ _ => hlt, fun _ _ _ => by omega, fun _ _ _ => by omega, fun _ _ _ => by omega, fun _ _ _ => by omega, fun x y z => ⟨x, y, z⟩, fun hb => ?_, fun x y z => ⟨by omega, by omega, g + 1, by omega, by omega, fun j hj => ?_, by omega⟩⟩
  ·have e := prE_2 (n := q) (q := q) rfl hlt (prB_of hb)
   rw [cfE_pr h h' (by rw [e]; omega), e]
  ·by_cases e : j = g
   ·subst e; exact prB_no x y z
   ·exact hall j (by omega)
 ·obtain rfl : g = q := by omega
  have hpr : prE g g p = 0 := prE_0.2 ⟨rfl, hall⟩
  rw [cfE_mq h h' hpr, ibB_fit]
  have hp : ∀ k, k < g -> -16 <= p k /\ p k <= 16 := fun k hk => (prB_in (hall k hk)).1
  refine ⟨l2, by omega, l3, q2, by omega, fun _ => ⟨by omega, q2⟩, fun _ _ => ⟨l2, rfl, by omega, by omega, by omega, by omega, l3, hp⟩, fun hx => (mqE_19 fun hh => ?_).symm, fun x1 x2 x3 => (mqE_0 ⟨x1, x2.symm, by rw [<- x3, <- x2]⟩).symm⟩
  obtain ⟨y1, y2, y3⟩ := hh
  rcases hx with (hx | hx) | hx
  ·rw [y1] at hx; cases hx
  ·exact hx y2.symm
  ·exact hx (by rw [y3, y2])
noncomputable def SP1 : Sums := ⟨(21, mkSum _ cfS) :: SP0.one, SP0.two, SP0.lo, SP0.eqs, SP0.its, SP0.imm⟩
theorem SP1_ok : SumsOK Try.prog SP1 := (SP0_ok.cons Try.func21 (by kernel_rfl) (by kernel_rfl) rcf_ok)
@[irreducible] def bfP (a b : Nat -> Int) (k : Nat) : Bool := !(decide (a k = b k))
theorem bfP_f {a b : Nat -> Int} {k : Nat} : bfP a b k = false ↔ a k = b k := by unfold bfP; simp
theorem bfP_t {a b : Nat -> Int} {k : Nat} : bfP a b k = true ↔ a k ≠ b k := by unfold bfP; simp
@[irreducible] def bfB (m : Nat) (a b : Nat -> Int) : Bool := decide (firstN (bfP a b) m < m) && decide (a (firstN (bfP a b) m) < b (firstN (bfP a b) m))
theorem bfB_at {m k : Nat} {a b : Nat -> Int} (hk : k < m) (h : ∀ j, j < k -> bfP a b j = false) (h2 : a k ≠ b k) : bfB m a b = decide (a k < b k) := by
 have e : firstN (bfP a b) m = k := firstN_uniq (by omega) h fun _ => bfP_t.2 h2
 unfold bfB; rw [e]; simp [hk]
theorem bfB_no {m : Nat} {a b : Nat -> Int} (h : ∀ j, j < m -> bfP a b j = false) : bfB m a b = false := by
 have e : firstN (bfP a b) m = m := firstN_uniq (Nat.le_refl _) h fun hh => absurd hh (by omega)
 unfold bfB; rw [e]; simp
theorem bfB_ex {m : Nat} {a b : Nat -> Int} (h : bfB m a b = true) : ∃ k, k < m /\ (∀ j, j < k -> a j = b j) /\ a k < b k := by
 unfold bfB at h
 simp only [Bool.and_eq_true, decide_eq_true_eq] at h
 exact ⟨_, h.1, fun j hj => bfP_f.1 (firstN_not _ _ j hj), h.2⟩
def bfS : Spec [inSh, inSh] := ⟨fun ((m, _), (q, _), _) => m = q /\ m <= maxLen, fun ((m, a), (_, b), _) => .sb (bfB m (fun k => (a k).1) (fun k => (b k).1))⟩
def bfI : DatL [inSh, inSh] -> Anns := fun ((m, a), (_, b), _) => [
 (2, [], fun fr hp => ⟨Nat, fun k => ⟨frI [.k 5, .s (.si .i64 (icast k)), .t 30] fr, hp⟩, Nat × Nat × (Nat -> Bool), fun k => (m, k, bfP (fun k => (a k).1) (fun k => (b k).1)), fun (m, k, p) => k <= m /\ ∀ j, j < k -> p j = false, fun k => nsub m k⟩)]
set_option maxRecDepth 100000 in
theorem bf_ok : FnSpec Try.prog 18 _ bfS := by
 refine FnSpec.of SP1_ok mixed (U := 0) (I := bfI) Try.func18 rfl (by kernel_rfl) rfl rfl (by decide +kernel) ?_
 rintro ⟨⟨m, a'⟩, ⟨q, b'⟩, ⟨⟩⟩ ⟨(h1 : m = q), (h2 : m <= maxLen)⟩
 obtain ⟨a, rfl⟩ : ∃ a : Nat -> Int, a' = fun k => (a k, ()) := ⟨fun k => (a' k).1, rfl⟩
 obtain ⟨b, rfl⟩ : ∃ b : Nat -> Int, b' = fun k => (b k, ()) := ⟨fun k => (b' k).1, rfl⟩
 subst h1
 unfold maxLen at h2
 unfold FnSat
 conv => arg 2; reduce
 simp [bfS, ElEq, getB, goneB, aliveB, and_assoc]
 have e1 : (fun k => a k) = a := rfl
 have e2 : (fun k => b k) = b := rfl
 simp only [e1, e2]
 refine ⟨⟨0, rfl, by omega, fun j hj => by omega⟩, fun g hg hall => ⟨fun hlt => ⟨hlt, fun hne => ⟨hlt, (bfB_at hlt hall hne).symm⟩, fun he => ⟨by omega, by omega, g + 1, by omega, by omega, fun j hj => ?_, by omega⟩⟩, fun hge => bfB_no fun j hj => hall j (by omega)⟩⟩
 by_cases e : j = g
 ·subst e; exact bfP_f.2 he
 ·exact hall j (by omega)
def fiL : Spec [inSh, inSh, .int .i64, .int .i64] := ⟨fun ((n, c), (m, f), _) => n <= 16 /\ m + 1 = n /\ (∀ k, k < n -> 0 <= (c k).1 /\ (c k).1 <= 100) /\ ∀ k, k < m -> -2000 <= (f k).1 /\ (f k).1 <= 2000, fun ((n, c), (m, f), (lo : Int), (hi : Int), _) => .sb (fitB n (fun k => (c k).1) m (fun k => (f k).1) lo hi)⟩
@[irreducible] def inL (m : Nat) (f : Nat -> Int) (k : Nat) : Int := inAt m f k
@[irreducible] def outP (n : Nat) (c : Nat -> Int) (m : Nat) (f : Nat -> Int) (lo hi : Int) (k : Nat) : Bool := !(decide (lo <= bhV c m f k) && decide (bhV c m f k <= hi))
def fiLI : DatL [inSh, inSh, .int .i64, .int .i64] -> Anns := fun ((n, c), (m, f), (lo : Int), (hi : Int), _) => [
 (3, [], fun fr hp => ⟨Nat, fun k => ⟨frI [.k 9, .s (.si .i64 (inL m (fun k => (f k).1) k)), .s (.si .i64 (icast k)), .t 33] fr, hp⟩, Nat × Nat × (Nat -> Bool), fun k => (n, k, outP n (fun k => (c k).1) m (fun k => (f k).1) lo hi), fun (n, k, p) => k <= n /\ ∀ j, j < k -> p j = false, fun k => nsub n k⟩)]
set_option maxRecDepth 100000 in
theorem fil_ok : FnSpec Try.prog 15 _ fiL := by
 refine FnSpec.of SP1_ok mixed (U := 0) (I := fiLI) Try.func15 rfl (by kernel_rfl) rfl rfl (by decide +kernel) ?_
 rintro ⟨⟨n, c'⟩, ⟨m, f'⟩, (lo : Int), (hi : Int), ⟨⟩⟩ ⟨(h1 : n <= 16), (h2 : m + 1 = n), (h3 : ∀ k, k < n -> 0 <= (c' k).1 /\ (c' k).1 <= 100), (h4 : ∀ k, k < m -> -2000 <= (f' k).1 /\ (f' k).1 <= 2000)⟩
 obtain ⟨c, rfl⟩ : ∃ c : Nat -> Int, c' = fun k => (c k, ()) := ⟨fun k => (c' k).1, rfl⟩
 obtain ⟨f, rfl⟩ : ∃ f : Nat -> Int, f' = fun k => (f k, ()) := ⟨fun k => (f' k).1, rfl⟩
 have h3 : ∀ k, k < n -> 0 <= c k /\ c k <= 100 := h3
 have h4 : ∀ k, k < m -> -2000 <= f k /\ f k <= 2000 := h4
 unfold FnSat
 conv => arg 2; reduce
 simp [fiL, ElEq, getB, goneB, aliveB, and_assoc]
 have e1 : (fun k => c k) = c := rfl
 have e2 : (fun k => f k) = f := rfl
 simp only [e1, e2]
 have hI0 : inL m f 0 = 0 := by unfold inL; exact inAt_zero ..
 have hIs : ∀ g, inL m f (g + 1) = flAt m f g := fun g => by unfold inL; exact inAt_succ ..
 have hIb : ∀ g, -2000 <= inL m f g /\ inL m f g <= 2000 := fun g => by
  cases g with
  | zero => rw [hI0]; omega
  | succ g =>
    rw [hIs]
    by_cases h : g < m
    ·rw [flAt_in h]; exact h4 g h
    ·rw [flAt_out (by omega)]; omega
 have hb : ∀ g, bhV c m f g = c g + inL m f g - flAt m f g := fun g => by unfold inL; exact bhV_eq ..
 have hno : ∀ g, g < n -> bhV c m f g < lo \/ hi < bhV c m f g -> fitB n c m f lo hi = false := fun g hg h => by
  cases e : fitB n c m f lo hi with
  | false => rfl
  | true => have := fitB_t.1 e g hg; omega
 have hof : ∀ g, lo <= bhV c m f g -> bhV c m f g <= hi -> outP n c m f lo hi g = false := fun g a b => by unfold outP; simp [a, b]
 refine ⟨⟨0, hI0.symm, rfl, by omega, fun j hj => by omega⟩, fun g hg hall => ⟨fun hlt => ⟨fun hgm => ?_, fun hgm => ?_⟩, fun hge => fitB_t.2 fun k hk => ?_⟩⟩
 ·have a := h3 g hlt
  have b := h4 g hgm
  have d := hIb g
  have e := hb g
  rw [flAt_in hgm] at e
  have nog := hno g hlt
  have hofg := hof g
  rw [e] at nog hofg
  refine ⟨hgm, hlt, by omega, by omega, by omega, by omega, nog, fun x y => ⟨by omega, by omega, g + 1, by rw [hIs, flAt_in hgm], by omega, by omega, fun j hj => ?_, by omega⟩⟩
  by_cases e : j = g
  ·subst e; exact hofg x y
  ·exact hall j (by omega)
 ·have a := h3 g hlt
  have d := hIb g
  have e := hb g
  rw [flAt_out hgm, Int.sub_zero] at e
  have nog := hno g hlt
  have hofg := hof g
  rw [e] at nog hofg
  refine ⟨hlt, by omega, by omega, by omega, by omega, nog, fun x y => ⟨by omega, by omega, g + 1, by rw [hIs, flAt_out hgm], by omega, by omega, fun j hj => ?_, by omega⟩⟩
  by_cases e : j = g
  ·subst e; exact hofg x y
  ·exact hall j (by omega)
 ·have := hall k (by omega)
  unfold outP at this
  simpa using this
noncomputable def SP2 : Sums := ⟨(15, mkSum _ fiL) :: (18, mkSum _ bfS) :: SP1.one, SP1.two, SP1.lo, SP1.eqs, SP1.its, SP1.imm⟩
theorem SP2_ok : SumsOK Try.prog SP2 := ((SP1_ok.cons Try.func18 (by kernel_rfl) (by kernel_rfl) bf_ok).cons Try.func15 (by kernel_rfl) (by kernel_rfl) fil_ok)
end
end Abs
end Go.Proofs.Ytdhbbdljiidgiaa

namespace Go.Proofs.Ytdhbbdljiidgiaa
namespace Abs
open Go Go.RowKit
noncomputable section
@[irreducible] def nxE (n : Nat) (x : Nat -> Int) (m : Int) (k : Nat) : Int := if k < mrF n x m then -m else if k = mrF n x m then x k + 1 else x k
@[irreducible] def nxV (m : Int) (g k : Nat) (y : Int) : Int := if k < g then -m else y
theorem nxV_eq (m : Int) (g k : Nat) (y : Int) : nxV m g k y = if k < g then -m else y := by unfold nxV; rfl
def nxF : SpecF [.row 3 1 [.int .i64]] [.rowr 0, .int .i64] := ⟨fun ((n, x), _) (_, (m : Int), _) => n <= maxLen /\ (0 <= m /\ m <= 10000) /\ ∀ k, k < n -> -10000 <= (x k).1 /\ (x k).1 <= 10000, fun ((n, x), _) (_, (m : Int), _) => .sb (mrB n (fun k => (x k).1) m), fun ((n, x), _) (_, (m : Int), _) => [.row 3 1 (.sym n) (fun k => [.si .i64 (nxE n (fun k => (x k).1) m k)])]⟩
def nxI : DatH [.row 3 1 [.int .i64]] -> DatL [.rowr 0, .int .i64] -> Anns := fun ((n, x), _) (_, (m : Int), _) => [
 (2, [], fun fr hp => ⟨Nat, fun g => ⟨frI [.k 5, .s (.si .i64 (icast g)), .t 23] fr, setB hp 0 (.row 3 1 (.sym n) (fun k => [.si .i64 (nxV m g k (x k).1)]))⟩, Nat × Nat × (Nat -> Bool), fun g => (g, n, mrP (fun k => (x k).1) m), fun (g, n, p) => g <= n /\ ∀ k, k < g -> p k = false, fun g => nsub n g⟩)]
set_option maxRecDepth 100000 in
theorem nx_ok : FnSpecF Try.prog 19 _ _ nxF := by
 refine FnSpecF.of SP2_ok mixed (U := 0) (I := nxI) Try.func19 rfl (by kernel_rfl) rfl (by decide +kernel) ?_
 rintro ⟨⟨n, x'⟩, ⟨⟩⟩ ⟨⟨⟩, (m : Int), ⟨⟩⟩ ⟨(hn : n <= maxLen), ⟨(m0 : 0 <= m), (m1 : m <= 10000)⟩, (hx : ∀ k, k < n -> -10000 <= (x' k).1 /\ (x' k).1 <= 10000)⟩
 obtain ⟨x, rfl⟩ : ∃ x : Nat -> Int, x' = fun k => (x k, ()) := ⟨fun k => (x' k).1, rfl⟩
 have hx : ∀ k, k < n -> -10000 <= x k /\ x k <= 10000 := hx
 unfold FnSat
 conv => arg 2; reduce
 unfold maxLen at hn
 simp [nxF, encH, encB, ElEq, aliveB, getB, goneB, and_assoc]
 have ex : (fun k => x k) = x := rfl
 simp only [ex]
 have hb : ∀ g, g < n -> (∀ k, k < g -> mrP x m k = false) -> x g < m -> mrF n x m = g := fun g a b d => mrF_at a b d
 refine ⟨⟨0, rfl, fun j hj => by rw [nxV_eq, if_neg (by omega)], by omega, fun k hk => by omega⟩, fun g hg hall => ⟨fun hlt => ⟨hlt, fun hm => ?_, fun hm => ?_⟩, fun hge => ?_⟩⟩
 ·rw [nxV_eq, if_neg (by omega)] at hm ⊢
  have hF := hb g hlt hall hm
  have hxg := hx g hlt
  refine ⟨hlt, by omega, by omega, hlt, by unfold mrB; rw [hF]; simpa using hlt, fun j hj => ?_⟩
  unfold nxE
  rw [hF, nxV_eq]
  by_cases e : j = g
  ·subst e; rw [if_pos rfl, if_neg (by omega), if_pos rfl]
  ·rw [if_neg e]
   by_cases h : j < g
   ·rw [if_pos h, if_pos h]
   ·rw [if_neg h, if_neg h, if_neg e]
 ·rw [nxV_eq, if_neg (by omega)] at hm
  refine ⟨by omega, by omega, hlt, by omega, by omega, g + 1, by omega, fun j hj => ?_, by omega, fun k hk => ?_, by omega⟩
  ·rw [nxV_eq, nxV_eq]
   by_cases e : j = g
   ·subst e; rw [if_pos rfl, if_pos (by omega)]
   ·rw [if_neg e]
    by_cases h : j < g
    ·rw [if_pos h, if_pos (by omega)]
    ·rw [if_neg h, if_neg (by omega)]
  ·by_cases e : k = g
   ·subst e; exact mrP_f.2 hm
   ·exact hall k (by omega)
 ·obtain rfl : g = n := by omega
  have hF := mrF_no hall
  refine ⟨by unfold mrB; rw [hF]; simp, fun j hj => ?_⟩
  unfold nxE
  rw [hF, nxV_eq, if_pos hj, if_pos hj]
noncomputable def SP3 : Sums := ⟨SP2.one, (19, mkSumF _ _ nxF) :: SP2.two, SP2.lo, SP2.eqs, SP2.its, [27, 32]⟩
theorem SP3_ok : SumsOK Try.prog SP3 := (SP2_ok.addTwo Try.func19 (by kernel_rfl) (by kernel_rfl) (mkSumF_ok nx_ok)).setImm _
def nxM (m : Int) (B : Nat) : (x : Nat -> Int) -> Nat -> Nat
 | _, 0 => 0
 | x, n + 1 => (m - x 0).toNat + B * nxM m B (fun k => x (k + 1)) n
theorem nxM_cg {m : Int} {B : Nat} : ∀ {n : Nat} {x y : Nat -> Int}, (∀ k, k < n -> y k = x k) -> nxM m B y n = nxM m B x n
 | 0, _, _, _ => rfl
 | n + 1, x, y, h => by
   rw [nxM, nxM, h 0 (by omega), nxM_cg (n := n) (x := fun k => x (k + 1)) (y := fun k => y (k + 1)) fun k hk => h (k + 1) (by omega)]
@[irreducible] def nxN (m : Int) (x : Nat -> Int) (n : Nat) : Nat := nxM m (2 * m + 1).toNat x n
theorem mrF_is {n : Nat} {x : Nat -> Int} {m : Int} (h : mrB n x m = true) : mrF n x m < n /\ (∀ k, k < mrF n x m -> m <= x k) /\ x (mrF n x m) < m := by
 unfold mrB at h
 have h : mrF n x m < n := by simpa using h
 refine ⟨h, fun k hk => ?_, ?_⟩
 ·unfold mrF at hk; exact mrP_f.1 (firstN_not _ _ k hk)
 ·have : mrP x m (mrF n x m) = true := by unfold mrF at h ⊢; exact firstN_is _ _ h
  exact mrP_t.1 this
theorem nx_in {n : Nat} {x : Nat -> Int} {m : Int} (hm : 0 <= m) (h : mrB n x m = true) (hx : ∀ k, k < n -> -m <= x k /\ x k <= m) (k : Nat) (hk : k < n) : -m <= nxE n x m k /\ nxE n x m k <= m := by
 obtain ⟨h1, h2, h3⟩ := mrF_is h
 have a := hx k hk
 unfold nxE
 split
 ·omega
 ·split
  ·rename_i e; rw [<- e] at h3; omega
  ·exact a
end
end Abs
end Go.Proofs.Ytdhbbdljiidgiaa

namespace Go.Proofs.Ytdhbbdljiidgiaa
namespace Abs
open Go Go.RowKit
theorem movF_add {F : Nat -> Int} : ∀ {a i b : Nat}, movF F i (a + b) = movF F i a + movF F (i + a) b
 | 0, i, b => by rw [Nat.zero_add, movF, Nat.add_zero, Int.zero_add]
 | a + 1, i, b => by
   rw [show a + 1 + b = (a + b) + 1 by omega, movF, movF_add (a := a) (i := i + 1) (b := b), movF, show i + 1 + a = i + (a + 1) by omega]
   omega
theorem movF_cg {F G : Nat -> Int} : ∀ {d i : Nat}, (∀ j, i < j -> j <= i + d -> F j = G j) -> movF F i d = movF G i d
 | 0, _, _ => rfl
 | d + 1, i, h => by
   rw [movF, movF, h (i + 1) (by omega) (by omega), movF_cg (d := d) (i := i + 1) fun j a b => h j (by omega) (by omega)]
theorem few_lex {n : Nat} {c f : Nat -> Int} {lo hi : Int} (h : fewE n c lo hi = 0) (hf : fitB n c (n - 1) f lo hi = true) (hm : movN f (n - 1) = movN (fwF n c lo hi) (n - 1)) : bfB (n - 1) f (fwF n c lo hi) = false := by
 cases hb : bfB (n - 1) f (fwF n c lo hi) with
 | false => rfl
 | true =>
   exfalso
   obtain ⟨k, hk, he, hlt⟩ := bfB_ex hb
   obtain ⟨⟨l1, l2, l3⟩, b1, b2, b3, hp⟩ := few_split h
   have B := fBest h
   have hB := fit_brings l1 hf
   have hbb := brings_b hB l3 b1 b3
   have hB2 : Brings n c (inAt (n - 1) f) lo hi 1600 := ⟨hB.z0, hB.zn, fun i hi' => by have := hbb i hi'; omega, hB.l⟩
   have hle := tab_le hB2 (Int.le_refl _) (d := n - (k + 1)) (i := k + 1) rfl (by omega)
   have hF : ∀ j, j <= k -> inAt (n - 1) f j = fwN n c lo hi j := fun j hj => by
    cases j with
    | zero => rw [inAt_zero, fwN_zero]
    | succ j => rw [inAt_succ, flAt_in (by omega), he j (by omega), fwF_eq]
   have hwhole : movF (inAt (n - 1) f) 0 n = movN f (n - 1) := by
    obtain ⟨m, rfl⟩ : ∃ m, n = m + 1 := ⟨n - 1, by omega⟩
    have hz := hB.zn
    simp only [Nat.add_sub_cancel] at hz ⊢
    rw [movF_sum, Nat.zero_add, hz, movN_movF (f := f) fun k hk => by rw [inAt_succ, flAt_in hk]]
    omega
   have hsplit : movF (inAt (n - 1) f) 0 n = movF (inAt (n - 1) f) 0 k + movF (inAt (n - 1) f) k (n - (k + 1) + 1) := by
    have := movF_add (F := inAt (n - 1) f) (a := k) (i := 0) (b := n - (k + 1) + 1)
    rw [show k + (n - (k + 1) + 1) = n by omega, Nat.zero_add] at this
    exact this
   rw [movF] at hsplit
   have hpre : movF (inAt (n - 1) f) 0 k = movF (fwN n c lo hi) 0 k := movF_cg fun j a b => hF j (by omega)
   have ht := B.t
   have hmn : movN f (n - 1) <= 16 * 1600 := by
    have := movN_in (f := f) (M := 1600) (m := n - 1) fun k hk => by
     have := hbb (k + 1) (by omega)
     rw [inAt_succ, flAt_in hk] at this; omega
    omega
   have hfp := (fPlan (n := n) (c := c) b2 (by omega) k (by omega)).s
   have hbh := fitB_t.1 hf k (by omega)
   have hbe := bhV_eq c (n - 1) f k
   rw [hF k (Nat.le_refl _)] at hbe
   have hok : flAt (n - 1) f k = inAt (n - 1) f (k + 1) := (inAt_succ ..).symm
   have hfk : flAt (n - 1) f k = f k := flAt_in (by omega)
   have hbk := hB2.b (k + 1) (by omega)
   have hFk := fwN_in (n := n) (c := c) (lo := lo) (hi := hi) k
   have ek : (((fwN n c lo hi k + 1600).toNat : Nat) : Int) - 1600 = fwN n c lo hi k := by omega
   have hta := tab_at (n := n) (c := c) (lo := lo) (hi := hi) (i := k) (k := (fwN n c lo hi k + 1600).toNat) (by omega) (by omega)
   rw [ek] at hta
   have key := bstN_le (c0 := c k) (f := fwN n c lo hi k) (lo := lo) (nx := tab n c lo hi (k + 1)) (o := inAt (n - 1) f (k + 1)) (d := (hi - lo + 1).toNat) (e := (bhV c (n - 1) f k - lo).toNat) (by omega) (by omega) (by omega) (by omega)
   rw [<- hta] at key
   have hw := wid_eq lo hi
   have hyes : fwB n c lo hi k (fwN n c lo hi k) (hi - bhV c (n - 1) f k).toNat = true := (fwB_iff (o := inAt (n - 1) f (k + 1)) (by omega)).2 ⟨⟨by omega, by omega⟩, by omega⟩
   have hfk2 := fwK_eq n c lo hi k (fwN n c lo hi k)
   have hle2 : fwK n c lo hi k (fwN n c lo hi k) <= (hi - bhV c (n - 1) f k).toNat := by
    rcases Nat.lt_or_ge (hi - bhV c (n - 1) f k).toNat (fwK n c lo hi k (fwN n c lo hi k)) with hh | hh
    ·rw [hfk2] at hh
     rw [firstN_not _ _ _ hh] at hyes; cases hyes
    ·exact hh
   have hBk := firstN_is (fwB n c lo hi k (fwN n c lo hi k)) (wid lo hi) (by omega)
   rw [<- hfk2] at hBk
   have hS := fwS_at (Nat.le_refl _) (by omega) hBk
   rw [<- fwN_succ, <- fwF_eq] at hS
   omega
theorem wdL_le {n : Nat} {c F : Nat -> Int} {lo hi t T : Int} (h : Brings n c F lo hi t) (hT : t <= T) : ∀ {d i : Nat}, n - i = d -> i <= n -> wdL n c lo T i <= F i
 | 0, i, e, hi' => by
   obtain rfl : i = n := by omega
   rw [wdL_n, h.zn]; exact Int.le_refl _
 | d + 1, i, e, hi' => by
   have ih := wdL_le h hT (d := d) (i := i + 1) (by omega) (by omega)
   have a := h.b i hi'
   have b := h.l i (by omega)
   rw [wdL_at (by omega)]; omega
theorem qck_lex {n : Nat} {c f : Nat -> Int} {lo hi : Int} (h : fewE n c lo hi = 0) (hf : fitB n c (n - 1) f lo hi = true) (hm : tckN f (n - 1) = qckT n c lo hi) : bfB (n - 1) f (qckF n c lo hi) = false := by
 cases hb : bfB (n - 1) f (qckF n c lo hi) with
 | false => rfl
 | true =>
   exfalso
   obtain ⟨k, hk, he, hlt⟩ := bfB_ex hb
   obtain ⟨⟨l1, l2, l3⟩, b1, b2, b3, hp⟩ := few_split h
   have hB := fit_brings l1 hf
   have hF0 : ∀ k, qckF n c lo hi k = slN n c lo hi (qckT n c lo hi) (k + 1) := fun k => by unfold qckF; rw [slF_eq]
   have hF : ∀ j, j <= k -> inAt (n - 1) f j = slN n c lo hi (qckT n c lo hi) j := fun j hj => by
    cases j with
    | zero => rw [inAt_zero, slN_zero]
    | succ j => rw [inAt_succ, flAt_in (by omega), he j (by omega), hF0]
   have a := wdL_le hB (Int.le_of_eq hm) (d := n - (k + 1)) (i := k + 1) rfl (by omega)
   have b := hB.l k (by omega)
   have d := hF k (Nat.le_refl _)
   have e := slN_succ n c lo hi (qckT n c lo hi) k
   have g := hF0 k
   have hok : inAt (n - 1) f (k + 1) = f k := by rw [inAt_succ, flAt_in (by omega)]
   omega
theorem fit_few {n : Nat} {c f : Nat -> Int} {lo hi : Int} (hb : bdE n c lo hi = 0) (hf : fitB n c (n - 1) f lo hi = true) : fewE n c lo hi = 0 := by
 obtain ⟨hl, b1, b2, b3⟩ := bdE_0.1 hb
 obtain ⟨l1, l2, l3⟩ := lvE_0.1 hl
 exact fewE_0.2 ⟨hb, (pos_whole (by omega)).2 (fit_nd hf (by omega) (by omega)).2⟩
theorem fit_t {n : Nat} {c f : Nat -> Int} {lo hi : Int} (h : fewE n c lo hi = 0) (hf : fitB n c (n - 1) f lo hi = true) : qckT n c lo hi <= tckN f (n - 1) := by
 obtain ⟨⟨l1, l2, l3⟩, b1, b2, b3, hp⟩ := few_split h
 obtain ⟨x, y, q⟩ := qMax (c := c) (lo := lo) (hi := hi) l1
 rw [q.t]
 exact (fit_nd hf q.xy q.yn).1
theorem brings_s {n : Nat} {c F : Nat -> Int} {lo hi t : Int} (h : Brings n c F lo hi t) (hc : ∀ k, k < n -> 0 <= c k) (l0 : 0 <= lo) : ∀ {i : Nat}, i <= n -> F i <= sumN c i /\ -(i * hi) <= F i
 | 0, _ => by rw [h.z0]; simp
 | i + 1, hi' => by
   have ih := brings_s h hc l0 (i := i) (by omega)
   have a := h.l i (by omega)
   have b := hc i (by omega)
   have e : ((i + 1 : Nat) : Int) * hi = i * hi + hi := by rw [Int.natCast_succ, Int.add_mul, Int.one_mul]
   rw [sumN_succ, e]
   omega
theorem fwF_most {n : Nat} {c : Nat -> Int} {lo hi : Int} (h : fewE n c lo hi = 0) (hn : n <= 4) {k : Nat} (hk : k < n - 1) : -(max (sumN c n) (4 * hi)) <= fwF n c lo hi k /\ fwF n c lo hi k <= max (sumN c n) (4 * hi) := by
 obtain ⟨⟨l1, l2, l3⟩, b1, b2, b3, hp⟩ := few_split h
 have hB := fit_brings l1 (fBest h).fit
 have a := brings_s hB (fun k hk => (l3 k hk).1) b1 (i := k + 1) (by omega)
 rw [inAt_succ, flAt_in hk] at a
 have b := sumN_mono (V := c) (n := n) (fun k hk => (l3 k hk).1) (show k + 1 <= n by omega) (Nat.le_refl _)
 have e : ((k + 1 : Nat) : Int) * hi <= 4 * hi := Int.mul_le_mul_of_nonneg_right (by omega) (by omega)
 omega
theorem nxM_s {m : Int} {B : Nat} (hB : (2 * m).toNat + 1 = B) (hm : 0 <= m) : ∀ {n p : Nat} {x y : Nat -> Int}, p < n -> (∀ k, k < p -> x k = m) -> x p < m -> (∀ k, k < p -> y k = -m) -> y p = x p + 1 -> (∀ k, p < k -> k < n -> y k = x k) -> nxM m B y n + 1 = nxM m B x n
 | 0, p, _, _, hp, _, _, _, _, _ => by omega
 | n + 1, 0, x, y, _, _, h2, _, h4, h5 => by
   rw [nxM, nxM, nxM_cg (n := n) (x := fun k => x (k + 1)) (y := fun k => y (k + 1)) fun k hk => h5 (k + 1) (by omega) (by omega)]
   omega
 | n + 1, p + 1, x, y, hp, h1, h2, h3, h4, h5 => by
   have ih := nxM_s hB hm (n := n) (p := p) (x := fun k => x (k + 1)) (y := fun k => y (k + 1)) (by omega) (fun k hk => h1 (k + 1) (by omega)) h2 (fun k hk => h3 (k + 1) (by omega)) h4 (fun k a b => h5 (k + 1) (by omega) (by omega))
   have a := h1 0 (by omega)
   have b := h3 0 (by omega)
   rw [nxM, nxM, a, b]
   have e : B * (nxM m B (fun k => y (k + 1)) n + 1) = B * nxM m B (fun k => x (k + 1)) n := by rw [ih]
   rw [Nat.mul_add, Nat.mul_one] at e
   omega
theorem nxM_inj {m : Int} {B : Nat} (hB : (2 * m).toNat + 1 = B) (hm : 0 <= m) : ∀ {n : Nat} {x y : Nat -> Int}, (∀ k, k < n -> -m <= x k /\ x k <= m) -> (∀ k, k < n -> -m <= y k /\ y k <= m) -> nxM m B x n = nxM m B y n -> ∀ k, k < n -> x k = y k
 | 0, _, _, _, _, _, k, hk => by omega
 | n + 1, x, y, hx, hy, he, k, hk => by
   have a := hx 0 (by omega)
   have b := hy 0 (by omega)
   rw [nxM, nxM] at he
   have e1 : ((m - x 0).toNat + B * nxM m B (fun k => x (k + 1)) n) % B = (m - x 0).toNat := by rw [Nat.add_mul_mod_self_left, Nat.mod_eq_of_lt (by omega)]
   have e2 : ((m - y 0).toNat + B * nxM m B (fun k => y (k + 1)) n) % B = (m - y 0).toNat := by rw [Nat.add_mul_mod_self_left, Nat.mod_eq_of_lt (by omega)]
   rw [he, e2] at e1
   have e3 : B * nxM m B (fun k => x (k + 1)) n = B * nxM m B (fun k => y (k + 1)) n := by omega
   have e4 := Nat.eq_of_mul_eq_mul_left (show 0 < B by omega) e3
   cases k with
   | zero => omega
   | succ k => exact nxM_inj hB hm (n := n) (x := fun k => x (k + 1)) (y := fun k => y (k + 1)) (fun k hk => hx (k + 1) (by omega)) (fun k hk => hy (k + 1) (by omega)) e4 k (by omega)
theorem nxM_top {m : Int} {B : Nat} : ∀ {n : Nat} {x : Nat -> Int}, (∀ k, k < n -> m <= x k) -> nxM m B x n = 0
 | 0, _, _ => rfl
 | n + 1, x, h => by
   have a := h 0 (by omega)
   rw [nxM, nxM_top (n := n) (x := fun k => x (k + 1)) fun k hk => h (k + 1) (by omega)]
   omega
theorem nxM_low {m : Int} {B : Nat} : ∀ {n : Nat} {x y : Nat -> Int}, (∀ k, k < n -> y k <= x k) -> nxM m B x n <= nxM m B y n
 | 0, _, _, _ => Nat.le_refl _
 | n + 1, x, y, h => by
   have a := h 0 (by omega)
   have b := nxM_low (m := m) (B := B) (n := n) (x := fun k => x (k + 1)) (y := fun k => y (k + 1)) fun k hk => h (k + 1) (by omega)
   have e : B * nxM m B (fun k => x (k + 1)) n <= B * nxM m B (fun k => y (k + 1)) n := Nat.mul_le_mul_left _ b
   rw [nxM, nxM]
   omega
@[irreducible] def ahd (m : Int) (z x : Nat -> Int) (n : Nat) : Prop := (∀ k, k < n -> -m <= z k /\ z k <= m) /\ nxN m z n <= nxN m x n
theorem ahd_first {m : Int} {z x : Nat -> Int} {n : Nat} (hz : ∀ k, k < n -> -m <= z k /\ z k <= m) (hx : ∀ k, k < n -> x k = -m) : ahd m z x n := by
 unfold ahd nxN
 exact ⟨hz, nxM_low fun k hk => by have := hz k hk; have := hx k hk; omega⟩
theorem ahd_next {m : Int} {z x : Nat -> Int} {n : Nat} (hm : 0 <= m) (h : ahd m z x n) (hx : ∀ k, k < n -> -m <= x k /\ x k <= m) : (∀ k, k < n -> x k = z k) \/ (mrB n x m = true /\ ahd m z (nxE n x m) n) := by
 unfold ahd nxN at *
 obtain ⟨hz, hle⟩ := h
 have hB : (2 * m).toNat + 1 = (2 * m + 1).toNat := by omega
 by_cases he : nxM m (2 * m + 1).toNat z n = nxM m (2 * m + 1).toNat x n
 ·exact .inl fun k hk => (nxM_inj hB hm hz hx he k hk).symm
 ·refine .inr ?_
  cases hmr : mrB n x m with
  | false =>
    exfalso
    have hle2 := firstN_le (mrP x m) n
    have hF : firstN (mrP x m) n = n := by
     unfold mrB mrF at hmr
     have : ¬ firstN (mrP x m) n < n := by simpa using hmr
     omega
    have := nxM_top (m := m) (B := (2 * m + 1).toNat) (n := n) (x := x) fun k hk => mrP_f.1 (firstN_not _ n k (by omega))
    omega
  | true =>
    obtain ⟨h1, h2, h3⟩ := mrF_is hmr
    have := nxM_s hB hm (x := x) (y := nxE n x m) h1 (fun k hk => by have := h2 k hk; have := hx k (by omega); omega) h3 (fun k hk => by unfold nxE; rw [if_pos hk]) (by unfold nxE; rw [if_neg (by omega), if_pos rfl]) fun k a b => by unfold nxE; rw [if_neg (by omega), if_neg (by omega)]
    exact ⟨rfl, hz, by omega⟩
theorem fitB_cg {n : Nat} {c f g : Nat -> Int} {lo hi : Int} (h : ∀ k, k < n - 1 -> f k = g k) : fitB n c (n - 1) f lo hi = fitB n c (n - 1) g lo hi := by
 have e : ∀ k, flAt (n - 1) f k = flAt (n - 1) g k := fun k => by
  by_cases hk : k < n - 1
  ·rw [flAt_in hk, flAt_in hk, h k hk]
  ·rw [flAt_out (by omega), flAt_out (by omega)]
 have e2 : ∀ k, bhV c (n - 1) f k = bhV c (n - 1) g k := fun k => by
  rw [bhV_eq, bhV_eq, e]
  cases k with
  | zero => rw [inAt_zero, inAt_zero]
  | succ k => rw [inAt_succ, inAt_succ, e]
 cases hg : fitB n c (n - 1) g lo hi with
 | true => exact fitB_t.2 fun k hk => by rw [e2]; exact fitB_t.1 hg k hk
 | false =>
   cases hf : fitB n c (n - 1) f lo hi with
   | false => rfl
   | true =>
     have : fitB n c (n - 1) g lo hi = true := fitB_t.2 fun k hk => by rw [<- e2]; exact fitB_t.1 hf k hk
     rw [this] at hg; cases hg
end Abs
end Go.Proofs.Ytdhbbdljiidgiaa

/- A part of the proof: no statement of its own. -/
import Derived.Test.YtlabbaglbcmofaaGreatQGb8f653ea
import Derived.Test.YtlabbaglbcmofaaGreatProg
import Derived.Laws.Bits128
set_option linter.unusedSimpArgs false
set_option linter.unusedVariables false
namespace Go.Proofs.YtlabbaglbcmofaaGreat
namespace Abs
open Go
@[irreducible] def isIn (lo x hi : Int) : Bool := decide (lo <= x) && decide (x <= hi)
@[simp] theorem isIn_eq (lo x hi : Int) : isIn lo x hi = (decide (lo <= x) && decide (x <= hi)) := by unfold isIn; rfl
@[irreducible] def fdiv (n d : Int) : Int := n / d
@[simp] theorem fdiv_eq (n d : Int) : fdiv n d = n / d := by unfold fdiv; rfl
theorem tdiv2 (b : Int) (h : 0 <= b) : b.tdiv 2 = b / 2 := Int.tdiv_eq_ediv_of_nonneg h
theorem tmod_z (n d : Int) : n.tmod d = 0 ↔ n % d = 0 := by
 constructor
 ·intro h; exact Int.emod_eq_zero_of_dvd (Int.dvd_of_tmod_eq_zero h)
 ·intro h; exact Int.tmod_eq_zero_of_dvd (Int.dvd_of_emod_eq_zero h)
@[irreducible] def intoV (x lo hi : Int) : Int := max lo (min x hi)
def within : Spec [.int .i64, .int .i64, .int .i64] := ⟨fun _ => True, fun (x, lo, hi, _) => .sb (isIn lo x hi)⟩
def floor : Spec [.int .i64, .int .i64] := ⟨fun ((n : Int), (d : Int), _) => InR .i64 n /\ 0 < d, fun (n, d, _) => .si .i64 (fdiv n d)⟩
@[irreducible] def isQ (x : Int) : Bool := isIn (-1099511627776) x 1099511627776
end Abs
end Go.Proofs.YtlabbaglbcmofaaGreat

namespace Go.Proofs.YtlabbaglbcmofaaGreat
namespace Abs
open Go
def firstN (p : Nat -> Bool) : Nat -> Nat
 | 0 => 0
 | n + 1 => let f := firstN p n; if f < n then f else if p n then n else n + 1
theorem firstN_zero (p : Nat -> Bool) : firstN p 0 = 0 := rfl
theorem firstN_succ (p : Nat -> Bool) (n : Nat) : firstN p (n + 1) = if firstN p n < n then firstN p n else if p n then n else n + 1 := rfl
attribute [irreducible] firstN
theorem firstN_le (p : Nat -> Bool) : ∀ n, firstN p n <= n
 | 0 => by rw [firstN_zero]; omega
 | n + 1 => by
   have := firstN_le p n
   rw [firstN_succ]
   split
   ·omega
   ·split <;> omega
theorem firstN_not (p : Nat -> Bool) : ∀ n k, k < firstN p n -> p k = false
 | 0, k, h => by rw [firstN_zero] at h; omega
 | n + 1, k, h => by
   have hle := firstN_le p n
   rw [firstN_succ] at h
   split at h
   ·exact firstN_not p n k h
   ·by_cases hk : k < n
    ·exact firstN_not p n k (by omega)
    ·split at h
     ·omega
     ·obtain rfl : k = n := by omega
      cases hp : p k with
      | false => rfl
      | true => rename_i h1; exact absurd hp h1
theorem firstN_is (p : Nat -> Bool) : ∀ n, firstN p n < n -> p (firstN p n) = true
 | 0, h => by omega
 | n + 1, h => by
   have hle := firstN_le p n
   rw [firstN_succ] at h ⊢
   split
   ·rename_i h1; exact firstN_is p n h1
   ·rename_i h1
    rw [if_neg h1] at h
    split
    ·rename_i h2; exact h2
    ·rename_i h2; rw [if_neg h2] at h; omega
theorem firstN_uniq {p : Nat -> Bool} {n k : Nat} (hk : k <= n) (h1 : ∀ j, j < k -> p j = false) (h2 : k < n -> p k = true) : firstN p n = k := by
 have hle := firstN_le p n
 rcases Nat.lt_trichotomy (firstN p n) k with h | h | h
 ·have := firstN_is p n (by omega); rw [h1 _ h] at this; cases this
 ·exact h
 ·have := firstN_not p n k h; rw [h2 (by omega)] at this; cases this
theorem firstN_ge {p : Nat -> Bool} {n k : Nat} (hk : k <= firstN p n) (h : p k = false) (hn : k < n) : k + 1 <= firstN p n := by
 rcases Nat.lt_or_ge k (firstN p n) with h1 | h1
 ·omega
 ·obtain rfl : k = firstN p n := by omega
  have := firstN_is p n hn
  rw [h] at this; cases this
theorem firstN_at {p : Nat -> Bool} {n k : Nat} (hk : k <= firstN p n) (h : p k = true) : firstN p n = k := by
 rcases Nat.lt_or_ge k (firstN p n) with h1 | h1
 ·have := firstN_not p n k h1; rw [h] at this; cases this
 ·omega
@[irreducible] def anyN (p : Nat -> Bool) (n : Nat) : Bool := decide (firstN p n < n)
theorem anyN_iff {p : Nat -> Bool} {n : Nat} : anyN p n = true ↔ ∃ k, k < n /\ p k = true := by
 unfold anyN
 simp only [decide_eq_true_eq]
 constructor
 ·intro h; exact ⟨_, h, firstN_is p n h⟩
 ·rintro ⟨k, hk, hp⟩
  rcases Nat.lt_or_ge (firstN p n) n with h | h
  ·exact h
  ·have := firstN_not p n k (by omega); rw [hp] at this; cases this
theorem anyN_false {p : Nat -> Bool} {n : Nat} : anyN p n = false ↔ ∀ k, k < n -> p k = false := by
 constructor
 ·intro h k hk
  cases hp : p k with
  | false => rfl
  | true => have := anyN_iff.2 ⟨k, hk, hp⟩; rw [h] at this; cases this
 ·intro h
  cases ha : anyN p n with
  | false => rfl
  | true => obtain ⟨k, hk, hp⟩ := anyN_iff.1 ha; rw [h k hk] at hp; cases hp
@[simp] theorem anyN_zero (p : Nat -> Bool) : anyN p 0 = false := anyN_false.2 fun k hk => by omega
theorem anyN_succ (p : Nat -> Bool) (n : Nat) : anyN p (n + 1) = (anyN p n || p n) := by
 rw [Bool.eq_iff_iff, Bool.or_eq_true, anyN_iff, anyN_iff]
 constructor
 ·rintro ⟨k, hk, hp⟩
  by_cases h : k < n
  ·exact .inl ⟨k, h, hp⟩
  ·obtain rfl : k = n := by omega
   exact .inr hp
 ·rintro (⟨k, hk, hp⟩ | hp)
  ·exact ⟨k, by omega, hp⟩
  ·exact ⟨n, by omega, hp⟩
@[simp] theorem anyN_one (p : Nat -> Bool) : anyN p 1 = p 0 := by rw [anyN_succ]; simp
@[simp] theorem anyN_two (p : Nat -> Bool) : anyN p 2 = (p 0 || p 1) := by rw [anyN_succ]; simp
@[irreducible] def allN (p : Nat -> Bool) (n : Nat) : Bool := !(anyN (fun k => !(p k)) n)
theorem allN_iff {p : Nat -> Bool} {n : Nat} : allN p n = true ↔ ∀ k, k < n -> p k = true := by
 unfold allN
 rw [Bool.not_eq_true', anyN_false]
 simp
@[irreducible] def idxN (p : Nat -> Bool) (n : Nat) : Int := if firstN p n < n then (firstN p n : Int) else -1
theorem idxN_nonneg {p : Nat -> Bool} {n : Nat} : decide (0 <= idxN p n) = anyN p n := by
 unfold idxN anyN
 split <;> rename_i h <;> simp [h] <;> omega
end Abs
end Go.Proofs.YtlabbaglbcmofaaGreat

namespace Go.Proofs.YtlabbaglbcmofaaGreat
namespace Abs
open Go
@[simp] theorem allN_zero (p : Nat -> Bool) : allN p 0 = true := allN_iff.2 fun k hk => by omega
@[reducible] def spanSh : Sh := .agg [.int .i64, .int .i64]
@[reducible] def spansSh : Sh := .slice 2 [.int .i64, .int .i64]
@[reducible] def intsSh : Sh := .slice 1 [.int .i64]
structure Vx where
 n : Nat
 v : Nat -> Int
@[irreducible] def Vx.len (x : Vx) : Nat := x.n
@[irreducible] def Vx.at (x : Vx) : Nat -> Int := x.v
@[simp] theorem Vx.len_mk (n : Nat) (v : Nat -> Int) : (Vx.mk n v).len = n := by unfold Vx.len; rfl
@[simp] theorem Vx.at_mk (n : Nat) (v : Nat -> Int) : (Vx.mk n v).at = v := by unfold Vx.at; rfl
structure Bx where
 n : Nat
 l : Nat -> Int
 h : Nat -> Int
@[irreducible] def Bx.len (b : Bx) : Nat := b.n
@[irreducible] def Bx.lo (b : Bx) : Nat -> Int := b.l
@[irreducible] def Bx.hi (b : Bx) : Nat -> Int := b.h
@[simp] theorem Bx.len_mk (n : Nat) (l h : Nat -> Int) : (Bx.mk n l h).len = n := by unfold Bx.len; rfl
@[simp] theorem Bx.lo_mk (n : Nat) (l h : Nat -> Int) : (Bx.mk n l h).lo = l := by unfold Bx.lo; rfl
@[simp] theorem Bx.hi_mk (n : Nat) (l h : Nat -> Int) : (Bx.mk n l h).hi = h := by unfold Bx.hi; rfl
structure Mo where
 c : Int
 ns : Nat
 s : Nat -> Int
 nf : Nat
 f : Nat -> Int
 t : Nat -> Int
 p : Nat -> Int
@[irreducible] def Mo.ff (m : Mo) : Nat -> Int := m.f
structure Sys where
 a : Bx
 b : Bx
 nm : Nat
 m : Nat -> Mo
 nw : Nat
 w : Nat -> Bx
@[irreducible] def Sys.st (s : Sys) : Bx := s.b
@[irreducible] def Sys.md (s : Sys) : Nat -> Mo := s.m
@[irreducible] def spanOK (lo hi : Int) : Bool := isQ lo && isQ hi && decide (lo <= hi)
@[irreducible] def badSpan (lo hi : Int) : Bool := !(spanOK lo hi)
theorem isQ_iff {x : Int} : isQ x = true ↔ -1099511627776 <= x /\ x <= 1099511627776 := by unfold isQ; simp
theorem spanOK_iff {lo hi : Int} : spanOK lo hi = true ↔ -1099511627776 <= lo /\ hi <= 1099511627776 /\ lo <= hi := by unfold spanOK isQ; simp; omega
@[irreducible] def errA (b : Bool) : Int := if b then 0 else 2
@[simp] theorem errA_true : errA true = 0 := by unfold errA; rfl
@[simp] theorem errA_false : errA false = 2 := by unfold errA; rfl
@[simp] theorem errA_eq (b : Bool) : errA b = 0 ↔ b = true := by cases b <;> simp
end Abs
end Go.Proofs.YtlabbaglbcmofaaGreat

namespace Go.Proofs.YtlabbaglbcmofaaGreat
namespace Abs
open Go
@[irreducible] def topP (x n i : Int) : Int := x * (n / 2 ^ i.toNat)
theorem topP_zero (x n : Int) : topP x n 0 = x * n := by unfold topP; simp
theorem topP_top {x n : Int} (h0 : 0 <= n) (h1 : n < 17592186044416) : topP x n 44 = 0 := by
 unfold topP
 rw [show (2 : Int) ^ (44 : Int).toNat = 17592186044416 from rfl, Int.ediv_eq_zero_of_lt h0 h1, Int.mul_zero]
@[irreducible] def bitP (n i : Int) : Int := (n / 2 ^ i.toNat) % 2
theorem bitP_or (n i : Int) : bitP n i = 0 \/ bitP n i = 1 := by unfold bitP; omega
theorem topP_step {x n i : Int} (hi : 0 <= i) : topP x n i = 2 * topP x n (i + 1) + bitP n i * x := by
 unfold topP bitP
 have e : (i + 1).toNat = i.toNat + 1 := by omega
 have e2 : (2 : Int) ^ (i + 1).toNat = 2 ^ i.toNat * 2 := by rw [e, Int.pow_succ]
 have e3 : n / (2 ^ i.toNat * 2) = n / 2 ^ i.toNat / 2 := by rw [Int.ediv_ediv_of_nonneg (Int.pow_nonneg (by decide))]
 rw [e2, e3]
 generalize n / 2 ^ i.toNat = y
 have h : y = 2 * (y / 2) + y % 2 := by omega
 calc x * y = x * (2 * (y / 2) + y % 2) := by rw [<- h]
  _ = 2 * (x * (y / 2)) + y % 2 * x := by rw [Int.mul_add, Int.mul_left_comm, Int.mul_comm (y % 2) x]
theorem topP_nonneg {x n i : Int} (hx : 0 <= x) (hn : 0 <= n) : 0 <= topP x n i := by
 unfold topP; exact Int.mul_nonneg hx (Int.ediv_nonneg hn (Int.pow_nonneg (by decide)))
theorem topP_mono {x n : Int} (hx : 0 <= x) (hn : 0 <= n) : ∀ k : Nat, topP x n k <= x * n
 | 0 => by rw [show ((0 : Nat) : Int) = 0 from rfl, topP_zero]; exact Int.le_refl _
 | k + 1 => by
   have h1 := topP_mono hx hn k
   have h2 := topP_step (x := x) (n := n) (i := (k : Int)) (by omega)
   have h3 := topP_nonneg (i := ((k : Int) + 1)) hx hn
   rw [show ((k + 1 : Nat) : Int) = (k : Int) + 1 by omega]
   rcases bitP_or n (k : Int) with h | h <;> rw [h] at h2 <;> omega
@[irreducible] def whQ (x n d : Int) : Int := if x * n / d <= 288230376151711744 then x * n / d else 1152921504606846976
@[irreducible] def whR (x n d : Int) : Int := if x * n / d <= 288230376151711744 then x * n % d else 0
theorem wh_uniq {q r d T : Int} (h : q * d + r = T) (h0 : 0 <= r) (h1 : r < d) : q = T / d /\ r = T % d := by
 have hd : 0 < d := by omega
 have := (Int.ediv_emod_unique (a := T) (b := d) (r := r) (q := q) hd).2 ⟨by rw [<- h, Int.mul_comm]; omega, h0, h1⟩
 exact ⟨this.1.symm, this.2.symm⟩
theorem wh_far {x n d : Int} {k : Nat} (hx : 0 <= x) (hn : 0 <= n) (hd : 0 < d) (h : 288230376151711744 < topP x n k / d) : whQ x n d = 1152921504606846976 /\ whR x n d = 0 := by
 have h1 : topP x n k / d <= x * n / d := Int.ediv_le_ediv hd (topP_mono hx hn k)
 unfold whQ whR
 rw [if_neg (by omega), if_neg (by omega)]; exact ⟨rfl, rfl⟩
theorem wh_near {x n d q r : Int} (h : q * d + r = topP x n 0) (h0 : 0 <= r) (h1 : r < d) (hq : q <= 288230376151711744) : whQ x n d = q /\ whR x n d = r := by
 rw [topP_zero] at h
 obtain ⟨e1, e2⟩ := wh_uniq h h0 h1
 unfold whQ whR
 rw [<- e1, <- e2, if_pos hq, if_pos hq]; exact ⟨rfl, rfl⟩
theorem whQ_b {x n d : Int} (hx : 0 <= x) (hn : 0 <= n) (hd : 0 < d) : 0 <= whQ x n d /\ whQ x n d <= 1152921504606846976 := by
 have : 0 <= x * n / d := Int.ediv_nonneg (Int.mul_nonneg hx hn) (Int.le_of_lt hd)
 unfold whQ; split <;> omega
@[irreducible] def absI (x : Int) : Int := if x < 0 then -x else x
theorem absI_neg {x : Int} (h : x < 0) : absI x = -x := by unfold absI; rw [if_pos h]
theorem absI_pos {x : Int} (h : 0 <= x) : absI x = x := by unfold absI; rw [if_neg (by omega)]
theorem absI_b {x m : Int} (h1 : -m <= x) (h2 : x <= m) : 0 <= absI x /\ absI x <= m := by unfold absI; split <;> omega
@[irreducible] def dnV (x n d : Int) : Int :=
 if (decide (x < 0) != decide (n < 0)) != decide (d < 0) then -(if 0 < whR (absI x) (absI n) (absI d) then whQ (absI x) (absI n) (absI d) + 1 else whQ (absI x) (absI n) (absI d)) else whQ (absI x) (absI n) (absI d)
theorem dnV_pos {x n d : Int} (hn : 0 <= n) (hd : 0 < d) (h : absI x * n / d <= 288230376151711744) : dnV x n d = x * n / d := by
 unfold dnV whQ whR
 rw [absI_pos hn, absI_pos (Int.le_of_lt hd), if_pos h, if_pos h, show decide (n < 0) = false by simp; omega, show decide (d < 0) = false by simp; omega]
 by_cases hx : x < 0
 ·rw [absI_neg hx]
  simp [hx]
  have hd0 : d ≠ 0 := by omega
  have e : -x * n = -(x * n) := Int.neg_mul ..
  rw [e]
  generalize x * n = y
  have h1 := Int.emod_add_mul_ediv (-y) d
  have h2 := Int.emod_nonneg (-y) hd0
  have h3 := Int.emod_lt_of_pos (-y) hd
  have h4 := Int.emod_add_mul_ediv y d
  have h5 := Int.emod_nonneg y hd0
  have h6 := Int.emod_lt_of_pos y hd
  generalize hq : -y / d = q at *
  generalize hq' : y / d = q' at *
  generalize hr : -y % d = r at *
  generalize hr' : y % d = r' at *
  have key : d * (q + q') = -(r + r') := by rw [Int.mul_add]; omega
  have k1 : -2 < q + q' := by
   rcases Int.lt_or_le (-2) (q + q') with h | h
   ·exact h
   ·have := Int.mul_le_mul_of_nonneg_left h (Int.le_of_lt hd); omega
  have k2 : q + q' <= 0 := by
   rcases Int.lt_or_le 0 (q + q') with h | h
   ·have := Int.mul_le_mul_of_nonneg_left (show 1 <= q + q' by omega) (Int.le_of_lt hd); omega
   ·exact h
  split
  ·rename_i hpos
   have : q + q' ≠ 0 := fun h0 => by rw [h0] at key; omega
   omega
  ·have : q + q' = 0 := by
    have hr0 : r = 0 := by omega
    rcases (by omega : q + q' = -1 \/ q + q' = 0) with h0 | h0
    ·rw [h0] at key; omega
    ·exact h0
   omega
 ·rw [absI_pos (by omega)]
  simp [hx]
end Abs
end Go.Proofs.YtlabbaglbcmofaaGreat

namespace Go.Proofs.YtlabbaglbcmofaaGreat
namespace Abs
open Go
structure Crv where
 a : Nat
 b : Nat -> Int
 c : Nat
 d : Nat -> Int
@[irreducible] def Crv.nx (c : Crv) : Nat := c.a
@[irreducible] def Crv.x (c : Crv) : Nat -> Int := c.b
@[irreducible] def Crv.ny (c : Crv) : Nat := c.c
@[irreducible] def Crv.y (c : Crv) : Nat -> Int := c.d
@[simp] theorem Crv.nx_mk (a : Nat) (b : Nat -> Int) (c : Nat) (d : Nat -> Int) : (Crv.mk a b c d).nx = a := by unfold Crv.nx; rfl
@[simp] theorem Crv.ny_mk (a : Nat) (b : Nat -> Int) (c : Nat) (d : Nat -> Int) : (Crv.mk a b c d).ny = c := by unfold Crv.ny; rfl
@[simp] theorem Crv.x_mk (a : Nat) (b : Nat -> Int) (c : Nat) (d : Nat -> Int) : (Crv.mk a b c d).x = b := by unfold Crv.x; rfl
@[simp] theorem Crv.y_mk (a : Nat) (b : Nat -> Int) (c : Nat) (d : Nat -> Int) : (Crv.mk a b c d).y = d := by unfold Crv.y; rfl
@[reducible] def crvCells : List Sh := [intsSh, intsSh]
@[reducible] def crvSh : Sh := .agg crvCells
abbrev IntsD := Nat × (Nat -> Int × Unit)
@[irreducible] def crvOf (x : IntsD × IntsD × Unit) : Crv := ⟨x.1.1, fun k => (x.1.2 k).1, x.2.1.1, fun k => (x.2.1.2 k).1⟩
@[reducible] def crvD (c : Crv) : IntsD × IntsD × Unit := ((c.nx, fun k => (c.x k, ())), (c.ny, fun k => (c.y k, ())), ())
@[simp] theorem crvOf_mk (c : Crv) : crvOf ((c.nx, fun k => (c.x k, ())), (c.ny, fun k => (c.y k, ())), ()) = c := by
 unfold crvOf Crv.nx Crv.x Crv.ny Crv.y; rfl
theorem crv_ex (x : Dat crvSh) : ∃ c : Crv, x = crvD c := ⟨crvOf x, by unfold crvD crvOf Crv.nx Crv.x Crv.ny Crv.y; rfl⟩
structure Cel where
 a1 : Int
 c1 : Crv
 a2 : Int
 c2 : Crv
 a3 : Int
 a4 : Int
 a5 : Int
 a6 : Int
 a7 : Int
 a8 : Int
 c3 : Crv
 a9 : Int
 a10 : Int
 a11 : Int
@[irreducible] def Cel.cap (c : Cel) : Int := c.a1
@[irreducible] def Cel.ocv (c : Cel) : Crv := c.c1
@[irreducible] def Cel.shift (c : Cel) : Int := c.a2
@[irreducible] def Cel.cold (c : Cel) : Crv := c.c2
@[irreducible] def Cel.extra (c : Cel) : Int := c.a3
@[irreducible] def Cel.pair (c : Cel) : Int := c.a4
@[irreducible] def Cel.keep (c : Cel) : Int := c.a5
@[irreducible] def Cel.leak (c : Cel) : Int := c.a6
@[irreducible] def Cel.hcap (c : Cel) : Int := c.a7
@[irreducible] def Cel.cool (c : Cel) : Int := c.a8
@[irreducible] def Cel.stress (c : Cel) : Crv := c.c3
@[irreducible] def Cel.cyc (c : Cel) : Int := c.a9
@[irreducible] def Cel.agel (c : Cel) : Int := c.a10
@[irreducible] def Cel.grow (c : Cel) : Int := c.a11
@[reducible] def celCells : List Sh := [.int .i64, intsSh, intsSh, .int .i64, intsSh, intsSh, .int .i64, .int .i64, .int .i64, .int .i64, .int .i64, .int .i64, intsSh, intsSh, .int .i64, .int .i64, .int .i64]
@[reducible] def celSh : Sh := .agg celCells
abbrev CelD := Int × IntsD × IntsD × Int × IntsD × IntsD × Int × Int × Int × Int × Int × Int × IntsD × IntsD × Int × Int × Int × Unit
@[irreducible] def celOf (x : CelD) : Cel :=
 let (a1, x1, y1, a2, x2, y2, a3, a4, a5, a6, a7, a8, x3, y3, a9, a10, a11, _) := x
 ⟨a1, crvOf (x1, y1, ()), a2, crvOf (x2, y2, ()), a3, a4, a5, a6, a7, a8, crvOf (x3, y3, ()), a9, a10, a11⟩
@[reducible] def celD (c : Cel) : CelD := (c.cap, (c.ocv.nx, fun k => (c.ocv.x k, ())), (c.ocv.ny, fun k => (c.ocv.y k, ())), c.shift, (c.cold.nx, fun k => (c.cold.x k, ())), (c.cold.ny, fun k => (c.cold.y k, ())),
 c.extra, c.pair, c.keep, c.leak, c.hcap, c.cool, (c.stress.nx, fun k => (c.stress.x k, ())), (c.stress.ny, fun k => (c.stress.y k, ())), c.cyc, c.agel, c.grow, ())
@[simp] theorem celOf_mk (c : Cel) : celOf (c.cap, (c.ocv.nx, fun k => (c.ocv.x k, ())), (c.ocv.ny, fun k => (c.ocv.y k, ())), c.shift, (c.cold.nx, fun k => (c.cold.x k, ())), (c.cold.ny, fun k => (c.cold.y k, ())),
  c.extra, c.pair, c.keep, c.leak, c.hcap, c.cool, (c.stress.nx, fun k => (c.stress.x k, ())), (c.stress.ny, fun k => (c.stress.y k, ())), c.cyc, c.agel, c.grow, ()) = c := by
 unfold celOf crvOf Cel.cap Cel.ocv Cel.shift Cel.cold Cel.extra Cel.pair Cel.keep Cel.leak Cel.hcap Cel.cool Cel.stress Cel.cyc Cel.agel Cel.grow Crv.nx Crv.x Crv.ny Crv.y; rfl
@[simp] theorem celOf_D (c : Cel) : celOf (celD c) = c := celOf_mk c
theorem cel_ex (x : Dat celSh) : ∃ c : Cel, x = celD c := ⟨celOf x, by
 unfold celD celOf crvOf Cel.cap Cel.ocv Cel.shift Cel.cold Cel.extra Cel.pair Cel.keep Cel.leak Cel.hcap Cel.cool Cel.stress Cel.cyc Cel.agel Cel.grow Crv.nx Crv.x Crv.ny Crv.y; rfl⟩
structure Sta where
 a1 : Int
 a2 : Int
 a3 : Int
 a4 : Int
 a5 : Int
@[irreducible] def Sta.q (s : Sta) : Int := s.a1
@[irreducible] def Sta.rx (s : Sta) : Int := s.a2
@[irreducible] def Sta.tp (s : Sta) : Int := s.a3
@[irreducible] def Sta.th (s : Sta) : Int := s.a4
@[irreducible] def Sta.ag (s : Sta) : Int := s.a5
@[simp] theorem Sta.q_mk (a b c d e : Int) : (Sta.mk a b c d e).q = a := by unfold Sta.q; rfl
@[simp] theorem Sta.rx_mk (a b c d e : Int) : (Sta.mk a b c d e).rx = b := by unfold Sta.rx; rfl
@[simp] theorem Sta.tp_mk (a b c d e : Int) : (Sta.mk a b c d e).tp = c := by unfold Sta.tp; rfl
@[simp] theorem Sta.th_mk (a b c d e : Int) : (Sta.mk a b c d e).th = d := by unfold Sta.th; rfl
@[simp] theorem Sta.ag_mk (a b c d e : Int) : (Sta.mk a b c d e).ag = e := by unfold Sta.ag; rfl
@[reducible] def staCells : List Sh := [.int .i64, .int .i64, .int .i64, .int .i64, .int .i64]
@[reducible] def staSh : Sh := .agg staCells
abbrev StaD := Int × Int × Int × Int × Int × Unit
@[irreducible] def staOf (x : StaD) : Sta := ⟨x.1, x.2.1, x.2.2.1, x.2.2.2.1, x.2.2.2.2.1⟩
@[reducible] def staD (s : Sta) : StaD := (s.q, s.rx, s.tp, s.th, s.ag, ())
@[simp] theorem staOf_mk (s : Sta) : staOf (s.q, s.rx, s.tp, s.th, s.ag, ()) = s := by unfold staOf Sta.q Sta.rx Sta.tp Sta.th Sta.ag; rfl
@[simp] theorem staOf_D (s : Sta) : staOf (staD s) = s := staOf_mk s
theorem sta_ex (x : Dat staSh) : ∃ s : Sta, x = staD s := ⟨staOf x, by unfold staD staOf Sta.q Sta.rx Sta.tp Sta.th Sta.ag; rfl⟩
theorem Sta.ext' {s t : Sta} (h1 : s.q = t.q) (h2 : s.rx = t.rx) (h3 : s.tp = t.tp) (h4 : s.th = t.th) (h5 : s.ag = t.ag) : s = t := by
 unfold Sta.q at h1; unfold Sta.rx at h2; unfold Sta.tp at h3; unfold Sta.th at h4; unfold Sta.ag at h5
 cases s; cases t; simp_all
@[irreducible] def crB (c : Crv) : Bool := decide (c.nx = c.ny) && decide (2 <= c.nx) && decide (c.nx <= 64) && allN (fun k => isQ (c.x k) && isQ (c.y k)) c.nx && allN (fun k => decide (c.x k < c.x (k + 1)) && decide (c.y k <= c.y (k + 1))) (c.nx - 1)
theorem crB_iff {c : Crv} : crB c = true ↔ c.nx = c.ny /\ 2 <= c.nx /\ c.nx <= 64 /\ (∀ k, k < c.nx -> isQ (c.x k) = true /\ isQ (c.y k) = true) /\ ∀ k, k + 1 < c.nx -> c.x k < c.x (k + 1) /\ c.y k <= c.y (k + 1) := by
 unfold crB
 simp only [Bool.and_eq_true, decide_eq_true_eq, allN_iff, and_assoc]
 constructor
 ·rintro ⟨a, b, c', d, e⟩; exact ⟨a, b, c', d, fun k hk => e k (by omega)⟩
 ·rintro ⟨a, b, c', d, e⟩; exact ⟨a, b, c', d, fun k hk => e k (by omega)⟩
@[irreducible] def crE (c : Crv) : Int := if 64 < c.nx \/ 64 < c.ny then 6 else if crB c = true then 0 else 2
theorem crE_iff {c : Crv} : crE c = 0 ↔ crB c = true := by
 unfold crE
 split
 ·constructor
  ·intro h; cases h
  ·intro h; have := crB_iff.1 h; omega
 ·split <;> simp [*]
@[irreducible] def sgI (c : Crv) (x : Int) : Nat := firstN (fun i => decide (x < c.x (i + 1))) (c.nx - 1)
@[irreducible] def pcL (c : Crv) (i : Nat) (x : Int) : Int := c.y i + (x - c.x i) * (c.y (i + 1) - c.y i) / (c.x (i + 1) - c.x i)
@[irreducible] def pcH (c : Crv) (i : Nat) (x : Int) : Int := c.y i + -(-(x - c.x i) * (c.y (i + 1) - c.y i) / (c.x (i + 1) - c.x i))
@[irreducible] def valL (c : Crv) (x : Int) : Int := if c.x (c.nx - 1) <= x then c.y (c.nx - 1) else if x < c.x 0 then c.y 0 else pcL c (sgI c x) x
@[irreducible] def valH (c : Crv) (x : Int) : Int := if c.x (c.nx - 1) <= x then c.y (c.nx - 1) else if x < c.x 0 then c.y 0 else pcH c (sgI c x) x
theorem crv_x {c : Crv} (h : crB c = true) : ∀ {j i : Nat}, i <= j -> j < c.nx -> c.x i + ((j - i : Nat) : Int) <= c.x j
 | 0, i, h1, h2 => by
   obtain rfl : i = 0 := by omega
   simp
 | j + 1, i, h1, h2 => by
   rcases Nat.lt_or_ge i (j + 1) with hl | hl
   ·have h3 := crv_x h (j := j) (i := i) (by omega) (by omega)
    have h4 := (crB_iff.1 h).2.2.2.2 j h2
    omega
   ·obtain rfl : i = j + 1 := by omega
    simp
theorem crv_y {c : Crv} (h : crB c = true) : ∀ {j i : Nat}, i <= j -> j < c.nx -> c.y i <= c.y j
 | 0, i, h1, h2 => by
   obtain rfl : i = 0 := by omega
   exact Int.le_refl _
 | j + 1, i, h1, h2 => by
   rcases Nat.lt_or_ge i (j + 1) with hl | hl
   ·have h3 := crv_y h (j := j) (i := i) (by omega) (by omega)
    have h4 := (crB_iff.1 h).2.2.2.2 j h2
    omega
   ·obtain rfl : i = j + 1 := by omega
    exact Int.le_refl _
theorem sgI_spec {c : Crv} (h : crB c = true) {x : Int} (h0 : c.x 0 <= x) (h1 : x < c.x (c.nx - 1)) : sgI c x + 1 < c.nx /\ c.x (sgI c x) <= x /\ x < c.x (sgI c x + 1) := by
 have hb := crB_iff.1 h
 have hle := firstN_le (fun i => decide (x < c.x (i + 1))) (c.nx - 1)
 have hne : firstN (fun i => decide (x < c.x (i + 1))) (c.nx - 1) < c.nx - 1 := by
  rcases Nat.lt_or_ge (firstN (fun i => decide (x < c.x (i + 1))) (c.nx - 1)) (c.nx - 1) with h2 | h2
  ·exact h2
  ·have := firstN_not (fun i => decide (x < c.x (i + 1))) (c.nx - 1) (c.nx - 2) (by omega)
   simp at this
   rw [show c.nx - 2 + 1 = c.nx - 1 by omega] at this
   omega
 have h3 := firstN_is _ _ hne
 unfold sgI
 refine ⟨by omega, ?_, by simpa using h3⟩
 generalize hi : firstN (fun i => decide (x < c.x (i + 1))) (c.nx - 1) = i at *
 cases i with
 | zero => exact h0
 | succ i =>
   have := firstN_not (fun i => decide (x < c.x (i + 1))) (c.nx - 1) i (by omega)
   simpa using this
theorem sgI_uniq {c : Crv} (h : crB c = true) {x : Int} {i : Nat} (hi : i + 1 < c.nx) (h0 : c.x i <= x) (h1 : x < c.x (i + 1)) : sgI c x = i := by
 unfold sgI
 refine firstN_uniq (by omega) (fun j hj => ?_) (fun _ => by simpa using h1)
 have := crv_x h (j := i) (i := j + 1) (by omega) (by omega)
 simp; omega
theorem piece_in {a d w : Int} (ha : 0 <= a) (haw : a <= w) (hw : 0 < w) (hd : 0 <= d) : 0 <= a * d / w /\ a * d / w <= d /\ 0 <= -(-a * d / w) /\ -(-a * d / w) <= d := by
 have e1 := Int.mul_nonneg ha hd
 have e2 := Int.mul_le_mul_of_nonneg_right haw hd
 have e3 : 0 <= a * d / w := Int.ediv_nonneg e1 (Int.le_of_lt hw)
 have e4 : a * d / w <= d := by
  refine Int.ediv_le_of_le_mul hw ?_
  rw [Int.mul_comm d w]; exact e2
 have e5 : -a * d = -(a * d) := Int.neg_mul ..
 have e6 : -d <= -a * d / w := by
  refine (Int.le_ediv_iff_mul_le hw).2 ?_
  rw [e5, Int.neg_mul, Int.mul_comm d w]; omega
 have e7 : -a * d / w <= 0 := by
  refine Int.ediv_le_of_le_mul hw ?_
  rw [e5]; omega
 omega
theorem pc_in {c : Crv} (h : crB c = true) {i : Nat} (hi : i + 1 < c.nx) {x : Int} (h0 : c.x i <= x) (h1 : x <= c.x (i + 1)) :
  c.y i <= pcL c i x /\ pcL c i x <= c.y (i + 1) /\ c.y i <= pcH c i x /\ pcH c i x <= c.y (i + 1) := by
 have hb := (crB_iff.1 h).2.2.2.2 i hi
 have := piece_in (a := x - c.x i) (d := c.y (i + 1) - c.y i) (w := c.x (i + 1) - c.x i) (by omega) (by omega) (by omega) (by omega)
 unfold pcL pcH
 omega
theorem valL_b {c : Crv} (h : crB c = true) (x : Int) : c.y 0 <= valL c x /\ valL c x <= c.y (c.nx - 1) := by
 have hb := crB_iff.1 h
 have hy := crv_y h (j := c.nx - 1) (i := 0) (by omega) (by omega)
 unfold valL
 split
 ·omega
 ·split
  ·omega
  ·have hs := sgI_spec h (x := x) (by omega) (by omega)
   have hp := pc_in h hs.1 hs.2.1 (by omega)
   have h1 := crv_y h (j := sgI c x) (i := 0) (by omega) (by omega)
   have h2 := crv_y h (j := c.nx - 1) (i := sgI c x + 1) (by omega) (by omega)
   omega
theorem pcL_mono {c : Crv} (h : crB c = true) {i : Nat} (hi : i + 1 < c.nx) {x y : Int} (hxy : x <= y) : pcL c i x <= pcL c i y := by
 have hb := (crB_iff.1 h).2.2.2.2 i hi
 have e := Int.mul_le_mul_of_nonneg_right (show x - c.x i <= y - c.x i by omega) (show 0 <= c.y (i + 1) - c.y i by omega)
 have := Int.ediv_le_ediv (show 0 < c.x (i + 1) - c.x i by omega) e
 unfold pcL
 omega
theorem valL_mono {c : Crv} (h : crB c = true) {x y : Int} (hxy : x <= y) : valL c x <= valL c y := by
 have hb := crB_iff.1 h
 have bx := valL_b h x
 have by' := valL_b h y
 by_cases h1 : c.x (c.nx - 1) <= y
 ·have : valL c y = c.y (c.nx - 1) := by unfold valL; rw [if_pos h1]
  omega
 ·by_cases h2 : x < c.x 0
  ·have h3 : ¬ c.x (c.nx - 1) <= x := by have := crv_x h (j := c.nx - 1) (i := 0) (by omega) (by omega); omega
   have : valL c x = c.y 0 := by unfold valL; rw [if_neg h3, if_pos h2]
   omega
  ·have sx := sgI_spec h (x := x) (by omega) (by omega)
   have sy := sgI_spec h (x := y) (by omega) (by omega)
   have ex : valL c x = pcL c (sgI c x) x := by unfold valL; rw [if_neg (by omega), if_neg h2]
   have ey : valL c y = pcL c (sgI c y) y := by unfold valL; rw [if_neg h1, if_neg (by omega)]
   rw [ex, ey]
   rcases Nat.lt_trichotomy (sgI c x) (sgI c y) with hl | hl | hl
   ·have p1 := pc_in h sx.1 sx.2.1 (by omega)
    have p2 := pc_in h sy.1 sy.2.1 (by omega)
    have := crv_y h (j := sgI c y) (i := sgI c x + 1) (by omega) (by omega)
    omega
   ·rw [hl]; exact pcL_mono h sy.1 hxy
   ·exfalso
    have := crv_x h (j := sgI c x) (i := sgI c y + 1) (by omega) (by omega)
    omega
@[irreducible] def dvI (n d : Int) : Int := n / d
theorem dvI_by {n d : Int} (h1 : -4611686018427387904 <= n) (h2 : n <= 4611686018427387904) (h3 : 1 <= d) : ¬d = 0 /\ -9223372036854775808 <= n.tdiv d /\ n.tdiv d <= 9223372036854775807 /\ ¬d = 0 /\
  (n.tmod d < 0 -> -9223372036854775808 <= n.tdiv d - 1 /\ n.tdiv d - 1 <= 9223372036854775807 /\ n.tdiv d - 1 = dvI n d) /\ (0 <= n.tmod d -> n.tdiv d = dvI n d) := by
 have hd : d ≠ 0 := by omega
 have key : (n.tmod d < 0 -> n.tdiv d - 1 = n / d) /\ (0 <= n.tmod d -> n.tdiv d = n / d) := by
  have a1 := Int.tmod_add_mul_tdiv n d
  have a2 := Int.tmod_lt_of_pos n (show 0 < d by omega)
  have a3 := Int.lt_tmod_of_pos n (show 0 < d by omega)
  have a4 := Int.emod_add_mul_ediv n d
  have a5 := Int.emod_nonneg n hd
  have a6 := Int.emod_lt_of_pos n (show 0 < d by omega)
  generalize n.tmod d = r at *
  generalize n.tdiv d = q at *
  generalize n % d = s at *
  generalize n / d = p at *
  have e : d * (p - q) = r - s := by rw [Int.mul_sub]; omega
  have k1 : -2 < p - q := by
   rcases Int.lt_or_le (-2) (p - q) with h | h
   ·exact h
   ·have := Int.mul_le_mul_of_nonneg_left h (show 0 <= d by omega); omega
  have k2 : p - q < 1 := by
   rcases Int.lt_or_le (p - q) 1 with h | h
   ·exact h
   ·have := Int.mul_le_mul_of_nonneg_left h (show 0 <= d by omega); omega
  rcases (by omega : p - q = -1 \/ p - q = 0) with h | h <;> rw [h] at e
  ·constructor
   ·intro _; omega
   ·intro hr; omega
  ·constructor
   ·intro hr; omega
   ·intro _; omega
 have b1 : -4611686018427387904 <= n / d := by
  rw [Int.le_ediv_iff_mul_le (by omega)]
  have := Int.mul_le_mul_of_nonneg_left h3 (show (0 : Int) <= 4611686018427387904 by decide)
  omega
 have b2 : n / d <= 4611686018427387904 := by
  rcases Int.lt_or_le n 0 with h | h
  ·have := Int.ediv_neg_of_neg_of_pos h (show 0 < d by omega); omega
  ·have := Int.ediv_le_self d h; omega
 unfold dvI
 rcases Int.lt_or_le (n.tmod d) 0 with h | h
 ·have := key.1 h
  exact ⟨hd, by omega, by omega, hd, fun _ => by omega, fun h' => by omega⟩
 ·have := key.2 h
  exact ⟨hd, by omega, by omega, hd, fun h' => by omega, fun _ => by omega⟩
@[irreducible] def clipV (x lo hi : Int) : Int := max lo (min x hi)
theorem clipV_in {x lo hi : Int} (h : lo <= hi) : lo <= clipV x lo hi /\ clipV x lo hi <= hi := by unfold clipV; omega
theorem clipV_mono {x y lo hi : Int} (h : x <= y) : clipV x lo hi <= clipV y lo hi := by unfold clipV; omega
theorem dvI_mono {a b d : Int} (hd : 1 <= d) (h : a <= b) : dvI a d <= dvI b d := by unfold dvI; exact Int.ediv_le_ediv (by omega) h
theorem dvI_nonneg {a d : Int} (hd : 1 <= d) (h : 0 <= a) : 0 <= dvI a d := by unfold dvI; exact Int.ediv_nonneg h (by omega)
theorem dvI_le {a d m : Int} (hd : 1 <= d) (h : a <= m * d) : dvI a d <= m := by unfold dvI; exact Int.ediv_le_of_le_mul (by omega) h
theorem dvI_ge {a d m : Int} (hd : 1 <= d) (h : m * d <= a) : m <= dvI a d := by unfold dvI; exact (Int.le_ediv_iff_mul_le (by omega)).2 h
@[irreducible] def scB (c : Crv) (last most : Int) : Bool := crB c && decide (c.x 0 = 0) && decide (c.x (c.nx - 1) = last) && decide (0 <= c.y 0) && decide (c.y (c.nx - 1) <= most)
theorem scB_iff {c : Crv} {last most : Int} : scB c last most = true ↔ crB c = true /\ c.x 0 = 0 /\ c.x (c.nx - 1) = last /\ 0 <= c.y 0 /\ c.y (c.nx - 1) <= most := by unfold scB; simp [and_assoc]
def CelMax (c : Cel) : Prop := c.ocv.nx <= maxLen /\ c.ocv.ny <= maxLen /\ c.cold.nx <= maxLen /\ c.cold.ny <= maxLen /\ c.stress.nx <= maxLen /\ c.stress.ny <= maxLen
structure CelOK (c : Cel) : Prop where
 cap0 : 1 <= c.cap
 cap1 : c.cap <= 4294967296
 sh0 : -8388608 <= c.shift
 sh1 : c.shift <= 8388608
 ex0 : -1048576 <= c.extra
 ex1 : c.extra <= 1048576
 pr0 : 0 <= c.pair
 pr1 : c.pair <= 1048576
 lk0 : 0 <= c.leak
 lk1 : c.leak <= 1048576
 kp0 : 0 <= c.keep
 kp1 : c.keep <= 65536
 co0 : 0 <= c.cool
 co1 : c.cool <= 65536
 hc0 : 1 <= c.hcap
 hc1 : c.hcap <= 1099511627776
 cy0 : 0 <= c.cyc
 cy1 : c.cyc <= 1048576
 al0 : 0 <= c.agel
 al1 : c.agel <= 1048576
 gr0 : 0 <= c.grow
 gr1 : c.grow <= 1048576
 ocv : scB c.ocv 65536 8388608 = true
 cold : scB c.cold 400000 1048576 = true
 stress : scB c.stress 400000 1048576 = true
open Classical in
@[irreducible] noncomputable def celB (c : Cel) : Bool := decide (CelOK c)
theorem celB_iff {c : Cel} : celB c = true ↔ CelOK c := by unfold celB; simp
theorem celB_no {c : Cel} (h : CelOK c -> False) : celB c = false := by
 cases hb : celB c with
 | false => rfl
 | true => exact (h (celB_iff.1 hb)).elim
theorem CelOK.max {c : Cel} (h : CelOK c) : CelMax c := by
 have h1 := crB_iff.1 (scB_iff.1 h.ocv).1
 have h2 := crB_iff.1 (scB_iff.1 h.cold).1
 have h3 := crB_iff.1 (scB_iff.1 h.stress).1
 unfold CelMax maxLen
 omega
theorem sc_val {c : Crv} {last most : Int} (h : scB c last most = true) (x : Int) : 0 <= valL c x /\ valL c x <= most := by
 have h1 := scB_iff.1 h
 have := valL_b h1.1 x
 omega
structure WearOK (c : Cel) (t a : Int) : Prop where
 c0 : 0 <= c.cyc
 c1 : c.cyc <= 1048576
 a0 : 0 <= c.agel
 a1 : c.agel <= 1048576
 t0 : 0 <= t
 t1 : t <= 2199023255552
 g0 : 0 <= a
 g1 : a <= 2199023255552
theorem mul_in {a b A B : Int} (h0 : 0 <= a) (h1 : a <= A) (h2 : 0 <= b) (h3 : b <= B) : 0 <= a * b /\ a * b <= A * B :=
 ⟨Int.mul_nonneg h0 h2, Int.le_trans (Int.mul_le_mul_of_nonneg_right h1 h2) (Int.mul_le_mul_of_nonneg_left h3 (by omega))⟩
theorem mul_ab {a b A B : Int} (h0 : -A <= a) (h1 : a <= A) (h2 : 0 <= b) (h3 : b <= B) : -(A * B) <= a * b /\ a * b <= A * B := by
 have hA : 0 <= A := by omega
 have k2 := Int.mul_le_mul_of_nonneg_left h3 hA
 have k3 := Int.mul_le_mul_of_nonneg_right h1 h2
 have k4 := Int.mul_le_mul_of_nonneg_right h0 h2
 rw [Int.neg_mul] at k4
 omega
@[irreducible] def wearV (c : Cel) (t a : Int) : Int := dvI (t * c.cyc) 1073741824 + dvI (a * c.agel) 1073741824
theorem wearV_in {c : Cel} {t a : Int} (h : WearOK c t a) : 0 <= wearV c t a /\ wearV c t a <= 4294967296 := by
 have h1 := mul_in h.t0 h.t1 h.c0 h.c1
 have h2 := mul_in h.g0 h.g1 h.a0 h.a1
 have h3 := dvI_le (a := t * c.cyc) (d := 1073741824) (m := 2147483648) (by decide) (by omega)
 have h4 := dvI_le (a := a * c.agel) (d := 1073741824) (m := 2147483648) (by decide) (by omega)
 have h5 := dvI_nonneg (a := t * c.cyc) (d := 1073741824) (by decide) h1.1
 have h6 := dvI_nonneg (a := a * c.agel) (d := 1073741824) (by decide) h2.1
 unfold wearV
 omega
@[irreducible] def roomV (c : Cel) (w : Int) : Int := max 1 (c.cap - w)
theorem roomV_in {c : Cel} {w : Int} : 1 <= roomV c w /\ (0 <= w -> 1 <= c.cap -> roomV c w <= c.cap) := by unfold roomV; omega
@[irreducible] def pcV (x o : Int) : Int := min 65536 (dvI (x * 65536) o)
@[irreducible] def openV (c : Cel) (f : Int) : Int := valL c.ocv f + c.shift
@[irreducible] def resV (c : Cel) (t w : Int) : Int := clipV (valL c.cold (400000 - t) + c.extra + dvI (w * c.grow) 65536) 0 1048576
@[irreducible] def slackV (c : Cel) (o p : Int) : Int := clipV (dvI (1000 * c.keep * o + (65536 - c.keep) * p) 65536000) (-8388608) 8388608
end Abs
end Go.Proofs.YtlabbaglbcmofaaGreat

namespace Go.Proofs.YtlabbaglbcmofaaGreat
namespace Abs
open Go Go.RowKit
theorem mixed : Tryz.prog.follows .mixedOrders = true := by kernel_rfl
def spanKs : List (Option IntKind) := [some .i64, some .i64]
def stateKs : List (Option IntKind) := [some .i64, some .i64, some .i64, some .i64, some .i64]
def eqs0 : List (Nat × List (Option IntKind)) := [(32, spanKs), (70, stateKs)]
theorem eqs0_ok : ∀ t ks, findS eqs0 t = some ks -> EqOK Tryz.prog t ks := by
 intro t ks h
 unfold eqs0 at h
 simp only [findS] at h
 split at h
 ·rename_i e
  obtain rfl := Nat.eq_of_beq_eq_true e
  injection h with h; subst h
  exact EqOK.of 3 (by decide) (by kernel_rfl) (by kernel_rfl) (by kernel_rfl)
 ·first
  | cases h; done
  | split at h
    ·rename_i e
     obtain rfl := Nat.eq_of_beq_eq_true e
     injection h with h; subst h
     exact EqOK.of 3 (by decide) (by kernel_rfl) (by kernel_rfl) (by kernel_rfl)
    ·cases h
noncomputable def S0 : Sums := ⟨[], [], 0, eqs0, [], []⟩
theorem S0_ok : SumsOK Tryz.prog S0 := .nil _ _ _ eqs0_ok
def isS : Spec [.int .i64] := ⟨fun _ => True, fun (x, _) => .sb (isQ x)⟩
set_option maxRecDepth 100000 in
theorem is_ok : FnSpec Tryz.prog 140 _ isS := by
 refine FnSpec.of S0_ok mixed (U := 0) (I := fun _ => []) Tryz.func140 rfl (by kernel_rfl) rfl rfl (by decide +kernel) ?_
 rintro ⟨(x : Int), ⟨⟩⟩ -
 unfold FnSat
 conv => arg 2; reduce
 simp [isS, isQ]
noncomputable def SQ0 : Sums := ⟨(140, mkSum _ isS) :: S0.one, S0.two, S0.lo, S0.eqs, S0.its, S0.imm⟩
theorem SQ0_ok : SumsOK Tryz.prog SQ0 := (S0_ok.cons Tryz.func140 (by kernel_rfl) (by kernel_rfl) is_ok)
def badS : Spec [spanSh] := ⟨fun _ => True, fun ((lo, hi, _), _) => .sb (badSpan lo hi)⟩
set_option maxRecDepth 100000 in
theorem bad_ok : FnSpec Tryz.prog 154 _ badS := by
 refine FnSpec.of SQ0_ok mixed (U := 0) (I := fun _ => []) Tryz.func154 rfl (by kernel_rfl) rfl rfl (by decide +kernel) ?_
 rintro ⟨⟨(lo : Int), (hi : Int), ⟨⟩⟩, ⟨⟩⟩ -
 unfold FnSat
 conv => arg 2; reduce
 simp [badS, isS, badSpan, spanOK]
 cases isQ lo <;> cases isQ hi <;> (rw [Bool.eq_iff_iff]; simp)
noncomputable def SQ1 : Sums := ⟨(154, mkSum _ badS) :: SQ0.one, SQ0.two, SQ0.lo, SQ0.eqs, SQ0.its, SQ0.imm⟩
theorem SQ1_ok : SumsOK Tryz.prog SQ1 := (SQ0_ok.cons Tryz.func154 (by kernel_rfl) (by kernel_rfl) bad_ok)
def anyBadI : Spec [.slice 2 [.int .i64, .int .i64], .fn 154 [] []] := ⟨fun x => x.1.1 <= maxLen, fun ((n, el), ((_, c), _)) => .si .i64 (idxN (fun k => badSpan (el k).1 (el k).2.1) n)⟩
noncomputable def anyBadA : DatL [.slice 2 [.int .i64, .int .i64], .fn 154 [] []] -> Anns := fun ((n, el), ((_, c), _)) => [(2, [], fun fr hp => ⟨Nat, fun g => ⟨frI [.k 5, .t 1, .k 2, .s (.si .i64 (icast g)), .t 10] fr, hp⟩, Nat, fun g => g, fun g => g <= firstN (fun k => badSpan (el k).1 (el k).2.1) n, fun g => nsub n g⟩)]
set_option maxRecDepth 100000 in
theorem anyBadI_ok : FnSpec Tryz.prog 185 _ anyBadI := by
 refine FnSpec.of SQ1_ok mixed (U := 0) (I := anyBadA) Tryz.func185 rfl (by kernel_rfl) rfl rfl (by decide +kernel) ?_
 rintro ⟨⟨n, el⟩, ⟨⟨⟩, c⟩, ⟨⟩⟩ hpre
 have hn : n <= maxLen := hpre
 unfold FnSat
 conv => arg 2; reduce
 unfold maxLen at hn
 have hle := firstN_le (fun k => badSpan (el k).1 (el k).2.1) n
 simp [anyBadI, badS, and_assoc]
 refine ⟨⟨0, rfl, by omega⟩, fun k hk => ⟨fun h1 => ?_, fun h1 => ?_⟩⟩
 ·refine And.intro h1 ?_
  refine ⟨fun h2 => ?_, fun h2 => ?_⟩
  ·rw [idxN, firstN_at hk (by simpa using h2), if_pos h1]; try simp
  ·have := firstN_ge hk (by simpa using h2) h1
   refine ⟨by omega, by omega, k + 1, by omega, by omega, by omega⟩
 ·rw [idxN, if_neg (by omega)]
def anyBadC : Spec [.slice 2 [.int .i64, .int .i64], .fn 154 [] []] := ⟨fun x => x.1.1 <= maxLen, fun ((n, el), ((_, c), _)) => .sb (anyN (fun k => badSpan (el k).1 (el k).2.1) n)⟩
noncomputable def anyBadS : Sums := ⟨(185, mkSum _ anyBadI) :: SQ1.one, SQ1.two, SQ1.lo, SQ1.eqs, SQ1.its, SQ1.imm⟩
theorem anyBadS_ok : SumsOK Tryz.prog anyBadS := (SQ1_ok.cons Tryz.func185 (by kernel_rfl) (by kernel_rfl) anyBadI_ok)
set_option maxRecDepth 100000 in
theorem anyBadC_ok : FnSpec Tryz.prog 153 _ anyBadC := by
 refine FnSpec.of anyBadS_ok mixed (U := 0) (I := fun _ => []) Tryz.func153 rfl (by kernel_rfl) rfl rfl (by decide +kernel) ?_
 rintro ⟨⟨n, el⟩, ⟨⟨⟩, c⟩, ⟨⟩⟩ hpre
 unfold FnSat
 conv => arg 2; reduce
 have hpre : anyBadC.pre ((n, el), (((), c), ())) := hpre
 simp [anyBadC, anyBadI, idxN_nonneg] at hpre ⊢
 exact hpre
@[irreducible] def spansOK (el : Nat -> Int × Int × Unit) (n : Nat) : Bool := !(anyN (fun k => badSpan (el k).1 (el k).2.1) n)
@[simp] theorem spansOK_one (el : Nat -> Int × Int × Unit) : spansOK el 1 = spanOK (el 0).1 (el 0).2.1 := by
 unfold spansOK badSpan; rw [anyN_one]; simp
@[simp] theorem spansOK_two (el : Nat -> Int × Int × Unit) : spansOK el 2 = (spanOK (el 0).1 (el 0).2.1 && spanOK (el 1).1 (el 1).2.1) := by
 unfold spansOK badSpan; rw [anyN_two]; simp
theorem spansOK_iff (el : Nat -> Int × Int × Unit) (n : Nat) : spansOK el n = true ↔ ∀ k, k < n -> spanOK (el k).1 (el k).2.1 = true := by
 unfold spansOK badSpan; rw [Bool.not_eq_true', anyN_false]; simp
noncomputable def SQ2 : Sums := ⟨(153, mkSum _ anyBadC) :: SQ1.one, SQ1.two, SQ1.lo, SQ1.eqs, SQ1.its, SQ1.imm⟩
theorem SQ2_ok : SumsOK Tryz.prog SQ2 := (SQ1_ok.cons Tryz.func153 (by kernel_rfl) (by kernel_rfl) anyBadC_ok)
def validS : Spec [spansSh] := ⟨fun x => x.1.1 <= maxLen, fun ((n, el), _) => .sb (spansOK el n)⟩
set_option maxRecDepth 100000 in
theorem valid_ok : FnSpec Tryz.prog 93 _ validS := by
 refine FnSpec.of SQ2_ok mixed (U := 0) (I := fun _ => []) Tryz.func93 rfl (by kernel_rfl) rfl rfl (by decide +kernel) ?_
 rintro ⟨⟨n, el⟩, ⟨⟩⟩ (hn : n <= maxLen)
 unfold FnSat
 conv => arg 2; reduce
 simp [validS, anyBadC, spansOK]
 exact hn
noncomputable def SQ3 : Sums := ⟨(93, mkSum _ validS) :: SQ2.one, SQ2.two, SQ2.lo, SQ2.eqs, SQ2.its, SQ2.imm⟩
theorem SQ3_ok : SumsOK Tryz.prog SQ3 := (SQ2_ok.cons Tryz.func93 (by kernel_rfl) (by kernel_rfl) valid_ok)
end Abs
end Go.Proofs.YtlabbaglbcmofaaGreat

namespace Go.Proofs.YtlabbaglbcmofaaGreat
namespace Abs
open Go Go.RowKit
def EndQ (P1 : Act -> World -> Prop) : Exit -> Act -> World -> Prop := fun e a w => e = .normal /\ P1 a w
section
variable {F : Fence} {n : Nat} {P : Program} {P1 : Act -> World -> Prop} {Q : Exit -> Act -> World -> Prop}
theorem wpIn_endQ {o : Oper} {a : Act} {w : World} {K K' : Act -> World -> Prop} (h : ∀ a w, K a w -> K' a w) (hh : o.wpIn F n P a w K (EndQ P1)) : o.wpIn F n P a w K' Q := by
 unfold Oper.wpIn at *
 refine ⟨hh.1, ?_⟩
 have hh := hh.2
 generalize (o.semAt F.round a.eval).run P w = r at *
 cases r with
 | ok x w' =>
   cases x <;> simp only [Oper.uponIn] at hh ⊢ <;>
    first
     | exact h _ _ hh
     | exact ⟨hh.1, CallsIn.mono hh.2 (fun e w'' he => by cases e <;> first | exact h _ _ he | (obtain ⟨h1, _⟩ := he; cases h1; done) | (obtain ⟨_, _, h1, _⟩ := he; cases h1))⟩
     | exact ⟨hh.1, RowsIn.mono hh.2 (fun _ _ he => h _ _ he)⟩
     | exact ⟨hh.1, RoundIn.mono hh.2 (fun e w'' he => by cases e <;> first | exact h _ _ he | (obtain ⟨h1, _⟩ := he; cases h1; done) | (obtain ⟨_, _, h1, _⟩ := he; cases h1))⟩
 | halt x w' => cases x <;> simp only [Oper.uponIn] at hh ⊢ <;> first | exact hh | (obtain ⟨h1, _⟩ := hh; cases h1)
theorem yieldedO_eq {ops ops' : Array Oper} {tm : Array Value} {j : Nat} (h : ops[j]? = ops'[j]?) : yielded ops tm j = yielded ops' tm j := by unfold yielded; rw [h]
theorem wanted_pre {pre all : List Oper} {o : Oper} {tm : Array Value} (hg : ∀ g w, o.guard = some (g, w) -> pre[g]? = all[g]?) : Region.wanted o (yielded pre.toArray tm) = Region.wanted o (yielded all.toArray tm) := by
 unfold Region.wanted
 cases h : o.guard with
 | none => rfl
 | some x => obtain ⟨g, w⟩ := x; simp only; rw [yieldedO_eq (ops := pre.toArray) (ops' := all.toArray) (by simpa using hg g w h)]
theorem take_get {all : List Oper} {k i : Nat} (h : i < k) : (all.take k)[i]? = all[i]? := by rw [List.getElem?_take]; simp [h]
theorem opIn_pre {all : List Oper} {k i : Nat} (hi : i < k) (hu : uniqOK (all.take k) = true) {a : Act} {w : World} {K K' : Act -> World -> Prop} (h : ∀ a w, K a w -> K' a w) (hh : wpOpIn F n P (all.take k).toArray (EndQ P1) i K a w) : wpOpIn F n P all.toArray Q i K' a w := by
 unfold wpOpIn at *
 have e : (all.take k).toArray[i]? = all.toArray[i]? := by simp [List.getElem?_take, hi]
 rw [e] at hh
 cases ho : all.toArray[i]? with
 | none => rw [ho] at hh; exact h _ _ hh
 | some o =>
   rw [ho] at hh
   simp only at hh ⊢
   have hpo : (all.take k)[i]? = some o := by simpa [List.getElem?_take, hi] using ho
   rw [wanted_pre (pre := all.take k) (all := all) (fun g w hg => take_get (Nat.lt_trans ((uniq_spec hu hpo).2 g w hg) hi))] at hh
   split
   ·rename_i hw; rw [hw] at hh; simp only [if_true] at hh; exact wpIn_endQ h hh
   ·rename_i hw; rw [Bool.eq_false_iff.2 hw] at hh; exact ⟨hh.1, h _ _ hh.2⟩
theorem any_prefix {all : List Oper} {k m : Nat} (hk : k < all.length) (hu : uniqOK (all.take k) = true) (hback : Back all) (hbar : barAt true all k = true)
  (hcont : ∀ (a : Act) (w : World), P1 a w -> ∀ D : Array Bool, D.size = all.length -> Closed all (Lst D) -> (∀ i, i < k -> Lst D i) -> (∀ i, k <= i -> ¬ Lst D i) -> wpAnyIn F n P .any all.toArray Q m D a w) :
  ∀ (fuel : Nat) (D' D : Array Bool) (a : Act) (w : World), D'.size = k -> D.size = all.length -> Closed all (Lst D) -> (∀ i, i < k -> D.getD i false = D'.getD i false) -> (∀ i, k <= i -> ¬ Lst D i) -> unl (fun i => D'.getD i false) k = fuel ->
    wpAnyIn F n P .any (all.take k).toArray (EndQ P1) fuel D' a w -> wpAnyIn F n P .any all.toArray Q (fuel + m) D a w := by
 have hlen : (all.take k).length = k := by rw [List.length_take]; omega
 intro fuel
 induction fuel with
 | zero =>
   intro D' D a w hs' hs hcl he hge hun h
   have hall := unl_zero hun
   rw [Nat.zero_add]
   exact hcont a w h.2.2 D hs hcl (fun i hi => by show D.getD i false = true; rw [he i hi]; exact hall i hi) hge
 | succ fuel ih =>
   intro D' D a w hs' hs hcl he hge hun h
   have hnot : ¬ ∀ i, i < k -> Lst D i := fun hh => by
    have : unl (fun i => D'.getD i false) k = 0 := by
     have key : ∀ q, q <= k -> unl (fun i => D'.getD i false) q = 0 := by
      intro q
      induction q with
      | zero => intro _; rfl
      | succ q ihq =>
        intro hq
        have h1 := hh q hq
        have h2 : D'.getD q false = true := by rw [<- he q hq]; exact h1
        simp only [unl, h2]
        simpa using ihq (by omega)
     exact key k (Nat.le_refl _)
    omega
   rw [show fuel + 1 + m = (fuel + m) + 1 by omega]
   refine ⟨fun hr => absurd (fun i hi => all_listed hback hs hr i (by omega)) hnot, fun i hir => ?_⟩
   obtain ⟨o, ho, hnl, hpre, hLst, hclosed, _, hsz⟩ := ready_facts hs hcl hir
   have hik : i < k := by
    rcases Nat.lt_or_ge i k with hi | hi
    ·exact hi
    ·exfalso
     rcases Nat.lt_or_ge k i with hi2 | hi2
     ·exact hge k (Nat.le_refl _) (ord_closed hback hcl _ _ ho hpre ((bar_spec hbar (List.getElem?_eq_some_iff.1 ho).1).2 hi2))
     ·obtain rfl : i = k := by omega
      exact hnot fun j hj => ord_closed hback hcl _ _ ho hpre ((bar_spec hbar (by omega)).1 hj)
   have hpo : (all.take k)[i]? = some o := by rw [take_get hik]; exact ho
   have hnl' : D'.getD i true = false := by
    rw [getD_tf (by omega)]
    have : D.getD i false = false := by simpa [Lst] using hnl
    rw [<- he i hik]; exact this
   have hmem : i ∈ Region.ready .any (all.take k).toArray D' := mem_ready hpo hnl' fun e he' hb => by
    have := hpre e he' hb
    have hlt := hback i o ho e he' hb
    show D'.getD e.on false = true
    rw [<- he _ (by omega)]; exact this
   refine opIn_pre hik hu (fun a1 w1 h1 => ?_) (h.2 i hmem)
   have hsz' : (D'.setIfInBounds i true).size = k := by simpa using hs'
   refine ih _ _ a1 w1 hsz' hsz hclosed (fun j hj => ?_) (fun j hj hl => ?_) ?_ h1
   ·rw [lst_set (by omega), lst_set (by omega), he j hj]
   ·rcases (hLst j).1 hl with h2 | h2
    ·exact hge j hj h2
    ·omega
   ·have := unl_set (f := fun i => D'.getD i false) (g := fun j => (D'.setIfInBounds i true).getD j false) (i := i) (by rw [getD_tf (by omega)] at hnl'; exact hnl') (fun j => lst_set (by omega)) (n := k) hik
    omega
theorem opsIn_prefix {all : List Oper} {k : Nat} (hk : k <= all.length) (hu : uniqOK (all.take k) = true) {rest : List Nat} (hcont : ∀ a w, P1 a w -> wpOpsIn F n P all.toArray Q rest a w) :
  ∀ (l : List Nat), (∀ i ∈ l, i < k) -> ∀ (a : Act) (w : World), wpOpsIn F n P (all.take k).toArray (EndQ P1) l a w -> wpOpsIn F n P all.toArray Q (l ++ rest) a w
 | [], _, a, w, h => hcont a w h.2
 | i :: l, hl, a, w, h => by
   rw [List.cons_append, wpOpsIn_cons]
   rw [wpOpsIn_cons] at h
   exact opIn_pre (hl i (by simp)) hu (fun a w h => opsIn_prefix hk hu hcont l (fun j hj => hl j (by simp [hj])) a w h) h
end
end Abs
end Go.Proofs.YtlabbaglbcmofaaGreat

namespace Go.Proofs.YtlabbaglbcmofaaGreat
namespace Abs
open Go Go.RowKit
noncomputable section
def flatA : AV -> AV
 | .li k n => .li k n
 | .si k n => .si k n
 | .lb b => .lb b
 | .sb b => .sb b
 | .v x => .v x
 | _ => .top
def flatL : List AV -> List AV -> List AV
 | _, [] => []
 | [], a :: l => flatA a :: flatL [] l
 | p :: ps, _ :: l => p :: flatL ps l
def flatK : List AV -> List AV -> (List AV -> VC) -> VC
 | _, [], k => k []
 | [], a :: l, k => forceV (flatA a) fun a' => flatK [] l fun l' => k (a' :: l')
 | p :: ps, _ :: l, k => flatK ps l fun l' => k (p :: l')
def isYl : List Oper -> Option (Oper × Oper)
 | [y, z] => some (y, z)
 | _ :: l => isYl l
 | [] => none
def calleeT : Op -> Option (Nat × List Operand)
 | .call c => (match c.callee with | .value (.tmp d) => some (d, c.args.toList) | _ => none)
 | _ => none
def notT : Op -> Option Nat
 | .unOp .not _ (.tmp e) => some e
 | _ => none
def movedT (d : Nat) : List Oper -> Bool
 | [] => false
 | o :: l => (match o.dst, o.op with | some e, .move (.tmp 0) => Nat.beq e d || movedT d l | _, _ => movedT d l)
structure YCall where
 d : Nat
 args : List Operand
 yd : Nat
 zd : Nat
def splitY (ops : List Oper) : Option YCall :=
 match isYl ops with
 | none => none
 | some (y, z) => (match calleeT y.op, notT z.op with
   | some (d, args), some e => (match y.dst, z.dst, y.guard, z.guard with
     | some yd, some zd, none, none => (match movedT d ops && Nat.beq e yd && !(Nat.beq yd zd) with | true => some ⟨d, args, yd, zd⟩ | false => none)
     | _, _, _, _ => none)
   | _, _ => none)
structure YA where
 ps : List AV
 Y : Value
 n : Nat
 it : Nat -> List AV
 fr : Nat -> List AV
 {α : Type}
 dat : Nat -> α
 q : α -> Prop
def natA (A : YA) : Ann := ⟨Nat, fun _ => ⟨[], []⟩, A.α, A.dat, A.q, fun _ => 0⟩
def yldK (A : YA) (y : YCall) (fr : List AV) (k : Nat) (Q : List AV -> Option Nat -> VC) : VC :=
 .need ⟨fun z : AV × AV => z.1 = z.2, (getL fr y.d, .v A.Y)⟩ (.need ⟨fun z : Nat × Nat => z.1 < z.2, (k, A.n)⟩ (forceLD (evL (ev fr) y.args) fun asg => forceL (A.it k) fun its => leLW (leAF 6 0 [] []) asg its
  (.loop (A := unitA) (fun _ => ()) (setF fr y.yd (.lb true) fun f => setF f y.zd (.lb false) fun f => flatK A.ps f fun f => Q f (some (nadd k 1)))
   fun _ => setF fr y.yd (.lb false) fun f => setF f y.zd (.lb true) fun f => flatK A.ps f fun f => Q f none)))
def endH (A : YA) (Q : List AV -> VC) (fr : List AV) (hp : Heap) : VC := match hp with | [] => flatK A.ps fr Q | _ => .fail
def yldH (A : YA) (y : YCall) (k : Nat) (Q : List AV -> Option Nat -> VC) (fr : List AV) (hp : Heap) : VC := match hp with | [] => yldK A y fr k Q | _ => .fail
def wpY (P : Program) (S : Sums) (A : YA) : Code -> List AV -> Option Nat -> (AE -> List AV -> Option Nat -> VC) -> VC
 | .skip, fr, k, Q => Q .normal fr k
 | .region _ ops dr, fr, k, Q => (match splitY ops.toList with
   | none => runOps P S dr ops.toList none 0 ops.toList [] fr [] (endH A fun f => Q .normal f k)
   | some y => (match k, Nat.blt y.yd fr.length with
     | some k, true => runOps P S dr (ops.toList.take (ops.toList.length - 2)) none 0 (ops.toList.take (ops.toList.length - 2)) [] fr [] (yldH A y k fun f k' => Q .normal f k')
     | _, _ => .fail))
 | .seq a b, fr, k, Q => wpY P S A a fr k fun e fr' k' => match e with
   | .normal => wpY P S A b fr' k' Q
   | e => Q e fr' k'
 | .cond c t e, fr, k, Q => (match c with
   | .tmp d => (match Nat.ble A.ps.length d with | true => branchK fr d fun b fr => (match b with | true => wpY P S A t fr k Q | false => wpY P S A e fr k Q) | false => .fail)
   | _ => .fail)
 | .block id c, fr, k, Q => wpY P S A c fr k fun e fr' k' => match e with
   | .exit j => (match Nat.beq id j with | true => Q .normal fr' k' | false => Q (.exit j) fr' k')
   | e => Q e fr' k'
 | .loop c, fr, k, Q => (match k with
   | none => .fail
   | some k => .loop (A := natA A) A.dat (leLW (leAF 6 0 [] []) fr (A.fr k) (.need ⟨A.q, A.dat k⟩ .done)) fun g => forceL (A.fr g) fun f => wpY P S A c f (some g) fun e fr' k' => match e with
     | .normal => (match k' with
       | some k' => .need ⟨fun z : Nat × Nat × Nat => z.1 < z.2.1 /\ z.1 < z.2.2, (g, k', A.n)⟩ (leLW (leAF 6 0 [] []) fr' (A.fr k') (.need ⟨A.q, A.dat k'⟩ .done))
       | none => .fail)
     | e => Q e fr' k')
 | .exit id, fr, k, Q => Q (.exit id) fr k
 | .ret, fr, k, Q => Q .ret fr k
 | _, _, _, _ => .fail
def wpYF (P : Program) (S : Sums) (A : YA) (fn : Func) : VC :=
 match fn.body with
 | some c => forceL (padL A.ps fn.ntmps) fun fr => flatK A.ps fr fun fr => wpY P S A c fr (some 0) fun e _ k => match e with
   | .exit _ => .fail
   | _ => (match k with | some k => .need ⟨fun z : Nat × Nat => z.1 = z.2, (k, A.n)⟩ .done | none => .done)
 | none => .fail
def codeY (np : Nat) : Code -> Bool
 | .region _ ops dr => (match splitY ops.toList with
   | none => regOK dr ops.toList
   | some _ => regOK dr (ops.toList.take (ops.toList.length - 2)) && backOK ops.toList && (match dr with | true => barAt true ops.toList (ops.toList.length - 2) | false => true)) && allLt (fun t => !(Nat.testBit (mskO ops.toList) t)) np
 | .seq a b => codeY np a && codeY np b
 | .cond _ a b => codeY np a && codeY np b
 | .block _ a => codeY np a
 | .loop a => codeY np a
 | .skip => true
 | .exit _ => true
 | .ret => true
 | _ => false
end
theorem flatK_eq : ∀ (ps l : List AV) (k : List AV -> VC), flatK ps l k = k (flatL ps l)
 | [], [], k => rfl
 | _ :: _, [], k => rfl
 | [], a :: l, k => by unfold flatK flatL; rw [forceV_eq, flatK_eq [] l]
 | p :: ps, a :: l, k => by unfold flatK flatL; rw [flatK_eq ps l]
theorem isYl_spec : ∀ {l : List Oper} {y z : Oper}, isYl l = some (y, z) -> 2 <= l.length /\ l = l.take (l.length - 2) ++ [y, z]
 | [], y, z, h => by cases h
 | [a], y, z, h => by simp [isYl] at h
 | [a, b], y, z, h => by simp [isYl] at h; obtain ⟨rfl, rfl⟩ := h; exact ⟨by simp, by simp⟩
 | a :: b :: c :: l, y, z, h => by
   have h' : isYl (b :: c :: l) = some (y, z) := by simpa [isYl] using h
   obtain ⟨h1, h2⟩ := isYl_spec h'
   refine ⟨by simp, ?_⟩
   have e : (a :: b :: c :: l).length - 2 = ((b :: c :: l).length - 2) + 1 := by simp
   rw [e, List.take_succ_cons, List.cons_append, <- h2]
end Abs
end Go.Proofs.YtlabbaglbcmofaaGreat

namespace Go.Proofs.YtlabbaglbcmofaaGreat
namespace Abs
open Go Go.RowKit
section
variable {P : Program} {S : Sums} {C C' : Cx} {w w' : World} {A : YA} {J Jx : Nat -> World -> Prop} {sz0 : Nat}
theorem hr_none (hρ : ∀ i, C.ρ i = none) (hI : ∀ b, C.I b -> b < w.heap.size) : HR C [] w :=
 ⟨fun i p h => (by rw [hρ] at h; cases h), fun i j b c n b' c' n' h => (by rw [hρ] at h; cases h), fun i b c n h => (by rw [hρ] at h; cases h), hI⟩
theorem none_hr (h : HR C [] w) : ∀ i, C.ρ i = none := fun i => by
 cases hc : C.ρ i with
 | none => rfl
 | some p => have := h.live i p hc; cases p <;> exact this.elim
theorem tr_quiet {lo : Nat} (hρ : ∀ i, C.ρ i = none) (t : Tr lo C w C' w') : Quiet w w' :=
 ⟨t.os, t.tape, t.output, t.size, fun k hk => t.keep k hk fun i b c n h => (by rw [hρ] at h; cases h)⟩
theorem flat_rel {a : AV} {v : Value} (h : Rel C w a v) : Rel C' w' (flatA a) v := by
 cases h <;> unfold flatA <;> first | exact .top _ | exact .li _ _ | exact .si _ _ | exact .lb _ | exact .sb _ | exact .v _
theorem flat_ng (a : AV) : notGd (flatA a) := by cases a <;> trivial
theorem len_flat : ∀ (ps l : List AV), (flatL ps l).length = l.length
 | [], [] => rfl
 | _ :: _, [] => rfl
 | [], a :: l => by simp [flatL, len_flat [] l]
 | p :: ps, a :: l => by simp [flatL, len_flat ps l]
theorem get_flat : ∀ (ps l : List AV) (t : Nat), t < l.length -> getL (flatL ps l) t = if t < ps.length then getL ps t else flatA (getL l t)
 | _, [], t, h => by simp at h
 | [], a :: l, 0, _ => rfl
 | [], a :: l, t + 1, h => by
   unfold flatL
   rw [getL_succ, getL_succ, get_flat [] l t (by simpa using h)]
   simp
 | p :: ps, a :: l, 0, _ => by simp [flatL, getL_zero]
 | p :: ps, a :: l, t + 1, h => by
   unfold flatL
   rw [getL_succ, getL_succ, getL_succ, get_flat ps l t (by simpa using h)]
   simp
structure InvY (A : YA) (C : Cx) (J Jx : Nat -> World -> Prop) (sz0 : Nat) (fr : List AV) (k : Option Nat) (act : Act) (w : World) : Prop where
 F : FR [] C w fr act.tmps
 ps : ∀ t, t < A.ps.length -> getL fr t = getL A.ps t
 np : A.ps.length <= fr.length
 size : sz0 <= w.heap.size
 st : match k with | some k => J k w | none => ∃ k, k < A.n /\ Jx k w
 df : act.defers = []
structure YCtx (P : Program) (A : YA) (C : Cx) (J Jx : Nat -> World -> Prop) (sz0 l : Nat) : Prop where
 ρ : ∀ i, C.ρ i = none
 I : ∀ b, C.I b -> b < sz0
 ng : ∀ t, notGd (getL A.ps t)
 fr : ∀ g t, t < A.ps.length -> getL (A.fr g) t = getL A.ps t
 Y : A.Y = .func (.yield l) #[] #[]
 hJ : ∀ k W W', J k W -> Quiet W W' -> J k W'
 hJx : ∀ k W W', Jx k W -> Quiet W W' -> Jx k W'
 hY : ∀ (k : Nat) (W0 W : World) (I1 : Nat -> Prop) (vs : List Value), k < A.n -> J k W0 -> Quiet W0 W -> (∀ b, C.I b -> I1 b) -> (∀ b, I1 b -> C.I b \/ (W0.heap.size <= b /\ b < W.heap.size)) ->
   RelL ⟨fun _ => none, I1⟩ W (A.it k) vs -> YieldAt (fen none) 0 P l ⟨vs⟩ W fun e W' =>
    (∀ b, C.I b -> W'.heap[b]? = W.heap[b]?) /\ W.heap.size <= W'.heap.size /\ ((e = .returned (.bool true) /\ J (k + 1) W') \/ (e = .returned (.bool false) /\ Jx k W'))
theorem carry {l : Nat} (hc : YCtx P A C J Jx sz0 l) {fr fr' : List AV} {k k' : Option Nat} {act act' : Act} {w1 : World} {C1 : Cx} {W : Nat} (hi : InvY A C J Jx sz0 fr k act w) (hF : FR [] C1 w1 fr' act'.tmps) (hb : ∀ b, C.I b -> w'.heap[b]? = w.heap[b]?) (hs : w.heap.size <= w'.heap.size)
  (hk : RegKept W act act') (hW : ∀ t, t < A.ps.length -> Nat.testBit W t = false) (hlen : fr'.length = fr.length) (st : match k' with | some k => J k w' | none => ∃ k, k < A.n /\ Jx k w') : InvY A C J Jx sz0 (flatL A.ps fr') k' act' w' := by
 have hget : ∀ t, t < A.ps.length -> getL (flatL A.ps fr') t = getL A.ps t := fun t ht => by
  rw [get_flat _ _ _ (by have := hi.np; omega), if_pos ht]
 refine ⟨⟨by rw [len_flat, hF.len], fun t => ?_⟩, hget, by rw [len_flat, hlen]; exact hi.np, Nat.le_trans hi.size hs, st, by rw [hk.2.2, hi.df]⟩
 by_cases ht : t < fr'.length
 ·rw [get_flat _ _ _ ht]
  by_cases hp : t < A.ps.length
  ·rw [if_pos hp]
   have h1 := (hi.F.get t).1
   rw [hi.ps t hp] at h1
   rw [hk.2.1 t (hW t hp)]
   exact .plain (h1.mono ⟨fun i p h => h, fun b h => h, hb⟩) (hc.ng t)
  ·rw [if_neg hp]
   exact .plain (flat_rel (hF.get t).1) (flat_ng _)
 ·have e1 : getL (flatL A.ps fr') t = .tup [] := by rw [getL_eq, List.getD_eq_getElem?_getD, List.getElem?_eq_none (by rw [len_flat]; omega)]; rfl
  have e2 : act'.tmps.getD t undef = undef := by
   rw [Array.getD_eq_getD_getElem?, Array.getElem?_eq_none (by rw [<- hF.len]; omega)]; rfl
  rw [e1, e2]
  exact .plain (.tup _ _ .nil) trivial
theorem letsOut_mono {Q Q' : Exit -> Act -> World -> Prop} (hQ : ∀ e a w, Q e a w -> Q' e a w) (h : LetsOut Q) : LetsOut Q' := h.elim fun a h => h.elim fun w h => ⟨a, w, hQ _ _ _ h⟩
theorem wpIn_monoQ {F : Fence} {n : Nat} {o : Oper} {a : Act} {K : Act -> World -> Prop} {Q Q' : Exit -> Act -> World -> Prop} (hQ : ∀ e a w, Q e a w -> Q' e a w) (hh : o.wpIn F n P a w K Q) : o.wpIn F n P a w K Q' := by
 unfold Oper.wpIn at *
 refine ⟨hh.1, ?_⟩
 have hh := hh.2
 generalize (o.semAt F.round a.eval).run P w = r at *
 cases r with
 | ok x w' =>
   cases x <;> simp only [Oper.uponIn] at hh ⊢ <;>
    first
     | exact hh
     | exact hQ _ _ _ hh
     | exact ⟨hh.1, CallsIn.mono hh.2 (fun e w'' he => by cases e <;> first | exact he | exact hQ _ _ _ he | exact letsOut_mono hQ he)⟩
     | exact ⟨hh.1, RowsIn.mono hh.2 (fun _ _ he => he)⟩
     | exact ⟨hh.1, RoundIn.mono hh.2 (fun e w'' he => by cases e <;> first | exact he | exact hQ _ _ _ he | exact letsOut_mono hQ he)⟩
 | halt x w' => cases x <;> simp only [Oper.uponIn] at hh ⊢ <;> first | exact hh | exact hQ _ _ _ hh
theorem wpAny_monoQ {F : Fence} {n : Nat} {ops : Array Oper} {Q Q' : Exit -> Act -> World -> Prop} (hQ : ∀ e a w, Q e a w -> Q' e a w) : ∀ (fuel : Nat) (D : Array Bool) (a : Act) (w : World), wpAnyIn F n P .any ops Q fuel D a w -> wpAnyIn F n P .any ops Q' fuel D a w
 | 0, _, _, _, h => ⟨h.1, hQ _ _ _ h.2⟩
 | f + 1, D, a, w, h => ⟨fun hr => hQ _ _ _ (h.1 hr), fun i hi => by
   have h2 := wpOpIn_mono (fun a' w' h' => wpAny_monoQ hQ f _ a' w' h') (h.2 i hi)
   unfold wpOpIn at h2 ⊢
   split
   ·rename_i ho; simp only [ho] at h2; exact h2
   ·rename_i o ho
    simp only [ho] at h2
    split
    ·rename_i hw; simp only [hw, if_true] at h2; exact wpIn_monoQ hQ h2
    ·rename_i hw; simp only [hw] at h2; exact h2⟩
theorem draw_any (hS : SumsOK P S) {ro : Option Nat} {rm : Nat} {ops : Array Oper} (hu : uniqOK ops.toList = true) (htmp : tmpOK ops.toList = true) (hback : Back ops.toList) {R : AV -> Heap -> Prop} {K : List AV -> Heap -> VC} {Q : Exit -> Act -> World -> Prop} {fr : List AV} {act : Act} {hp : Heap}
  (hlo : S.lo <= hp.length) (hH : HR C hp w) (hF : FR [] C w fr act.tmps) (h : (runOps P S true ops.toList none 0 ops.toList [] fr hp K).sat R) {ds : Act -> Prop} (hput : PutOK ops.toList ds) (hds : ds act) (hgoal : Goal P S R K Q C w ds) :
  wpAnyIn (fen ro) rm P .any ops Q ops.size (Array.replicate ops.size false) act { w with drawn := w.drawn + 1 } := by
 obtain ⟨L, T', hs, he⟩ := seg_run hS hu (s := 0) (T0 := []) (fr0 := fr) (hp0 := hp) ops.toList [] [] ⟨by simp, .refl _, fun q hq => by simp at hq⟩ (by simp) (fun k x hx => by simp at hx) h
 have hsz : (Array.replicate ops.size false).size = ops.toList.length := by simp
 have hno : ∀ i, ¬ Lst (Array.replicate ops.size false) i := fun i h => by
  unfold Lst at h
  rw [Array.getD_eq_getD_getElem?, Array.getElem?_replicate] at h
  split at h <;> simp at h
 obtain ⟨r, hr⟩ := hps_app hp L L.length
 have hH1 : HR C hp { w with drawn := w.drawn + 1 } := HR.same (w := w) rfl hH
 have hF1 : FR [] C { w with drawn := w.drawn + 1 } fr act.tmps := FR.mono (w := w) (w' := { w with drawn := w.drawn + 1 }) (.same rfl) hF
 have hunl : ∀ n, unl (fun i => (Array.replicate ops.size false).getD i false) n <= n := fun n => by
  induction n with
  | zero => exact Nat.le_refl _
  | succ n ih => simp only [unl]; split <;> omega
 refine wpAny_monoQ (Q := fun e a w => (∀ c, e ≠ .panic c) /\ Q e a w) (fun e a w h => h.2) _ _ _ _ ?_
 have := wpAnyI_any _ _ _ _ <| (anyorder (Q := fun e a w => (∀ c, e ≠ .panic c) /\ Q e a w) hS hu htmp hback hput (ro := ro) (rm := rm) (fun c a w h => h.1 c rfl) ops.size (fun _ _ => True) (fun _ _ _ _ _ _ => trivial)).1 (Array.replicate ops.size false) 0 [] fr hp L T' C { w with drawn := w.drawn + 1 } act hs he
  ⟨hsz, fun i hi => by omega, fun i _ => hno i, fun i o _ hl => (hno i hl).elim, ⟨by rw [hr]; exact hH1.ext r, fun q _ _ t _ => by
   obtain ⟨r', hr'⟩ := hps_app hp L q
   cases hc : C.ρ ((hps hp L q).length + t) with
   | none => rfl
   | some p => have := hH1.lt hc; rw [hr'] at this; simp at this; omega,
   fun q _ hl => (hno _ hl).elim, fun t _ => (hF1.get t).sub hs.sub, hF1.len⟩⟩ hlo (by have := hunl ops.toList.length; simpa using this) hds (Goal.any fun fr' hp' C' w' act' h1 h2 h3 h4 h5 h6 => ⟨fun c h => by (cases h), (hgoal.step (.draw _ _ _ _)) fr' hp' C' w' act' h1 h2 h3 h4 h5 h6⟩)
 simpa using this
theorem tail_any {F : Fence} {n : Nat} {Q : Exit -> Act -> World -> Prop} {pre : List Oper} {y z : Oper} (hback : Back (pre ++ [y, z])) (hbar : barAt true (pre ++ [y, z]) pre.length = true) (hy : y.guard = none) (hz : z.guard = none) {D : Array Bool} (hs : D.size = (pre ++ [y, z]).length)
  (hcl : Closed (pre ++ [y, z]) (Lst D)) (hb : ∀ i, i < pre.length -> Lst D i) (hge : ∀ i, pre.length <= i -> ¬ Lst D i) {a : Act}
  (h : y.wpIn F n P a w (fun a2 w2 => z.wpIn F n P a2 w2 (fun a3 w3 => Q .normal a3 w3) Q) Q) : wpAnyIn F n P .any (pre ++ [y, z]).toArray Q 2 D a w := by
 have hlen : (pre ++ [y, z]).length = pre.length + 2 := by simp
 have gy : (pre ++ [y, z])[pre.length]? = some y := by simp
 have gz : (pre ++ [y, z])[pre.length + 1]? = some z := by simp
 have hwy : ∀ f, Region.wanted y f = true := fun f => by unfold Region.wanted; rw [hy]
 have hwz : ∀ f, Region.wanted z f = true := fun f => by unfold Region.wanted; rw [hz]
 refine ⟨fun hr => absurd (all_listed hback hs hr pre.length (by omega)) (hge _ (Nat.le_refl _)), fun i hir => ?_⟩
 obtain ⟨o, ho, hnl, hpre, hLst, hcl2, _, hsz⟩ := ready_facts hs hcl hir
 have hlt := (List.getElem?_eq_some_iff.1 ho).1
 have hi : i = pre.length := by
  rcases Nat.lt_trichotomy i pre.length with h1 | h1 | h1
  ·exact absurd (hb i h1) hnl
  ·exact h1
  ·exact absurd (ord_closed hback hcl _ _ ho hpre ((bar_spec hbar hlt).2 h1)) (hge _ (Nat.le_refl _))
 subst hi
 unfold wpOpIn
 rw [show (pre ++ [y, z]).toArray[pre.length]? = some y by simp]
 simp only [hwy, if_true]
 refine Oper.wpIn_mono (fun a2 w2 h2 => ?_) h
 refine ⟨fun hr => ?_, fun i hir2 => ?_⟩
 ·have := all_listed hback hsz hr (pre.length + 1) (by omega)
  rcases (hLst _).1 this with h3 | h3
  ·exact absurd h3 (hge _ (by omega))
  ·omega
 obtain ⟨o2, ho2, hnl2, hpre2, hLst2, hcl3, _, hsz2⟩ := ready_facts hsz hcl2 hir2
 have hlt2 := (List.getElem?_eq_some_iff.1 ho2).1
 have hi2 : i = pre.length + 1 := by
  rcases Nat.lt_trichotomy i (pre.length + 1) with h1 | h1 | h1
  ·exfalso
   refine hnl2 ((hLst i).2 ?_)
   rcases Nat.lt_or_ge i pre.length with h3 | h3
   ·exact .inl (hb i h3)
   ·exact .inr (by omega)
  ·exact h1
  ·omega
 subst hi2
 unfold wpOpIn
 rw [show (pre ++ [y, z]).toArray[pre.length + 1]? = some z by simp]
 simp only [hwz, if_true]
 refine Oper.wpIn_mono (fun a3 w3 h3 => ?_) h2
 refine ⟨?_, h3⟩
 cases hr : Region.ready .any (pre ++ [y, z]).toArray ((D.setIfInBounds pre.length true).setIfInBounds (pre.length + 1) true) with
 | nil => rfl
 | cons i r =>
   exfalso
   have hm : i ∈ Region.ready .any (pre ++ [y, z]).toArray ((D.setIfInBounds pre.length true).setIfInBounds (pre.length + 1) true) := by rw [hr]; simp
   obtain ⟨o4, ho4, hnl4, _⟩ := ready_facts hsz2 hcl3 hm
   have hlt4 := (List.getElem?_eq_some_iff.1 ho4).1
   refine hnl4 ((hLst2 i).2 ?_)
   rcases Nat.lt_trichotomy i pre.length with h1 | h1 | h1
   ·exact .inl ((hLst i).2 (.inl (hb i h1)))
   ·exact .inl ((hLst i).2 (.inr h1))
   ·exact .inr (by omega)
end
end Abs
end Go.Proofs.YtlabbaglbcmofaaGreat

namespace Go.Proofs.YtlabbaglbcmofaaGreat
namespace Abs
open Go Go.RowKit
section
variable {P : Program} {S : Sums} {C C' : Cx} {w w' : World} {A : YA} {J Jx : Nat -> World -> Prop} {sz0 : Nat}
theorem calleeT_eq {op : Op} {d : Nat} {args : List Operand} (h : calleeT op = some (d, args)) : ∃ c, op = .call c /\ c.callee = .value (.tmp d) /\ c.args.toList = args := by
 unfold calleeT at h
 split at h
 ·rename_i c
  split at h
  ·rename_i d' hd
   injection h with h; injection h with h1 h2; subst h1 h2
   exact ⟨c, rfl, hd, rfl⟩
  ·cases h
 ·cases h
theorem notT_eq {op : Op} {e : Nat} (h : notT op = some e) : ∃ t, op = .unOp .not t (.tmp e) := by
 unfold notT at h
 split at h
 ·injection h with h; subst h; exact ⟨_, rfl⟩
 ·cases h
theorem splitY_spec {ops : List Oper} {y : YCall} (h : splitY ops = some y) : ∃ oy oz, ops = ops.take (ops.length - 2) ++ [oy, oz] /\ 2 <= ops.length /\ calleeT oy.op = some (y.d, y.args) /\ notT oz.op = some y.yd /\ oy.dst = some y.yd /\ oz.dst = some y.zd /\ oy.guard = none /\ oz.guard = none /\ y.yd ≠ y.zd := by
 unfold splitY at h
 split at h
 ·cases h
 ·rename_i oy oz hl
  obtain ⟨h1, h2⟩ := isYl_spec hl
  split at h
  ·rename_i d args e hc hn
   split at h
   ·rename_i yd zd e1 e2 e3 e4
    split at h
    ·rename_i hb
     injection h with h; subst h
     simp only [Bool.and_eq_true, Bool.not_eq_true'] at hb
     obtain ⟨⟨_, hb2⟩, hb3⟩ := hb
     obtain rfl := Nat.eq_of_beq_eq_true hb2
     refine ⟨oy, oz, h2, h1, hc, hn, e1, e2, e3, e4, fun e => ?_⟩
     simp only at e
     rw [e] at hb3; simp at hb3
    ·cases h
   ·cases h
  ·cases h
theorem yield_two {l : Nat} (hc : YCtx P A C J Jx sz0 l) {R : AV -> Heap -> Prop} {Qv : List AV -> Option Nat -> VC} {fr fr1 : List AV} {k : Nat} {act a1 : Act} {w1 : World} {C1 : Cx} {ops : List Oper} {oy oz : Oper} {y : YCall} {Q : Act -> World -> Prop} {Q' : Exit -> Act -> World -> Prop}
  (hi : InvY A C J Jx sz0 fr (some k) act w) (hF : FR [] C1 w1 fr1 a1.tmps) (hH : HR C1 [] w1) (ht : Tr 0 C w C1 w1) (hk : RegKept (mskO ops) act a1) (hlen : fr1.length = fr.length) (hW : ∀ t, t < A.ps.length -> Nat.testBit (mskO ops) t = false)
  (e1 : calleeT oy.op = some (y.d, y.args)) (e2 : notT oz.op = some y.yd) (e3 : oy.dst = some y.yd) (e4 : oz.dst = some y.zd) (e5 : y.yd ≠ y.zd) (ho : PutOK [oy, oz] (RegKept (mskO ops) act)) (hlt : y.yd < act.tmps.size)
  (h : (yldK A y fr1 k Qv).sat R) (hgoal : ∀ fr' k' act' w', (Qv fr' k').sat R -> InvY A C J Jx sz0 fr' k' act' w' -> Q act' w') :
  oy.wpIn (fen none) 0 P a1 w1 (fun a2 w2 => oz.wpIn (fen none) 0 P a2 w2 (fun a3 w3 => Q a3 w3) Q') Q' := by
 have hq := tr_quiet hc.ρ ht
 have hb1 : ∀ b, C.I b -> w1.heap[b]? = w.heap[b]? := fun b hb => hq.keep b (Nat.lt_of_lt_of_le (hc.I b hb) hi.size)
 obtain ⟨hY, hkn, h⟩ := h
 simp only [forceLD_eq, forceL_eq] at h
 have h := leLW_sat (leAF_sat 6) _ _ _ _ id h
 obtain ⟨h, himp⟩ := leL_sat h
 obtain ⟨c, hop, hcal, hargs⟩ := calleeT_eq e1
 obtain ⟨tz, hoz⟩ := notT_eq e2
 have hyv : a1.tmps.getD y.d undef = .func (.yield l) #[] #[] := by
  have := (hF.get y.d).1
  rw [show getL fr1 y.d = .v A.Y from hY] at this
  rw [<- hc.Y]
  generalize a1.tmps.getD y.d undef = v at this
  cases this; rfl
 have hvs : RelL C1 w1 (evL (ev fr1) y.args) (y.args.map a1.eval) := evL_rel fun x _ => (evG_rel x fun t _ => hF.get t).1
 have hvs2 := (himp C1 w1 hH).2 _ hvs
 have hρ1 := none_hr hH
 have hvs3 : RelL ⟨fun _ => none, C1.I⟩ w1 (A.it k) (y.args.map a1.eval) := hvs2.mono ⟨fun i p hp => (by
  unfold Cx.cut at hp
  simp only at hp
  split at hp
  ·rw [hρ1] at hp; cases hp
  ·cases hp), fun b hb => (by
  rcases hb with hb | ⟨i, c, n, _, hb⟩
  ·exact hb
  ·rw [hρ1] at hb; cases hb), fun _ _ => rfl⟩
 obtain ⟨fn, tmps, asg, bd, hrun, hround⟩ := hc.hY k w w1 C1.I _ hkn hi.st hq ht.imm (fun b hb => by
  rcases ht.imm' b hb with h1 | h1 | ⟨i, c, n, _, h1⟩
  ·exact .inl h1
  ·exact .inr ⟨h1, hH.ilt b hb⟩
  ·rw [hc.ρ] at h1; cases h1) hvs3
 have hsem : (oy.semAt (fen none).round a1.eval).run P w1 = .ok (.round l fn tmps asg bd) w1 := by
  have e : (⟨y.args.map a1.eval⟩ : Array Value) = #[] ++ c.args.map a1.eval := by
   apply Array.ext'; simp [hargs]
  rw [e] at hrun
  have hev : a1.eval (.tmp y.d) = .func (.yield l) #[] #[] := hyv
  rw [Oper.semAt_eq _ _ _ (by intro c' hc'; rw [hop] at hc'; cases hc')]
  unfold execOp
  rw [hop]
  simp only [resolve, hcal, hev, Deferred.ofValue]
  simpa [invoke] using hrun
 refine ⟨fun _ _ => trivial, ?_⟩
 rw [hsem, Oper.uponIn_round]
 refine ⟨fun hh => by simp [fen, Fence.wide] at hh, hround.mono ?_⟩
 rintro e w2 ⟨hb2, hs2, hres⟩
 have hb3 : ∀ b, C.I b -> w2.heap[b]? = w.heap[b]? := fun b hb => (hb2 b (ht.imm b hb |> fun _ => hb)).trans (hb1 b hb)
 have hs3 : w.heap.size <= w2.heap.size := Nat.le_trans hq.size hs2
 have step : ∀ b : Bool, (match (if b then some (k + 1) else none : Option Nat) with | some k => J k w2 | none => ∃ k, k < A.n /\ Jx k w2) ->
   (Qv (flatL A.ps (setL (setL fr1 y.yd (.lb b)) y.zd (.lb (!b)))) (if b then some (k + 1) else none)).sat R ->
   oz.wpIn (fen none) 0 P (a1.put oy.dst (.bool b)) w2 (fun a3 w3 => Q a3 w3) Q' := by
  intro b hst hsat
  have hF2 : FR [] C1 w1 (setL fr1 y.yd (.lb b)) (a1.put oy.dst (.bool b)).tmps := by rw [e3]; exact hF.put (a := .lb b) (.plain (.lb _) trivial) (some y.yd)
  have hF3 : FR [] C1 w1 (setL (setL fr1 y.yd (.lb b)) y.zd (.lb (!b))) ((a1.put oy.dst (.bool b)).put oz.dst (.bool (!b))).tmps := by rw [e4]; exact hF2.put (a := .lb (!b)) (.plain (.lb _) trivial) (some y.zd)
  have hget : (a1.put oy.dst (.bool b)).tmps.getD y.yd undef = .bool b := by
   rw [put_get, e3, if_pos ⟨rfl, by rw [hk.1]; exact hlt⟩]
  refine Ran.wpIn (run_of_post (m := Op.unary .not ((a1.put oy.dst (.bool b)).tmps.getD y.yd undef)) ?_ ⟨.bool (!b), w2, ?_, ?_⟩)
  ·obtain ⟨dst, op, type, pos, after, guard⟩ := oz
   simp only at hoz
   subst hoz
   rfl
  ·rw [hget]; simp [Op.unary]
  ·refine hgoal _ _ _ _ hsat (carry hc hi hF3 hb3 hs3 (W := mskO ops) (ho oz (by simp) _ _ (ho oy (by simp) _ _ hk)) hW (by rw [len_setL, len_setL, hlen]) hst)
 obtain ⟨ht1, ht2⟩ := h
 simp only [setF_eq, flatK_eq] at ht1 ht2
 rcases hres with ⟨rfl, hj⟩ | ⟨rfl, hj⟩
 ·refine step true hj ?_
  have : nadd k 1 = k + 1 := by unfold nadd; rfl
  rw [this] at ht1
  exact ht1
 ·exact step false ⟨k, hkn, hj⟩ (ht2 () trivial)
theorem mskO_bit {d : Nat} {o : Oper} {ops : List Oper} (h : o ∈ ops) (hd : o.dst = some d) : Nat.testBit (mskO ops) d = true := mskO_mem hd h
theorem mskO_take {ops : List Oper} {n t : Nat} (h : Nat.testBit (mskO ops) t = false) : Nat.testBit (mskO (ops.take n)) t = false := by
 induction ops generalizing n with
 | nil => simpa using h
 | cons o l ih =>
   cases n with
   | zero => simp [mskO]
   | succ n =>
     rw [List.take_succ_cons]
     simp only [mskO] at h ⊢
     cases hd : o.dst with
     | none => rw [hd] at h; exact ih h
     | some d =>
       rw [hd] at h
       obtain ⟨h1, h2⟩ := msk_or h
       show Nat.testBit (Nat.shiftLeft 1 d ||| mskO (l.take n)) t = false
       rw [Nat.testBit_or, h1, ih h2]; rfl
theorem RegKept.take {ops : List Oper} {n : Nat} {a a' : Act} (h : RegKept (mskO (ops.take n)) a a') : RegKept (mskO ops) a a' := ⟨h.1, fun t ht => h.2.1 t (mskO_take ht), h.2.2⟩
theorem putOK_sub {l m : List Oper} {ds : Act -> Prop} (h : PutOK m ds) (hs : ∀ o ∈ l, o ∈ m) : PutOK l ds := fun o ho => h o (hs o ho)
theorem allLt_get {f : Nat -> Bool} {n : Nat} (h : allLt f n = true) : ∀ i, i < n -> f i = true := fun i hi => allLt_spec h i hi
theorem wpY_sound (hS : SumsOK P S) (hm : P.follows .mixedOrders = true) (hl0 : S.lo = 0) {l : Nat} (hc : YCtx P A C J Jx sz0 l) {R : AV -> Heap -> Prop} : ∀ (c : Code), codeY A.ps.length c = true -> ∀ (fr : List AV) (k : Option Nat) (Qv : AE -> List AV -> Option Nat -> VC) (act : Act) (w : World) (Q : Exit -> Act -> World -> Prop),
  InvY A C J Jx sz0 fr k act w -> (wpY P S A c fr k Qv).sat R -> (∀ e fr' k' act' w', (Qv e fr' k').sat R -> InvY A C J Jx sz0 fr' k' act' w' -> Q (exitOf e) act' w') -> c.wpIn (fen none) 0 P Q act w := by
 have known : ∀ {fr : List AV} {k : Option Nat} {act : Act} {w : World}, InvY A C J Jx sz0 fr k act w -> ∀ {d : Nat} {a : AV}, A.ps.length <= d -> RelG [] C w a (act.tmps.getD d undef) -> InvY A C J Jx sz0 (setL fr d a) k act w := fun {fr k act w} hi d a hd ha =>
  ⟨hi.F.known ha, fun t ht => by
   rw [getL_set, if_neg (fun h => by have := h.1; omega)]; exact hi.ps t ht, by rw [len_setL]; exact hi.np, hi.size, hi.st, hi.df⟩
 intro c
 induction c with
 | skip =>
   intro _ fr k Qv act w Q hi h hgoal
   exact wpIn_skip (hgoal .normal fr k act w h hi)
 | region id ops dr =>
   intro hok fr k Qv act w Q hi h hgoal
   simp only [codeY, Bool.and_eq_true] at hok
   obtain ⟨hok, hW⟩ := hok
   have hW : ∀ t, t < A.ps.length -> Nat.testBit (mskO ops.toList) t = false := fun t ht => by simpa using allLt_get hW t ht
   have hH : HR C [] w := hr_none hc.ρ fun b hb => Nat.lt_of_lt_of_le (hc.I b hb) hi.size
   have hds : RegKept (mskO ops.toList) act act := ⟨rfl, fun _ _ => rfl, rfl⟩
   have hput := regKept_put ops.toList act
   unfold wpY at h
   split at h
   ·rename_i hsp
    rw [hsp] at hok
    simp only [regOK, Bool.and_eq_true] at hok
    have hg : Goal P S R (endH A fun f => Qv .normal f k) Q C w (RegKept (mskO ops.toList) act) := by
     intro fr' hp' C' w' act' h1 h2 h3 h4 h5 h6
     unfold endH at h1
     split at h1
     ·rw [flatK_eq] at h1
      have hq := tr_quiet hc.ρ h5
      refine hgoal .normal _ _ act' w' h1 (carry hc hi h4 (fun b hb => hq.keep b (Nat.lt_of_lt_of_le (hc.I b hb) hi.size)) hq.size h6 hW (by rw [h4.len, hi.F.len, h6.1]) ?_)
      have := hi.st
      cases k with
      | some k => exact hc.hJ _ _ _ this hq
      | none => obtain ⟨j, hj, hx⟩ := this; exact ⟨j, hj, hc.hJx _ _ _ hx hq⟩
     ·exact h1.elim
    cases dr with
    | false => exact region_text hS hok.1 (by rw [hl0]; exact Nat.zero_le _) hH hi.F h hput hds hg
    | true =>
      have h2 := hok.2
      simp only [Bool.and_eq_true] at h2
      exact region_draw hS hm hok.1 h2.1 (back_spec h2.2) (by rw [hl0]; exact Nat.zero_le _) hH hi.F h hput hds hg
   ·rename_i y hsp
    rw [hsp] at hok
    simp only [Bool.and_eq_true] at hok
    obtain ⟨⟨hok, hback⟩, hbar⟩ := hok
    simp only [regOK, Bool.and_eq_true] at hok
    split at h
    case h_2 => exact h.elim
    rename_i k hblt
    have hlt : y.yd < act.tmps.size := by rw [<- hi.F.len]; simpa [Nat.blt_eq] using hblt
    obtain ⟨oy, oz, hsplit, h2len, e1, e2, e3, e4, e5, e6, e7⟩ := splitY_spec hsp
    generalize hpre : ops.toList.take (ops.toList.length - 2) = pre at *
    have hplen : pre.length = ops.toList.length - 2 := by rw [<- hpre, List.length_take]; omega
    have hoy : oy ∈ ops.toList := by rw [hsplit]; simp
    have hoz : oz ∈ ops.toList := by rw [hsplit]; simp
    have hyd : A.ps.length <= y.yd := by
     rcases Nat.lt_or_ge y.yd A.ps.length with hlt | hge
     ·have := hW _ hlt; rw [mskO_bit hoy e3] at this; cases this
     ·exact hge
    let P1 : Act -> World -> Prop := fun a1 w1 => ∃ C1 fr1, HR C1 [] w1 /\ FR [] C1 w1 fr1 a1.tmps /\ Tr 0 C w C1 w1 /\ RegKept (mskO pre) act a1 /\ (yldK A y fr1 k fun f k' => Qv .normal f k').sat R
    have hg : Goal P S R (yldH A y k fun f k' => Qv .normal f k') (EndQ P1) C w (RegKept (mskO pre) act) := by
     intro fr' hp' C' w' act' h1 h2 h3 h4 h5 h6
     refine ⟨rfl, C', fr', ?_, h4, by rw [<- hl0]; exact h5, h6, ?_⟩
     ·cases hp' with
      | nil => exact h3
      | cons b r => exact h1.elim
     ·cases hp' with
      | nil => exact h1
      | cons b r => exact h1.elim
    have hdsp : RegKept (mskO pre) act act := ⟨rfl, fun _ _ => rfl, rfl⟩
    have htwo : ∀ a1 w1, P1 a1 w1 -> oy.wpIn (fen none) 0 P a1 w1 (fun a2 w2 => oz.wpIn (fen none) 0 P a2 w2 (fun a3 w3 => Q .normal a3 w3) Q) Q := by
     rintro a1 w1 ⟨C1, fr1, q1, q2, q3, q4, q5⟩
     have q4' : RegKept (mskO ops.toList) act a1 := by rw [<- hpre] at q4; exact q4.take
     exact yield_two hc hi q2 q1 q3 q4' (by rw [q2.len, hi.F.len, q4.1]) hW e1 e2 e3 e4 e7 (putOK_sub hput fun o ho => by
       simp at ho; rcases ho with rfl | rfl
       ·exact hoy
       ·exact hoz) hlt q5 fun fr' k' act' w' hs hinv => hgoal .normal fr' k' act' w' hs hinv
    have hal : ops = (pre ++ [oy, oz]).toArray := by rw [<- hsplit]
    have htk : (pre ++ [oy, oz]).take pre.length = pre := by simp
    have hputp := regKept_put pre act
    have hlo : S.lo <= ([] : Heap).length := by rw [hl0]; exact Nat.zero_le _
    have h2 := hok.2
    cases dr with
    | true =>
      simp only [Bool.and_eq_true] at h2
      have hbk : Back (pre ++ [oy, oz]) := by rw [<- hsplit]; exact back_spec hback
      have hbr : barAt true (pre ++ [oy, oz]) pre.length = true := by
       simp only at hbar
       rw [hsplit] at hbar
       rw [hplen, hsplit]; exact hbar
      apply wpIn_region_any hm
      rw [hal]
      have hd := draw_any (ops := pre.toArray) (w := w) hS (ro := none) (rm := 0) (by simpa using hok.1) (by simpa using h2.1) (by simpa using back_spec h2.2) hlo hH hi.F (by simpa using h) (by simpa using hputp) hdsp hg
      have := any_prefix (F := fen none) (n := 0) (P := P) (P1 := P1) (Q := Q) (all := pre ++ [oy, oz]) (k := pre.length) (m := 2) (by simp) (by rw [htk]; exact hok.1) hbk hbr
       (fun a1 w1 hp D hs hcl hb hge => tail_any hbk hbr e5 e6 hs hcl hb hge (htwo a1 w1 hp)) pre.length (Array.replicate pre.length false) (Array.replicate (pre ++ [oy, oz]).length false) act { w with drawn := w.drawn + 1 } (by simp) (by simp)
       (fun i o _ hl => ?_) (fun i hi => ?_) (fun i _ hl => ?_) ?_ ?_
      ·simpa using this
      ·exfalso
       unfold Lst at hl
       rw [Array.getD_eq_getD_getElem?, Array.getElem?_replicate] at hl
       split at hl <;> simp at hl
      ·rw [Array.getD_eq_getD_getElem?, Array.getD_eq_getD_getElem?, Array.getElem?_replicate, Array.getElem?_replicate, if_pos hi, if_pos (by simp; omega)]
      ·unfold Lst at hl
       rw [Array.getD_eq_getD_getElem?, Array.getElem?_replicate] at hl
       split at hl <;> simp at hl
      ·have key : ∀ q, q <= pre.length -> unl (fun i => (Array.replicate pre.length false).getD i false) q = q := by
        intro q
        induction q with
        | zero => intro _; rfl
        | succ q ihq =>
          intro hq
          have : (Array.replicate pre.length false).getD q false = false := by
           rw [Array.getD_eq_getD_getElem?, Array.getElem?_replicate]; split <;> rfl
          simp only [unl, this]
          rw [ihq (by omega)]; simp; omega
       exact key _ (Nat.le_refl _)
      ·rw [htk]; simpa using hd
    | false =>
      apply wpIn_region
      rw [hal]
      have hin := inorder hS (all := pre) hok.1 (K := yldH A y k fun f k' => Qv .normal f k') (Q := EndQ P1) hputp (ro := none) (rm := 0) pre 0 [] fr [] C w act (by simp) (fun k x hx => by simp at hx) hlo hH hi.F h hdsp hg
      have hrg : List.range (pre ++ [oy, oz]).toArray.size = List.range' 0 pre.length ++ [pre.length, pre.length + 1] := by
       rw [List.range_eq_range']
       have : (pre ++ [oy, oz]).toArray.size = pre.length + 2 := by simp
       rw [this, <- List.range'_append_1]
       simp [List.range'_succ]
      rw [hrg]
      refine opsIn_prefix (all := pre ++ [oy, oz]) (k := pre.length) (P1 := P1) (by simp) (by rw [htk]; exact hok.1) (fun a1 w1 hp => ?_) _ (fun i hi => by simp [List.mem_range'] at hi; omega) act w (by rw [htk]; exact hin)
      have gy : (pre ++ [oy, oz]).toArray[pre.length]? = some oy := by simp
      have gz : (pre ++ [oy, oz]).toArray[pre.length + 1]? = some oz := by simp
      have hwy : ∀ f, Region.wanted oy f = true := fun f => by unfold Region.wanted; rw [e5]
      have hwz : ∀ f, Region.wanted oz f = true := fun f => by unfold Region.wanted; rw [e6]
      simp only [wpOpsIn, gy, gz, hwy, hwz, if_true]
      exact htwo a1 w1 hp
 | seq a b iha ihb =>
   intro hok fr k Qv act w Q hi h hgoal
   simp only [codeY, Bool.and_eq_true] at hok
   simp only [wpY] at h
   refine wpIn_seq (iha hok.1 fr k _ act w _ hi h ?_)
   intro e fr' k' act' w' h1 h2
   cases e with
   | normal => exact ihb hok.2 fr' k' Qv act' w' Q h2 h1 hgoal
   | exit id => exact hgoal (.exit id) fr' k' act' w' h1 h2
   | ret => exact hgoal .ret fr' k' act' w' h1 h2
 | cond c a b iha ihb =>
   intro hok fr k Qv act w Q hi h hgoal
   simp only [codeY, Bool.and_eq_true] at hok
   simp only [wpY] at h
   split at h
   case h_2 => exact h.elim
   rename_i d
   split at h
   case h_2 => exact h.elim
   rename_i hdp
   have hdp : A.ps.length <= d := Nat.le_of_ble_eq_true hdp
   unfold branchK at h
   have hd := (hi.F.get d).1
   split at h
   ·rename_i hv
    rw [hv] at hd
    refine wpIn_cond_true (c := .tmp d) ?_ (iha hok.1 fr k Qv act w Q hi h hgoal)
    show act.tmps.getD d undef = _
    generalize act.tmps.getD d undef = u at hd; cases hd; rfl
   ·rename_i hv
    rw [hv] at hd
    refine wpIn_cond_false (c := .tmp d) ?_ (ihb hok.2 fr k Qv act w Q hi h hgoal)
    show act.tmps.getD d undef = _
    generalize act.tmps.getD d undef = u at hd; cases hd; rfl
   ·rename_i t hv
    rw [hv] at hd
    have hvt : act.tmps.getD d undef = .bool t := by generalize act.tmps.getD d undef = u at hd; cases hd; rfl
    refine wpIn_cond_split (c := .tmp d) hvt (fun ht => ?_) (fun ht => ?_)
    ·have h1 := h.1 ht
     rw [setF_eq] at h1
     exact iha hok.1 _ k Qv act w Q (known hi hdp (a := .lb true) (.plain (by rw [hvt, ht]; exact .lb _) trivial)) h1 hgoal
    ·have h1 := h.2 ht
     rw [setF_eq] at h1
     exact ihb hok.2 _ k Qv act w Q (known hi hdp (a := .lb false) (.plain (by rw [hvt, ht]; exact .lb _) trivial)) h1 hgoal
   ·exact h.elim
 | block id c ih =>
   intro hok fr k Qv act w Q hi h hgoal
   simp only [codeY] at hok
   simp only [wpY] at h
   refine wpIn_block (ih hok fr k _ act w _ hi h ?_)
   intro e fr' k' act' w' h1 h2
   cases e with
   | normal => exact hgoal .normal fr' k' act' w' h1 h2
   | exit j =>
     simp only at h1
     show (if j = id then Q .normal act' w' else Q (.exit j) act' w')
     split at h1
     ·rename_i hj
      rw [if_pos (Nat.eq_of_beq_eq_true hj).symm]
      exact hgoal .normal fr' k' act' w' h1 h2
     ·rename_i hj
      rw [if_neg (fun e => by subst e; simp at hj)]
      exact hgoal (.exit j) fr' k' act' w' h1 h2
   | ret => exact hgoal .ret fr' k' act' w' h1 h2
 | loop c ih =>
   intro hok fr k Qv act w Q hi h hgoal
   simp only [codeY] at hok
   simp only [wpY] at h
   cases k with
   | none => exact h.elim
   | some k =>
     obtain ⟨h0, h3⟩ := h
     have enter : ∀ {fr : List AV} {g : Nat} {act : Act} {w : World}, (leLW (leAF 6 0 [] []) fr (A.fr g) (.need ⟨A.q, A.dat g⟩ .done)).sat R -> InvY A C J Jx sz0 fr (some g) act w -> A.q (A.dat g) /\ InvY A C J Jx sz0 (A.fr g) (some g) act w := by
      intro fr g act w hle hi
      have hH : HR C [] w := hr_none hc.ρ fun b hb => Nat.lt_of_lt_of_le (hc.I b hb) hi.size
      have hle := leLW_sat (leAF_sat 6) _ _ _ _ id hle
      obtain ⟨hq, himp⟩ := leL_sat hle
      have hln := (himp C w hH).1
      refine ⟨hq.1, ⟨by rw [<- hln]; exact hi.F.len, fun t => ?_⟩, fun t ht => hc.fr g t ht, by rw [<- hln]; exact hi.np, hi.size, hi.st, hi.df⟩
      have h1 := leL_frame hle C w hH t _ (hi.F.get t).1
      refine ⟨h1.1.mono ⟨fun i p hp => ?_, fun b hb => ?_, fun _ _ => rfl⟩, fun k b e => by obtain ⟨x, hx, _⟩ := h1.2 k b e; simp at hx⟩
      ·unfold Cx.cut at hp
       simp only at hp
       split at hp
       ·exact hp
       ·cases hp
      ·rcases hb with hb | ⟨i, c, n, _, hb⟩
       ·exact hb
       ·rw [hc.ρ] at hb; cases hb
     obtain ⟨hq, hi⟩ := enter h0 hi
     refine wpIn_loop_ghost (fun m a w1 => ∃ g, A.n - g = m /\ A.q (A.dat g) /\ InvY A C J Jx sz0 (A.fr g) (some g) a w1) (A.n - k) ⟨k, rfl, hq, hi⟩ ?_
     rintro m a w1 ⟨g, rfl, hqg, hi⟩
     have h4 := h3 g hqg
     simp only [forceL_eq] at h4
     refine ih hok _ _ _ a w1 _ hi h4 ?_
     intro e fr' k' act' w' h1 h2
     cases e with
     | normal =>
       cases k' with
       | none => exact h1.elim
       | some k' =>
         obtain ⟨⟨hlt, hgn⟩, h1⟩ := h1
         obtain ⟨hq', hi'⟩ := enter h1 h2
         simp only at hlt hgn
         exact ⟨A.n - k', by omega, k', rfl, hq', hi'⟩
     | exit id => exact hgoal (.exit id) fr' k' act' w' h1 h2
     | ret => exact hgoal .ret fr' k' act' w' h1 h2
 | exit id =>
   intro _ fr k Qv act w Q hi h hgoal
   exact wpIn_exit (hgoal (.exit id) fr k act w h hi)
 | ret =>
   intro _ fr k Qv act w Q hi h hgoal
   exact wpIn_ret (hgoal .ret fr k act w h hi)
 | _ =>
   intro hok
   cases hok
structure SpecI (shs : List Sh) where
 pre : DatL shs -> Prop
 n : DatL shs -> Nat
 it : DatL shs -> Nat -> List AV
noncomputable def mkIt (shs : List Sh) (sp : SpecI shs) : Iter := fun caps => match okShLN shs caps with
 | true => decKLN shs caps fun x => some ⟨appP (canShLN shs caps) [⟨sp.pre, x⟩], sp.n x, sp.it x⟩
 | false => none
theorem IterOK.of (hS : SumsOK P S) (hm : P.follows .mixedOrders = true) (hl0 : S.lo = 0) {shs : List Sh} {sp : SpecI shs} {gf : FuncId} {fn : Func} {c : Code} (hf : P.funcs[gf]? = some fn) (hb : fn.body = some c) (hres : fn.results = #[]) (hok : codeY (shs.length + 1) c = true) (hany : noAny shs = true) (hn : shs.length + 1 <= fn.ntmps)
  {α : Type} {dat : DatL shs -> Nat -> α} {q : α -> Prop} {fr : Value -> DatL shs -> Nat -> List AV} (hfr : ∀ Y x g t, t < shs.length + 1 -> getL (fr Y x g) t = getL (.v Y :: encL shs x) t)
  (h : ∀ Y x, sp.pre x -> (wpYF P S ⟨.v Y :: encL shs x, Y, sp.n x, sp.it x, fr Y x, dat x, q⟩ fn).sat fun _ _ => True) : IterOK P gf (mkIt shs sp) := by
 intro caps x hx hpre C w lb hρ hI hlb l J Jx hJ hJx hY h0
 unfold mkIt at hx
 simp only [okShLN_eq, decKLN_eq, canShLN_eq] at hx
 split at hx
 case h_2 => cases hx
 rename_i hsh
 rw [decKL_eq hsh] at hx
 injection hx with hx; subst hx
 obtain ⟨hp1, hp2⟩ := appP_mem hpre
 have hsp := hp2 _ (List.mem_singleton.2 rfl)
 have hlb := encL_dec (can_shL hsh hp1) hlb
 generalize decL shs caps = x at *
 have hv := h (.func (.yield l) #[] #[]) x hsp
 refine callsIn_of_wp_marks (F := fen none) (n := 0) hf hb trivial ?_ rfl
 unfold wpYF at hv
 simp only [hb, forceL_eq, flatK_eq] at hv
 let A : YA := ⟨.v (.func (.yield l) #[] #[]) :: encL shs x, .func (.yield l) #[] #[], sp.n x, sp.it x, fr (.func (.yield l) #[] #[]) x, dat x, q⟩
 have hA : A.ps = .v (.func (.yield l) #[] #[]) :: encL shs x := rfl
 have hAl : A.ps.length = shs.length + 1 := by rw [hA]; simp [encL_len]
 have hps : RelL C w A.ps (.func (.yield l) #[] #[] :: lb) := .cons _ _ _ _ (.v _) hlb
 have hng : ∀ t, notGd (getL A.ps t) := fun t => by
  rw [hA]
  cases t with
  | zero => rw [getL_zero]; trivial
  | succ t => rw [getL_succ]; exact encL_ng hany t
 have hc : YCtx P A C J Jx w.heap.size l := ⟨hρ, hI, hng, fun g t ht => hfr _ x g t (by rw [hAl] at ht; exact ht), rfl, hJ, hJx, hY⟩
 have hle := hps.len
 have hpad : ∀ (l : List AV) (n : Nat), l.length <= n -> padL l n = l ++ List.replicate (n - l.length) (.tup []) := by
  intro l
  induction l with
  | nil =>
    intro n _
    induction n with
    | zero => rfl
    | succ n ih => simp only [padL, ih (by simp)]; simp [List.replicate_succ]
  | cons a l ih =>
    intro n hn
    cases n with
    | zero => simp at hn
    | succ n => simp only [padL, ih n (by simpa using hn)]; simp
 have hnl : A.ps.length <= fn.ntmps := by omega
 generalize hvs : (.func (.yield l) #[] #[] :: lb : List Value) = vs at *
 have hF : FR [] C w (padL A.ps fn.ntmps) ((⟨vs⟩ : Array Value) ++ Array.replicate (fn.ntmps - (⟨vs⟩ : Array Value).size) undef) := by
  rw [hpad _ _ hnl]
  refine ⟨by simp [hle], fun t => ?_⟩
  rw [getL_eq, List.getD_eq_getElem?_getD, Array.getD_eq_getD_getElem?]
  by_cases ht : t < A.ps.length
  ·rw [List.getElem?_append_left ht, Array.getElem?_append_left (by simp; omega)]
   have h1 : A.ps[t]? = some (A.ps[t]'ht) := List.getElem?_eq_getElem _
   obtain ⟨v, h2, h3⟩ := hps.get h1
   rw [h1]
   simp only [List.getElem?_toArray, h2, Option.getD_some]
   refine .plain h3 ?_
   have := hng t
   rwa [getL_eq, List.getD_eq_getElem?_getD, h1] at this
  ·rw [List.getElem?_append_right (by omega), Array.getElem?_append_right (by simp; omega)]
   refine .plain ?_ ?_
   ·have e1 : ((List.replicate (fn.ntmps - A.ps.length) (AV.tup []))[t - A.ps.length]?).getD (.tup []) = .tup [] := by
     rw [List.getElem?_replicate]; split <;> rfl
    have e2 : ((Array.replicate (fn.ntmps - (⟨vs⟩ : Array Value).size) undef)[t - (⟨vs⟩ : Array Value).size]?).getD undef = undef := by
     rw [Array.getElem?_replicate]; split <;> rfl
    rw [e1, e2]
    exact .tup _ _ .nil
   ·rw [List.getElem?_replicate]; split <;> trivial
 have hplen : (padL A.ps fn.ntmps).length = fn.ntmps := by rw [hpad _ _ hnl]; simp; omega
 have hget : ∀ t, t < A.ps.length -> getL (padL A.ps fn.ntmps) t = getL A.ps t := fun t ht => by
  rw [hpad _ _ hnl, getL_eq, getL_eq, List.getD_eq_getElem?_getD, List.getD_eq_getElem?_getD, List.getElem?_append_left ht]
 have hi0 : InvY A C J Jx w.heap.size (padL A.ps fn.ntmps) (some 0) ⟨(⟨vs⟩ : Array Value) ++ Array.replicate (fn.ntmps - (⟨vs⟩ : Array Value).size) undef, []⟩ w :=
  ⟨hF, hget, by rw [hplen]; exact hnl, Nat.le_refl _, h0, rfl⟩
 have hi : InvY A C J Jx w.heap.size (flatL A.ps (padL A.ps fn.ntmps)) (some 0) ⟨(⟨vs⟩ : Array Value) ++ Array.replicate (fn.ntmps - (⟨vs⟩ : Array Value).size) undef, []⟩ w :=
  carry hc hi0 hF (fun _ _ => rfl) (Nat.le_refl _) (W := 0) ⟨rfl, fun _ _ => rfl, rfl⟩ (fun t _ => by simp) rfl h0
 refine wpY_sound hS hm hl0 hc c (by rw [hAl]; exact hok) _ _ _ _ w _ hi hv ?_
 intro e fr' k' act' w' h1 h2
 have fin : (J (sp.n x) w' \/ ∃ k, k < sp.n x /\ Jx k w') -> LeavesInM (fen none) 0 P fn act'.tmps (fun e W' => (∃ v, e = .returned v) /\ (J (sp.n x) W' \/ ∃ k, k < sp.n x /\ Jx k W')) act'.defers .returning w' := by
  intro hj
  rw [h2.df]
  refine ⟨.tuple #[], ?_, ⟨_, rfl⟩, hj⟩
  simp [results, hres]
 have st := h2.st
 cases e with
 | exit id => exact h1.elim
 | normal =>
   cases k' with
   | none => exact fin (.inr st)
   | some k' => exact fin (.inl (by have e : k' = sp.n x := h1.1; rw [<- e]; exact st))
 | ret =>
   cases k' with
   | none => exact fin (.inr st)
   | some k' => exact fin (.inl (by have e : k' = sp.n x := h1.1; rw [<- e]; exact st))
end
end Abs
end Go.Proofs.YtlabbaglbcmofaaGreat

namespace Go.Proofs.YtlabbaglbcmofaaGreat
namespace Abs
open Go Go.RowKit
@[irreducible] def sgn (x : Int) : Int := if x < 0 then -1 else if 0 < x then 1 else 0
theorem sgn_mul (x : Int) : x * sgn x = absI x := by unfold sgn absI; split <;> (try split) <;> omega
theorem sgn_b (x : Int) : sgn x = -1 \/ sgn x = 0 \/ sgn x = 1 := by unfold sgn; split <;> (try split) <;> simp
def signS : Spec [.int .i64] := ⟨fun _ => True, fun (x, _) => .si .i64 (sgn x)⟩
set_option maxRecDepth 100000 in
theorem sign_ok : FnSpec Tryz.prog 181 _ signS := by
 refine FnSpec.of SQ3_ok mixed (U := 0) (I := fun _ => []) Tryz.func181 rfl (by kernel_rfl) rfl rfl (by decide +kernel) ?_
 rintro ⟨(x : Int), ⟨⟩⟩ -
 unfold FnSat
 conv => arg 2; reduce
 simp [signS, sgn]
 repeat' (first | refine And.intro ?_ ?_ | intro _)
 all_goals (try omega)
noncomputable def SX0 : Sums := ⟨(181, mkSum _ signS) :: SQ3.one, SQ3.two, SQ3.lo, SQ3.eqs, SQ3.its, SQ3.imm⟩
theorem SX0_ok : SumsOK Tryz.prog SX0 := (SQ3_ok.cons Tryz.func181 (by kernel_rfl) (by kernel_rfl) sign_ok)
@[irreducible] def qD (x n d : Int) (k : Nat) : Int := topP x n k / d
@[irreducible] def rD (x n d : Int) (k : Nat) : Int := topP x n k % d
theorem i64_and1 (n : Int) : bits .and .i64 n 1 = n % 2 := by
 have h1 : (BitVec.ofInt 64 1).toNat = 2 ^ 1 - 1 := by decide
 have key : (BitVec.ofInt 64 n &&& BitVec.ofInt 64 1).toNat = (n % ((2 ^ 64 : Nat) : Int)).toNat % 2 ^ 1 := by
  rw [BitVec.toNat_and, BitVec.toNat_ofInt, h1, Nat.and_two_pow_sub_one_eq_mod]
 show IntKind.i64.wrap ((BitVec.ofInt 64 n &&& BitVec.ofInt 64 1).toNat : Nat) = n % 2
 rw [key, IntKind.wrap_i64]
 omega
theorem bit_eq {n : Int} (i : Nat) (hn : 0 <= n) : ibit .and .i64 (ishr n (i : Int)) 1 = bitP n i := by
 unfold ibit ishr bitP
 rw [i64_and1, Int.fdiv_eq_ediv_of_nonneg _ (Int.pow_nonneg (by decide))]
theorem dvd_step {x n d : Int} {i : Nat} (hx : 0 <= x) (hn : 0 <= n) (hd : 1 <= d) : 0 <= qD x n d (i + 1) /\ 0 <= rD x n d (i + 1) /\ rD x n d (i + 1) < d /\
  2 * qD x n d (i + 1) + bitP n i * (x / d) + (2 * rD x n d (i + 1) + bitP n i * (x % d)) / d = qD x n d i /\ (2 * rD x n d (i + 1) + bitP n i * (x % d)) % d = rD x n d i := by
 have hT := topP_step (x := x) (n := n) (i := (i : Int)) (by omega)
 have e1 : (i : Int) + 1 = ((i + 1 : Nat) : Int) := by omega
 rw [e1] at hT
 have hn0 := topP_nonneg (i := ((i + 1 : Nat) : Int)) hx hn
 have hd0 : d ≠ 0 := by omega
 have hq1 := Int.emod_add_mul_ediv (topP x n ((i + 1 : Nat) : Int)) d
 have hq2 := Int.emod_nonneg (topP x n ((i + 1 : Nat) : Int)) hd0
 have hq3 := Int.emod_lt_of_pos (topP x n ((i + 1 : Nat) : Int)) (show 0 < d by omega)
 have hq4 : 0 <= topP x n ((i + 1 : Nat) : Int) / d := Int.ediv_nonneg hn0 (by omega)
 have hx1 := Int.emod_add_mul_ediv x d
 have u1 : topP x n ((i + 1 : Nat) : Int) / d = qD x n d (i + 1) := by unfold qD; rfl
 have u2 : topP x n ((i + 1 : Nat) : Int) % d = rD x n d (i + 1) := by unfold rD; rfl
 rw [u1, u2] at hq1
 rw [u2] at hq2 hq3
 rw [u1] at hq4
 refine ⟨hq4, hq2, hq3, ?_⟩
 have e2 : qD x n d i = topP x n i / d := by unfold qD; rfl
 have e3 : rD x n d i = topP x n i % d := by unfold rD; rfl
 rw [e2, e3]
 clear u1 u2 e2 e3
 generalize qD x n d (i + 1) = q at *
 generalize rD x n d (i + 1) = r at *
 generalize hxd : x / d = q1 at *
 generalize hxm : x % d = r1 at *
 have e4 : topP x n i = (2 * r + bitP n i * r1) + d * (2 * q + bitP n i * q1) := by
  rw [hT, <- hq1]
  rcases bitP_or n i with h | h <;> rw [h]
  ·simp only [Int.zero_mul, Int.add_zero]
   rw [Int.mul_add, Int.mul_left_comm]
  ·simp only [Int.one_mul]
   rw [<- hx1, Int.mul_add, Int.mul_add, Int.mul_left_comm]
   omega
 rw [e4, Int.add_mul_ediv_left _ _ hd0, Int.add_mul_emod_self_left]
 exact ⟨by omega, rfl⟩
theorem qD_top {x n d : Int} (h0 : 0 <= n) (h1 : n < 17592186044416) : qD x n d 44 = 0 /\ rD x n d 44 = 0 := by
 unfold qD rD
 rw [show ((44 : Nat) : Int) = 44 from rfl, topP_top h0 h1]; simp
theorem qD_zero {x n d : Int} (hd : 1 <= d) (h : qD x n d 0 <= 288230376151711744) : qD x n d 0 = whQ x n d /\ rD x n d 0 = whR x n d := by
 have hd0 : d ≠ 0 := by omega
 have hq1 := Int.emod_add_mul_ediv (topP x n ((0 : Nat) : Int)) d
 have hq2 := Int.emod_nonneg (topP x n ((0 : Nat) : Int)) hd0
 have hq3 := Int.emod_lt_of_pos (topP x n ((0 : Nat) : Int)) (show 0 < d by omega)
 rw [Int.mul_comm] at hq1
 unfold qD at h ⊢
 unfold rD
 have := wh_near (x := x) (n := n) (d := d) (q := topP x n ((0 : Nat) : Int) / d) (r := topP x n ((0 : Nat) : Int) % d) (by rw [Int.add_comm]; exact hq1) hq2 hq3 h
 exact ⟨this.1.symm, this.2.symm⟩
def dvdS : Spec [.int .i64, .int .i64, .int .i64] := ⟨fun (x, n, d, _) => 0 <= x /\ x <= 4398046511104 /\ 0 <= n /\ n <= 4398046511104 /\ 1 <= d /\ d <= 4398046511104, fun (x, n, d, _) => .tup [.si .i64 (whQ x n d), .si .i64 (whR x n d)]⟩
noncomputable def dvdI : DatL [.int .i64, .int .i64, .int .i64] -> Anns := fun ((x : Int), (n : Int), (d : Int), _) => [
 (6, [], fun fr hp => ⟨Nat, fun g => ⟨frI [.k 10, .s (.si .i64 (qD x n d (nsub 44 g))), .s (.si .i64 (rD x n d (nsub 44 g))), .t 1, .k 12, .s (.si .i64 (icast g)), .t 31] fr, hp⟩, Nat × Int × Int × Int, fun g => (g, x, n, d), fun (g, x, n, d) => g <= 44 /\ qD x n d (44 - g) <= 288230376151711744, fun g => nsub 44 g⟩)]
set_option maxRecDepth 100000 in
theorem dvd_ok : FnSpec Tryz.prog 180 _ dvdS := by
 refine FnSpec.of SX0_ok mixed (U := 0) (I := dvdI) Tryz.func180 rfl (by kernel_rfl) rfl rfl (by decide +kernel) ?_
 rintro ⟨(x : Int), (n : Int), (d : Int), ⟨⟩⟩ ⟨(h1 : 0 <= x), (h2 : x <= 4398046511104), (h3 : 0 <= n), (h4 : n <= 4398046511104), (h5 : 1 <= d), (h6 : d <= 4398046511104)⟩
 unfold FnSat
 conv => arg 2; reduce
 simp [dvdS, and_assoc]
 have hd0 : d ≠ 0 := by omega
 have hx4 : 0 <= x / d := Int.ediv_nonneg h1 (by omega)
 have hx5 : x / d <= x := Int.ediv_le_self _ h1
 have hx2 := Int.emod_nonneg x hd0
 have hx3 := Int.emod_lt_of_pos x (show 0 < d by omega)
 rw [Int.tdiv_eq_ediv_of_nonneg h1, Int.tmod_eq_emod_of_nonneg h1]
 refine ⟨fun h => ?_, fun hx hn => ⟨hd0, by omega, by omega, hd0, ⟨0, ?_⟩, fun g hg hq => ⟨fun hlt => ?_, fun hge => ?_⟩⟩⟩
 ·unfold whQ whR
  have e : x * n = 0 := by rcases h with h | h <;> simp [h]
  rw [e]; simp
 ·have := qD_top (x := x) (d := d) h3 (show n < 17592186044416 by omega)
  exact ⟨this.1.symm, this.2.symm, rfl, by omega, by rw [this.1]; decide⟩
 ·obtain ⟨i, hgi, hi43⟩ : ∃ i : Nat, g = 43 - i /\ i <= 43 := ⟨43 - g, by omega, by omega⟩
  subst hgi
  have eA : 44 - (43 - i) = i + 1 := by omega
  have eB : 43 - (((43 - i : Nat) : Nat) : Int) = (i : Int) := by omega
  rw [eA] at hq
  rw [eA, eB, bit_eq i h3]
  obtain ⟨s1, s2, s3, s4, s5⟩ := dvd_step (i := i) h1 h3 h5
  have tail : ∀ v w : Int, v = qD x n d i -> w = rD x n d i -> (288230376151711744 < v -> 1152921504606846976 = whQ x n d /\ 0 = whR x n d) /\
    (v <= 288230376151711744 -> -9223372036854775808 <= (((43 - i : Nat) : Nat) : Int) + 1 /\ (((43 - i : Nat) : Nat) : Int) + 1 <= 9223372036854775807 /\ ∃ g_1 : Nat, v = qD x n d (44 - g_1) /\ w = rD x n d (44 - g_1) /\ (((43 - i : Nat) : Nat) : Int) + 1 = (g_1 : Int) /\ g_1 <= 44 /\ qD x n d (44 - g_1) <= 288230376151711744 /\ 44 - g_1 < i + 1) := by
   intro v w hv hw
   refine ⟨fun hfar => ?_, fun hnear => ⟨by omega, by omega, 44 - i, ?_⟩⟩
   ·have := wh_far (x := x) (n := n) (d := d) (k := i) h1 h3 (by omega) (by rw [hv] at hfar; unfold qD at hfar; exact hfar)
    exact ⟨this.1.symm, this.2.symm⟩
   ·rw [show 44 - (44 - i) = i by omega]
    exact ⟨hv, hw, by omega, by omega, by omega, by omega⟩
  have dv : ∀ a : Int, 0 <= a -> a < 3 * d -> 0 <= a / d /\ a / d <= 2 := fun a ha hb => by
   refine ⟨Int.ediv_nonneg ha (by omega), ?_⟩
   have := Int.ediv_lt_of_lt_mul (a := a) (b := 3) (c := d) (by omega) hb
   omega
  refine ⟨by omega, by omega, by omega, by omega, by omega, by omega, by omega, by simp [IntKind.bits]; omega, fun hb => ?_, fun hb => ?_⟩
  ·rw [hb, Int.one_mul, Int.one_mul] at s4
   rw [hb, Int.one_mul] at s5
   have d1 := dv (2 * rD x n d (i + 1) + x % d) (by omega) (by omega)
   rw [Int.tdiv_eq_ediv_of_nonneg (by omega), Int.tmod_eq_emod_of_nonneg (by omega)]
   exact ⟨by omega, by omega, by omega, by omega, hd0, by omega, by omega, by omega, by omega, hd0, tail _ _ s4 s5⟩
  ·have hb0 : bitP n i = 0 := by rcases bitP_or n i with h | h; exact h; exact absurd h hb
   rw [hb0, Int.zero_mul, Int.zero_mul, Int.add_zero, Int.add_zero] at s4
   rw [hb0, Int.zero_mul, Int.add_zero] at s5
   have d1 := dv (2 * rD x n d (i + 1)) (by omega) (by omega)
   rw [Int.tdiv_eq_ediv_of_nonneg (by omega), Int.tmod_eq_emod_of_nonneg (by omega)]
   exact ⟨hd0, by omega, by omega, by omega, by omega, hd0, tail _ _ s4 s5⟩
 ·obtain rfl : g = 44 := by omega
  exact qD_zero h5 hq
noncomputable def SX1 : Sums := ⟨(180, mkSum _ dvdS) :: SX0.one, SX0.two, SX0.lo, SX0.eqs, SX0.its, SX0.imm⟩
theorem SX1_ok : SumsOK Tryz.prog SX1 := (SX0_ok.cons Tryz.func180 (by kernel_rfl) (by kernel_rfl) dvd_ok)
@[irreducible] def dnW (x n d : Int) : Int := if 0 <= sgn x * sgn n * sgn d then whQ (absI x) (absI n) (absI d) else -(if 0 < whR (absI x) (absI n) (absI d) then whQ (absI x) (absI n) (absI d) + 1 else whQ (absI x) (absI n) (absI d))
def dnS : Spec [.int .i64, .int .i64, .int .i64] := ⟨fun ((x : Int), (n : Int), (d : Int), _) => -4398046511104 <= x /\ x <= 4398046511104 /\ -4398046511104 <= n /\ n <= 4398046511104 /\ 1 <= absI d /\ -4398046511104 <= d /\ d <= 4398046511104, fun ((x : Int), (n : Int), (d : Int), _) => .si .i64 (dnW x n d)⟩
set_option maxRecDepth 100000 in
theorem dn_ok : FnSpec Tryz.prog 143 _ dnS := by
 refine FnSpec.of SX1_ok mixed (U := 0) (I := fun _ => []) Tryz.func143 rfl (by kernel_rfl) rfl rfl (by decide +kernel) ?_
 rintro ⟨(x : Int), (n : Int), (d : Int), ⟨⟩⟩ ⟨(h1 : -4398046511104 <= x), (h2 : x <= 4398046511104), (h3 : -4398046511104 <= n), (h4 : n <= 4398046511104), (h5 : 1 <= absI d), (h6 : -4398046511104 <= d), (h7 : d <= 4398046511104)⟩
 unfold FnSat
 conv => arg 2; reduce
 simp [dnS, signS, dvdS, sgn_mul, and_assoc]
 have a1 := absI_b (x := x) (m := 4398046511104) (by omega) (by omega)
 have a2 := absI_b (x := n) (m := 4398046511104) (by omega) (by omega)
 have a3 := absI_b (x := d) (m := 4398046511104) (by omega) (by omega)
 have hb := whQ_b (x := absI x) (n := absI n) (d := absI d) a1.1 a2.1 (by omega)
 have s1 : ∀ x n : Int, (x = -1 \/ x = 0 \/ x = 1) -> (n = -1 \/ n = 0 \/ n = 1) -> x * n = -1 \/ x * n = 0 \/ x * n = 1 := by
  rintro x n (rfl | rfl | rfl) (rfl | rfl | rfl) <;> decide
 have s2 := s1 _ _ (sgn_b x) (sgn_b n)
 have s3 := s1 _ _ s2 (sgn_b d)
 refine ⟨by omega, by omega, by omega, by omega, by omega, by omega, a1.1, a1.2, a2.1, a2.2, h5, a3.2, by omega, by omega, by omega, by omega, fun h => by unfold dnW; rw [if_pos h], fun h => ⟨fun hr => ⟨by omega, by omega, by omega, by omega, by unfold dnW; rw [if_neg (by omega), if_pos hr]⟩, fun hr => ⟨by omega, by omega, by unfold dnW; rw [if_neg (by omega), if_neg (by omega)]⟩⟩⟩
theorem dnW_pos {x n d : Int} (hn : 0 <= n) (hd : 0 < d) (h : absI x * n / d <= 288230376151711744) : dnW x n d = x * n / d := by
 rw [<- dnV_pos hn hd h]
 unfold dnW dnV
 have e1 : decide (n < 0) = false := by simp; omega
 have e2 : decide (d < 0) = false := by simp; omega
 have e3 : sgn d = 1 := by unfold sgn; rw [if_neg (by omega), if_pos hd]
 rw [e1, e2, e3, Int.mul_one]
 by_cases hx : x < 0
 ·have e4 : sgn x = -1 := by unfold sgn; rw [if_pos hx]
  rw [e4]
  by_cases hn0 : n = 0
  ·subst hn0
   have e5 : absI 0 = 0 := by unfold absI; rfl
   simp [hx, e5, whQ, whR, sgn]
  ·have e5 : sgn n = 1 := by unfold sgn; rw [if_neg (by omega), if_pos (by omega)]
   rw [e5]
   simp [hx]
 ·have e4 : 0 <= sgn x * sgn n := by
   refine Int.mul_nonneg ?_ ?_
   ·unfold sgn; rw [if_neg hx]; split <;> omega
   ·unfold sgn; rw [if_neg (by omega)]; split <;> omega
  rw [if_pos e4]
  simp [hx]
noncomputable def SX2 : Sums := ⟨(143, mkSum _ dnS) :: SX1.one, SX1.two, SX1.lo, SX1.eqs, SX1.its, SX1.imm⟩
theorem SX2_ok : SumsOK Tryz.prog SX2 := (SX1_ok.cons Tryz.func143 (by kernel_rfl) (by kernel_rfl) dn_ok)
@[irreducible] def upW (x n d : Int) : Int := -(dnW (-x) n d)
def upS : Spec [.int .i64, .int .i64, .int .i64] := ⟨fun ((x : Int), (n : Int), (d : Int), _) => -4398046511104 <= x /\ x <= 4398046511104 /\ 0 <= n /\ n <= 4398046511104 /\ 1 <= d /\ d <= 4398046511104, fun ((x : Int), (n : Int), (d : Int), _) => .si .i64 (upW x n d)⟩
theorem dnW_b {x n d : Int} (h5 : 1 <= absI d) : -1152921504606846977 <= dnW x n d /\ dnW x n d <= 1152921504606846976 := by
 have a1 : 0 <= absI x := by unfold absI; split <;> omega
 have a2 : 0 <= absI n := by unfold absI; split <;> omega
 have hb := whQ_b (x := absI x) (n := absI n) (d := absI d) a1 a2 (by omega)
 unfold dnW
 split
 ·omega
 ·split <;> omega
set_option maxRecDepth 100000 in
theorem up_ok : FnSpec Tryz.prog 204 _ upS := by
 refine FnSpec.of SX2_ok mixed (U := 0) (I := fun _ => []) Tryz.func204 rfl (by kernel_rfl) rfl rfl (by decide +kernel) ?_
 rintro ⟨(x : Int), (n : Int), (d : Int), ⟨⟩⟩ ⟨(h1 : -4398046511104 <= x), (h2 : x <= 4398046511104), (h3 : 0 <= n), (h4 : n <= 4398046511104), (h5 : 1 <= d), (h6 : d <= 4398046511104)⟩
 unfold FnSat
 conv => arg 2; reduce
 simp [upS, dnS, and_assoc]
 have hd : 1 <= absI d := by rw [absI_pos (by omega)]; exact h5
 have := dnW_b (x := -x) (n := n) hd
 refine ⟨by omega, by omega, by omega, by omega, by omega, by omega, hd, by omega, by omega, by omega, by omega, ?_⟩
 unfold upW; rfl
noncomputable def SX3 : Sums := ⟨(204, mkSum _ upS) :: SX2.one, SX2.two, SX2.lo, SX2.eqs, SX2.its, SX2.imm⟩
theorem SX3_ok : SumsOK Tryz.prog SX3 := (SX2_ok.cons Tryz.func204 (by kernel_rfl) (by kernel_rfl) up_ok)
def ratioS : Spec [.int .i64, .int .i64, .int .i64] := ⟨fun ((x : Int), (n : Int), (d : Int), _) => -4398046511104 <= x /\ x <= 4398046511104 /\ 0 <= n /\ n <= 4398046511104 /\ 1 <= d /\ d <= 4398046511104, fun ((x : Int), (n : Int), (d : Int), _) => .agg [.si .i64 (dnW x n d), .si .i64 (upW x n d)]⟩
set_option maxRecDepth 100000 in
theorem ratio_ok : FnSpec Tryz.prog 203 _ ratioS := by
 refine FnSpec.of SX3_ok mixed (U := 0) (I := fun _ => []) Tryz.func203 rfl (by kernel_rfl) rfl rfl (by decide +kernel) ?_
 rintro ⟨(x : Int), (n : Int), (d : Int), ⟨⟩⟩ ⟨(h1 : -4398046511104 <= x), (h2 : x <= 4398046511104), (h3 : 0 <= n), (h4 : n <= 4398046511104), (h5 : 1 <= d), (h6 : d <= 4398046511104)⟩
 unfold FnSat
 conv => arg 2; reduce
 simp [ratioS, dnS, upS, and_assoc]
 have hd : 1 <= absI d := by rw [absI_pos (by omega)]; exact h5
 exact ⟨by omega, by omega, by omega, by omega, hd, by omega, by omega, by omega, by omega, by omega, by omega, by omega, by omega⟩
noncomputable def SX4 : Sums := ⟨(203, mkSum _ ratioS) :: SX3.one, SX3.two, SX3.lo, SX3.eqs, SX3.its, SX3.imm⟩
theorem SX4_ok : SumsOK Tryz.prog SX4 := (SX3_ok.cons Tryz.func203 (by kernel_rfl) (by kernel_rfl) ratio_ok)
def piecesS : Spec [crvSh] := ⟨fun _ => True, fun ((x, y, _), _) => .fn (.func 201) [] [.xp [enc intsSh x, enc intsSh y]]⟩
set_option maxRecDepth 100000 in
theorem pieces_ok : FnSpec Tryz.prog 189 _ piecesS := by
 refine FnSpec.of SX4_ok mixed (U := 0) (I := fun _ => []) Tryz.func189 rfl (by kernel_rfl) rfl rfl (by decide +kernel) ?_
 rintro ⟨c, ⟨⟩⟩ -
 obtain ⟨c, rfl⟩ := crv_ex c
 unfold FnSat
 conv => arg 2; reduce
 simp [piecesS, enc, encL, ownIn, ownIn.ownInL, fnEq, getB, goneB, aliveB, dropL, ElEq]
noncomputable def SX5 : Sums := ⟨(189, mkSum _ piecesS) :: SX4.one, SX4.two, SX4.lo, SX4.eqs, SX4.its, SX4.imm⟩
theorem SX5_ok : SumsOK Tryz.prog SX5 := (SX4_ok.cons Tryz.func189 (by kernel_rfl) (by kernel_rfl) pieces_ok)
def tops : Nat -> List AV -> List AV
 | 0, l => l
 | n + 1, l => .top :: tops n l
def pcsI : SpecI [.ptr crvCells] := ⟨fun ((x, y, _), _) => 1 <= x.1 /\ x.1 <= y.1 /\ x.1 <= 1000 /\ ∀ k, k < x.1 -> isQ (x.2 k).1 = true /\ isQ (y.2 k).1 = true, fun ((x, _, _), _) => nsub x.1 1,
 fun ((x, y, _), _) i => [.si .i64 (icast i), .agg [.si .i64 (x.2 i).1, .si .i64 (y.2 i).1, .si .i64 (isub (x.2 (nadd i 1)).1 (x.2 i).1), .si .i64 (isub (y.2 (nadd i 1)).1 (y.2 i).1)]]⟩
def pcsF (Y : Value) (x : DatL [.ptr crvCells]) (g : Nat) : List AV := .v Y :: .xp (encL crvCells x.1) :: tops 5 (.si .i64 (icast (nsub x.1.1.1 1)) :: .si .i64 (icast g) :: tops 42 [])
set_option maxRecDepth 100000 in
set_option maxHeartbeats 2000000 in
theorem pcs_ok : IterOK Tryz.prog 201 (mkIt [.ptr crvCells] pcsI) := by
 refine IterOK.of SX5_ok mixed rfl Tryz.func201 rfl rfl (by decide +kernel) rfl (by decide) (dat := fun x g => (g, x.1.1.1)) (q := fun z : Nat × Nat => z.1 + 1 <= z.2) (fr := pcsF) (fun Y x g t ht => ?_) ?_
 ·have : t = 0 \/ t = 1 := by simp at ht; omega
  rcases this with rfl | rfl <;> rfl
 rintro Y ⟨⟨⟨n, x⟩, ⟨m, y⟩, ⟨⟩⟩, ⟨⟩⟩ ⟨(h1 : 1 <= n), (h2 : n <= m), (h3 : n <= 1000), (h4 : ∀ k, k < n -> isQ (x k).1 = true /\ isQ (y k).1 = true)⟩
 obtain ⟨u, rfl⟩ : ∃ u : Nat -> Int, x = fun k => (u k, ()) := ⟨fun k => (x k).1, rfl⟩
 obtain ⟨v, rfl⟩ : ∃ v : Nat -> Int, y = fun k => (v k, ()) := ⟨fun k => (y k).1, rfl⟩
 conv => arg 2; reduce
 simp [unitA, natA, ElEq, and_assoc]
 have h5 : ∀ k, k < n -> (-1099511627776 <= u k /\ u k <= 1099511627776) /\ (-1099511627776 <= v k /\ v k <= 1099511627776) := fun k hk => by
  have := h4 k hk
  exact ⟨isQ_iff.1 this.1, isQ_iff.1 this.2⟩
 refine ⟨by omega, by omega, by omega, h1, fun g hg => ⟨fun hlt => ?_, fun hge => by omega⟩⟩
 have a := h5 g (by omega)
 have b := h5 (g + 1) (by omega)
 exact ⟨by omega, by omega, by omega, by omega, by omega, by omega, by omega, by omega, by omega, by omega, by omega, by omega, by omega, by omega, by omega, by omega, hlt, by omega, by omega, hlt, by omega⟩
noncomputable def SX6 : Sums := ⟨SX5.one, SX5.two, SX5.lo, SX5.eqs, (201, mkIt [.ptr crvCells] pcsI) :: SX5.its, SX5.imm⟩
theorem SX6_ok : SumsOK Tryz.prog SX6 := SX5_ok.addIt Tryz.func201 (by kernel_rfl) (by kernel_rfl) pcs_ok
end Abs
end Go.Proofs.YtlabbaglbcmofaaGreat

namespace Go.Proofs.YtlabbaglbcmofaaGreat
namespace Abs
open Go Go.RowKit
@[irreducible] def notQ (x : Int) : Bool := !(isQ x)
def strS : Spec [.int .i64] := ⟨fun _ => True, fun (x, _) => .sb (notQ x)⟩
set_option maxRecDepth 100000 in
theorem str_ok : FnSpec Tryz.prog 187 _ strS := by
 refine FnSpec.of SX6_ok mixed (U := 0) (I := fun _ => []) Tryz.func187 rfl (by kernel_rfl) rfl rfl (by decide +kernel) ?_
 rintro ⟨(x : Int), ⟨⟩⟩ -
 unfold FnSat
 conv => arg 2; reduce
 simp [strS, isS, notQ]
noncomputable def SY0 : Sums := ⟨(187, mkSum _ strS) :: SX6.one, SX6.two, SX6.lo, SX6.eqs, SX6.its, SX6.imm⟩
theorem SY0_ok : SumsOK Tryz.prog SY0 := (SX6_ok.cons Tryz.func187 (by kernel_rfl) (by kernel_rfl) str_ok)
def anyStI : Spec [.slice 1 [.int .i64], .fn 187 [] []] := ⟨fun x => x.1.1 <= maxLen, fun ((n, el), ((_, c), _)) => .si .i64 (idxN (fun k => notQ (el k).1) n)⟩
noncomputable def anyStA : DatL [.slice 1 [.int .i64], .fn 187 [] []] -> Anns := fun ((n, el), ((_, c), _)) => [(2, [], fun fr hp => ⟨Nat, fun g => ⟨frI [.k 5, .t 1, .k 2, .s (.si .i64 (icast g)), .t 10] fr, hp⟩, Nat, fun g => g, fun g => g <= firstN (fun k => notQ (el k).1) n, fun g => nsub n g⟩)]
set_option maxRecDepth 100000 in
theorem anyStI_ok : FnSpec Tryz.prog 200 _ anyStI := by
 refine FnSpec.of SY0_ok mixed (U := 0) (I := anyStA) Tryz.func200 rfl (by kernel_rfl) rfl rfl (by decide +kernel) ?_
 rintro ⟨⟨n, el⟩, ⟨⟨⟩, c⟩, ⟨⟩⟩ hpre
 have hn : n <= maxLen := hpre
 unfold FnSat
 conv => arg 2; reduce
 unfold maxLen at hn
 have hle := firstN_le (fun k => notQ (el k).1) n
 simp [anyStI, strS, and_assoc]
 refine ⟨⟨0, rfl, by omega⟩, fun k hk => ⟨fun h1 => ?_, fun h1 => ?_⟩⟩
 ·refine And.intro h1 ?_
  refine ⟨fun h2 => ?_, fun h2 => ?_⟩
  ·rw [idxN, firstN_at hk (by simpa using h2), if_pos h1]; try simp
  ·have := firstN_ge hk (by simpa using h2) h1
   refine ⟨by omega, by omega, k + 1, by omega, by omega, by omega⟩
 ·rw [idxN, if_neg (by omega)]
def anyStC : Spec [.slice 1 [.int .i64], .fn 187 [] []] := ⟨fun x => x.1.1 <= maxLen, fun ((n, el), ((_, c), _)) => .sb (anyN (fun k => notQ (el k).1) n)⟩
noncomputable def anyStS : Sums := ⟨(200, mkSum _ anyStI) :: SY0.one, SY0.two, SY0.lo, SY0.eqs, SY0.its, SY0.imm⟩
theorem anyStS_ok : SumsOK Tryz.prog anyStS := (SY0_ok.cons Tryz.func200 (by kernel_rfl) (by kernel_rfl) anyStI_ok)
set_option maxRecDepth 100000 in
theorem anyStC_ok : FnSpec Tryz.prog 188 _ anyStC := by
 refine FnSpec.of anyStS_ok mixed (U := 0) (I := fun _ => []) Tryz.func188 rfl (by kernel_rfl) rfl rfl (by decide +kernel) ?_
 rintro ⟨⟨n, el⟩, ⟨⟨⟩, c⟩, ⟨⟩⟩ hpre
 unfold FnSat
 conv => arg 2; reduce
 have hpre : anyStC.pre ((n, el), (((), c), ())) := hpre
 simp [anyStC, anyStI, idxN_nonneg] at hpre ⊢
 exact hpre
noncomputable def SY1 : Sums := ⟨(188, mkSum _ anyStC) :: SY0.one, SY0.two, SY0.lo, SY0.eqs, SY0.its, SY0.imm⟩
theorem SY1_ok : SumsOK Tryz.prog SY1 := (SY0_ok.cons Tryz.func188 (by kernel_rfl) (by kernel_rfl) anyStC_ok)
def crS : Spec [crvSh] := ⟨fun ((x, y, _), _) => x.1 <= maxLen /\ y.1 <= maxLen, fun (c, _) => .si .i64 (crE (crvOf c))⟩
noncomputable def crI : DatL [crvSh] -> Anns := fun (c, _) => [
 (7, [], fun fr hp => ⟨Nat, fun g => ⟨frI [.k 5, .t 1, .k 35, .t 10] fr, hp⟩, Nat × Crv, fun g => (g, crvOf c), fun (g, c) => g + 1 <= c.nx /\ ∀ j, j < g -> c.x j < c.x (j + 1) /\ c.y j <= c.y (j + 1), fun g => g⟩)]
set_option maxRecDepth 100000 in
theorem cr_ok : FnSpec Tryz.prog 161 _ crS := by
 refine FnSpec.of SY1_ok mixed (U := 0) (I := crI) Tryz.func161 rfl (by kernel_rfl) rfl rfl (by decide +kernel) ?_
 rintro ⟨c, ⟨⟩⟩ hpre
 obtain ⟨c, rfl⟩ := crv_ex c
 have hpre : c.nx <= maxLen /\ c.ny <= maxLen := hpre
 obtain ⟨p1, p2⟩ := hpre
 unfold FnSat
 conv => arg 2; reduce
 simp [crS, anyStC, piecesS, pcsI, ElEq, getB, goneB, aliveB, and_assoc]
 have hnq : ∀ y, notQ y = false ↔ isQ y = true := fun y => by unfold notQ; simp
 have bad : (crB c = true -> False) -> c.nx <= 64 -> c.ny <= 64 -> 2 = crE c := fun h h1 h2 => by unfold crE; rw [if_neg (by omega), if_neg (fun hb => h hb)]
 have anyq : ∀ (f : Nat -> Int) (n : Nat), anyN (fun k => notQ (f k)) n = true -> ∃ k, k < n /\ isQ (f k) = false := fun f n h => by
  obtain ⟨k, hk, h1⟩ := anyN_iff.1 h
  exact ⟨k, hk, by unfold notQ at h1; simpa using h1⟩
 have allq : ∀ (f : Nat -> Int) (n : Nat), anyN (fun k => notQ (f k)) n = false -> ∀ k, k < n -> isQ (f k) = true := fun f n h k hk => (hnq _).1 (anyN_false.1 h k hk)
 refine ⟨fun h => by unfold crE; rw [if_pos (by omega)], fun h => ⟨fun _ _ => p1, fun _ _ _ => p2, fun h1 => bad (fun hb => ?_) (by omega) (by omega), fun a1 a2 a3 a4 => ⟨by omega, by omega, by omega, fun k hk => ⟨allq _ _ a3 k hk, allq _ _ a4 k (by omega)⟩, by omega, fun g hg hf => ⟨fun hlt => ⟨fun h1 => bad (fun hb => ?_) (by omega) (by omega), fun b1 b2 => ⟨by omega, fun j hj => ?_⟩⟩, fun hge => ?_⟩⟩⟩⟩
 ·have hb := crB_iff.1 hb
  rcases h1 with (h1 | h1) | h1
  ·omega
  ·obtain ⟨k, hk, h2⟩ := anyq _ _ h1
   rw [(hb.2.2.2.1 k hk).1] at h2; cases h2
  ·obtain ⟨k, hk, h2⟩ := anyq _ _ h1
   rw [(hb.2.2.2.1 k (by omega)).2] at h2; cases h2
 ·have := (crB_iff.1 hb).2.2.2.2 g (by omega)
  omega
 ·by_cases h' : j < g
  ·exact hf j h'
  ·obtain rfl : j = g := by omega
   exact ⟨b1, b2⟩
 ·exact (crE_iff.2 (crB_iff.2 ⟨by omega, by omega, by omega, fun k hk => ⟨allq _ _ a3 k hk, allq _ _ a4 k (by omega)⟩, fun k hk => hf k (by omega)⟩)).symm
noncomputable def SY2 : Sums := ⟨(161, mkSum _ crS) :: SY1.one, SY1.two, SY1.lo, SY1.eqs, SY1.its, SY1.imm⟩
theorem SY2_ok : SumsOK Tryz.prog SY2 := (SY1_ok.cons Tryz.func161 (by kernel_rfl) (by kernel_rfl) cr_ok)
@[irreducible] def vgL (c : Crv) (x : Int) (g : Nat) : Int := if g = 0 then c.y 0 else c.y (g - 1) + dnW (x - c.x (g - 1)) (c.y (g - 1 + 1) - c.y (g - 1)) (c.x (g - 1 + 1) - c.x (g - 1))
@[irreducible] def vgH (c : Crv) (x : Int) (g : Nat) : Int := if g = 0 then c.y 0 else c.y (g - 1) + upW (x - c.x (g - 1)) (c.y (g - 1 + 1) - c.y (g - 1)) (c.x (g - 1 + 1) - c.x (g - 1))
theorem vg_fin {c : Crv} (h : crB c = true) {x : Int} {g : Nat} (hg : g + 1 <= c.nx) (hf : ∀ j, j < g -> c.x j <= x) (hx : x < c.x (c.nx - 1)) (he : g = c.nx - 1 \/ x < c.x g) : vgL c x g = valL c x /\ vgH c x g = valH c x := by
 have hb := crB_iff.1 h
 cases g with
 | zero =>
   have : x < c.x 0 := by rcases he with he | he; omega; exact he
   have e1 : vgL c x 0 = c.y 0 := by unfold vgL; rw [if_pos rfl]
   have e2 : vgH c x 0 = c.y 0 := by unfold vgH; rw [if_pos rfl]
   have e3 : valL c x = c.y 0 := by unfold valL; rw [if_neg (by omega), if_pos this]
   have e4 : valH c x = c.y 0 := by unfold valH; rw [if_neg (by omega), if_pos this]
   rw [e1, e2, e3, e4]; exact ⟨rfl, rfl⟩
 | succ i =>
   have h0 := hf i (by omega)
   have h1 : x < c.x (i + 1) := by rcases he with he | he; rw [he]; exact hx; exact he
   have h2 := crv_x h (j := i) (i := 0) (by omega) (by omega)
   have hs := sgI_uniq h (x := x) (i := i) (by omega) h0 h1
   have h3 := hb.2.2.2.2 i (by omega)
   have hq1 := isQ_iff.1 (hb.2.2.2.1 i (by omega)).2
   have hq2 := isQ_iff.1 (hb.2.2.2.1 (i + 1) (by omega)).2
   have hp := piece_in (a := x - c.x i) (d := c.y (i + 1) - c.y i) (w := c.x (i + 1) - c.x i) (by omega) (by omega) (by omega) (by omega)
   have d1 := dnW_pos (x := x - c.x i) (n := c.y (i + 1) - c.y i) (d := c.x (i + 1) - c.x i) (by omega) (by omega) (by rw [absI_pos (by omega)]; omega)
   have d2 := dnW_pos (x := -(x - c.x i)) (n := c.y (i + 1) - c.y i) (d := c.x (i + 1) - c.x i) (by omega) (by omega) (by
    rcases Int.lt_or_le (-(x - c.x i)) 0 with h4 | h4
    ·rw [absI_neg h4, Int.neg_neg]; omega
    ·have e : x - c.x i = 0 := by omega
     rw [e]; simp [absI])
   unfold vgL vgH valL valH
   rw [if_neg (by omega), if_neg (by omega), if_neg (by omega), if_neg (by omega), if_neg (by omega), if_neg (by omega), hs, show i + 1 - 1 = i by omega]
   unfold upW pcL pcH
   rw [d1, d2]
   exact ⟨rfl, rfl⟩
def qvS : Spec [crvSh, .int .i64] := ⟨fun (c, (x : Int), _) => crB (crvOf c) = true /\ -1099511627776 <= x /\ x <= 1099511627776, fun (c, (x : Int), _) => .agg [.si .i64 (valL (crvOf c) x), .si .i64 (valH (crvOf c) x)]⟩
noncomputable def qvI : DatL [crvSh, .int .i64] -> Anns := fun (c, (x : Int), _) => [
 (6, [], fun fr hp => ⟨Nat, fun g => ⟨frI [.k 8, .t 2, .k 33, .t 27] fr, putC hp 3 [.si .i64 (vgL (crvOf c) x g), .si .i64 (vgH (crvOf c) x g)]⟩, Nat × Crv × Int, fun g => (g, crvOf c, x), fun (g, c, x) => g + 1 <= c.nx /\ ∀ j, j < g -> c.x j <= x, fun g => g⟩)]
set_option maxRecDepth 100000 in
theorem qv_ok : FnSpec Tryz.prog 199 _ qvS := by
 refine FnSpec.of SY2_ok mixed (U := 0) (I := qvI) Tryz.func199 rfl (by kernel_rfl) rfl rfl (by decide +kernel) ?_
 rintro ⟨c, (x : Int), ⟨⟩⟩ hpre
 obtain ⟨c, rfl⟩ := crv_ex c
 have hpre : crB c = true /\ -1099511627776 <= x /\ x <= 1099511627776 := by
  have : crB (crvOf (crvD c)) = true /\ -1099511627776 <= x /\ x <= 1099511627776 := hpre
  rwa [show crvOf (crvD c) = c from crvOf_mk c] at this
 obtain ⟨p1, p2, p3⟩ := hpre
 unfold FnSat
 conv => arg 2; reduce
 simp [qvS, piecesS, pcsI, ratioS, ElEq, getB, goneB, aliveB, and_assoc]
 have hb := crB_iff.1 p1
 have hq : ∀ k, k < c.nx -> (-1099511627776 <= c.x k /\ c.x k <= 1099511627776) /\ (-1099511627776 <= c.y k /\ c.y k <= 1099511627776) := fun k hk => ⟨isQ_iff.1 (hb.2.2.2.1 k hk).1, isQ_iff.1 (hb.2.2.2.1 k hk).2⟩
 refine ⟨by omega, by omega, by omega, by omega, fun h => ⟨by omega, by omega, by omega, by omega, by unfold valL; rw [if_pos h], by unfold valH; rw [if_pos h]⟩, fun h => ⟨by omega, by omega, by omega, by omega, hb.2.2.2.1, by unfold vgL; simp, by unfold vgH; simp, by omega, fun g hg hf => ⟨fun hlt => ⟨fun h1 => vg_fin p1 hg hf h (.inr h1), fun h1 => ?_⟩, fun hge => vg_fin p1 hg hf h (.inl (by omega))⟩⟩⟩
 have q1 := hq g (by omega)
 have q2 := hq (g + 1) (by omega)
 have q3 := hb.2.2.2.2 g (by omega)
 have hd : 1 <= absI (c.x (g + 1) - c.x g) := by rw [absI_pos (by omega)]; omega
 have q4 := dnW_b (x := x - c.x g) (n := c.y (g + 1) - c.y g) hd
 have q5 := dnW_b (x := -(x - c.x g)) (n := c.y (g + 1) - c.y g) hd
 have q6 : upW (x - c.x g) (c.y (g + 1) - c.y g) (c.x (g + 1) - c.x g) = -(dnW (-(x - c.x g)) (c.y (g + 1) - c.y g) (c.x (g + 1) - c.x g)) := by unfold upW; rfl
 refine ⟨by omega, by omega, by omega, by omega, by omega, by omega, by omega, by omega, by omega, by omega, by omega, by omega, ?_, ?_, by omega, fun j hj => ?_⟩
 ·unfold vgL; rw [if_neg (by omega), show g + 1 - 1 = g by omega]
 ·unfold vgH; rw [if_neg (by omega), show g + 1 - 1 = g by omega]
 ·by_cases h' : j < g
  ·exact hf j h'
  ·obtain rfl : j = g := by omega
   exact h1
noncomputable def SY3 : Sums := ⟨(199, mkSum _ qvS) :: SY2.one, SY2.two, SY2.lo, SY2.eqs, SY2.its, SY2.imm⟩
theorem SY3_ok : SumsOK Tryz.prog SY3 := (SY2_ok.cons Tryz.func199 (by kernel_rfl) (by kernel_rfl) qv_ok)
@[irreducible] def atE (c : Crv) (x : Int) : Int := if crE c = 0 then (if isQ x = true then 0 else 2) else crE c
@[irreducible] def atL (c : Crv) (x : Int) : Int := if atE c x = 0 then valL c x else 0
@[irreducible] def atH (c : Crv) (x : Int) : Int := if atE c x = 0 then valH c x else 0
theorem atE_iff {c : Crv} {x : Int} : atE c x = 0 ↔ crE c = 0 /\ isQ x = true := by
 unfold atE
 by_cases h : crE c = 0
 ·rw [if_pos h]; cases isQ x <;> simp [h]
 ·rw [if_neg h]; simp [h]
def atS : Spec [crvSh, .int .i64] := ⟨fun ((x, y, _), _) => x.1 <= maxLen /\ y.1 <= maxLen, fun (c, (x : Int), _) => .tup [.agg [.si .i64 (atL (crvOf c) x), .si .i64 (atH (crvOf c) x)], .si .i64 (atE (crvOf c) x)]⟩
set_option maxRecDepth 100000 in
theorem at_ok : FnSpec Tryz.prog 184 _ atS := by
 refine FnSpec.of SY3_ok mixed (U := 0) (I := fun _ => []) Tryz.func184 rfl (by kernel_rfl) rfl rfl (by decide +kernel) ?_
 rintro ⟨c, (x : Int), ⟨⟩⟩ hpre
 obtain ⟨c, rfl⟩ := crv_ex c
 have hpre : c.nx <= maxLen /\ c.ny <= maxLen := hpre
 obtain ⟨p1, p2⟩ := hpre
 unfold FnSat
 conv => arg 2; reduce
 simp [atS, crS, isS, qvS, ElEq, getB, goneB, aliveB, and_assoc]
 refine ⟨p1, p2, fun h => ?_, fun h => ⟨fun h2 => ?_, fun h2 => ⟨crE_iff.1 h, (isQ_iff.1 h2).1, (isQ_iff.1 h2).2, ?_⟩⟩⟩
 ·have e : atE c x = crE c := by unfold atE; rw [if_neg h]
  unfold atL atH; rw [e, if_neg h, if_neg h]; simp
 ·have e : atE c x = 2 := by unfold atE; rw [if_pos h, h2]; rfl
  unfold atL atH; rw [e]; simp
 ·have e : atE c x = 0 := atE_iff.2 ⟨h, h2⟩
  unfold atL atH; rw [e]; simp
noncomputable def SY4 : Sums := ⟨(184, mkSum _ atS) :: SY3.one, SY3.two, SY3.lo, SY3.eqs, SY3.its, SY3.imm⟩
theorem SY4_ok : SumsOK Tryz.prog SY4 := (SY3_ok.cons Tryz.func184 (by kernel_rfl) (by kernel_rfl) at_ok)
end Abs
end Go.Proofs.YtlabbaglbcmofaaGreat

namespace Go.Proofs.YtlabbaglbcmofaaGreat
namespace Abs
open Go Go.RowKit
noncomputable section
theorem atL_val {c : Crv} {x : Int} (h : crB c = true) (h1 : -1099511627776 <= x) (h2 : x <= 1099511627776) : atL c x = valL c x := by
 have e : atE c x = 0 := atE_iff.2 ⟨crE_iff.2 h, isQ_iff.2 ⟨h1, h2⟩⟩
 unfold atL; rw [if_pos e]
def divS : Spec [.int .i64, .int .i64] := ⟨fun ((n : Int), (d : Int), _) => -4611686018427387904 <= n /\ n <= 4611686018427387904 /\ 1 <= d, fun ((n : Int), (d : Int), _) => .si .i64 (dvI n d)⟩
set_option maxRecDepth 100000 in
theorem div_ok : FnSpec Tryz.prog 151 _ divS := by
 refine FnSpec.of SY4_ok mixed (U := 0) (I := fun _ => []) Tryz.func151 rfl (by kernel_rfl) rfl rfl (by decide +kernel) ?_
 rintro ⟨(n : Int), (d : Int), ⟨⟩⟩ ⟨(h1 : -4611686018427387904 <= n), (h2 : n <= 4611686018427387904), (h3 : 1 <= d)⟩
 unfold FnSat
 conv => arg 2; reduce
 simp [divS, and_assoc]
 exact dvI_by h1 h2 h3
def clipS : Spec [.int .i64, .int .i64, .int .i64] := ⟨fun _ => True, fun ((x : Int), (lo : Int), (hi : Int), _) => .si .i64 (clipV x lo hi)⟩
set_option maxRecDepth 100000 in
theorem clip_ok : FnSpec Tryz.prog 149 _ clipS := by
 refine FnSpec.of SY4_ok mixed (U := 0) (I := fun _ => []) Tryz.func149 rfl (by kernel_rfl) rfl rfl (by decide +kernel) ?_
 rintro ⟨(x : Int), (lo : Int), (hi : Int), ⟨⟩⟩ -
 unfold FnSat
 conv => arg 2; reduce
 simp [clipS, clipV]
def betS : Spec [.int .i64, .int .i64, .int .i64] := ⟨fun _ => True, fun ((x : Int), (lo : Int), (hi : Int), _) => .sb (isIn lo x hi)⟩
set_option maxRecDepth 100000 in
theorem bet_ok : FnSpec Tryz.prog 79 _ betS := by
 refine FnSpec.of SY4_ok mixed (U := 0) (I := fun _ => []) Tryz.func79 rfl (by kernel_rfl) rfl rfl (by decide +kernel) ?_
 rintro ⟨(x : Int), (lo : Int), (hi : Int), ⟨⟩⟩ -
 unfold FnSat
 conv => arg 2; reduce
 simp [betS, isIn]
def cvalS : Spec [crvSh, .int .i64] := ⟨fun ((x, y, _), _) => x.1 <= maxLen /\ y.1 <= maxLen, fun (c, (x : Int), _) => .si .i64 (atL (crvOf c) x)⟩
set_option maxRecDepth 100000 in
theorem cval_ok : FnSpec Tryz.prog 148 _ cvalS := by
 refine FnSpec.of SY4_ok mixed (U := 0) (I := fun _ => []) Tryz.func148 rfl (by kernel_rfl) rfl rfl (by decide +kernel) ?_
 rintro ⟨c, (x : Int), ⟨⟩⟩ hpre
 obtain ⟨c, rfl⟩ := crv_ex c
 have hpre : c.nx <= maxLen /\ c.ny <= maxLen := hpre
 unfold FnSat
 conv => arg 2; reduce
 simp [cvalS, atS, ElEq, and_assoc]
 exact hpre
noncomputable def SCa : Sums := ⟨(148, mkSum _ cvalS) :: (79, mkSum _ betS) :: (149, mkSum _ clipS) :: (151, mkSum _ divS) :: SY4.one, SY4.two, SY4.lo, SY4.eqs, SY4.its, SY4.imm⟩
theorem SCa_ok : SumsOK Tryz.prog SCa := ((((SY4_ok.cons Tryz.func151 (by kernel_rfl) (by kernel_rfl) div_ok).cons Tryz.func149 (by kernel_rfl) (by kernel_rfl) clip_ok).cons Tryz.func79 (by kernel_rfl) (by kernel_rfl) bet_ok).cons Tryz.func148 (by kernel_rfl) (by kernel_rfl) cval_ok)
def scaleS : Spec [crvSh, .int .i64, .int .i64] := ⟨fun ((x, y, _), _) => x.1 <= maxLen /\ y.1 <= maxLen, fun (c, (last : Int), (most : Int), _) => .sb (scB (crvOf c) last most)⟩
set_option maxRecDepth 100000 in
theorem scale_ok : FnSpec Tryz.prog 100 _ scaleS := by
 refine FnSpec.of SCa_ok mixed (U := 0) (I := fun _ => []) Tryz.func100 rfl (by kernel_rfl) rfl rfl (by decide +kernel) ?_
 rintro ⟨c, (last : Int), (most : Int), ⟨⟩⟩ hpre
 obtain ⟨c, rfl⟩ := crv_ex c
 have hpre : c.nx <= maxLen /\ c.ny <= maxLen := hpre
 obtain ⟨p1, p2⟩ := hpre
 unfold FnSat
 conv => arg 2; reduce
 simp [scaleS, and_assoc]
 refine ⟨p1, p2, fun h => ?_, fun h => ?_⟩
 ·have hb : crB c = false := by
   cases hb : crB c with
   | false => rfl
   | true => exact absurd (crE_iff.2 hb) h
  unfold scB; rw [hb]; simp
 ·have hb : crB c = true := crE_iff.1 h
  have h1 := crB_iff.1 hb
  have e : ((c.nx : Int) - 1).toNat = c.nx - 1 := by omega
  unfold maxLen at p1 p2
  refine ⟨by omega, by omega, by omega, fun _ => by omega, fun _ _ => by omega, fun _ _ _ => by omega, ?_⟩
  unfold scB
  rw [Bool.eq_iff_iff]
  simp [hb]
noncomputable def SCb : Sums := ⟨(100, mkSum _ scaleS) :: SCa.one, SCa.two, SCa.lo, SCa.eqs, SCa.its, SCa.imm⟩
theorem SCb_ok : SumsOK Tryz.prog SCb := (SCa_ok.cons Tryz.func100 (by kernel_rfl) (by kernel_rfl) scale_ok)
def wearS : Spec [.ptr celCells, .int .i64, .int .i64] := ⟨fun (c, (t : Int), (a : Int), _) => WearOK (celOf c) t a, fun (c, (t : Int), (a : Int), _) => .si .i64 (wearV (celOf c) t a)⟩
set_option maxRecDepth 100000 in
theorem wear_ok : FnSpec Tryz.prog 139 _ wearS := by
 refine FnSpec.of SCb_ok mixed (U := 0) (I := fun _ => []) Tryz.func139 rfl (by kernel_rfl) rfl rfl (by decide +kernel) ?_
 rintro ⟨c, (t : Int), (a : Int), ⟨⟩⟩ hpre
 obtain ⟨c, rfl⟩ := cel_ex c
 have hpre : WearOK c t a := by have : WearOK (celOf (celD c)) t a := hpre; rwa [celOf_D] at this
 unfold FnSat
 conv => arg 2; reduce
 simp [wearS, divS, and_assoc]
 have h1 := mul_in hpre.t0 hpre.t1 hpre.c0 hpre.c1
 have h2 := mul_in hpre.g0 hpre.g1 hpre.a0 hpre.a1
 have h3 := wearV_in hpre
 have e : dvI (t * c.cyc) 1073741824 + dvI (a * c.agel) 1073741824 = wearV c t a := by unfold wearV; rfl
 rw [e]
 omega
def roomS : Spec [.ptr celCells, .int .i64] := ⟨fun (c, (w : Int), _) => 0 <= (celOf c).cap /\ (celOf c).cap <= 4294967296 /\ -17179869184 <= w /\ w <= 17179869184, fun (c, (w : Int), _) => .si .i64 (roomV (celOf c) w)⟩
set_option maxRecDepth 100000 in
theorem room_ok : FnSpec Tryz.prog 138 _ roomS := by
 refine FnSpec.of SCb_ok mixed (U := 0) (I := fun _ => []) Tryz.func138 rfl (by kernel_rfl) rfl rfl (by decide +kernel) ?_
 rintro ⟨c, (w : Int), ⟨⟩⟩ hpre
 obtain ⟨c, rfl⟩ := cel_ex c
 have hpre : 0 <= c.cap /\ c.cap <= 4294967296 /\ -17179869184 <= w /\ w <= 17179869184 := by have : 0 <= (celOf (celD c)).cap /\ (celOf (celD c)).cap <= 4294967296 /\ -17179869184 <= w /\ w <= 17179869184 := hpre; rwa [celOf_D] at this
 unfold FnSat
 conv => arg 2; reduce
 simp [roomS, and_assoc]
 unfold roomV
 omega
def pcS : Spec [.int .i64, .int .i64] := ⟨fun ((x : Int), (o : Int), _) => -17592186044416 <= x /\ x <= 17592186044416 /\ 1 <= o, fun ((x : Int), (o : Int), _) => .si .i64 (pcV x o)⟩
set_option maxRecDepth 100000 in
theorem pc_ok : FnSpec Tryz.prog 92 _ pcS := by
 refine FnSpec.of SCb_ok mixed (U := 0) (I := fun _ => []) Tryz.func92 rfl (by kernel_rfl) rfl rfl (by decide +kernel) ?_
 rintro ⟨(x : Int), (o : Int), ⟨⟩⟩ ⟨(h1 : -17592186044416 <= x), (h2 : x <= 17592186044416), (h3 : 1 <= o)⟩
 unfold FnSat
 conv => arg 2; reduce
 simp [pcS, divS, and_assoc]
 unfold pcV
 omega
def openS : Spec [.ptr celCells, .int .i64] := ⟨fun (c, (f : Int), _) => celB (celOf c) = true /\ -1099511627776 <= f /\ f <= 1099511627776, fun (c, (f : Int), _) => .si .i64 (openV (celOf c) f)⟩
set_option maxRecDepth 100000 in
theorem copen_ok : FnSpec Tryz.prog 186 _ openS := by
 refine FnSpec.of SCb_ok mixed (U := 0) (I := fun _ => []) Tryz.func186 rfl (by kernel_rfl) rfl rfl (by decide +kernel) ?_
 rintro ⟨c, (f : Int), ⟨⟩⟩ hpre
 obtain ⟨c, rfl⟩ := cel_ex c
 have hpre : celB c = true /\ -1099511627776 <= f /\ f <= 1099511627776 := by have : celB (celOf (celD c)) = true /\ -1099511627776 <= f /\ f <= 1099511627776 := hpre; rwa [celOf_D] at this
 unfold FnSat
 conv => arg 2; reduce
 simp [openS, cvalS, and_assoc]
 obtain ⟨hc, f1, f2⟩ := hpre
 have hc := celB_iff.1 hc
 obtain ⟨m1, m2, -⟩ := hc.max
 have hv := sc_val hc.ocv f
 have e : atL c.ocv f = valL c.ocv f := atL_val (scB_iff.1 hc.ocv).1 (by omega) (by omega)
 rw [e]
 have := hc.sh0
 have := hc.sh1
 unfold openV
 exact ⟨m1, m2, by omega, by omega, rfl⟩
def resS : Spec [.ptr celCells, .int .i64, .int .i64] := ⟨fun (c, (t : Int), (w : Int), _) => celB (celOf c) = true /\ 0 <= t /\ t <= 400000 /\ 0 <= w /\ w <= 17179869184, fun (c, (t : Int), (w : Int), _) => .si .i64 (resV (celOf c) t w)⟩
set_option maxRecDepth 100000 in
theorem res_ok : FnSpec Tryz.prog 144 _ resS := by
 refine FnSpec.of SCb_ok mixed (U := 0) (I := fun _ => []) Tryz.func144 rfl (by kernel_rfl) rfl rfl (by decide +kernel) ?_
 rintro ⟨c, (t : Int), (w : Int), ⟨⟩⟩ hpre
 obtain ⟨c, rfl⟩ := cel_ex c
 have hpre : celB c = true /\ 0 <= t /\ t <= 400000 /\ 0 <= w /\ w <= 17179869184 := by have : celB (celOf (celD c)) = true /\ 0 <= t /\ t <= 400000 /\ 0 <= w /\ w <= 17179869184 := hpre; rwa [celOf_D] at this
 unfold FnSat
 conv => arg 2; reduce
 simp [resS, cvalS, divS, clipS, and_assoc]
 obtain ⟨hc, t0, t1, w0, w1⟩ := hpre
 have hc := celB_iff.1 hc
 obtain ⟨-, -, m1, m2, -⟩ := hc.max
 have hv := sc_val hc.cold (400000 - t)
 have e : atL c.cold (400000 - t) = valL c.cold (400000 - t) := atL_val (scB_iff.1 hc.cold).1 (by omega) (by omega)
 rw [e]
 have h1 := mul_in w0 w1 hc.gr0 hc.gr1
 have h2 := dvI_le (a := w * c.grow) (d := 65536) (m := 274877906944) (by decide) (by omega)
 have h3 := dvI_nonneg (a := w * c.grow) (d := 65536) (by decide) h1.1
 have := hc.ex0
 have := hc.ex1
 unfold resV
 exact ⟨by omega, by omega, m1, m2, by omega, by omega, by omega, by omega, by omega, by omega, by omega, by omega, rfl⟩
def slackS : Spec [.ptr celCells, .int .i64, .int .i64] := ⟨fun (c, (o : Int), (p : Int), _) => 0 <= (celOf c).keep /\ (celOf c).keep <= 65536 /\ -8388608 <= o /\ o <= 8388608 /\ -1099511627776 <= p /\ p <= 1099511627776, fun (c, (o : Int), (p : Int), _) => .si .i64 (slackV (celOf c) o p)⟩
set_option maxRecDepth 100000 in
theorem slack_ok : FnSpec Tryz.prog 146 _ slackS := by
 refine FnSpec.of SCb_ok mixed (U := 0) (I := fun _ => []) Tryz.func146 rfl (by kernel_rfl) rfl rfl (by decide +kernel) ?_
 rintro ⟨c, (o : Int), (p : Int), ⟨⟩⟩ hpre
 obtain ⟨c, rfl⟩ := cel_ex c
 have hpre : 0 <= c.keep /\ c.keep <= 65536 /\ -8388608 <= o /\ o <= 8388608 /\ -1099511627776 <= p /\ p <= 1099511627776 := by have : 0 <= (celOf (celD c)).keep /\ (celOf (celD c)).keep <= 65536 /\ -8388608 <= o /\ o <= 8388608 /\ -1099511627776 <= p /\ p <= 1099511627776 := hpre; rwa [celOf_D] at this
 unfold FnSat
 conv => arg 2; reduce
 simp [slackS, divS, clipS, and_assoc]
 obtain ⟨k0, k1, o0, o1, q0, q1⟩ := hpre
 have h1 := mul_ab (a := o) (b := 1000 * c.keep) (A := 8388608) (B := 65536000) o0 o1 (by omega) (by omega)
 have h2 := mul_ab (a := p) (b := 65536 - c.keep) (A := 1099511627776) (B := 65536) q0 q1 (by omega) (by omega)
 rw [Int.mul_comm o] at h1
 rw [Int.mul_comm p] at h2
 unfold slackV
 exact ⟨by omega, by omega, by omega, by omega, by omega, by omega, by omega, by omega, by omega, by omega, by omega, by omega, rfl⟩
attribute [local irreducible] FnSat
def ccheckS : Spec [celSh] := ⟨fun (c, _) => CelMax (celOf c), fun (c, _) => .si .i64 (errA (celB (celOf c)))⟩
set_option maxRecDepth 100000 in
set_option maxHeartbeats 2000000 in
theorem ccheck_ok : FnSpec Tryz.prog 43 _ ccheckS := by
 refine FnSpec.of SCb_ok mixed (U := 12) (I := fun _ => []) Tryz.func43 rfl (by kernel_rfl) rfl rfl (by decide +kernel) ?_
 rintro ⟨c, ⟨⟩⟩ hpre
 obtain ⟨c, rfl⟩ := cel_ex c
 have hpre : CelMax c := by have : CelMax (celOf (celD c)) := hpre; rwa [celOf_D] at this
 obtain ⟨p1, p2, p3, p4, p5, p6⟩ := hpre
 unfold FnSat
 conv => arg 2; reduce
 simp [ccheckS, betS, scaleS, and_assoc]
 have no : (CelOK c -> False) -> 2 = errA (celB c) := fun h => by rw [celB_no h]; simp [errA]
 refine ⟨fun h => no fun k => by have := k.cap0; have := k.cap1; omega, fun q0 q1 => ⟨fun h => no fun k => by have := k.sh0; have := k.sh1; omega, fun q2 q3 => ⟨fun h => no fun k => by have := k.ex0; have := k.ex1; omega, fun q4 q5 => ⟨fun h => no fun k => by have := k.pr0; have := k.pr1; omega, fun q6 q7 => ⟨fun h => no fun k => by have := k.lk0; have := k.lk1; omega, fun q8 q9 => ⟨fun h => no fun k => by have := k.kp0; have := k.kp1; omega, fun q10 q11 => ⟨fun h => no fun k => by have := k.co0; have := k.co1; omega, fun q12 q13 => ⟨fun h => no fun k => by have := k.hc0; have := k.hc1; omega, fun q14 q15 => ⟨fun h => no fun k => by have := k.cy0; have := k.cy1; omega, fun q16 q17 => ⟨fun h => no fun k => by have := k.al0; have := k.al1; omega, fun q18 q19 => ⟨fun h => no fun k => by have := k.gr0; have := k.gr1; omega, fun q20 q21 => ⟨p1, p2, fun _ => ⟨p3, p4⟩, fun _ _ => ⟨p5, p6⟩, fun h => no fun k => ?_, fun h1 h2 h3 => ?_⟩⟩⟩⟩⟩⟩⟩⟩⟩⟩⟩⟩
 ·rw [k.ocv, k.cold, k.stress] at h; simp at h
 ·rw [celB_iff.2 ⟨q0, q1, q2, q3, q4, q5, q6, q7, q8, q9, q10, q11, q12, q13, q14, q15, q16, q17, q18, q19, q20, q21, h1, h2, h3⟩]; simp [errA]
noncomputable def SCd : Sums := ⟨(43, mkSum _ ccheckS) :: (146, mkSum _ slackS) :: (144, mkSum _ resS) :: (186, mkSum _ openS) :: (92, mkSum _ pcS) :: (138, mkSum _ roomS) :: (139, mkSum _ wearS) :: SCb.one, SCb.two, SCb.lo, SCb.eqs, SCb.its, SCb.imm⟩
theorem SCd_ok : SumsOK Tryz.prog SCd := (((((((SCb_ok.cons Tryz.func139 (by kernel_rfl) (by kernel_rfl) wear_ok).cons Tryz.func138 (by kernel_rfl) (by kernel_rfl) room_ok).cons Tryz.func92 (by kernel_rfl) (by kernel_rfl) pc_ok).cons Tryz.func186 (by kernel_rfl) (by kernel_rfl) copen_ok).cons Tryz.func144 (by kernel_rfl) (by kernel_rfl) res_ok).cons Tryz.func146 (by kernel_rfl) (by kernel_rfl) slack_ok).cons Tryz.func43 (by kernel_rfl) (by kernel_rfl) ccheck_ok)
end
end Abs
end Go.Proofs.YtlabbaglbcmofaaGreat

namespace Go.Proofs.YtlabbaglbcmofaaGreat
namespace Abs
open Go Go.RowKit
noncomputable section
structure StOK (c : Cel) (s : Sta) : Prop where
 t0 : 0 <= s.tp
 t1 : s.tp <= 400000
 h0 : 0 <= s.th
 h1 : s.th <= 1099511627776
 a0 : 0 <= s.ag
 a1 : s.ag <= 1099511627776
 r0 : -8388608 <= s.rx
 r1 : s.rx <= 8388608
 q0 : 0 <= s.q
 q1 : s.q <= roomV c (wearV c s.th s.ag)
open Classical in
@[irreducible] def stB (c : Cel) (s : Sta) : Bool := decide (StOK c s)
theorem stB_iff {c : Cel} {s : Sta} : stB c s = true ↔ StOK c s := by unfold stB; simp
theorem stB_no {c : Cel} {s : Sta} (h : StOK c s -> False) : stB c s = false := by
 cases hb : stB c s with
 | false => rfl
 | true => exact (h (stB_iff.1 hb)).elim
@[irreducible] def csE (c : Cel) (s : Sta) : Int := match celB c with | true => (match stB c s with | true => 0 | false => 3) | false => 2
theorem csE_2 {c : Cel} {s : Sta} (h : celB c = false) : csE c s = 2 := by unfold csE; rw [h]
theorem csE_3 {c : Cel} {s : Sta} (h : celB c = true) (h2 : StOK c s -> False) : csE c s = 3 := by unfold csE; rw [h, stB_no h2]
theorem csE_0 {c : Cel} {s : Sta} (h : celB c = true) (h2 : StOK c s) : csE c s = 0 := by unfold csE; rw [h, stB_iff.2 h2]
theorem csE_iff {c : Cel} {s : Sta} : csE c s = 0 ↔ celB c = true /\ StOK c s := by
 unfold csE
 cases h : celB c with
 | false => simp
 | true => cases h2 : stB c s with
   | false => simp; intro h3; rw [stB_iff.2 h3] at h2; cases h2
   | true => simp; exact stB_iff.1 h2
attribute [local irreducible] FnSat
def cstS : Spec [celSh, staSh] := ⟨fun (c, _) => CelMax (celOf c), fun (c, s, _) => .si .i64 (csE (celOf c) (staOf s))⟩
set_option maxRecDepth 100000 in
set_option maxHeartbeats 2000000 in
theorem cst_ok : FnSpec Tryz.prog 68 _ cstS := by
 refine FnSpec.of SCd_ok mixed (U := 0) (I := fun _ => []) Tryz.func68 rfl (by kernel_rfl) rfl rfl (by decide +kernel) ?_
 rintro ⟨c, s, ⟨⟩⟩ hpre
 obtain ⟨c, rfl⟩ := cel_ex c
 obtain ⟨s, rfl⟩ := sta_ex s
 have hpre : CelMax c := by have : CelMax (celOf (celD c)) := hpre; rwa [celOf_D] at this
 unfold FnSat
 conv => arg 2; reduce
 simp [cstS, betS, ccheckS, wearS, roomS, and_assoc]
 refine ⟨hpre, fun h => by rw [csE_2 h, h]; simp [errA], fun h => ⟨fun h' => (csE_3 h fun k => ?_).symm, fun t0 t1 h0 h1 a0 a1 r0 r1 => ?_⟩⟩
 ·have := k.t0
  have := k.t1
  have := k.h0
  have := k.h1
  have := k.a0
  have := k.a1
  have := k.r0
  have := k.r1
  omega
 ·have hc := celB_iff.1 h
  have hw : WearOK c s.th s.ag := ⟨hc.cy0, hc.cy1, hc.al0, hc.al1, h0, by omega, a0, by omega⟩
  have hw2 := wearV_in hw
  refine ⟨hw, by have := hc.cap0; omega, hc.cap1, by omega, by omega, fun h' => (csE_3 h fun k => ?_).symm, fun q0 q1 => (csE_0 h ⟨t0, t1, h0, h1, a0, a1, r0, r1, q0, q1⟩).symm⟩
  have := k.q0
  have := k.q1
  omega
noncomputable def SCe : Sums := ⟨(68, mkSum _ cstS) :: SCd.one, SCd.two, SCd.lo, SCd.eqs, SCd.its, SCd.imm⟩
theorem SCe_ok : SumsOK Tryz.prog SCe := (SCd_ok.cons Tryz.func68 (by kernel_rfl) (by kernel_rfl) cst_ok)
end
end Abs
end Go.Proofs.YtlabbaglbcmofaaGreat

namespace Go.Proofs.YtlabbaglbcmofaaGreat
namespace Abs
open Go Go.RowKit
noncomputable section
@[irreducible] def wV (c : Cel) (s : Sta) : Int := wearV c s.th s.ag
@[irreducible] def kV (c : Cel) (s : Sta) : Int := roomV c (wV c s)
@[irreducible] def rV (c : Cel) (s : Sta) : Int := resV c s.tp (wV c s)
@[irreducible] def fillV (c : Cel) (s : Sta) : Int := pcV s.q (kV c s)
@[irreducible] def opnV (c : Cel) (s : Sta) : Int := openV c (fillV c s)
@[irreducible] def voltV (c : Cel) (s : Sta) (i : Int) : Int := opnV c s - s.rx - dvI (i * rV c s) 1000
@[irreducible] def heatV (c : Cel) (s : Sta) (i : Int) : Int := dvI (i * i * rV c s) 1000000000 + (if 0 < c.pair then dvI (s.rx * s.rx) (1000 * c.pair) else 0)
@[reducible] def vwCells : List Sh := [.ptr celCells, .int .i64, .int .i64, .int .i64, .int .i64, .int .i64, .int .i64, .int .i64, .int .i64]
@[reducible] def vwSh : Sh := .agg vwCells
abbrev VwD := CelD × Int × Int × Int × Int × Int × Int × Int × Int × Unit
@[reducible] def vwD (c : Cel) (s : Sta) : VwD := (celD c, s.q, s.rx, s.tp, s.th, s.ag, wV c s, kV c s, rV c s, ())
@[irreducible] def vwC (v : VwD) : Cel := celOf v.1
@[irreducible] def vwS (v : VwD) : Sta := ⟨v.2.1, v.2.2.1, v.2.2.2.1, v.2.2.2.2.1, v.2.2.2.2.2.1⟩
structure VwOK (v : VwD) : Prop where
 cel : celB (vwC v) = true
 sta : StOK (vwC v) (vwS v)
 wear : v.2.2.2.2.2.2.1 = wV (vwC v) (vwS v)
 room : v.2.2.2.2.2.2.2.1 = kV (vwC v) (vwS v)
 res : v.2.2.2.2.2.2.2.2.1 = rV (vwC v) (vwS v)
theorem vwC_D (c : Cel) (s : Sta) : vwC (vwD c s) = c := by unfold vwC; exact celOf_D c
theorem vwS_D (c : Cel) (s : Sta) : vwS (vwD c s) = s := by
 unfold vwS
 show Sta.mk s.q s.rx s.tp s.th s.ag = s
 unfold Sta.q Sta.rx Sta.tp Sta.th Sta.ag
 rfl
theorem vw_ok {c : Cel} {s : Sta} (h : celB c = true) (hs : StOK c s) : VwOK (vwD c s) := by
 refine ⟨?_, ?_, ?_, ?_, ?_⟩ <;> rw [vwC_D]
 ·exact h
 ·rw [vwS_D]; exact hs
 ·rw [vwS_D]
 ·rw [vwS_D]
 ·rw [vwS_D]
theorem vw_ex {v : VwD} (h : VwOK v) : ∃ (c : Cel) (s : Sta), v = vwD c s /\ celB c = true /\ StOK c s := by
 refine ⟨vwC v, vwS v, ?_, h.cel, h.sta⟩
 have h1 := h.wear
 have h2 := h.room
 have h3 := h.res
 obtain ⟨x, a, b, d, e, f, w, k, r, ⟨⟩⟩ := v
 simp only at h1 h2 h3
 obtain ⟨c, rfl⟩ := cel_ex x
 unfold vwD
 rw [<- h1, <- h2, <- h3]
 have e1 : vwC (celD c, a, b, d, e, f, w, k, r, ()) = c := by unfold vwC; exact celOf_D c
 rw [e1]
 unfold vwS
 simp
theorem wV_in {c : Cel} {s : Sta} (h : celB c = true) (hs : StOK c s) : 0 <= wV c s /\ wV c s <= 4294967296 := by
 have hc := celB_iff.1 h
 have := hs.h1
 have := hs.a1
 have hw : WearOK c s.th s.ag := ⟨hc.cy0, hc.cy1, hc.al0, hc.al1, hs.h0, by omega, hs.a0, by omega⟩
 have := wearV_in hw
 unfold wV
 exact this
theorem kV_in {c : Cel} {s : Sta} (h : celB c = true) (hs : StOK c s) : 1 <= kV c s /\ kV c s <= 4294967296 := by
 have hc := celB_iff.1 h
 have h1 := wV_in h hs
 have h2 := @roomV_in c (wV c s)
 have := h2.2 h1.1 hc.cap0
 have := hc.cap1
 unfold kV
 omega
theorem rV_in {c : Cel} {s : Sta} : 0 <= rV c s /\ rV c s <= 1048576 := by unfold rV resV; exact clipV_in (by decide)
theorem q_in {c : Cel} {s : Sta} (hs : StOK c s) : 0 <= s.q /\ s.q <= kV c s := by
 have h1 := hs.q0
 have h2 := hs.q1
 unfold kV wV
 exact ⟨h1, h2⟩
theorem fillV_in {c : Cel} {s : Sta} (h : celB c = true) (hs : StOK c s) : 0 <= fillV c s /\ fillV c s <= 65536 := by
 have h1 := kV_in h hs
 have h2 := q_in hs
 have := dvI_nonneg (a := s.q * 65536) (d := kV c s) h1.1 (by omega)
 unfold fillV pcV
 omega
theorem opnV_in {c : Cel} {s : Sta} (h : celB c = true) : -8388608 <= opnV c s /\ opnV c s <= 16777216 := by
 have hc := celB_iff.1 h
 have := sc_val hc.ocv (fillV c s)
 have := hc.sh0
 have := hc.sh1
 unfold opnV openV
 omega
theorem encL_cel (c : Cel) : encL celCells (celD c) = [.si .i64 c.cap, .slc (.sym c.ocv.nx) 1 (fun k => [.si .i64 (c.ocv.x k)]), .slc (.sym c.ocv.ny) 1 (fun k => [.si .i64 (c.ocv.y k)]), .si .i64 c.shift,
  .slc (.sym c.cold.nx) 1 (fun k => [.si .i64 (c.cold.x k)]), .slc (.sym c.cold.ny) 1 (fun k => [.si .i64 (c.cold.y k)]), .si .i64 c.extra, .si .i64 c.pair, .si .i64 c.keep, .si .i64 c.leak, .si .i64 c.hcap, .si .i64 c.cool,
  .slc (.sym c.stress.nx) 1 (fun k => [.si .i64 (c.stress.x k)]), .slc (.sym c.stress.ny) 1 (fun k => [.si .i64 (c.stress.y k)]), .si .i64 c.cyc, .si .i64 c.agel, .si .i64 c.grow] := rfl
theorem sq_in {a A : Int} (h0 : -A <= a) (h1 : a <= A) : 0 <= a * a /\ a * a <= A * A := by
 rcases Int.lt_or_le a 0 with h | h
 ·have := mul_in (a := -a) (b := -a) (A := A) (B := A) (by omega) (by omega) (by omega) (by omega)
  rwa [Int.neg_mul_neg] at this
 ·exact mul_in h h1 h h1
attribute [local irreducible] FnSat
def lookF : SpecF [.cells 26 celCells] [.own 0 0, staSh] :=
 ⟨fun (c, _) (_, s, _) => celB (celOf c) = true /\ StOK (celOf c) (staOf s), fun (c, _) (_, s, _) => .agg [.own 0 0, .si .i64 (staOf s).q, .si .i64 (staOf s).rx, .si .i64 (staOf s).tp, .si .i64 (staOf s).th, .si .i64 (staOf s).ag, .si .i64 (wV (celOf c) (staOf s)), .si .i64 (kV (celOf c) (staOf s)), .si .i64 (rV (celOf c) (staOf s))],
  fun (c, _) _ => encH [.cells 26 celCells] (c, ())⟩
set_option maxRecDepth 100000 in
set_option maxHeartbeats 1000000 in
theorem look_ok : FnSpecF Tryz.prog 150 _ _ lookF := by
 refine FnSpecF.of SCe_ok mixed (U := 0) (I := fun _ _ => []) Tryz.func150 rfl (by kernel_rfl) rfl (by decide +kernel) ?_
 rintro ⟨c, ⟨⟩⟩ ⟨⟨⟩, s, ⟨⟩⟩ hpre
 obtain ⟨c, rfl⟩ := cel_ex c
 obtain ⟨s, rfl⟩ := sta_ex s
 have hp : celB c = true /\ StOK c s := by
  have h : celB (celOf (celD c)) = true /\ StOK (celOf (celD c)) (staOf (staD s)) := hpre
  rwa [celOf_D, staOf_D] at h
 unfold FnSat
 conv => arg 2; reduce
 simp [lookF, wearS, roomS, resS, aliveB, getB, encH, encB, encL_cel, ElEq, and_assoc]
 obtain ⟨h1, h2⟩ := hp
 have hc := celB_iff.1 h1
 have w := wV_in h1 h2
 unfold wV at w
 have := hc.cap0
 have := h2.h1
 have := h2.a1
 exact ⟨⟨hc.cy0, hc.cy1, hc.al0, hc.al1, h2.h0, by omega, h2.a0, by omega⟩, by omega, hc.cap1, by omega, by omega, h1, h2.t0, h2.t1, by omega, by omega, by unfold wV; rfl, by unfold kV wV; rfl, by unfold rV wV; rfl⟩
noncomputable def SCf : Sums := ⟨SCe.one, (150, mkSumF _ _ lookF) :: SCe.two, SCe.lo, SCe.eqs, SCe.its, SCe.imm⟩
theorem SCf_ok : SumsOK Tryz.prog SCf := SCe_ok.addTwo Tryz.func150 (by kernel_rfl) (by kernel_rfl) (mkSumF_ok look_ok)
def fillS' : Spec [vwSh] := ⟨fun (v, _) => VwOK v, fun (v, _) => .si .i64 (fillV (vwC v) (vwS v))⟩
set_option maxRecDepth 100000 in
theorem vfill_ok : FnSpec Tryz.prog 87 _ fillS' := by
 refine FnSpec.of SCe_ok mixed (U := 0) (I := fun _ => []) Tryz.func87 rfl (by kernel_rfl) rfl rfl (by decide +kernel) ?_
 rintro ⟨v, ⟨⟩⟩ hpre
 obtain ⟨c, s, rfl, h1, h2⟩ := vw_ex (show VwOK v from hpre)
 have e1 := vwC_D c s
 have e2 := vwS_D c s
 unfold FnSat
 conv => arg 2; reduce
 simp [fillS', pcS, e1, e2, and_assoc]
 have k := kV_in h1 h2
 have q := q_in h2
 exact ⟨by omega, by omega, k.1, by unfold fillV; rfl⟩
noncomputable def SCg : Sums := ⟨(87, mkSum _ fillS') :: SCf.one, SCf.two, SCf.lo, SCf.eqs, SCf.its, SCf.imm⟩
theorem SCg_ok : SumsOK Tryz.prog SCg := (SCf_ok.cons Tryz.func87 (by kernel_rfl) (by kernel_rfl) vfill_ok)
def vopenS : Spec [vwSh] := ⟨fun (v, _) => VwOK v, fun (v, _) => .si .i64 (opnV (vwC v) (vwS v))⟩
set_option maxRecDepth 100000 in
theorem vopen_ok : FnSpec Tryz.prog 160 _ vopenS := by
 refine FnSpec.of SCg_ok mixed (U := 0) (I := fun _ => []) Tryz.func160 rfl (by kernel_rfl) rfl rfl (by decide +kernel) ?_
 rintro ⟨v, ⟨⟩⟩ hpre
 obtain ⟨c, s, rfl, h1, h2⟩ := vw_ex (show VwOK v from hpre)
 have e1 := vwC_D c s
 have e2 := vwS_D c s
 unfold FnSat
 conv => arg 2; reduce
 simp [vopenS, fillS', openS, e1, e2, and_assoc]
 have f := fillV_in h1 h2
 exact ⟨vw_ok h1 h2, h1, by omega, by omega, by unfold opnV; rfl⟩
noncomputable def SCh : Sums := ⟨(160, mkSum _ vopenS) :: SCg.one, SCg.two, SCg.lo, SCg.eqs, SCg.its, SCg.imm⟩
theorem SCh_ok : SumsOK Tryz.prog SCh := (SCg_ok.cons Tryz.func160 (by kernel_rfl) (by kernel_rfl) vopen_ok)
def vvoltS : Spec [vwSh, .int .i64] := ⟨fun (v, (i : Int), _) => VwOK v /\ -1048576 <= i /\ i <= 1048576, fun (v, (i : Int), _) => .si .i64 (voltV (vwC v) (vwS v) i)⟩
set_option maxRecDepth 100000 in
theorem vvolt_ok : FnSpec Tryz.prog 97 _ vvoltS := by
 refine FnSpec.of SCh_ok mixed (U := 0) (I := fun _ => []) Tryz.func97 rfl (by kernel_rfl) rfl rfl (by decide +kernel) ?_
 rintro ⟨v, (i : Int), ⟨⟩⟩ ⟨hv, (i1 : -1048576 <= i), (i2 : i <= 1048576)⟩
 obtain ⟨c, s, rfl, h1, h2⟩ := vw_ex (show VwOK v from hv)
 have e1 := vwC_D c s
 have e2 := vwS_D c s
 unfold FnSat
 conv => arg 2; reduce
 simp [vvoltS, vopenS, divS, e1, e2, and_assoc]
 have o := opnV_in (s := s) h1
 have r := @rV_in c s
 have m := mul_ab (a := i) (b := rV c s) (A := 1048576) (B := 1048576) i1 i2 r.1 r.2
 have d1 := dvI_le (a := i * rV c s) (d := 1000) (m := 1099511628) (by decide) (by omega)
 have d2 := dvI_ge (a := i * rV c s) (d := 1000) (m := -1099511628) (by decide) (by omega)
 have := h2.r0
 have := h2.r1
 exact ⟨vw_ok h1 h2, by omega, by omega, by omega, by omega, by omega, by omega, by omega, by omega, by unfold voltV; rfl⟩
def vheatS : Spec [vwSh, .int .i64] := ⟨fun (v, (i : Int), _) => VwOK v /\ -1048576 <= i /\ i <= 1048576, fun (v, (i : Int), _) => .si .i64 (heatV (vwC v) (vwS v) i)⟩
set_option maxRecDepth 100000 in
theorem vheat_ok : FnSpec Tryz.prog 152 _ vheatS := by
 refine FnSpec.of SCh_ok mixed (U := 0) (I := fun _ => []) Tryz.func152 rfl (by kernel_rfl) rfl rfl (by decide +kernel) ?_
 rintro ⟨v, (i : Int), ⟨⟩⟩ ⟨hv, (i1 : -1048576 <= i), (i2 : i <= 1048576)⟩
 obtain ⟨c, s, rfl, h1, h2⟩ := vw_ex (show VwOK v from hv)
 have e1 := vwC_D c s
 have e2 := vwS_D c s
 unfold FnSat
 conv => arg 2; reduce
 simp [vheatS, divS, e1, e2, and_assoc]
 have hc := celB_iff.1 h1
 have r := @rV_in c s
 have m1 := sq_in i1 i2
 have m2 := mul_in m1.1 m1.2 r.1 r.2
 have := h2.r0
 have := h2.r1
 have m3 := sq_in (a := s.rx) (A := 8388608) (by omega) (by omega)
 have d1 := dvI_le (a := i * i * rV c s) (d := 1000000000) (m := 1152921505) (by decide) (by omega)
 have d2 := dvI_nonneg (a := i * i * rV c s) (d := 1000000000) (by decide) m2.1
 have := hc.pr1
 refine ⟨by omega, by omega, by omega, by omega, by omega, by omega, fun hp => ?_, fun hp => ?_⟩
 ·have d3 := dvI_le (a := s.rx * s.rx) (d := 1000 * c.pair) (m := 70368744177664) (by omega) (by omega)
  have d4 := dvI_nonneg (a := s.rx * s.rx) (d := 1000 * c.pair) (by omega) m3.1
  exact ⟨by omega, by omega, by omega, by omega, by omega, by omega, by omega, by omega, by omega, by unfold heatV; rw [if_pos hp]⟩
 ·unfold heatV
  rw [if_neg (by omega)]
  omega
noncomputable def SCi : Sums := ⟨(152, mkSum _ vheatS) :: (97, mkSum _ vvoltS) :: SCh.one, SCh.two, SCh.lo, SCh.eqs, SCh.its, SCh.imm⟩
theorem SCi_ok : SumsOK Tryz.prog SCi := ((SCh_ok.cons Tryz.func97 (by kernel_rfl) (by kernel_rfl) vvolt_ok).cons Tryz.func152 (by kernel_rfl) (by kernel_rfl) vheat_ok)
@[irreducible] def nxT (c : Cel) (s : Sta) (i a : Int) : Int := clipV (s.tp + dvI (1000 * heatV c s i) c.hcap + dvI ((a - s.tp) * c.cool) 65536) 0 400000
@[irreducible] def nxH (s : Sta) (i : Int) : Int := s.th + max i (-i)
@[irreducible] def nxA (c : Cel) (s : Sta) : Int := s.ag + valL c.stress s.tp
@[irreducible] def nxQ (c : Cel) (s : Sta) (i : Int) : Int := clipV (s.q - i - c.leak) 0 (roomV c (wearV c (nxH s i) (nxA c s)))
@[irreducible] def nxR (c : Cel) (s : Sta) (i : Int) : Int := slackV c s.rx (i * c.pair)
@[reducible] def inSh : Sh := .agg [.int .i64, .int .i64]
def vnextS : Spec [vwSh, inSh] := ⟨fun (v, ((i : Int), (a : Int), _), _) => VwOK v /\ -1048576 <= i /\ i <= 1048576 /\ 0 <= a /\ a <= 400000, fun (v, ((i : Int), (a : Int), _), _) =>
 .agg [.si .i64 (nxQ (vwC v) (vwS v) i), .si .i64 (nxR (vwC v) (vwS v) i), .si .i64 (nxT (vwC v) (vwS v) i a), .si .i64 (nxH (vwS v) i), .si .i64 (nxA (vwC v) (vwS v))]⟩
end
end Abs
end Go.Proofs.YtlabbaglbcmofaaGreat

namespace Go.Proofs.YtlabbaglbcmofaaGreat
namespace Abs
open Go Go.RowKit
noncomputable section
attribute [local irreducible] FnSat
theorem heatV_in {c : Cel} {s : Sta} {i : Int} (h1 : celB c = true) (h2 : StOK c s) (i1 : -1048576 <= i) (i2 : i <= 1048576) : 0 <= heatV c s i /\ heatV c s i <= 71530000000000 := by
 have hc := celB_iff.1 h1
 have r := @rV_in c s
 have m1 := sq_in i1 i2
 have m2 := mul_in m1.1 m1.2 r.1 r.2
 have := h2.r0
 have := h2.r1
 have m3 := sq_in (a := s.rx) (A := 8388608) (by omega) (by omega)
 have d1 := dvI_le (a := i * i * rV c s) (d := 1000000000) (m := 1152921505) (by decide) (by omega)
 have d2 := dvI_nonneg (a := i * i * rV c s) (d := 1000000000) (by decide) m2.1
 unfold heatV
 split
 ·have d3 := dvI_le (a := s.rx * s.rx) (d := 1000 * c.pair) (m := 70368744177664) (by omega) (by omega)
  have d4 := dvI_nonneg (a := s.rx * s.rx) (d := 1000 * c.pair) (by omega) m3.1
  omega
 ·omega
set_option maxRecDepth 100000 in
set_option maxHeartbeats 2000000 in
theorem vnext_ok : FnSpec Tryz.prog 80 _ vnextS := by
 refine FnSpec.of SCi_ok mixed (U := 0) (I := fun _ => []) Tryz.func80 rfl (by kernel_rfl) rfl rfl (by decide +kernel) ?_
 rintro ⟨v, ⟨(i : Int), (a : Int), ⟨⟩⟩, ⟨⟩⟩ ⟨hv, (i1 : -1048576 <= i), (i2 : i <= 1048576), (a1 : 0 <= a), (a2 : a <= 400000)⟩
 obtain ⟨c, s, rfl, h1, h2⟩ := vw_ex (show VwOK v from hv)
 have e1 := vwC_D c s
 have e2 := vwS_D c s
 unfold FnSat
 conv => arg 2; reduce
 simp [vnextS, vheatS, divS, slackS, clipS, cvalS, wearS, roomS, e1, e2, and_assoc]
 have hc := celB_iff.1 h1
 have hcm := hc.max
 unfold CelMax at hcm
 have est : atL c.stress s.tp = valL c.stress s.tp := by
  have := h2.t0
  have := h2.t1
  exact atL_val (scB_iff.1 hc.stress).1 (by omega) (by omega)
 rw [est]
 have vs := sc_val hc.stress s.tp
 have r := @rV_in c s
 have m1 := sq_in i1 i2
 have m2 := mul_in m1.1 m1.2 r.1 r.2
 have m3 := sq_in (a := s.rx) (A := 8388608) (by have := h2.r0; omega) (by have := h2.r1; omega)
 have hh := heatV_in h1 h2 i1 i2
 have d1 := dvI_le (a := 1000 * heatV c s i) (d := c.hcap) (m := 71530000000000000) hc.hc0 (by
  have := Int.mul_le_mul_of_nonneg_left hc.hc0 (show (0 : Int) <= 71530000000000000 by decide)
  omega)
 have d2 := dvI_nonneg (a := 1000 * heatV c s i) (d := c.hcap) hc.hc0 (by omega)
 have := h2.t0
 have := h2.t1
 have := h2.h0
 have := h2.h1
 have := h2.a0
 have := h2.a1
 have := h2.q0
 have q1 := q_in h2
 have k1 := kV_in h1 h2
 have m4 := mul_ab (a := a - s.tp) (b := c.cool) (A := 400000) (B := 65536) (by omega) (by omega) hc.co0 hc.co1
 have m5 := mul_ab (a := i) (b := c.pair) (A := 1048576) (B := 1048576) i1 i2 hc.pr0 hc.pr1
 have d3 := dvI_le (a := (a - s.tp) * c.cool) (d := 65536) (m := 400000) (by decide) (by omega)
 have d4 := dvI_ge (a := (a - s.tp) * c.cool) (d := 65536) (m := -400000) (by decide) (by omega)
 have := hc.lk0
 have := hc.lk1
 have hw : WearOK c (s.th + max i (-i)) (s.ag + valL c.stress s.tp) := ⟨hc.cy0, hc.cy1, hc.al0, hc.al1, by omega, by omega, by omega, by omega⟩
 have hw2 := wearV_in hw
 have e3 : wearV c (s.th + max i (-i)) (s.ag + valL c.stress s.tp) = wearV c (nxH s i) (nxA c s) := by unfold nxH nxA; rfl
 exact ⟨by omega, by omega, hc.kp0, hc.kp1, h2.r0, h2.r1, by omega, by omega, vw_ok h1 h2, i1, i2, by omega, by omega, by omega, by omega, hc.hc0, by omega, by omega, by omega, by omega, by omega, by omega, by omega, by omega,
  by omega, by omega, by omega, by omega, by omega, by omega, hcm.2.2.2.2.1, hcm.2.2.2.2.2, by omega, by omega, by omega, by omega, by omega, by omega, hw, by have := hc.cap0; omega, hc.cap1, by omega, by omega,
  by unfold nxQ; rw [e3], by unfold nxR; rfl, by unfold nxT; rfl, by unfold nxH; rfl, by unfold nxA; rfl⟩
end
end Abs
end Go.Proofs.YtlabbaglbcmofaaGreat

namespace Go.Proofs.YtlabbaglbcmofaaGreat
namespace Abs
open Go Go.RowKit
noncomputable section
attribute [local irreducible] FnSat
@[irreducible] def aV (c : Cel) (s : Sta) (x : Int) : Int := if csE c s = 0 then x else 0
@[irreducible] def aE (c : Cel) (s : Sta) (e : Int) : Int := if csE c s = 0 then e else csE c s
noncomputable def SCj : Sums := ⟨SCi.one, SCi.two, SCi.lo, SCi.eqs, SCi.its, SCi.imm⟩
theorem SCj_ok : SumsOK Tryz.prog SCj := SCi_ok
noncomputable def SCk : Sums := ⟨SCj.one, SCj.two, SCj.lo, SCj.eqs, SCj.its, SCj.imm⟩
theorem SCk_ok : SumsOK Tryz.prog SCk := SCj_ok
noncomputable def SCl : Sums := ⟨SCk.one, SCk.two, SCk.lo, SCk.eqs, SCk.its, SCk.imm⟩
theorem SCl_ok : SumsOK Tryz.prog SCl := SCk_ok
end
end Abs
end Go.Proofs.YtlabbaglbcmofaaGreat

namespace Go.Proofs.YtlabbaglbcmofaaGreat
namespace Abs
open Go Go.RowKit
noncomputable section
attribute [local irreducible] FnSat
def volS1 : Spec [vwSh, .ptr [.int .i64]] := ⟨fun (v, ((i : Int), _), _) => VwOK v /\ -1048576 <= i /\ i <= 1048576, fun (v, ((i : Int), _), _) => .si .i64 (voltV (vwC v) (vwS v) i)⟩
set_option maxRecDepth 100000 in
theorem vol_ok1 : FnSpec Tryz.prog 96 _ volS1 := by
 refine FnSpec.of SCl_ok mixed (U := 0) (I := fun _ => []) Tryz.func96 rfl (by kernel_rfl) rfl rfl (by decide +kernel) ?_
 rintro ⟨v, ⟨(i : Int), ⟨⟩⟩, ⟨⟩⟩ ⟨hv, (i1 : -1048576 <= i), (i2 : i <= 1048576)⟩
 obtain ⟨c, s, rfl, h1, h2⟩ := vw_ex (show VwOK v from hv)
 have e1 := vwC_D c s
 have e2 := vwS_D c s
 unfold FnSat
 conv => arg 2; reduce
 simp [volS1, vvoltS, e1, e2, and_assoc]
 exact ⟨vw_ok h1 h2, i1, i2⟩
noncomputable def SCm : Sums := ⟨(96, mkSum _ volS1) :: SCl.one, SCl.two, SCl.lo, SCl.eqs, SCl.its, SCl.imm⟩
theorem SCm_ok : SumsOK Tryz.prog SCm := (SCl_ok.cons Tryz.func96 (by kernel_rfl) (by kernel_rfl) vol_ok1)
@[irreducible] def curI (i : Int) : Bool := isIn (-1048576) i 1048576
theorem curI_iff {i : Int} : curI i = true ↔ -1048576 <= i /\ i <= 1048576 := by unfold curI isIn; simp
@[irreducible] def wiV (i x : Int) : Int := if curI i = true then x else 0
@[irreducible] def wiE (i : Int) : Int := if curI i = true then 0 else 3
def volW : Spec [vwSh, .ptr [.int .i64], .ptr [.fn 96 [] [.ptr [.int .i64]]]] :=
 ⟨fun (v, ((i : Int), _), ((_, ((j : Int), _), _), _), _) => VwOK v /\ j = i, fun (v, ((i : Int), _), _, _) => .tup [.si .i64 (wiV i (voltV (vwC v) (vwS v) i)), .si .i64 (wiE i)]⟩
set_option maxRecDepth 100000 in
theorem vol_okW : FnSpec Tryz.prog 159 _ volW := by
 refine FnSpec.of SCm_ok mixed (U := 0) (I := fun _ => []) Tryz.func159 rfl (by kernel_rfl) rfl rfl (by decide +kernel) ?_
 rintro ⟨v, ⟨(i : Int), ⟨⟩⟩, ⟨⟨x, ⟨(j : Int), ⟨⟩⟩, ⟨⟩⟩, ⟨⟩⟩, ⟨⟩⟩ ⟨hv, hj⟩
 obtain rfl : j = i := hj
 obtain ⟨c, s, rfl, h1, h2⟩ := vw_ex (show VwOK v from hv)
 have e1 := vwC_D c s
 have e2 := vwS_D c s
 unfold FnSat
 conv => arg 2; reduce
 simp [volW, volS1, betS, e1, e2, and_assoc]
 refine ⟨fun h => ?_, fun i1 i2 => ?_⟩
 ·have hn : ¬ curI j = true := by rw [curI_iff]; omega
  unfold wiV wiE
  rw [if_neg hn, if_neg hn]
  exact ⟨rfl, rfl⟩
 ·have hp : curI j = true := curI_iff.2 ⟨i1, i2⟩
  unfold wiV wiE
  rw [if_pos hp, if_pos hp]
  exact ⟨vw_ok h1 h2, i1, i2, rfl, rfl⟩
noncomputable def SCn : Sums := ⟨(159, mkSum _ volW) :: SCm.one, SCm.two, SCm.lo, SCm.eqs, SCm.its, SCm.imm⟩
theorem SCn_ok : SumsOK Tryz.prog SCn := (SCm_ok.cons Tryz.func159 (by kernel_rfl) (by kernel_rfl) vol_okW)
def volA : Spec [celSh, staSh, .fn 159 [] [.ptr [.int .i64], .ptr [.fn 96 [] [.ptr [.int .i64]]]]] :=
 ⟨fun (c, _, (_, ((i : Int), _), ((_, ((j : Int), _), _), _), _), _) => CelMax (celOf c) /\ j = i, fun (c, s, (_, ((i : Int), _), _, _), _) => .tup [.si .i64 (aV (celOf c) (staOf s) (wiV i (voltV (celOf c) (staOf s) i))), .si .i64 (aE (celOf c) (staOf s) (wiE i))]⟩
set_option maxRecDepth 100000 in
set_option maxHeartbeats 2000000 in
theorem vol_okA : FnSpec Tryz.prog 85 _ volA := by
 refine FnSpec.of SCn_ok mixed (U := 0) (I := fun _ => []) Tryz.func85 rfl (by kernel_rfl) rfl rfl (by decide +kernel) ?_
 rintro ⟨c, s, ⟨y, ⟨(i : Int), ⟨⟩⟩, ⟨⟨x, ⟨(j : Int), ⟨⟩⟩, ⟨⟩⟩, ⟨⟩⟩, ⟨⟩⟩, ⟨⟩⟩ ⟨hpre, hj⟩
 obtain rfl : j = i := hj
 obtain ⟨c, rfl⟩ := cel_ex c
 obtain ⟨s, rfl⟩ := sta_ex s
 have hpre : CelMax c := by have : CelMax (celOf (celD c)) := hpre; rwa [celOf_D] at this
 have e1 := vwC_D c s
 have e2 := vwS_D c s
 unfold FnSat
 conv => arg 2; reduce
 simp [volA, cstS, lookF, volW, e1, e2, and_assoc]
 refine ⟨hpre, fun h => ⟨by unfold aV; rw [if_neg h], by unfold aE; rw [if_neg h]⟩, fun h => ?_⟩
 have k := csE_iff.1 h
 exact ⟨k.1, k.2, vw_ok k.1 k.2, by unfold aV; rw [if_pos h], by unfold aE; rw [if_pos h]⟩
noncomputable def SCo : Sums := ⟨(85, (mkSum _ volA)) :: SCn.one, SCn.two, SCn.lo, SCn.eqs, SCn.its, SCn.imm⟩
theorem SCo_ok : SumsOK Tryz.prog SCo := (SCn_ok.add Tryz.func85 (by kernel_rfl) (by kernel_rfl) (mkSum_ok vol_okA))
def volI : Spec [celSh, staSh, .int .i64, .fn 96 [] [.ptr [.int .i64]]] :=
 ⟨fun (c, _, (i : Int), (_, ((j : Int), _), _), _) => CelMax (celOf c) /\ j = i, fun (c, s, (i : Int), _) => .tup [.si .i64 (aV (celOf c) (staOf s) (wiV i (voltV (celOf c) (staOf s) i))), .si .i64 (aE (celOf c) (staOf s) (wiE i))]⟩
set_option maxRecDepth 100000 in
set_option maxHeartbeats 2000000 in
theorem vol_okI : FnSpec Tryz.prog 95 _ volI := by
 refine FnSpec.of SCo_ok mixed (U := 0) (I := fun _ => []) Tryz.func95 rfl (by kernel_rfl) rfl rfl (by decide +kernel) ?_
 rintro ⟨c, s, (i : Int), ⟨x, ⟨(j : Int), ⟨⟩⟩, ⟨⟩⟩, ⟨⟩⟩ ⟨hpre, hj⟩
 obtain rfl : j = i := hj
 obtain ⟨c, rfl⟩ := cel_ex c
 obtain ⟨s, rfl⟩ := sta_ex s
 have hpre : CelMax c := by have : CelMax (celOf (celD c)) := hpre; rwa [celOf_D] at this
 unfold FnSat
 conv => arg 2; reduce
 simp [volI, volA, and_assoc]
 exact hpre
noncomputable def SCp : Sums := ⟨(95, mkSum _ volI) :: SCo.one, SCo.two, SCo.lo, SCo.eqs, SCo.its, SCo.imm⟩
theorem SCp_ok : SumsOK Tryz.prog SCp := (SCo_ok.cons Tryz.func95 (by kernel_rfl) (by kernel_rfl) vol_okI)
def volS : Spec [celSh, staSh, .int .i64] :=
 ⟨fun (c, _) => CelMax (celOf c), fun (c, s, (i : Int), _) => .tup [.si .i64 (aV (celOf c) (staOf s) (wiV i (voltV (celOf c) (staOf s) i))), .si .i64 (aE (celOf c) (staOf s) (wiE i))]⟩
set_option maxRecDepth 100000 in
set_option maxHeartbeats 2000000 in
theorem vol_ok : FnSpec Tryz.prog 38 _ volS := by
 refine FnSpec.of SCp_ok mixed (U := 0) (I := fun _ => []) Tryz.func38 rfl (by kernel_rfl) rfl rfl (by decide +kernel) ?_
 rintro ⟨c, s, (i : Int), ⟨⟩⟩ hpre
 obtain ⟨c, rfl⟩ := cel_ex c
 obtain ⟨s, rfl⟩ := sta_ex s
 have hpre : CelMax c := by have : CelMax (celOf (celD c)) := hpre; rwa [celOf_D] at this
 unfold FnSat
 conv => arg 2; reduce
 simp [volS, volI, and_assoc]
 exact hpre
end
end Abs
end Go.Proofs.YtlabbaglbcmofaaGreat

namespace Go.Proofs.YtlabbaglbcmofaaGreat
namespace Abs
open Go Go.RowKit
noncomputable section
attribute [local irreducible] FnSat
noncomputable def SCq : Sums := ⟨SCp.one, SCp.two, SCp.lo, SCp.eqs, SCp.its, SCp.imm⟩
theorem SCq_ok : SumsOK Tryz.prog SCq := SCp_ok
noncomputable def SCr : Sums := ⟨SCq.one, SCq.two, SCq.lo, SCq.eqs, SCq.its, SCq.imm⟩
theorem SCr_ok : SumsOK Tryz.prog SCr := SCq_ok
noncomputable def SCs : Sums := ⟨SCr.one, SCr.two, SCr.lo, SCr.eqs, SCr.its, SCr.imm⟩
theorem SCs_ok : SumsOK Tryz.prog SCs := SCr_ok
noncomputable def SCt : Sums := ⟨SCs.one, SCs.two, SCs.lo, SCs.eqs, SCs.its, SCs.imm⟩
theorem SCt_ok : SumsOK Tryz.prog SCt := SCs_ok
end
end Abs
end Go.Proofs.YtlabbaglbcmofaaGreat

namespace Go.Proofs.YtlabbaglbcmofaaGreat
namespace Abs
open Go Go.RowKit
noncomputable section
attribute [local irreducible] FnSat
theorem voltV_in {c : Cel} {s : Sta} {i : Int} (h1 : celB c = true) (h2 : StOK c s) (i1 : -1048576 <= i) (i2 : i <= 1048576) : -2147483648 <= voltV c s i /\ voltV c s i <= 2147483648 := by
 have o := opnV_in (s := s) h1
 have r := @rV_in c s
 have m := mul_ab (a := i) (b := rV c s) (A := 1048576) (B := 1048576) i1 i2 r.1 r.2
 have d1 := dvI_le (a := i * rV c s) (d := 1000) (m := 1099511628) (by decide) (by omega)
 have d2 := dvI_ge (a := i * rV c s) (d := 1000) (m := -1099511628) (by decide) (by omega)
 have := h2.r0
 have := h2.r1
 unfold voltV
 omega
noncomputable def SCv : Sums := ⟨SCt.one, SCt.two, SCt.lo, SCt.eqs, SCt.its, SCt.imm⟩
theorem SCv_ok : SumsOK Tryz.prog SCv := SCt_ok
noncomputable def SCw : Sums := ⟨SCv.one, SCv.two, SCv.lo, SCv.eqs, SCv.its, SCv.imm⟩
theorem SCw_ok : SumsOK Tryz.prog SCw := SCv_ok
noncomputable def SCx : Sums := ⟨SCw.one, SCw.two, SCw.lo, SCw.eqs, SCw.its, SCw.imm⟩
theorem SCx_ok : SumsOK Tryz.prog SCx := SCw_ok
noncomputable def SCz : Sums := ⟨SCx.one, SCx.two, SCx.lo, SCx.eqs, SCx.its, SCx.imm⟩
theorem SCz_ok : SumsOK Tryz.prog SCz := SCx_ok
end
end Abs
end Go.Proofs.YtlabbaglbcmofaaGreat

namespace Go.Proofs.YtlabbaglbcmofaaGreat
namespace Abs
open Go Go.RowKit
noncomputable section
attribute [local irreducible] FnSat
noncomputable def SCs0 : Sums := ⟨(80, mkSum _ vnextS) :: (38, mkSum _ volS) :: SCz.one, SCz.two, SCz.lo, SCz.eqs, SCz.its, SCz.imm⟩
theorem SCs0_ok : SumsOK Tryz.prog SCs0 := ((SCz_ok.cons Tryz.func38 (by kernel_rfl) (by kernel_rfl) vol_ok).cons Tryz.func80 (by kernel_rfl) (by kernel_rfl) vnext_ok)
@[irreducible] def ovr (c : Cel) (s : Sta) (i : Int) : Bool := decide (1099511627776 < nxH s i) || decide (1099511627776 < nxA c s)
@[irreducible] def inB (i a : Int) : Bool := isIn (-1048576) i 1048576 && isIn 0 a 400000
theorem inB_iff {i a : Int} : inB i a = true ↔ (-1048576 <= i /\ i <= 1048576) /\ 0 <= a /\ a <= 400000 := by unfold inB isIn; simp
@[irreducible] def stpE (c : Cel) (s : Sta) (i a : Int) : Int := if inB i a = true then (if ovr c s i = true then 4 else 0) else 3
@[irreducible] def stpV (c : Cel) (s : Sta) (i a x : Int) : Int := if stpE c s i a = 0 then x else 0
theorem stpV_no {c : Cel} {s : Sta} {i a x : Int} (h : stpE c s i a ≠ 0) : stpV c s i a x = 0 := by unfold stpV; rw [if_neg h]
theorem stpV_yes {c : Cel} {s : Sta} {i a x : Int} (h : stpE c s i a = 0) : stpV c s i a x = x := by unfold stpV; rw [if_pos h]
theorem aV_no {c : Cel} {s : Sta} {x : Int} (h : ¬csE c s = 0) : aV c s x = 0 := by unfold aV; rw [if_neg h]
theorem aV_yes {c : Cel} {s : Sta} {x : Int} (h : csE c s = 0) : aV c s x = x := by unfold aV; rw [if_pos h]
theorem aE_no {c : Cel} {s : Sta} {x : Int} (h : ¬csE c s = 0) : aE c s x = csE c s := by unfold aE; rw [if_neg h]
theorem aE_yes {c : Cel} {s : Sta} {x : Int} (h : csE c s = 0) : aE c s x = x := by unfold aE; rw [if_pos h]
def stpS1 : Spec [vwSh, .ptr [.int .i64, .int .i64]] := ⟨fun (v, _) => VwOK v, fun (v, ((i : Int), (a : Int), _), _) =>
 .tup [.agg [.si .i64 (stpV (vwC v) (vwS v) i a (nxQ (vwC v) (vwS v) i)), .si .i64 (stpV (vwC v) (vwS v) i a (nxR (vwC v) (vwS v) i)), .si .i64 (stpV (vwC v) (vwS v) i a (nxT (vwC v) (vwS v) i a)), .si .i64 (stpV (vwC v) (vwS v) i a (nxH (vwS v) i)), .si .i64 (stpV (vwC v) (vwS v) i a (nxA (vwC v) (vwS v)))],
  .si .i64 (stpE (vwC v) (vwS v) i a)]⟩
set_option maxRecDepth 100000 in
theorem stp_ok1 : FnSpec Tryz.prog 78 _ stpS1 := by
 refine FnSpec.of SCs0_ok mixed (U := 0) (I := fun _ => []) Tryz.func78 rfl (by kernel_rfl) rfl rfl (by decide +kernel) ?_
 rintro ⟨v, ⟨(i : Int), (a : Int), ⟨⟩⟩, ⟨⟩⟩ hv
 obtain ⟨c, s, rfl, h1, h2⟩ := vw_ex (show VwOK v from hv)
 have e1 := vwC_D c s
 have e2 := vwS_D c s
 unfold FnSat
 conv => arg 2; reduce
 simp [stpS1, vnextS, betS, e1, e2, and_assoc]
 refine ⟨fun h => ?_, fun i1 i2 a1 a2 => ⟨vw_ok h1 h2, i1, i2, a1, a2, fun h => ?_, fun g1 g2 => ?_⟩⟩
 ·have e : stpE c s i a = 3 := by unfold stpE; rw [if_neg]; rw [inB_iff]; omega
  simp [stpV_no (show stpE c s i a ≠ 0 by omega), e]
 ·have e : stpE c s i a = 4 := by unfold stpE; rw [if_pos (inB_iff.2 ⟨⟨i1, i2⟩, a1, a2⟩), if_pos]; unfold ovr; simpa using h
  simp [stpV_no (show stpE c s i a ≠ 0 by omega), e]
 ·have e : stpE c s i a = 0 := by unfold stpE; rw [if_pos (inB_iff.2 ⟨⟨i1, i2⟩, a1, a2⟩), if_neg]; unfold ovr; simp; omega
  simp [stpV_yes e, e]
noncomputable def SCs1 : Sums := ⟨(78, mkSum _ stpS1) :: SCs0.one, SCs0.two, SCs0.lo, SCs0.eqs, SCs0.its, SCs0.imm⟩
theorem SCs1_ok : SumsOK Tryz.prog SCs1 := (SCs0_ok.cons Tryz.func78 (by kernel_rfl) (by kernel_rfl) stp_ok1)
def stpA : Spec [celSh, staSh, .fn 78 [] [.ptr [.int .i64, .int .i64]]] := ⟨fun (c, _) => CelMax (celOf c), fun (c, s, (_, ((i : Int), (a : Int), _), _), _) =>
 .tup [.agg [.si .i64 (aV (celOf c) (staOf s) (stpV (celOf c) (staOf s) i a (nxQ (celOf c) (staOf s) i))), .si .i64 (aV (celOf c) (staOf s) (stpV (celOf c) (staOf s) i a (nxR (celOf c) (staOf s) i))),
  .si .i64 (aV (celOf c) (staOf s) (stpV (celOf c) (staOf s) i a (nxT (celOf c) (staOf s) i a))), .si .i64 (aV (celOf c) (staOf s) (stpV (celOf c) (staOf s) i a (nxH (staOf s) i))), .si .i64 (aV (celOf c) (staOf s) (stpV (celOf c) (staOf s) i a (nxA (celOf c) (staOf s))))],
  .si .i64 (aE (celOf c) (staOf s) (stpE (celOf c) (staOf s) i a))]⟩
set_option maxRecDepth 100000 in
set_option maxHeartbeats 4000000 in
theorem stp_okA : FnSpec Tryz.prog 77 _ stpA := by
 refine FnSpec.of SCs1_ok mixed (U := 0) (I := fun _ => []) Tryz.func77 rfl (by kernel_rfl) rfl rfl (by decide +kernel) ?_
 rintro ⟨c, s, ⟨y, ⟨(i : Int), (a : Int), ⟨⟩⟩, ⟨⟩⟩, ⟨⟩⟩ hpre
 obtain ⟨c, rfl⟩ := cel_ex c
 obtain ⟨s, rfl⟩ := sta_ex s
 have hpre : CelMax c := by have : CelMax (celOf (celD c)) := hpre; rwa [celOf_D] at this
 have e1 := vwC_D c s
 have e2 := vwS_D c s
 unfold FnSat
 conv => arg 2; reduce
 simp [stpA, cstS, lookF, stpS1, e1, e2, and_assoc]
 refine ⟨hpre, fun h => by simp [aV_no h, aE_no h], fun h => ?_⟩
 have k := csE_iff.1 h
 simp [aV_yes h, aE_yes h]
 exact ⟨k.1, k.2, vw_ok k.1 k.2⟩
noncomputable def SCs2 : Sums := ⟨(77, mkSum _ stpA) :: SCs1.one, SCs1.two, SCs1.lo, SCs1.eqs, SCs1.its, SCs1.imm⟩
theorem SCs2_ok : SumsOK Tryz.prog SCs2 := (SCs1_ok.cons Tryz.func77 (by kernel_rfl) (by kernel_rfl) stp_okA)
def stpS : Spec [celSh, staSh, inSh] := ⟨fun (c, _) => CelMax (celOf c), fun (c, s, ((i : Int), (a : Int), _), _) =>
 .tup [.agg [.si .i64 (aV (celOf c) (staOf s) (stpV (celOf c) (staOf s) i a (nxQ (celOf c) (staOf s) i))), .si .i64 (aV (celOf c) (staOf s) (stpV (celOf c) (staOf s) i a (nxR (celOf c) (staOf s) i))),
  .si .i64 (aV (celOf c) (staOf s) (stpV (celOf c) (staOf s) i a (nxT (celOf c) (staOf s) i a))), .si .i64 (aV (celOf c) (staOf s) (stpV (celOf c) (staOf s) i a (nxH (staOf s) i))), .si .i64 (aV (celOf c) (staOf s) (stpV (celOf c) (staOf s) i a (nxA (celOf c) (staOf s))))],
  .si .i64 (aE (celOf c) (staOf s) (stpE (celOf c) (staOf s) i a))]⟩
set_option maxRecDepth 100000 in
set_option maxHeartbeats 4000000 in
theorem stp_ok : FnSpec Tryz.prog 24 _ stpS := by
 refine FnSpec.of SCs2_ok mixed (U := 0) (I := fun _ => []) Tryz.func24 rfl (by kernel_rfl) rfl rfl (by decide +kernel) ?_
 rintro ⟨c, s, ⟨(i : Int), (a : Int), ⟨⟩⟩, ⟨⟩⟩ hpre
 obtain ⟨c, rfl⟩ := cel_ex c
 obtain ⟨s, rfl⟩ := sta_ex s
 have hpre : CelMax c := by have : CelMax (celOf (celD c)) := hpre; rwa [celOf_D] at this
 unfold FnSat
 conv => arg 2; reduce
 simp [stpS, stpA, and_assoc]
 exact hpre
noncomputable def SCst : Sums := ⟨(24, mkSum _ stpS) :: SCs2.one, SCs2.two, SCs2.lo, SCs2.eqs, SCs2.its, SCs2.imm⟩
theorem SCst_ok : SumsOK Tryz.prog SCst := (SCs2_ok.cons Tryz.func24 (by kernel_rfl) (by kernel_rfl) stp_ok)
end
end Abs
end Go.Proofs.YtlabbaglbcmofaaGreat

namespace Go.Proofs.YtlabbaglbcmofaaGreat
namespace Abs
open Go Go.RowKit
noncomputable section
attribute [local irreducible] FnSat
theorem Fn.res {P : Program} {f : FuncId} {args : List AV} {H H' : Heap} {r r' : AV} (h : Fn P f args H r H') (hr : ∀ (C : Cx) (w : World) (v : Value), Rel C w r v -> Rel C w r' v) : Fn P f args H r' H' :=
 fun C w vs h1 h2 => (h C w vs h1 h2).mono fun e w' ⟨v, C', he, h3, h4, h5⟩ => ⟨v, C', he, h3, hr _ _ _ h4, h5⟩
structure Two (c : Crv) (a b u v : Int) : Prop where
 nx : c.nx = 2
 ny : c.ny = 2
 x0 : c.x 0 = a
 x1 : c.x 1 = b
 y0 : c.y 0 = u
 y1 : c.y 1 = v
theorem Two.val {c : Crv} {a b u v x : Int} (h : Two c a b u v) (hc : crB c = true) (h0 : a <= x) (h1 : x < b) : valL c x = u + (x - a) * (v - u) / (b - a) := by
 have hs : sgI c x = 0 := sgI_uniq hc (by rw [h.nx]; decide) (by rw [h.x0]; exact h0) (by rw [h.x1]; exact h1)
 unfold valL
 rw [h.nx]
 show (if c.x 1 <= x then _ else _) = _
 rw [h.x1, h.x0, if_neg (by omega), if_neg (by omega), hs]
 unfold pcL
 rw [h.x0, h.x1, h.y0, h.y1]
noncomputable def SCex : Sums := ⟨SCst.one, SCst.two, SCst.lo, SCst.eqs, SCst.its, SCst.imm⟩
theorem SCex_ok : SumsOK Tryz.prog SCex := SCst_ok
@[reducible] def st5 : List (Option IntKind) := [some .i64, some .i64, some .i64, some .i64, some .i64]
@[reducible] def sp2 : List (Option IntKind) := [some .i64, some .i64]
def eqsC : List (Nat × List (Option IntKind)) := [(70, st5), (32, sp2)]
theorem eqsC_ok : ∀ t ks, findS eqsC t = some ks -> EqOK Tryz.prog t ks := by
 intro t ks h
 unfold eqsC at h
 simp only [findS] at h
 split at h
 ·rename_i e
  obtain rfl := Nat.eq_of_beq_eq_true e
  injection h with h; subst h
  exact EqOK.of 3 (by decide) (by kernel_rfl) (by kernel_rfl) (by kernel_rfl)
 ·first
  | cases h; done
  | split at h
    ·rename_i e
     obtain rfl := Nat.eq_of_beq_eq_true e
     injection h with h; subst h
     exact EqOK.of 3 (by decide) (by kernel_rfl) (by kernel_rfl) (by kernel_rfl)
    ·cases h
noncomputable def SCeq : Sums := ⟨SCex.one, SCex.two, SCex.lo, eqsC, SCex.its, SCex.imm⟩
theorem SCeq_ok : SumsOK Tryz.prog SCeq := SCex_ok.setEqs eqsC_ok
noncomputable def SCkn : Sums := ⟨SCeq.one, SCeq.two, SCeq.lo, SCeq.eqs, SCeq.its, SCeq.imm⟩
theorem SCkn_ok : SumsOK Tryz.prog SCkn := SCeq_ok
end
end Abs
end Go.Proofs.YtlabbaglbcmofaaGreat

namespace Go.Proofs.YtlabbaglbcmofaaGreat
namespace Abs
open Go Go.RowKit
noncomputable section
def sel5 (a b c d e : Int) (k : Nat) : Int := match k with | 0 => a | 1 => b | 2 => c | 3 => d | _ => e
@[simp] theorem sel5_0 (a b c d e : Int) : sel5 a b c d e 0 = a := rfl
@[simp] theorem sel5_1 (a b c d e : Int) : sel5 a b c d e 1 = b := rfl
@[simp] theorem sel5_2 (a b c d e : Int) : sel5 a b c d e 2 = c := rfl
@[simp] theorem sel5_3 (a b c d e : Int) : sel5 a b c d e 3 = d := rfl
@[simp] theorem sel5_4 (a b c d e : Int) : sel5 a b c d e 4 = e := rfl
attribute [irreducible] sel5
@[irreducible] def ofV (n : Nat) (x : Int) : Int := if n = 5 then x else 0
@[irreducible] def ofE (n : Nat) : Int := if n = 5 then 0 else 2
attribute [local irreducible] FnSat
def partsF : SpecF [.cells 70 [.int .i64, .int .i64, .int .i64, .int .i64, .int .i64]] [.own 0 0] :=
 ⟨fun _ _ => True, fun _ _ => .agg [.own 0 0, .own 0 1, .own 0 2, .own 0 3, .own 0 4], fun ((a, b, c, d, e, _), _) _ => [.cells 70 [.si .i64 a, .si .i64 b, .si .i64 c, .si .i64 d, .si .i64 e]]⟩
set_option maxRecDepth 100000 in
theorem parts_ok : FnSpecF Tryz.prog 83 _ _ partsF := by
 refine FnSpecF.of SCkn_ok mixed (U := 0) (I := fun _ _ => []) Tryz.func83 rfl (by kernel_rfl) rfl (by decide +kernel) ?_
 rintro ⟨⟨(a : Int), (b : Int), (c : Int), (d : Int), (e : Int), ⟨⟩⟩, ⟨⟩⟩ ⟨⟨⟩, ⟨⟩⟩ -
 unfold FnSat
 conv => arg 2; reduce
 simp [partsF, aliveB, getB, encH, encB]
noncomputable def SVa : Sums := ⟨SCkn.one, (83, mkSumF _ _ partsF) :: SCkn.two, SCkn.lo, SCkn.eqs, SCkn.its, SCkn.imm⟩
theorem SVa_ok : SumsOK Tryz.prog SVa := SCkn_ok.addTwo Tryz.func83 (by kernel_rfl) (by kernel_rfl) (mkSumF_ok parts_ok)
def ofS : Spec [intsSh] := ⟨fun _ => True, fun ((n, el), _) => .tup [.agg [.si .i64 (ofV n (el 0).1), .si .i64 (ofV n (el 1).1), .si .i64 (ofV n (el 2).1), .si .i64 (ofV n (el 3).1), .si .i64 (ofV n (el 4).1)], .si .i64 (ofE n)]⟩
set_option maxRecDepth 100000 in
theorem of_ok : FnSpec Tryz.prog 67 _ ofS := by
 refine FnSpec.of SVa_ok mixed (U := 6) (I := fun _ => []) Tryz.func67 rfl (by kernel_rfl) rfl rfl (by decide +kernel) ?_
 rintro ⟨⟨n, el⟩, ⟨⟩⟩ -
 obtain ⟨v, rfl⟩ : ∃ v : Nat -> Int, el = fun k => (v k, ()) := ⟨fun k => (el k).1, rfl⟩
 unfold FnSat
 conv => arg 2; reduce
 simp [ofS, partsF]
 refine ⟨fun h => ?_, fun h => ?_⟩
 ·have h' : ¬ n = 5 := by omega
  simp [ofV, ofE, h']
 ·obtain rfl : n = 5 := by omega
  simp [ofV, ofE]
noncomputable def SVb : Sums := ⟨(67, mkSum _ ofS) :: SVa.one, SVa.two, SVa.lo, SVa.eqs, SVa.its, SVa.imm⟩
theorem SVb_ok : SumsOK Tryz.prog SVb := (SVa_ok.cons Tryz.func67 (by kernel_rfl) (by kernel_rfl) of_ok)
end
end Abs
end Go.Proofs.YtlabbaglbcmofaaGreat

namespace Go.Proofs.YtlabbaglbcmofaaGreat
namespace Abs
open Go Go.RowKit
noncomputable section
attribute [local irreducible] FnSat
noncomputable def SRa : Sums := ⟨SVb.one, SVb.two, SVb.lo, SVb.eqs, SVb.its, SVb.imm⟩
theorem SRa_ok : SumsOK Tryz.prog SRa := SVb_ok
noncomputable def SRb : Sums := ⟨SRa.one, SRa.two, SRa.lo, SRa.eqs, SRa.its, SRa.imm⟩
theorem SRb_ok : SumsOK Tryz.prog SRb := SRa_ok
noncomputable def SRc : Sums := ⟨SRb.one, SRb.two, SRb.lo, SRb.eqs, SRb.its, SRb.imm⟩
theorem SRc_ok : SumsOK Tryz.prog SRc := SRb_ok
noncomputable def SRd : Sums := ⟨SRc.one, SRc.two, SRc.lo, SRc.eqs, SRc.its, SRc.imm⟩
theorem SRd_ok : SumsOK Tryz.prog SRd := SRc_ok
noncomputable def SRe : Sums := ⟨SRd.one, SRd.two, SRd.lo, SRd.eqs, SRd.its, SRd.imm⟩
theorem SRe_ok : SumsOK Tryz.prog SRe := SRd_ok
end
end Abs
end Go.Proofs.YtlabbaglbcmofaaGreat

namespace Go.Proofs.YtlabbaglbcmofaaGreat
namespace Abs
open Go Go.RowKit
noncomputable section
attribute [local irreducible] FnSat
noncomputable def SRf : Sums := ⟨SRe.one, SRe.two, SRe.lo, SRe.eqs, SRe.its, SRe.imm⟩
theorem SRf_ok : SumsOK Tryz.prog SRf := SRe_ok
@[irreducible] def stA (c : Cel) (s : Sta) (i a : Int) : Sta := ⟨aV c s (stpV c s i a (nxQ c s i)), aV c s (stpV c s i a (nxR c s i)), aV c s (stpV c s i a (nxT c s i a)), aV c s (stpV c s i a (nxH s i)), aV c s (stpV c s i a (nxA c s))⟩
@[irreducible] def stAE (c : Cel) (s : Sta) (i a : Int) : Int := aE c s (stpE c s i a)
def stpT : Spec [celSh, staSh, inSh] := ⟨fun (c, _) => CelMax (celOf c), fun (c, s, ((i : Int), (a : Int), _), _) =>
 .tup [.agg [.si .i64 (stA (celOf c) (staOf s) i a).q, .si .i64 (stA (celOf c) (staOf s) i a).rx, .si .i64 (stA (celOf c) (staOf s) i a).tp, .si .i64 (stA (celOf c) (staOf s) i a).th, .si .i64 (stA (celOf c) (staOf s) i a).ag],
  .si .i64 (stAE (celOf c) (staOf s) i a)]⟩
theorem stpT_ok : FnSpec Tryz.prog 24 _ stpT := fun x hx => by
 have h := stp_ok x hx
 have e : stpS.res x = stpT.res x := by
  obtain ⟨c, s, ⟨(i : Int), (a : Int), ⟨⟩⟩, ⟨⟩⟩ := x
  show AV.tup _ = AV.tup _
  unfold stA stAE
  simp
 rw [<- e]; exact h
theorem stA_iff {c : Cel} {s : Sta} {i a : Int} (h : csE c s = 0) : (stAE c s i a = 0 ↔ inB i a = true /\ ovr c s i = false) /\ (stAE c s i a = 0 \/ stAE c s i a = 3 \/ stAE c s i a = 4) := by
 unfold stAE
 rw [aE_yes h]
 unfold stpE
 cases inB i a <;> cases ovr c s i <;> simp
theorem stA_0 {c : Cel} {s : Sta} {i a : Int} (h : csE c s = 0) (h2 : stAE c s i a = 0) : stA c s i a = ⟨nxQ c s i, nxR c s i, nxT c s i a, nxH s i, nxA c s⟩ := by
 have h3 : stpE c s i a = 0 := by unfold stAE at h2; rwa [aE_yes h] at h2
 unfold stA
 simp only [aV_yes h, stpV_yes h3]
theorem stA_ok {c : Cel} {s : Sta} {i a : Int} (h : csE c s = 0) (h2 : stAE c s i a = 0) : StOK c (stA c s i a) /\ -1048576 <= i /\ i <= 1048576 /\ 0 <= a /\ a <= 400000 := by
 have h3 := ((stA_iff h).1.1 h2)
 have h4 := inB_iff.1 h3.1
 have h5 := h3.2
 unfold ovr at h5
 simp at h5
 obtain ⟨hc, hs⟩ := csE_iff.1 h
 have hk := celB_iff.1 hc
 rw [stA_0 h h2]
 refine ⟨?_, h4.1.1, h4.1.2, h4.2.1, h4.2.2⟩
 have vs := sc_val hk.stress s.tp
 have := hs.h0
 have := hs.a0
 have hH : nxH s i = s.th + max i (-i) := by unfold nxH; rfl
 have hA : nxA c s = s.ag + valL c.stress s.tp := by unfold nxA; rfl
 have hR : -8388608 <= nxR c s i /\ nxR c s i <= 8388608 := by unfold nxR slackV; exact clipV_in (by decide)
 have hT : 0 <= nxT c s i a /\ nxT c s i a <= 400000 := by unfold nxT; exact clipV_in (by decide)
 have hQ : 0 <= nxQ c s i /\ nxQ c s i <= roomV c (wearV c (nxH s i) (nxA c s)) := by
  unfold nxQ
  refine clipV_in ?_
  have := (@roomV_in c (wearV c (nxH s i) (nxA c s))).1
  omega
 constructor <;> simp only [Sta.q_mk, Sta.rx_mk, Sta.tp_mk, Sta.th_mk, Sta.ag_mk] <;> omega
noncomputable def SRg : Sums := ⟨(24, mkSum _ stpT) :: SRf.one, SRf.two, SRf.lo, SRf.eqs, SRf.its, SRf.imm⟩
theorem SRg_ok : SumsOK Tryz.prog SRg := (SRf_ok.cons Tryz.func24 (by kernel_rfl) (by kernel_rfl) stpT_ok)
end
end Abs
end Go.Proofs.YtlabbaglbcmofaaGreat

namespace Go.Proofs.YtlabbaglbcmofaaGreat
namespace Abs
open Go Go.RowKit
noncomputable section
attribute [local irreducible] FnSat
@[irreducible] def insV (a l h b : Int) : Bool := decide (a <= l) && decide (l <= h) && decide (h <= b)
theorem insV_iff {a l h b : Int} : insV a l h b = true ↔ a <= l /\ l <= h /\ h <= b := by unfold insV; simp [and_assoc]
@[irreducible] def mvC (c : Cel) (d : Nat -> Int) : Cel := ⟨c.cap + d 0, c.ocv, c.shift + d 1, c.cold, c.extra + d 2, c.pair + d 3, c.keep, c.leak + d 4, c.hcap + d 5, c.cool + d 6, c.stress, c.cyc, c.agel, c.grow⟩
@[simp] theorem mvC_cap (c : Cel) (d : Nat -> Int) : (mvC c d).cap = c.cap + d 0 := by unfold mvC Cel.cap; rfl
@[simp] theorem mvC_shift (c : Cel) (d : Nat -> Int) : (mvC c d).shift = c.shift + d 1 := by unfold mvC Cel.shift; rfl
@[simp] theorem mvC_extra (c : Cel) (d : Nat -> Int) : (mvC c d).extra = c.extra + d 2 := by unfold mvC Cel.extra; rfl
@[simp] theorem mvC_pair (c : Cel) (d : Nat -> Int) : (mvC c d).pair = c.pair + d 3 := by unfold mvC Cel.pair; rfl
@[simp] theorem mvC_leak (c : Cel) (d : Nat -> Int) : (mvC c d).leak = c.leak + d 4 := by unfold mvC Cel.leak; rfl
@[simp] theorem mvC_hcap (c : Cel) (d : Nat -> Int) : (mvC c d).hcap = c.hcap + d 5 := by unfold mvC Cel.hcap; rfl
@[simp] theorem mvC_cool (c : Cel) (d : Nat -> Int) : (mvC c d).cool = c.cool + d 6 := by unfold mvC Cel.cool; rfl
@[simp] theorem mvC_ocv (c : Cel) (d : Nat -> Int) : (mvC c d).ocv = c.ocv := by unfold mvC Cel.ocv; rfl
@[simp] theorem mvC_cold (c : Cel) (d : Nat -> Int) : (mvC c d).cold = c.cold := by unfold mvC Cel.cold; rfl
@[simp] theorem mvC_stress (c : Cel) (d : Nat -> Int) : (mvC c d).stress = c.stress := by unfold mvC Cel.stress; rfl
@[simp] theorem mvC_keep (c : Cel) (d : Nat -> Int) : (mvC c d).keep = c.keep := by unfold mvC Cel.keep; rfl
@[simp] theorem mvC_cyc (c : Cel) (d : Nat -> Int) : (mvC c d).cyc = c.cyc := by unfold mvC Cel.cyc; rfl
@[simp] theorem mvC_agel (c : Cel) (d : Nat -> Int) : (mvC c d).agel = c.agel := by unfold mvC Cel.agel; rfl
@[simp] theorem mvC_grow (c : Cel) (d : Nat -> Int) : (mvC c d).grow = c.grow := by unfold mvC Cel.grow; rfl
@[irreducible] def ofsB (d : Nat -> Int) : Prop := ∀ k, k < 7 -> -1099511627776 <= d k /\ d k <= 1099511627776
def numF : SpecF [.cells 26 celCells] [.own 0 0] :=
 ⟨fun _ _ => True, fun _ _ => .agg [.own 0 0, .own 0 3, .own 0 6, .own 0 7, .own 0 9, .own 0 10, .own 0 11], fun (c, _) _ => encH [.cells 26 celCells] (c, ())⟩
set_option maxRecDepth 100000 in
theorem num_ok : FnSpecF Tryz.prog 102 _ _ numF := by
 refine FnSpecF.of SRg_ok mixed (U := 0) (I := fun _ _ => []) Tryz.func102 rfl (by kernel_rfl) rfl (by decide +kernel) ?_
 rintro ⟨c, ⟨⟩⟩ ⟨⟨⟩, ⟨⟩⟩ hpre
 obtain ⟨c, rfl⟩ := cel_ex c
 unfold FnSat
 conv => arg 2; reduce
 simp [numF, aliveB, getB, encH, encB, encL_cel, ElEq, and_assoc]
noncomputable def SBa : Sums := ⟨SRg.one, (102, mkSumF _ _ numF) :: SRg.two, SRg.lo, SRg.eqs, SRg.its, SRg.imm⟩
theorem SBa_ok : SumsOK Tryz.prog SBa := SRg_ok.addTwo Tryz.func102 (by kernel_rfl) (by kernel_rfl) (mkSumF_ok num_ok)
def elo : Spec [.int .i64, .ptr [spansSh]] := ⟨fun ((i : Int), ((n, _), _), _) => 0 <= i /\ i < (n : Int), fun ((i : Int), ((_, el), _), _) => .si .i64 (el (nat i)).1⟩
set_option maxRecDepth 100000 in
theorem elo_ok : FnSpec Tryz.prog 163 _ elo := by
 refine FnSpec.of SRg_ok mixed (U := 0) (I := fun _ => []) Tryz.func163 rfl (by kernel_rfl) rfl rfl (by decide +kernel) ?_
 rintro ⟨(i : Int), ⟨⟨n, el⟩, ⟨⟩⟩, ⟨⟩⟩ ⟨(h1 : 0 <= i), (h2 : i < (n : Int))⟩
 obtain ⟨lo, hi, rfl⟩ : ∃ lo hi : Nat -> Int, el = fun k => (lo k, hi k, ()) := ⟨fun k => (el k).1, fun k => (el k).2.1, rfl⟩
 unfold FnSat
 conv => arg 2; reduce
 simp [elo]
 omega
def ehi : Spec [.int .i64, .ptr [spansSh]] := ⟨fun ((i : Int), ((n, _), _), _) => 0 <= i /\ i < (n : Int), fun ((i : Int), ((_, el), _), _) => .si .i64 (el (nat i)).2.1⟩
set_option maxRecDepth 100000 in
theorem ehi_ok : FnSpec Tryz.prog 164 _ ehi := by
 refine FnSpec.of SRg_ok mixed (U := 0) (I := fun _ => []) Tryz.func164 rfl (by kernel_rfl) rfl rfl (by decide +kernel) ?_
 rintro ⟨(i : Int), ⟨⟨n, el⟩, ⟨⟩⟩, ⟨⟩⟩ ⟨(h1 : 0 <= i), (h2 : i < (n : Int))⟩
 obtain ⟨lo, hi, rfl⟩ : ∃ lo hi : Nat -> Int, el = fun k => (lo k, hi k, ()) := ⟨fun k => (el k).1, fun k => (el k).2.1, rfl⟩
 unfold FnSat
 conv => arg 2; reduce
 simp [ehi]
 omega
noncomputable def SBb : Sums := ⟨(164, mkSum _ ehi) :: (163, mkSum _ elo) :: SBa.one, SBa.two, SBa.lo, SBa.eqs, SBa.its, SBa.imm⟩
theorem SBb_ok : SumsOK Tryz.prog SBb := ((SBa_ok.cons Tryz.func163 (by kernel_rfl) (by kernel_rfl) elo_ok).cons Tryz.func164 (by kernel_rfl) (by kernel_rfl) ehi_ok)
@[reducible] def mvA (c : Cel) (d : Nat -> Int) : AV := .agg [.si .i64 (mvC c d).cap, .slc (.sym c.ocv.nx) 1 (fun k => [.si .i64 (c.ocv.x k)]), .slc (.sym c.ocv.ny) 1 (fun k => [.si .i64 (c.ocv.y k)]), .si .i64 (mvC c d).shift,
  .slc (.sym c.cold.nx) 1 (fun k => [.si .i64 (c.cold.x k)]), .slc (.sym c.cold.ny) 1 (fun k => [.si .i64 (c.cold.y k)]), .si .i64 (mvC c d).extra, .si .i64 (mvC c d).pair, .si .i64 c.keep, .si .i64 (mvC c d).leak, .si .i64 (mvC c d).hcap, .si .i64 (mvC c d).cool,
  .slc (.sym c.stress.nx) 1 (fun k => [.si .i64 (c.stress.x k)]), .slc (.sym c.stress.ny) 1 (fun k => [.si .i64 (c.stress.y k)]), .si .i64 c.cyc, .si .i64 c.agel, .si .i64 c.grow]
def moLo : Spec [celSh, .fn 163 [] [.ptr [spansSh]]] := ⟨fun (c, (_, ((n, el), _), _), _) => celB (celOf c) = true /\ n = 7 /\ ofsB (fun k => (el k).1), fun (c, (_, ((_, el), _), _), _) => mvA (celOf c) (fun k => (el k).1)⟩
set_option maxRecDepth 100000 in
set_option maxHeartbeats 2000000 in
theorem moLo_ok : FnSpec Tryz.prog 135 _ moLo := by
 refine FnSpec.of SBb_ok mixed (U := 8) (I := fun _ => []) Tryz.func135 rfl (by kernel_rfl) rfl rfl (by decide +kernel) ?_
 rintro ⟨c, ⟨y, ⟨⟨n, el⟩, ⟨⟩⟩, ⟨⟩⟩, ⟨⟩⟩ hpre
 obtain ⟨c, rfl⟩ := cel_ex c
 obtain ⟨lo, hi, rfl⟩ : ∃ lo hi : Nat -> Int, el = fun k => (lo k, hi k, ()) := ⟨fun k => (el k).1, fun k => (el k).2.1, rfl⟩
 have hpre : celB c = true /\ n = 7 /\ ofsB lo := by have : celB (celOf (celD c)) = true /\ n = 7 /\ ofsB lo := hpre; rwa [celOf_D] at this
 obtain ⟨hc, rfl, ho⟩ := hpre
 unfold FnSat
 conv => arg 2; reduce
 simp [moLo, elo, numF, encL_cel, ElEq, getB, goneB, aliveB, and_assoc]
 have hk := celB_iff.1 hc
 unfold ofsB at ho
 have a0 := ho 0 (by decide)
 have a1 := ho 1 (by decide)
 have a2 := ho 2 (by decide)
 have a3 := ho 3 (by decide)
 have a4 := ho 4 (by decide)
 have a5 := ho 5 (by decide)
 have a6 := ho 6 (by decide)
 have := hk.cap0
 have := hk.cap1
 have := hk.sh0
 have := hk.sh1
 have := hk.ex0
 have := hk.ex1
 have := hk.pr0
 have := hk.pr1
 have := hk.lk0
 have := hk.lk1
 have := hk.hc0
 have := hk.hc1
 have := hk.co0
 have := hk.co1
 omega
def moHi : Spec [celSh, .fn 164 [] [.ptr [spansSh]]] := ⟨fun (c, (_, ((n, el), _), _), _) => celB (celOf c) = true /\ n = 7 /\ ofsB (fun k => (el k).2.1), fun (c, (_, ((_, el), _), _), _) => mvA (celOf c) (fun k => (el k).2.1)⟩
set_option maxRecDepth 100000 in
set_option maxHeartbeats 2000000 in
theorem moHi_ok : FnSpec Tryz.prog 135 _ moHi := by
 refine FnSpec.of SBb_ok mixed (U := 8) (I := fun _ => []) Tryz.func135 rfl (by kernel_rfl) rfl rfl (by decide +kernel) ?_
 rintro ⟨c, ⟨y, ⟨⟨n, el⟩, ⟨⟩⟩, ⟨⟩⟩, ⟨⟩⟩ hpre
 obtain ⟨c, rfl⟩ := cel_ex c
 obtain ⟨lo, hi, rfl⟩ : ∃ lo hi : Nat -> Int, el = fun k => (lo k, hi k, ()) := ⟨fun k => (el k).1, fun k => (el k).2.1, rfl⟩
 have hpre : celB c = true /\ n = 7 /\ ofsB hi := by have : celB (celOf (celD c)) = true /\ n = 7 /\ ofsB hi := hpre; rwa [celOf_D] at this
 obtain ⟨hc, rfl, ho⟩ := hpre
 unfold FnSat
 conv => arg 2; reduce
 simp [moHi, ehi, numF, encL_cel, ElEq, getB, goneB, aliveB, and_assoc]
 have hk := celB_iff.1 hc
 unfold ofsB at ho
 have a0 := ho 0 (by decide)
 have a1 := ho 1 (by decide)
 have a2 := ho 2 (by decide)
 have a3 := ho 3 (by decide)
 have a4 := ho 4 (by decide)
 have a5 := ho 5 (by decide)
 have a6 := ho 6 (by decide)
 have := hk.cap0
 have := hk.cap1
 have := hk.sh0
 have := hk.sh1
 have := hk.ex0
 have := hk.ex1
 have := hk.pr0
 have := hk.pr1
 have := hk.lk0
 have := hk.lk1
 have := hk.hc0
 have := hk.hc1
 have := hk.co0
 have := hk.co1
 omega
noncomputable def SBc : Sums := ⟨(135, (altSum (mkSum _ moLo) (mkSum _ moHi))) :: SBb.one, SBb.two, SBb.lo, SBb.eqs, SBb.its, SBb.imm⟩
theorem SBc_ok : SumsOK Tryz.prog SBc := (SBb_ok.add Tryz.func135 (by kernel_rfl) (by kernel_rfl) (altSum_ok (mkSum_ok moLo_ok) (mkSum_ok moHi_ok)))
def qchS : Spec [spanSh] := ⟨fun _ => True, fun (((lo : Int), (hi : Int), _), _) => .si .i64 (errA (spanOK lo hi))⟩
set_option maxRecDepth 100000 in
theorem qch_ok : FnSpec Tryz.prog 162 _ qchS := by
 refine FnSpec.of SBc_ok mixed (U := 0) (I := fun _ => []) Tryz.func162 rfl (by kernel_rfl) rfl rfl (by decide +kernel) ?_
 rintro ⟨⟨(lo : Int), (hi : Int), ⟨⟩⟩, ⟨⟩⟩ -
 unfold FnSat
 conv => arg 2; reduce
 simp [qchS, validS, maxLen, decL, rowAt, takeL, dropL]
 cases spanOK lo hi <;> simp [errA]
noncomputable def SBd : Sums := ⟨(162, mkSum _ qchS) :: SBc.one, SBc.two, SBc.lo, SBc.eqs, SBc.its, SBc.imm⟩
theorem SBd_ok : SumsOK Tryz.prog SBd := (SBc_ok.cons Tryz.func162 (by kernel_rfl) (by kernel_rfl) qch_ok)
@[irreducible] def vldB (n : Nat) (lo hi : Nat -> Int) (m : Int) : Bool := decide ((n : Int) = m) && allN (fun k => spanOK (lo k) (hi k)) n
theorem vldB_iff {n : Nat} {lo hi : Nat -> Int} {m : Int} : vldB n lo hi m = true ↔ (n : Int) = m /\ ∀ k, k < n -> spanOK (lo k) (hi k) = true := by unfold vldB; rw [Bool.and_eq_true, decide_eq_true_eq, allN_iff]
def vldS : Spec [spansSh, .int .i64] := ⟨fun (x, _) => x.1 <= maxLen, fun ((n, el), (m : Int), _) => .sb (vldB n (fun k => (el k).1) (fun k => (el k).2.1) m)⟩
def vldI : DatL [spansSh, .int .i64] -> Anns := fun ((n, el), (m : Int), _) => [
 (4, [], fun fr hp => ⟨Nat, fun g => ⟨frI [.k 6, .t 1, .k 6, .s (.si .i64 (icast g)), .t 7] fr, hp⟩, Nat × Nat × (Nat -> Int) × (Nat -> Int), fun g => (g, n, (fun k => (el k).1), (fun k => (el k).2.1)), fun (g, n, lo, hi) => g <= n /\ ∀ k, k < g -> spanOK (lo k) (hi k) = true, fun g => nsub n g⟩)]
set_option maxRecDepth 100000 in
theorem vld_ok : FnSpec Tryz.prog 101 _ vldS := by
 refine FnSpec.of SBd_ok mixed (U := 0) (I := vldI) Tryz.func101 rfl (by kernel_rfl) rfl rfl (by decide +kernel) ?_
 rintro ⟨⟨n, el⟩, (m : Int), ⟨⟩⟩ (hn : n <= maxLen)
 obtain ⟨lo, hi, rfl⟩ : ∃ lo hi : Nat -> Int, el = fun k => (lo k, hi k, ()) := ⟨fun k => (el k).1, fun k => (el k).2.1, rfl⟩
 unfold FnSat
 conv => arg 2; reduce
 unfold maxLen at hn
 simp [vldS, qchS, and_assoc]
 have no : (vldB n lo hi m = true -> False) -> vldB n lo hi m = false := fun h => by cases hb : vldB n lo hi m with | false => rfl | true => exact (h hb).elim
 refine ⟨fun h => no fun hb => h (vldB_iff.1 hb).1, fun h => ⟨⟨0, rfl, by omega, fun k hk => by omega⟩, fun g hg hf => ⟨fun hlt => ⟨hlt, fun hb => no fun hv => ?_, fun hb => ⟨by omega, by omega, g + 1, by omega, by omega, fun k hk => ?_, by omega⟩⟩, fun hge => vldB_iff.2 ⟨h, fun k hk => hf k (by omega)⟩⟩⟩⟩
 ·have := (vldB_iff.1 hv).2 g hlt
  rw [hb] at this; cases this
 ·by_cases h' : k < g
  ·exact hf k h'
  ·obtain rfl : k = g := by omega
   exact hb
def insC : Spec [spanSh, .int .i64, .int .i64] := ⟨fun _ => True, fun (((l : Int), (h : Int), _), (a : Int), (b : Int), _) => .sb (insV a l h b)⟩
set_option maxRecDepth 100000 in
theorem cin_ok : FnSpec Tryz.prog 72 _ insC := by
 refine FnSpec.of SBd_ok mixed (U := 0) (I := fun _ => []) Tryz.func72 rfl (by kernel_rfl) rfl rfl (by decide +kernel) ?_
 rintro ⟨⟨(l : Int), (h : Int), ⟨⟩⟩, (a : Int), (b : Int), ⟨⟩⟩ -
 unfold FnSat
 conv => arg 2; reduce
 simp [insC, insV]
@[irreducible] def hlo (n : Nat) (v : Nat -> Int) : Int := if n = 2 then min (v 0) (v 1) else min (min (v 0) (v 1)) (min (v 2) (v 3))
@[irreducible] def hhi (n : Nat) (v : Nat -> Int) : Int := if n = 2 then max (v 0) (v 1) else max (max (v 0) (v 1)) (max (v 2) (v 3))
theorem hlo2 (v : Nat -> Int) : hlo 2 v = min (v 0) (v 1) := by unfold hlo; rw [if_pos rfl]
theorem hhi2 (v : Nat -> Int) : hhi 2 v = max (v 0) (v 1) := by unfold hhi; rw [if_pos rfl]
theorem hlo4 (v : Nat -> Int) : hlo 4 v = min (min (v 0) (v 1)) (min (v 2) (v 3)) := by unfold hlo; rw [if_neg (by decide)]
theorem hhi4 (v : Nat -> Int) : hhi 4 v = max (max (v 0) (v 1)) (max (v 2) (v 3)) := by unfold hhi; rw [if_neg (by decide)]
def hulS : Spec [intsSh] := ⟨fun ((n, _), _) => n = 2 \/ n = 4, fun ((n, el), _) => .tup [.si .i64 (hlo n (fun k => (el k).1)), .si .i64 (hhi n (fun k => (el k).1))]⟩
set_option maxRecDepth 100000 in
theorem hul_ok : FnSpec Tryz.prog 182 _ hulS := by
 refine FnSpec.of SBd_ok mixed (U := 6) (I := fun _ => []) Tryz.func182 rfl (by kernel_rfl) rfl rfl (by decide +kernel) ?_
 rintro ⟨⟨n, el⟩, ⟨⟩⟩ (hn : n = 2 \/ n = 4)
 obtain ⟨v, rfl⟩ : ∃ v : Nat -> Int, el = fun k => (v k, ()) := ⟨fun k => (el k).1, rfl⟩
 unfold FnSat
 conv => arg 2; reduce
 rcases hn with rfl | rfl
 ·simp [hulS, and_assoc, hlo2, hhi2]
  try omega
 ·simp [hulS, and_assoc, hlo4, hhi4]
  try omega
noncomputable def SBe0 : Sums := ⟨(182, mkSum _ hulS) :: (72, mkSum _ insC) :: SBd.one, SBd.two, SBd.lo, SBd.eqs, SBd.its, SBd.imm⟩
theorem SBe0_ok : SumsOK Tryz.prog SBe0 := ((SBd_ok.cons Tryz.func72 (by kernel_rfl) (by kernel_rfl) cin_ok).cons Tryz.func182 (by kernel_rfl) (by kernel_rfl) hul_ok)
theorem mulB {K L a c : Int} (ha : -K <= a /\ a <= K) (hc : -L <= c /\ c <= L) : -(K * L) <= a * c /\ a * c <= K * L := by
 have hK : 0 <= K := by omega
 have hL : 0 <= L := by omega
 have h1 : (a * c).natAbs <= (K * L).natAbs := by
  rw [Int.natAbs_mul, Int.natAbs_mul]
  exact Nat.mul_le_mul (by omega) (by omega)
 have h2 : 0 <= K * L := Int.mul_nonneg hK hL
 omega
def proS : Spec [spanSh, spanSh] := ⟨fun (((a : Int), (b : Int), _), ((c : Int), (d : Int), _), _) => (-1099511627776 <= a /\ a <= 1099511627776) /\ (-1099511627776 <= b /\ b <= 1099511627776) /\ (-4194304 <= c /\ c <= 4194304) /\ (-4194304 <= d /\ d <= 4194304),
 fun (((a : Int), (b : Int), _), ((c : Int), (d : Int), _), _) => .tup [.si .i64 (min (min (a * c) (a * d)) (min (b * c) (b * d))), .si .i64 (max (max (a * c) (a * d)) (max (b * c) (b * d)))]⟩
set_option maxRecDepth 100000 in
theorem pro_ok : FnSpec Tryz.prog 145 _ proS := by
 refine FnSpec.of SBe0_ok mixed (U := 0) (I := fun _ => []) Tryz.func145 rfl (by kernel_rfl) rfl rfl (by decide +kernel) ?_
 rintro ⟨⟨(a : Int), (b : Int), ⟨⟩⟩, ⟨(c : Int), (d : Int), ⟨⟩⟩, ⟨⟩⟩ ⟨ha, hb, hc, hd⟩
 unfold FnSat
 conv => arg 2; reduce
 simp [proS, hulS, decL, takeL, dropL, and_assoc]
 have h1 := mulB (K := 1099511627776) (L := 4194304) ha hc
 have h2 := mulB (K := 1099511627776) (L := 4194304) ha hd
 have h3 := mulB (K := 1099511627776) (L := 4194304) hb hc
 have h4 := mulB (K := 1099511627776) (L := 4194304) hb hd
 refine ⟨by omega, by omega, by omega, by omega, by omega, by omega, by omega, by omega, fun k hk => ?_, ?_, ?_⟩
 ·match k, hk with
  | 0, _ => simp [rowAt, takeL, dropL]
  | 1, _ => simp [rowAt, takeL, dropL]
  | 2, _ => simp [rowAt, takeL, dropL]
  | 3, _ => simp [rowAt, takeL, dropL]
 ·rw [hlo4]
  exact Int.min_assoc ..
 ·rw [hhi4]
  exact Int.max_assoc ..
end
end Abs
end Go.Proofs.YtlabbaglbcmofaaGreat

namespace Go.Proofs.YtlabbaglbcmofaaGreat
namespace Abs
open Go Go.RowKit
noncomputable section
attribute [local irreducible] FnSat
theorem celOf_mv (c : Cel) (d : Nat -> Int) : celOf (c.cap + d 0, (c.ocv.nx, fun k => (c.ocv.x k, ())), (c.ocv.ny, fun k => (c.ocv.y k, ())), c.shift + d 1, (c.cold.nx, fun k => (c.cold.x k, ())), (c.cold.ny, fun k => (c.cold.y k, ())),
  c.extra + d 2, c.pair + d 3, c.keep, c.leak + d 4, c.hcap + d 5, c.cool + d 6, (c.stress.nx, fun k => (c.stress.x k, ())), (c.stress.ny, fun k => (c.stress.y k, ())), c.cyc, c.agel, c.grow, ()) = mvC c d := by
 have := celOf_mk (mvC c d)
 simpa only [mvC_cap, mvC_shift, mvC_extra, mvC_pair, mvC_leak, mvC_hcap, mvC_cool, mvC_ocv, mvC_cold, mvC_stress, mvC_keep, mvC_cyc, mvC_agel, mvC_grow] using this
theorem vldB_ofs {n : Nat} {lo hi : Nat -> Int} (h : vldB n lo hi 7 = true) : n = 7 /\ ofsB lo /\ ofsB hi := by
 obtain ⟨h1, h2⟩ := vldB_iff.1 h
 have h1 : n = 7 := by omega
 subst h1
 refine ⟨rfl, ?_, ?_⟩ <;>
 ·unfold ofsB
  intro k hk
  have := spanOK_iff.1 (h2 k hk)
  omega
noncomputable def SBi : Sums := ⟨SBe0.one, SBe0.two, SBe0.lo, SBe0.eqs, SBe0.its, [27]⟩
theorem SBi_ok : SumsOK Tryz.prog SBi := SBe0_ok.setImm _
def endS : Spec [celSh, spansSh] := ⟨fun (c, (n, el), _) => celB (celOf c) = true /\ n = 7 /\ ofsB (fun k => (el k).1) /\ ofsB (fun k => (el k).2.1), fun (c, (_, el), _) => .tup [mvA (celOf c) (fun k => (el k).1), mvA (celOf c) (fun k => (el k).2.1)]⟩
set_option maxRecDepth 100000 in
set_option maxHeartbeats 2000000 in
theorem end_ok : FnSpec Tryz.prog 103 _ endS := by
 refine FnSpec.of SBi_ok mixed (U := 0) (I := fun _ => []) Tryz.func103 rfl (by kernel_rfl) rfl rfl (by decide +kernel) ?_
 rintro ⟨c, ⟨n, el⟩, ⟨⟩⟩ hpre
 obtain ⟨c, rfl⟩ := cel_ex c
 obtain ⟨lo, hi, rfl⟩ : ∃ lo hi : Nat -> Int, el = fun k => (lo k, hi k, ()) := ⟨fun k => (el k).1, fun k => (el k).2.1, rfl⟩
 have hpre : celB c = true /\ n = 7 /\ ofsB lo /\ ofsB hi := by have : celB (celOf (celD c)) = true /\ n = 7 /\ ofsB lo /\ ofsB hi := hpre; rwa [celOf_D] at this
 obtain ⟨hc, rfl, ho, ho2⟩ := hpre
 unfold FnSat
 conv => arg 2; reduce
 simp [endS, moLo, moHi, ElEq, getB, goneB, aliveB, and_assoc]
 exact ⟨hc, ho, hc, ho2⟩
def num0 : Spec [.ptr celCells] := ⟨fun _ => True, fun _ => .top⟩
set_option maxRecDepth 100000 in
theorem num0_ok : FnSpec Tryz.prog 102 _ num0 := by
 refine FnSpec.of SRg_ok mixed (U := 0) (I := fun _ => []) Tryz.func102 rfl (by kernel_rfl) rfl rfl (by decide +kernel) ?_
 rintro ⟨c, ⟨⟩⟩ -
 obtain ⟨c, rfl⟩ := cel_ex c
 unfold FnSat
 conv => arg 2; reduce
 simp [num0]
noncomputable def SBf0 : Sums := ⟨(101, mkSum _ vldS) :: (145, mkSum _ proS) :: (102, mkSum _ num0) :: (103, mkSum _ endS) :: SBe0.one, SBe0.two, SBe0.lo, SBe0.eqs, SBe0.its, SBe0.imm⟩
theorem SBf0_ok : SumsOK Tryz.prog SBf0 := ((((SBe0_ok.cons Tryz.func103 (by kernel_rfl) (by kernel_rfl) end_ok).cons Tryz.func102 (by kernel_rfl) (by kernel_rfl) num0_ok).cons Tryz.func145 (by kernel_rfl) (by kernel_rfl) pro_ok).cons Tryz.func101 (by kernel_rfl) (by kernel_rfl) vld_ok)
noncomputable def SBf : Sums := ⟨SBf0.one, SRg.two, SBe0.lo, SBe0.eqs, SBe0.its, [26]⟩
theorem SBf_ok : SumsOK Tryz.prog SBf := ⟨SBf0_ok.one, SRg_ok.two, SBf0_ok.eqs, SBf0_ok.bodyOne, SRg_ok.bodyTwo, SBf0_ok.its⟩
@[irreducible] def posV (c : Cel) (n : Nat) (lo hi : Nat -> Int) : Int := if (celB c && vldB n lo hi 7) = true then (if (celB (mvC c lo) && celB (mvC c hi)) = true then 0 else 3) else 2
theorem posV_arg {c : Cel} {n : Nat} {lo hi : Nat -> Int} (h : (celB c && vldB n lo hi 7) = false) : posV c n lo hi = 2 := by unfold posV; rw [h]; rfl
theorem posV_rng {c : Cel} {n : Nat} {lo hi : Nat -> Int} (h1 : celB c = true) (h2 : vldB n lo hi 7 = true) (h : (celB (mvC c lo) && celB (mvC c hi)) = false) : posV c n lo hi = 3 := by unfold posV; rw [h1, h2, h]; rfl
theorem posV_ok {c : Cel} {n : Nat} {lo hi : Nat -> Int} (h1 : celB c = true) (h2 : vldB n lo hi 7 = true) (h3 : celB (mvC c lo) = true) (h4 : celB (mvC c hi) = true) : posV c n lo hi = 0 := by unfold posV; rw [h1, h2, h3, h4]; rfl
theorem posV_zero {c : Cel} {n : Nat} {lo hi : Nat -> Int} : posV c n lo hi = 0 ↔ celB c = true /\ vldB n lo hi 7 = true /\ celB (mvC c lo) = true /\ celB (mvC c hi) = true := by
 unfold posV
 cases celB c <;> cases vldB n lo hi 7 <;> cases celB (mvC c lo) <;> cases celB (mvC c hi) <;> simp
theorem mvM {c : Cel} (h : CelMax c) (d : Nat -> Int) : CelMax (mvC c d) := by
 unfold CelMax at h ⊢
 simpa using h
def posS : Spec [celSh, spansSh] := ⟨fun (c, x, _) => CelMax (celOf c) /\ x.1 <= maxLen, fun (c, (n, el), _) => .si .i64 (posV (celOf c) n (fun k => (el k).1) (fun k => (el k).2.1))⟩
set_option maxRecDepth 100000 in
set_option maxHeartbeats 2000000 in
theorem pos_ok : FnSpec Tryz.prog 44 _ posS := by
 refine FnSpec.of SBf_ok mixed (U := 0) (I := fun _ => []) Tryz.func44 rfl (by kernel_rfl) rfl rfl (by decide +kernel) ?_
 rintro ⟨c, ⟨n, el⟩, ⟨⟩⟩ hpre
 obtain ⟨c, rfl⟩ := cel_ex c
 obtain ⟨lo, hi, rfl⟩ : ∃ lo hi : Nat -> Int, el = fun k => (lo k, hi k, ()) := ⟨fun k => (el k).1, fun k => (el k).2.1, rfl⟩
 have hpre : CelMax c /\ n <= maxLen := by have : CelMax (celOf (celD c)) /\ n <= maxLen := hpre; rwa [celOf_D] at this
 obtain ⟨hc, hn⟩ := hpre
 unfold FnSat
 conv => arg 2; reduce
 simp [posS, ccheckS, vldS, endS, num0, celOf_mv, and_assoc]
 refine ⟨hc, fun _ => hn, fun h => (posV_arg ?_).symm, fun h1 h2 => ⟨h1, (vldB_ofs h2).1, (vldB_ofs h2).2.1, (vldB_ofs h2).2.2, mvM hc lo, fun _ => mvM hc hi, fun h => (posV_rng h1 h2 ?_).symm, fun h3 h4 => (posV_ok h1 h2 h3 h4).symm⟩⟩
 ·rcases h with h | h
  ·rw [h]; rfl
  ·rw [h, Bool.and_false]
 ·rcases h with h | h
  ·rw [show celB (mvC c fun k => lo k) = false from h]; rfl
  ·rw [show celB (mvC c fun k => hi k) = false from h, Bool.and_false]
end
end Abs
end Go.Proofs.YtlabbaglbcmofaaGreat

namespace Go.Proofs.YtlabbaglbcmofaaGreat
namespace Abs
open Go Go.RowKit
noncomputable section
attribute [local irreducible] FnSat
noncomputable def SBg0 : Sums := ⟨(44, mkSum _ posS) :: SBf0.one, SBf0.two, SBf0.lo, SBf0.eqs, SBf0.its, SBf0.imm⟩
theorem SBg0_ok : SumsOK Tryz.prog SBg0 := (SBf0_ok.cons Tryz.func44 (by kernel_rfl) (by kernel_rfl) pos_ok)
noncomputable def SBg : Sums := ⟨SBg0.one, SBg0.two, SBg0.lo, SBg0.eqs, SBg0.its, [26]⟩
theorem SBg_ok : SumsOK Tryz.prog SBg := SBg0_ok.setImm _
@[irreducible] def boxB (n : Nat) (lo hi : Nat -> Int) : Bool := decide (n = 5) && insV 0 (lo 0) (hi 0) 4294967296 && insV (-8388608) (lo 1) (hi 1) 8388608 && insV 0 (lo 2) (hi 2) 400000 && insV 0 (lo 3) (hi 3) 1099511627776 && insV 0 (lo 4) (hi 4) 1099511627776
theorem boxB_iff {n : Nat} {lo hi : Nat -> Int} : boxB n lo hi = true ↔ n = 5 /\ insV 0 (lo 0) (hi 0) 4294967296 = true /\ insV (-8388608) (lo 1) (hi 1) 8388608 = true /\ insV 0 (lo 2) (hi 2) 400000 = true /\ insV 0 (lo 3) (hi 3) 1099511627776 = true /\ insV 0 (lo 4) (hi 4) 1099511627776 = true := by
 unfold boxB; simp [and_assoc]
theorem boxB_no {n : Nat} {lo hi : Nat -> Int} (h : boxB n lo hi = true -> False) : boxB n lo hi = false := by
 cases hb : boxB n lo hi with
 | false => rfl
 | true => exact (h hb).elim
@[irreducible] def chkV (c : Cel) (n : Nat) (lo hi : Nat -> Int) (m : Nat) (bl bh : Nat -> Int) : Int := if posV c n lo hi = 0 then errA (boxB m bl bh) else posV c n lo hi
theorem chkV_pos {c : Cel} {n : Nat} {lo hi : Nat -> Int} {m : Nat} {bl bh : Nat -> Int} (h : ¬ posV c n lo hi = 0) : posV c n lo hi = chkV c n lo hi m bl bh := by unfold chkV; rw [if_neg h]
theorem chkV_no {c : Cel} {n : Nat} {lo hi : Nat -> Int} {m : Nat} {bl bh : Nat -> Int} (h : posV c n lo hi = 0) (hb : boxB m bl bh = true -> False) : 2 = chkV c n lo hi m bl bh := by unfold chkV; rw [if_pos h, boxB_no hb, errA_false]
theorem chkV_ok {c : Cel} {n : Nat} {lo hi : Nat -> Int} {m : Nat} {bl bh : Nat -> Int} (h : posV c n lo hi = 0) (hb : boxB m bl bh = true) : 0 = chkV c n lo hi m bl bh := by unfold chkV; rw [if_pos h, hb, errA_true]
theorem chkV_zero {c : Cel} {n : Nat} {lo hi : Nat -> Int} {m : Nat} {bl bh : Nat -> Int} : chkV c n lo hi m bl bh = 0 ↔ posV c n lo hi = 0 /\ boxB m bl bh = true := by
 unfold chkV
 by_cases h : posV c n lo hi = 0
 ·rw [if_pos h]; simp [h]
 ·rw [if_neg h]; simp [h]
def chkS : Spec [celSh, spansSh, spansSh] := ⟨fun (c, x, y, _) => CelMax (celOf c) /\ x.1 <= maxLen /\ y.1 <= maxLen, fun (c, (n, el), (m, em), _) => .si .i64 (chkV (celOf c) n (fun k => (el k).1) (fun k => (el k).2.1) m (fun k => (em k).1) (fun k => (em k).2.1))⟩
set_option maxRecDepth 100000 in
set_option maxHeartbeats 2000000 in
theorem chk_ok : FnSpec Tryz.prog 71 _ chkS := by
 refine FnSpec.of SBg_ok mixed (U := 7) (I := fun _ => []) Tryz.func71 rfl (by kernel_rfl) rfl rfl (by decide +kernel) ?_
 rintro ⟨c, ⟨n, el⟩, ⟨m, em⟩, ⟨⟩⟩ hpre
 obtain ⟨c, rfl⟩ := cel_ex c
 obtain ⟨lo, hi, rfl⟩ : ∃ lo hi : Nat -> Int, el = fun k => (lo k, hi k, ()) := ⟨fun k => (el k).1, fun k => (el k).2.1, rfl⟩
 obtain ⟨bl, bh, rfl⟩ : ∃ bl bh : Nat -> Int, em = fun k => (bl k, bh k, ()) := ⟨fun k => (em k).1, fun k => (em k).2.1, rfl⟩
 have hpre : CelMax c /\ n <= maxLen /\ m <= maxLen := by have : CelMax (celOf (celD c)) /\ n <= maxLen /\ m <= maxLen := hpre; rwa [celOf_D] at this
 obtain ⟨hc, hn, hm⟩ := hpre
 unfold FnSat
 conv => arg 2; reduce
 simp [chkS, posS, insC, ElEq, getB, goneB, aliveB, and_assoc]
 refine ⟨hc, hn, fun h => chkV_pos h, fun h => ⟨fun q => chkV_no h fun hb => q (by have := (boxB_iff.1 hb).1; omega), fun q => ⟨by omega, fun q0 => chkV_no h fun hb => ?_, fun q0 => ⟨by omega, fun q1 => chkV_no h fun hb => ?_, fun q1 => ⟨by omega, fun q2 => chkV_no h fun hb => ?_, fun q2 => ⟨by omega, fun q3 => chkV_no h fun hb => ?_, fun q3 => ⟨by omega, fun q4 => chkV_no h fun hb => ?_, fun q4 => chkV_ok h (boxB_iff.2 ⟨by omega, q0, q1, q2, q3, q4⟩)⟩⟩⟩⟩⟩⟩⟩
 ·rw [(boxB_iff.1 hb).2.1] at q0; cases q0
 ·rw [(boxB_iff.1 hb).2.2.1] at q1; cases q1
 ·rw [(boxB_iff.1 hb).2.2.2.1] at q2; cases q2
 ·rw [(boxB_iff.1 hb).2.2.2.2.1] at q3; cases q3
 ·rw [(boxB_iff.1 hb).2.2.2.2.2] at q4; cases q4
@[irreducible] def sqL (a b : Int) : Int := if a <= 0 /\ 0 <= b then 0 else min (a * a) (b * b)
@[irreducible] def sqH (a b : Int) : Int := max (a * a) (b * b)
def sqrS : Spec [spanSh] := ⟨fun (((a : Int), (b : Int), _), _) => (-1073741824 <= a /\ a <= 1073741824) /\ (-1073741824 <= b /\ b <= 1073741824), fun (((a : Int), (b : Int), _), _) => .tup [.si .i64 (sqL a b), .si .i64 (sqH a b)]⟩
set_option maxRecDepth 100000 in
theorem sqr_ok : FnSpec Tryz.prog 198 _ sqrS := by
 refine FnSpec.of SBg0_ok mixed (U := 0) (I := fun _ => []) Tryz.func198 rfl (by kernel_rfl) rfl rfl (by decide +kernel) ?_
 rintro ⟨⟨(a : Int), (b : Int), ⟨⟩⟩, ⟨⟩⟩ ⟨ha, hb⟩
 unfold FnSat
 conv => arg 2; reduce
 simp [sqrS, hulS, decL, takeL, dropL, ElEq, getB, goneB, aliveB, and_assoc]
 have h1 := mulB (K := 1073741824) (L := 1073741824) ha ha
 have h2 := mulB (K := 1073741824) (L := 1073741824) hb hb
 have eh : ∀ v : Nat -> Int, v 0 = a * a -> v 1 = b * b -> hhi 2 v = sqH a b := fun v e0 e1 => by rw [hhi2, e0, e1]; unfold sqH; rfl
 have el : ∀ v : Nat -> Int, v 0 = a * a -> v 1 = b * b -> (a <= 0 -> b < 0) -> hlo 2 v = sqL a b := fun v e0 e1 hn => by rw [hlo2, e0, e1]; unfold sqL; rw [if_neg (by omega)]
 refine ⟨by omega, by omega, by omega, by omega, fun k hk => ?_, fun q1 q2 => ⟨by unfold sqL; rw [if_pos ⟨q1, q2⟩], eh _ rfl rfl⟩, fun q => ⟨el _ rfl rfl q, eh _ rfl rfl⟩⟩
 match k, hk with
 | 0, _ => simp [rowAt, takeL, dropL]
 | 1, _ => simp [rowAt, takeL, dropL]
end
end Abs
end Go.Proofs.YtlabbaglbcmofaaGreat

namespace Go.Proofs.YtlabbaglbcmofaaGreat
namespace Abs
open Go Go.RowKit
noncomputable section
attribute [local irreducible] FnSat
structure Wid where
 a0 : Cel
 a1 : Cel
 a2 : Nat
 a3 : Nat -> Int
 a4 : Nat -> Int
 a5 : Int
 a6 : Int
 a7 : Int
 a8 : Int
 a9 : Int
 a10 : Int
@[irreducible] def Wid.lo (x : Wid) : Cel := x.a0
@[irreducible] def Wid.hi (x : Wid) : Cel := x.a1
@[irreducible] def Wid.n (x : Wid) : Nat := x.a2
@[irreducible] def Wid.bl (x : Wid) : Nat -> Int := x.a3
@[irreducible] def Wid.bh (x : Wid) : Nat -> Int := x.a4
@[irreducible] def Wid.wl (x : Wid) : Int := x.a5
@[irreducible] def Wid.wh (x : Wid) : Int := x.a6
@[irreducible] def Wid.fl (x : Wid) : Int := x.a7
@[irreducible] def Wid.fh (x : Wid) : Int := x.a8
@[irreducible] def Wid.rl (x : Wid) : Int := x.a9
@[irreducible] def Wid.rh (x : Wid) : Int := x.a10
@[reducible] def widCells : List Sh := [.int .i64, intsSh, intsSh, .int .i64, intsSh, intsSh, .int .i64, .int .i64, .int .i64, .int .i64, .int .i64, .int .i64, intsSh, intsSh, .int .i64, .int .i64, .int .i64, .int .i64, intsSh, intsSh, .int .i64, intsSh, intsSh, .int .i64, .int .i64, .int .i64, .int .i64, .int .i64, .int .i64, intsSh, intsSh, .int .i64, .int .i64, .int .i64, spansSh, .int .i64, .int .i64, .int .i64, .int .i64, .int .i64, .int .i64]
abbrev SpansD := Nat × (Nat -> Int × Int × Unit)
abbrev WidD := Int × IntsD × IntsD × Int × IntsD × IntsD × Int × Int × Int × Int × Int × Int × IntsD × IntsD × Int × Int × Int × Int × IntsD × IntsD × Int × IntsD × IntsD × Int × Int × Int × Int × Int × Int × IntsD × IntsD × Int × Int × Int × SpansD × Int × Int × Int × Int × Int × Int × Unit
@[irreducible] def widOf (x : WidD) : Wid :=
 let (a0, a1, a2, a3, a4, a5, a6, a7, a8, a9, a10, a11, a12, a13, a14, a15, a16, b0, b1, b2, b3, b4, b5, b6, b7, b8, b9, b10, b11, b12, b13, b14, b15, b16, s, w0, w1, w2, w3, w4, w5, _) := x
 ⟨celOf (a0, a1, a2, a3, a4, a5, a6, a7, a8, a9, a10, a11, a12, a13, a14, a15, a16, ()), celOf (b0, b1, b2, b3, b4, b5, b6, b7, b8, b9, b10, b11, b12, b13, b14, b15, b16, ()), s.1, fun k => (s.2 k).1, fun k => (s.2 k).2.1, w0, w1, w2, w3, w4, w5⟩
@[reducible] def widD (x : Wid) : WidD := (x.lo.cap, (x.lo.ocv.nx, fun k => (x.lo.ocv.x k, ())), (x.lo.ocv.ny, fun k => (x.lo.ocv.y k, ())), x.lo.shift, (x.lo.cold.nx, fun k => (x.lo.cold.x k, ())), (x.lo.cold.ny, fun k => (x.lo.cold.y k, ())), x.lo.extra, x.lo.pair, x.lo.keep, x.lo.leak, x.lo.hcap, x.lo.cool, (x.lo.stress.nx, fun k => (x.lo.stress.x k, ())), (x.lo.stress.ny, fun k => (x.lo.stress.y k, ())), x.lo.cyc, x.lo.agel, x.lo.grow, x.hi.cap, (x.hi.ocv.nx, fun k => (x.hi.ocv.x k, ())), (x.hi.ocv.ny, fun k => (x.hi.ocv.y k, ())), x.hi.shift, (x.hi.cold.nx, fun k => (x.hi.cold.x k, ())), (x.hi.cold.ny, fun k => (x.hi.cold.y k, ())), x.hi.extra, x.hi.pair, x.hi.keep, x.hi.leak, x.hi.hcap, x.hi.cool, (x.hi.stress.nx, fun k => (x.hi.stress.x k, ())), (x.hi.stress.ny, fun k => (x.hi.stress.y k, ())), x.hi.cyc, x.hi.agel, x.hi.grow, (x.n, fun k => (x.bl k, x.bh k, ())), x.wl, x.wh, x.fl, x.fh, x.rl, x.rh, ())
@[simp] theorem widOf_mk (x : Wid) : widOf (x.lo.cap, (x.lo.ocv.nx, fun k => (x.lo.ocv.x k, ())), (x.lo.ocv.ny, fun k => (x.lo.ocv.y k, ())), x.lo.shift, (x.lo.cold.nx, fun k => (x.lo.cold.x k, ())), (x.lo.cold.ny, fun k => (x.lo.cold.y k, ())), x.lo.extra, x.lo.pair, x.lo.keep, x.lo.leak, x.lo.hcap, x.lo.cool, (x.lo.stress.nx, fun k => (x.lo.stress.x k, ())), (x.lo.stress.ny, fun k => (x.lo.stress.y k, ())), x.lo.cyc, x.lo.agel, x.lo.grow, x.hi.cap, (x.hi.ocv.nx, fun k => (x.hi.ocv.x k, ())), (x.hi.ocv.ny, fun k => (x.hi.ocv.y k, ())), x.hi.shift, (x.hi.cold.nx, fun k => (x.hi.cold.x k, ())), (x.hi.cold.ny, fun k => (x.hi.cold.y k, ())), x.hi.extra, x.hi.pair, x.hi.keep, x.hi.leak, x.hi.hcap, x.hi.cool, (x.hi.stress.nx, fun k => (x.hi.stress.x k, ())), (x.hi.stress.ny, fun k => (x.hi.stress.y k, ())), x.hi.cyc, x.hi.agel, x.hi.grow, (x.n, fun k => (x.bl k, x.bh k, ())), x.wl, x.wh, x.fl, x.fh, x.rl, x.rh, ()) = x := by
 unfold widOf
 simp only [celOf_mk]
 unfold Wid.lo Wid.hi Wid.n Wid.bl Wid.bh Wid.wl Wid.wh Wid.fl Wid.fh Wid.rl Wid.rh
 rfl
@[simp] theorem widOf_D (x : Wid) : widOf (widD x) = x := widOf_mk x
theorem wid_ex (x : Dat (.agg widCells)) : ∃ w : Wid, x = widD w := by
 obtain ⟨a0, a1, a2, a3, a4, a5, a6, a7, a8, a9, a10, a11, a12, a13, a14, a15, a16, b0, b1, b2, b3, b4, b5, b6, b7, b8, b9, b10, b11, b12, b13, b14, b15, b16, s, w0, w1, w2, w3, w4, w5, ⟨⟩⟩ := x
 obtain ⟨c, hc⟩ := cel_ex (a0, a1, a2, a3, a4, a5, a6, a7, a8, a9, a10, a11, a12, a13, a14, a15, a16, ())
 obtain ⟨d, hd⟩ := cel_ex (b0, b1, b2, b3, b4, b5, b6, b7, b8, b9, b10, b11, b12, b13, b14, b15, b16, ())
 refine ⟨⟨c, d, s.1, fun k => (s.2 k).1, fun k => (s.2 k).2.1, w0, w1, w2, w3, w4, w5⟩, ?_⟩
 simp only [celD, Prod.mk.injEq] at hc hd
 obtain ⟨rfl, rfl, rfl, rfl, rfl, rfl, rfl, rfl, rfl, rfl, rfl, rfl, rfl, rfl, rfl, rfl, rfl, -⟩ := hc
 obtain ⟨rfl, rfl, rfl, rfl, rfl, rfl, rfl, rfl, rfl, rfl, rfl, rfl, rfl, rfl, rfl, rfl, rfl, -⟩ := hd
 unfold widD Wid.lo Wid.hi Wid.n Wid.bl Wid.bh Wid.wl Wid.wh Wid.fl Wid.fh Wid.rl Wid.rh
 rfl
theorem encL_wid (x : Wid) : encL widCells (widD x) = [.si .i64 x.lo.cap, .slc (.sym x.lo.ocv.nx) 1 (fun k => [.si .i64 (x.lo.ocv.x k)]), .slc (.sym x.lo.ocv.ny) 1 (fun k => [.si .i64 (x.lo.ocv.y k)]), .si .i64 x.lo.shift, .slc (.sym x.lo.cold.nx) 1 (fun k => [.si .i64 (x.lo.cold.x k)]), .slc (.sym x.lo.cold.ny) 1 (fun k => [.si .i64 (x.lo.cold.y k)]), .si .i64 x.lo.extra, .si .i64 x.lo.pair, .si .i64 x.lo.keep, .si .i64 x.lo.leak, .si .i64 x.lo.hcap, .si .i64 x.lo.cool, .slc (.sym x.lo.stress.nx) 1 (fun k => [.si .i64 (x.lo.stress.x k)]), .slc (.sym x.lo.stress.ny) 1 (fun k => [.si .i64 (x.lo.stress.y k)]), .si .i64 x.lo.cyc, .si .i64 x.lo.agel, .si .i64 x.lo.grow, .si .i64 x.hi.cap, .slc (.sym x.hi.ocv.nx) 1 (fun k => [.si .i64 (x.hi.ocv.x k)]), .slc (.sym x.hi.ocv.ny) 1 (fun k => [.si .i64 (x.hi.ocv.y k)]), .si .i64 x.hi.shift, .slc (.sym x.hi.cold.nx) 1 (fun k => [.si .i64 (x.hi.cold.x k)]), .slc (.sym x.hi.cold.ny) 1 (fun k => [.si .i64 (x.hi.cold.y k)]), .si .i64 x.hi.extra, .si .i64 x.hi.pair, .si .i64 x.hi.keep, .si .i64 x.hi.leak, .si .i64 x.hi.hcap, .si .i64 x.hi.cool, .slc (.sym x.hi.stress.nx) 1 (fun k => [.si .i64 (x.hi.stress.x k)]), .slc (.sym x.hi.stress.ny) 1 (fun k => [.si .i64 (x.hi.stress.y k)]), .si .i64 x.hi.cyc, .si .i64 x.hi.agel, .si .i64 x.hi.grow, .slc (.sym x.n) 2 (fun k => [.si .i64 (x.bl k), .si .i64 (x.bh k)]), .si .i64 x.wl, .si .i64 x.wh, .si .i64 x.fl, .si .i64 x.fh, .si .i64 x.rl, .si .i64 x.rh] := rfl
@[irreducible] def wdWL (c : Cel) (bl : Nat -> Int) : Int := wearV c (bl 3) (bl 4)
@[irreducible] def wdFL (c : Cel) (hi bl bh : Nat -> Int) : Int := pcV (bl 0) (roomV (mvC c hi) (wdWL c bl))
@[irreducible] def wdFH (c : Cel) (lo bl bh : Nat -> Int) : Int := pcV (bh 0) (roomV (mvC c lo) (wdWL c bh))
@[irreducible] def wdRL (c : Cel) (lo bl bh : Nat -> Int) : Int := resV (mvC c lo) (bh 2) (wdWL c bl)
@[irreducible] def wdRH (c : Cel) (hi bl bh : Nat -> Int) : Int := resV (mvC c hi) (bl 2) (wdWL c bh)
@[irreducible] def widV (c : Cel) (lo hi : Nat -> Int) (m : Nat) (bl bh : Nat -> Int) : Wid := ⟨mvC c lo, mvC c hi, m, bl, bh, wdWL c bl, wdWL c bh, wdFL c hi bl bh, wdFH c lo bl bh, wdRL c lo bl bh, wdRH c hi bl bh⟩
theorem widV_lo (c : Cel) (lo hi : Nat -> Int) (m : Nat) (bl bh : Nat -> Int) : (widV c lo hi m bl bh).lo = mvC c lo := by unfold widV Wid.lo; rfl
theorem widV_hi (c : Cel) (lo hi : Nat -> Int) (m : Nat) (bl bh : Nat -> Int) : (widV c lo hi m bl bh).hi = mvC c hi := by unfold widV Wid.hi; rfl
theorem widV_n (c : Cel) (lo hi : Nat -> Int) (m : Nat) (bl bh : Nat -> Int) : (widV c lo hi m bl bh).n = m := by unfold widV Wid.n; rfl
theorem widV_bl (c : Cel) (lo hi : Nat -> Int) (m : Nat) (bl bh : Nat -> Int) : (widV c lo hi m bl bh).bl = bl := by unfold widV Wid.bl; rfl
theorem widV_bh (c : Cel) (lo hi : Nat -> Int) (m : Nat) (bl bh : Nat -> Int) : (widV c lo hi m bl bh).bh = bh := by unfold widV Wid.bh; rfl
theorem widV_wl (c : Cel) (lo hi : Nat -> Int) (m : Nat) (bl bh : Nat -> Int) : (widV c lo hi m bl bh).wl = wdWL c bl := by unfold widV Wid.wl; rfl
theorem widV_wh (c : Cel) (lo hi : Nat -> Int) (m : Nat) (bl bh : Nat -> Int) : (widV c lo hi m bl bh).wh = wdWL c bh := by unfold widV Wid.wh; rfl
theorem widV_fl (c : Cel) (lo hi : Nat -> Int) (m : Nat) (bl bh : Nat -> Int) : (widV c lo hi m bl bh).fl = wdFL c hi bl bh := by unfold widV Wid.fl; rfl
theorem widV_fh (c : Cel) (lo hi : Nat -> Int) (m : Nat) (bl bh : Nat -> Int) : (widV c lo hi m bl bh).fh = wdFH c lo bl bh := by unfold widV Wid.fh; rfl
theorem widV_rl (c : Cel) (lo hi : Nat -> Int) (m : Nat) (bl bh : Nat -> Int) : (widV c lo hi m bl bh).rl = wdRL c lo bl bh := by unfold widV Wid.rl; rfl
theorem widV_rh (c : Cel) (lo hi : Nat -> Int) (m : Nat) (bl bh : Nat -> Int) : (widV c lo hi m bl bh).rh = wdRH c hi bl bh := by unfold widV Wid.rh; rfl
noncomputable def SBh : Sums := ⟨SBg0.one, SBg0.two, SBg0.lo, SBg0.eqs, SBg0.its, [26]⟩
theorem SBh_ok : SumsOK Tryz.prog SBh := SBg0_ok.setImm _
def sprS : SpecN [celSh, spansSh, spansSh] := ⟨fun (c, (n, el), (m, em), _) => posV (celOf c) n (fun k => (el k).1) (fun k => (el k).2.1) = 0 /\ boxB m (fun k => (em k).1) (fun k => (em k).2.1) = true,
 fun _ => .own 0 0, fun (c, (_, el), (m, em), _) => [.cells 199 (encL widCells (widD (widV (celOf c) (fun k => (el k).1) (fun k => (el k).2.1) m (fun k => (em k).1) (fun k => (em k).2.1))))]⟩
set_option maxRecDepth 100000 in
set_option maxHeartbeats 4000000 in
theorem spr_ok : FnSpecN Tryz.prog 73 _ sprS := by
 refine FnSpecN.of SBh_ok mixed (U := 0) (I := fun _ => []) Tryz.func73 rfl (by kernel_rfl) rfl rfl (by decide +kernel) ?_
 rintro ⟨c, ⟨n, el⟩, ⟨m, em⟩, ⟨⟩⟩ hpre
 obtain ⟨c, rfl⟩ := cel_ex c
 obtain ⟨lo, hi, rfl⟩ : ∃ lo hi : Nat -> Int, el = fun k => (lo k, hi k, ()) := ⟨fun k => (el k).1, fun k => (el k).2.1, rfl⟩
 obtain ⟨bl, bh, rfl⟩ : ∃ bl bh : Nat -> Int, em = fun k => (bl k, bh k, ()) := ⟨fun k => (em k).1, fun k => (em k).2.1, rfl⟩
 have hpre : posV c n lo hi = 0 /\ boxB m bl bh = true := by have : posV (celOf (celD c)) n lo hi = 0 /\ boxB m bl bh = true := hpre; rwa [celOf_D] at this
 obtain ⟨h1, h2⟩ := hpre
 obtain ⟨hc, hv, hl, hh⟩ := posV_zero.1 h1
 obtain ⟨rfl, b0, b1, b2, b3, b4⟩ := boxB_iff.1 h2
 obtain ⟨rfl, ho, ho2⟩ := vldB_ofs hv
 unfold FnSat
 conv => arg 2; reduce
 simp [sprS, endS, wearS, roomS, pcS, resS, celOf_mv, encL_wid, widV_lo, widV_hi, widV_n, widV_bl, widV_bh, widV_wl, widV_wh, widV_fl, widV_fh, widV_rl, widV_rh, ElEq, getB, goneB, aliveB, and_assoc]
 have hk := celB_iff.1 hc
 have kl := celB_iff.1 hl
 have kh := celB_iff.1 hh
 obtain ⟨c0, c1, c2⟩ := insV_iff.1 b0
 obtain ⟨d0, d1, d2⟩ := insV_iff.1 b2
 obtain ⟨e0, e1, e2⟩ := insV_iff.1 b3
 obtain ⟨f0, f1, f2⟩ := insV_iff.1 b4
 have w1 : WearOK c (bl 3) (bl 4) := ⟨hk.cy0, hk.cy1, hk.al0, hk.al1, e0, by omega, f0, by omega⟩
 have w2 : WearOK c (bh 3) (bh 4) := ⟨hk.cy0, hk.cy1, hk.al0, hk.al1, by omega, by omega, by omega, by omega⟩
 have v1 := wearV_in w1
 have v2 := wearV_in w2
 have r1 := @roomV_in (mvC c hi) (wearV c (bl 3) (bl 4))
 have r2 := @roomV_in (mvC c lo) (wearV c (bh 3) (bh 4))
 have l0 := kl.cap0
 have l1 := kl.cap1
 have u0 := kh.cap0
 have u1 := kh.cap1
 rw [mvC_cap] at l0 l1 u0 u1
 refine ⟨hc, ho, ho2, w1, w2, by omega, by omega, by omega, by omega, by omega, by omega, r1.1, by omega, by omega, by omega, by omega, by omega, by omega, r2.1, hl, by omega, by omega, by omega, by omega, hh, by omega, by omega, by omega, by omega, ?_⟩
 unfold wdFL wdFH wdRL wdRH wdWL
 exact ⟨rfl, rfl, rfl, rfl, rfl, rfl⟩
noncomputable def SBj : Sums := ⟨(73, mkSumN _ sprS) :: SBh.one, SBh.two, SBh.lo, SBh.eqs, SBh.its, SBh.imm⟩
theorem SBj_ok : SumsOK Tryz.prog SBj := (SBh_ok.add Tryz.func73 (by kernel_rfl) (by kernel_rfl) (mkSumN_ok spr_ok))
noncomputable def SBk : Sums := ⟨SBj.one, SBj.two, SBj.lo, SBj.eqs, SBj.its, SRg.imm⟩
theorem SBk_ok : SumsOK Tryz.prog SBk := SBj_ok.setImm _
end
end Abs
end Go.Proofs.YtlabbaglbcmofaaGreat

/- A part of the proof: no statement of its own. -/
import Derived.Test.YtdfdjlijghjdaaaQG6cb9d165
import Derived.Test.YtdfdjlijghjdaaaProg
set_option linter.unusedSimpArgs false
set_option linter.unusedVariables false
namespace Go.Proofs.Ytdfdjlijghjdaaa
namespace Abs
open Go
@[irreducible] def isIn (lo x hi : Int) : Bool := decide (lo <= x) && decide (x <= hi)
@[simp] theorem isIn_eq (lo x hi : Int) : isIn lo x hi = (decide (lo <= x) && decide (x <= hi)) := by unfold isIn; rfl
@[irreducible] def fdiv (n d : Int) : Int := n / d
@[simp] theorem fdiv_eq (n d : Int) : fdiv n d = n / d := by unfold fdiv; rfl
def within : Spec [.int .i64, .int .i64, .int .i64] := ⟨fun _ => True, fun (x, lo, hi, _) => .sb (isIn lo x hi)⟩
@[irreducible] def isQ (x : Int) : Bool := isIn (-1099511627776) x 1099511627776
end Abs
end Go.Proofs.Ytdfdjlijghjdaaa

namespace Go.Proofs.Ytdfdjlijghjdaaa
namespace Abs
open Go
def firstN (p : Nat -> Bool) : Nat -> Nat
 | 0 => 0
 | n + 1 => let f := firstN p n; if f < n then f else if p n then n else n + 1
theorem firstN_zero (p : Nat -> Bool) : firstN p 0 = 0 := rfl
theorem firstN_succ (p : Nat -> Bool) (n : Nat) : firstN p (n + 1) = if firstN p n < n then firstN p n else if p n then n else n + 1 := rfl
attribute [irreducible] firstN
theorem firstN_le (p : Nat -> Bool) : ∀ n, firstN p n <= n
 | 0 => by rw [firstN_zero]; omega
 | n + 1 => by
   have := firstN_le p n
   rw [firstN_succ]
   split
   ·omega
   ·split <;> omega
theorem firstN_not (p : Nat -> Bool) : ∀ n k, k < firstN p n -> p k = false
 | 0, k, h => by rw [firstN_zero] at h; omega
 | n + 1, k, h => by
   have hle := firstN_le p n
   rw [firstN_succ] at h
   split at h
   ·exact firstN_not p n k h
   ·by_cases hk : k < n
    ·exact firstN_not p n k (by omega)
    ·split at h
     ·omega
     ·obtain rfl : k = n := by omega
      cases hp : p k with
      | false => rfl
      | true => rename_i h1; exact absurd hp h1
theorem firstN_is (p : Nat -> Bool) : ∀ n, firstN p n < n -> p (firstN p n) = true
 | 0, h => by omega
 | n + 1, h => by
   have hle := firstN_le p n
   rw [firstN_succ] at h ⊢
   split
   ·rename_i h1; exact firstN_is p n h1
   ·rename_i h1
    rw [if_neg h1] at h
    split
    ·rename_i h2; exact h2
    ·rename_i h2; rw [if_neg h2] at h; omega
theorem firstN_uniq {p : Nat -> Bool} {n k : Nat} (hk : k <= n) (h1 : ∀ j, j < k -> p j = false) (h2 : k < n -> p k = true) : firstN p n = k := by
 have hle := firstN_le p n
 rcases Nat.lt_trichotomy (firstN p n) k with h | h | h
 ·have := firstN_is p n (by omega); rw [h1 _ h] at this; cases this
 ·exact h
 ·have := firstN_not p n k h; rw [h2 (by omega)] at this; cases this
theorem firstN_ge {p : Nat -> Bool} {n k : Nat} (hk : k <= firstN p n) (h : p k = false) (hn : k < n) : k + 1 <= firstN p n := by
 rcases Nat.lt_or_ge k (firstN p n) with h1 | h1
 ·omega
 ·obtain rfl : k = firstN p n := by omega
  have := firstN_is p n hn
  rw [h] at this; cases this
theorem firstN_at {p : Nat -> Bool} {n k : Nat} (hk : k <= firstN p n) (h : p k = true) : firstN p n = k := by
 rcases Nat.lt_or_ge k (firstN p n) with h1 | h1
 ·have := firstN_not p n k h1; rw [h] at this; cases this
 ·omega
@[irreducible] def anyN (p : Nat -> Bool) (n : Nat) : Bool := decide (firstN p n < n)
theorem anyN_iff {p : Nat -> Bool} {n : Nat} : anyN p n = true ↔ ∃ k, k < n /\ p k = true := by
 unfold anyN
 simp only [decide_eq_true_eq]
 constructor
 ·intro h; exact ⟨_, h, firstN_is p n h⟩
 ·rintro ⟨k, hk, hp⟩
  rcases Nat.lt_or_ge (firstN p n) n with h | h
  ·exact h
  ·have := firstN_not p n k (by omega); rw [hp] at this; cases this
theorem anyN_false {p : Nat -> Bool} {n : Nat} : anyN p n = false ↔ ∀ k, k < n -> p k = false := by
 constructor
 ·intro h k hk
  cases hp : p k with
  | false => rfl
  | true => have := anyN_iff.2 ⟨k, hk, hp⟩; rw [h] at this; cases this
 ·intro h
  cases ha : anyN p n with
  | false => rfl
  | true => obtain ⟨k, hk, hp⟩ := anyN_iff.1 ha; rw [h k hk] at hp; cases hp
@[simp] theorem anyN_zero (p : Nat -> Bool) : anyN p 0 = false := anyN_false.2 fun k hk => by omega
theorem anyN_succ (p : Nat -> Bool) (n : Nat) : anyN p (n + 1) = (anyN p n || p n) := by
 rw [Bool.eq_iff_iff, Bool.or_eq_true, anyN_iff, anyN_iff]
 constructor
 ·rintro ⟨k, hk, hp⟩
  by_cases h : k < n
  ·exact .inl ⟨k, h, hp⟩
  ·obtain rfl : k = n := by omega
   exact .inr hp
 ·rintro (⟨k, hk, hp⟩ | hp)
  ·exact ⟨k, by omega, hp⟩
  ·exact ⟨n, by omega, hp⟩
@[simp] theorem anyN_one (p : Nat -> Bool) : anyN p 1 = p 0 := by rw [anyN_succ]; simp
@[simp] theorem anyN_two (p : Nat -> Bool) : anyN p 2 = (p 0 || p 1) := by rw [anyN_succ]; simp
@[irreducible] def allN (p : Nat -> Bool) (n : Nat) : Bool := !(anyN (fun k => !(p k)) n)
theorem allN_iff {p : Nat -> Bool} {n : Nat} : allN p n = true ↔ ∀ k, k < n -> p k = true := by
 unfold allN
 rw [Bool.not_eq_true', anyN_false]
 simp
@[irreducible] def idxN (p : Nat -> Bool) (n : Nat) : Int := if firstN p n < n then (firstN p n : Int) else -1
theorem idxN_nonneg {p : Nat -> Bool} {n : Nat} : decide (0 <= idxN p n) = anyN p n := by
 unfold idxN anyN
 split <;> rename_i h <;> simp [h] <;> omega
end Abs
end Go.Proofs.Ytdfdjlijghjdaaa

namespace Go.Proofs.Ytdfdjlijghjdaaa
namespace Abs
open Go
@[simp] theorem allN_zero (p : Nat -> Bool) : allN p 0 = true := allN_iff.2 fun k hk => by omega
theorem allN_any (p : Nat -> Bool) (n : Nat) : allN p n = !(anyN (fun k => !(p k)) n) := by unfold allN; rfl
theorem anyN_all (p : Nat -> Bool) (n : Nat) : anyN p n = !(allN (fun k => !(p k)) n) := by rw [allN_any]; simp
@[reducible] def spanSh : Sh := .agg [.int .i64, .int .i64]
@[reducible] def spansSh : Sh := .slice 2 [.int .i64, .int .i64]
@[reducible] def intsSh : Sh := .slice 1 [.int .i64]
@[reducible] def modeCells : List Sh := [.int .i64, .slice 1 [.int .i64], .slice 3 [.int .i64, .int .i64, .int .i64]]
@[reducible] def modeSh : Sh := .agg modeCells
@[reducible] def sysSh : Sh := .agg [spansSh, spansSh, .slice 3 modeCells, .slice 1 [spansSh]]
structure Vx where
 n : Nat
 v : Nat -> Int
@[irreducible] def Vx.len (x : Vx) : Nat := x.n
@[irreducible] def Vx.at (x : Vx) : Nat -> Int := x.v
@[simp] theorem Vx.len_mk (n : Nat) (v : Nat -> Int) : (Vx.mk n v).len = n := by unfold Vx.len; rfl
@[simp] theorem Vx.at_mk (n : Nat) (v : Nat -> Int) : (Vx.mk n v).at = v := by unfold Vx.at; rfl
@[irreducible] def vxOf (x : Nat × (Nat -> Int × Unit)) : Vx := ⟨x.1, fun k => (x.2 k).1⟩
@[simp] theorem vxOf_mk (b : Vx) : vxOf (b.len, fun k => (b.at k, ())) = b := by unfold vxOf Vx.len Vx.at; rfl
theorem vx_ex (x : Nat × (Nat -> Int × Unit)) : ∃ b : Vx, x = (b.len, fun k => (b.at k, ())) := ⟨vxOf x, by unfold vxOf Vx.len Vx.at; rfl⟩
@[simp] theorem vxOf_len (n : Nat) (f : Nat -> Int × Unit) : (vxOf (n, f)).len = n := by unfold vxOf Vx.len; rfl
@[simp] theorem vxOf_at (n : Nat) (f : Nat -> Int × Unit) (k : Nat) : (vxOf (n, f)).at k = (f k).1 := by unfold vxOf Vx.at; rfl
structure Bx where
 n : Nat
 l : Nat -> Int
 h : Nat -> Int
@[irreducible] def Bx.len (b : Bx) : Nat := b.n
@[irreducible] def Bx.lo (b : Bx) : Nat -> Int := b.l
@[irreducible] def Bx.hi (b : Bx) : Nat -> Int := b.h
@[simp] theorem Bx.len_mk (n : Nat) (l h : Nat -> Int) : (Bx.mk n l h).len = n := by unfold Bx.len; rfl
@[simp] theorem Bx.lo_mk (n : Nat) (l h : Nat -> Int) : (Bx.mk n l h).lo = l := by unfold Bx.lo; rfl
@[simp] theorem Bx.hi_mk (n : Nat) (l h : Nat -> Int) : (Bx.mk n l h).hi = h := by unfold Bx.hi; rfl
@[irreducible] def bxOf (x : Nat × (Nat -> Int × Int × Unit)) : Bx := ⟨x.1, fun k => (x.2 k).1, fun k => (x.2 k).2.1⟩
@[simp] theorem bxOf_mk (b : Bx) : bxOf (b.len, fun k => (b.lo k, b.hi k, ())) = b := by unfold bxOf Bx.len Bx.lo Bx.hi; rfl
theorem bx_ex (x : Nat × (Nat -> Int × Int × Unit)) : ∃ b : Bx, x = (b.len, fun k => (b.lo k, b.hi k, ())) := ⟨bxOf x, by unfold bxOf Bx.len Bx.lo Bx.hi; rfl⟩
@[simp] theorem bxOf_len (n : Nat) (f : Nat -> Int × Int × Unit) : (bxOf (n, f)).len = n := by unfold bxOf Bx.len; rfl
@[simp] theorem bxOf_lo (n : Nat) (f : Nat -> Int × Int × Unit) (k : Nat) : (bxOf (n, f)).lo k = (f k).1 := by unfold bxOf Bx.lo; rfl
@[simp] theorem bxOf_hi (n : Nat) (f : Nat -> Int × Int × Unit) (k : Nat) : (bxOf (n, f)).hi k = (f k).2.1 := by unfold bxOf Bx.hi; rfl
structure Mo where
 c : Int
 ns : Nat
 s : Nat -> Int
 nf : Nat
 f : Nat -> Int
 t : Nat -> Int
 p : Nat -> Int
@[irreducible] def Mo.cost (m : Mo) : Int := m.c
@[irreducible] def Mo.nsh (m : Mo) : Nat := m.ns
@[irreducible] def Mo.sh (m : Mo) : Nat -> Int := m.s
@[irreducible] def Mo.nfl (m : Mo) : Nat := m.nf
@[irreducible] def Mo.ff (m : Mo) : Nat -> Int := m.f
@[irreducible] def Mo.ft (m : Mo) : Nat -> Int := m.t
@[irreducible] def Mo.fp (m : Mo) : Nat -> Int := m.p
@[reducible] def mdD (m : Mo) : Int × (Nat × (Nat -> Int × Unit)) × (Nat × (Nat -> Int × Int × Int × Unit)) × Unit := (m.cost, (m.nsh, fun j => (m.sh j, ())), (m.nfl, fun j => (m.ff j, m.ft j, m.fp j, ())), ())
abbrev MoD := Int × (Nat × (Nat -> Int × Unit)) × (Nat × (Nat -> Int × Int × Int × Unit)) × Unit
@[irreducible] def mdOf (x : MoD) : Mo := ⟨x.1, x.2.1.1, fun j => (x.2.1.2 j).1, x.2.2.1.1, fun j => (x.2.2.1.2 j).1, fun j => (x.2.2.1.2 j).2.1, fun j => (x.2.2.1.2 j).2.2.1⟩
@[simp] theorem mdOf_mk (m : Mo) : mdOf (m.cost, (m.nsh, fun j => (m.sh j, ())), (m.nfl, fun j => (m.ff j, m.ft j, m.fp j, ())), ()) = m := by
 unfold mdOf Mo.cost Mo.nsh Mo.sh Mo.nfl Mo.ff Mo.ft Mo.fp; rfl
@[simp] theorem mdOf_D (m : Mo) : mdOf (mdD m) = m := mdOf_mk m
theorem md_ex (x : DatL modeCells) : ∃ m : Mo, x = mdD m := ⟨mdOf x, by unfold mdD mdOf Mo.cost Mo.nsh Mo.sh Mo.nfl Mo.ff Mo.ft Mo.fp; rfl⟩
structure Sys where
 a : Bx
 b : Bx
 nm : Nat
 m : Nat -> Mo
 nw : Nat
 w : Nat -> Bx
@[irreducible] def Sys.lim (s : Sys) : Bx := s.a
@[irreducible] def Sys.st (s : Sys) : Bx := s.b
@[irreducible] def Sys.nmd (s : Sys) : Nat := s.nm
@[irreducible] def Sys.md (s : Sys) : Nat -> Mo := s.m
@[irreducible] def Sys.nld (s : Sys) : Nat := s.nw
@[irreducible] def Sys.ld (s : Sys) : Nat -> Bx := s.w
@[reducible] def sysD (s : Sys) : (Nat × (Nat -> Int × Int × Unit)) × (Nat × (Nat -> Int × Int × Unit)) × (Nat × (Nat -> MoD)) × (Nat × (Nat -> (Nat × (Nat -> Int × Int × Unit)) × Unit)) × Unit := ((s.lim.len, fun k => (s.lim.lo k, s.lim.hi k, ())), (s.st.len, fun k => (s.st.lo k, s.st.hi k, ())), (s.nmd, fun k => mdD (s.md k)),
 (s.nld, fun k => (((s.ld k).len, fun j => ((s.ld k).lo j, (s.ld k).hi j, ())), ())), ())
@[irreducible] def sysOf (x : (Nat × (Nat -> Int × Int × Unit)) × (Nat × (Nat -> Int × Int × Unit)) × (Nat × (Nat -> MoD)) × (Nat × (Nat -> (Nat × (Nat -> Int × Int × Unit)) × Unit)) × Unit) : Sys := ⟨bxOf x.1, bxOf x.2.1, x.2.2.1.1, fun k => mdOf (x.2.2.1.2 k), x.2.2.2.1.1, fun k => bxOf (x.2.2.2.1.2 k).1⟩
@[simp] theorem sysOf_mk (s : Sys) : sysOf ((s.lim.len, fun k => (s.lim.lo k, s.lim.hi k, ())), (s.st.len, fun k => (s.st.lo k, s.st.hi k, ())),
  (s.nmd, fun k => ((s.md k).cost, ((s.md k).nsh, fun j => ((s.md k).sh j, ())), ((s.md k).nfl, fun j => ((s.md k).ff j, (s.md k).ft j, (s.md k).fp j, ())), ())),
  (s.nld, fun k => (((s.ld k).len, fun j => ((s.ld k).lo j, (s.ld k).hi j, ())), ())), ()) = s := by
 unfold sysOf bxOf mdOf Sys.lim Sys.st Sys.nmd Sys.md Sys.nld Sys.ld Bx.len Bx.lo Bx.hi Mo.cost Mo.nsh Mo.sh Mo.nfl Mo.ff Mo.ft Mo.fp; rfl
@[simp] theorem sysOf_D (s : Sys) : sysOf (sysD s) = s := sysOf_mk s
theorem sys_ex (x : Dat sysSh) : ∃ s : Sys, x = sysD s := ⟨sysOf x, by
 unfold sysD mdD sysOf bxOf mdOf Sys.lim Sys.st Sys.nmd Sys.md Sys.nld Sys.ld Bx.len Bx.lo Bx.hi Mo.cost Mo.nsh Mo.sh Mo.nfl Mo.ff Mo.ft Mo.fp; rfl⟩
@[irreducible] def spanOK (lo hi : Int) : Bool := isQ lo && isQ hi && decide (lo <= hi)
@[irreducible] def badSpan (lo hi : Int) : Bool := !(spanOK lo hi)
theorem spanOK_iff {lo hi : Int} : spanOK lo hi = true ↔ -1099511627776 <= lo /\ hi <= 1099511627776 /\ lo <= hi := by unfold spanOK isQ; simp; omega
@[irreducible] def insB (a b c d : Int) : Bool := spanOK a b && spanOK c d && decide (c <= a) && decide (b <= d)
theorem insB_iff {a b c d : Int} : insB a b c d = true ↔ spanOK a b = true /\ spanOK c d = true /\ c <= a /\ b <= d := by unfold insB; simp [and_assoc]
@[irreducible] def nearB (a b m : Int) : Bool := decide (a <= b) && decide (-m <= a) && decide (b <= m)
theorem nearB_iff {a b m : Int} : nearB a b m = true ↔ a <= b /\ -m <= a /\ b <= m := by unfold nearB; simp [and_assoc]
theorem insB_near {a b m : Int} (h0 : 0 <= m) (h1 : m <= 1099511627776) : insB a b (-m) m = nearB a b m := by
 rw [Bool.eq_iff_iff, insB_iff, nearB_iff, spanOK_iff, spanOK_iff]; omega
@[irreducible] def nearV (b : Bx) (m : Int) : Bool := allN (fun k => nearB (b.lo k) (b.hi k) m) b.len
theorem nearV_iff {b : Bx} {m : Int} : nearV b m = true ↔ ∀ k, k < b.len -> b.lo k <= b.hi k /\ -m <= b.lo k /\ b.hi k <= m := by
 unfold nearV; rw [allN_iff]; simp only [nearB_iff]
@[irreducible] def inV (l b : Bx) : Bool := allN (fun k => decide (b.lo k <= b.hi k) && decide (l.lo k <= b.lo k) && decide (b.hi k <= l.hi k)) b.len
theorem inV_iff {l b : Bx} : inV l b = true ↔ ∀ k, k < b.len -> b.lo k <= b.hi k /\ l.lo k <= b.lo k /\ b.hi k <= l.hi k := by
 unfold inV; rw [allN_iff]; simp [and_assoc]
@[irreducible] def usedB (m : Mo) (g : Nat) (i : Int) : Bool := anyN (fun j => decide (m.ff j = i) || decide (m.ft j = i)) g
theorem usedB_zero (m : Mo) (i : Int) : usedB m 0 i = false := by unfold usedB; simp
theorem usedB_succ (m : Mo) (g : Nat) (i : Int) : usedB m (g + 1) i = (usedB m g i || decide (m.ff g = i) || decide (m.ft g = i)) := by
 unfold usedB; rw [anyN_succ, Bool.or_assoc]
@[irreducible] def flowB (m : Mo) (n : Int) (g : Nat) : Bool :=
 decide (0 <= m.fp g) && decide (m.fp g <= 65536) && decide (m.ff g ≠ m.ft g) && decide (0 <= m.ff g) && decide (m.ff g < n) && decide (0 <= m.ft g) && decide (m.ft g < n) && !(usedB m g (m.ff g)) && !(usedB m g (m.ft g))
theorem flowB_iff {m : Mo} {n : Int} {g : Nat} : flowB m n g = true ↔ 0 <= m.fp g /\ m.fp g <= 65536 /\ m.ff g ≠ m.ft g /\ 0 <= m.ff g /\ m.ff g < n /\ 0 <= m.ft g /\ m.ft g < n /\ usedB m g (m.ff g) = false /\ usedB m g (m.ft g) = false := by
 unfold flowB; simp [and_assoc]
@[irreducible] def modeB (m : Mo) (n : Int) : Bool := decide (0 <= m.cost) && decide (m.cost <= 1073741824) && decide ((m.nsh : Int) = n) && allN (fun k => decide (-10000 <= m.sh k) && decide (m.sh k <= 10000)) m.nsh && allN (flowB m n) m.nfl
theorem modeB_iff {m : Mo} {n : Int} : modeB m n = true ↔ 0 <= m.cost /\ m.cost <= 1073741824 /\ (m.nsh : Int) = n /\ (∀ k, k < m.nsh -> -10000 <= m.sh k /\ m.sh k <= 10000) /\ ∀ g, g < m.nfl -> flowB m n g = true := by
 unfold modeB; simp [and_assoc, allN_iff]
theorem modeB_one {m : Mo} {n : Int} (h : modeB m n = true) (hn : n <= 3) : m.nfl <= 1 := by
 rcases Nat.lt_or_ge 1 m.nfl with h1 | h1
 ·exfalso
  have hh := (modeB_iff.1 h).2.2.2.2
  have h0 := flowB_iff.1 (hh 0 (by omega))
  have h2 := flowB_iff.1 (hh 1 (by omega))
  have e1 := h2.2.2.2.2.2.2.2.1
  have e2 := h2.2.2.2.2.2.2.2.2
  rw [show (1 : Nat) = 0 + 1 from rfl, usedB_succ, usedB_zero] at e1 e2
  simp at e1 e2
  omega
 ·omega
@[irreducible] def checkB (s : Sys) : Bool := decide (1 <= s.lim.len) && decide (s.lim.len <= 3) && decide (1 <= s.nmd) && decide (s.nmd <= 8) && decide (s.nld <= 48) && nearV s.lim 10000 && decide (s.st.len = s.lim.len) && nearV s.st 10000 &&
 inV s.lim s.st && allN (fun k => decide ((s.ld k).len = s.lim.len) && nearV (s.ld k) 10000) s.nld && allN (fun k => modeB (s.md k) (s.lim.len : Int)) s.nmd
theorem checkB_iff {s : Sys} : checkB s = true ↔ 1 <= s.lim.len /\ s.lim.len <= 3 /\ 1 <= s.nmd /\ s.nmd <= 8 /\ s.nld <= 48 /\ nearV s.lim 10000 = true /\ s.st.len = s.lim.len /\ nearV s.st 10000 = true /\
  inV s.lim s.st = true /\ (∀ k, k < s.nld -> (s.ld k).len = s.lim.len /\ nearV (s.ld k) 10000 = true) /\ ∀ k, k < s.nmd -> modeB (s.md k) (s.lim.len : Int) = true := by
 unfold checkB; simp [and_assoc, allN_iff]
@[irreducible] def errA (b : Bool) : Int := if b then 0 else 2
@[simp] theorem errA_true : errA true = 0 := by unfold errA; rfl
@[simp] theorem errA_false : errA false = 2 := by unfold errA; rfl
@[simp] theorem errA_eq (b : Bool) : errA b = 0 ↔ b = true := by cases b <;> simp
end Abs
end Go.Proofs.Ytdfdjlijghjdaaa

namespace Go.Proofs.Ytdfdjlijghjdaaa
namespace Abs
open Go Go.RowKit
theorem mixed : Try.prog.follows .mixedOrders = true := by kernel_rfl
def spanKs : List (Option IntKind) := [some .i64, some .i64]
def eqs0 : List (Nat × List (Option IntKind)) := [(48, spanKs)]
theorem eqs0_ok : ∀ t ks, findS eqs0 t = some ks -> EqOK Try.prog t ks := by
 intro t ks h
 unfold eqs0 at h
 simp only [findS] at h
 split at h
 ·rename_i e
  obtain rfl := Nat.eq_of_beq_eq_true e
  injection h with h; subst h
  exact EqOK.of 3 (by decide) (by kernel_rfl) (by kernel_rfl) (by kernel_rfl)
 ·cases h
noncomputable def S0 : Sums := ⟨[], [], 0, eqs0, [], []⟩
theorem S0_ok : SumsOK Try.prog S0 := .nil _ _ _ eqs0_ok
def isS : Spec [.int .i64] := ⟨fun _ => True, fun (x, _) => .sb (isQ x)⟩
set_option maxRecDepth 100000 in
theorem is_ok : FnSpec Try.prog 79 _ isS := by
 refine FnSpec.of S0_ok mixed (U := 0) (I := fun _ => []) Try.func79 rfl (by kernel_rfl) rfl rfl (by decide +kernel) ?_
 rintro ⟨(x : Int), ⟨⟩⟩ -
 unfold FnSat
 conv => arg 2; reduce
 simp [isS, isQ]
noncomputable def SQ0 : Sums := ⟨(79, mkSum _ isS) :: S0.one, S0.two, S0.lo, S0.eqs, S0.its, S0.imm⟩
theorem SQ0_ok : SumsOK Try.prog SQ0 := (S0_ok.cons Try.func79 (by kernel_rfl) (by kernel_rfl) is_ok)
def badS : Spec [spanSh] := ⟨fun _ => True, fun ((lo, hi, _), _) => .sb (badSpan lo hi)⟩
set_option maxRecDepth 100000 in
theorem bad_ok : FnSpec Try.prog 78 _ badS := by
 refine FnSpec.of SQ0_ok mixed (U := 0) (I := fun _ => []) Try.func78 rfl (by kernel_rfl) rfl rfl (by decide +kernel) ?_
 rintro ⟨⟨(lo : Int), (hi : Int), ⟨⟩⟩, ⟨⟩⟩ -
 unfold FnSat
 conv => arg 2; reduce
 simp [badS, isS, badSpan, spanOK]
 cases isQ lo <;> cases isQ hi <;> (rw [Bool.eq_iff_iff]; simp)
noncomputable def SQ1 : Sums := ⟨(78, mkSum _ badS) :: SQ0.one, SQ0.two, SQ0.lo, SQ0.eqs, SQ0.its, SQ0.imm⟩
theorem SQ1_ok : SumsOK Try.prog SQ1 := (SQ0_ok.cons Try.func78 (by kernel_rfl) (by kernel_rfl) bad_ok)
def anyBadI : Spec [.slice 2 [.int .i64, .int .i64], .fn 78 [] []] := ⟨fun x => x.1.1 <= maxLen, fun ((n, el), ((_, c), _)) => .si .i64 (idxN (fun k => badSpan (el k).1 (el k).2.1) n)⟩
noncomputable def anyBadA : DatL [.slice 2 [.int .i64, .int .i64], .fn 78 [] []] -> Anns := fun ((n, el), ((_, c), _)) => [(2, [], fun fr hp => ⟨Nat, fun g => ⟨frI [.k 5, .t 1, .k 2, .s (.si .i64 (icast g)), .t 10] fr, hp⟩, Nat, fun g => g, fun g => g <= firstN (fun k => badSpan (el k).1 (el k).2.1) n, fun g => nsub n g⟩)]
set_option maxRecDepth 100000 in
theorem anyBadI_ok : FnSpec Try.prog 76 _ anyBadI := by
 refine FnSpec.of SQ1_ok mixed (U := 0) (I := anyBadA) Try.func76 rfl (by kernel_rfl) rfl rfl (by decide +kernel) ?_
 rintro ⟨⟨n, el⟩, ⟨⟨⟩, c⟩, ⟨⟩⟩ hpre
 have hn : n <= maxLen := hpre
 unfold FnSat
 conv => arg 2; reduce
 unfold maxLen at hn
 have hle := firstN_le (fun k => badSpan (el k).1 (el k).2.1) n
 simp [anyBadI, badS, and_assoc]
 refine ⟨⟨0, rfl, by omega⟩, fun k hk => ⟨fun h1 => ?_, fun h1 => ?_⟩⟩
 ·refine And.intro h1 ?_
  refine ⟨fun h2 => ?_, fun h2 => ?_⟩
  ·rw [idxN, firstN_at hk (by simpa using h2), if_pos h1]; try simp
  ·have := firstN_ge hk (by simpa using h2) h1
   refine ⟨by omega, by omega, k + 1, by omega, by omega, by omega⟩
 ·rw [idxN, if_neg (by omega)]
def anyBadC : Spec [.slice 2 [.int .i64, .int .i64], .fn 78 [] []] := ⟨fun x => x.1.1 <= maxLen, fun ((n, el), ((_, c), _)) => .sb (anyN (fun k => badSpan (el k).1 (el k).2.1) n)⟩
noncomputable def anyBadS : Sums := ⟨(76, mkSum _ anyBadI) :: SQ1.one, SQ1.two, SQ1.lo, SQ1.eqs, SQ1.its, SQ1.imm⟩
theorem anyBadS_ok : SumsOK Try.prog anyBadS := (SQ1_ok.cons Try.func76 (by kernel_rfl) (by kernel_rfl) anyBadI_ok)
set_option maxRecDepth 100000 in
theorem anyBadC_ok : FnSpec Try.prog 66 _ anyBadC := by
 refine FnSpec.of anyBadS_ok mixed (U := 0) (I := fun _ => []) Try.func66 rfl (by kernel_rfl) rfl rfl (by decide +kernel) ?_
 rintro ⟨⟨n, el⟩, ⟨⟨⟩, c⟩, ⟨⟩⟩ hpre
 unfold FnSat
 conv => arg 2; reduce
 have hpre : anyBadC.pre ((n, el), (((), c), ())) := hpre
 simp [anyBadC, anyBadI, idxN_nonneg] at hpre ⊢
 exact hpre
@[irreducible] def spansOK (el : Nat -> Int × Int × Unit) (n : Nat) : Bool := !(anyN (fun k => badSpan (el k).1 (el k).2.1) n)
@[simp] theorem spansOK_one (el : Nat -> Int × Int × Unit) : spansOK el 1 = spanOK (el 0).1 (el 0).2.1 := by
 unfold spansOK badSpan; rw [anyN_one]; simp
@[simp] theorem spansOK_two (el : Nat -> Int × Int × Unit) : spansOK el 2 = (spanOK (el 0).1 (el 0).2.1 && spanOK (el 1).1 (el 1).2.1) := by
 unfold spansOK badSpan; rw [anyN_two]; simp
noncomputable def SQ2 : Sums := ⟨(66, mkSum _ anyBadC) :: SQ1.one, SQ1.two, SQ1.lo, SQ1.eqs, SQ1.its, SQ1.imm⟩
theorem SQ2_ok : SumsOK Try.prog SQ2 := (SQ1_ok.cons Try.func66 (by kernel_rfl) (by kernel_rfl) anyBadC_ok)
def validS : Spec [spansSh] := ⟨fun x => x.1.1 <= maxLen, fun ((n, el), _) => .sb (spansOK el n)⟩
set_option maxRecDepth 100000 in
theorem valid_ok : FnSpec Try.prog 73 _ validS := by
 refine FnSpec.of SQ2_ok mixed (U := 0) (I := fun _ => []) Try.func73 rfl (by kernel_rfl) rfl rfl (by decide +kernel) ?_
 rintro ⟨⟨n, el⟩, ⟨⟩⟩ (hn : n <= maxLen)
 unfold FnSat
 conv => arg 2; reduce
 simp [validS, anyBadC, spansOK]
 exact hn
noncomputable def SQ3 : Sums := ⟨(73, mkSum _ validS) :: SQ2.one, SQ2.two, SQ2.lo, SQ2.eqs, SQ2.its, SQ2.imm⟩
theorem SQ3_ok : SumsOK Try.prog SQ3 := (SQ2_ok.cons Try.func73 (by kernel_rfl) (by kernel_rfl) valid_ok)
def insideS : Spec [spanSh, spanSh] := ⟨fun _ => True, fun ((a, b, _), (c, d, _), _) => .sb (insB a b c d)⟩
set_option maxRecDepth 100000 in
theorem qinside_ok : FnSpec Try.prog 55 _ insideS := by
 refine FnSpec.of SQ3_ok mixed (U := 0) (I := fun _ => []) Try.func55 rfl (by kernel_rfl) rfl rfl (by decide +kernel) ?_
 rintro ⟨⟨(a : Int), (b : Int), ⟨⟩⟩, ⟨(c : Int), (d : Int), ⟨⟩⟩, ⟨⟩⟩ -
 unfold FnSat
 conv => arg 2; reduce
 simp [insideS, validS, insB, maxLen, decL, rowAt, takeL, dropL]
 intro k hk
 rcases (by omega : k = 0 \/ k = 1) with rfl | rfl <;> simp [rowAt, takeL, dropL]
noncomputable def SQ4 : Sums := ⟨(55, mkSum _ insideS) :: SQ3.one, SQ3.two, SQ3.lo, SQ3.eqs, SQ3.its, SQ3.imm⟩
theorem SQ4_ok : SumsOK Try.prog SQ4 := (SQ3_ok.cons Try.func55 (by kernel_rfl) (by kernel_rfl) qinside_ok)
end Abs
end Go.Proofs.Ytdfdjlijghjdaaa

namespace Go.Proofs.Ytdfdjlijghjdaaa
namespace Abs
open Go Go.RowKit
@[irreducible] def outB (a b c d : Int) : Bool := !(insB a b c d)
def outS : Spec [spanSh, .ptr [.int .i64, .int .i64]] := ⟨fun _ => True, fun ((a, b, _), (c, d, _), _) => .sb (outB a b c d)⟩
set_option maxRecDepth 100000 in
theorem out_ok : FnSpec Try.prog 67 _ outS := by
 refine FnSpec.of SQ4_ok mixed (U := 0) (I := fun _ => []) Try.func67 rfl (by kernel_rfl) rfl rfl (by decide +kernel) ?_
 rintro ⟨⟨(a : Int), (b : Int), ⟨⟩⟩, ⟨(c : Int), (d : Int), ⟨⟩⟩, ⟨⟩⟩ -
 unfold FnSat
 conv => arg 2; reduce
 simp [outS, insideS, outB]
noncomputable def SC0 : Sums := ⟨(67, mkSum _ outS) :: SQ4.one, SQ4.two, SQ4.lo, SQ4.eqs, SQ4.its, SQ4.imm⟩
theorem SC0_ok : SumsOK Try.prog SC0 := (SQ4_ok.cons Try.func67 (by kernel_rfl) (by kernel_rfl) out_ok)
def anyOutI : Spec [.slice 2 [.int .i64, .int .i64], .fn 67 [] [.ptr [.int .i64, .int .i64]]] := ⟨fun x => x.1.1 <= maxLen, fun ((n, el), ((_, c), _)) => .si .i64 (idxN (fun k => outB (el k).1 (el k).2.1 c.1.1 c.1.2.1) n)⟩
noncomputable def anyOutA : DatL [.slice 2 [.int .i64, .int .i64], .fn 67 [] [.ptr [.int .i64, .int .i64]]] -> Anns := fun ((n, el), ((_, c), _)) => [(2, [], fun fr hp => ⟨Nat, fun g => ⟨frI [.k 5, .t 1, .k 2, .s (.si .i64 (icast g)), .t 10] fr, hp⟩, Nat, fun g => g, fun g => g <= firstN (fun k => outB (el k).1 (el k).2.1 c.1.1 c.1.2.1) n, fun g => nsub n g⟩)]
set_option maxRecDepth 100000 in
theorem anyOutI_ok : FnSpec Try.prog 76 _ anyOutI := by
 refine FnSpec.of SC0_ok mixed (U := 0) (I := anyOutA) Try.func76 rfl (by kernel_rfl) rfl rfl (by decide +kernel) ?_
 rintro ⟨⟨n, el⟩, ⟨⟨⟩, c⟩, ⟨⟩⟩ hpre
 have hn : n <= maxLen := hpre
 unfold FnSat
 conv => arg 2; reduce
 unfold maxLen at hn
 have hle := firstN_le (fun k => outB (el k).1 (el k).2.1 c.1.1 c.1.2.1) n
 simp [anyOutI, outS, and_assoc]
 refine ⟨⟨0, rfl, by omega⟩, fun k hk => ⟨fun h1 => ?_, fun h1 => ?_⟩⟩
 ·refine And.intro h1 ?_
  refine ⟨fun h2 => ?_, fun h2 => ?_⟩
  ·rw [idxN, firstN_at hk (by simpa using h2), if_pos h1]; try simp
  ·have := firstN_ge hk (by simpa using h2) h1
   refine ⟨by omega, by omega, k + 1, by omega, by omega, by omega⟩
 ·rw [idxN, if_neg (by omega)]
def anyOutC : Spec [.slice 2 [.int .i64, .int .i64], .fn 67 [] [.ptr [.int .i64, .int .i64]]] := ⟨fun x => x.1.1 <= maxLen, fun ((n, el), ((_, c), _)) => .sb (anyN (fun k => outB (el k).1 (el k).2.1 c.1.1 c.1.2.1) n)⟩
noncomputable def anyOutS : Sums := ⟨(76, mkSum _ anyOutI) :: SC0.one, SC0.two, SC0.lo, SC0.eqs, SC0.its, SC0.imm⟩
theorem anyOutS_ok : SumsOK Try.prog anyOutS := (SC0_ok.cons Try.func76 (by kernel_rfl) (by kernel_rfl) anyOutI_ok)
set_option maxRecDepth 100000 in
theorem anyOutC_ok : FnSpec Try.prog 66 _ anyOutC := by
 refine FnSpec.of anyOutS_ok mixed (U := 0) (I := fun _ => []) Try.func66 rfl (by kernel_rfl) rfl rfl (by decide +kernel) ?_
 rintro ⟨⟨n, el⟩, ⟨⟨⟩, c⟩, ⟨⟩⟩ hpre
 unfold FnSat
 conv => arg 2; reduce
 have hpre : anyOutC.pre ((n, el), (((), c), ())) := hpre
 simp [anyOutC, anyOutI, idxN_nonneg] at hpre ⊢
 exact hpre
noncomputable def SC1 : Sums := ⟨(66, (altSum (mkSum _ anyBadC) (mkSum _ anyOutC))) :: SC0.one, SC0.two, SC0.lo, SC0.eqs, SC0.its, SC0.imm⟩
theorem SC1_ok : SumsOK Try.prog SC1 := (SC0_ok.add Try.func66 (by kernel_rfl) (by kernel_rfl) (altSum_ok (mkSum_ok anyBadC_ok) (mkSum_ok anyOutC_ok)))
def withinS : Spec [spansSh, .int .i64] := ⟨fun (b, m, _) => b.1 <= maxLen /\ 0 <= m /\ m <= 1099511627776, fun (b, m, _) => .sb (nearV (bxOf b) m)⟩
set_option maxRecDepth 100000 in
theorem within_ok : FnSpec Try.prog 47 _ withinS := by
 refine FnSpec.of SC1_ok mixed (U := 0) (I := fun _ => []) Try.func47 rfl (by kernel_rfl) rfl rfl (by decide +kernel) ?_
 rintro ⟨b, (m : Int), ⟨⟩⟩ ⟨(hn : b.1 <= maxLen), (h1 : 0 <= m), (h2 : m <= 1099511627776)⟩
 obtain ⟨b, rfl⟩ := bx_ex b
 unfold FnSat
 conv => arg 2; reduce
 simp [withinS, anyOutC, and_assoc]
 refine ⟨by omega, by omega, hn, ?_⟩
 unfold nearV outB
 rw [anyN_all]
 simp [insB_near h1 h2]
noncomputable def SC2 : Sums := ⟨(47, mkSum _ withinS) :: SC1.one, SC1.two, SC1.lo, SC1.eqs, SC1.its, SC1.imm⟩
theorem SC2_ok : SumsOK Try.prog SC2 := (SC1_ok.cons Try.func47 (by kernel_rfl) (by kernel_rfl) within_ok)
@[irreducible] def boxB (b : Bx) (n : Int) : Bool := decide ((b.len : Int) = n) && nearV b 10000
def boxS : Spec [spansSh, .ptr [.int .i64]] := ⟨fun (b, _) => b.1 <= maxLen, fun (b, (n, _), _) => .sb (boxB (bxOf b) n)⟩
set_option maxRecDepth 100000 in
theorem box_ok : FnSpec Try.prog 49 _ boxS := by
 refine FnSpec.of SC2_ok mixed (U := 0) (I := fun _ => []) Try.func49 rfl (by kernel_rfl) rfl rfl (by decide +kernel) ?_
 rintro ⟨b, ⟨(n : Int), ⟨⟩⟩, ⟨⟩⟩ (hn : b.1 <= maxLen)
 obtain ⟨b, rfl⟩ := bx_ex b
 unfold FnSat
 conv => arg 2; reduce
 simp [boxS, withinS, boxB, and_assoc]
 exact ⟨fun _ => hn, by rw [Bool.eq_iff_iff]; simp⟩
noncomputable def SC3 : Sums := ⟨(49, mkSum _ boxS) :: SC2.one, SC2.two, SC2.lo, SC2.eqs, SC2.its, SC2.imm⟩
theorem SC3_ok : SumsOK Try.prog SC3 := (SC2_ok.cons Try.func49 (by kernel_rfl) (by kernel_rfl) box_ok)
def nboxS : Spec [spansSh, .ptr [.fn 49 [] [.ptr [.int .i64]]]] := ⟨fun (b, _) => b.1 <= maxLen, fun (b, ((_, (n, _), _), _), _) => .sb (bnot (boxB (bxOf b) n))⟩
set_option maxRecDepth 100000 in
theorem nbox_ok : FnSpec Try.prog 51 _ nboxS := by
 refine FnSpec.of SC3_ok mixed (U := 0) (I := fun _ => []) Try.func51 rfl (by kernel_rfl) rfl rfl (by decide +kernel) ?_
 rintro ⟨b, ⟨⟨⟨⟩, ⟨(n : Int), ⟨⟩⟩, ⟨⟩⟩, ⟨⟩⟩, ⟨⟩⟩ (hn : b.1 <= maxLen)
 obtain ⟨b, rfl⟩ := bx_ex b
 unfold FnSat
 conv => arg 2; reduce
 simp [nboxS, boxS, and_assoc]
 exact hn
noncomputable def SC4 : Sums := ⟨(51, mkSum _ nboxS) :: SC3.one, SC3.two, SC3.lo, SC3.eqs, SC3.its, SC3.imm⟩
theorem SC4_ok : SumsOK Try.prog SC4 := (SC3_ok.cons Try.func51 (by kernel_rfl) (by kernel_rfl) nbox_ok)
def anyBoxI : Spec [.slice 1 [spansSh], .fn 51 [] [.ptr [.fn 49 [] [.ptr [.int .i64]]]]] := ⟨fun x => x.1.1 <= maxLen /\ ∀ k, k < x.1.1 -> (fun (el : Nat -> DatL [spansSh]) (c : DatL [.ptr [.fn 49 [] [.ptr [.int .i64]]]]) => (el k).1.1 <= maxLen) x.1.2 x.2.1.2, fun ((n, el), ((_, c), _)) => .si .i64 (idxN (fun k => bnot (boxB (bxOf (el k).1) c.1.1.2.1.1)) n)⟩
noncomputable def anyBoxA : DatL [.slice 1 [spansSh], .fn 51 [] [.ptr [.fn 49 [] [.ptr [.int .i64]]]]] -> Anns := fun ((n, el), ((_, c), _)) => [(2, [], fun fr hp => ⟨Nat, fun g => ⟨frI [.k 5, .t 1, .k 2, .s (.si .i64 (icast g)), .t 10] fr, hp⟩, Nat, fun g => g, fun g => g <= firstN (fun k => bnot (boxB (bxOf (el k).1) c.1.1.2.1.1)) n, fun g => nsub n g⟩)]
set_option maxRecDepth 100000 in
theorem anyBoxI_ok : FnSpec Try.prog 69 _ anyBoxI := by
 refine FnSpec.of SC4_ok mixed (U := 0) (I := anyBoxA) Try.func69 rfl (by kernel_rfl) rfl rfl (by decide +kernel) ?_
 rintro ⟨⟨n, el⟩, ⟨⟨⟩, c⟩, ⟨⟩⟩ hpre
 have hn : n <= maxLen := hpre.1
 have hp := hpre.2
 unfold FnSat
 conv => arg 2; reduce
 unfold maxLen at hn
 have hle := firstN_le (fun k => bnot (boxB (bxOf (el k).1) c.1.1.2.1.1)) n
 simp [anyBoxI, nboxS, and_assoc]
 refine ⟨⟨0, rfl, by omega⟩, fun k hk => ⟨fun h1 => ?_, fun h1 => ?_⟩⟩
 ·refine And.intro h1 ?_
  have hq := hp k h1
  repeat refine And.intro (by first | exact hq | exact hq.1 | exact hq.2 | exact hq.2.1 | exact hq.2.2 | exact hq.2.2.1 | exact hq.2.2.2) ?_
  refine ⟨fun h2 => ?_, fun h2 => ?_⟩
  ·rw [idxN, firstN_at hk (by simpa using h2), if_pos h1]; try simp
  ·have := firstN_ge hk (by simpa using h2) h1
   refine ⟨by omega, by omega, k + 1, by omega, by omega, by omega⟩
 ·rw [idxN, if_neg (by omega)]
def anyBoxC : Spec [.slice 1 [spansSh], .fn 51 [] [.ptr [.fn 49 [] [.ptr [.int .i64]]]]] := ⟨fun x => x.1.1 <= maxLen /\ ∀ k, k < x.1.1 -> (fun (el : Nat -> DatL [spansSh]) (c : DatL [.ptr [.fn 49 [] [.ptr [.int .i64]]]]) => (el k).1.1 <= maxLen) x.1.2 x.2.1.2, fun ((n, el), ((_, c), _)) => .sb (anyN (fun k => bnot (boxB (bxOf (el k).1) c.1.1.2.1.1)) n)⟩
noncomputable def anyBoxS : Sums := ⟨(69, mkSum _ anyBoxI) :: SC4.one, SC4.two, SC4.lo, SC4.eqs, SC4.its, SC4.imm⟩
theorem anyBoxS_ok : SumsOK Try.prog anyBoxS := (SC4_ok.cons Try.func69 (by kernel_rfl) (by kernel_rfl) anyBoxI_ok)
set_option maxRecDepth 100000 in
theorem anyBoxC_ok : FnSpec Try.prog 50 _ anyBoxC := by
 refine FnSpec.of anyBoxS_ok mixed (U := 0) (I := fun _ => []) Try.func50 rfl (by kernel_rfl) rfl rfl (by decide +kernel) ?_
 rintro ⟨⟨n, el⟩, ⟨⟨⟩, c⟩, ⟨⟩⟩ hpre
 unfold FnSat
 conv => arg 2; reduce
 have hpre : anyBoxC.pre ((n, el), (((), c), ())) := hpre
 simp [anyBoxC, anyBoxI, idxN_nonneg] at hpre ⊢
 exact hpre
noncomputable def SC5 : Sums := ⟨(50, mkSum _ anyBoxC) :: SC4.one, SC4.two, SC4.lo, SC4.eqs, SC4.its, SC4.imm⟩
theorem SC5_ok : SumsOK Try.prog SC5 := (SC4_ok.cons Try.func50 (by kernel_rfl) (by kernel_rfl) anyBoxC_ok)
@[irreducible] def farB (n m : Int) : Bool := decide (n < -m) || decide (m < n)
def shiftS : Spec [.int .i64] := ⟨fun _ => True, fun (n, _) => .sb (farB n 10000)⟩
set_option maxRecDepth 100000 in
theorem shf_ok : FnSpec Try.prog 72 _ shiftS := by
 refine FnSpec.of SC5_ok mixed (U := 0) (I := fun _ => []) Try.func72 rfl (by kernel_rfl) rfl rfl (by decide +kernel) ?_
 rintro ⟨(n : Int), ⟨⟩⟩ -
 unfold FnSat
 conv => arg 2; reduce
 simp [shiftS, farB]
noncomputable def SC6 : Sums := ⟨(72, mkSum _ shiftS) :: SC5.one, SC5.two, SC5.lo, SC5.eqs, SC5.its, SC5.imm⟩
theorem SC6_ok : SumsOK Try.prog SC6 := (SC5_ok.cons Try.func72 (by kernel_rfl) (by kernel_rfl) shf_ok)
def anyShI : Spec [.slice 1 [.int .i64], .fn 72 [] []] := ⟨fun x => x.1.1 <= maxLen, fun ((n, el), ((_, c), _)) => .si .i64 (idxN (fun k => farB (el k).1 10000) n)⟩
noncomputable def anyShA : DatL [.slice 1 [.int .i64], .fn 72 [] []] -> Anns := fun ((n, el), ((_, c), _)) => [(2, [], fun fr hp => ⟨Nat, fun g => ⟨frI [.k 5, .t 1, .k 2, .s (.si .i64 (icast g)), .t 10] fr, hp⟩, Nat, fun g => g, fun g => g <= firstN (fun k => farB (el k).1 10000) n, fun g => nsub n g⟩)]
set_option maxRecDepth 100000 in
theorem anyShI_ok : FnSpec Try.prog 77 _ anyShI := by
 refine FnSpec.of SC6_ok mixed (U := 0) (I := anyShA) Try.func77 rfl (by kernel_rfl) rfl rfl (by decide +kernel) ?_
 rintro ⟨⟨n, el⟩, ⟨⟨⟩, c⟩, ⟨⟩⟩ hpre
 have hn : n <= maxLen := hpre
 unfold FnSat
 conv => arg 2; reduce
 unfold maxLen at hn
 have hle := firstN_le (fun k => farB (el k).1 10000) n
 simp [anyShI, shiftS, and_assoc]
 refine ⟨⟨0, rfl, by omega⟩, fun k hk => ⟨fun h1 => ?_, fun h1 => ?_⟩⟩
 ·refine And.intro h1 ?_
  refine ⟨fun h2 => ?_, fun h2 => ?_⟩
  ·rw [idxN, firstN_at hk (by simpa using h2), if_pos h1]; try simp
  ·have := firstN_ge hk (by simpa using h2) h1
   refine ⟨by omega, by omega, k + 1, by omega, by omega, by omega⟩
 ·rw [idxN, if_neg (by omega)]
def anyShC : Spec [.slice 1 [.int .i64], .fn 72 [] []] := ⟨fun x => x.1.1 <= maxLen, fun ((n, el), ((_, c), _)) => .sb (anyN (fun k => farB (el k).1 10000) n)⟩
noncomputable def anyShS : Sums := ⟨(77, mkSum _ anyShI) :: SC6.one, SC6.two, SC6.lo, SC6.eqs, SC6.its, SC6.imm⟩
theorem anyShS_ok : SumsOK Try.prog anyShS := (SC6_ok.cons Try.func77 (by kernel_rfl) (by kernel_rfl) anyShI_ok)
set_option maxRecDepth 100000 in
theorem anyShC_ok : FnSpec Try.prog 71 _ anyShC := by
 refine FnSpec.of anyShS_ok mixed (U := 0) (I := fun _ => []) Try.func71 rfl (by kernel_rfl) rfl rfl (by decide +kernel) ?_
 rintro ⟨⟨n, el⟩, ⟨⟨⟩, c⟩, ⟨⟩⟩ hpre
 unfold FnSat
 conv => arg 2; reduce
 have hpre : anyShC.pre ((n, el), (((), c), ())) := hpre
 simp [anyShC, anyShI, idxN_nonneg] at hpre ⊢
 exact hpre
noncomputable def SC7 : Sums := ⟨(71, mkSum _ anyShC) :: SC6.one, SC6.two, SC6.lo, SC6.eqs, SC6.its, SC6.imm⟩
theorem SC7_ok : SumsOK Try.prog SC7 := (SC6_ok.cons Try.func71 (by kernel_rfl) (by kernel_rfl) anyShC_ok)
def modeS : Spec [modeSh, .int .i64] := ⟨fun (m, n, _) => n <= 3 /\ m.2.1.1 <= maxLen /\ m.2.2.1.1 <= maxLen, fun (m, n, _) => .sb (modeB (mdOf m) n)⟩
noncomputable def modeI : DatL [modeSh, .int .i64] -> Anns := fun (m, n, _) => [(7, [], fun fr hp => ⟨Nat, fun g => ⟨frI [.k 7, .t 1, .k 1, .t 1, .k 21, .s (.si .i64 (icast g)), .t 42] fr,
 putC hp 1 [.sb (usedB (mdOf m) g 0), .sb (usedB (mdOf m) g 1), .sb (usedB (mdOf m) g 2)]⟩, Nat × Mo × Int, fun g => (g, mdOf m, n), fun (g, m, n) => g <= m.nfl /\ ∀ j, j < g -> flowB m n j = true, fun g => nsub m.2.2.1.1 g⟩)]
set_option maxRecDepth 100000 in
theorem mode_ok : FnSpec Try.prog 54 _ modeS := by
 refine FnSpec.of SC7_ok mixed (U := 3) (I := modeI) Try.func54 rfl (by kernel_rfl) rfl rfl (by decide +kernel) ?_
 rintro ⟨m, (n : Int), ⟨⟩⟩ ⟨(h1 : n <= 3), (h2 : m.2.1.1 <= maxLen), (h3 : m.2.2.1.1 <= maxLen)⟩
 obtain ⟨m, rfl⟩ := md_ex m
 unfold FnSat
 conv => arg 2; reduce
 have h2 : m.nsh <= maxLen := h2
 have h3 : m.nfl <= maxLen := h3
 unfold maxLen at h2 h3
 have hm : ∀ {g : Nat}, g < m.nfl -> (flowB m n g = true -> False) -> modeB m n = false := fun {g} hg hf => by
  cases hb : modeB m n with
  | false => rfl
  | true => exact (hf ((modeB_iff.1 hb).2.2.2.2 g hg)).elim
 have hm0 : (modeB m n = true -> False) -> modeB m n = false := fun h => by
  cases hb : modeB m n with
  | false => rfl
  | true => exact (h hb).elim
 have hall : anyN (fun k => farB (m.sh k) 10000) m.nsh = false -> ∀ k, k < m.nsh -> -10000 <= m.sh k /\ m.sh k <= 10000 := fun h k hk => by
  have := anyN_false.1 h k hk
  unfold farB at this; simp at this; omega
 simp [modeS, anyShC, and_assoc]
 refine ⟨fun h => hm0 fun hb => ?_, fun c1 c2 c3 => ⟨by unfold maxLen; omega, fun h => hm0 fun hb => ?_, fun h => ⟨⟨0, rfl, usedB_zero .., usedB_zero .., usedB_zero .., by omega, fun j hj => by omega⟩, fun g hg hf => ⟨fun hlt => ?_, fun hge => ?_⟩⟩⟩⟩
 ·have := modeB_iff.1 hb; omega
 ·obtain ⟨k, hk, hk2⟩ := anyN_iff.1 h
  have := (modeB_iff.1 hb).2.2.2.1 k hk
  unfold farB at hk2; simp at hk2; omega
 ·have hnext : 0 <= m.fp g -> m.fp g <= 65536 -> ¬m.ff g = m.ft g -> 0 <= m.ff g -> m.ff g < n -> 0 <= m.ft g -> m.ft g < n -> usedB m g (m.ff g) = false -> usedB m g (m.ft g) = false -> ∀ j, j < g + 1 -> flowB m n j = true := fun a1 a2 a3 a4 a5 a6 a7 a8 a9 j hj => by
   by_cases h : j < g
   ·exact hf j h
   ·obtain rfl : j = g := by omega
    exact flowB_iff.2 ⟨a1, a2, a3, a4, a5, a6, a7, a8, a9⟩
  have hu := fun i => usedB_succ m g i
  have hA : ∀ i, (0 <= m.ff g -> m.ff g < n -> m.ff g = i) -> (m.ff g < 0 \/ n <= m.ff g) \/ usedB m g i = true -> modeB m n = false := fun i e h => hm hlt fun hb => by
   have hb := flowB_iff.1 hb
   rcases h with h | h
   ·omega
   ·rw [e (by omega) (by omega)] at hb; rw [h] at hb; simp at hb
  have hB : ∀ i, (0 <= m.ft g -> m.ft g < n -> m.ft g = i) -> (m.ft g < 0 \/ n <= m.ft g) \/ usedB m g i = true -> modeB m n = false := fun i e h => hm hlt fun hb => by
   have hb := flowB_iff.1 hb
   rcases h with h | h
   ·omega
   ·rw [e (by omega) (by omega)] at hb; rw [h] at hb; simp at hb
  repeat' (first | refine And.intro ?_ ?_ | intro _)
  all_goals first
   | omega
   | exact hA 0 (by omega) (by assumption)
   | exact hA 1 (by omega) (by assumption)
   | exact hA 2 (by omega) (by assumption)
   | exact hB 0 (by omega) (by assumption)
   | exact hB 1 (by omega) (by assumption)
   | exact hB 2 (by omega) (by assumption)
   | (refine hm hlt fun hb => ?_; have hb := flowB_iff.1 hb; first | omega | (simp_all; done))
   | (have e1 : m.ff g = 0 \/ m.ff g = 1 \/ m.ff g = 2 := by omega
      have e2 : m.ft g = 0 \/ m.ft g = 1 \/ m.ft g = 2 := by omega
      refine ⟨g + 1, by omega, ?_, ?_, ?_, by omega, hnext (by omega) (by omega) (by omega) (by omega) (by omega) (by omega) (by omega) ?_ ?_, by omega⟩
      all_goals rcases e1 with e1 | e1 | e1 <;> rcases e2 with e2 | e2 | e2 <;> first | omega | (rw [hu, e1, e2]; simp [*]; done) | (rw [hu, e1, e2]; simp; done) | (rw [e1]; assumption) | (rw [e2]; assumption))
 ·refine modeB_iff.2 ⟨c1, c2, c3, hall h, fun j hj => hf j (by omega)⟩
end Abs
end Go.Proofs.Ytdfdjlijghjdaaa

namespace Go.Proofs.Ytdfdjlijghjdaaa
namespace Abs
open Go Go.RowKit
noncomputable def SC8 : Sums := ⟨(54, mkSum _ modeS) :: SC7.one, SC7.two, SC7.lo, SC7.eqs, SC7.its, SC7.imm⟩
theorem SC8_ok : SumsOK Try.prog SC8 := (SC7_ok.cons Try.func54 (by kernel_rfl) (by kernel_rfl) mode_ok)
def nmodeS : Spec [modeSh, .ptr [.int .i64]] := ⟨fun (m, (n, _), _) => n <= 3 /\ m.2.1.1 <= maxLen /\ m.2.2.1.1 <= maxLen, fun (m, (n, _), _) => .sb (bnot (modeB (mdOf m) n))⟩
set_option maxRecDepth 100000 in
theorem nmode_ok : FnSpec Try.prog 53 _ nmodeS := by
 refine FnSpec.of SC8_ok mixed (U := 0) (I := fun _ => []) Try.func53 rfl (by kernel_rfl) rfl rfl (by decide +kernel) ?_
 rintro ⟨m, ⟨(n : Int), ⟨⟩⟩, ⟨⟩⟩ ⟨(h1 : n <= 3), (h2 : m.2.1.1 <= maxLen), (h3 : m.2.2.1.1 <= maxLen)⟩
 obtain ⟨m, rfl⟩ := md_ex m
 unfold FnSat
 conv => arg 2; reduce
 simp [nmodeS, modeS, and_assoc]
 exact ⟨h1, h2, h3⟩
noncomputable def SC9 : Sums := ⟨(53, mkSum _ nmodeS) :: SC8.one, SC8.two, SC8.lo, SC8.eqs, SC8.its, SC8.imm⟩
theorem SC9_ok : SumsOK Try.prog SC9 := (SC8_ok.cons Try.func53 (by kernel_rfl) (by kernel_rfl) nmode_ok)
def anyMoI : Spec [.slice 3 modeCells, .fn 53 [] [.ptr [.int .i64]]] := ⟨fun x => x.1.1 <= maxLen /\ ∀ k, k < x.1.1 -> (fun (el : Nat -> DatL modeCells) (c : DatL [.ptr [.int .i64]]) => c.1.1 <= 3 /\ (el k).2.1.1 <= maxLen /\ (el k).2.2.1.1 <= maxLen) x.1.2 x.2.1.2, fun ((n, el), ((_, c), _)) => .si .i64 (idxN (fun k => bnot (modeB (mdOf (el k)) c.1.1)) n)⟩
noncomputable def anyMoA : DatL [.slice 3 modeCells, .fn 53 [] [.ptr [.int .i64]]] -> Anns := fun ((n, el), ((_, c), _)) => [(2, [], fun fr hp => ⟨Nat, fun g => ⟨frI [.k 5, .t 1, .k 2, .s (.si .i64 (icast g)), .t 10] fr, hp⟩, Nat, fun g => g, fun g => g <= firstN (fun k => bnot (modeB (mdOf (el k)) c.1.1)) n, fun g => nsub n g⟩)]
set_option maxRecDepth 100000 in
theorem anyMoI_ok : FnSpec Try.prog 70 _ anyMoI := by
 refine FnSpec.of SC9_ok mixed (U := 0) (I := anyMoA) Try.func70 rfl (by kernel_rfl) rfl rfl (by decide +kernel) ?_
 rintro ⟨⟨n, el⟩, ⟨⟨⟩, c⟩, ⟨⟩⟩ hpre
 have hn : n <= maxLen := hpre.1
 have hp := hpre.2
 unfold FnSat
 conv => arg 2; reduce
 unfold maxLen at hn
 have hle := firstN_le (fun k => bnot (modeB (mdOf (el k)) c.1.1)) n
 simp [anyMoI, nmodeS, and_assoc]
 refine ⟨⟨0, rfl, by omega⟩, fun k hk => ⟨fun h1 => ?_, fun h1 => ?_⟩⟩
 ·refine And.intro h1 ?_
  have hq := hp k h1
  repeat refine And.intro (by first | exact hq | exact hq.1 | exact hq.2 | exact hq.2.1 | exact hq.2.2 | exact hq.2.2.1 | exact hq.2.2.2) ?_
  refine ⟨fun h2 => ?_, fun h2 => ?_⟩
  ·rw [idxN, firstN_at hk (by simpa using h2), if_pos h1]; try simp
  ·have := firstN_ge hk (by simpa using h2) h1
   refine ⟨by omega, by omega, k + 1, by omega, by omega, by omega⟩
 ·rw [idxN, if_neg (by omega)]
def anyMoC : Spec [.slice 3 modeCells, .fn 53 [] [.ptr [.int .i64]]] := ⟨fun x => x.1.1 <= maxLen /\ ∀ k, k < x.1.1 -> (fun (el : Nat -> DatL modeCells) (c : DatL [.ptr [.int .i64]]) => c.1.1 <= 3 /\ (el k).2.1.1 <= maxLen /\ (el k).2.2.1.1 <= maxLen) x.1.2 x.2.1.2, fun ((n, el), ((_, c), _)) => .sb (anyN (fun k => bnot (modeB (mdOf (el k)) c.1.1)) n)⟩
noncomputable def anyMoS : Sums := ⟨(70, mkSum _ anyMoI) :: SC9.one, SC9.two, SC9.lo, SC9.eqs, SC9.its, SC9.imm⟩
theorem anyMoS_ok : SumsOK Try.prog anyMoS := (SC9_ok.cons Try.func70 (by kernel_rfl) (by kernel_rfl) anyMoI_ok)
set_option maxRecDepth 100000 in
theorem anyMoC_ok : FnSpec Try.prog 52 _ anyMoC := by
 refine FnSpec.of anyMoS_ok mixed (U := 0) (I := fun _ => []) Try.func52 rfl (by kernel_rfl) rfl rfl (by decide +kernel) ?_
 rintro ⟨⟨n, el⟩, ⟨⟨⟩, c⟩, ⟨⟩⟩ hpre
 unfold FnSat
 conv => arg 2; reduce
 have hpre : anyMoC.pre ((n, el), (((), c), ())) := hpre
 simp [anyMoC, anyMoI, idxN_nonneg] at hpre ⊢
 exact hpre
noncomputable def SC10 : Sums := ⟨(52, mkSum _ anyMoC) :: SC9.one, SC9.two, SC9.lo, SC9.eqs, SC9.its, SC9.imm⟩
theorem SC10_ok : SumsOK Try.prog SC10 := (SC9_ok.cons Try.func52 (by kernel_rfl) (by kernel_rfl) anyMoC_ok)
def insS : Spec [sysSh, spansSh] := ⟨fun (s, b, _) => b.1 <= (sysOf s).lim.len /\ b.1 <= maxLen /\ nearV (sysOf s).lim 10000 = true, fun (s, b, _) => .sb (inV (sysOf s).lim (bxOf b))⟩
noncomputable def insI : DatL [sysSh, spansSh] -> Anns := fun (s, b, _) => [(2, [], fun fr hp => ⟨Nat, fun g => ⟨frI [.k 5, .t 2, .k 2, .s (.si .i64 (icast g)), .t 13] fr, hp⟩,
 Nat × Sys × Bx, fun g => (g, sysOf s, bxOf b), fun (g, s, b) => g <= b.len /\ ∀ j, j < g -> b.lo j <= b.hi j /\ s.lim.lo j <= b.lo j /\ b.hi j <= s.lim.hi j, fun g => nsub b.1 g⟩)]
set_option maxRecDepth 100000 in
theorem ins_ok : FnSpec Try.prog 34 _ insS := by
 refine FnSpec.of SC10_ok mixed (U := 0) (I := insI) Try.func34 rfl (by kernel_rfl) rfl rfl (by decide +kernel) ?_
 rintro ⟨s, b, ⟨⟩⟩ ⟨h1, (h2 : b.1 <= maxLen), h3⟩
 obtain ⟨s, rfl⟩ := sys_ex s
 obtain ⟨b, rfl⟩ := bx_ex b
 rw [sysOf_D] at h1 h3
 have h1 : b.len <= s.lim.len := h1
 have h2 : b.len <= maxLen := h2
 unfold maxLen at h2
 have h3 := nearV_iff.1 h3
 unfold FnSat
 conv => arg 2; reduce
 simp [insS, insideS, and_assoc]
 refine ⟨⟨0, rfl, by omega, fun j hj => by omega⟩, fun g hg hf => ⟨fun hlt => ⟨hlt, by omega, fun hn => ?_, fun hy => ⟨by omega, by omega, g + 1, by omega, by omega, fun j hj => ?_, by omega⟩⟩, fun hge => ?_⟩⟩
 ·rw [Bool.eq_false_iff] at hn ⊢
  intro hv
  have h4 := inV_iff.1 hv g hlt
  have h5 := h3 g (by omega)
  exact hn (insB_iff.2 ⟨spanOK_iff.2 (by omega), spanOK_iff.2 (by omega), by omega, by omega⟩)
 ·by_cases h : j < g
  ·exact hf j h
  ·obtain rfl : j = g := by omega
   have h4 := insB_iff.1 hy
   have h5 := spanOK_iff.1 h4.1
   omega
 ·exact inV_iff.2 fun k hk => hf k (by omega)
noncomputable def SC11 : Sums := ⟨(34, mkSum _ insS) :: SC10.one, SC10.two, SC10.lo, SC10.eqs, SC10.its, SC10.imm⟩
theorem SC11_ok : SumsOK Try.prog SC11 := (SC10_ok.cons Try.func34 (by kernel_rfl) (by kernel_rfl) ins_ok)
def checkS : Spec [sysSh] := ⟨fun (s, _) =>
 (sysOf s).lim.len <= maxLen /\ (sysOf s).st.len <= maxLen /\ (sysOf s).nmd <= maxLen /\ (sysOf s).nld <= maxLen /\ (∀ k, k < (sysOf s).nld -> ((sysOf s).ld k).len <= maxLen) /\ ∀ k, k < (sysOf s).nmd -> ((sysOf s).md k).nsh <= maxLen /\ ((sysOf s).md k).nfl <= maxLen,
 fun (s, _) => .si .i64 (errA (checkB (sysOf s)))⟩
set_option maxRecDepth 100000 in
theorem check_ok : FnSpec Try.prog 31 _ checkS := by
 refine FnSpec.of SC11_ok mixed (U := 0) (I := fun _ => []) Try.func31 rfl (by kernel_rfl) rfl rfl (by decide +kernel) ?_
 rintro ⟨s, ⟨⟩⟩ hpre
 obtain ⟨s, rfl⟩ := sys_ex s
 obtain ⟨p1, p2, p3, p4, p5, p6⟩ := hpre
 rw [sysOf_D] at p1 p2 p3 p4 p5 p6
 unfold FnSat
 conv => arg 2; reduce
 have hb : ∀ b : Bx, boxB b (s.lim.len : Int) = true ↔ b.len = s.lim.len /\ nearV b 10000 = true := fun b => by unfold boxB; simp; intro _; omega
 have hk : checkB s = true ↔ (1 <= (s.lim.len : Int) /\ (s.lim.len : Int) <= 3 /\ 1 <= (s.nmd : Int) /\ (s.nmd : Int) <= 8 /\ (s.nld : Int) <= 48 /\ boxB s.lim s.lim.len = true /\ boxB s.st s.lim.len = true /\ inV s.lim s.st = true /\
   anyN (fun k => !boxB (s.ld k) s.lim.len) s.nld = false /\ anyN (fun k => !modeB (s.md k) s.lim.len) s.nmd = false) := by
  rw [checkB_iff, anyN_false, anyN_false, hb, hb]
  simp only [Bool.not_eq_false', hb]
  constructor
  ·rintro ⟨a1, a2, a3, a4, a5, a6, a7, a8, a9, a10, a11⟩
   exact ⟨by omega, by omega, by omega, by omega, by omega, ⟨trivial, a6⟩, ⟨a7, a8⟩, a9, a10, a11⟩
  ·rintro ⟨a1, a2, a3, a4, a5, ⟨_, a6⟩, ⟨a7, a8⟩, a9, a10, a11⟩
   exact ⟨by omega, by omega, by omega, by omega, by omega, a6, a7, a8, a9, a10, a11⟩
 simp [checkS, boxS, insS, anyBoxC, anyMoC, and_assoc]
 refine ⟨fun _ _ _ _ _ => p1, fun _ _ _ _ _ _ => p2, fun _ _ _ _ _ h1 h2 => ⟨by have := (hb _).1 h2; omega, p2, ((hb _).1 h1).2⟩, fun _ _ _ _ _ _ _ _ => ⟨p4, p5⟩, fun _ h _ _ _ _ _ _ _ => ⟨p3, fun k hk => ⟨h, p6 k hk⟩⟩, fun h => ?_, fun a1 a2 a3 a4 a5 a6 a7 a8 a9 a10 => ?_⟩
 ·cases hc : checkB s with
  | false => simp
  | true =>
    exfalso
    obtain ⟨a1, a2, a3, a4, a5, a6, a7, a8, a9, a10⟩ := hk.1 hc
    rw [a6, a7, a8, a9, a10] at h
    simp at h
    omega
 ·rw [hk.2 ⟨a1, a2, a3, a4, a5, a6, a7, a8, a9, a10⟩]; simp
end Abs
end Go.Proofs.Ytdfdjlijghjdaaa

namespace Go.Proofs.Ytdfdjlijghjdaaa
namespace Abs
open Go Go.RowKit
noncomputable def SD0 : Sums := ⟨(31, mkSum _ checkS) :: SC11.one, SC11.two, SC11.lo, SC11.eqs, SC11.its, SC11.imm⟩
theorem SD0_ok : SumsOK Try.prog SD0 := (SC11_ok.cons Try.func31 (by kernel_rfl) (by kernel_rfl) check_ok)
noncomputable def SD1 : Sums := ⟨SD0.one, SD0.two, SD0.lo, SD0.eqs, SD0.its, SD0.imm⟩
theorem SD1_ok : SumsOK Try.prog SD1 := SD0_ok
noncomputable def SD2 : Sums := ⟨SD1.one, SD1.two, SD1.lo, SD1.eqs, SD1.its, SD1.imm⟩
theorem SD2_ok : SumsOK Try.prog SD2 := SD1_ok
noncomputable def SD3 : Sums := ⟨SD2.one, SD2.two, SD2.lo, SD2.eqs, SD2.its, SD2.imm⟩
theorem SD3_ok : SumsOK Try.prog SD3 := SD2_ok
noncomputable def SD4 : Sums := ⟨SD3.one, SD3.two, SD3.lo, SD3.eqs, SD3.its, SD3.imm⟩
theorem SD4_ok : SumsOK Try.prog SD4 := SD3_ok
end Abs
end Go.Proofs.Ytdfdjlijghjdaaa

namespace Go.Proofs.Ytdfdjlijghjdaaa
namespace Abs
open Go
end Abs
end Go.Proofs.Ytdfdjlijghjdaaa

namespace Go.Proofs.Ytdfdjlijghjdaaa
namespace Abs
open Go Go.RowKit
noncomputable def SW0 : Sums := ⟨SD4.one, SD4.two, SD4.lo, SD4.eqs, SD4.its, SD4.imm⟩
theorem SW0_ok : SumsOK Try.prog SW0 := SD4_ok
noncomputable def SW1 : Sums := ⟨SW0.one, SW0.two, SW0.lo, SW0.eqs, SW0.its, SW0.imm⟩
theorem SW1_ok : SumsOK Try.prog SW1 := SW0_ok
end Abs
end Go.Proofs.Ytdfdjlijghjdaaa

namespace Go.Proofs.Ytdfdjlijghjdaaa
namespace Abs
open Go
@[irreducible] def nx0 (m : Mo) (t w : Nat -> Int) (i : Nat) : Int := t i + m.sh i + w i
@[irreducible] def xV (m : Mo) (t : Nat -> Int) (g : Nat) : Int := (t (m.ff g).toNat - t (m.ft g).toNat) * m.fp g / 65536
@[irreducible] def fl1 (m : Mo) (t : Nat -> Int) (g : Nat) (o : Nat -> Int) (i : Nat) : Int := if (i : Int) = m.ft g then o i + xV m t g else if (i : Int) = m.ff g then o i - xV m t g else o i
def nxG (m : Mo) (t w : Nat -> Int) : Nat -> Nat -> Int
 | 0 => nx0 m t w
 | g + 1 => fl1 m t g (nxG m t w g)
theorem nxG_zero (m : Mo) (t w : Nat -> Int) (i : Nat) : nxG m t w 0 i = nx0 m t w i := rfl
theorem nxG_succ (m : Mo) (t w : Nat -> Int) (g i : Nat) : nxG m t w (g + 1) i = fl1 m t g (nxG m t w g) i := rfl
attribute [irreducible] nxG
@[irreducible] def nxV (m : Mo) (t w : Nat -> Int) (i : Nat) : Int := nxG m t w m.nfl i
@[irreducible] def fillF (f : Nat -> Int) (g k : Nat) : Int := if k < g then f k else 0
theorem fillF_lt {f : Nat -> Int} {g k : Nat} (h : k < g) : fillF f g k = f k := by unfold fillF; rw [if_pos h]
theorem fillF_ge {f : Nat -> Int} {g k : Nat} (h : g <= k) : fillF f g k = 0 := by unfold fillF; rw [if_neg (by omega)]
theorem mul_lo {a p : Int} (ha : 0 <= a) (h0 : 0 <= p) (h1 : p <= 65536) : 0 <= a * p / 65536 /\ a * p / 65536 <= a := by
 have e1 := Int.mul_nonneg ha h0
 have e2 := Int.mul_le_mul_of_nonneg_left h1 ha
 omega
theorem mul_hi {a p : Int} (ha : a <= 0) (h0 : 0 <= p) (h1 : p <= 65536) : a <= a * p / 65536 /\ a * p / 65536 <= 0 := by
 have e1 := Int.mul_nonneg (show 0 <= -a by omega) h0
 have e2 := Int.mul_le_mul_of_nonneg_left h1 (show 0 <= -a by omega)
 rw [Int.neg_mul] at e1 e2
 omega
theorem mul_b {a p T : Int} (h1 : -T <= a) (h2 : a <= T) (h0 : 0 <= p) (hp : p <= 65536) : -(T * 65536) <= a * p /\ a * p <= T * 65536 := by
 rcases Int.lt_or_le a 0 with h | h
 ·have e1 := Int.mul_nonneg (show 0 <= -a by omega) h0
  have e2 := Int.mul_le_mul_of_nonneg_left hp (show 0 <= -a by omega)
  rw [Int.neg_mul] at e1 e2
  omega
 ·have e1 := Int.mul_nonneg h h0
  have e2 := Int.mul_le_mul_of_nonneg_left hp h
  omega
theorem ishr16 (a : Int) : ishr a 16 = a / 65536 := by
 unfold ishr
 rw [Int.fdiv_eq_ediv_of_nonneg _ (by decide)]; rfl
theorem nxV_none {m : Mo} {t w : Nat -> Int} {i : Nat} (h : m.nfl = 0) : nxV m t w i = t i + m.sh i + w i := by
 unfold nxV; rw [h, nxG_zero]; unfold nx0; rfl
theorem nxV_one {m : Mo} {t w : Nat -> Int} {i : Nat} (h : m.nfl = 1) : nxV m t w i = if (i : Int) = m.ft 0 then t i + m.sh i + w i + xV m t 0 else if (i : Int) = m.ff 0 then t i + m.sh i + w i - xV m t 0 else t i + m.sh i + w i := by
 unfold nxV; rw [h, show (1 : Nat) = 0 + 1 from rfl, nxG_succ]
 unfold fl1
 rw [nxG_zero]; unfold nx0; rfl
theorem one_flow {m : Mo} {n : Nat} (h : modeB m (n : Int) = true) (hn : n <= 3) (h1 : m.nfl ≠ 0) : m.nfl = 1 /\ 0 <= m.fp 0 /\ m.fp 0 <= 65536 /\ m.ff 0 ≠ m.ft 0 /\ 0 <= m.ff 0 /\ m.ff 0 < n /\ 0 <= m.ft 0 /\ m.ft 0 < n := by
 have := modeB_one h (by omega)
 have hf := flowB_iff.1 ((modeB_iff.1 h).2.2.2.2 0 (by omega))
 exact ⟨by omega, hf.1, hf.2.1, hf.2.2.1, hf.2.2.2.1, hf.2.2.2.2.1, hf.2.2.2.2.2.1, hf.2.2.2.2.2.2.1⟩
theorem mode_sh {m : Mo} {n : Nat} (h : modeB m (n : Int) = true) {k : Nat} (hk : k < n) : -10000 <= m.sh k /\ m.sh k <= 10000 :=
 (modeB_iff.1 h).2.2.2.1 k (by have := (modeB_iff.1 h).2.2.1; omega)
theorem nxV_mono {m : Mo} {n : Nat} (h : modeB m (n : Int) = true) (hn : n <= 3) {t w t' w' : Nat -> Int} (ht : ∀ k, k < n -> t k <= t' k) (hw : ∀ k, k < n -> w k <= w' k) {i : Nat} (hi : i < n) : nxV m t w i <= nxV m t' w' i := by
 by_cases h1 : m.nfl = 0
 ·rw [nxV_none h1, nxV_none h1]; have := ht i hi; have := hw i hi; omega
 ·obtain ⟨e, p0, p1, hne, f0, f1, g0, g1⟩ := one_flow h hn h1
  rw [nxV_one e, nxV_one e]
  have a1 := ht i hi
  have a2 := hw i hi
  have a3 := ht (m.ff 0).toNat (by omega)
  have a4 := ht (m.ft 0).toNat (by omega)
  have x1 : xV m t' 0 <= xV m t 0 + (t' (m.ff 0).toNat - t (m.ff 0).toNat) := by
   unfold xV
   have := mul_lo (a := t' (m.ff 0).toNat - t (m.ff 0).toNat) (by omega) p0 p1
   have e1 : (t' (m.ff 0).toNat - t' (m.ft 0).toNat) * m.fp 0 <= (t (m.ff 0).toNat - t (m.ft 0).toNat) * m.fp 0 + (t' (m.ff 0).toNat - t (m.ff 0).toNat) * 65536 := by
    have e2 : (t' (m.ff 0).toNat - t' (m.ft 0).toNat) * m.fp 0 = (t (m.ff 0).toNat - t (m.ft 0).toNat) * m.fp 0 + (t' (m.ff 0).toNat - t (m.ff 0).toNat) * m.fp 0 - (t' (m.ft 0).toNat - t (m.ft 0).toNat) * m.fp 0 := by
     rw [<- Int.add_mul, <- Int.sub_mul]; congr 1; omega
    have e3 := Int.mul_nonneg (show 0 <= t' (m.ft 0).toNat - t (m.ft 0).toNat by omega) p0
    have e4 := Int.mul_le_mul_of_nonneg_left p1 (show 0 <= t' (m.ff 0).toNat - t (m.ff 0).toNat by omega)
    omega
   omega
  have x2 : xV m t 0 <= xV m t' 0 + (t' (m.ft 0).toNat - t (m.ft 0).toNat) := by
   unfold xV
   have e1 : (t (m.ff 0).toNat - t (m.ft 0).toNat) * m.fp 0 <= (t' (m.ff 0).toNat - t' (m.ft 0).toNat) * m.fp 0 + (t' (m.ft 0).toNat - t (m.ft 0).toNat) * 65536 := by
    have e2 : (t (m.ff 0).toNat - t (m.ft 0).toNat) * m.fp 0 = (t' (m.ff 0).toNat - t' (m.ft 0).toNat) * m.fp 0 + (t' (m.ft 0).toNat - t (m.ft 0).toNat) * m.fp 0 - (t' (m.ff 0).toNat - t (m.ff 0).toNat) * m.fp 0 := by
     rw [<- Int.add_mul, <- Int.sub_mul]; congr 1; omega
    have e3 := Int.mul_nonneg (show 0 <= t' (m.ff 0).toNat - t (m.ff 0).toNat by omega) p0
    have e4 := Int.mul_le_mul_of_nonneg_left p1 (show 0 <= t' (m.ft 0).toNat - t (m.ft 0).toNat by omega)
    omega
   omega
  split
  ·rename_i hh
   rw [show (m.ft 0).toNat = i by omega] at x2
   omega
  ·split
   ·rename_i hh
    rw [show (m.ff 0).toNat = i by omega] at x1
    omega
   ·omega
theorem xV_near {m : Mo} {n : Nat} (h : modeB m (n : Int) = true) (hn : n <= 3) {t : Nat -> Int} {T : Int} (ht : ∀ k, k < n -> -T <= t k /\ t k <= T) (h1 : m.nfl ≠ 0) : -(2 * T) <= xV m t 0 /\ xV m t 0 <= 2 * T := by
 obtain ⟨e, p0, p1, hne, f0, f1, g0, g1⟩ := one_flow h hn h1
 have a3 := ht (m.ff 0).toNat (by omega)
 have a4 := ht (m.ft 0).toNat (by omega)
 unfold xV
 rcases Int.lt_or_le (t (m.ff 0).toNat - t (m.ft 0).toNat) 0 with h | h
 ·have := mul_hi (a := t (m.ff 0).toNat - t (m.ft 0).toNat) (by omega) p0 p1; omega
 ·have := mul_lo h p0 p1; omega
@[irreducible] def adV (s : Sys) (slot mode : Int) (b : Bx) : Bx := ⟨b.len, nxV (s.md mode.toNat) b.lo (s.ld slot.toNat).lo, nxV (s.md mode.toNat) b.hi (s.ld slot.toNat).hi⟩
@[simp] theorem adV_len (s : Sys) (slot mode : Int) (b : Bx) : (adV s slot mode b).len = b.len := by unfold adV; simp
theorem adV_lo (s : Sys) (slot mode : Int) (b : Bx) (k : Nat) : (adV s slot mode b).lo k = nxV (s.md mode.toNat) b.lo (s.ld slot.toNat).lo k := by unfold adV; simp
theorem adV_hi (s : Sys) (slot mode : Int) (b : Bx) (k : Nat) : (adV s slot mode b).hi k = nxV (s.md mode.toNat) b.hi (s.ld slot.toNat).hi k := by unfold adV; simp
structure AdOK (s : Sys) (slot mode : Int) (b : Bx) : Prop where
 n3 : b.len <= 3
 sl0 : 0 <= slot
 sl1 : slot < s.nld
 mo0 : 0 <= mode
 mo1 : mode < s.nmd
 md : modeB (s.md mode.toNat) b.len = true
 ll : (s.ld slot.toNat).len = b.len
 ld : nearV (s.ld slot.toNat) 10000 = true
 nr : ∀ k, k < b.len -> -2147483648 <= b.lo k /\ b.lo k <= 2147483648 /\ -2147483648 <= b.hi k /\ b.hi k <= 2147483648
end Abs
end Go.Proofs.Ytdfdjlijghjdaaa

namespace Go.Proofs.Ytdfdjlijghjdaaa
namespace Abs
open Go Go.RowKit
structure NxOK (m : Mo) (t w : Vx) : Prop where
 n3 : t.len <= 3
 wl : w.len = t.len
 md : modeB m t.len = true
 tn : ∀ k, k < t.len -> -2147483648 <= t.at k /\ t.at k <= 2147483648
 wn : ∀ k, k < t.len -> -2147483648 <= w.at k /\ w.at k <= 2147483648
def nextS : SpecN [modeSh, intsSh, intsSh] := ⟨fun (m, t, w, _) => NxOK (mdOf m) (vxOf t) (vxOf w), fun _ => .row 1, fun (m, t, w, _) => [.dead, .row 2 1 (.sym t.1) (fun k => [.si .i64 (nxV (mdOf m) (vxOf t).at (vxOf w).at k)])]⟩
noncomputable def nextI : DatL [modeSh, intsSh, intsSh] -> Anns := fun (m, t, w, _) => [
 (3, [], fun fr hp => ⟨Nat, fun g => ⟨frI [.k 8, .t 1, .k 8, .s (.si .i64 (icast g)), .t 61] fr, putE hp 1 (fun k => [.si .i64 (fillF (nx0 (mdOf m) (vxOf t).at (vxOf w).at) g k)])⟩, Nat × Nat, fun g => (g, t.1), fun (g, n) => g <= n, fun g => nsub t.1 g⟩),
 (8, [], fun fr hp => ⟨Nat, fun g => ⟨frI [.k 10, .t 2, .k 30, .s (.si .i64 (icast g)), .t 36] fr, putE hp 1 (fun k => [.si .i64 (nxG (mdOf m) (vxOf t).at (vxOf w).at g k)])⟩, Nat × Nat, fun g => (g, m.2.2.1.1), fun (g, n) => g <= n, fun g => nsub m.2.2.1.1 g⟩)]
set_option maxRecDepth 100000 in
theorem next_ok : FnSpecN Try.prog 68 _ nextS := by
 refine FnSpecN.of SW1_ok mixed (U := 0) (I := nextI) Try.func68 rfl (by kernel_rfl) rfl rfl (by decide +kernel) ?_
 rintro ⟨m, t, w, ⟨⟩⟩ hpre
 obtain ⟨m, rfl⟩ := md_ex m
 obtain ⟨t, rfl⟩ := vx_ex t
 obtain ⟨w, rfl⟩ := vx_ex w
 have hpre : NxOK m t w := by have : NxOK (mdOf (mdD m)) (vxOf (t.len, fun k => (t.at k, ()))) (vxOf (w.len, fun k => (w.at k, ()))) := hpre; simpa using this
 obtain ⟨p1, p2, p3, p4, p5⟩ := hpre
 unfold FnSat
 conv => arg 2; reduce
 simp [nextS, maxRow, ElEq, aliveB, goneB, getB, and_assoc]
 have hns := (modeB_iff.1 p3).2.2.1
 refine ⟨by omega, ⟨0, rfl, fun j _ => (fillF_ge (by omega)).symm, by omega⟩, fun g hg => ⟨fun hlt => ?_, fun hge => ⟨⟨0, rfl, fun j hj => ?_, by omega⟩, fun g' hg' => ⟨fun hlt' => ?_, fun hge' => ?_⟩⟩⟩⟩
 ·have h1 := p4 g hlt
  have h2 := p5 g hlt
  have h3 := mode_sh p3 hlt
  refine ⟨hlt, by omega, by omega, by omega, by omega, by omega, by omega, hlt, by omega, by omega, g + 1, by omega, fun j hj => ?_, by omega, by omega⟩
  by_cases h : j = g
  ·subst h; rw [if_pos rfl, fillF_lt (by omega)]; unfold nx0; rfl
  ·rw [if_neg h]
   rcases Nat.lt_or_ge j g with h' | h'
   ·rw [fillF_lt h', fillF_lt (by omega)]
   ·rw [fillF_ge h', fillF_ge (by omega)]
 ·rw [fillF_lt (by omega), nxG_zero]
 ·have hone := modeB_one p3 (by omega)
  obtain rfl : g' = 0 := by omega
  obtain ⟨e, q0, q1, hne, f0, f1, g0, g1⟩ := one_flow p3 p1 (by omega)
  have h1 := p4 (m.ff 0).toNat (by omega)
  have h2 := p4 (m.ft 0).toNat (by omega)
  have h3 := mul_b (a := t.at (m.ff 0).toNat - t.at (m.ft 0).toNat) (T := 4294967296) (by omega) (by omega) q0 q1
  have h4 := xV_near p3 p1 (T := 2147483648) p4 (by omega)
  have hx : ishr ((t.at (m.ff 0).toNat - t.at (m.ft 0).toNat) * m.fp 0) 16 = xV m t.at 0 := by rw [ishr16]; unfold xV; rfl
  rw [hx]
  have hn : ¬ (m.ft 0).toNat = (m.ff 0).toNat := by omega
  rw [if_neg hn]
  have h5 := mode_sh p3 (k := (m.ff 0).toNat) (by omega)
  have h6 := mode_sh p3 (k := (m.ft 0).toNat) (by omega)
  have h7 := p5 (m.ff 0).toNat (by omega)
  have h8 := p5 (m.ft 0).toNat (by omega)
  have e1 : nxG m t.at w.at 0 (m.ff 0).toNat = t.at (m.ff 0).toNat + m.sh (m.ff 0).toNat + w.at (m.ff 0).toNat := by rw [nxG_zero]; unfold nx0; rfl
  have e2 : nxG m t.at w.at 0 (m.ft 0).toNat = t.at (m.ft 0).toNat + m.sh (m.ft 0).toNat + w.at (m.ft 0).toNat := by rw [nxG_zero]; unfold nx0; rfl
  refine ⟨hlt', f0, f1, g0, g1, by omega, by omega, by omega, by omega, by simp [IntKind.bits], f0, f1, by omega, by omega, f0, f1, g0, g1, by omega, by omega, g0, g1, by omega, by omega, 1, rfl, fun j hj => ?_, by omega, by omega⟩
  rw [show (1 : Nat) = 0 + 1 from rfl, nxG_succ]
  unfold fl1
  by_cases hj1 : j = (m.ft 0).toNat
  ·rw [if_pos hj1, if_pos (by omega), hj1]
  ·rw [if_neg hj1, if_neg (show ¬ (j : Int) = m.ft 0 by omega)]
   by_cases hj2 : j = (m.ff 0).toNat
   ·rw [if_pos hj2, if_pos (by omega), hj2]
   ·rw [if_neg hj2, if_neg (by omega)]
 ·intro j hj
  unfold nxV
  rw [show g' = m.nfl by omega]
noncomputable def SN0 : Sums := ⟨(68, mkSumN _ nextS) :: SW1.one, SW1.two, SW1.lo, SW1.eqs, SW1.its, SW1.imm⟩
theorem SN0_ok : SumsOK Try.prog SN0 := (SW1_ok.add Try.func68 (by kernel_rfl) (by kernel_rfl) (mkSumN_ok next_ok))
noncomputable def SN1 : Sums := ⟨SN0.one, SN0.two, SN0.lo, SN0.eqs, SN0.its, SN0.imm⟩
theorem SN1_ok : SumsOK Try.prog SN1 := SN0_ok
noncomputable def SN2 : Sums := ⟨(71, (mkSum _ anyShC)) :: SN1.one, SN1.two, SN1.lo, SN1.eqs, SN1.its, SN1.imm⟩
theorem SN2_ok : SumsOK Try.prog SN2 := (SN1_ok.add Try.func71 (by kernel_rfl) (by kernel_rfl) (mkSum_ok anyShC_ok))
@[simp] theorem vxOf_at' (n : Nat) (f : Nat -> Int) : (vxOf (n, fun k => (f k, ()))).at = f := by funext k; simp
@[irreducible] def pickV (w : Nat) (b : Bx) : Nat -> Int := if w = 0 then b.lo else b.hi
theorem pickV_0 (b : Bx) : pickV 0 b = b.lo := by unfold pickV; rfl
theorem pickV_1 (b : Bx) : pickV 1 b = b.hi := by unfold pickV; rfl
def advS : Spec [sysSh, .int .i64, .int .i64, spansSh] := ⟨fun (s, sl, mo, b, _) => AdOK (sysOf s) sl mo (bxOf b), fun (s, sl, mo, b, _) => .slc (.sym b.1) 2 (fun k => [.si .i64 ((adV (sysOf s) sl mo (bxOf b)).lo k), .si .i64 ((adV (sysOf s) sl mo (bxOf b)).hi k)])⟩
def isLi1 : AV -> Nat
 | .li _ 0 => 0
 | _ => 1
noncomputable def advI : DatL [sysSh, .int .i64, .int .i64, spansSh] -> Anns := fun (s, (sl : Int), (mo : Int), b, _) => [
 (7, [(11, 2, 1), (12, 2, 1)], fun fr hp => ⟨Nat, fun g => ⟨frI [.k 13, .t 3, .k 7, .s (.si .i64 (icast g)), .t 35, .k 35] fr,
  putR (putR hp (lenH hp - 2) (.sym g) (fun k => [.si .i64 (pickV (isLi1 (getL fr 10)) (bxOf b) k)])) (lenH hp - 1) (.sym g) (fun k => [.si .i64 (pickV (isLi1 (getL fr 10)) ((sysOf s).ld (nat sl)) k)])⟩, Nat × Nat, fun g => (g, b.1), fun (g, n) => g <= n, fun g => nsub b.1 g⟩),
 (18, [], fun fr hp => ⟨Nat, fun g => ⟨frI [.k 17, .t 1, .k 57, .s (.si .i64 (icast g)), .t 18] fr,
  putE hp (lenH hp - 1) (fun k => [.si .i64 (fillF (adV (sysOf s) sl mo (bxOf b)).lo g k), .si .i64 (fillF (adV (sysOf s) sl mo (bxOf b)).hi g k)])⟩, Nat × Nat, fun g => (g, b.1), fun (g, n) => g <= n, fun g => nsub b.1 g⟩)]
set_option maxRecDepth 100000 in
set_option maxHeartbeats 2000000 in
theorem adv_ok : FnSpec Try.prog 48 _ advS := by
 refine FnSpec.of SN2_ok mixed (U := 3) (I := advI) Try.func48 rfl (by kernel_rfl) rfl rfl (by decide +kernel) ?_
 rintro ⟨s, (sl : Int), (mo : Int), b, ⟨⟩⟩ hpre
 obtain ⟨s, rfl⟩ := sys_ex s
 obtain ⟨b, rfl⟩ := bx_ex b
 have hpre : AdOK s sl mo b := by have : AdOK (sysOf (sysD s)) sl mo (bxOf (b.len, fun k => (b.lo k, b.hi k, ()))) := hpre; simpa using this
 obtain ⟨p1, p2, p3, p4, p5, p6, p7, p8, p9⟩ := hpre
 unfold FnSat
 conv => arg 2; reduce
 simp [advS, nextS, maxRow, ElEq, aliveB, goneB, getB, and_assoc, pickV_0, pickV_1, plainA.plainL, plainA]
 have hn : ∀ k, k < b.len -> -10000 <= (s.ld sl.toNat).lo k /\ (s.ld sl.toNat).lo k <= 10000 /\ -10000 <= (s.ld sl.toNat).hi k /\ (s.ld sl.toNat).hi k <= 10000 := fun k hk => by
  have := nearV_iff.1 p8 k (by omega)
  omega
 refine ⟨⟨0, rfl, rfl, fun j => by omega, rfl, fun j => by omega, by omega⟩, fun g hg => ⟨fun hlt => ?_, fun hge => ⟨p4, p5, ?_, ⟨0, rfl, rfl, fun j => by omega, rfl, fun j => by omega, by omega⟩, fun g1 hg1 => ⟨fun hlt => ?_, fun hge1 => ⟨p4, p5, ?_, by omega,
  ⟨0, rfl, fun j hj => ⟨(fillF_ge (by omega)).symm, (fillF_ge (by omega)).symm⟩, by omega⟩, fun g2 hg2 => ⟨fun hlt2 => ⟨by omega, by omega, by omega, by omega, by omega, g2 + 1, by omega, fun j hj => ?_, by omega, by omega⟩, fun hge2 j hj => ?_⟩⟩⟩⟩⟩⟩
 ·exact ⟨hlt, p2, p3, by omega, by omega, by omega, by omega, g + 1, by omega, rfl, fun j hj => app_one hj (fun _ => rfl) (fun h => by subst h; rfl), rfl, fun j hj => app_one hj (fun _ => rfl) (fun h => by subst h; rfl), by omega, by omega⟩
 ·obtain rfl : g = b.len := by omega
  exact ⟨by simpa using p1, by simp, by simpa using p6, fun k hk => by simp at hk ⊢; have := p9 k hk; omega, fun k hk => by simp at hk ⊢; have := hn k hk; omega⟩
 ·exact ⟨hlt, p2, p3, by omega, by omega, by omega, by omega, g1 + 1, by omega, rfl, fun j hj => app_one hj (fun _ => rfl) (fun h => by subst h; rfl), rfl, fun j hj => app_one hj (fun _ => rfl) (fun h => by subst h; rfl), by omega, by omega⟩
 ·obtain rfl : g1 = b.len := by omega
  exact ⟨by simpa using p1, by simp, by simpa using p6, fun k hk => by simp at hk ⊢; have := p9 k hk; omega, fun k hk => by simp at hk ⊢; have := hn k hk; omega⟩
 ·by_cases h : j = g2
  ·subst h
   rw [if_pos rfl, if_pos rfl, fillF_lt (by omega), fillF_lt (by omega), adV_lo, adV_hi]
   exact ⟨rfl, rfl⟩
  ·rw [if_neg h, if_neg h]
   rcases Nat.lt_or_ge j g2 with h' | h'
   ·rw [fillF_lt h', fillF_lt (show j < g2 + 1 by omega), fillF_lt h', fillF_lt (show j < g2 + 1 by omega)]
    exact ⟨rfl, rfl⟩
   ·rw [fillF_ge h', fillF_ge (show g2 + 1 <= j by omega), fillF_ge h', fillF_ge (show g2 + 1 <= j by omega)]
    exact ⟨rfl, rfl⟩
 ·rw [fillF_lt (by omega), fillF_lt (by omega)]
  exact ⟨rfl, rfl⟩
end Abs
end Go.Proofs.Ytdfdjlijghjdaaa

namespace Go.Proofs.Ytdfdjlijghjdaaa
namespace Abs
open Go Go.RowKit
noncomputable def SP0 : Sums := ⟨(48, mkSum _ advS) :: SN2.one, SN2.two, SN2.lo, SN2.eqs, SN2.its, SN2.imm⟩
theorem SP0_ok : SumsOK Try.prog SP0 := (SN2_ok.cons Try.func48 (by kernel_rfl) (by kernel_rfl) adv_ok)
@[irreducible] def badK (x : Int) (n : Nat) : Bool := decide (x < 0) || decide ((n : Int) <= x)
theorem badK_iff {x : Int} {n : Nat} : badK x n = false ↔ 0 <= x /\ x < n := by unfold badK; simp
@[reducible] def sysCells : List Sh := [spansSh, spansSh, .slice 3 modeCells, .slice 1 [spansSh]]
def cp1S : Spec [.int .i64, .ptr sysCells] := ⟨fun _ => True, fun ((x : Int), (_, _, m, _), _) => .sb (badK x m.1)⟩
set_option maxRecDepth 100000 in
theorem cp1_ok : FnSpec Try.prog 64 _ cp1S := by
 refine FnSpec.of SP0_ok mixed (U := 0) (I := fun _ => []) Try.func64 rfl (by kernel_rfl) rfl rfl (by decide +kernel) ?_
 rintro ⟨(x : Int), ⟨a, b, c, d, ⟨⟩⟩, ⟨⟩⟩ -
 unfold FnSat
 conv => arg 2; reduce
 simp [cp1S, badK]
noncomputable def SP1 : Sums := ⟨(64, mkSum _ cp1S) :: SP0.one, SP0.two, SP0.lo, SP0.eqs, SP0.its, SP0.imm⟩
theorem SP1_ok : SumsOK Try.prog SP1 := (SP0_ok.cons Try.func64 (by kernel_rfl) (by kernel_rfl) cp1_ok)
def anyPlI : Spec [.slice 1 [.int .i64], .fn 64 [] [.ptr sysCells]] := ⟨fun x => x.1.1 <= maxLen, fun ((n, el), ((_, c), _)) => .si .i64 (idxN (fun k => badK (el k).1 c.1.2.2.1.1) n)⟩
noncomputable def anyPlA : DatL [.slice 1 [.int .i64], .fn 64 [] [.ptr sysCells]] -> Anns := fun ((n, el), ((_, c), _)) => [(2, [], fun fr hp => ⟨Nat, fun g => ⟨frI [.k 5, .t 1, .k 2, .s (.si .i64 (icast g)), .t 10] fr, hp⟩, Nat, fun g => g, fun g => g <= firstN (fun k => badK (el k).1 c.1.2.2.1.1) n, fun g => nsub n g⟩)]
set_option maxRecDepth 100000 in
theorem anyPlI_ok : FnSpec Try.prog 75 _ anyPlI := by
 refine FnSpec.of SP1_ok mixed (U := 0) (I := anyPlA) Try.func75 rfl (by kernel_rfl) rfl rfl (by decide +kernel) ?_
 rintro ⟨⟨n, el⟩, ⟨⟨⟩, c⟩, ⟨⟩⟩ hpre
 have hn : n <= maxLen := hpre
 unfold FnSat
 conv => arg 2; reduce
 unfold maxLen at hn
 have hle := firstN_le (fun k => badK (el k).1 c.1.2.2.1.1) n
 simp [anyPlI, cp1S, and_assoc]
 refine ⟨⟨0, rfl, by omega⟩, fun k hk => ⟨fun h1 => ?_, fun h1 => ?_⟩⟩
 ·refine And.intro h1 ?_
  refine ⟨fun h2 => ?_, fun h2 => ?_⟩
  ·rw [idxN, firstN_at hk (by simpa using h2), if_pos h1]; try simp
  ·have := firstN_ge hk (by simpa using h2) h1
   refine ⟨by omega, by omega, k + 1, by omega, by omega, by omega⟩
 ·rw [idxN, if_neg (by omega)]
def anyPlC : Spec [.slice 1 [.int .i64], .fn 64 [] [.ptr sysCells]] := ⟨fun x => x.1.1 <= maxLen, fun ((n, el), ((_, c), _)) => .sb (anyN (fun k => badK (el k).1 c.1.2.2.1.1) n)⟩
noncomputable def anyPlS : Sums := ⟨(75, mkSum _ anyPlI) :: SP1.one, SP1.two, SP1.lo, SP1.eqs, SP1.its, SP1.imm⟩
theorem anyPlS_ok : SumsOK Try.prog anyPlS := (SP1_ok.cons Try.func75 (by kernel_rfl) (by kernel_rfl) anyPlI_ok)
set_option maxRecDepth 100000 in
theorem anyPlC_ok : FnSpec Try.prog 63 _ anyPlC := by
 refine FnSpec.of anyPlS_ok mixed (U := 0) (I := fun _ => []) Try.func63 rfl (by kernel_rfl) rfl rfl (by decide +kernel) ?_
 rintro ⟨⟨n, el⟩, ⟨⟨⟩, c⟩, ⟨⟩⟩ hpre
 unfold FnSat
 conv => arg 2; reduce
 have hpre : anyPlC.pre ((n, el), (((), c), ())) := hpre
 simp [anyPlC, anyPlI, idxN_nonneg] at hpre ⊢
 exact hpre
noncomputable def SP2 : Sums := ⟨(63, mkSum _ anyPlC) :: SP1.one, SP1.two, SP1.lo, SP1.eqs, SP1.its, SP1.imm⟩
theorem SP2_ok : SumsOK Try.prog SP2 := (SP1_ok.cons Try.func63 (by kernel_rfl) (by kernel_rfl) anyPlC_ok)
def SysMax (s : Sys) : Prop := s.lim.len <= maxLen /\ s.st.len <= maxLen /\ s.nmd <= maxLen /\ s.nld <= maxLen /\ (∀ k, k < s.nld -> (s.ld k).len <= maxLen) /\ ∀ k, k < s.nmd -> (s.md k).nsh <= maxLen /\ (s.md k).nfl <= maxLen
@[irreducible] def plE (s : Sys) (p : Vx) : Int := if checkB s = true then (if p.len = s.nld then (if anyN (fun k => badK (p.at k) s.nmd) p.len = true then 3 else 0) else 8) else 2
theorem plE_iff {s : Sys} {p : Vx} : plE s p = 0 ↔ checkB s = true /\ p.len = s.nld /\ ∀ k, k < p.len -> 0 <= p.at k /\ p.at k < s.nmd := by
 unfold plE
 have : anyN (fun k => badK (p.at k) s.nmd) p.len = false ↔ ∀ k, k < p.len -> 0 <= p.at k /\ p.at k < s.nmd := by rw [anyN_false]; simp only [badK_iff]
 rw [<- this]
 cases checkB s <;> cases anyN (fun k => badK (p.at k) s.nmd) p.len <;> by_cases h : p.len = s.nld <;> simp [h]
def planS : Spec [sysSh, intsSh] := ⟨fun (s, p, _) => SysMax (sysOf s) /\ p.1 <= maxLen, fun (s, p, _) => .si .i64 (plE (sysOf s) (vxOf p))⟩
set_option maxRecDepth 100000 in
theorem plan_ok : FnSpec Try.prog 44 _ planS := by
 refine FnSpec.of SP2_ok mixed (U := 0) (I := fun _ => []) Try.func44 rfl (by kernel_rfl) rfl rfl (by decide +kernel) ?_
 rintro ⟨s, p, ⟨⟩⟩ hpre
 obtain ⟨s, rfl⟩ := sys_ex s
 obtain ⟨p, rfl⟩ := vx_ex p
 have hpre : SysMax s /\ p.len <= maxLen := by have : SysMax (sysOf (sysD s)) /\ p.len <= maxLen := hpre; rwa [sysOf_D] at this
 obtain ⟨⟨p1, p2, p3, p4, p5, p6⟩, p7⟩ := hpre
 unfold FnSat
 conv => arg 2; reduce
 simp [planS, checkS, anyPlC, and_assoc]
 refine ⟨p1, p2, p3, p4, p5, p6, fun h => by unfold plE; simp [h], fun h => ⟨fun h1 => ?_, fun h1 => ⟨p7, fun h2 => ?_, fun h2 => ?_⟩⟩⟩
 ·unfold plE; rw [if_pos h, if_neg (by omega)]
 ·unfold plE; rw [if_pos h, if_pos (by omega), if_pos h2]
 ·unfold plE; rw [if_pos h, if_pos (by omega), if_neg (by simp [h2])]
def costN (s : Sys) (p : Vx) : Nat -> Int
 | 0 => 0
 | k + 1 => costN s p k + (s.md (p.at k).toNat).cost
theorem costN_zero (s : Sys) (p : Vx) : costN s p 0 = 0 := rfl
theorem costN_succ (s : Sys) (p : Vx) (k : Nat) : costN s p (k + 1) = costN s p k + (s.md (p.at k).toNat).cost := rfl
attribute [irreducible] costN
@[irreducible] def csV (s : Sys) (p : Vx) : Int := if plE s p = 0 then costN s p p.len else 0
theorem costN_b {s : Sys} {p : Vx} (h : plE s p = 0) : ∀ {k : Nat}, k <= p.len -> 0 <= costN s p k /\ costN s p k <= (k : Int) * 1073741824
 | 0, _ => by rw [costN_zero]; omega
 | k + 1, hk => by
   rw [costN_succ]
   have h1 := costN_b h (k := k) (by omega)
   have h2 := plE_iff.1 h
   have h3 := h2.2.2 k (by omega)
   have h4 := modeB_iff.1 ((checkB_iff.1 h2.1).2.2.2.2.2.2.2.2.2.2 (p.at k).toNat (by omega))
   omega
def costS : Spec [sysSh, intsSh] := ⟨fun (s, p, _) => SysMax (sysOf s) /\ p.1 <= maxLen, fun (s, p, _) => .tup [.si .i64 (csV (sysOf s) (vxOf p)), .si .i64 (plE (sysOf s) (vxOf p))]⟩
noncomputable def SP3 : Sums := ⟨(44, mkSum _ planS) :: SP2.one, SP2.two, SP2.lo, SP2.eqs, SP2.its, SP2.imm⟩
theorem SP3_ok : SumsOK Try.prog SP3 := (SP2_ok.cons Try.func44 (by kernel_rfl) (by kernel_rfl) plan_ok)
noncomputable def costI : DatL [sysSh, intsSh] -> Anns := fun (s, p, _) => [
 (6, [], fun fr hp => ⟨Nat, fun g => ⟨frI [.k 7, .s (.si .i64 (costN (sysOf s) (vxOf p) g)), .t 2, .k 8, .s (.si .i64 (icast g)), .t 13] fr, hp⟩, Nat × Nat, fun g => (g, p.1), fun (g, n) => g <= n, fun g => nsub p.1 g⟩)]
set_option maxRecDepth 100000 in
theorem cost_ok : FnSpec Try.prog 18 _ costS := by
 refine FnSpec.of SP3_ok mixed (U := 0) (I := costI) Try.func18 rfl (by kernel_rfl) rfl rfl (by decide +kernel) ?_
 rintro ⟨s, p, ⟨⟩⟩ hpre
 obtain ⟨s, rfl⟩ := sys_ex s
 obtain ⟨p, rfl⟩ := vx_ex p
 have hpre : SysMax s /\ p.len <= maxLen := by have : SysMax (sysOf (sysD s)) /\ p.len <= maxLen := hpre; rwa [sysOf_D] at this
 unfold FnSat
 conv => arg 2; reduce
 simp [costS, planS, and_assoc]
 refine ⟨hpre.1, hpre.2, fun h => by unfold csV; rw [if_neg h], fun h => ⟨⟨0, (costN_zero _ _).symm, rfl, by omega⟩, fun g hg => ⟨fun hlt => ?_, fun hge => ⟨?_, h.symm⟩⟩⟩⟩
 ·have h3 := plE_iff.1 h
  have h1 := h3.2.2 g hlt
  have h2 := costN_b h (k := g + 1) hlt
  rw [costN_succ] at h2
  have h4 := (checkB_iff.1 h3.1).2.2.2.2.1
  exact ⟨hlt, h1.1, h1.2, by omega, by omega, by omega, by omega, g + 1, (costN_succ _ _ _).symm, by omega, by omega, by omega⟩
 ·unfold csV; rw [if_pos h, show g = p.len by omega]
theorem adOK_of {s : Sys} {sl mo : Int} {b : Bx} (h : checkB s = true) (h1 : 0 <= sl) (h2 : sl < s.nld) (h3 : 0 <= mo) (h4 : mo < s.nmd) (h5 : b.len = s.lim.len) (h6 : nearV b 1073741824 = true) : AdOK s sl mo b := by
 have c := checkB_iff.1 h
 have hl := c.2.2.2.2.2.2.2.2.2.1 sl.toNat (by omega)
 refine ⟨by omega, h1, h2, h3, h4, by rw [h5]; exact c.2.2.2.2.2.2.2.2.2.2 mo.toNat (by omega), by omega, hl.2, fun k hk => ?_⟩
 have := nearV_iff.1 h6 k hk
 omega
@[irreducible] def nbE (s : Sys) (sl mo : Int) (b : Bx) : Int := if checkB s = true then (if 0 <= sl /\ sl < s.nld /\ 0 <= mo /\ mo < s.nmd then (if b.len = s.lim.len /\ nearV b 1073741824 = true then 0 else 8) else 3) else 2
@[irreducible] def nbN (s : Sys) (sl mo : Int) (b : Bx) : Nat := if nbE s sl mo b = 0 then b.len else 0
def nbS : Spec [sysSh, .int .i64, .int .i64, spansSh] := ⟨fun (s, _, _, b, _) => SysMax (sysOf s) /\ b.1 <= maxLen, fun (s, (sl : Int), (mo : Int), b, _) =>
 .tup [.slc (.sym (nbN (sysOf s) sl mo (bxOf b))) 2 (fun k => [.si .i64 ((adV (sysOf s) sl mo (bxOf b)).lo k), .si .i64 ((adV (sysOf s) sl mo (bxOf b)).hi k)]), .si .i64 (nbE (sysOf s) sl mo (bxOf b))]⟩
set_option maxRecDepth 100000 in
theorem nb_ok : FnSpec Try.prog 29 _ nbS := by
 refine FnSpec.of SP3_ok mixed (U := 0) (I := fun _ => []) Try.func29 rfl (by kernel_rfl) rfl rfl (by decide +kernel) ?_
 rintro ⟨s, (sl : Int), (mo : Int), b, ⟨⟩⟩ hpre
 obtain ⟨s, rfl⟩ := sys_ex s
 obtain ⟨b, rfl⟩ := bx_ex b
 have hpre : SysMax s /\ b.len <= maxLen := by have : SysMax (sysOf (sysD s)) /\ b.len <= maxLen := hpre; rwa [sysOf_D] at this
 obtain ⟨⟨p1, p2, p3, p4, p5, p6⟩, p7⟩ := hpre
 unfold FnSat
 conv => arg 2; reduce
 simp [nbS, checkS, withinS, advS, ElEq, and_assoc]
 refine ⟨p1, p2, p3, p4, p5, p6, fun h => ?_, fun h => ⟨fun h1 => ?_, fun a1 a2 a3 a4 => ⟨fun _ => p7, fun h1 => ?_, fun h1 h2 => ⟨adOK_of h a1 a2 a3 a4 (by omega) h2, ?_⟩⟩⟩⟩
 ·have e : nbE s sl mo b = 2 := by unfold nbE; simp [h]
  rw [e]; unfold nbN; rw [e]; simp [h]
 ·have e : nbE s sl mo b = 3 := by unfold nbE; rw [if_pos h, if_neg (by omega)]
  rw [e]; unfold nbN; rw [e]; simp
 ·have e : nbE s sl mo b = 8 := by
   unfold nbE
   rw [if_pos h, if_pos ⟨a1, a2, a3, a4⟩, if_neg]
   rintro ⟨h3, h4⟩
   rw [h4] at h1; simp at h1; omega
  rw [e]; unfold nbN; rw [e]; simp
 ·have e : nbE s sl mo b = 0 := by unfold nbE; rw [if_pos h, if_pos ⟨a1, a2, a3, a4⟩, if_pos ⟨by omega, h2⟩]
  rw [e]; unfold nbN; rw [e]; simp
end Abs
end Go.Proofs.Ytdfdjlijghjdaaa

namespace Go.Proofs.Ytdfdjlijghjdaaa
namespace Abs
open Go Go.RowKit
noncomputable def SE0 : Sums := ⟨(29, mkSum _ nbS) :: (18, mkSum _ costS) :: SP3.one, SP3.two, SP3.lo, SP3.eqs, SP3.its, SP3.imm⟩
theorem SE0_ok : SumsOK Try.prog SE0 := ((SP3_ok.cons Try.func18 (by kernel_rfl) (by kernel_rfl) cost_ok).cons Try.func29 (by kernel_rfl) (by kernel_rfl) nb_ok)
noncomputable def SE1 : Sums := ⟨SE0.one, SE0.two, SE0.lo, SE0.eqs, SE0.its, SE0.imm⟩
theorem SE1_ok : SumsOK Try.prog SE1 := SE0_ok
def exA : AV := .agg [.slc (.lit 1) 2 (rowAt 2 [.li .i64 0, .li .i64 10]), .slc (.lit 1) 2 (rowAt 2 [.li .i64 5, .li .i64 5]),
 .slc (.lit 2) 3 (rowAt 3 [.li .i64 0, .slc (.lit 1) 1 (rowAt 1 [.li .i64 0]), .v (.slice none 0 0), .li .i64 3, .slc (.lit 1) 1 (rowAt 1 [.li .i64 (-4)]), .v (.slice none 0 0)]),
 .slc (.lit 3) 1 (rowAt 1 [.slc (.lit 1) 2 (rowAt 2 [.li .i64 1, .li .i64 3]), .slc (.lit 1) 2 (rowAt 2 [.li .i64 1, .li .i64 3]), .slc (.lit 1) 2 (rowAt 2 [.li .i64 1, .li .i64 3])])]
def exS0 : Spec [] := ⟨fun _ => True, fun _ => exA⟩
set_option maxRecDepth 100000 in
theorem ex0_ok : FnSpec Try.prog 30 _ exS0 := by
 refine FnSpec.of SE1_ok mixed (U := 0) (I := fun _ => []) Try.func30 rfl (by kernel_rfl) rfl rfl (by decide +kernel) ?_
 rintro ⟨⟩ -
 unfold FnSat
 conv => arg 2; reduce
 simp [exS0, exA, ElEq, getB, goneB, aliveB]
@[irreducible] def exSys : Sys := sysOf (dec sysSh exA)
theorem Fn.res {P : Program} {f : FuncId} {args : List AV} {H H' : Heap} {r r' : AV} (h : Fn P f args H r H') (hr : ∀ (C : Cx) (w : World) (v : Value), Rel C w r v -> Rel C w r' v) : Fn P f args H r' H' :=
 fun C w vs h0 h1 h2 => (h C w vs h0 h1 h2).mono fun e w' ⟨v, C', he, h3, h4, h5⟩ => ⟨v, C', he, h3, hr _ _ _ h4, h5⟩
theorem ex_can : CanSh sysSh exA := by
 unfold exA CanSh
 refine ⟨rfl, fun k hk => ?_, rfl, fun k hk => ?_, rfl, fun k hk => ?_, rfl, fun k hk => ?_, trivial⟩
 ·obtain rfl : k = 0 := by simp [LN.val] at hk; exact hk
  exact ⟨rfl, trivial, rfl, trivial, trivial⟩
 ·obtain rfl : k = 0 := by simp [LN.val] at hk; exact hk
  exact ⟨rfl, trivial, rfl, trivial, trivial⟩
 ·have : k = 0 \/ k = 1 := by simp only [LN.val] at hk; omega
  rcases this with rfl | rfl
  ·refine ⟨rfl, trivial, rfl, fun k hk => ?_, rfl, trivial, trivial⟩
   obtain rfl : k = 0 := by simp [LN.val] at hk; exact hk
   exact ⟨rfl, trivial, trivial⟩
  ·refine ⟨rfl, trivial, rfl, fun k hk => ?_, rfl, trivial, trivial⟩
   obtain rfl : k = 0 := by simp [LN.val] at hk; exact hk
   exact ⟨rfl, trivial, trivial⟩
 ·have : k = 0 \/ k = 1 \/ k = 2 := by simp only [LN.val] at hk; omega
  rcases this with rfl | rfl | rfl
  all_goals
   refine ⟨rfl, fun k hk => ?_, trivial⟩
   obtain rfl : k = 0 := by simp [LN.val] at hk; exact hk
   exact ⟨rfl, trivial, rfl, trivial, trivial⟩
def exS : Spec [] := ⟨fun _ => True, fun _ => enc sysSh (sysD exSys)⟩
theorem ex_ok : FnSpec Try.prog 30 _ exS := fun x hx => (ex0_ok x hx).res fun C w v hv => by
 have h1 := enc_dec (s := sysSh) (a := exA) rfl ex_can hv
 obtain ⟨s, hs⟩ := sys_ex (dec sysSh exA)
 have h2 : exSys = s := by unfold exSys; rw [hs]; exact sysOf_D s
 show Rel C w (enc sysSh (sysD exSys)) v
 rw [h2, <- hs]; exact h1
theorem ex_0 : exSys.lim.len = 1 /\ exSys.lim.lo 0 = 0 /\ exSys.lim.hi 0 = 10 /\ exSys.st.len = 1 /\ exSys.st.lo 0 = 5 /\ exSys.st.hi 0 = 5 /\ exSys.nmd = 2 /\ exSys.nld = 3 := by
 unfold exSys exA sysOf Sys.lim Sys.st Sys.nmd Sys.nld bxOf Bx.len Bx.lo Bx.hi; exact ⟨rfl, rfl, rfl, rfl, rfl, rfl, rfl, rfl⟩
theorem ex_m0 : (exSys.md 0).cost = 0 /\ (exSys.md 0).nsh = 1 /\ (exSys.md 0).sh 0 = 0 /\ (exSys.md 0).nfl = 0 := by
 unfold exSys exA sysOf Sys.md mdOf Mo.cost Mo.nsh Mo.sh Mo.nfl; exact ⟨rfl, rfl, rfl, rfl⟩
theorem ex_m1 : (exSys.md 1).cost = 3 /\ (exSys.md 1).nsh = 1 /\ (exSys.md 1).sh 0 = -4 /\ (exSys.md 1).nfl = 0 := by
 unfold exSys exA sysOf Sys.md mdOf Mo.cost Mo.nsh Mo.sh Mo.nfl; exact ⟨rfl, rfl, rfl, rfl⟩
theorem ex_l : ∀ k, k < 3 -> (exSys.ld k).len = 1 /\ (exSys.ld k).lo 0 = 1 /\ (exSys.ld k).hi 0 = 3 := fun k hk => by
 have : k = 0 \/ k = 1 \/ k = 2 := by omega
 rcases this with rfl | rfl | rfl
 all_goals (unfold exSys exA sysOf Sys.ld bxOf Bx.len Bx.lo Bx.hi; exact ⟨rfl, rfl, rfl⟩)
theorem ex_check : checkB exSys = true := by
 obtain ⟨a1, a2, a3, a4, a5, a6, a7, a8⟩ := ex_0
 obtain ⟨b1, b2, b3, b4⟩ := ex_m0
 obtain ⟨c1, c2, c3, c4⟩ := ex_m1
 refine checkB_iff.2 ⟨by omega, by omega, by omega, by omega, by omega, nearV_iff.2 fun k hk => ?_, by omega, nearV_iff.2 fun k hk => ?_, inV_iff.2 fun k hk => ?_, fun k hk => ⟨?_, nearV_iff.2 fun j hj => ?_⟩, fun k hk => modeB_iff.2 ?_⟩
 ·obtain rfl : k = 0 := by omega
  omega
 ·obtain rfl : k = 0 := by omega
  omega
 ·obtain rfl : k = 0 := by omega
  omega
 ·have := ex_l k (by omega); omega
 ·have := ex_l k (by omega)
  obtain rfl : j = 0 := by omega
  omega
 ·have : k = 0 \/ k = 1 := by omega
  rcases this with rfl | rfl
  ·refine ⟨by omega, by omega, by omega, fun j hj => ?_, fun g hg => by omega⟩
   obtain rfl : j = 0 := by omega
   omega
  ·refine ⟨by omega, by omega, by omega, fun j hj => ?_, fun g hg => by omega⟩
   obtain rfl : j = 0 := by omega
   omega
noncomputable def SE2 : Sums := ⟨(30, mkSum _ exS) :: SE1.one, SE1.two, SE1.lo, SE1.eqs, SE1.its, SE1.imm⟩
theorem SE2_ok : SumsOK Try.prog SE2 := (SE1_ok.cons Try.func30 (by kernel_rfl) (by kernel_rfl) ex_ok)
def worksS : Spec [] := ⟨fun _ => True, fun _ => .sb true⟩
set_option maxRecDepth 100000 in
theorem works_ok : FnSpec Try.prog 11 _ worksS := by
 refine FnSpec.of SE2_ok mixed (U := 0) (I := fun _ => []) Try.func11 rfl (by kernel_rfl) rfl rfl (by decide +kernel) ?_
 rintro ⟨⟩ -
 unfold FnSat
 conv => arg 2; reduce
 simp [worksS, nbS, costS]
 have hmax : SysMax exSys := by
  obtain ⟨a1, a2, a3, a4, a5, a6, a7, a8⟩ := ex_0
  obtain ⟨b1, b2, b3, b4⟩ := ex_m0
  obtain ⟨c1, c2, c3, c4⟩ := ex_m1
  unfold SysMax maxLen
  refine ⟨by omega, by omega, by omega, by omega, fun k hk => by have := ex_l k (by omega); omega, fun k hk => ?_⟩
  have : k = 0 \/ k = 1 := by omega
  rcases this with rfl | rfl <;> omega
 generalize hb : bxOf _ = b
 generalize hv : vxOf _ = v
 have b1 : b.len = 1 := by rw [<- hb]; simp
 have b2 : b.lo 0 = 5 := by rw [<- hb, bxOf_lo]; rfl
 have b3 : b.hi 0 = 5 := by rw [<- hb, bxOf_hi]; rfl
 have v1 : v.len = 3 := by rw [<- hv]; simp
 have v2 : v.at 0 = 0 := by rw [<- hv, vxOf_at]; rfl
 have v3 : v.at 1 = 1 := by rw [<- hv, vxOf_at]; rfl
 have v4 : v.at 2 = 0 := by rw [<- hv, vxOf_at]; rfl
 clear hb hv
 obtain ⟨a1, a2, a3, a4, a5, a6, a7, a8⟩ := ex_0
 have hnr : nearV b 1073741824 = true := nearV_iff.2 fun k hk => by
  obtain rfl : k = 0 := by omega
  omega
 have hn : nbE exSys 0 0 b = 0 := by
  unfold nbE
  rw [if_pos ex_check, if_pos (by omega), if_pos ⟨by omega, hnr⟩]
 have hn1 : nbN exSys 0 0 b = 1 := by unfold nbN; rw [hn, if_pos rfl, b1]
 have hp : plE exSys v = 0 := plE_iff.2 ⟨ex_check, by omega, fun k hk => by
  have : k = 0 \/ k = 1 \/ k = 2 := by omega
  rcases this with rfl | rfl | rfl <;> omega⟩
 have hc : csV exSys v = 3 := by
  unfold csV
  rw [if_pos hp, v1, costN_succ, costN_succ, costN_succ, costN_zero, v2, v3, v4]
  have h0 := ex_m0.1
  have h1 := ex_m1.1
  show 0 + (exSys.md 0).cost + (exSys.md 1).cost + (exSys.md 0).cost = 3
  omega
 have hl : (adV exSys 0 0 b).lo 0 = 6 := by
  rw [adV_lo]
  show nxV (exSys.md 0) b.lo (exSys.ld 0).lo 0 = 6
  rw [nxV_none ex_m0.2.2.2, b2, (ex_l 0 (by decide)).2.1, ex_m0.2.2.1]; rfl
 have hh : (adV exSys 0 0 b).hi 0 = 8 := by
  rw [adV_hi]
  show nxV (exSys.md 0) b.hi (exSys.ld 0).hi 0 = 8
  rw [nxV_none ex_m0.2.2.2, b3, (ex_l 0 (by decide)).2.2, ex_m0.2.2.1]; rfl
 refine ⟨⟨rfl, trivial, rfl, trivial, trivial⟩, ⟨hmax, by decide⟩, fun k hk => ?_, ⟨hmax, by decide⟩, ?_⟩
 ·have : k = 0 \/ k = 1 \/ k = 2 := by omega
  rcases this with rfl | rfl | rfl <;> exact ⟨rfl, trivial, trivial⟩
 ·simp [hn, hn1, hp, hc, hl, hh]
end Abs
end Go.Proofs.Ytdfdjlijghjdaaa

namespace Go.Proofs.Ytdfdjlijghjdaaa
namespace Abs
open Go Go.RowKit
noncomputable def SL0 : Sums := ⟨(11, mkSum _ worksS) :: SE2.one, SE2.two, SE2.lo, SE2.eqs, SE2.its, SE2.imm⟩
theorem SL0_ok : SumsOK Try.prog SL0 := (SE2_ok.cons Try.func11 (by kernel_rfl) (by kernel_rfl) works_ok)
noncomputable def SL1 : Sums := ⟨SL0.one, SL0.two, SL0.lo, SL0.eqs, SL0.its, SL0.imm⟩
theorem SL1_ok : SumsOK Try.prog SL1 := SL0_ok
end Abs
end Go.Proofs.Ytdfdjlijghjdaaa

namespace Go.Proofs.Ytdfdjlijghjdaaa
namespace Abs
open Go Go.RowKit
noncomputable def SK0 : Sums := ⟨SL1.one, SL1.two, SL1.lo, SL1.eqs, SL1.its, SL1.imm⟩
theorem SK0_ok : SumsOK Try.prog SK0 := SL1_ok
noncomputable def SK1 : Sums := ⟨SK0.one, SK0.two, SK0.lo, SK0.eqs, SK0.its, SK0.imm⟩
theorem SK1_ok : SumsOK Try.prog SK1 := SK0_ok
@[simp] theorem bxOf_adV (s : Sys) (sl mo : Int) (b : Bx) : bxOf (b.len, fun k => ((adV s sl mo b).lo k, (adV s sl mo b).hi k, ())) = adV s sl mo b := by
 have := bxOf_mk (adV s sl mo b); rwa [adV_len] at this
theorem near_of_in {s : Sys} {b : Bx} (h : checkB s = true) (hl : b.len = s.lim.len) (hb : inV s.lim b = true) : nearV b 10000 = true := by
 have c := checkB_iff.1 h
 have h1 := nearV_iff.1 c.2.2.2.2.2.1
 refine nearV_iff.2 fun k hk => ?_
 have h2 := inV_iff.1 hb k hk
 have h3 := h1 k (by omega)
 omega
theorem near_wide {b : Bx} (h : nearV b 10000 = true) : nearV b 1073741824 = true := nearV_iff.2 fun k hk => by have := nearV_iff.1 h k hk; omega
@[irreducible] def eqBx (x y : Bx) : Bool := decide (x.len = y.len) && allN (fun k => decide (x.lo k = y.lo k) && decide (x.hi k = y.hi k)) x.len
theorem eqBx_iff {x y : Bx} : eqBx x y = true ↔ x.len = y.len /\ ∀ k, k < x.len -> x.lo k = y.lo k /\ x.hi k = y.hi k := by unfold eqBx; simp [allN_iff]
@[simp] theorem eqBx_self (x : Bx) : eqBx x x = true := eqBx_iff.2 ⟨rfl, fun _ _ => ⟨rfl, rfl⟩⟩
noncomputable def SK2 : Sums := ⟨SK1.one, SK1.two, SK1.lo, SK1.eqs, SK1.its, SK1.imm⟩
theorem SK2_ok : SumsOK Try.prog SK2 := SK1_ok
noncomputable def SK3 : Sums := ⟨SK2.one, SK2.two, SK2.lo, SK2.eqs, SK2.its, SK2.imm⟩
theorem SK3_ok : SumsOK Try.prog SK3 := SK2_ok
end Abs
end Go.Proofs.Ytdfdjlijghjdaaa

namespace Go.Proofs.Ytdfdjlijghjdaaa
namespace Abs
open Go Go.RowKit
def cloneBS : Spec [spansSh] := ⟨fun (b, _) => b.1 <= 1000000, fun (b, _) => .slc (.sym b.1) 2 (fun k => [.si .i64 ((bxOf b).lo k), .si .i64 ((bxOf b).hi k)])⟩
set_option maxRecDepth 100000 in
theorem cloneB_ok : FnSpec Try.prog 61 _ cloneBS := by
 refine FnSpec.of SK3_ok mixed (U := 0) (I := fun _ => []) Try.func61 rfl (by kernel_rfl) rfl rfl (by decide +kernel) ?_
 rintro ⟨b, ⟨⟩⟩ (h0 : b.1 <= 1000000)
 obtain ⟨b, rfl⟩ := bx_ex b
 have h0 : b.len <= 1000000 := h0
 unfold FnSat
 conv => arg 2; reduce
 simp [unitA, cloneBS, maxRow, ElEq, aliveB, goneB, getB, and_assoc]
 omega
noncomputable def SB0 : Sums := ⟨(61, mkSum _ cloneBS) :: SK3.one, SK3.two, SK3.lo, SK3.eqs, SK3.its, SK3.imm⟩
theorem SB0_ok : SumsOK Try.prog SB0 := (SK3_ok.cons Try.func61 (by kernel_rfl) (by kernel_rfl) cloneB_ok)
noncomputable def SB1 : Sums := ⟨SB0.one, SB0.two, SB0.lo, SB0.eqs, SB0.its, SB0.imm⟩
theorem SB1_ok : SumsOK Try.prog SB1 := SB0_ok
end Abs
end Go.Proofs.Ytdfdjlijghjdaaa

namespace Go.Proofs.Ytdfdjlijghjdaaa
namespace Abs
open Go Go.RowKit
noncomputable def SM0 : Sums := ⟨SB1.one, SB1.two, SB1.lo, SB1.eqs, SB1.its, SB1.imm⟩
theorem SM0_ok : SumsOK Try.prog SM0 := SB1_ok
noncomputable def SM1 : Sums := ⟨SM0.one, SM0.two, SM0.lo, SM0.eqs, SM0.its, SM0.imm⟩
theorem SM1_ok : SumsOK Try.prog SM1 := SM0_ok
end Abs
end Go.Proofs.Ytdfdjlijghjdaaa

namespace Go.Proofs.Ytdfdjlijghjdaaa
namespace Abs
open Go Go.RowKit
def EndQ (P1 : Act -> World -> Prop) : Exit -> Act -> World -> Prop := fun e a w => e = .normal /\ P1 a w
section
variable {F : Fence} {n : Nat} {P : Program} {P1 : Act -> World -> Prop} {Q : Exit -> Act -> World -> Prop}
theorem wpIn_endQ {o : Oper} {a : Act} {w : World} {K K' : Act -> World -> Prop} (h : ∀ a w, K a w -> K' a w) (hh : o.wpIn F n P a w K (EndQ P1)) : o.wpIn F n P a w K' Q := by
 unfold Oper.wpIn at *
 refine ⟨hh.1, ?_⟩
 have hh := hh.2
 generalize (o.semAt F.round a.eval).run P w = r at *
 cases r with
 | ok x w' =>
   cases x <;> simp only [Oper.uponIn] at hh ⊢ <;>
    first
     | exact h _ _ hh
     | exact ⟨hh.1, CallsIn.mono hh.2 (fun e w'' he => by cases e <;> first | exact h _ _ he | (obtain ⟨h1, _⟩ := he; cases h1; done) | (obtain ⟨_, _, h1, _⟩ := he; cases h1))⟩
     | exact ⟨hh.1, RowsIn.mono hh.2 (fun _ _ he => h _ _ he)⟩
     | exact ⟨hh.1, RoundIn.mono hh.2 (fun e w'' he => by cases e <;> first | exact h _ _ he | (obtain ⟨h1, _⟩ := he; cases h1; done) | (obtain ⟨_, _, h1, _⟩ := he; cases h1))⟩
 | halt x w' => cases x <;> simp only [Oper.uponIn] at hh ⊢ <;> first | exact hh | (obtain ⟨h1, _⟩ := hh; cases h1)
theorem yieldedO_eq {ops ops' : Array Oper} {tm : Array Value} {j : Nat} (h : ops[j]? = ops'[j]?) : yielded ops tm j = yielded ops' tm j := by unfold yielded; rw [h]
theorem wanted_pre {pre all : List Oper} {o : Oper} {tm : Array Value} (hg : ∀ g w, o.guard = some (g, w) -> pre[g]? = all[g]?) : Region.wanted o (yielded pre.toArray tm) = Region.wanted o (yielded all.toArray tm) := by
 unfold Region.wanted
 cases h : o.guard with
 | none => rfl
 | some x => obtain ⟨g, w⟩ := x; simp only; rw [yieldedO_eq (ops := pre.toArray) (ops' := all.toArray) (by simpa using hg g w h)]
theorem take_get {all : List Oper} {k i : Nat} (h : i < k) : (all.take k)[i]? = all[i]? := by rw [List.getElem?_take]; simp [h]
theorem opIn_pre {all : List Oper} {k i : Nat} (hi : i < k) (hu : uniqOK (all.take k) = true) {a : Act} {w : World} {K K' : Act -> World -> Prop} (h : ∀ a w, K a w -> K' a w) (hh : wpOpIn F n P (all.take k).toArray (EndQ P1) i K a w) : wpOpIn F n P all.toArray Q i K' a w := by
 unfold wpOpIn at *
 have e : (all.take k).toArray[i]? = all.toArray[i]? := by simp [List.getElem?_take, hi]
 rw [e] at hh
 cases ho : all.toArray[i]? with
 | none => rw [ho] at hh; exact h _ _ hh
 | some o =>
   rw [ho] at hh
   simp only at hh ⊢
   have hpo : (all.take k)[i]? = some o := by simpa [List.getElem?_take, hi] using ho
   rw [wanted_pre (pre := all.take k) (all := all) (fun g w hg => take_get (Nat.lt_trans ((uniq_spec hu hpo).2 g w hg) hi))] at hh
   split
   ·rename_i hw; rw [hw] at hh; simp only [if_true] at hh; exact wpIn_endQ h hh
   ·rename_i hw; rw [Bool.eq_false_iff.2 hw] at hh; exact ⟨hh.1, h _ _ hh.2⟩
theorem any_prefix {all : List Oper} {k m : Nat} (hk : k < all.length) (hu : uniqOK (all.take k) = true) (hback : Back all) (hbar : barAt true all k = true)
  (hcont : ∀ (a : Act) (w : World), P1 a w -> ∀ D : Array Bool, D.size = all.length -> Closed all (Lst D) -> (∀ i, i < k -> Lst D i) -> (∀ i, k <= i -> ¬ Lst D i) -> wpAnyIn F n P .any all.toArray Q m D a w) :
  ∀ (fuel : Nat) (D' D : Array Bool) (a : Act) (w : World), D'.size = k -> D.size = all.length -> Closed all (Lst D) -> (∀ i, i < k -> D.getD i false = D'.getD i false) -> (∀ i, k <= i -> ¬ Lst D i) -> unl (fun i => D'.getD i false) k = fuel ->
    wpAnyIn F n P .any (all.take k).toArray (EndQ P1) fuel D' a w -> wpAnyIn F n P .any all.toArray Q (fuel + m) D a w := by
 have hlen : (all.take k).length = k := by rw [List.length_take]; omega
 intro fuel
 induction fuel with
 | zero =>
   intro D' D a w hs' hs hcl he hge hun h
   have hall := unl_zero hun
   rw [Nat.zero_add]
   exact hcont a w h.2.2 D hs hcl (fun i hi => by show D.getD i false = true; rw [he i hi]; exact hall i hi) hge
 | succ fuel ih =>
   intro D' D a w hs' hs hcl he hge hun h
   have hnot : ¬ ∀ i, i < k -> Lst D i := fun hh => by
    have : unl (fun i => D'.getD i false) k = 0 := by
     have key : ∀ q, q <= k -> unl (fun i => D'.getD i false) q = 0 := by
      intro q
      induction q with
      | zero => intro _; rfl
      | succ q ihq =>
        intro hq
        have h1 := hh q hq
        have h2 : D'.getD q false = true := by rw [<- he q hq]; exact h1
        simp only [unl, h2]
        simpa using ihq (by omega)
     exact key k (Nat.le_refl _)
    omega
   rw [show fuel + 1 + m = (fuel + m) + 1 by omega]
   refine ⟨fun hr => absurd (fun i hi => all_listed hback hs hr i (by omega)) hnot, fun i hir => ?_⟩
   obtain ⟨o, ho, hnl, hpre, hLst, hclosed, _, hsz⟩ := ready_facts hs hcl hir
   have hik : i < k := by
    rcases Nat.lt_or_ge i k with hi | hi
    ·exact hi
    ·exfalso
     rcases Nat.lt_or_ge k i with hi2 | hi2
     ·exact hge k (Nat.le_refl _) (ord_closed hback hcl _ _ ho hpre ((bar_spec hbar (List.getElem?_eq_some_iff.1 ho).1).2 hi2))
     ·obtain rfl : i = k := by omega
      exact hnot fun j hj => ord_closed hback hcl _ _ ho hpre ((bar_spec hbar (by omega)).1 hj)
   have hpo : (all.take k)[i]? = some o := by rw [take_get hik]; exact ho
   have hnl' : D'.getD i true = false := by
    rw [getD_tf (by omega)]
    have : D.getD i false = false := by simpa [Lst] using hnl
    rw [<- he i hik]; exact this
   have hmem : i ∈ Region.ready .any (all.take k).toArray D' := mem_ready hpo hnl' fun e he' hb => by
    have := hpre e he' hb
    have hlt := hback i o ho e he' hb
    show D'.getD e.on false = true
    rw [<- he _ (by omega)]; exact this
   refine opIn_pre hik hu (fun a1 w1 h1 => ?_) (h.2 i hmem)
   have hsz' : (D'.setIfInBounds i true).size = k := by simpa using hs'
   refine ih _ _ a1 w1 hsz' hsz hclosed (fun j hj => ?_) (fun j hj hl => ?_) ?_ h1
   ·rw [lst_set (by omega), lst_set (by omega), he j hj]
   ·rcases (hLst j).1 hl with h2 | h2
    ·exact hge j hj h2
    ·omega
   ·have := unl_set (f := fun i => D'.getD i false) (g := fun j => (D'.setIfInBounds i true).getD j false) (i := i) (by rw [getD_tf (by omega)] at hnl'; exact hnl') (fun j => lst_set (by omega)) (n := k) hik
    omega
theorem opsIn_prefix {all : List Oper} {k : Nat} (hk : k <= all.length) (hu : uniqOK (all.take k) = true) {rest : List Nat} (hcont : ∀ a w, P1 a w -> wpOpsIn F n P all.toArray Q rest a w) :
  ∀ (l : List Nat), (∀ i ∈ l, i < k) -> ∀ (a : Act) (w : World), wpOpsIn F n P (all.take k).toArray (EndQ P1) l a w -> wpOpsIn F n P all.toArray Q (l ++ rest) a w
 | [], _, a, w, h => hcont a w h.2
 | i :: l, hl, a, w, h => by
   rw [List.cons_append, wpOpsIn_cons]
   rw [wpOpsIn_cons] at h
   exact opIn_pre (hl i (by simp)) hu (fun a w h => opsIn_prefix hk hu hcont l (fun j hj => hl j (by simp [hj])) a w h) h
end
end Abs
end Go.Proofs.Ytdfdjlijghjdaaa

namespace Go.Proofs.Ytdfdjlijghjdaaa
namespace Abs
open Go Go.RowKit
noncomputable section
def flatA : AV -> AV
 | .li k n => .li k n
 | .si k n => .si k n
 | .lb b => .lb b
 | .sb b => .sb b
 | .v x => .v x
 | _ => .top
def flatL : List AV -> List AV -> List AV
 | _, [] => []
 | [], a :: l => flatA a :: flatL [] l
 | p :: ps, _ :: l => p :: flatL ps l
def flatK : List AV -> List AV -> (List AV -> VC) -> VC
 | _, [], k => k []
 | [], a :: l, k => forceV (flatA a) fun a' => flatK [] l fun l' => k (a' :: l')
 | p :: ps, _ :: l, k => flatK ps l fun l' => k (p :: l')
def flatO (W : Nat) : Nat -> List AV -> List AV -> List AV
 | n, o :: os, a :: l => (match Nat.testBit W n with | true => flatA a | false => o) :: flatO W (n + 1) os l
 | _, _, _ => []
def flatOK (W : Nat) : List AV -> List AV -> Nat -> (List AV -> VC) -> VC
 | o :: os, a :: l, n, k => (match Nat.testBit W n with
   | true => forceV (flatA a) fun a' => flatOK W os l (n + 1) fun l' => k (a' :: l')
   | false => flatOK W os l (n + 1) fun l' => k (o :: l'))
 | _, _, _, k => k []
def overO (W : Nat) : Nat -> List AV -> List AV -> List AV
 | n, o :: os, a :: l => (match Nat.testBit W n with | true => a | false => o) :: overO W (n + 1) os l
 | _, _, _ => []
def overK (W : Nat) : List AV -> List AV -> Nat -> (List AV -> VC) -> VC
 | o :: os, a :: l, n, k => (match Nat.testBit W n with
   | true => overK W os l (n + 1) fun l' => k (a :: l')
   | false => overK W os l (n + 1) fun l' => k (o :: l'))
 | _, _, _, k => k []
def pureO (o : Oper) : Bool := match o.guard, o.op with
 | none, .move _ => true
 | none, .assign _ => true
 | none, .load _ _ => true
 | none, .indexAddr _ _ _ => true
 | none, .fieldAddr _ _ _ => true
 | none, .nilCheck _ => true
 | _, _ => false
def preP : List Oper -> List Oper
 | [] => []
 | o :: l => (match pureO o with | true => o :: preP l | false => [])
def resP : List Oper -> List Oper
 | [] => []
 | o :: l => (match pureO o with | true => resP l | false => o :: l)
def allT : List Oper -> List Bool
 | [] => []
 | _ :: l => true :: allT l
def isYl : List Oper -> Option (Oper × Oper)
 | [y, z] => some (y, z)
 | _ :: l => isYl l
 | [] => none
def calleeT : Op -> Option (Nat × List Operand)
 | .call c => (match c.callee with | .value (.tmp d) => some (d, c.args.toList) | _ => none)
 | _ => none
def notT : Op -> Option Nat
 | .unOp .not _ (.tmp e) => some e
 | _ => none
def movedT (d : Nat) : List Oper -> Bool
 | [] => false
 | o :: l => (match o.dst, o.op with | some e, .move (.tmp 0) => Nat.beq e d || movedT d l | _, _ => movedT d l)
structure YCall where
 d : Nat
 args : List Operand
 yd : Nat
 zd : Nat
def splitY (ops : List Oper) : Option YCall :=
 match isYl ops with
 | none => none
 | some (y, z) => (match calleeT y.op, notT z.op with
   | some (d, args), some e => (match y.dst, z.dst, y.guard, z.guard with
     | some yd, some zd, none, none => (match movedT d ops && Nat.beq e yd && !(Nat.beq yd zd) with | true => some ⟨d, args, yd, zd⟩ | false => none)
     | _, _, _, _ => none)
   | _, _ => none)
structure YA where
 ps : List AV
 Y : Value
 n : Nat
 it : Nat -> List AV
 fr : Nat -> List AV
 {α : Type}
 dat : Nat -> α
 q : α -> Prop
def natA (A : YA) : Ann := ⟨Nat, fun _ => ⟨[], []⟩, A.α, A.dat, A.q, fun _ => 0⟩
def yldK (A : YA) (W : Nat) (old : List AV) (y : YCall) (fr : List AV) (k : Nat) (Q : List AV -> Option Nat -> VC) : VC :=
 .need ⟨fun z : AV × AV => z.1 = z.2, (getL fr y.d, .v A.Y)⟩ (.need ⟨fun z : Nat × Nat => z.1 < z.2, (k, A.n)⟩ (forceLD (evL (ev fr) y.args) fun asg => forceL (A.it k) fun its => leLW (leAF 6 0 [] []) asg its
  (.loop (A := unitA) (fun _ => ()) (setF fr y.yd (.lb true) fun f => setF f y.zd (.lb false) fun f => flatOK W old f 0 fun f => Q f (some (nadd k 1)))
   fun _ => setF fr y.yd (.lb false) fun f => setF f y.zd (.lb true) fun f => flatOK W old f 0 fun f => Q f none)))
def endH (W : Nat) (old : List AV) (Q : List AV -> VC) (fr : List AV) (hp : Heap) : VC := match hp with | [] => flatOK W old fr 0 Q | _ => .fail
def yldH (A : YA) (W : Nat) (old : List AV) (y : YCall) (k : Nat) (Q : List AV -> Option Nat -> VC) (fr : List AV) (hp : Heap) : VC := match hp with | [] => yldK A W old y fr k Q | _ => .fail
def wpY (P : Program) (S : Sums) (A : YA) : Code -> List AV -> Option Nat -> (AE -> List AV -> Option Nat -> VC) -> VC
 | .skip, fr, k, Q => Q .normal fr k
 | .region _ ops dr, fr, k, Q => (match splitY ops.toList with
   | none => (match dr with
     | false => preK P ops.toList (preP ops.toList) (allT (preP ops.toList)) fr fun f => overK (mskO (preP ops.toList)) fr f 0 fun f =>
       runOps P S false ops.toList none (lenO (preP ops.toList)) (resP ops.toList) [] f [] (endH (mskO (resP ops.toList)) f fun f => Q .normal f k)
     | true => runOps P S dr ops.toList none 0 ops.toList [] fr [] (endH (mskO ops.toList) fr fun f => Q .normal f k))
   | some y => (match k, Nat.blt y.yd fr.length with
     | some k, true => runOps P S dr (ops.toList.take (ops.toList.length - 2)) none 0 (ops.toList.take (ops.toList.length - 2)) [] fr [] (yldH A (mskO ops.toList) fr y k fun f k' => Q .normal f k')
     | _, _ => .fail))
 | .seq a b, fr, k, Q => wpY P S A a fr k fun e fr' k' => match e with
   | .normal => wpY P S A b fr' k' Q
   | e => Q e fr' k'
 | .cond c t e, fr, k, Q => (match c with
   | .tmp d => (match Nat.ble A.ps.length d with | true => branchK fr d fun b fr => (match b with | true => wpY P S A t fr k Q | false => wpY P S A e fr k Q) | false => .fail)
   | _ => .fail)
 | .block id c, fr, k, Q => wpY P S A c fr k fun e fr' k' => match e with
   | .exit j => (match Nat.beq id j with | true => Q .normal fr' k' | false => Q (.exit j) fr' k')
   | e => Q e fr' k'
 | .loop c, fr, k, Q => (match k with
   | none => .fail
   | some k => .loop (A := natA A) A.dat (leLW (leAF 6 0 [] []) fr (A.fr k) (.need ⟨A.q, A.dat k⟩ .done)) fun g => forceL (A.fr g) fun f => wpY P S A c f (some g) fun e fr' k' => match e with
     | .normal => (match k' with
       | some k' => .need ⟨fun z : Nat × Nat × Nat => z.1 < z.2.1 /\ z.1 < z.2.2, (g, k', A.n)⟩ (leLW (leAF 6 0 [] []) fr' (A.fr k') (.need ⟨A.q, A.dat k'⟩ .done))
       | none => .fail)
     | e => Q e fr' k')
 | .exit id, fr, k, Q => Q (.exit id) fr k
 | .ret, fr, k, Q => Q .ret fr k
 | _, _, _, _ => .fail
def wpYF (P : Program) (S : Sums) (A : YA) (fn : Func) : VC :=
 match fn.body with
 | some c => forceL (padL A.ps fn.ntmps) fun fr => flatK A.ps fr fun fr => wpY P S A c fr (some 0) fun e _ k => match e with
   | .exit _ => .fail
   | _ => (match k with | some k => .need ⟨fun z : Nat × Nat => z.1 = z.2, (k, A.n)⟩ .done | none => .done)
 | none => .fail
def codeY (np : Nat) : Code -> Bool
 | .region _ ops dr => (match splitY ops.toList with
   | none => regOK dr ops.toList
   | some _ => regOK dr (ops.toList.take (ops.toList.length - 2)) && backOK ops.toList && (match dr with | true => barAt true ops.toList (ops.toList.length - 2) | false => true)) && allLt (fun t => !(Nat.testBit (mskO ops.toList) t)) np
 | .seq a b => codeY np a && codeY np b
 | .cond _ a b => codeY np a && codeY np b
 | .block _ a => codeY np a
 | .loop a => codeY np a
 | .skip => true
 | .exit _ => true
 | .ret => true
 | _ => false
end
theorem flatK_eq : ∀ (ps l : List AV) (k : List AV -> VC), flatK ps l k = k (flatL ps l)
 | [], [], k => rfl
 | _ :: _, [], k => rfl
 | [], a :: l, k => by unfold flatK flatL; rw [forceV_eq, flatK_eq [] l]
 | p :: ps, a :: l, k => by unfold flatK flatL; rw [flatK_eq ps l]
theorem flatOK_eq (W : Nat) : ∀ (os l : List AV) (n : Nat) (k : List AV -> VC), flatOK W os l n k = k (flatO W n os l)
 | [], _, _, _ => by simp [flatOK, flatO]
 | _ :: _, [], _, _ => by simp [flatOK, flatO]
 | o :: os, a :: l, n, k => by
   unfold flatOK flatO
   cases Nat.testBit W n with
   | true => simp only; rw [forceV_eq, flatOK_eq W os l]
   | false => simp only; rw [flatOK_eq W os l]
theorem overK_eq (W : Nat) : ∀ (os l : List AV) (n : Nat) (k : List AV -> VC), overK W os l n k = k (overO W n os l)
 | [], _, _, _ => by simp [overK, overO]
 | _ :: _, [], _, _ => by simp [overK, overO]
 | o :: os, a :: l, n, k => by
   unfold overK overO
   cases Nat.testBit W n with
   | true => simp only; rw [overK_eq W os l]
   | false => simp only; rw [overK_eq W os l]
theorem len_overO (W : Nat) : ∀ (n : Nat) (os l : List AV), os.length = l.length -> (overO W n os l).length = l.length
 | _, [], [], _ => by simp [overO]
 | _, [], _ :: _, h => by simp at h
 | _, _ :: _, [], h => by simp at h
 | n, o :: os, a :: l, h => by simp only [overO, List.length_cons]; rw [len_overO W (n + 1) os l (by simpa using h)]
theorem get_overO (W : Nat) : ∀ (n : Nat) (os l : List AV) (t : Nat), os.length = l.length -> t < l.length -> getL (overO W n os l) t = (match Nat.testBit W (n + t) with | true => getL l t | false => getL os t)
 | _, [], [], _, _, h => by simp at h
 | _, [], _ :: _, _, h, _ => by simp at h
 | _, _ :: _, [], _, h, _ => by simp at h
 | n, o :: os, a :: l, 0, _, _ => by simp only [overO, getL_zero, Nat.add_zero]
 | n, o :: os, a :: l, t + 1, h, ht => by
   simp only [overO, getL_succ]
   rw [get_overO W (n + 1) os l t (by simpa using h) (by simpa using ht), show n + 1 + t = n + (t + 1) by omega]
theorem len_flatO (W : Nat) : ∀ (n : Nat) (os l : List AV), os.length = l.length -> (flatO W n os l).length = l.length
 | _, [], [], _ => by simp [flatO]
 | _, [], _ :: _, h => by simp at h
 | _, _ :: _, [], h => by simp at h
 | n, o :: os, a :: l, h => by simp only [flatO, List.length_cons]; rw [len_flatO W (n + 1) os l (by simpa using h)]
theorem get_flatO (W : Nat) : ∀ (n : Nat) (os l : List AV) (t : Nat), os.length = l.length -> t < l.length -> getL (flatO W n os l) t = (match Nat.testBit W (n + t) with | true => flatA (getL l t) | false => getL os t)
 | _, [], [], _, _, h => by simp at h
 | _, [], _ :: _, _, h, _ => by simp at h
 | _, _ :: _, [], _, h, _ => by simp at h
 | n, o :: os, a :: l, 0, _, _ => by simp only [flatO, getL_zero, Nat.add_zero]
 | n, o :: os, a :: l, t + 1, h, ht => by
   simp only [flatO, getL_succ]
   rw [get_flatO W (n + 1) os l t (by simpa using h) (by simpa using ht), show n + 1 + t = n + (t + 1) by omega]
theorem isYl_spec : ∀ {l : List Oper} {y z : Oper}, isYl l = some (y, z) -> 2 <= l.length /\ l = l.take (l.length - 2) ++ [y, z]
 | [], y, z, h => by cases h
 | [a], y, z, h => by simp [isYl] at h
 | [a, b], y, z, h => by simp [isYl] at h; obtain ⟨rfl, rfl⟩ := h; exact ⟨by simp, by simp⟩
 | a :: b :: c :: l, y, z, h => by
   have h' : isYl (b :: c :: l) = some (y, z) := by simpa [isYl] using h
   obtain ⟨h1, h2⟩ := isYl_spec h'
   refine ⟨by simp, ?_⟩
   have e : (a :: b :: c :: l).length - 2 = ((b :: c :: l).length - 2) + 1 := by simp
   rw [e, List.take_succ_cons, List.cons_append, <- h2]
end Abs
end Go.Proofs.Ytdfdjlijghjdaaa

namespace Go.Proofs.Ytdfdjlijghjdaaa
namespace Abs
open Go Go.RowKit
section
variable {P : Program} {S : Sums} {C C' : Cx} {w w' : World} {A : YA} {J Jx : Nat -> World -> Prop} {sz0 : Nat}
theorem hr_none (hρ : ∀ i, C.ρ i = none) (hO : ∀ b, C.O b = none) (hI : ∀ b, C.I b -> b < w.heap.size) : HR C [] w :=
 ⟨fun i p h => (by rw [hρ] at h; cases h), fun i j b c n b' c' n' h => (by rw [hρ] at h; cases h), fun i b c n h => (by rw [hρ] at h; cases h), hI, fun b x h => (by rw [hO] at h; cases h)⟩
theorem none_hr (h : HR C [] w) : ∀ i, C.ρ i = none := fun i => by
 cases hc : C.ρ i with
 | none => rfl
 | some p => have := h.live i p hc; cases p <;> exact this.elim
theorem tr_quiet {lo : Nat} (hρ : ∀ i, C.ρ i = none) (hO : ∀ b, C.O b = none) (t : Tr lo C w C' w') : Quiet w w' :=
 ⟨t.os, t.tape, t.output, t.size, fun k hk => t.keep k hk (fun i b c n h => (by rw [hρ] at h; cases h)) (hO k)⟩
theorem flat_rel {a : AV} {v : Value} (h : Rel C w a v) : Rel C' w' (flatA a) v := by
 cases h <;> unfold flatA <;> first | exact .top _ | exact .li _ _ | exact .si _ _ | exact .lb _ | exact .sb _ | exact .v _
theorem flat_ng (a : AV) : notGd (flatA a) := by cases a <;> trivial
theorem len_flat : ∀ (ps l : List AV), (flatL ps l).length = l.length
 | [], [] => rfl
 | _ :: _, [] => rfl
 | [], a :: l => by simp [flatL, len_flat [] l]
 | p :: ps, a :: l => by simp [flatL, len_flat ps l]
theorem get_flat : ∀ (ps l : List AV) (t : Nat), t < l.length -> getL (flatL ps l) t = if t < ps.length then getL ps t else flatA (getL l t)
 | _, [], t, h => by simp at h
 | [], a :: l, 0, _ => rfl
 | [], a :: l, t + 1, h => by
   unfold flatL
   rw [getL_succ, getL_succ, get_flat [] l t (by simpa using h)]
   simp
 | p :: ps, a :: l, 0, _ => by simp [flatL, getL_zero]
 | p :: ps, a :: l, t + 1, h => by
   unfold flatL
   rw [getL_succ, getL_succ, getL_succ, get_flat ps l t (by simpa using h)]
   simp
structure InvY (A : YA) (C : Cx) (J Jx : Nat -> World -> Prop) (sz0 : Nat) (fr : List AV) (k : Option Nat) (act : Act) (w : World) : Prop where
 F : FR [] C w fr act.tmps
 ps : ∀ t, t < A.ps.length -> getL fr t = getL A.ps t
 np : A.ps.length <= fr.length
 size : sz0 <= w.heap.size
 st : match k with | some k => J k w | none => ∃ k, k < A.n /\ Jx k w
 df : act.defers = []
structure YCtx (P : Program) (A : YA) (C : Cx) (J Jx : Nat -> World -> Prop) (sz0 l : Nat) : Prop where
 ρ : ∀ i, C.ρ i = none
 O : ∀ b, C.O b = none
 I : ∀ b, C.I b -> b < sz0
 ng : ∀ t, notGd (getL A.ps t)
 fr : ∀ g t, t < A.ps.length -> getL (A.fr g) t = getL A.ps t
 Y : A.Y = .func (.yield l) #[] #[]
 hJ : ∀ k W W', J k W -> Quiet W W' -> J k W'
 hJx : ∀ k W W', Jx k W -> Quiet W W' -> Jx k W'
 hY : ∀ (k : Nat) (W0 W : World) (I1 : Nat -> Prop) (vs : List Value), k < A.n -> J k W0 -> Quiet W0 W -> (∀ b, C.I b -> I1 b) -> (∀ b, I1 b -> C.I b \/ (W0.heap.size <= b /\ b < W.heap.size)) ->
   RelL ⟨fun _ => none, I1, fun _ => none⟩ W (A.it k) vs -> YieldAt (fen none) 0 P l ⟨vs⟩ W fun e W' =>
    (∀ b, C.I b -> W'.heap[b]? = W.heap[b]?) /\ W.heap.size <= W'.heap.size /\ ((e = .returned (.bool true) /\ J (k + 1) W') \/ (e = .returned (.bool false) /\ Jx k W'))
theorem carry {l : Nat} (hc : YCtx P A C J Jx sz0 l) {fr fr' : List AV} {k k' : Option Nat} {act act' : Act} {w1 : World} {C1 : Cx} {W : Nat} (hi : InvY A C J Jx sz0 fr k act w) (hF : FR [] C1 w1 fr' act'.tmps) (hb : ∀ b, C.I b -> w'.heap[b]? = w.heap[b]?) (hs : w.heap.size <= w'.heap.size)
  (hk : RegKept W act act') (hW : ∀ t, t < A.ps.length -> Nat.testBit W t = false) (hlen : fr'.length = fr.length) (st : match k' with | some k => J k w' | none => ∃ k, k < A.n /\ Jx k w') : InvY A C J Jx sz0 (flatO W 0 fr fr') k' act' w' := by
 have hget : ∀ t, t < A.ps.length -> getL (flatO W 0 fr fr') t = getL A.ps t := fun t ht => by
  rw [get_flatO _ _ _ _ _ hlen.symm (by have := hi.np; omega), Nat.zero_add, hW t ht]
  exact hi.ps t ht
 have hl2 : (flatO W 0 fr fr').length = fr'.length := len_flatO _ _ _ _ hlen.symm
 refine ⟨⟨by rw [hl2, hF.len], fun t => ?_⟩, hget, by rw [hl2, hlen]; exact hi.np, Nat.le_trans hi.size hs, st, by rw [hk.2.2, hi.df]⟩
 by_cases ht : t < fr'.length
 ·rw [get_flatO _ _ _ _ _ hlen.symm ht, Nat.zero_add]
  cases hbt : Nat.testBit W t with
  | true => exact .plain (flat_rel (hF.get t).1) (flat_ng _)
  | false =>
    simp only
    rw [hk.2.1 t hbt]
    exact (hi.F.get t).mono ⟨fun i p h => h, fun b h => h, hb⟩
 ·have e1 : getL (flatO W 0 fr fr') t = .tup [] := by rw [getL_eq, List.getD_eq_getElem?_getD, List.getElem?_eq_none (by rw [hl2]; omega)]; rfl
  have e2 : act'.tmps.getD t undef = undef := by
   rw [Array.getD_eq_getD_getElem?, Array.getElem?_eq_none (by rw [<- hF.len]; omega)]; rfl
  rw [e1, e2]
  exact .plain (.tup _ _ .nil) trivial
theorem carry0 {l : Nat} (hc : YCtx P A C J Jx sz0 l) {fr : List AV} {k : Option Nat} {act : Act} (hi : InvY A C J Jx sz0 fr k act w) : InvY A C J Jx sz0 (flatL A.ps fr) k act w := by
 have hget : ∀ t, t < A.ps.length -> getL (flatL A.ps fr) t = getL A.ps t := fun t ht => by
  rw [get_flat _ _ _ (by have := hi.np; omega), if_pos ht]
 refine ⟨⟨by rw [len_flat, hi.F.len], fun t => ?_⟩, hget, by rw [len_flat]; exact hi.np, hi.size, hi.st, hi.df⟩
 by_cases ht : t < fr.length
 ·rw [get_flat _ _ _ ht]
  by_cases hp : t < A.ps.length
  ·rw [if_pos hp]
   have h1 := (hi.F.get t).1
   rw [hi.ps t hp] at h1
   exact .plain h1 (hc.ng t)
  ·rw [if_neg hp]
   exact .plain (flat_rel (hi.F.get t).1) (flat_ng _)
 ·have e1 : getL (flatL A.ps fr) t = .tup [] := by rw [getL_eq, List.getD_eq_getElem?_getD, List.getElem?_eq_none (by rw [len_flat]; omega)]; rfl
  have e2 : act.tmps.getD t undef = undef := by
   rw [Array.getD_eq_getD_getElem?, Array.getElem?_eq_none (by rw [<- hi.F.len]; omega)]; rfl
  rw [e1, e2]
  exact .plain (.tup _ _ .nil) trivial
theorem preP_g : ∀ {l : List Oper}, ∀ o ∈ preP l, o.guard = none
 | [], o, ho => by simp [preP] at ho
 | p :: l, o, ho => by
   unfold preP at ho
   split at ho
   ·rename_i hp
    rcases List.mem_cons.1 ho with rfl | ho
    ·unfold pureO at hp; split at hp <;> first | assumption | cases hp
    ·exact preP_g o ho
   ·simp at ho
theorem preP_app : ∀ l : List Oper, preP l ++ resP l = l
 | [] => rfl
 | o :: l => by
   unfold preP resP
   split
   ·simp [preP_app l]
   ·rfl
theorem pure_ops {all : List Oper} {R : AV -> Heap -> Prop} {F : Fence} {Q : Exit -> Act -> World -> Prop} {ds : Act -> Prop} {k : List AV -> VC} (hf : ∃ r, F = fen r) {n : Nat} (hilt : ∀ b, C.I b -> b < w.heap.size) {e : Nat} {tl : List Nat}
  (hgoal : ∀ fr' a', FR [] C w fr' a'.tmps -> ds a' -> (k fr').sat R -> wpOpsIn F n P all.toArray Q tl a' w) : ∀ (rest : List Oper) (s : Nat) (fr : List AV) (a : Act), (∀ i, i < rest.length -> all[s + i]? = rest[i]?) -> PutOK rest ds -> (∀ o ∈ rest, o.guard = none) -> FR [] C w fr a.tmps -> ds a -> (preK P all rest (allT rest) fr k).sat R ->
  wpOpsIn F n P all.toArray Q (List.range' s rest.length ++ tl) a w
 | [], s, fr, a, _, _, _, hF, hds, h => by
   simp only [allT, preK] at h
   exact hgoal fr a hF hds h
 | o :: rest, s, fr, a, hd, hput, hg, hF, hds, h => by
   obtain ⟨r, rfl⟩ := hf
   have ho : all[s]? = some o := by simpa using hd 0 (by simp)
   have hao : all.toArray[s]? = some o := by simpa using ho
   have hgo := hg o (by simp)
   simp only [allT, preK] at h
   split at h
   ·exact h.elim
   ·rw [forceM_eq] at h
    split at h
    ·exact h.elim
    ·rename_i ps x hx
     obtain ⟨h1, h2⟩ := needs_sat h
     rw [forceD_eq, setK_eq] at h2
     obtain ⟨v, hv, hdf, hse, hrun⟩ := frVal_ok (w := w) (C := C) (σ := a.eval) hilt (fun y => sees_evM fr _ [] C w a hF y) (fun _ => rfl) hx h1
     have hF2 : FR [] C w (setO fr o.dst (noGd x)) (a.put o.dst v).tmps := hF.put (.plain (rel_noGd hv) (notGd_noGd _)) _
     rw [List.length_cons, List.range'_succ, List.cons_append, wpOpsIn_cons]
     unfold wpOpIn
     simp only [hao]
     have hw : Region.wanted o (yielded all.toArray a.tmps) = true := by unfold Region.wanted; rw [hgo]
     rw [hw]
     simp only [if_true]
     refine Ran.wpIn (.inl ⟨v, w, hrun w (fun _ _ => rfl), ?_⟩)
     exact pure_ops ⟨r, rfl⟩ hilt (e := e) hgoal rest (s + 1) _ _ (fun i hi => by
      have := hd (i + 1) (by simpa using hi)
      rw [show s + 1 + i = s + (i + 1) by omega]; simpa using this) (fun o' ho' => hput o' (by simp [ho'])) (fun o' ho' => hg o' (by simp [ho'])) hF2 (hput o (by simp) _ _ hds) h2
theorem inorder2 {T' : List Cnd} {all : List Oper} (hS : SumsOK P S) (hu : uniqOK all = true) {R : AV -> Heap -> Prop} {K : List AV -> Heap -> VC} {Q : Exit -> Act -> World -> Prop} {ds : Act -> Prop} {ro : Option Nat} {rm : Nat} :
  ∀ (rest : List Oper) (n : Nat) (T : List Cnd) (fr : List AV) (hp : Heap) (C : Cx) (w : World) (act : Act), all.drop n = rest -> PutOK rest ds -> TOK all T n fr -> S.lo <= hp.length -> HR C hp w -> FR T C w fr act.tmps ->
    (runOps P S false all none n rest T fr hp K).sat R -> ds act -> Goal P S R K Q C w ds -> wpOpsIn (fen ro) rm P all.toArray Q (List.range' n rest.length) act w := by
 intro rest
 induction rest with
 | nil =>
   intro n T fr hp C w act hd hput ht hlo hH hF h hds hgoal
   simp only [runOps, cleanF_eq] at h
   exact hgoal _ _ C w act h hlo hH hF.clean (.refl _ _ _) hds
 | cons o rest ih =>
   intro n T fr hp C w act hd hput ht hlo hH hF h hds hgoal
   have hlt : n < all.length := by
    rcases Nat.lt_or_ge n all.length with h | h
    ·exact h
    ·rw [List.drop_eq_nil_of_le h] at hd; cases hd
   have ho : all[n]? = some o := by
    have := List.getElem?_drop (xs := all) (i := n) (j := 0)
    rw [hd] at this; simpa using this.symm
   have hd' : all.drop (n + 1) = rest := by
    rw [<- List.drop_drop, hd]; rfl
   have hao : all.toArray[n]? = some o := by simpa using ho
   have hput' : PutOK rest ds := fun o' ho' => hput o' (by simp [ho'])
   have hpo := hput o (by simp)
   have hwp : ∀ {T : List Cnd} {fr : List AV} {hp : Heap} {C' : Cx} {w' : World} {act' : Act}, TOK all T (n + 1) fr -> S.lo <= hp.length -> HR C' hp w' -> FR T C' w' fr act'.tmps -> (runOps P S false all none (n + 1) rest T fr hp K).sat R ->
     ds act' -> Tr S.lo C w C' w' -> wpOpsIn (fen ro) rm P all.toArray Q (List.range' (n + 1) rest.length) act' w' := fun h1 h2 h3 h4 h5 h6 h7 => ih (n + 1) _ _ _ _ _ _ hd' hput' h1 h2 h3 h4 h5 h6 (hgoal.step h7)
   rw [List.length_cons, List.range'_succ]
   simp only [wpOpsIn, hao]
   rcases runOps_step hS hu ho ht h with ⟨i, T1, hst, ht1, hh⟩ | ⟨_, htu, hw, ρ, hρ, fr', hp', a, hbo, ht1, hh⟩ | ⟨hdr, _⟩
   ·have hF1 := hF.sub hst.sub
    have hfree := hH.free i.new
    rcases run_info hst (.refl _) (act := act) (hH.ext i.new) (fun i hi => getB_append _ _ _ hi) hfree (fun x _ => evG_rel x fun t _ => hF1.get t) (fun d _ => hF1.get d) with ⟨hw, hr⟩ | ⟨hw, hr⟩
    ·rw [hw]
     simp only [if_true]
     refine Ran.wpIn (hr.mono fun v w' ⟨C', h1, h2, h3⟩ => ?_)
     have hx := h3.cext hfree.none hH.ilt
     exact hwp ht1 (by simp; omega) h1 ((hF1.mono hx).put h2 _) hh (hpo _ _ hds) (h3.tr hlo)
    ·rw [hw]
     simp only [Bool.false_eq_true, if_false]
     obtain ⟨C', h1, h2, h3⟩ := hr
     have hx := h3.cext hfree.none hH.ilt
     refine ⟨fun _ _ => trivial, ?_⟩
     exact hwp ht1 (by simp; omega) h1 ((hF1.mono hx).put h2 _) hh (hpo _ _ hds) (h3.tr hlo)
   ·have hwant : Region.wanted o (yielded all.toArray act.tmps) = true := wanted_eq hw fun d _ => hF.get d
    rw [hwant]
    simp only [if_true]
    refine Ran.wpIn ((exec_big hS o htu hρ hH hF hlo hbo).mono fun v w' ⟨C', h1, h2, h3, h4⟩ => ?_)
    exact hwp ht1 (Nat.le_trans hlo hbo.len) h1 (h3.put (.plain (rel_noGd h2) (notGd_noGd _)) _) hh (hpo _ _ hds) h4
   ·cases hdr
theorem letsOut_mono {Q Q' : Exit -> Act -> World -> Prop} (hQ : ∀ e a w, Q e a w -> Q' e a w) (h : LetsOut Q) : LetsOut Q' := h.elim fun a h => h.elim fun w h => ⟨a, w, hQ _ _ _ h⟩
theorem wpIn_monoQ {F : Fence} {n : Nat} {o : Oper} {a : Act} {K : Act -> World -> Prop} {Q Q' : Exit -> Act -> World -> Prop} (hQ : ∀ e a w, Q e a w -> Q' e a w) (hh : o.wpIn F n P a w K Q) : o.wpIn F n P a w K Q' := by
 unfold Oper.wpIn at *
 refine ⟨hh.1, ?_⟩
 have hh := hh.2
 generalize (o.semAt F.round a.eval).run P w = r at *
 cases r with
 | ok x w' =>
   cases x <;> simp only [Oper.uponIn] at hh ⊢ <;>
    first
     | exact hh
     | exact hQ _ _ _ hh
     | exact ⟨hh.1, CallsIn.mono hh.2 (fun e w'' he => by cases e <;> first | exact he | exact hQ _ _ _ he | exact letsOut_mono hQ he)⟩
     | exact ⟨hh.1, RowsIn.mono hh.2 (fun _ _ he => he)⟩
     | exact ⟨hh.1, RoundIn.mono hh.2 (fun e w'' he => by cases e <;> first | exact he | exact hQ _ _ _ he | exact letsOut_mono hQ he)⟩
 | halt x w' => cases x <;> simp only [Oper.uponIn] at hh ⊢ <;> first | exact hh | exact hQ _ _ _ hh
theorem wpAny_monoQ {F : Fence} {n : Nat} {ops : Array Oper} {Q Q' : Exit -> Act -> World -> Prop} (hQ : ∀ e a w, Q e a w -> Q' e a w) : ∀ (fuel : Nat) (D : Array Bool) (a : Act) (w : World), wpAnyIn F n P .any ops Q fuel D a w -> wpAnyIn F n P .any ops Q' fuel D a w
 | 0, _, _, _, h => ⟨h.1, hQ _ _ _ h.2⟩
 | f + 1, D, a, w, h => ⟨fun hr => hQ _ _ _ (h.1 hr), fun i hi => by
   have h2 := wpOpIn_mono (fun a' w' h' => wpAny_monoQ hQ f _ a' w' h') (h.2 i hi)
   unfold wpOpIn at h2 ⊢
   split
   ·rename_i ho; simp only [ho] at h2; exact h2
   ·rename_i o ho
    simp only [ho] at h2
    split
    ·rename_i hw; simp only [hw, if_true] at h2; exact wpIn_monoQ hQ h2
    ·rename_i hw; simp only [hw] at h2; exact h2⟩
theorem draw_any (hS : SumsOK P S) {ro : Option Nat} {rm : Nat} {ops : Array Oper} (hu : uniqOK ops.toList = true) (htmp : tmpOK ops.toList = true) (hback : Back ops.toList) {R : AV -> Heap -> Prop} {K : List AV -> Heap -> VC} {Q : Exit -> Act -> World -> Prop} {fr : List AV} {act : Act} {hp : Heap}
  (hlo : S.lo <= hp.length) (hH : HR C hp w) (hF : FR [] C w fr act.tmps) (h : (runOps P S true ops.toList none 0 ops.toList [] fr hp K).sat R) {ds : Act -> Prop} (hput : PutOK ops.toList ds) (hds : ds act) (hgoal : Goal P S R K Q C w ds) :
  wpAnyIn (fen ro) rm P .any ops Q ops.size (Array.replicate ops.size false) act { w with drawn := w.drawn + 1 } := by
 obtain ⟨L, T', hs, he⟩ := seg_run hS hu (s := 0) (T0 := []) (fr0 := fr) (hp0 := hp) ops.toList [] [] ⟨by simp, .refl _, fun q hq => by simp at hq⟩ (by simp) (fun k x hx => by simp at hx) h
 have hsz : (Array.replicate ops.size false).size = ops.toList.length := by simp
 have hno : ∀ i, ¬ Lst (Array.replicate ops.size false) i := fun i h => by
  unfold Lst at h
  rw [Array.getD_eq_getD_getElem?, Array.getElem?_replicate] at h
  split at h <;> simp at h
 obtain ⟨r, hr⟩ := hps_app hp L L.length
 have hH1 : HR C hp { w with drawn := w.drawn + 1 } := HR.same (w := w) rfl hH
 have hF1 : FR [] C { w with drawn := w.drawn + 1 } fr act.tmps := FR.mono (w := w) (w' := { w with drawn := w.drawn + 1 }) (.same rfl) hF
 have hunl : ∀ n, unl (fun i => (Array.replicate ops.size false).getD i false) n <= n := fun n => by
  induction n with
  | zero => exact Nat.le_refl _
  | succ n ih => simp only [unl]; split <;> omega
 refine wpAny_monoQ (Q := fun e a w => (∀ c, e ≠ .panic c) /\ Q e a w) (fun e a w h => h.2) _ _ _ _ ?_
 have := wpAnyI_any _ _ _ _ <| (anyorder (Q := fun e a w => (∀ c, e ≠ .panic c) /\ Q e a w) hS hu htmp hback hput (ro := ro) (rm := rm) (fun c a w h => h.1 c rfl) ops.size (fun _ _ => True) (fun _ _ _ _ _ _ => trivial)).1 (Array.replicate ops.size false) 0 [] fr hp L T' C { w with drawn := w.drawn + 1 } act hs he
  ⟨hsz, fun i hi => by omega, fun i _ => hno i, fun i o _ hl => (hno i hl).elim, ⟨by rw [hr]; exact hH1.ext r, fun q _ _ t _ => by
   obtain ⟨r', hr'⟩ := hps_app hp L q
   cases hc : C.ρ ((hps hp L q).length + t) with
   | none => rfl
   | some p => have := hH1.lt hc; rw [hr'] at this; simp at this; omega,
   fun q _ hl => (hno _ hl).elim, fun t _ => (hF1.get t).sub hs.sub, hF1.len⟩⟩ hlo (by have := hunl ops.toList.length; simpa using this) hds (Goal.any fun fr' hp' C' w' act' h1 h2 h3 h4 h5 h6 => ⟨fun c h => by (cases h), (hgoal.step (.draw _ _ _ _)) fr' hp' C' w' act' h1 h2 h3 h4 h5 h6⟩)
 simpa using this
theorem tail_any {F : Fence} {n : Nat} {Q : Exit -> Act -> World -> Prop} {pre : List Oper} {y z : Oper} (hback : Back (pre ++ [y, z])) (hbar : barAt true (pre ++ [y, z]) pre.length = true) (hy : y.guard = none) (hz : z.guard = none) {D : Array Bool} (hs : D.size = (pre ++ [y, z]).length)
  (hcl : Closed (pre ++ [y, z]) (Lst D)) (hb : ∀ i, i < pre.length -> Lst D i) (hge : ∀ i, pre.length <= i -> ¬ Lst D i) {a : Act}
  (h : y.wpIn F n P a w (fun a2 w2 => z.wpIn F n P a2 w2 (fun a3 w3 => Q .normal a3 w3) Q) Q) : wpAnyIn F n P .any (pre ++ [y, z]).toArray Q 2 D a w := by
 have hlen : (pre ++ [y, z]).length = pre.length + 2 := by simp
 have gy : (pre ++ [y, z])[pre.length]? = some y := by simp
 have gz : (pre ++ [y, z])[pre.length + 1]? = some z := by simp
 have hwy : ∀ f, Region.wanted y f = true := fun f => by unfold Region.wanted; rw [hy]
 have hwz : ∀ f, Region.wanted z f = true := fun f => by unfold Region.wanted; rw [hz]
 refine ⟨fun hr => absurd (all_listed hback hs hr pre.length (by omega)) (hge _ (Nat.le_refl _)), fun i hir => ?_⟩
 obtain ⟨o, ho, hnl, hpre, hLst, hcl2, _, hsz⟩ := ready_facts hs hcl hir
 have hlt := (List.getElem?_eq_some_iff.1 ho).1
 have hi : i = pre.length := by
  rcases Nat.lt_trichotomy i pre.length with h1 | h1 | h1
  ·exact absurd (hb i h1) hnl
  ·exact h1
  ·exact absurd (ord_closed hback hcl _ _ ho hpre ((bar_spec hbar hlt).2 h1)) (hge _ (Nat.le_refl _))
 subst hi
 unfold wpOpIn
 rw [show (pre ++ [y, z]).toArray[pre.length]? = some y by simp]
 simp only [hwy, if_true]
 refine Oper.wpIn_mono (fun a2 w2 h2 => ?_) h
 refine ⟨fun hr => ?_, fun i hir2 => ?_⟩
 ·have := all_listed hback hsz hr (pre.length + 1) (by omega)
  rcases (hLst _).1 this with h3 | h3
  ·exact absurd h3 (hge _ (by omega))
  ·omega
 obtain ⟨o2, ho2, hnl2, hpre2, hLst2, hcl3, _, hsz2⟩ := ready_facts hsz hcl2 hir2
 have hlt2 := (List.getElem?_eq_some_iff.1 ho2).1
 have hi2 : i = pre.length + 1 := by
  rcases Nat.lt_trichotomy i (pre.length + 1) with h1 | h1 | h1
  ·exfalso
   refine hnl2 ((hLst i).2 ?_)
   rcases Nat.lt_or_ge i pre.length with h3 | h3
   ·exact .inl (hb i h3)
   ·exact .inr (by omega)
  ·exact h1
  ·omega
 subst hi2
 unfold wpOpIn
 rw [show (pre ++ [y, z]).toArray[pre.length + 1]? = some z by simp]
 simp only [hwz, if_true]
 refine Oper.wpIn_mono (fun a3 w3 h3 => ?_) h2
 refine ⟨?_, h3⟩
 cases hr : Region.ready .any (pre ++ [y, z]).toArray ((D.setIfInBounds pre.length true).setIfInBounds (pre.length + 1) true) with
 | nil => rfl
 | cons i r =>
   exfalso
   have hm : i ∈ Region.ready .any (pre ++ [y, z]).toArray ((D.setIfInBounds pre.length true).setIfInBounds (pre.length + 1) true) := by rw [hr]; simp
   obtain ⟨o4, ho4, hnl4, _⟩ := ready_facts hsz2 hcl3 hm
   have hlt4 := (List.getElem?_eq_some_iff.1 ho4).1
   refine hnl4 ((hLst2 i).2 ?_)
   rcases Nat.lt_trichotomy i pre.length with h1 | h1 | h1
   ·exact .inl ((hLst i).2 (.inl (hb i h1)))
   ·exact .inl ((hLst i).2 (.inr h1))
   ·exact .inr (by omega)
end
end Abs
end Go.Proofs.Ytdfdjlijghjdaaa

namespace Go.Proofs.Ytdfdjlijghjdaaa
namespace Abs
open Go Go.RowKit
section
variable {P : Program} {S : Sums} {C C' : Cx} {w w' : World} {A : YA} {J Jx : Nat -> World -> Prop} {sz0 : Nat}
theorem calleeT_eq {op : Op} {d : Nat} {args : List Operand} (h : calleeT op = some (d, args)) : ∃ c, op = .call c /\ c.callee = .value (.tmp d) /\ c.args.toList = args := by
 unfold calleeT at h
 split at h
 ·rename_i c
  split at h
  ·rename_i d' hd
   injection h with h; injection h with h1 h2; subst h1 h2
   exact ⟨c, rfl, hd, rfl⟩
  ·cases h
 ·cases h
theorem notT_eq {op : Op} {e : Nat} (h : notT op = some e) : ∃ t, op = .unOp .not t (.tmp e) := by
 unfold notT at h
 split at h
 ·injection h with h; subst h; exact ⟨_, rfl⟩
 ·cases h
theorem splitY_spec {ops : List Oper} {y : YCall} (h : splitY ops = some y) : ∃ oy oz, ops = ops.take (ops.length - 2) ++ [oy, oz] /\ 2 <= ops.length /\ calleeT oy.op = some (y.d, y.args) /\ notT oz.op = some y.yd /\ oy.dst = some y.yd /\ oz.dst = some y.zd /\ oy.guard = none /\ oz.guard = none /\ y.yd ≠ y.zd := by
 unfold splitY at h
 split at h
 ·cases h
 ·rename_i oy oz hl
  obtain ⟨h1, h2⟩ := isYl_spec hl
  split at h
  ·rename_i d args e hc hn
   split at h
   ·rename_i yd zd e1 e2 e3 e4
    split at h
    ·rename_i hb
     injection h with h; subst h
     simp only [Bool.and_eq_true, Bool.not_eq_true'] at hb
     obtain ⟨⟨_, hb2⟩, hb3⟩ := hb
     obtain rfl := Nat.eq_of_beq_eq_true hb2
     refine ⟨oy, oz, h2, h1, hc, hn, e1, e2, e3, e4, fun e => ?_⟩
     simp only at e
     rw [e] at hb3; simp at hb3
    ·cases h
   ·cases h
  ·cases h
theorem yield_two {l : Nat} (hc : YCtx P A C J Jx sz0 l) {R : AV -> Heap -> Prop} {Qv : List AV -> Option Nat -> VC} {fr fr1 : List AV} {k : Nat} {act a1 : Act} {w1 : World} {C1 : Cx} {ops : List Oper} {oy oz : Oper} {y : YCall} {Q : Act -> World -> Prop} {Q' : Exit -> Act -> World -> Prop}
  (hi : InvY A C J Jx sz0 fr (some k) act w) (hF : FR [] C1 w1 fr1 a1.tmps) (hH : HR C1 [] w1) (ht : Tr 0 C w C1 w1) (hk : RegKept (mskO ops) act a1) (hlen : fr1.length = fr.length) (hW : ∀ t, t < A.ps.length -> Nat.testBit (mskO ops) t = false)
  (e1 : calleeT oy.op = some (y.d, y.args)) (e2 : notT oz.op = some y.yd) (e3 : oy.dst = some y.yd) (e4 : oz.dst = some y.zd) (e5 : y.yd ≠ y.zd) (ho : PutOK [oy, oz] (RegKept (mskO ops) act)) (hlt : y.yd < act.tmps.size)
  (h : (yldK A (mskO ops) fr y fr1 k Qv).sat R) (hgoal : ∀ fr' k' act' w', (Qv fr' k').sat R -> InvY A C J Jx sz0 fr' k' act' w' -> Q act' w') :
  oy.wpIn (fen none) 0 P a1 w1 (fun a2 w2 => oz.wpIn (fen none) 0 P a2 w2 (fun a3 w3 => Q a3 w3) Q') Q' := by
 have hq := tr_quiet hc.ρ hc.O ht
 have hb1 : ∀ b, C.I b -> w1.heap[b]? = w.heap[b]? := fun b hb => hq.keep b (Nat.lt_of_lt_of_le (hc.I b hb) hi.size)
 obtain ⟨hY, hkn, h⟩ := h
 simp only [forceLD_eq, forceL_eq] at h
 have h := leLW_sat (leAF_sat 6) _ _ _ _ id h
 obtain ⟨h, himp⟩ := leL_sat h
 obtain ⟨c, hop, hcal, hargs⟩ := calleeT_eq e1
 obtain ⟨tz, hoz⟩ := notT_eq e2
 have hyv : a1.tmps.getD y.d undef = .func (.yield l) #[] #[] := by
  have := (hF.get y.d).1
  rw [show getL fr1 y.d = .v A.Y from hY] at this
  rw [<- hc.Y]
  generalize a1.tmps.getD y.d undef = v at this
  cases this; rfl
 have hvs : RelL C1 w1 (evL (ev fr1) y.args) (y.args.map a1.eval) := evL_rel fun x _ => (evG_rel x fun t _ => hF.get t).1
 have hvs2 := (himp C1 w1 hH).2 _ hvs
 have hρ1 := none_hr hH
 have hvs3 : RelL ⟨fun _ => none, C1.I, fun _ => none⟩ w1 (A.it k) (y.args.map a1.eval) := hvs2.mono ⟨fun i p hp => (by
  unfold Cx.cut at hp
  simp only at hp
  split at hp
  ·rw [hρ1] at hp; cases hp
  ·cases hp), fun b hb => (by
  rcases hb with hb | ⟨i, c, n, _, hb⟩
  ·exact hb
  ·rw [hρ1] at hb; cases hb), fun _ _ => rfl⟩
 obtain ⟨fn, tmps, asg, bd, hrun, hround⟩ := hc.hY k w w1 C1.I _ hkn hi.st hq ht.imm (fun b hb => by
  rcases ht.imm' b hb with h1 | (h1 | ⟨x, h1⟩) | ⟨i, c, n, _, h1⟩
  ·exact .inl h1
  ·exact .inr ⟨h1, hH.ilt b hb⟩
  ·rw [hc.O] at h1; cases h1
  ·rw [hc.ρ] at h1; cases h1) hvs3
 have hsem : (oy.semAt (fen none).round a1.eval).run P w1 = .ok (.round l fn tmps asg bd) w1 := by
  have e : (⟨y.args.map a1.eval⟩ : Array Value) = #[] ++ c.args.map a1.eval := by
   apply Array.ext'; simp [hargs]
  rw [e] at hrun
  have hev : a1.eval (.tmp y.d) = .func (.yield l) #[] #[] := hyv
  rw [Oper.semAt_eq _ _ _ (by intro c' hc'; rw [hop] at hc'; cases hc')]
  unfold execOp
  rw [hop]
  simp only [resolve, hcal, hev, Deferred.ofValue]
  simpa [invoke] using hrun
 refine ⟨fun _ _ => trivial, ?_⟩
 rw [hsem, Oper.uponIn_round]
 refine ⟨fun hh => by simp [fen, Fence.wide] at hh, hround.mono ?_⟩
 rintro e w2 ⟨hb2, hs2, hres⟩
 have hb3 : ∀ b, C.I b -> w2.heap[b]? = w.heap[b]? := fun b hb => (hb2 b (ht.imm b hb |> fun _ => hb)).trans (hb1 b hb)
 have hs3 : w.heap.size <= w2.heap.size := Nat.le_trans hq.size hs2
 have step : ∀ b : Bool, (match (if b then some (k + 1) else none : Option Nat) with | some k => J k w2 | none => ∃ k, k < A.n /\ Jx k w2) ->
   (Qv (flatO (mskO ops) 0 fr (setL (setL fr1 y.yd (.lb b)) y.zd (.lb (!b)))) (if b then some (k + 1) else none)).sat R ->
   oz.wpIn (fen none) 0 P (a1.put oy.dst (.bool b)) w2 (fun a3 w3 => Q a3 w3) Q' := by
  intro b hst hsat
  have hF2 : FR [] C1 w1 (setL fr1 y.yd (.lb b)) (a1.put oy.dst (.bool b)).tmps := by rw [e3]; exact hF.put (a := .lb b) (.plain (.lb _) trivial) (some y.yd)
  have hF3 : FR [] C1 w1 (setL (setL fr1 y.yd (.lb b)) y.zd (.lb (!b))) ((a1.put oy.dst (.bool b)).put oz.dst (.bool (!b))).tmps := by rw [e4]; exact hF2.put (a := .lb (!b)) (.plain (.lb _) trivial) (some y.zd)
  have hget : (a1.put oy.dst (.bool b)).tmps.getD y.yd undef = .bool b := by
   rw [put_get, e3, if_pos ⟨rfl, by rw [hk.1]; exact hlt⟩]
  refine Ran.wpIn (run_of_post (m := Op.unary .not ((a1.put oy.dst (.bool b)).tmps.getD y.yd undef)) ?_ ⟨.bool (!b), w2, ?_, ?_⟩)
  ·obtain ⟨dst, op, type, pos, after, guard⟩ := oz
   simp only at hoz
   subst hoz
   rfl
  ·rw [hget]; simp [Op.unary]
  ·refine hgoal _ _ _ _ hsat (carry hc hi hF3 hb3 hs3 (W := mskO ops) (ho oz (by simp) _ _ (ho oy (by simp) _ _ hk)) hW (by rw [len_setL, len_setL, hlen]) hst)
 obtain ⟨ht1, ht2⟩ := h
 simp only [setF_eq, flatOK_eq] at ht1 ht2
 rcases hres with ⟨rfl, hj⟩ | ⟨rfl, hj⟩
 ·refine step true hj ?_
  have : nadd k 1 = k + 1 := by unfold nadd; rfl
  rw [this] at ht1
  exact ht1
 ·exact step false ⟨k, hkn, hj⟩ (ht2 () trivial)
theorem mskO_bit {d : Nat} {o : Oper} {ops : List Oper} (h : o ∈ ops) (hd : o.dst = some d) : Nat.testBit (mskO ops) d = true := mskO_mem hd h
theorem mskO_take {ops : List Oper} {n t : Nat} (h : Nat.testBit (mskO ops) t = false) : Nat.testBit (mskO (ops.take n)) t = false := by
 induction ops generalizing n with
 | nil => simpa using h
 | cons o l ih =>
   cases n with
   | zero => simp [mskO]
   | succ n =>
     rw [List.take_succ_cons]
     simp only [mskO] at h ⊢
     cases hd : o.dst with
     | none => rw [hd] at h; exact ih h
     | some d =>
       rw [hd] at h
       obtain ⟨h1, h2⟩ := msk_or h
       show Nat.testBit (Nat.shiftLeft 1 d ||| mskO (l.take n)) t = false
       rw [Nat.testBit_or, h1, ih h2]; rfl
theorem RegKept.take {ops : List Oper} {n : Nat} {a a' : Act} (h : RegKept (mskO (ops.take n)) a a') : RegKept (mskO ops) a a' := ⟨h.1, fun t ht => h.2.1 t (mskO_take ht), h.2.2⟩
theorem putOK_sub {l m : List Oper} {ds : Act -> Prop} (h : PutOK m ds) (hs : ∀ o ∈ l, o ∈ m) : PutOK l ds := fun o ho => h o (hs o ho)
theorem allLt_get {f : Nat -> Bool} {n : Nat} (h : allLt f n = true) : ∀ i, i < n -> f i = true := fun i hi => allLt_spec h i hi
theorem mskO_subT {l m : List Oper} (hs : ∀ o ∈ l, o ∈ m) {t : Nat} (h : Nat.testBit (mskO l) t = true) : Nat.testBit (mskO m) t = true := by
 induction l with
 | nil => simp [mskO] at h
 | cons o l ih =>
   simp only [mskO] at h
   cases hd : o.dst with
   | none => rw [hd] at h; exact ih (fun o' ho' => hs o' (by simp [ho'])) h
   | some d =>
     rw [hd] at h
     simp only at h
     by_cases e : t = d
     ·subst e; exact mskO_bit (hs o (by simp)) hd
     ·refine ih (fun o' ho' => hs o' (by simp [ho'])) ?_
      cases hb : Nat.testBit (mskO l) t with
      | true => rfl
      | false =>
        exfalso
        have h1 : Nat.testBit (Nat.shiftLeft 1 d) t = false := by
         show Nat.testBit (1 <<< d) t = false
         rw [Nat.testBit_shiftLeft]
         by_cases hle : d <= t
         ·have h0 : t - d ≠ 0 := fun h => e (Nat.le_antisymm (Nat.le_of_sub_eq_zero h) hle)
          cases hq : Nat.testBit 1 (t - d) with
          | true => exact absurd (Nat.testBit_one_eq_true_iff_self_eq_zero.1 hq) h0
          | false => simp
         ·simp [hle]
        have h2 : Nat.testBit (Nat.lor (Nat.shiftLeft 1 d) (mskO l)) t = (Nat.testBit (Nat.shiftLeft 1 d) t || Nat.testBit (mskO l) t) := Nat.testBit_or ..
        rw [h2, h1, hb] at h; cases h
theorem wpY_sound (hS : SumsOK P S) (hm : P.follows .mixedOrders = true) (hl0 : S.lo = 0) {l : Nat} (hc : YCtx P A C J Jx sz0 l) {R : AV -> Heap -> Prop} : ∀ (c : Code), codeY A.ps.length c = true -> ∀ (fr : List AV) (k : Option Nat) (Qv : AE -> List AV -> Option Nat -> VC) (act : Act) (w : World) (Q : Exit -> Act -> World -> Prop),
  InvY A C J Jx sz0 fr k act w -> (wpY P S A c fr k Qv).sat R -> (∀ e fr' k' act' w', (Qv e fr' k').sat R -> InvY A C J Jx sz0 fr' k' act' w' -> Q (exitOf e) act' w') -> c.wpIn (fen none) 0 P Q act w := by
 have known : ∀ {fr : List AV} {k : Option Nat} {act : Act} {w : World}, InvY A C J Jx sz0 fr k act w -> ∀ {d : Nat} {a : AV}, A.ps.length <= d -> RelG [] C w a (act.tmps.getD d undef) -> InvY A C J Jx sz0 (setL fr d a) k act w := fun {fr k act w} hi d a hd ha =>
  ⟨hi.F.known ha, fun t ht => by
   rw [getL_set, if_neg (fun h => by have := h.1; omega)]; exact hi.ps t ht, by rw [len_setL]; exact hi.np, hi.size, hi.st, hi.df⟩
 intro c
 induction c with
 | skip =>
   intro _ fr k Qv act w Q hi h hgoal
   exact wpIn_skip (hgoal .normal fr k act w h hi)
 | region id ops dr =>
   intro hok fr k Qv act w Q hi h hgoal
   simp only [codeY, Bool.and_eq_true] at hok
   obtain ⟨hok, hW⟩ := hok
   have hW : ∀ t, t < A.ps.length -> Nat.testBit (mskO ops.toList) t = false := fun t ht => by simpa using allLt_get hW t ht
   have hH : HR C [] w := hr_none hc.ρ hc.O fun b hb => Nat.lt_of_lt_of_le (hc.I b hb) hi.size
   have hds : RegKept (mskO ops.toList) act act := ⟨rfl, fun _ _ => rfl, rfl⟩
   have hput := regKept_put ops.toList act
   unfold wpY at h
   split at h
   ·rename_i hsp
    rw [hsp] at hok
    simp only [regOK, Bool.and_eq_true] at hok
    cases dr with
    | false =>
      simp only at h
      have happ := preP_app ops.toList
      generalize hpr : preP ops.toList = pre at *
      generalize hrs : resP ops.toList = rest at *
      have hmw : ∀ {l : List Oper}, (∀ o ∈ l, o ∈ ops.toList) -> ∀ t, t < A.ps.length -> Nat.testBit (mskO l) t = false := fun {l} hl t ht => by
       cases hb : Nat.testBit (mskO l) t with
       | false => rfl
       | true =>
         have h1 := hW t ht
         rw [mskO_subT hl hb] at h1; cases h1
      have hpm : ∀ o ∈ pre, o ∈ ops.toList := fun o ho => by rw [<- happ]; exact List.mem_append_left _ ho
      have hrm : ∀ o ∈ rest, o ∈ ops.toList := fun o ho => by rw [<- happ]; exact List.mem_append_right _ ho
      have hlen : ops.size = pre.length + rest.length := by rw [<- Array.length_toList, <- happ, List.length_append]
      apply wpIn_region
      rw [List.range_eq_range', hlen, <- List.range'_append_1]
      have hf0 : RegKept (mskO pre) act act := ⟨rfl, fun _ _ => rfl, rfl⟩
      have key := pure_ops (all := ops.toList) (F := fen none) (n := 0) (Q := Q) (ds := RegKept (mskO pre) act) (R := R) (e := 0) (tl := List.range' (0 + pre.length) rest.length) ⟨_, rfl⟩ (fun b hb => Nat.lt_of_lt_of_le (hc.I b hb) hi.size) (fun fr' a' hF' hd' hs' => by
       rw [overK_eq] at hs'
       have hlen : fr'.length = fr.length := by rw [hF'.len, hi.F.len, hd'.1]
       have hl2 : (overO (mskO pre) 0 fr fr').length = fr'.length := len_overO _ _ _ _ hlen.symm
       have hi1 : InvY A C J Jx sz0 (overO (mskO pre) 0 fr fr') k a' w := by
        refine ⟨⟨by rw [hl2, hF'.len], fun t => ?_⟩, fun t ht => ?_, by rw [hl2, hlen]; exact hi.np, hi.size, hi.st, by rw [hd'.2.2, hi.df]⟩
        ·by_cases ht : t < fr'.length
         ·rw [get_overO _ _ _ _ _ hlen.symm ht, Nat.zero_add]
          cases hbt : Nat.testBit (mskO pre) t with
          | true => exact hF'.get t
          | false =>
            simp only
            rw [hd'.2.1 t hbt]
            exact hi.F.get t
         ·have e1 : getL (overO (mskO pre) 0 fr fr') t = .tup [] := by rw [getL_eq, List.getD_eq_getElem?_getD, List.getElem?_eq_none (by rw [hl2]; omega)]; rfl
          have e2 : a'.tmps.getD t undef = undef := by
           rw [Array.getD_eq_getD_getElem?, Array.getElem?_eq_none (by rw [<- hF'.len]; omega)]; rfl
          rw [e1, e2]
          exact .plain (.tup _ _ .nil) trivial
        ·rw [get_overO _ _ _ _ _ hlen.symm (by have := hi.np; omega), Nat.zero_add, hmw hpm t ht]
         exact hi.ps t ht
       generalize overO (mskO pre) 0 fr fr' = f1 at hs' hi1
       have hds1 : RegKept (mskO rest) a' a' := ⟨rfl, fun _ _ => rfl, rfl⟩
       have hg : Goal P S R (endH (mskO rest) f1 fun f => Qv .normal f k) Q C w (RegKept (mskO rest) a') := by
        intro fr2 hp' C' w' act' h1 h2 h3 h4 h5 h6
        unfold endH at h1
        split at h1
        ·rw [flatOK_eq] at h1
         have hq := tr_quiet hc.ρ hc.O h5
         refine hgoal .normal _ _ act' w' h1 (carry hc hi1 h4 (fun b hb => hq.keep b (Nat.lt_of_lt_of_le (hc.I b hb) hi.size)) hq.size h6 (hmw hrm) (by rw [h4.len, hi1.F.len, h6.1]) ?_)
         have := hi.st
         cases k with
         | some k => exact hc.hJ _ _ _ this hq
         | none => obtain ⟨j, hj, hx⟩ := this; exact ⟨j, hj, hc.hJx _ _ _ hx hq⟩
        ·exact h1.elim
       have hln : lenO pre = pre.length := lenO_eq pre
       rw [hln] at hs'
       have := inorder2 (T' := []) (all := ops.toList) hS hok.1 (ro := none) (rm := 0) rest pre.length [] f1 [] C w a' (by rw [<- happ]; simp) (regKept_put rest a') (fun k x hx => by simp at hx) (by rw [hl0]; exact Nat.zero_le _) hH hi1.F hs' hds1 hg
       rw [Nat.zero_add]; exact this) pre 0 fr act (fun i hi => by rw [Nat.zero_add, <- happ, List.getElem?_append_left hi]) (regKept_put pre act) (fun o ho => preP_g (l := ops.toList) o (by rw [hpr]; exact ho)) hi.F hf0 h
      simpa using key
    | true =>
      have hg : Goal P S R (endH (mskO ops.toList) fr fun f => Qv .normal f k) Q C w (RegKept (mskO ops.toList) act) := by
       intro fr' hp' C' w' act' h1 h2 h3 h4 h5 h6
       unfold endH at h1
       split at h1
       ·rw [flatOK_eq] at h1
        have hq := tr_quiet hc.ρ hc.O h5
        refine hgoal .normal _ _ act' w' h1 (carry hc hi h4 (fun b hb => hq.keep b (Nat.lt_of_lt_of_le (hc.I b hb) hi.size)) hq.size h6 hW (by rw [h4.len, hi.F.len, h6.1]) ?_)
        have := hi.st
        cases k with
        | some k => exact hc.hJ _ _ _ this hq
        | none => obtain ⟨j, hj, hx⟩ := this; exact ⟨j, hj, hc.hJx _ _ _ hx hq⟩
       ·exact h1.elim
      have h2 := hok.2
      simp only [Bool.and_eq_true] at h2
      exact region_draw hS hm hok.1 h2.1 (back_spec h2.2) (by rw [hl0]; exact Nat.zero_le _) hH hi.F h hput hds hg
   ·rename_i y hsp
    rw [hsp] at hok
    simp only [Bool.and_eq_true] at hok
    obtain ⟨⟨hok, hback⟩, hbar⟩ := hok
    simp only [regOK, Bool.and_eq_true] at hok
    split at h
    case h_2 => exact h.elim
    rename_i k hblt
    have hlt : y.yd < act.tmps.size := by rw [<- hi.F.len]; simpa [Nat.blt_eq] using hblt
    obtain ⟨oy, oz, hsplit, h2len, e1, e2, e3, e4, e5, e6, e7⟩ := splitY_spec hsp
    generalize hpre : ops.toList.take (ops.toList.length - 2) = pre at *
    have hplen : pre.length = ops.toList.length - 2 := by rw [<- hpre, List.length_take]; omega
    have hoy : oy ∈ ops.toList := by rw [hsplit]; simp
    have hoz : oz ∈ ops.toList := by rw [hsplit]; simp
    have hyd : A.ps.length <= y.yd := by
     rcases Nat.lt_or_ge y.yd A.ps.length with hlt | hge
     ·have := hW _ hlt; rw [mskO_bit hoy e3] at this; cases this
     ·exact hge
    let P1 : Act -> World -> Prop := fun a1 w1 => ∃ C1 fr1, HR C1 [] w1 /\ FR [] C1 w1 fr1 a1.tmps /\ Tr 0 C w C1 w1 /\ RegKept (mskO pre) act a1 /\ (yldK A (mskO ops.toList) fr y fr1 k fun f k' => Qv .normal f k').sat R
    have hg : Goal P S R (yldH A (mskO ops.toList) fr y k fun f k' => Qv .normal f k') (EndQ P1) C w (RegKept (mskO pre) act) := by
     intro fr' hp' C' w' act' h1 h2 h3 h4 h5 h6
     refine ⟨rfl, C', fr', ?_, h4, by rw [<- hl0]; exact h5, h6, ?_⟩
     ·cases hp' with
      | nil => exact h3
      | cons b r => exact h1.elim
     ·cases hp' with
      | nil => exact h1
      | cons b r => exact h1.elim
    have hdsp : RegKept (mskO pre) act act := ⟨rfl, fun _ _ => rfl, rfl⟩
    have htwo : ∀ a1 w1, P1 a1 w1 -> oy.wpIn (fen none) 0 P a1 w1 (fun a2 w2 => oz.wpIn (fen none) 0 P a2 w2 (fun a3 w3 => Q .normal a3 w3) Q) Q := by
     rintro a1 w1 ⟨C1, fr1, q1, q2, q3, q4, q5⟩
     have q4' : RegKept (mskO ops.toList) act a1 := by rw [<- hpre] at q4; exact q4.take
     exact yield_two hc hi q2 q1 q3 q4' (by rw [q2.len, hi.F.len, q4.1]) hW e1 e2 e3 e4 e7 (putOK_sub hput fun o ho => by
       simp at ho; rcases ho with rfl | rfl
       ·exact hoy
       ·exact hoz) hlt q5 fun fr' k' act' w' hs hinv => hgoal .normal fr' k' act' w' hs hinv
    have hal : ops = (pre ++ [oy, oz]).toArray := by rw [<- hsplit]
    have htk : (pre ++ [oy, oz]).take pre.length = pre := by simp
    have hputp := regKept_put pre act
    have hlo : S.lo <= ([] : Heap).length := by rw [hl0]; exact Nat.zero_le _
    have h2 := hok.2
    cases dr with
    | true =>
      simp only [Bool.and_eq_true] at h2
      have hbk : Back (pre ++ [oy, oz]) := by rw [<- hsplit]; exact back_spec hback
      have hbr : barAt true (pre ++ [oy, oz]) pre.length = true := by
       simp only at hbar
       rw [hsplit] at hbar
       rw [hplen, hsplit]; exact hbar
      apply wpIn_region_any hm
      rw [hal]
      have hd := draw_any (ops := pre.toArray) (w := w) hS (ro := none) (rm := 0) (by simpa using hok.1) (by simpa using h2.1) (by simpa using back_spec h2.2) hlo hH hi.F (by simpa using h) (by simpa using hputp) hdsp hg
      have := any_prefix (F := fen none) (n := 0) (P := P) (P1 := P1) (Q := Q) (all := pre ++ [oy, oz]) (k := pre.length) (m := 2) (by simp) (by rw [htk]; exact hok.1) hbk hbr
       (fun a1 w1 hp D hs hcl hb hge => tail_any hbk hbr e5 e6 hs hcl hb hge (htwo a1 w1 hp)) pre.length (Array.replicate pre.length false) (Array.replicate (pre ++ [oy, oz]).length false) act { w with drawn := w.drawn + 1 } (by simp) (by simp)
       (fun i o _ hl => ?_) (fun i hi => ?_) (fun i _ hl => ?_) ?_ ?_
      ·simpa using this
      ·exfalso
       unfold Lst at hl
       rw [Array.getD_eq_getD_getElem?, Array.getElem?_replicate] at hl
       split at hl <;> simp at hl
      ·rw [Array.getD_eq_getD_getElem?, Array.getD_eq_getD_getElem?, Array.getElem?_replicate, Array.getElem?_replicate, if_pos hi, if_pos (by simp; omega)]
      ·unfold Lst at hl
       rw [Array.getD_eq_getD_getElem?, Array.getElem?_replicate] at hl
       split at hl <;> simp at hl
      ·have key : ∀ q, q <= pre.length -> unl (fun i => (Array.replicate pre.length false).getD i false) q = q := by
        intro q
        induction q with
        | zero => intro _; rfl
        | succ q ihq =>
          intro hq
          have : (Array.replicate pre.length false).getD q false = false := by
           rw [Array.getD_eq_getD_getElem?, Array.getElem?_replicate]; split <;> rfl
          simp only [unl, this]
          rw [ihq (by omega)]; simp; omega
       exact key _ (Nat.le_refl _)
      ·rw [htk]; simpa using hd
    | false =>
      apply wpIn_region
      rw [hal]
      have hin := inorder hS (all := pre) hok.1 (K := yldH A (mskO ops.toList) fr y k fun f k' => Qv .normal f k') (Q := EndQ P1) hputp (ro := none) (rm := 0) pre 0 [] fr [] C w act (by simp) (fun k x hx => by simp at hx) hlo hH hi.F h hdsp hg
      have hrg : List.range (pre ++ [oy, oz]).toArray.size = List.range' 0 pre.length ++ [pre.length, pre.length + 1] := by
       rw [List.range_eq_range']
       have : (pre ++ [oy, oz]).toArray.size = pre.length + 2 := by simp
       rw [this, <- List.range'_append_1]
       simp [List.range'_succ]
      rw [hrg]
      refine opsIn_prefix (all := pre ++ [oy, oz]) (k := pre.length) (P1 := P1) (by simp) (by rw [htk]; exact hok.1) (fun a1 w1 hp => ?_) _ (fun i hi => by simp [List.mem_range'] at hi; omega) act w (by rw [htk]; exact hin)
      have gy : (pre ++ [oy, oz]).toArray[pre.length]? = some oy := by simp
      have gz : (pre ++ [oy, oz]).toArray[pre.length + 1]? = some oz := by simp
      have hwy : ∀ f, Region.wanted oy f = true := fun f => by unfold Region.wanted; rw [e5]
      have hwz : ∀ f, Region.wanted oz f = true := fun f => by unfold Region.wanted; rw [e6]
      simp only [wpOpsIn, gy, gz, hwy, hwz, if_true]
      exact htwo a1 w1 hp
 | seq a b iha ihb =>
   intro hok fr k Qv act w Q hi h hgoal
   simp only [codeY, Bool.and_eq_true] at hok
   simp only [wpY] at h
   refine wpIn_seq (iha hok.1 fr k _ act w _ hi h ?_)
   intro e fr' k' act' w' h1 h2
   cases e with
   | normal => exact ihb hok.2 fr' k' Qv act' w' Q h2 h1 hgoal
   | exit id => exact hgoal (.exit id) fr' k' act' w' h1 h2
   | ret => exact hgoal .ret fr' k' act' w' h1 h2
 | cond c a b iha ihb =>
   intro hok fr k Qv act w Q hi h hgoal
   simp only [codeY, Bool.and_eq_true] at hok
   simp only [wpY] at h
   split at h
   case h_2 => exact h.elim
   rename_i d
   split at h
   case h_2 => exact h.elim
   rename_i hdp
   have hdp : A.ps.length <= d := Nat.le_of_ble_eq_true hdp
   unfold branchK at h
   have hd := (hi.F.get d).1
   split at h
   ·rename_i hv
    rw [hv] at hd
    refine wpIn_cond_true (c := .tmp d) ?_ (iha hok.1 fr k Qv act w Q hi h hgoal)
    show act.tmps.getD d undef = _
    generalize act.tmps.getD d undef = u at hd; cases hd; rfl
   ·rename_i hv
    rw [hv] at hd
    refine wpIn_cond_false (c := .tmp d) ?_ (ihb hok.2 fr k Qv act w Q hi h hgoal)
    show act.tmps.getD d undef = _
    generalize act.tmps.getD d undef = u at hd; cases hd; rfl
   ·rename_i t hv
    rw [hv] at hd
    have hvt : act.tmps.getD d undef = .bool t := by generalize act.tmps.getD d undef = u at hd; cases hd; rfl
    refine wpIn_cond_split (c := .tmp d) hvt (fun ht => ?_) (fun ht => ?_)
    ·have h1 := h.1 ht
     rw [setF_eq] at h1
     exact iha hok.1 _ k Qv act w Q (known hi hdp (a := .lb true) (.plain (by rw [hvt, ht]; exact .lb _) trivial)) h1 hgoal
    ·have h1 := h.2 ht
     rw [setF_eq] at h1
     exact ihb hok.2 _ k Qv act w Q (known hi hdp (a := .lb false) (.plain (by rw [hvt, ht]; exact .lb _) trivial)) h1 hgoal
   ·exact h.elim
 | block id c ih =>
   intro hok fr k Qv act w Q hi h hgoal
   simp only [codeY] at hok
   simp only [wpY] at h
   refine wpIn_block (ih hok fr k _ act w _ hi h ?_)
   intro e fr' k' act' w' h1 h2
   cases e with
   | normal => exact hgoal .normal fr' k' act' w' h1 h2
   | exit j =>
     simp only at h1
     show (if j = id then Q .normal act' w' else Q (.exit j) act' w')
     split at h1
     ·rename_i hj
      rw [if_pos (Nat.eq_of_beq_eq_true hj).symm]
      exact hgoal .normal fr' k' act' w' h1 h2
     ·rename_i hj
      rw [if_neg (fun e => by subst e; simp at hj)]
      exact hgoal (.exit j) fr' k' act' w' h1 h2
   | ret => exact hgoal .ret fr' k' act' w' h1 h2
 | loop c ih =>
   intro hok fr k Qv act w Q hi h hgoal
   simp only [codeY] at hok
   simp only [wpY] at h
   cases k with
   | none => exact h.elim
   | some k =>
     obtain ⟨h0, h3⟩ := h
     have enter : ∀ {fr : List AV} {g : Nat} {act : Act} {w : World}, (leLW (leAF 6 0 [] []) fr (A.fr g) (.need ⟨A.q, A.dat g⟩ .done)).sat R -> InvY A C J Jx sz0 fr (some g) act w -> A.q (A.dat g) /\ InvY A C J Jx sz0 (A.fr g) (some g) act w := by
      intro fr g act w hle hi
      have hH : HR C [] w := hr_none hc.ρ hc.O fun b hb => Nat.lt_of_lt_of_le (hc.I b hb) hi.size
      have hle := leLW_sat (leAF_sat 6) _ _ _ _ id hle
      obtain ⟨hq, himp⟩ := leL_sat hle
      have hln := (himp C w hH).1
      refine ⟨hq.1, ⟨by rw [<- hln]; exact hi.F.len, fun t => ?_⟩, fun t ht => hc.fr g t ht, by rw [<- hln]; exact hi.np, hi.size, hi.st, hi.df⟩
      have h1 := leL_frame hle C w hH t _ (hi.F.get t).1
      refine ⟨h1.1.mono ⟨fun i p hp => ?_, fun b hb => ?_, fun _ _ => rfl⟩, fun k b e => by obtain ⟨x, hx, _⟩ := h1.2 k b e; simp at hx⟩
      ·unfold Cx.cut at hp
       simp only at hp
       split at hp
       ·exact hp
       ·cases hp
      ·rcases hb with hb | ⟨i, c, n, _, hb⟩
       ·exact hb
       ·rw [hc.ρ] at hb; cases hb
     obtain ⟨hq, hi⟩ := enter h0 hi
     refine wpIn_loop_ghost (fun m a w1 => ∃ g, A.n - g = m /\ A.q (A.dat g) /\ InvY A C J Jx sz0 (A.fr g) (some g) a w1) (A.n - k) ⟨k, rfl, hq, hi⟩ ?_
     rintro m a w1 ⟨g, rfl, hqg, hi⟩
     have h4 := h3 g hqg
     simp only [forceL_eq] at h4
     refine ih hok _ _ _ a w1 _ hi h4 ?_
     intro e fr' k' act' w' h1 h2
     cases e with
     | normal =>
       cases k' with
       | none => exact h1.elim
       | some k' =>
         obtain ⟨⟨hlt, hgn⟩, h1⟩ := h1
         obtain ⟨hq', hi'⟩ := enter h1 h2
         simp only at hlt hgn
         exact ⟨A.n - k', by omega, k', rfl, hq', hi'⟩
     | exit id => exact hgoal (.exit id) fr' k' act' w' h1 h2
     | ret => exact hgoal .ret fr' k' act' w' h1 h2
 | exit id =>
   intro _ fr k Qv act w Q hi h hgoal
   exact wpIn_exit (hgoal (.exit id) fr k act w h hi)
 | ret =>
   intro _ fr k Qv act w Q hi h hgoal
   exact wpIn_ret (hgoal .ret fr k act w h hi)
 | _ =>
   intro hok
   cases hok
structure SpecI (shs : List Sh) where
 pre : DatL shs -> Prop
 n : DatL shs -> Nat
 it : DatL shs -> Nat -> List AV
noncomputable def mkIt (shs : List Sh) (sp : SpecI shs) : Iter := fun caps => match okShLN shs caps with
 | true => decKLN shs caps fun x => some ⟨appP (canShLN shs caps) [⟨sp.pre, x⟩], sp.n x, sp.it x⟩
 | false => none
theorem IterOK.of (hS : SumsOK P S) (hm : P.follows .mixedOrders = true) (hl0 : S.lo = 0) {shs : List Sh} {sp : SpecI shs} {gf : FuncId} {fn : Func} {c : Code} (hf : P.funcs[gf]? = some fn) (hb : fn.body = some c) (hres : fn.results = #[]) (hok : codeY (shs.length + 1) c = true) (hany : noAny shs = true) (hn : shs.length + 1 <= fn.ntmps)
  {α : Type} {dat : DatL shs -> Nat -> α} {q : α -> Prop} {fr : Value -> DatL shs -> Nat -> List AV} (hfr : ∀ Y x g t, t < shs.length + 1 -> getL (fr Y x g) t = getL (.v Y :: encL shs x) t)
  (h : ∀ Y x, sp.pre x -> (wpYF P S ⟨.v Y :: encL shs x, Y, sp.n x, sp.it x, fr Y x, dat x, q⟩ fn).sat fun _ _ => True) : IterOK P gf (mkIt shs sp) := by
 intro caps x hx hpre C0 w lb hρ hI hlb l J Jx hJ hJx hY h0
 obtain ⟨C, hCρ, hCI, hO⟩ : ∃ C : Cx, C.ρ = C0.ρ /\ C.I = C0.I /\ ∀ b, C.O b = none := ⟨⟨C0.ρ, C0.I, fun _ => none⟩, rfl, rfl, fun _ => rfl⟩
 rw [<- hCρ] at hρ
 rw [<- hCI] at hI hY
 have hlb : RelL C w caps lb := hlb.mono ⟨fun i p h => by rw [hCρ]; exact h, fun b h => by rw [hCI]; exact h, fun _ _ => rfl⟩
 unfold mkIt at hx
 simp only [okShLN_eq, decKLN_eq, canShLN_eq] at hx
 split at hx
 case h_2 => cases hx
 rename_i hsh
 rw [decKL_eq hsh] at hx
 injection hx with hx; subst hx
 obtain ⟨hp1, hp2⟩ := appP_mem hpre
 have hsp := hp2 _ (List.mem_singleton.2 rfl)
 have hlb := encL_dec (can_shL hsh hp1) hlb
 generalize decL shs caps = x at *
 have hv := h (.func (.yield l) #[] #[]) x hsp
 refine callsIn_of_wp_marks (F := fen none) (n := 0) hf hb trivial ?_ rfl
 unfold wpYF at hv
 simp only [hb, forceL_eq, flatK_eq] at hv
 let A : YA := ⟨.v (.func (.yield l) #[] #[]) :: encL shs x, .func (.yield l) #[] #[], sp.n x, sp.it x, fr (.func (.yield l) #[] #[]) x, dat x, q⟩
 have hA : A.ps = .v (.func (.yield l) #[] #[]) :: encL shs x := rfl
 have hAl : A.ps.length = shs.length + 1 := by rw [hA]; simp [encL_len]
 have hps : RelL C w A.ps (.func (.yield l) #[] #[] :: lb) := .cons _ _ _ _ (.v _) hlb
 have hng : ∀ t, notGd (getL A.ps t) := fun t => by
  rw [hA]
  cases t with
  | zero => rw [getL_zero]; trivial
  | succ t => rw [getL_succ]; exact encL_ng hany t
 have hc : YCtx P A C J Jx w.heap.size l := ⟨hρ, hO, hI, hng, fun g t ht => hfr _ x g t (by rw [hAl] at ht; exact ht), rfl, hJ, hJx, hY⟩
 have hle := hps.len
 have hpad : ∀ (l : List AV) (n : Nat), l.length <= n -> padL l n = l ++ List.replicate (n - l.length) (.tup []) := by
  intro l
  induction l with
  | nil =>
    intro n _
    induction n with
    | zero => rfl
    | succ n ih => simp only [padL, ih (by simp)]; simp [List.replicate_succ]
  | cons a l ih =>
    intro n hn
    cases n with
    | zero => simp at hn
    | succ n => simp only [padL, ih n (by simpa using hn)]; simp
 have hnl : A.ps.length <= fn.ntmps := by omega
 generalize hvs : (.func (.yield l) #[] #[] :: lb : List Value) = vs at *
 have hF : FR [] C w (padL A.ps fn.ntmps) ((⟨vs⟩ : Array Value) ++ Array.replicate (fn.ntmps - (⟨vs⟩ : Array Value).size) undef) := by
  rw [hpad _ _ hnl]
  refine ⟨by simp [hle], fun t => ?_⟩
  rw [getL_eq, List.getD_eq_getElem?_getD, Array.getD_eq_getD_getElem?]
  by_cases ht : t < A.ps.length
  ·rw [List.getElem?_append_left ht, Array.getElem?_append_left (by simp; omega)]
   have h1 : A.ps[t]? = some (A.ps[t]'ht) := List.getElem?_eq_getElem _
   obtain ⟨v, h2, h3⟩ := hps.get h1
   rw [h1]
   simp only [List.getElem?_toArray, h2, Option.getD_some]
   refine .plain h3 ?_
   have := hng t
   rwa [getL_eq, List.getD_eq_getElem?_getD, h1] at this
  ·rw [List.getElem?_append_right (by omega), Array.getElem?_append_right (by simp; omega)]
   refine .plain ?_ ?_
   ·have e1 : ((List.replicate (fn.ntmps - A.ps.length) (AV.tup []))[t - A.ps.length]?).getD (.tup []) = .tup [] := by
     rw [List.getElem?_replicate]; split <;> rfl
    have e2 : ((Array.replicate (fn.ntmps - (⟨vs⟩ : Array Value).size) undef)[t - (⟨vs⟩ : Array Value).size]?).getD undef = undef := by
     rw [Array.getElem?_replicate]; split <;> rfl
    rw [e1, e2]
    exact .tup _ _ .nil
   ·rw [List.getElem?_replicate]; split <;> trivial
 have hplen : (padL A.ps fn.ntmps).length = fn.ntmps := by rw [hpad _ _ hnl]; simp; omega
 have hget : ∀ t, t < A.ps.length -> getL (padL A.ps fn.ntmps) t = getL A.ps t := fun t ht => by
  rw [hpad _ _ hnl, getL_eq, getL_eq, List.getD_eq_getElem?_getD, List.getD_eq_getElem?_getD, List.getElem?_append_left ht]
 have hi0 : InvY A C J Jx w.heap.size (padL A.ps fn.ntmps) (some 0) ⟨(⟨vs⟩ : Array Value) ++ Array.replicate (fn.ntmps - (⟨vs⟩ : Array Value).size) undef, []⟩ w :=
  ⟨hF, hget, by rw [hplen]; exact hnl, Nat.le_refl _, h0, rfl⟩
 have hi : InvY A C J Jx w.heap.size (flatL A.ps (padL A.ps fn.ntmps)) (some 0) ⟨(⟨vs⟩ : Array Value) ++ Array.replicate (fn.ntmps - (⟨vs⟩ : Array Value).size) undef, []⟩ w :=
  carry0 hc hi0
 refine wpY_sound hS hm hl0 hc c (by rw [hAl]; exact hok) _ _ _ _ w _ hi hv ?_
 intro e fr' k' act' w' h1 h2
 have fin : (J (sp.n x) w' \/ ∃ k, k < sp.n x /\ Jx k w') -> LeavesInM (fen none) 0 P fn act'.tmps (fun e W' => (∃ v, e = .returned v) /\ (J (sp.n x) W' \/ ∃ k, k < sp.n x /\ Jx k W')) act'.defers .returning w' := by
  intro hj
  rw [h2.df]
  refine ⟨.tuple #[], ?_, ⟨_, rfl⟩, hj⟩
  simp [results, hres]
 have st := h2.st
 cases e with
 | exit id => exact h1.elim
 | normal =>
   cases k' with
   | none => exact fin (.inr st)
   | some k' => exact fin (.inl (by have e : k' = sp.n x := h1.1; rw [<- e]; exact st))
 | ret =>
   cases k' with
   | none => exact fin (.inr st)
   | some k' => exact fin (.inl (by have e : k' = sp.n x := h1.1; rw [<- e]; exact st))
end
end Abs
end Go.Proofs.Ytdfdjlijghjdaaa

namespace Go.Proofs.Ytdfdjlijghjdaaa
namespace Abs
open Go Go.RowKit
noncomputable section
structure AK where
 A : Ann
 kk : A.G -> Nat
structure YK where
 caps : List AV
 Y : Value
 n : Nat
 it : Nat -> List AV
 I : List AV -> Heap -> AK
@[reducible] def YK.ps (A : YK) : List AV := .v A.Y :: A.caps
structure YG where
 p : Nat
 c : Nat
 d : Nat
 args : List Operand
 yd : Nat
 gd : Nat
def findY : Nat -> List Oper -> Option (Nat × Nat × List Operand × Nat × Nat)
 | _, [] => none
 | n, o :: l => (match o.guard, calleeT o.op, o.dst with
   | some (gi, true), some (d, args), some yd => some (n, d, args, yd, gi)
   | _, _, _ => findY (n + 1) l)
def splitG (ops : List Oper) : Option YG := match findY 0 ops with
 | some (c, d, args, yd, gi) => (match dstOf ops gi, Nat.blt gi c with
   | some gd, true => some ⟨gi + 1, c, d, args, yd, gd⟩
   | _, _ => none)
 | none => none
def exKk (lo : Nat) (B : AK) (m : Option Nat) (fr : List AV) (hp : Heap) (k : Nat) : VC :=
 .ex (A := B.A) B.A.dat m fun g => .need ⟨fun z : Nat × Nat => z.1 = z.2, (B.kk g, k)⟩ (forceL (B.A.st g).fr fun f2 => forceH (B.A.st g).hp fun h2 => swK lo f2 fr hp fun fr hp => leSF lo fr hp ⟨f2, h2⟩)
def yldG (P : Program) (S : Sums) (A : YK) (ops : List Oper) (y : YG) (k : Nat) (fr : List AV) (hp : Heap) (Q : List AV -> Heap -> Option Nat -> VC) : VC :=
 match getL fr y.gd with
 | .lb true => .need ⟨fun z : AV × AV => z.1 = z.2, (getL fr y.d, .v A.Y)⟩ (.need ⟨fun z : Nat × Nat => z.1 < z.2, (k, A.n)⟩ (forceLD (evL (ev fr) y.args) fun asg => forceL (A.it k) fun its => leLW (leAF 6 0 hp []) asg its
   (.loop (A := unitA) (fun _ => ()) (setF fr y.yd (.lb true) fun f => flatK A.ps f fun f => runOps P S false ops none (y.c + 1) (ops.drop (y.c + 1)) [] f [] fun fr hp => Q fr hp (some (nadd k 1)))
    fun _ => setF fr y.yd (.lb false) fun f => flatK [] f fun f => runOps P S false ops none (y.c + 1) (ops.drop (y.c + 1)) [] f [] fun fr hp => Q fr hp none)))
 | _ => .fail
def wpK (P : Program) (S : Sums) (A : YK) : Code -> List AV -> Heap -> Option Nat -> (AE -> List AV -> Heap -> Option Nat -> VC) -> VC
 | .skip, fr, hp, k, Q => Q .normal fr hp k
 | .region id ops dr, fr, hp, k, Q => (match splitG ops.toList with
   | none => wpA P S 0 [] (.region id ops dr) fr hp fun _ fr hp => Q .normal fr hp k
   | some y => (match k, dr with
     | some k, false => runOps P S false (ops.toList.take y.p) none 0 (ops.toList.take y.p) [] fr hp fun fr hp => branchK fr y.gd fun b fr => (match b with
       | false => runOps P S false ops.toList none y.p (ops.toList.drop y.p) [] fr hp fun fr hp => Q .normal fr hp (some k)
       | true => runOps P S false (ops.toList.take y.c) none y.p ((ops.toList.take y.c).drop y.p) [] fr hp fun fr hp => yldG P S A ops.toList y k fr hp fun fr hp k => Q .normal fr hp k)
     | _, _ => .fail))
 | .seq a b, fr, hp, k, Q => wpK P S A a fr hp k fun e fr' hp' k' => match e with
   | .normal => wpK P S A b fr' hp' k' Q
   | e => Q e fr' hp' k'
 | .cond c t e, fr, hp, k, Q => (match c with
   | .tmp d => branchK fr d fun b fr => (match b with | true => wpK P S A t fr hp k Q | false => wpK P S A e fr hp k Q)
   | _ => .fail)
 | .block id c, fr, hp, k, Q => wpK P S A c fr hp k fun e fr' hp' k' => match e with
   | .exit j => (match Nat.beq id j with | true => Q .normal fr' hp' k' | false => Q (.exit j) fr' hp' k')
   | e => Q e fr' hp' k'
 | .loop c, fr, hp, k, Q => (match k with
   | none => .fail
   | some k =>
     let B := A.I fr hp
     .loop (A := B.A) B.A.dat (exKk S.lo B none fr hp k) fun g => forceL (B.A.st g).fr fun fr => forceH (B.A.st g).hp fun hp => wpK P S A c fr hp (some (B.kk g)) fun e fr' hp' k' => match e with
      | .normal => (match k' with | some k' => exKk S.lo B (some (B.A.mu g)) fr' hp' k' | none => .fail)
      | e => Q e fr' hp' k')
 | .exit id, fr, hp, k, Q => Q (.exit id) fr hp k
 | .ret, fr, hp, k, Q => Q .ret fr hp k
 | _, _, _, _, _ => .fail
def wpKF (P : Program) (S : Sums) (A : YK) (fn : Func) : VC :=
 match fn.body with
 | some c => forceL (padL A.ps fn.ntmps) fun fr => wpK P S A c fr [] (some 0) fun e _ _ k => match e with
   | .exit _ => .fail
   | _ => (match k with | some k => .need ⟨fun z : Nat × Nat => z.1 = z.2, (k, A.n)⟩ .done | none => .done)
 | none => .fail
def codeK (np : Nat) : Code -> Bool
 | .region id ops dr => (match splitG ops.toList with
   | none => codeOK (.region id ops dr)
   | some y => uniqOK ops.toList && uniqOK (ops.toList.take y.p) && uniqOK (ops.toList.take y.c) && Nat.ble y.p y.c) && allLt (fun t => !(Nat.testBit (mskO ops.toList) t)) np
 | .seq a b => codeK np a && codeK np b
 | .cond _ a b => codeK np a && codeK np b
 | .block _ a => codeK np a
 | .loop a => codeK np a
 | .skip => true
 | .exit _ => true
 | .ret => true
 | _ => false
end
section
variable {P : Program} {S : Sums} {A : YK} {C C' : Cx} {w w' : World} {hp : Heap} {J Jx : Nat -> World -> Prop} {l : Nat} {vs0 : List Value}
theorem findY_spec : ∀ {ops : List Oper} {n c d : Nat} {args : List Operand} {yd gi : Nat}, findY n ops = some (c, d, args, yd, gi) -> ∃ o, n <= c /\ ops[c - n]? = some o /\ o.guard = some (gi, true) /\ calleeT o.op = some (d, args) /\ o.dst = some yd
 | [], n, c, d, args, yd, gi, h => by simp [findY] at h
 | o :: ops, n, c, d, args, yd, gi, h => by
   simp only [findY] at h
   split at h
   ·rename_i gi' d' args' yd' h1 h2 h3
    simp only [Option.some.injEq, Prod.mk.injEq] at h
    obtain ⟨rfl, rfl, rfl, rfl, rfl⟩ := h
    exact ⟨o, Nat.le_refl _, by simp, h1, h2, h3⟩
   ·obtain ⟨o', h1, h2, h3⟩ := findY_spec h
    refine ⟨o', by omega, ?_, h3⟩
    rw [show c - n = (c - (n + 1)) + 1 by omega]
    simpa using h2
theorem splitG_spec {ops : List Oper} {y : YG} (h : splitG ops = some y) : ∃ o gi, ops[y.c]? = some o /\ o.guard = some (gi, true) /\ calleeT o.op = some (y.d, y.args) /\ o.dst = some y.yd /\ dstOf ops gi = some y.gd /\ y.p = gi + 1 := by
 unfold splitG at h
 split at h
 ·rename_i c d args yd gi hf
  split at h
  ·rename_i gd hg hlt
   injection h with h; subst h
   obtain ⟨o, _, h2, h3, h4, h5⟩ := findY_spec hf
   exact ⟨o, gi, by simpa using h2, h3, h4, h5, hg, rfl⟩
  ·cases h
 ·cases h
def Yl (P : Program) (A : YK) (J Jx : Nat -> World -> Prop) (l : Nat) (k : Nat) (W : World) (I0 : Nat -> Prop) : Prop :=
 k < A.n -> ∀ (W' : World) (I1 : Nat -> Prop) (vs : List Value), Quiet W W' -> (∀ b, I1 b -> I0 b \/ (W.heap.size <= b /\ b < W'.heap.size)) -> RelL ⟨fun _ => none, I1, fun _ => none⟩ W' (A.it k) vs ->
   YieldAt (fen none) 0 P l ⟨vs⟩ W' fun e W'' => (e = .returned (.bool true) /\ J (k + 1) W'') \/ (e = .returned (.bool false) /\ Jx k W'')
structure KCtx (P : Program) (A : YK) (J Jx : Nat -> World -> Prop) (l : Nat) (vs0 : List Value) : Prop where
 ng : ∀ t, notGd (getL A.ps t)
 Y : A.Y = .func (.yield l) #[] #[]
 hJ : ∀ k W W', J k W -> Quiet W W' -> J k W'
 hJx : ∀ k W W', Jx k W -> Quiet W W' -> Jx k W'
 hc : ∀ k W, J k W -> ∃ I0 : Nat -> Prop, (∀ b, I0 b -> b < W.heap.size) /\ RelL ⟨fun _ => none, I0, fun _ => none⟩ W A.ps vs0 /\ Yl P A J Jx l k W I0
structure InvK (P : Program) (A : YK) (J Jx : Nat -> World -> Prop) (l : Nat) (vs0 : List Value) (C : Cx) (hp : Heap) (fr : List AV) (k : Option Nat) (act : Act) (w : World) : Prop where
 H : HR C hp w
 F : FR [] C w fr act.tmps
 np : A.ps.length <= fr.length
 st : match k with
  | some k => ∃ W0 I0, J k W0 /\ Yl P A J Jx l k W0 I0 /\ Tr 0 ⟨fun _ => none, I0, fun _ => none⟩ W0 C w
  | none => ∃ W0 I0 k, k < A.n /\ Jx k W0 /\ Tr 0 ⟨fun _ => none, I0, fun _ => none⟩ W0 C w
 pv : ∀ t, t < A.ps.length -> act.tmps.getD t undef = vs0.getD t undef
 df : act.defers = []
theorem InvK.step {fr fr' : List AV} {hp' : Heap} {k : Option Nat} {act act' : Act} {W : Nat} (hi : InvK P A J Jx l vs0 C hp fr k act w) (hH : HR C' hp' w') (hF : FR [] C' w' fr' act'.tmps) (ht : Tr 0 C w C' w') (hk : RegKept W act act') (hW : ∀ t, t < A.ps.length -> Nat.testBit W t = false) : InvK P A J Jx l vs0 C' hp' fr' k act' w' := by
 refine ⟨hH, hF, by rw [hF.len, hk.1, <- hi.F.len]; exact hi.np, ?_, fun t h => by rw [hk.2.1 t (hW t h)]; exact hi.pv t h, by rw [hk.2.2]; exact hi.df⟩
 have := hi.st
 cases k with
 | some k => obtain ⟨W0, I0, h1, h2, h3⟩ := this; exact ⟨W0, I0, h1, h2, h3.trans ht⟩
 | none => obtain ⟨W0, I0, k, h0, h1, h3⟩ := this; exact ⟨W0, I0, k, h0, h1, h3.trans ht⟩
theorem InvK.known {fr : List AV} {k : Option Nat} {act : Act} (hi : InvK P A J Jx l vs0 C hp fr k act w) {d : Nat} {a : AV} (ha : RelG [] C w a (act.tmps.getD d undef)) : InvK P A J Jx l vs0 C hp (setL fr d a) k act w :=
 ⟨hi.H, hi.F.known ha, by rw [len_setL]; exact hi.np, hi.st, hi.pv, hi.df⟩
theorem flat_FR {ps f : List AV} {tm : Array Value} (hF : FR [] C w f tm) (hnp : ps.length <= f.length) (hng : ∀ t, notGd (getL ps t)) (hps : ∀ t, t < ps.length -> Rel C' w' (getL ps t) (tm.getD t undef)) : FR [] C' w' (flatL ps f) tm := by
 refine ⟨by rw [len_flat]; exact hF.len, fun t => ?_⟩
 by_cases ht : t < f.length
 ·rw [get_flat _ _ _ ht]
  split
  ·rename_i h; exact .plain (hps t h) (hng t)
  ·exact .plain (flat_rel (hF.get t).1) (flat_ng _)
 ·have e1 : getL (flatL ps f) t = .tup [] := by rw [getL_eq, List.getD_eq_getElem?_getD, List.getElem?_eq_none (by rw [len_flat]; omega)]; rfl
  have e2 : tm.getD t undef = undef := by
   rw [Array.getD_eq_getD_getElem?, Array.getElem?_eq_none (by rw [<- hF.len]; omega)]; rfl
  rw [e1, e2]; exact .plain (.tup _ _ .nil) trivial
theorem yield_g (hS : SumsOK P S) (hl0 : S.lo = 0) (hc : KCtx P A J Jx l vs0) {R : AV -> Heap -> Prop} {Qv : List AV -> Heap -> Option Nat -> VC} {fr1 : List AV} {k : Nat} {act a1 : Act} {w1 : World} {ops : Array Oper} {y : YG} {Q : Exit -> Act -> World -> Prop}
  (hsp : splitG ops.toList = some y) (hu : uniqOK ops.toList = true) (hW : ∀ t, t < A.ps.length -> Nat.testBit (mskO ops.toList) t = false)
  (hi : InvK P A J Jx l vs0 C hp fr1 (some k) a1 w1) (hk : RegKept (mskO ops.toList) act a1)
  (h : (yldG P S A ops.toList y k fr1 hp Qv).sat R) (hgoal : ∀ fr' hp' k' C' act' w', (Qv fr' hp' k').sat R -> InvK P A J Jx l vs0 C' hp' fr' k' act' w' -> Q .normal act' w') :
  wpOpsIn (fen none) 0 P ops Q (List.range' y.c (ops.toList.length - y.c)) a1 w1 := by
 obtain ⟨o, gi, ho, hgd, hcal, hdst, hgdst, _⟩ := splitG_spec hsp
 obtain ⟨W0, I0, hj, hyl, ht⟩ := hi.st
 have hq : Quiet W0 w1 := tr_quiet (fun _ => rfl) (fun _ => rfl) ht
 have hlt : y.c < ops.toList.length := (List.getElem?_eq_some_iff.1 ho).1
 have hput := regKept_put ops.toList a1
 unfold yldG at h
 split at h
 case h_2 => exact h.elim
 rename_i hg1
 obtain ⟨hY, hkn, h⟩ := h
 simp only [forceLD_eq, forceL_eq] at h
 have h := leLW_sat (leAF_sat 6) _ _ _ _ id h
 obtain ⟨h, himp⟩ := leL_sat h
 obtain ⟨c, hop, hcl, hargs⟩ := calleeT_eq hcal
 have hyv : a1.tmps.getD y.d undef = .func (.yield l) #[] #[] := by
  have := (hi.F.get y.d).1
  rw [show getL fr1 y.d = .v A.Y from hY] at this
  rw [<- hc.Y]
  generalize a1.tmps.getD y.d undef = v at this
  cases this; rfl
 have hvs : RelL C w1 (evL (ev fr1) y.args) (y.args.map a1.eval) := evL_rel fun x _ => (evG_rel x fun t _ => hi.F.get t).1
 have hvs2 := (himp C w1 hi.H).2 _ hvs
 have hIcut : ∀ b, (C.cut 0 []).I b -> I0 b \/ (W0.heap.size <= b /\ b < w1.heap.size) := fun b hb => by
  rcases hb with hb | ⟨i, c, n, _, hb⟩
  ·rcases ht.imm' b hb with h1 | (h1 | ⟨x, h1⟩) | ⟨i, c, n, _, h1⟩
   ·exact .inl h1
   ·exact .inr ⟨h1, hi.H.ilt b hb⟩
   ·cases h1
   ·cases h1
  ·rcases ht.own i b c n (Nat.zero_le _) hb with ⟨j, c', n', _, h1⟩ | h1 | ⟨x, h1⟩
   ·cases h1
   ·exact .inr ⟨h1, (hi.H.fresh _ _ _ _ hb).1⟩
   ·cases h1
 have hcx : Cext (C.cut 0 []) w1 ⟨fun _ => none, (C.cut 0 []).I, fun _ => none⟩ w1 := ⟨fun i p hp => (by
  unfold Cx.cut at hp
  simp only at hp
  split at hp
  ·rename_i hc
   exfalso
   rcases hc with hc | hc
   ·omega
   ·unfold aliveB at hc
    simp [getB] at hc
  ·cases hp), fun b hb => hb, fun _ _ => rfl⟩
 have hvs3 : RelL ⟨fun _ => none, (C.cut 0 []).I, fun _ => none⟩ w1 (A.it k) (y.args.map a1.eval) := hvs2.mono hcx
 obtain ⟨fn, tmps, asg, bd, hrun, hround⟩ := hyl hkn w1 _ _ hq hIcut hvs3
 have hsem : (o.semAt (fen none).round a1.eval).run P w1 = .ok (.round l fn tmps asg bd) w1 := by
  have e : (⟨y.args.map a1.eval⟩ : Array Value) = #[] ++ c.args.map a1.eval := by
   apply Array.ext'; simp [hargs]
  rw [e] at hrun
  have hev : a1.eval (.tmp y.d) = .func (.yield l) #[] #[] := hyv
  rw [Oper.semAt_eq _ _ _ (by intro c' hc'; rw [hop] at hc'; cases hc')]
  unfold execOp
  rw [hop]
  simp only [resolve, hcl, hev, Deferred.ofValue]
  simpa [invoke] using hrun
 have hwant : Region.wanted o (yielded ops a1.tmps) = true := by
  have := (hi.F.get y.gd).1
  rw [hg1] at this
  have hgv : a1.tmps.getD y.gd undef = .bool true := by
   generalize a1.tmps.getD y.gd undef = v at this
   cases this; rfl
  unfold Region.wanted
  rw [hgd]
  simp only
  unfold yielded
  unfold dstOf at hgdst
  split at hgdst
  ·rename_i og hog
   have : ops[gi]? = some og := by simpa using hog
   rw [Array.getD_eq_getD_getElem?] at hgv
   cases hx : a1.tmps[y.gd]? with
   | none => rw [hx] at hgv; simp [undef] at hgv
   | some v =>
     rw [hx] at hgv
     simp at hgv
     subst hgv
     simp [this, hgdst, hx]
  ·cases hgdst
 obtain ⟨m, hm⟩ : ∃ m, ops.toList.length - y.c = m + 1 := ⟨ops.toList.length - y.c - 1, by omega⟩
 rw [hm, List.range'_succ, wpOpsIn_cons]
 unfold wpOpIn
 have hao : ops[y.c]? = some o := by simpa using ho
 simp only [hao, hwant, if_true]
 refine ⟨fun _ _ => trivial, ?_⟩
 rw [hsem, Oper.uponIn_round]
 refine ⟨fun hh => by simp [fen, Fence.wide] at hh, hround.mono ?_⟩
 rintro e w2 hres
 obtain ⟨ht1, ht2⟩ := h
 simp only [setF_eq, flatK_eq] at ht1 ht2
 have hrest : ops.toList.drop (y.c + 1) = ops.toList.drop (y.c + 1) := rfl
 have hlen : (ops.toList.drop (y.c + 1)).length = m := by rw [List.length_drop]; omega
 have hkp : ∀ b : Bool, RegKept (mskO ops.toList) act (a1.put o.dst (.bool b)) := fun b => by
  have hmem : o ∈ ops.toList := List.mem_of_getElem? ho
  exact regKept_put ops.toList act o hmem _ _ hk
 have hpvs : ∀ b : Bool, ∀ t, t < A.ps.length -> (a1.put o.dst (.bool b)).tmps.getD t undef = vs0.getD t undef := fun b t h => by
  rw [(hkp b).2.1 t (hW t h), <- hk.2.1 t (hW t h)]; exact hi.pv t h
 have hF2 : ∀ b : Bool, FR [] C w1 (setL fr1 y.yd (.lb b)) (a1.put o.dst (.bool b)).tmps := fun b => by rw [hdst]; exact hi.F.put (a := .lb b) (.plain (.lb _) trivial) (some y.yd)
 have hdf : ∀ b : Bool, (a1.put o.dst (.bool b)).defers = [] := fun b => by rw [(hkp b).2.2, <- hk.2.2]; exact hi.df
 have fin : ∀ (b : Bool) (k' : Option Nat) (ps : List AV) (C2 : Cx), (runOps P S false ops.toList none (y.c + 1) (ops.toList.drop (y.c + 1)) [] (flatL ps (setL fr1 y.yd (.lb b))) [] fun fr hp => Qv fr hp k').sat R ->
   InvK P A J Jx l vs0 C2 [] (flatL ps (setL fr1 y.yd (.lb b))) k' (a1.put o.dst (.bool b)) w2 -> wpOpsIn (fen none) 0 P ops Q (List.range' (y.c + 1) m) (a1.put o.dst (.bool b)) w2 := by
  intro b k' ps C2 hs hinv
  have := inorder2 (T' := []) (all := ops.toList) hS hu (R := R) (K := fun fr hp => Qv fr hp k') (Q := Q) (ds := RegKept (mskO ops.toList) (a1.put o.dst (.bool b))) (ro := none) (rm := 0) (ops.toList.drop (y.c + 1)) (y.c + 1) [] _ [] C2 w2 (a1.put o.dst (.bool b)) rfl
   (putOK_sub (regKept_put ops.toList _) fun o ho => List.mem_of_mem_drop ho) (fun k x hx => by simp at hx) (by rw [hl0]; exact Nat.zero_le _) hinv.H hinv.F hs ⟨rfl, fun _ _ => rfl, rfl⟩ (fun fr' hp' C' w' act' h1 h2 h3 h4 h5 h6 => hgoal fr' hp' k' C' act' w' h1 (hinv.step h3 h4 (by rw [<- hl0]; exact h5) h6 hW))
  rw [hlen] at this
  simpa using this
 rcases hres with ⟨rfl, hj'⟩ | ⟨rfl, hj'⟩
 ·obtain ⟨I2, hI2, hps2, hyl2⟩ := hc.hc _ _ hj'
  have : nadd k 1 = k + 1 := by unfold nadd; rfl
  rw [this] at ht1
  refine fin true (some (k + 1)) A.ps ⟨fun _ => none, I2, fun _ => none⟩ ht1 ⟨hr_none (fun _ => rfl) (fun _ => rfl) hI2, flat_FR (hF2 true) (by rw [len_setL]; exact hi.np) hc.ng (fun t h => ?_), by rw [len_flat, len_setL]; exact hi.np, ⟨w2, I2, hj', hyl2, .refl _ _ _⟩, hpvs true, hdf true⟩
  rw [hpvs true t h]
  have h1 : A.ps[t]? = some (A.ps[t]'h) := List.getElem?_eq_getElem _
  obtain ⟨v, h2, h3⟩ := hps2.get h1
  rw [getL_eq, List.getD_eq_getElem?_getD, h1, List.getD_eq_getElem?_getD, h2]
  exact h3
 ·refine fin false none [] ⟨fun _ => none, fun _ => False, fun _ => none⟩ (ht2 () trivial) ⟨hr_none (fun _ => rfl) (fun _ => rfl) (fun b hb => hb.elim), flat_FR (hF2 false) (Nat.zero_le _) (fun t => by simp only [getL]; trivial) (fun t h => by simp at h), by rw [len_flat, len_setL]; exact hi.np, ⟨w2, fun _ => False, k, hkn, hj', .refl _ _ _⟩, hpvs false, hdf false⟩
theorem exKk_sat {lo k : Nat} {B : AK} {m : Option Nat} {fr : List AV} {R : AV -> Heap -> Prop} (h : (exKk lo B m fr hp k).sat R) : ∃ g, B.A.pre g /\ (∀ n, m = some n -> B.A.mu g < n) /\ B.kk g = k /\ LeOK lo fr hp (B.A.st g) := by
 obtain ⟨g, h1, h2, h3, h4⟩ := h
 simp only [forceL_eq, forceH_eq] at h4
 exact ⟨g, h1, fun n e => by subst e; exact h2, h3, swK_sat (s := B.A.st g) h4⟩
theorem wpK_sound (hS : SumsOK P S) (hm : P.follows .mixedOrders = true) (hl0 : S.lo = 0) (hc : KCtx P A J Jx l vs0) {R : AV -> Heap -> Prop} : ∀ (c : Code), codeK A.ps.length c = true -> ∀ (fr : List AV) (hp : Heap) (k : Option Nat) (Qv : AE -> List AV -> Heap -> Option Nat -> VC) (C : Cx) (act : Act) (w : World) (Q : Exit -> Act -> World -> Prop),
  InvK P A J Jx l vs0 C hp fr k act w -> (wpK P S A c fr hp k Qv).sat R -> (∀ e fr' hp' k' C' act' w', (Qv e fr' hp' k').sat R -> InvK P A J Jx l vs0 C' hp' fr' k' act' w' -> Q (exitOf e) act' w') -> c.wpIn (fen none) 0 P Q act w := by
 have hlo0 : ∀ hp : Heap, S.lo <= hp.length := fun hp => by rw [hl0]; exact Nat.zero_le _
 intro c
 induction c with
 | skip =>
   intro _ fr hp k Qv C act w Q hi h hgoal
   exact wpIn_skip (hgoal .normal fr hp k C act w h hi)
 | region id ops dr =>
   intro hok fr hp k Qv C act w Q hi h hgoal
   simp only [codeK, Bool.and_eq_true] at hok
   obtain ⟨hok, hW⟩ := hok
   have hW : ∀ t, t < A.ps.length -> Nat.testBit (mskO ops.toList) t = false := fun t ht => by simpa using allLt_get hW t ht
   have hds : RegKept (mskO ops.toList) act act := ⟨rfl, fun _ _ => rfl, rfl⟩
   have hput := regKept_put ops.toList act
   unfold wpK at h
   split at h
   ·rename_i hsp
    rw [hsp] at hok
    refine snd_region hS hm hok (hlo0 _) hi.H hi.F h fun fr' hp' C' w' act' h1 h2 h3 h4 h5 h6 => hgoal .normal fr' hp' k C' act' w' h1 (hi.step h3 h4 (by rw [<- hl0]; exact h5) h6 hW)
   ·rename_i y hsp
    rw [hsp] at hok
    simp only [Bool.and_eq_true] at hok
    obtain ⟨⟨⟨hu, hup⟩, huc⟩, hpc⟩ := hok
    have hpc := Nat.le_of_ble_eq_true hpc
    split at h
    case h_2 => exact h.elim
    rename_i k
    obtain ⟨o, gi, ho, hgd, hcal, hdst, hgdst, hpgi⟩ := splitG_spec hsp
    have hclt : y.c < ops.toList.length := (List.getElem?_eq_some_iff.1 ho).1
    apply wpIn_region
    have hrg : List.range ops.size = List.range' 0 y.p ++ List.range' y.p (ops.toList.length - y.p) := by
     rw [List.range_eq_range']
     have hsz : ops.size = ops.toList.length := by simp
     have : ops.size = y.p + (ops.toList.length - y.p) := by omega
     rw [this, <- List.range'_append_1]
     simp
    rw [hrg]
    have hal : ops = ops.toList.toArray := by simp
    have hgb : dstOf ops.toList gi = some y.gd := hgdst
    let P1 : Act -> World -> Prop := fun a1 w1 => ∃ C1 fr1 hp1, InvK P A J Jx l vs0 C1 hp1 fr1 (some k) a1 w1 /\ RegKept (mskO ops.toList) act a1 /\ (branchK fr1 y.gd fun b fr => (match b with
     | false => runOps P S false ops.toList none y.p (ops.toList.drop y.p) [] fr hp1 fun fr hp => Qv .normal fr hp (some k)
     | true => runOps P S false (ops.toList.take y.c) none y.p ((ops.toList.take y.c).drop y.p) [] fr hp1 fun fr hp => yldG P S A ops.toList y k fr hp fun fr hp k => Qv .normal fr hp k)).sat R
    have hds1 : RegKept (mskO (ops.toList.take y.p)) act act := ⟨rfl, fun _ _ => rfl, rfl⟩
    have hfirst := inorder2 (T' := []) (all := ops.toList.take y.p) hS hup (R := R) (Q := EndQ P1) (ds := RegKept (mskO (ops.toList.take y.p)) act) (ro := none) (rm := 0) (ops.toList.take y.p) 0 [] fr hp C w act (by simp) (regKept_put _ act) (fun k x hx => by simp at hx) (hlo0 _) hi.H hi.F h hds1
     (fun fr' hp' C' w' act' h1 h2 h3 h4 h5 h6 => ⟨rfl, C', fr', hp', hi.step h3 h4 (by rw [<- hl0]; exact h5) h6.take hW, h6.take, h1⟩)
    have hlp : (ops.toList.take y.p).length = y.p := by rw [List.length_take]; omega
    rw [hlp] at hfirst
    have key : ∀ a1 w1, P1 a1 w1 -> wpOpsIn (fen none) 0 P ops.toList.toArray Q (List.range' y.p (ops.toList.length - y.p)) a1 w1 := by
     rintro a1 w1 ⟨C1, fr1, hp1, hi1, hk1, hb⟩
     have hds2 : RegKept (mskO ops.toList) a1 a1 := ⟨rfl, fun _ _ => rfl, rfl⟩
     have no : ∀ fr2, InvK P A J Jx l vs0 C1 hp1 fr2 (some k) a1 w1 -> (runOps P S false ops.toList none y.p (ops.toList.drop y.p) [] fr2 hp1 fun fr hp => Qv .normal fr hp (some k)).sat R -> wpOpsIn (fen none) 0 P ops.toList.toArray Q (List.range' y.p (ops.toList.length - y.p)) a1 w1 := fun fr2 hi2 hs => by
      have := inorder2 (T' := []) (all := ops.toList) hS hu (R := R) (K := fun fr hp => Qv .normal fr hp (some k)) (Q := Q) (ds := RegKept (mskO ops.toList) a1) (ro := none) (rm := 0) (ops.toList.drop y.p) y.p [] fr2 hp1 C1 w1 a1 rfl
       (putOK_sub (regKept_put ops.toList _) fun o ho => List.mem_of_mem_drop ho) (fun k x hx => by simp at hx) (hlo0 _) hi2.H hi2.F hs hds2 (fun fr' hp' C' w' act' h1 h2 h3 h4 h5 h6 => hgoal .normal fr' hp' (some k) C' act' w' h1 (hi2.step h3 h4 (by rw [<- hl0]; exact h5) h6 hW))
      rwa [List.length_drop] at this
     have yes : ∀ fr2, InvK P A J Jx l vs0 C1 hp1 fr2 (some k) a1 w1 -> (runOps P S false (ops.toList.take y.c) none y.p ((ops.toList.take y.c).drop y.p) [] fr2 hp1 fun fr hp => yldG P S A ops.toList y k fr hp fun fr hp k => Qv .normal fr hp k).sat R -> wpOpsIn (fen none) 0 P ops.toList.toArray Q (List.range' y.p (ops.toList.length - y.p)) a1 w1 := fun fr2 hi2 hs => by
      have hr2 : List.range' y.p (ops.toList.length - y.p) = List.range' y.p (y.c - y.p) ++ List.range' y.c (ops.toList.length - y.c) := by
       have e1 : ops.toList.length - y.p = (y.c - y.p) + (ops.toList.length - y.c) := by omega
       rw [e1, <- List.range'_append_1]
       congr 2; omega
      rw [hr2]
      let P2 : Act -> World -> Prop := fun a2 w2 => ∃ C2 fr3 hp2, InvK P A J Jx l vs0 C2 hp2 fr3 (some k) a2 w2 /\ RegKept (mskO ops.toList) act a2 /\ (yldG P S A ops.toList y k fr3 hp2 fun fr hp k => Qv .normal fr hp k).sat R
      refine opsIn_prefix (all := ops.toList) (k := y.c) (P1 := P2) (by omega) huc (fun a2 w2 ⟨C2, fr3, hp2, hi3, hk3, hs3⟩ => ?_) _ (fun i hi => by simp [List.mem_range'] at hi; omega) a1 w1 ?_
      ·have := yield_g hS hl0 hc (Qv := fun fr hp k => Qv .normal fr hp k) hsp hu hW hi3 hk3 hs3 (Q := Q) fun fr' hp' k' C' act' w' h1 h2 => hgoal .normal fr' hp' k' C' act' w' h1 h2
       simpa using this
      ·have hds3 : RegKept (mskO (ops.toList.take y.c)) a1 a1 := ⟨rfl, fun _ _ => rfl, rfl⟩
       have := inorder2 (T' := []) (all := ops.toList.take y.c) hS huc (R := R) (K := fun fr hp => yldG P S A ops.toList y k fr hp fun fr hp k => Qv .normal fr hp k) (Q := EndQ P2) (ds := RegKept (mskO (ops.toList.take y.c)) a1) (ro := none) (rm := 0) ((ops.toList.take y.c).drop y.p) y.p [] fr2 hp1 C1 w1 a1 rfl
        (putOK_sub (regKept_put (ops.toList.take y.c) _) fun o ho => List.mem_of_mem_drop ho) (fun k x hx => by simp at hx) (hlo0 _) hi2.H hi2.F hs hds3 (fun fr' hp' C' w' act' h1 h2 h3 h4 h5 h6 => ⟨rfl, C', fr', hp', hi2.step h3 h4 (by rw [<- hl0]; exact h5) h6.take hW, ⟨h6.1.trans hk1.1, fun t ht => (h6.take.2.1 t ht).trans (hk1.2.1 t ht), h6.2.2.trans hk1.2.2⟩, h1⟩)
       rw [List.length_drop, List.length_take, Nat.min_eq_left (by omega)] at this
       exact this
     unfold branchK at hb
     have hd := (hi1.F.get y.gd).1
     split at hb
     ·exact yes fr1 hi1 hb
     ·exact no fr1 hi1 hb
     ·rename_i t hv
      rw [hv] at hd
      have hvt : a1.tmps.getD y.gd undef = .bool t := by generalize a1.tmps.getD y.gd undef = u at hd; cases hd; rfl
      cases t with
      | true =>
        have h1 := hb.1 rfl
        rw [setF_eq] at h1
        exact yes _ (hi1.known (a := .lb true) (.plain (by rw [hvt]; exact .lb _) trivial)) h1
      | false =>
        have h1 := hb.2 rfl
        rw [setF_eq] at h1
        exact no _ (hi1.known (a := .lb false) (.plain (by rw [hvt]; exact .lb _) trivial)) h1
     ·exact hb.elim
    have := opsIn_prefix (F := fen none) (n := 0) (P := P) (all := ops.toList) (k := y.p) (P1 := P1) (Q := Q) (by omega) hup key (List.range' 0 y.p) (fun i hi => by simp [List.mem_range'] at hi; omega) act w hfirst
    simpa using this
 | seq a b iha ihb =>
   intro hok fr hp k Qv C act w Q hi h hgoal
   simp only [codeK, Bool.and_eq_true] at hok
   simp only [wpK] at h
   refine wpIn_seq (iha hok.1 fr hp k _ C act w _ hi h ?_)
   intro e fr' hp' k' C' act' w' h1 h2
   cases e with
   | normal => exact ihb hok.2 fr' hp' k' Qv C' act' w' Q h2 h1 hgoal
   | exit id => exact hgoal (.exit id) fr' hp' k' C' act' w' h1 h2
   | ret => exact hgoal .ret fr' hp' k' C' act' w' h1 h2
 | cond c a b iha ihb =>
   intro hok fr hp k Qv C act w Q hi h hgoal
   simp only [codeK, Bool.and_eq_true] at hok
   simp only [wpK] at h
   split at h
   case h_2 => exact h.elim
   rename_i d
   unfold branchK at h
   have hd := (hi.F.get d).1
   split at h
   ·rename_i hv
    rw [hv] at hd
    refine wpIn_cond_true (c := .tmp d) ?_ (iha hok.1 fr hp k Qv C act w Q hi h hgoal)
    show act.tmps.getD d undef = _
    generalize act.tmps.getD d undef = u at hd; cases hd; rfl
   ·rename_i hv
    rw [hv] at hd
    refine wpIn_cond_false (c := .tmp d) ?_ (ihb hok.2 fr hp k Qv C act w Q hi h hgoal)
    show act.tmps.getD d undef = _
    generalize act.tmps.getD d undef = u at hd; cases hd; rfl
   ·rename_i t hv
    rw [hv] at hd
    have hvt : act.tmps.getD d undef = .bool t := by generalize act.tmps.getD d undef = u at hd; cases hd; rfl
    refine wpIn_cond_split (c := .tmp d) hvt (fun ht => ?_) (fun ht => ?_)
    ·have h1 := h.1 ht
     rw [setF_eq] at h1
     exact iha hok.1 _ hp k Qv C act w Q (hi.known (a := .lb true) (.plain (by rw [hvt, ht]; exact .lb _) trivial)) h1 hgoal
    ·have h1 := h.2 ht
     rw [setF_eq] at h1
     exact ihb hok.2 _ hp k Qv C act w Q (hi.known (a := .lb false) (.plain (by rw [hvt, ht]; exact .lb _) trivial)) h1 hgoal
   ·exact h.elim
 | block id c ih =>
   intro hok fr hp k Qv C act w Q hi h hgoal
   simp only [codeK] at hok
   simp only [wpK] at h
   refine wpIn_block (ih hok fr hp k _ C act w _ hi h ?_)
   intro e fr' hp' k' C' act' w' h1 h2
   cases e with
   | normal => exact hgoal .normal fr' hp' k' C' act' w' h1 h2
   | exit j =>
     simp only at h1
     show (if j = id then Q .normal act' w' else Q (.exit j) act' w')
     split at h1
     ·rename_i hj
      rw [if_pos (Nat.eq_of_beq_eq_true hj).symm]
      exact hgoal .normal fr' hp' k' C' act' w' h1 h2
     ·rename_i hj
      rw [if_neg (fun e => by subst e; simp at hj)]
      exact hgoal (.exit j) fr' hp' k' C' act' w' h1 h2
   | ret => exact hgoal .ret fr' hp' k' C' act' w' h1 h2
 | loop c ih =>
   intro hok fr hp k Qv C act w Q hi h hgoal
   simp only [codeK] at hok
   simp only [wpK] at h
   cases k with
   | none => exact h.elim
   | some k =>
     obtain ⟨h0, h3⟩ := h
     obtain ⟨B, hB⟩ : ∃ B, B = A.I fr hp := ⟨_, rfl⟩
     rw [<- hB] at h0
     have h3 : ∀ g, B.A.pre g -> (wpK P S A c (B.A.st g).fr (B.A.st g).hp (some (B.kk g)) fun e fr' hp' k' => match e with
      | .normal => (match k' with | some k' => exKk S.lo B (some (B.A.mu g)) fr' hp' k' | none => .fail)
      | e => Qv e fr' hp' k').sat R := by
      subst hB
      intro g hg
      have := h3 g hg
      simp only [forceL_eq, forceH_eq] at this
      exact this
     have enter : ∀ {fr : List AV} {hp : Heap} {g : B.A.G} {k : Nat} {C : Cx} {act : Act} {w : World}, LeOK S.lo fr hp (B.A.st g) -> B.kk g = k -> InvK P A J Jx l vs0 C hp fr (some k) act w -> ∃ C2, InvK P A J Jx l vs0 C2 (B.A.st g).hp (B.A.st g).fr (some (B.kk g)) act w := by
      intro fr hp g k C act w hle hk hi
      obtain ⟨C2, q1, q2, q3, q4⟩ := hle C w hi.H (hlo0 _)
      subst hk
      exact ⟨C2, hi.step (W := 0) q1 (q2 _ hi.F) (by rw [<- hl0]; exact q4) ⟨rfl, fun _ _ => rfl, rfl⟩ (fun t _ => by simp)⟩
     obtain ⟨g, hq, _, hk, hle⟩ := exKk_sat h0
     obtain ⟨C2, hi⟩ := enter hle hk hi
     refine wpIn_loop_ghost (fun m a w1 => ∃ g C, B.A.mu g = m /\ B.A.pre g /\ InvK P A J Jx l vs0 C (B.A.st g).hp (B.A.st g).fr (some (B.kk g)) a w1) (B.A.mu g) ⟨g, C2, rfl, hq, hi⟩ ?_
     rintro m a w1 ⟨g, C, rfl, hqg, hi⟩
     refine ih hok _ _ _ _ C a w1 _ hi (h3 g hqg) ?_
     intro e fr' hp' k' C' act' w' h1 h2
     cases e with
     | normal =>
       cases k' with
       | none => exact h1.elim
       | some k' =>
         obtain ⟨g', hq', hmu, hk', hle'⟩ := exKk_sat h1
         obtain ⟨C3, hi'⟩ := enter hle' hk' h2
         exact ⟨B.A.mu g', hmu _ rfl, g', C3, rfl, hq', hi'⟩
     | exit id => exact hgoal (.exit id) fr' hp' k' C' act' w' h1 h2
     | ret => exact hgoal .ret fr' hp' k' C' act' w' h1 h2
 | exit id =>
   intro _ fr hp k Qv C act w Q hi h hgoal
   exact wpIn_exit (hgoal (.exit id) fr hp k C act w h hi)
 | ret =>
   intro _ fr hp k Qv C act w Q hi h hgoal
   exact wpIn_ret (hgoal .ret fr hp k C act w h hi)
 | _ =>
   intro hok
   cases hok
theorem IterOK2.of (hS : SumsOK P S) (hm : P.follows .mixedOrders = true) (hl0 : S.lo = 0) {shs : List Sh} {sp : SpecI shs} {gf : FuncId} {fn : Func} {c : Code} (hf : P.funcs[gf]? = some fn) (hb : fn.body = some c) (hres : fn.results = #[]) (hok : codeK (shs.length + 1) c = true) (hany : noAny shs = true) (hn : shs.length + 1 <= fn.ntmps)
  {I : Value -> DatL shs -> List AV -> Heap -> AK} (h : ∀ Y x, sp.pre x -> (wpKF P S ⟨encL shs x, Y, sp.n x, sp.it x, I Y x⟩ fn).sat fun _ _ => True) : IterOK2 P gf (mkIt shs sp) := by
 intro caps x hx hpre lb l J Jx hJ hJx hY w h0
 unfold mkIt at hx
 simp only [okShLN_eq, decKLN_eq, canShLN_eq] at hx
 split at hx
 case h_2 => cases hx
 rename_i hsh
 rw [decKL_eq hsh] at hx
 injection hx with hx; subst hx
 obtain ⟨hp1, hp2⟩ := appP_mem hpre
 have hsp := hp2 _ (List.mem_singleton.2 rfl)
 have hcan := can_shL hsh hp1
 have hY : ∀ (k : Nat) (W : World), J k W -> ∃ I0 : Nat -> Prop, (∀ b, I0 b -> b < W.heap.size) /\ RelL ⟨fun _ => none, I0, fun _ => none⟩ W (encL shs (decL shs caps)) lb /\ _ := fun k W hj => by
  obtain ⟨I0, h1, h2, h3⟩ := hY k W hj
  exact ⟨I0, h1, encL_dec hcan h2, h3⟩
 generalize decL shs caps = x at *
 have hv := h (.func (.yield l) #[] #[]) x hsp
 refine callsIn_of_wp_marks (F := fen none) (n := 0) hf hb trivial ?_ rfl
 unfold wpKF at hv
 simp only [hb, forceL_eq] at hv
 let A : YK := ⟨encL shs x, .func (.yield l) #[] #[], sp.n x, sp.it x, I (.func (.yield l) #[] #[]) x⟩
 have hA : A.ps = .v (.func (.yield l) #[] #[]) :: encL shs x := rfl
 have hAl : A.ps.length = shs.length + 1 := by rw [hA]; simp [encL_len]
 have hng : ∀ t, notGd (getL A.ps t) := fun t => by
  rw [hA]
  cases t with
  | zero => rw [getL_zero]; trivial
  | succ t => rw [getL_succ]; exact encL_ng hany t
 generalize hvs : (.func (.yield l) #[] #[] :: lb : List Value) = vs at *
 have hc : KCtx P A J Jx l vs := ⟨hng, rfl, hJ, hJx, fun k W hj => by
  obtain ⟨I0, h1, h2, h3⟩ := hY k W hj
  exact ⟨I0, h1, by rw [<- hvs]; exact .cons _ _ _ _ (.v _) h2, h3⟩⟩
 obtain ⟨I0, hI0, hps, hyl⟩ := hc.hc 0 w h0
 have hle := hps.len
 have hpad : ∀ (l : List AV) (n : Nat), l.length <= n -> padL l n = l ++ List.replicate (n - l.length) (.tup []) := by
  intro l
  induction l with
  | nil =>
    intro n _
    induction n with
    | zero => rfl
    | succ n ih => simp only [padL, ih (by simp)]; simp [List.replicate_succ]
  | cons a l ih =>
    intro n hn
    cases n with
    | zero => simp at hn
    | succ n => simp only [padL, ih n (by simpa using hn)]; simp
 have hnl : A.ps.length <= fn.ntmps := by omega
 have hcl : A.caps.length + 1 = vs.length := hle
 have hnl' : A.caps.length + 1 <= fn.ntmps := hnl
 have hF : FR [] ⟨fun _ => none, I0, fun _ => none⟩ w (padL A.ps fn.ntmps) ((⟨vs⟩ : Array Value) ++ Array.replicate (fn.ntmps - (⟨vs⟩ : Array Value).size) undef) := by
  rw [hpad _ _ hnl]
  refine ⟨by simp; omega, fun t => ?_⟩
  rw [getL_eq, List.getD_eq_getElem?_getD, Array.getD_eq_getD_getElem?]
  by_cases ht : t < A.ps.length
  ·rw [List.getElem?_append_left ht, Array.getElem?_append_left (by simp; omega)]
   have h1 : A.ps[t]? = some (A.ps[t]'ht) := List.getElem?_eq_getElem _
   obtain ⟨v, h2, h3⟩ := hps.get h1
   rw [h1]
   simp only [List.getElem?_toArray, h2, Option.getD_some]
   refine .plain h3 ?_
   have := hng t
   rwa [getL_eq, List.getD_eq_getElem?_getD, h1] at this
  ·rw [List.getElem?_append_right (by omega), Array.getElem?_append_right (by simp; omega)]
   refine .plain ?_ ?_
   ·have e1 : ((List.replicate (fn.ntmps - A.ps.length) (AV.tup []))[t - A.ps.length]?).getD (.tup []) = .tup [] := by
     rw [List.getElem?_replicate]; split <;> rfl
    have e2 : ((Array.replicate (fn.ntmps - (⟨vs⟩ : Array Value).size) undef)[t - (⟨vs⟩ : Array Value).size]?).getD undef = undef := by
     rw [Array.getElem?_replicate]; split <;> rfl
    rw [e1, e2]
    exact .tup _ _ .nil
   ·rw [List.getElem?_replicate]; split <;> trivial
 have hplen : (padL A.ps fn.ntmps).length = fn.ntmps := by rw [hpad _ _ hnl]; simp; omega
 have hi : InvK P A J Jx l vs ⟨fun _ => none, I0, fun _ => none⟩ [] (padL A.ps fn.ntmps) (some 0) ⟨(⟨vs⟩ : Array Value) ++ Array.replicate (fn.ntmps - (⟨vs⟩ : Array Value).size) undef, []⟩ w :=
  ⟨hr_none (fun _ => rfl) (fun _ => rfl) hI0, hF, by rw [hplen]; exact hnl, ⟨w, I0, h0, hyl, .refl _ _ _⟩, fun t ht => by
   rw [Array.getD_eq_getD_getElem?, Array.getElem?_append_left (by simp; omega)]
   simp, rfl⟩
 refine wpK_sound hS hm hl0 hc c (by rw [hAl]; exact hok) _ _ _ _ _ _ w _ hi hv ?_
 intro e fr' hp' k' C' act' w' h1 h2
 have fin : (J (sp.n x) w' \/ ∃ k, k < sp.n x /\ Jx k w') -> LeavesInM (fen none) 0 P fn act'.tmps (fun e W' => (∃ v, e = .returned v) /\ (J (sp.n x) W' \/ ∃ k, k < sp.n x /\ Jx k W')) act'.defers .returning w' := by
  intro hj
  rw [h2.df]
  refine ⟨.tuple #[], ?_, ⟨_, rfl⟩, hj⟩
  simp [results, hres]
 have st := h2.st
 have done : (∀ kk, k' = some kk -> kk = sp.n x) -> (J (sp.n x) w' \/ ∃ k, k < sp.n x /\ Jx k w') := fun hk => by
  cases k' with
  | none =>
    obtain ⟨W0, I0, k, hk, hj, ht⟩ := st
    exact .inr ⟨k, hk, hJx _ _ _ hj (tr_quiet (fun _ => rfl) (fun _ => rfl) ht)⟩
  | some k' =>
    obtain ⟨W0, I0, hj, _, ht⟩ := st
    rw [<- hk _ rfl]
    exact .inl (hJ _ _ _ hj (tr_quiet (fun _ => rfl) (fun _ => rfl) ht))
 cases e with
 | exit id => exact h1.elim
 | normal =>
   refine fin (done fun kk e => ?_)
   subst e
   exact h1.1
 | ret =>
   refine fin (done fun kk e => ?_)
   subst e
   exact h1.1
end
end Abs
end Go.Proofs.Ytdfdjlijghjdaaa

namespace Go.Proofs.Ytdfdjlijghjdaaa
namespace Abs
open Go Go.RowKit
section
variable {P : Program} {S : Sums} {C C' C1 : Cx} {w w' : World} {H hp : Heap}
theorem FnJ.focus {f : FuncId} {args : List AV} {js : List Nat} {res : AV} {h1 : Heap} (hnd : nodupB js = true) (hoa : okR.okRL (fun i => memN i js) args = true) (hoh : okSub js hp js = true)
  (hor : okR (fun _ => true) res = true) (ho1 : okRH (fun _ => true) h1 = true) {m jc : Nat} (hjm : js[m]? = some jc) (hml : m + 1 = js.length) (hjc : jc < hp.length)
  (h : FnJ P f (renA.renL (posD js) args) (subH js hp js) res h1 m) :
  FnJ P f args hp (renA (outN js hp.length) res) (putH js (outN js hp.length) h1 0 (mapH (at1 jc .top) hp) ++ newH (outN js hp.length) js.length h1) jc := by
 intro C w vs hO hH ha
 have hpos : ∀ i q, memN i js = true -> C.ρ i = some q -> (⟨fun k => match js[k]? with | some i => C.ρ i | none => none, C.I, fun _ => none⟩ : Cx).ρ (posD js i) = some q := fun i q hm hq => by
  simp only [pos_mem hm]; exact hq
 have hC0 : ∀ k q, (⟨fun k => match js[k]? with | some i => C.ρ i | none => none, C.I, fun _ => none⟩ : Cx).ρ k = some q -> ∃ i, js[k]? = some i /\ C.ρ i = some q := fun k q hq => by
  simp only at hq
  split at hq
  ·rename_i i hi; exact ⟨i, hi, hq⟩
  ·cases hq
 have hH0 : HR (⟨fun k => match js[k]? with | some i => C.ρ i | none => none, C.I, fun _ => none⟩ : Cx) (subH js hp js) w := by
  refine ⟨fun k q hq => ?_, fun k k' b c n b' c' n' hq hq' hne => ?_, fun k b c n hq => ?_, hH.ilt, fun b x h => by cases h⟩
  ·obtain ⟨i, hi, hq⟩ := hC0 k q hq
   rw [getB_sub js hp js k i hi]
   exact ren_brel hpos (fun _ h => h) (hH.live i q hq) (ok_sub js hp js k i hoh hi)
  ·obtain ⟨i, hi, hq⟩ := hC0 _ _ hq
   obtain ⟨i', hi', hq'⟩ := hC0 _ _ hq'
   exact hH.inj i i' _ _ _ _ _ _ hq hq' fun e => hne (by subst e; exact nodup_inj hnd hi hi')
  ·obtain ⟨i, hi, hq⟩ := hC0 _ _ hq
   exact hH.fresh _ _ _ _ hq
 have hm0 : (⟨fun k => match js[k]? with | some i => C.ρ i | none => none, C.I, fun _ => none⟩ : Cx).ρ m = C.ρ jc := by simp only [hjm]
 refine (h _ w vs (fun _ => rfl) hH0 (ren_relL hpos (fun _ h => h) ha hoa)).mono ?_
 rintro e w' ⟨v, C1, he, h2, h3, h4⟩
 rw [len_sub] at h4
 have hlt : ∀ {i : Nat} {p : Pl}, C.ρ i = some p -> i < hp.length := fun hi => hH.lt hi
 obtain ⟨C', hC'⟩ : ∃ C' : Cx, C' = ⟨fun i => if i < hp.length then (if i = jc then C1.ρ m else C.ρ i) else C1.ρ (i - hp.length + js.length), C1.I, C1.O⟩ := ⟨_, rfl⟩
 have hI' : C'.I = C1.I := by rw [hC']
 have hO' : C'.O = C1.O := by rw [hC']
 have hold : ∀ {i : Nat}, i < hp.length -> i ≠ jc -> C'.ρ i = C.ρ i := fun hi hne => by rw [hC']; simp [hi, hne]
 have hrow : C'.ρ jc = C1.ρ m := by rw [hC']; simp [hjc]
 have hnew : ∀ {i : Nat}, hp.length <= i -> C'.ρ i = C1.ρ (i - hp.length + js.length) := fun {i} hi => by rw [hC']; show (if i < hp.length then _ else _) = _; rw [if_neg (by omega)]
 have hn1 : ∀ {i : Nat}, (i = jc \/ hp.length <= i) -> ∃ k, C'.ρ i = C1.ρ k /\ (k = m \/ js.length <= k) /\ ((i = jc /\ k = m) \/ (hp.length <= i /\ k = i - hp.length + js.length)) := fun {i} hi => by
  rcases hi with rfl | hi
  ·exact ⟨m, hrow, .inl rfl, .inl ⟨rfl, rfl⟩⟩
  ·exact ⟨_, hnew hi, .inr (by omega), .inr ⟨hi, rfl⟩⟩
 have hρ1 : ∀ k i, js[k]? = some i -> k ≠ m -> C1.ρ k = C.ρ i := fun k i hi hk => by
  rw [h4.rho k (List.getElem?_eq_some_iff.1 hi).1 hk]; simp only [hi]
 have hjk : ∀ {k i : Nat}, js[k]? = some i -> k ≠ m -> i ≠ jc := fun hi hk e => hk (by subst e; exact nodup_inj hnd hi hjm)
 have hs : SinceJ jc hp.length C w C' w' := by
  refine ⟨hjc, h4.os, h4.tape, h4.output, h4.size, fun k hk hn => h4.keep k hk fun k' b c n hq => ?_, fun b hb => by rw [hI']; exact h4.imm b hb, fun b hb => ?_, fun i hi hne => hold hi hne, fun i b c n hi hq => ?_, fun b x hb => ?_⟩
  ·obtain ⟨i, _, hq⟩ := hC0 _ _ hq
   exact hn i b c n hq
  ·rw [hI'] at hb
   rcases h4.imm' b hb with h5 | h5 | ⟨c, n, h5⟩
   ·exact .inl h5
   ·exact .inr (.inl h5)
   ·exact .inr (.inr ⟨c, n, by rw [<- hm0]; exact h5⟩)
  ·obtain ⟨k, e1, e2, _⟩ := hn1 hi
   rw [e1] at hq
   rcases h4.own k b c n e2 hq with ⟨c', n', h5⟩ | h5
   ·exact .inl ⟨c', n', by rw [<- hm0]; exact h5⟩
   ·exact .inr h5
  ·rw [hO'] at hb
   rcases h4.sub b x hb with h5 | ⟨c, n, h5⟩
   ·exact .inl h5
   ·exact .inr ⟨c, n, by rw [<- hm0]; exact h5⟩
 have hout : ∀ k q, (fun _ : Nat => true) k = true -> C1.ρ k = some q -> C'.ρ (outN js hp.length k) = some q := fun k q _ hq => by
  unfold outN
  cases hk : js[k]? with
  | some i =>
    by_cases hkm : k = m
    ·subst hkm
     rw [hjm] at hk; injection hk with hk; subst hk
     rw [hrow]; exact hq
    ·rw [hρ1 k i hk hkm] at hq
     rw [hold (hlt hq) (hjk hk hkm)]; exact hq
  | none =>
    have := List.getElem?_eq_none_iff.1 hk
    show C'.ρ (hp.length + (k - js.length)) = some q
    rw [hnew (by omega), show hp.length + (k - js.length) - hp.length + js.length = k by omega]; exact hq
 have hlen := len_put js (outN js hp.length) h1 0 (mapH (at1 jc .top) hp)
 rw [len_mapH] at hlen
 obtain ⟨ht, hx⟩ := hs.turn hH
 refine ⟨v, C', he, ⟨fun i q hi => ?_, fun i j b c n b' c' n' hi hj hne => ?_, fun i b c n hi => ?_, fun b hb => h2.ilt b (by rw [hI'] at hb; exact hb), fun b x hb => ?_⟩, ren_rel hout (fun _ h => by rw [hI']; exact h) h3 hor, hs⟩
 ·by_cases hin : i < hp.length
  ·rw [getB_eq, List.getD_eq_getElem?_getD, List.getElem?_append_left (by omega), <- List.getD_eq_getElem?_getD, <- getB_eq, getB_put _ _ _ _ _ _ (by rw [len_mapH]; exact hin), Nat.zero_add]
   cases hm : memN i js with
   | true =>
     have hk := pos_mem hm
     have hq : C1.ρ (posD js i) = some q := by
      by_cases hij : i = jc
      ·subst hij
       have : posD js i = m := nodup_inj hnd hk hjm
       rw [this, <- hrow]; exact hi
      ·have hpm : posD js i ≠ m := fun e => hij (by rw [e, hjm] at hk; injection hk with hk; exact hk.symm)
       rw [hρ1 _ _ hk hpm, <- hold hin hij]; exact hi
     exact ren_brel hout (fun _ h => by rw [hI']; exact h) (h2.live (posD js i) q hq) (okRH_get ho1)
   | false =>
     have hij : i ≠ jc := fun e => by subst e; rw [mem_get hjm] at hm; cases hm
     have hq : C.ρ i = some q := by rw [<- hold hin hij]; exact hi
     rw [getB_mapH]
     refine ((ht.brel (fun b c n e => ?_) (fun b x hb => by rw [hO b] at hb; cases hb) (hH.live i q hq))).mono hx (fun _ _ _ _ => rfl) fun b x hb => ⟨hb, rfl⟩
     subst e
     refine h4.keep b (hH.fresh _ _ _ _ hq).1 fun k b' c' n' hq' e => ?_
     obtain ⟨i', hi', hq'⟩ := hC0 _ _ hq'
     subst e
     have : i ≠ i' := fun e => by subst e; rw [mem_get hi'] at hm; cases hm
     exact hH.inj _ _ _ _ _ _ _ _ hq hq' this rfl
  ·rw [getB_eq, List.getD_eq_getElem?_getD, List.getElem?_append_right (by omega), <- List.getD_eq_getElem?_getD, <- getB_eq, hlen, getB_new]
   exact ren_brel hout (fun _ h => by rw [hI']; exact h) (h2.live _ q (by rw [<- hnew (by omega)]; exact hi)) (okRH_get ho1)
 ·have two : ∀ {i j b c n b' c' n'}, i < hp.length -> i ≠ jc -> (j = jc \/ hp.length <= j) -> C'.ρ i = some (.at b c n) -> C'.ρ j = some (.at b' c' n') -> b ≠ b' := fun {i j b c n b' c' n'} hi hne hj h5 h6 => by
   rw [hold hi hne] at h5
   rcases hs.own j b' c' n' hj h6 with ⟨c2, n2, h7⟩ | h7
   ·exact hH.inj _ _ _ _ _ _ _ _ h5 h7 hne
   ·have := (hH.fresh _ _ _ _ h5).1; omega
  by_cases hi' : i = jc \/ hp.length <= i <;> by_cases hj' : j = jc \/ hp.length <= j
  ·obtain ⟨k, e1, _, e2⟩ := hn1 hi'
   obtain ⟨k', e1', _, e2'⟩ := hn1 hj'
   rw [e1] at hi; rw [e1'] at hj
   exact h2.inj _ _ _ _ _ _ _ _ hi hj (by omega)
  ·exact fun e => two (by omega) (by omega) hi' hj hi e.symm
  ·exact two (by omega) (by omega) hj' hi hj
  ·rw [hold (by omega) (by omega)] at hi hj
   exact hH.inj _ _ _ _ _ _ _ _ hi hj hne
 ·rw [hI']
  by_cases hi' : i = jc \/ hp.length <= i
  ·obtain ⟨k, e1, _⟩ := hn1 hi'
   rw [e1] at hi
   exact h2.fresh _ _ _ _ hi
  ·rw [hold (by omega) (by omega)] at hi
   have h5 := hH.fresh _ _ _ _ hi
   refine ⟨Nat.lt_of_lt_of_le h5.1 h4.size, fun hI => ?_⟩
   rcases h4.imm' b hI with h6 | h6 | ⟨c2, n2, h6⟩
   ·exact h5.2 h6
   ·omega
   ·rw [hm0] at h6
    exact hH.inj i jc _ _ _ _ _ _ hi h6 (by omega) rfl
 ·rw [hO'] at hb
  obtain ⟨s1, s2, s3, s4⟩ := h2.sub b x hb
  refine ⟨s1, by rw [hI']; exact s2, fun i b' c n hi => ?_, s4⟩
  by_cases hi' : i = jc \/ hp.length <= i
  ·obtain ⟨k, e1, _⟩ := hn1 hi'
   rw [e1] at hi
   exact s3 _ _ _ _ hi
  ·rw [hold (by omega) (by omega)] at hi
   have h5 := hH.fresh _ _ _ _ hi
   rcases h4.sub b x hb with h6 | ⟨c2, n2, h6⟩
   ·omega
   ·rw [hm0] at h6
    exact hH.inj i jc _ _ _ _ _ _ hi h6 (by omega)
theorem FnJ.weaken {f : FuncId} {args args' : List AV} {r : AV} {H' : Heap} {j : Nat} (h : FnJ P f args' H r H' j) (hw : ∀ (C : Cx) (w : World) (vs : List Value), RelL C w args vs -> RelL C w args' vs) : FnJ P f args H r H' j :=
 fun C w vs hO hH ha => h C w vs hO hH (hw C w vs ha)
theorem FnJ.weakenH {f : FuncId} {args : List AV} {H0 : Heap} {r : AV} {H' : Heap} {j : Nat} (h : FnJ P f args H0 r H' j) (hl : H0.length = H.length) (hw : ∀ (C : Cx) (w : World) (i : Nat) (q : Pl), BRel C w q (getB H i) -> BRel C w q (getB H0 i)) : FnJ P f args H r H' j :=
 fun C w vs hO hH ha => (h C w vs hO ⟨fun i q hi => hw C w i q (hH.live i q hi), hH.inj, hH.fresh, hH.ilt, hH.sub⟩ ha).mono fun _e _w' ⟨v, C', h1, h2, h3, h4⟩ => ⟨v, C', h1, h2, h3, hl ▸ h4⟩
def FnSatJ (P : Program) (S : Sums) (U : Nat) (I : Anns) (fn : Func) (args : List AV) (H : Heap) (r : AV) (H' : Heap) : Prop :=
 (wpFT P S U I fn args H).sat fun a hp => (leS S.lo [a] hp ⟨[r], H'⟩).sat fun _ _ => True
theorem FnJ.of (hS : SumsOK P S) (hm : P.follows .mixedOrders = true) {U : Nat} {I : Anns} {f : FuncId} {fn : Func} {c : Code} (hf : P.funcs[f]? = some fn) (hb : fn.body = some c) (hok : codeOK c = true) {args : List AV} {r : AV} {H' : Heap}
  (hlo : S.lo + 1 = H.length) (hng : ∀ t, notGd (getL args t)) (hn : args.length <= fn.ntmps) (h : FnSatJ P S U I fn args H r H') : FnJ P f args H r H' S.lo := by
 intro C w vs hO hH ha
 refine (calls_wpF hS hm hf hb hok (by omega) hH ha hng hn (wpFT_sat h)).mono ?_
 rintro e w' ⟨v, a, hp', C1, he, hle, h1, h2, h3, h4⟩
 obtain ⟨h5, h6, h7, h8⟩ := leS_sat hle h2 h1
 have h9 : Rel (C1.cut S.lo H') w' r v := by
  unfold leS at hle
  unfold leL at hle
  exact ((leA_sat hle).2 C1 w' h2 v h3).1
 have t := h4.trans h8
 have hj : ∀ {i b c n}, S.lo <= i -> C.ρ i = some (.at b c n) -> i = S.lo := fun hi hq => by have := hH.lt hq; omega
 refine ⟨v, _, he, h5, h9, by omega, t.os, t.tape, t.output, t.size, fun k hk hn => t.keep k hk hn (hO k), t.imm, fun b hb => ?_, fun i hi hne => t.rho i (by omega), fun i b c n hi hq => ?_, fun b x hb => ?_⟩
 ·rcases t.imm' b hb with h | (h | ⟨x, h⟩) | ⟨i, c, n, hi, hq⟩
  ·exact .inl h
  ·exact .inr (.inl h)
  ·rw [hO b] at h; cases h
  ·obtain rfl := hj hi hq
   exact .inr (.inr ⟨c, n, hq⟩)
 ·rcases t.own i b c n (by omega) hq with ⟨j, c', n', hj', hq'⟩ | h | ⟨x, h⟩
  ·obtain rfl := hj hj' hq'
   exact .inl ⟨c', n', hq'⟩
  ·exact .inr h
  ·rw [hO b] at h; cases h
 ·rcases t.sub b x hb with ⟨y, h⟩ | h | ⟨i, c, n, hi, hq⟩
  ·rw [hO b] at h; cases h
  ·exact .inl h
  ·obtain rfl := hj hi hq
   exact .inr ⟨c, n, hq⟩
end
noncomputable section
def isRowB : Blk -> Bool
 | .row _ _ _ _ => true
 | _ => false
def rowsN (hp : Heap) : List Nat -> List Nat
 | [] => []
 | j :: l => (match isRowB (getB hp j) with | true => j :: rowsN hp l | false => rowsN hp l)
def restN (hp : Heap) (r : List Nat) : List Nat -> List Nat
 | [] => r
 | j :: l => (match isRowB (getB hp j) with | true => restN hp r l | false => j :: restN hp r l)
def lastN : List Nat -> Nat
 | [] => 0
 | j :: l => (match l with | [] => j | _ => lastN l)
def mkSumJ (obs : List OB) (shs : List Sh) (sp : SpecF obs shs) : Summ2 := fun args hp =>
 forceN (addJ [] (refsA_refsLN args)) fun j1 => forceN (addJ j1 (refsH hp j1)) fun j2 => forceN (restN hp (rowsN hp j2) j2) fun js =>
 match nodupB js && okR_okRLN (fun i => memN i js) args && okSub js hp js && okHB obs (subH js hp js) && okShLN shs (renA_renLN (posD js) args) && (Nat.blt 0 js.length && Nat.blt (lastN js) hp.length) with
 | true => decHK obs (subH js hp js) fun o => decKLN shs (renA_renLN (posD js) args) fun x =>
   (match okRN (fun _ => true) (sp.res o x) && okRH (fun _ => true) (sp.after o x) with
   | true => some ⟨appP (canHB obs (subH js hp js)) (appP (canShLN shs (renA_renLN (posD js) args)) [⟨fun z : DatH obs × DatL shs => sp.pre z.1 z.2, (o, x)⟩]),
     renAN (outN js hp.length) (sp.res o x), putH js (outN js hp.length) (sp.after o x) 0 (mapH (at1 (lastN js) .top) hp) ++ newH (outN js hp.length) js.length (sp.after o x), some (lastN js)⟩
   | false => none)
 | false => none
end
section
variable {P : Program} {S : Sums}
theorem lastN_get : ∀ {js : List Nat}, 0 < js.length -> js[js.length - 1]? = some (lastN js)
 | [], h => by simp at h
 | [j], _ => rfl
 | j :: k :: l, _ => by
   have := lastN_get (js := k :: l) (by simp)
   simpa [lastN] using this
def FnSpecJ (P : Program) (f : FuncId) (obs : List OB) (shs : List Sh) (sp : SpecF obs shs) : Prop :=
 ∀ o x, sp.pre o x -> FnJ P f (encL shs x) (encH obs o) (sp.res o x) (sp.after o x) (obs.length - 1)
theorem mkSumJ_ok {f : FuncId} {obs : List OB} {shs : List Sh} {sp : SpecF obs shs} (h : FnSpecJ P f obs shs sp) : Summ2OK P f (mkSumJ obs shs sp) := by
 intro args hp pre res hp' mv hm hpre
 unfold mkSumJ at hm
 simp only [okShLN_eq, decKLN_eq, canShLN_eq, okR_okRLN_eq, okRN_eq, renA_renLN_eq, renAN_eq, refsA_refsLN_eq] at hm
 rw [forceN_eq, forceN_eq, forceN_eq] at hm
 generalize restN hp _ _ = js at hm
 split at hm
 ·rename_i hok
  simp only [Bool.and_eq_true] at hok
  obtain ⟨⟨⟨⟨⟨h1, h2⟩, h3⟩, h4⟩, h5⟩, hjl, hjc⟩ := hok
  have hjl : 0 < js.length := by simpa [Nat.blt_eq] using hjl
  have hjc : lastN js < hp.length := by simpa [Nat.blt_eq] using hjc
  have hlen : obs.length = js.length := by
   have := len_encH h4
   rw [encH_len, len_sub] at this
   exact this
  rw [decHK_eq h4, decKL_eq h5] at hm
  split at hm
  ·rename_i h6
   simp only [Bool.and_eq_true] at h6
   injection hm with hm; injection hm with e1 e2 e3 e4
   subst e1 e2 e3 e4
   obtain ⟨h7, h8⟩ := appP_mem hpre
   obtain ⟨h9, h10⟩ := appP_mem h8
   have := h _ _ (h10 _ (List.mem_singleton.2 rfl))
   rw [hlen] at this
   refine FnJ.focus h1 h2 h3 h6.1 h6.2 (lastN_get hjl) (by omega) hjc ?_
   exact (this.weakenH (len_encH h4) fun C w i q => enc_decH h4 h7 i).weaken fun C w vs ha => encL_dec (can_shL h5 h9) ha
  ·cases hm
 ·cases hm
theorem FnSpecJ.of {one : List (Nat × Summ)} {two : List (Nat × Summ2)} {lo : Nat} {eqs : List (Nat × List (Option IntKind))} {its : List (Nat × Iter)} {imm : List Nat} (hS : SumsOK P ⟨one, two, lo, eqs, its, imm⟩) (hm : P.follows .mixedOrders = true) {obs : List OB} {shs : List Sh} {U : Nat} {I : DatH obs -> DatL shs -> Anns} {f : FuncId} {fn : Func} {c : Code} (hf : P.funcs[f]? = some fn) (hb : fn.body = some c) (hok : codeOK c = true) {sp : SpecF obs shs}
  (hany : noAny shs = true) (hn : shs.length <= fn.ntmps) (ho : 0 < obs.length) (h : ∀ o x, sp.pre o x -> FnSatJ P ⟨one, two, obs.length - 1, eqs, its, imm⟩ U (I o x) fn (encL shs x) (encH obs o) (sp.res o x) (sp.after o x)) : FnSpecJ P f obs shs sp :=
 fun o x hx => FnJ.of (hS.setLo (obs.length - 1)) hm hf hb hok (by rw [encH_len]; show obs.length - 1 + 1 = _; omega) (encL_ng hany) (by rw [encL_len]; exact hn) (h o x hx)
end
end Abs
end Go.Proofs.Ytdfdjlijghjdaaa

namespace Go.Proofs.Ytdfdjlijghjdaaa
namespace Abs
open Go Go.RowKit
@[reducible] def ndCells : List Sh := [.int .i64, spansSh, .int .i64]
structure Nd where
 s : Int
 b : Bx
 v : Int
@[irreducible] def Nd.slot (x : Nd) : Int := x.s
@[irreducible] def Nd.box (x : Nd) : Bx := x.b
@[irreducible] def Nd.val (x : Nd) : Int := x.v
@[simp] theorem Nd.slot_mk (s : Int) (b : Bx) (v : Int) : (Nd.mk s b v).slot = s := by unfold Nd.slot; rfl
@[simp] theorem Nd.box_mk (s : Int) (b : Bx) (v : Int) : (Nd.mk s b v).box = b := by unfold Nd.box; rfl
@[simp] theorem Nd.val_mk (s : Int) (b : Bx) (v : Int) : (Nd.mk s b v).val = v := by unfold Nd.val; rfl
abbrev NdD := Int × (Nat × (Nat -> Int × Int × Unit)) × Int × Unit
@[reducible] def ndD (x : Nd) : NdD := (x.slot, (x.box.len, fun k => (x.box.lo k, x.box.hi k, ())), x.val, ())
@[irreducible] def ndOf (x : NdD) : Nd := ⟨x.1, bxOf x.2.1, x.2.2.1⟩
@[simp] theorem ndOf_mk (x : Nd) : ndOf (x.slot, (x.box.len, fun k => (x.box.lo k, x.box.hi k, ())), x.val, ()) = x := by unfold ndOf Nd.slot Nd.box Nd.val; simp
@[simp] theorem ndOf_D (x : Nd) : ndOf (ndD x) = x := ndOf_mk x
theorem nd_ex (x : DatL ndCells) : ∃ y : Nd, x = ndD y := ⟨ndOf x, by unfold ndD ndOf Nd.slot Nd.box Nd.val bxOf Bx.len Bx.lo Bx.hi; rfl⟩
theorem nds_ex (x : Nat -> DatL ndCells) : ∃ y : Nat -> Nd, x = fun k => ndD (y k) := ⟨fun k => ndOf (x k), by funext k; show x k = ndD (ndOf (x k)); obtain ⟨y, h⟩ := nd_ex (x k); rw [h, ndOf_D]⟩
@[irreducible] def kLo (b : Bx) (j : Nat) : Int := if j < b.len then b.lo j else 0
@[irreducible] def kHi (b : Bx) (j : Nat) : Int := if j < b.len then b.hi j else 0
@[simp] theorem cpI_lo (b : Bx) (j : Nat) : cpI b.len j (b.lo j) 0 = kLo b j := by unfold cpI kLo; rfl
@[simp] theorem cpI_hi (b : Bx) (j : Nat) : cpI b.len j (b.hi j) 0 = kHi b j := by unfold cpI kHi; rfl
@[reducible] def kyL (s : Int) (b : Bx) : List AV := [.si .i64 s, .si .i64 (kLo b 0), .si .i64 (kHi b 0), .si .i64 (kLo b 1), .si .i64 (kHi b 1), .si .i64 (kLo b 2), .si .i64 (kHi b 2)]
def keyS : Spec [.int .i64, spansSh] := ⟨fun (_, b, _) => b.1 <= maxLen, fun (s, b, _) => .agg (kyL s (bxOf b))⟩
set_option maxRecDepth 100000 in
theorem key_ok : FnSpec Try.prog 33 _ keyS := by
 refine FnSpec.of SM1_ok mixed (U := 0) (I := fun _ => []) Try.func33 rfl (by kernel_rfl) rfl rfl (by decide +kernel) ?_
 rintro ⟨(s : Int), b, ⟨⟩⟩ hpre
 obtain ⟨b, rfl⟩ := bx_ex b
 have hpre : b.len <= maxLen := hpre
 unfold FnSat
 conv => arg 2; reduce
 simp [keyS]
@[irreducible] def kyE (y : Nd) (s : Int) (b : Bx) : Bool := decide (s = y.slot) && (decide (kLo b 0 = kLo y.box 0) && (decide (kHi b 0 = kHi y.box 0) && (decide (kLo b 1 = kLo y.box 1) && (decide (kHi b 1 = kHi y.box 1) && (decide (kLo b 2 = kLo y.box 2) && decide (kHi b 2 = kHi y.box 2))))))
@[irreducible] def fdN (nd : Nat -> Nd) (s : Int) (b : Bx) (n : Nat) : Nat := firstN (fun k => kyE (nd k) s b) n
@[irreducible] def fdB (nd : Nat -> Nd) (s : Int) (b : Bx) (n : Nat) : Bool := decide (fdN nd s b n < n)
@[irreducible] def fdV (nd : Nat -> Nd) (s : Int) (b : Bx) (n : Nat) : Int := if fdN nd s b n < n then (fdN nd s b n : Int) else 0
@[reducible] def ixL (y : Nd) (k : Nat) : List AV := [.si .i64 y.slot, .si .i64 (kLo y.box 0), .si .i64 (kHi y.box 0), .si .i64 (kLo y.box 1), .si .i64 (kHi y.box 1), .si .i64 (kLo y.box 2), .si .i64 (kHi y.box 2), .si .i64 (icast k)]
theorem keyQ_ix (nd : Nat -> Nd) (s : Int) (b : Bx) : keyQ (fun k => ixL (nd k) k) 7 (kyL s b) = fun k => kyE (nd k) s b := by
 funext k
 unfold keyQ kyE
 simp [takeL, eqCells, eqC, eqA, eqI, kindOf, intOf]
 rfl
theorem fst_first (q : Nat -> Bool) (n : Nat) : fstN q n = firstN q n := (firstN_uniq (fst_le q n) (fun j hj => fst_not j hj) (fun h => fst_lt h)).symm
@[simp] theorem lkB_ix (nd : Nat -> Nd) (s : Int) (b : Bx) (n : Nat) : lkB n (keyQ (fun k => ixL (nd k) k) 7 (kyL s b)) = fdB nd s b n := by
 unfold lkB fdB fdN
 rw [keyQ_ix, fst_first, Bool.eq_iff_iff, Nat.blt_eq, decide_eq_true_iff]
@[simp] theorem lkV_ix (nd : Nat -> Nd) (s : Int) (b : Bx) (n : Nat) : lkV n (keyQ (fun k => ixL (nd k) k) 7 (kyL s b)) (valQ (fun k => ixL (nd k) k) 7) = fdV nd s b n := by
 unfold lkV fdV fdN
 rw [keyQ_ix, fst_first]
 by_cases h : firstN (fun k => kyE (nd k) s b) n < n
 ·rw [if_pos h, show Nat.blt (firstN (fun k => kyE (nd k) s b) n) n = true by rw [Nat.blt_eq]; exact h]
  unfold valQ
  simp [getL, intOf]
 ·rw [if_neg h]
  have : Nat.blt (firstN (fun k => kyE (nd k) s b) n) n = false := by
   cases hb : Nat.blt (firstN (fun k => kyE (nd k) s b) n) n with
   | false => rfl
   | true => exact absurd (by rwa [Nat.blt_eq] at hb) h
  rw [this]
theorem icast_eq' (k : Nat) : icast k = (k : Int) := by unfold icast; rfl
@[simp] theorem lkB_ix' (nd : Nat -> Nd) (s : Int) (b : Bx) (n : Nat) : lkB n (keyQ (fun k => [.si .i64 (nd k).slot, .si .i64 (kLo (nd k).box 0), .si .i64 (kHi (nd k).box 0), .si .i64 (kLo (nd k).box 1), .si .i64 (kHi (nd k).box 1), .si .i64 (kLo (nd k).box 2), .si .i64 (kHi (nd k).box 2), .si .i64 (k : Int)]) 7 (kyL s b)) = fdB nd s b n := by
 have := lkB_ix nd s b n
 simp only [ixL, icast_eq'] at this
 exact this
@[simp] theorem lkV_ix' (nd : Nat -> Nd) (s : Int) (b : Bx) (n : Nat) : lkV n (keyQ (fun k => [.si .i64 (nd k).slot, .si .i64 (kLo (nd k).box 0), .si .i64 (kHi (nd k).box 0), .si .i64 (kLo (nd k).box 1), .si .i64 (kHi (nd k).box 1), .si .i64 (kLo (nd k).box 2), .si .i64 (kHi (nd k).box 2), .si .i64 (k : Int)]) 7 (kyL s b))
  (valQ (fun k => [.si .i64 (nd k).slot, .si .i64 (kLo (nd k).box 0), .si .i64 (kHi (nd k).box 0), .si .i64 (kLo (nd k).box 1), .si .i64 (kHi (nd k).box 1), .si .i64 (kLo (nd k).box 2), .si .i64 (kHi (nd k).box 2), .si .i64 (k : Int)]) 7) = fdV nd s b n := by
 have := lkV_ix nd s b n
 simp only [ixL, icast_eq'] at this
 exact this
@[simp] theorem ky_ok (a b c d e f g h : Int) : okKs [some .i64, some .i64, some .i64, some .i64, some .i64, some .i64, some .i64] (takeL [.si .i64 a, .si .i64 b, .si .i64 c, .si .i64 d, .si .i64 e, .si .i64 f, .si .i64 g, .si .i64 h] 7) = true := rfl
@[simp] theorem ky_val (a b c d e f g h : Int) : getL [.si .i64 a, .si .i64 b, .si .i64 c, .si .i64 d, .si .i64 e, .si .i64 f, .si .i64 g, .si .i64 h] 7 = .si .i64 h := rfl
@[irreducible] def adN (nd : Nat -> Nd) (n : Nat) (x : Nd) : Nat := if fdB nd x.slot x.box n = true then n else n + 1
@[irreducible] def adE (nd : Nat -> Nd) (n : Nat) (x : Nd) (k : Nat) : Nd := if k < n then nd k else x
theorem adN_no {nd : Nat -> Nd} {n : Nat} {x : Nd} (h : fdB nd x.slot x.box n = false) : adN nd n x = n + 1 := by unfold adN; simp [h]
theorem adN_yes {nd : Nat -> Nd} {n : Nat} {x : Nd} (h : fdB nd x.slot x.box n = true) : adN nd n x = n := by unfold adN; simp [h]
theorem adE_lt {nd : Nat -> Nd} {n : Nat} {x : Nd} {k : Nat} (h : k < n) : adE nd n x k = nd k := by unfold adE; simp [h]
theorem adE_at {nd : Nat -> Nd} {n : Nat} {x : Nd} : adE nd n x n = x := by unfold adE; simp
@[reducible] def kyCells : List Sh := [.int .i64, .int .i64, .int .i64, .int .i64, .int .i64, .int .i64, .int .i64, .int .i64]
@[reducible] def ixD (y : Nd) (k : Nat) : DatL kyCells := (y.slot, kLo y.box 0, kHi y.box 0, kLo y.box 1, kHi y.box 1, kLo y.box 2, kHi y.box 2, icast k, ())
@[reducible] def sysCs : List Sh := [spansSh, spansSh, .slice 3 modeCells, .slice 1 [spansSh]]
@[reducible] def grSh (r m : Nat) : List Sh := [spansSh, spansSh, .slice 3 modeCells, .slice 1 [spansSh], .rowr r, .mpr m]
@[reducible] def grL (s : Sys) (r m : Nat) : List AV := [.slc (.sym s.lim.len) 2 (fun k => [.si .i64 (s.lim.lo k), .si .i64 (s.lim.hi k)]), .slc (.sym s.st.len) 2 (fun k => [.si .i64 (s.st.lo k), .si .i64 (s.st.hi k)]),
 .slc (.sym s.nmd) 3 (fun k => [.si .i64 (s.md k).cost, .slc (.sym (s.md k).nsh) 1 (fun j => [.si .i64 ((s.md k).sh j)]), .slc (.sym (s.md k).nfl) 3 (fun j => [.si .i64 ((s.md k).ff j), .si .i64 ((s.md k).ft j), .si .i64 ((s.md k).fp j)])]),
 .slc (.sym s.nld) 1 (fun k => [.slc (.sym (s.ld k).len) 2 (fun j => [.si .i64 ((s.ld k).lo j), .si .i64 ((s.ld k).hi j)])]), .row r, .mp m]
@[reducible] def ndL (y : Nd) : List AV := [.si .i64 y.slot, .slc (.sym y.box.len) 2 (fun k => [.si .i64 (y.box.lo k), .si .i64 (y.box.hi k)]), .si .i64 y.val]
abbrev GrD := (Nat × (Nat -> Int × Int × Unit)) × (Nat × (Nat -> Int × Int × Unit)) × (Nat × (Nat -> MoD)) × (Nat × (Nat -> (Nat × (Nat -> Int × Int × Unit)) × Unit)) × Unit × Unit × Unit
@[irreducible] def grOf (g : GrD) : Sys := sysOf (g.1, g.2.1, g.2.2.1, g.2.2.2.1, ())
@[reducible] def grD (s : Sys) : GrD := ((sysD s).1, (sysD s).2.1, (sysD s).2.2.1, (sysD s).2.2.2.1, (), (), ())
@[simp] theorem grOf_D (s : Sys) : grOf (grD s) = s := by
 unfold grOf grD
 exact sysOf_D s
@[simp] theorem grOf_mk (s : Sys) : grOf ((s.lim.len, fun k => (s.lim.lo k, s.lim.hi k, ())), (s.st.len, fun k => (s.st.lo k, s.st.hi k, ())),
  (s.nmd, fun k => ((s.md k).cost, ((s.md k).nsh, fun j => ((s.md k).sh j, ())), ((s.md k).nfl, fun j => ((s.md k).ff j, (s.md k).ft j, (s.md k).fp j, ())), ())),
  (s.nld, fun k => (((s.ld k).len, fun j => ((s.ld k).lo j, (s.ld k).hi j, ())), ())), (), (), ()) = s := grOf_D s
theorem gr_ex {r m : Nat} (g : DatL (grSh r m)) : ∃ s : Sys, g = grD s := by
 obtain ⟨g1, g2, g3, g4, ⟨⟩, ⟨⟩, ⟨⟩⟩ := g
 obtain ⟨s, hs⟩ := sys_ex (g1, g2, g3, g4, ())
 refine ⟨s, ?_⟩
 unfold grD
 rw [<- hs]
@[reducible] def adO : List OB := [.cells 64 (grSh 2 1), .tab 7 kyCells, .row 31 3 ndCells]
@[reducible] def grH (s : Sys) (n : Nat) (nd : Nat -> Nd) : Heap := [.cells 64 (grL s 2 1), .tab (.sym n) 7 (fun k => ixL (nd k) k), .row 31 3 (.sym n) (fun k => ndL (nd k))]
def adF : SpecF adO [.own 0 0, .agg ndCells] := ⟨fun (_, (m, te), (n, el), _) (_, x, _) => n <= 6000 /\ (ndOf x).box.len <= maxLen /\ m = n /\ te = fun k => ixD (ndOf (el k)) k, fun _ _ => .tup [],
 fun (g, _, (n, el), _) (_, x, _) => grH (grOf g) (adN (fun k => ndOf (el k)) n (ndOf x)) (adE (fun k => ndOf (el k)) n (ndOf x))⟩
def keyKs : List (Option IntKind) := [some .i64, some .i64, some .i64, some .i64, some .i64, some .i64, some .i64]
def eqsG : List (Nat × List (Option IntKind)) := [(69, keyKs), (48, spanKs)]
theorem eqsG_ok : ∀ t ks, findS eqsG t = some ks -> EqOK Try.prog t ks := by
 intro t ks h
 unfold eqsG at h
 simp only [findS] at h
 split at h
 ·rename_i e
  obtain rfl := Nat.eq_of_beq_eq_true e
  injection h with h; subst h
  exact EqOK.of 5 (by decide) (by kernel_rfl) (by kernel_rfl) (by kernel_rfl)
 ·split at h
  ·rename_i e
   obtain rfl := Nat.eq_of_beq_eq_true e
   injection h with h; subst h
   exact EqOK.of 3 (by decide) (by kernel_rfl) (by kernel_rfl) (by kernel_rfl)
  ·cases h
noncomputable def SYa0 : Sums := ⟨SM1.one, SM1.two, SM1.lo, eqsG, SM1.its, [31]⟩
theorem SYa0_ok : SumsOK Try.prog SYa0 := (SM1_ok.setEqs eqsG_ok).setImm _
noncomputable def SYa1 : Sums := ⟨(33, mkSum _ keyS) :: SYa0.one, SYa0.two, SYa0.lo, SYa0.eqs, SYa0.its, SYa0.imm⟩
theorem SYa1_ok : SumsOK Try.prog SYa1 := (SYa0_ok.cons Try.func33 (by kernel_rfl) (by kernel_rfl) key_ok)
end Abs
end Go.Proofs.Ytdfdjlijghjdaaa

namespace Go.Proofs.Ytdfdjlijghjdaaa
namespace Abs
open Go Go.RowKit
set_option maxRecDepth 100000 in
theorem add_ok : FnSpecJ Try.prog 32 _ _ adF := by
 refine FnSpecJ.of SYa1_ok mixed (U := 0) (I := fun _ _ => []) Try.func32 rfl (by kernel_rfl) (sp := adF) rfl (by decide +kernel) (by decide) ?_
 rintro ⟨g, ⟨m, te⟩, ⟨n, el⟩, ⟨⟩⟩ ⟨⟨⟩, x, ⟨⟩⟩ ⟨hn, hx, rfl, rfl⟩
 obtain ⟨x, rfl⟩ := nd_ex x
 obtain ⟨nd, rfl⟩ := nds_ex el
 obtain ⟨s, rfl⟩ := gr_ex g
 simp only [ndOf_D] at hx hn ⊢
 unfold FnSatJ
 conv => arg 2; reduce
 simp [adF, keyS, encH, encB, ElEq, aliveB, getB, goneB, maxRow, and_assoc]
 have en : (fun k => nd k) = nd := rfl
 refine ⟨hx, fun h => ?_, fun h => ?_⟩
 ·rw [en, adN_no h]
  refine ⟨h, by omega, rfl, fun j hj => ?_, rfl, fun j hj => ?_⟩
  ·rw [catE_eq]
   by_cases e : j < m
   ·rw [if_pos e, adE_lt e]; rfl
   ·obtain rfl : j = m := by omega
    rw [if_neg e, adE_at]; rfl
  ·rw [catE_eq]
   by_cases e : j < m
   ·rw [if_pos e, adE_lt e]; rfl
   ·obtain rfl : j = m := by omega
    rw [if_neg e, adE_at, Nat.sub_self]; rfl
 ·rw [en, adN_yes h]
  refine ⟨rfl, fun j hj => ?_, rfl, fun j hj => ?_⟩
  ·rw [adE_lt hj]; exact ⟨rfl, rfl, rfl, rfl, rfl, rfl, rfl⟩
  ·rw [adE_lt hj]; exact ⟨rfl, rfl, rfl, rfl⟩
end Abs
end Go.Proofs.Ytdfdjlijghjdaaa

namespace Go.Proofs.Ytdfdjlijghjdaaa
namespace Abs
open Go Go.RowKit
def cntP (p : Nat -> Bool) : Nat -> Nat
 | 0 => 0
 | n + 1 => cntP p n + (if p n = true then 1 else 0)
theorem cntP_zero (p : Nat -> Bool) : cntP p 0 = 0 := rfl
theorem cntP_succ (p : Nat -> Bool) (n : Nat) : cntP p (n + 1) = cntP p n + (if p n = true then 1 else 0) := rfl
attribute [irreducible] cntP
theorem cntP_yes {p : Nat -> Bool} {n : Nat} (h : p n = true) : cntP p (n + 1) = cntP p n + 1 := by rw [cntP_succ, if_pos h]
theorem cntP_no {p : Nat -> Bool} {n : Nat} (h : p n = false) : cntP p (n + 1) = cntP p n := by rw [cntP_succ, h]; simp
theorem cntP_mono {p : Nat -> Bool} {m : Nat} : ∀ {n : Nat}, m <= n -> cntP p m <= cntP p n
 | 0, h => by obtain rfl : m = 0 := by omega
              exact Nat.le_refl _
 | n + 1, h => by
   rcases Nat.lt_or_ge m (n + 1) with h1 | h1
   ·have := cntP_mono (p := p) (show m <= n by omega)
    rw [cntP_succ]; omega
   ·obtain rfl : m = n + 1 := by omega
    exact Nat.le_refl _
@[irreducible] def selN (p : Nat -> Bool) (n j : Nat) : Nat := firstN (fun g => decide (cntP p (g + 1) = j + 1)) n
theorem selN_at {p : Nat -> Bool} {n i : Nat} (hi : i < n) (h : p i = true) : selN p n (cntP p i) = i := by
 unfold selN
 refine firstN_uniq (by omega) (fun j hj => ?_) (fun _ => by simp [cntP_yes h])
 have := cntP_mono (p := p) (show j + 1 <= i by omega)
 simp; omega
theorem selN_ex {p : Nat -> Bool} : ∀ {n j : Nat}, j < cntP p n -> ∃ i, i < n /\ p i = true /\ cntP p i = j
 | 0, j, h => by rw [cntP_zero] at h; omega
 | n + 1, j, h => by
   by_cases hj : j < cntP p n
   ·obtain ⟨i, h1, h2, h3⟩ := selN_ex hj
    exact ⟨i, by omega, h2, h3⟩
   ·cases hp : p n with
    | true => rw [cntP_yes hp] at h; exact ⟨n, by omega, hp, by omega⟩
    | false => rw [cntP_no hp] at h; omega
theorem selN_spec {p : Nat -> Bool} {n j : Nat} (h : j < cntP p n) : selN p n j < n /\ p (selN p n j) = true /\ cntP p (selN p n j) = j := by
 obtain ⟨i, h1, h2, h3⟩ := selN_ex h
 subst h3
 rw [selN_at h1 h2]
 exact ⟨h1, h2, rfl⟩
theorem cntP_lt {p : Nat -> Bool} {n i : Nat} (hi : i < n) (h : p i = true) : cntP p i < cntP p n := by
 have := cntP_mono (p := p) (show i + 1 <= n by omega)
 rw [cntP_yes h] at this; omega
@[irreducible] def wyB (s : Sys) (y : Nd) (k : Nat) : Bool := inV s.lim (adV s y.slot k y.box)
@[irreducible] def wyN (s : Sys) (y : Nd) : Nat := if y.slot < s.nld then cntP (wyB s y) s.nmd else 0
@[irreducible] def wyM (s : Sys) (y : Nd) (j : Nat) : Nat := selN (wyB s y) s.nmd j
structure WyOK (s : Sys) (y : Nd) : Prop where
 ch : checkB s = true
 sl : 0 <= y.slot
 ln : y.box.len = s.lim.len
 nr : nearV y.box 1073741824 = true
@[reducible] def wySh : List Sh := [.ptr ndCells, .ptr [.ptr sysCs]]
def wyI : SpecI wySh := ⟨fun (x, (g, _), _) => SysMax (sysOf g) /\ WyOK (sysOf g) (ndOf x), fun (x, (g, _), _) => wyN (sysOf g) (ndOf x),
 fun (x, (g, _), _) j => [.si .i64 (icast (wyM (sysOf g) (ndOf x) j)), .slc (.sym (ndOf x).box.len) 2 (fun k => [.si .i64 ((adV (sysOf g) (ndOf x).slot (icast (wyM (sysOf g) (ndOf x) j)) (ndOf x).box).lo k), .si .i64 ((adV (sysOf g) (ndOf x).slot (icast (wyM (sysOf g) (ndOf x) j)) (ndOf x).box).hi k)])]⟩
noncomputable def wyA (_Y : Value) : DatL wySh -> List AV -> Heap -> AK := fun (x, (g, _), _) fr hp =>
 ⟨⟨Nat, fun i => ⟨frI [.k 3, .t 17, .k 1, .s (.si .i64 (icast i)), .t 26] fr, hp⟩, Nat × Nat, fun i => (i, g.2.2.1.1), fun (i, n) => i <= n, fun i => nsub g.2.2.1.1 i⟩, fun i => cntP (wyB (sysOf g) (ndOf x)) i⟩
noncomputable def SYc0 : Sums := ⟨SYa1.one, (32, mkSumJ _ _ adF) :: SYa1.two, SYa1.lo, SYa1.eqs, SYa1.its, SYa1.imm⟩
theorem SYc0_ok : SumsOK Try.prog SYc0 := SYa1_ok.addTwo Try.func32 (by kernel_rfl) (by kernel_rfl) (mkSumJ_ok add_ok)
set_option maxRecDepth 100000 in
theorem ways_it : IterOK2 Try.prog 56 (mkIt wySh wyI) := by
 refine IterOK2.of SYc0_ok mixed rfl Try.func56 rfl rfl (by kernel_rfl) rfl (by decide +kernel) (I := wyA) ?_
 rintro Y ⟨x, ⟨g, ⟨⟩⟩, ⟨⟩⟩ ⟨hm, hw⟩
 obtain ⟨x, rfl⟩ := nd_ex x
 obtain ⟨s, rfl⟩ := sys_ex g
 conv => arg 2; reduce
 simp [wyA, unitA, ElEq, insS, advS, and_assoc]
 have hm : SysMax s := by rwa [sysOf_D] at hm
 have hw : WyOK s x := by rwa [sysOf_D, ndOf_D] at hw
 have c := checkB_iff.1 hw.ch
 have hN : x.slot < s.nld -> wyN s x = cntP (wyB s x) s.nmd := fun h => by unfold wyN; rw [if_pos h]
 refine ⟨fun h => ?_, fun h => ⟨⟨0, by rw [cntP_zero], rfl, by omega⟩, fun g hg => ⟨fun hlt => ?_, fun hge => ?_⟩⟩⟩
 ·unfold wyN; rw [if_neg (by omega)]
 ·refine ⟨adOK_of hw.ch hw.sl h (by omega) (by omega) hw.ln hw.nr, by rw [hw.ln]; exact Nat.le_refl _, by unfold maxLen; have := hw.ln; omega, c.2.2.2.2.2.1, fun hi => ?_, fun hi => ?_⟩
  ·have hb : wyB s x g = true := by unfold wyB; exact hi
   have hM : wyM s x (cntP (wyB s x) g) = g := by unfold wyM; exact selN_at hlt hb
   rw [hM, hN h]
   exact ⟨cntP_lt hlt hb, rfl, fun _ _ => ⟨rfl, rfl⟩, by omega, by omega, g + 1, cntP_yes hb, by omega, by omega, by omega⟩
  ·have hb : wyB s x g = false := by unfold wyB; exact hi
   exact ⟨by omega, by omega, g + 1, cntP_no hb, by omega, by omega, by omega⟩
 ·obtain rfl : g = s.nmd := by omega
  exact (hN h).symm
end Abs
end Go.Proofs.Ytdfdjlijghjdaaa

namespace Go.Proofs.Ytdfdjlijghjdaaa
namespace Abs
open Go Go.RowKit
theorem fdB_iff {nd : Nat -> Nd} {s : Int} {b : Bx} {n : Nat} : fdB nd s b n = true ↔ fdN nd s b n < n := by unfold fdB; simp
theorem fdV_of {nd : Nat -> Nd} {s : Int} {b : Bx} {n : Nat} (h : fdB nd s b n = true) : fdV nd s b n = (fdN nd s b n : Int) := by unfold fdV; rw [if_pos (fdB_iff.1 h)]
theorem adN_le (nd : Nat -> Nd) (n : Nat) (x : Nd) : n <= adN nd n x /\ adN nd n x <= n + 1 := by unfold adN; split <;> omega
theorem wyM_spec {s : Sys} {y : Nd} {j : Nat} (h : j < wyN s y) : y.slot < s.nld /\ wyM s y j < s.nmd /\ wyB s y (wyM s y j) = true := by
 unfold wyN at h
 split at h
 ·rename_i hs
  unfold wyM
  have := selN_spec h
  exact ⟨hs, this.1, this.2.1⟩
 ·omega
end Abs
end Go.Proofs.Ytdfdjlijghjdaaa

namespace Go.Proofs.Ytdfdjlijghjdaaa
namespace Abs
open Go Go.RowKit
noncomputable section
def slK : VC -> Option Sum2
 | .need p k => (match slK k with | some ⟨ps, r, h, mv⟩ => some ⟨p :: ps, r, h, mv⟩ | none => none)
 | .out r hp => some ⟨[], r, hp, none⟩
 | _ => none
def slKP : {g : VC -> Option Sum2 // slK = g} := ⟨_, by delta slK; rfl⟩
def slKN : VC -> Option Sum2 := slKP.1
theorem slKN_eq : slKN = slK := slKP.2.symm
def ngB : AV -> Bool
 | .gd _ _ => false
 | _ => true
def ngL : List AV -> Bool
 | [] => true
 | a :: l => (match ngB a with | true => ngL l | false => false)
def lenV : List AV -> Nat
 | [] => 0
 | _ :: l => lenV l + 1
def inlS (P : Program) (S : Sums) (U : Nat) (fn : Func) : Summ2 := fun args hp =>
 match ngL args, Nat.ble (lenV args) fn.ntmps with
 | true, true => slKN (wpFT P ⟨S.one, S.two, hp.length, S.eqs, S.its, S.imm⟩ U [] fn args hp)
 | _, _ => none
end
theorem slK_sat : ∀ {v : VC} {pre : List Cd} {res : AV} {hp : Heap} {mv : Option Nat}, slK v = some ⟨pre, res, hp, mv⟩ -> (∀ p ∈ pre, p.ok) -> mv = none /\ v.sat fun r h => r = res /\ h = hp := by
 intro v
 induction v with
 | need p k ih =>
   intro pre res hp mv h hp'
   simp only [slK] at h
   split at h
   ·rename_i ps r h' mv' e
    injection h with h; injection h with h1 h2 h3 h4
    subst h1 h2 h3 h4
    have := ih e fun q hq => hp' q (List.mem_cons_of_mem _ hq)
    exact ⟨this.1, hp' _ (List.mem_cons_self ..), this.2⟩
   ·cases h
 | out r hp =>
   intro pre res hp0 mv h _
   simp only [slK] at h
   injection h with h; injection h with h1 h2 h3 h4
   exact ⟨h4.symm, h2, h3⟩
 | fail => intro pre res hp mv h; simp [slK] at h
 | branch b t e _ _ => intro pre res hp mv h; simp [slK] at h
 | done => intro pre res hp mv h; simp [slK] at h
 | loop d e b _ _ => intro pre res hp mv h; simp [slK] at h
 | ex d m k _ => intro pre res hp mv h; simp [slK] at h
theorem ngL_spec : ∀ {l : List AV}, ngL l = true -> ∀ t, notGd (getL l t)
 | [], _, t => by simp only [getL]; trivial
 | a :: l, h, 0 => by
   simp only [ngL] at h
   simp only [getL]
   split at h
   ·rename_i ha
    cases a <;> first | (simp [ngB] at ha; done) | trivial
   ·cases h
 | a :: l, h, t + 1 => by
   simp only [ngL] at h
   simp only [getL]
   split at h
   ·exact ngL_spec h t
   ·cases h
theorem lenV_eq : ∀ l : List AV, lenV l = l.length
 | [] => rfl
 | _ :: l => by simp [lenV, lenV_eq l]
theorem inlS_ok {P : Program} {S : Sums} (hS : SumsOK P S) (hm : P.follows .mixedOrders = true) {U : Nat} {f : FuncId} {fn : Func} {c : Code} (hf : P.funcs[f]? = some fn) (hb : fn.body = some c) (hok : codeOK c = true) : Summ2OK P f (inlS P S U fn) := by
 intro args hp pre res hp' mv h hpre
 unfold inlS at h
 rw [slKN_eq] at h
 split at h
 ·rename_i h1 h2
  obtain ⟨rfl, hsat⟩ := slK_sat h hpre
  intro C w vs hO hH ha
  have hS' : SumsOK P ⟨S.one, S.two, hp.length, S.eqs, S.its, S.imm⟩ := ⟨hS.one, hS.two, hS.eqs, hS.bodyOne, hS.bodyTwo, hS.its⟩
  refine (calls_wpF hS' hm hf hb hok (Nat.le_refl _) hH ha (ngL_spec h1) (by rw [lenV_eq] at h2; exact Nat.le_of_ble_eq_true h2) (wpFT_sat hsat)).mono ?_
  rintro e w' ⟨v, a, hp2, C1, he, ⟨rfl, rfl⟩, h3, h4, h5, h6⟩
  refine ⟨v, C1, he, h4, h5, (Since.refl (fun i hi => ?_) hO).step h6⟩
  cases hc : C.ρ i with
  | none => rfl
  | some p => have := hH.lt hc; omega
 ·cases h
end Abs
end Go.Proofs.Ytdfdjlijghjdaaa

namespace Go.Proofs.Ytdfdjlijghjdaaa
namespace Abs
open Go Go.RowKit
noncomputable def SYd1 : Sums := ⟨SYc0.one, SYc0.two, SYc0.lo, SYc0.eqs, (itsKey 56, mkIt wySh wyI) :: SYc0.its, SYc0.imm⟩
theorem SYd1_ok : SumsOK Try.prog SYd1 := SYc0_ok.addIt2 Try.func56 (by kernel_rfl) (by kernel_rfl) ways_it
noncomputable def SYd2 : Sums := ⟨SYd1.one, (35, inlS Try.prog SYd1 0 Try.f35) :: SYd1.two, SYd1.lo, SYd1.eqs, SYd1.its, SYd1.imm⟩
theorem SYd2_ok : SumsOK Try.prog SYd2 := SYd1_ok.addTwo Try.func35 (by kernel_rfl) (by kernel_rfl) (inlS_ok SYd1_ok mixed Try.func35 rfl (by kernel_rfl))
noncomputable def unA : List AV -> Heap -> Ann := fun _ _ => ⟨Unit, fun _ => ⟨[], []⟩, Unit, fun _ => (), fun _ => True, fun _ => 0⟩
end Abs
end Go.Proofs.Ytdfdjlijghjdaaa

namespace Go.Proofs.Ytdfdjlijghjdaaa
namespace Abs
open Go Go.RowKit
theorem kyE_box {y : Nd} {s : Int} {b : Bx} {m : Nat} (h1 : y.box.len = m) (h2 : b.len = m) (h3 : m <= 3) : kyE y s b = (decide (y.slot = s) && eqBx y.box b) := by
 rw [Bool.eq_iff_iff]
 unfold kyE
 simp only [Bool.and_eq_true, decide_eq_true_eq, eqBx_iff]
 unfold kLo kHi
 constructor
 ·rintro ⟨e, a0, b0, a1, b1, a2, b2⟩
  refine ⟨e.symm, by omega, fun k hk => ?_⟩
  have : k = 0 \/ k = 1 \/ k = 2 := by omega
  rcases this with rfl | rfl | rfl
  ·rw [if_pos (by omega), if_pos (by omega)] at a0 b0; exact ⟨a0.symm, b0.symm⟩
  ·rw [if_pos (by omega), if_pos (by omega)] at a1 b1; exact ⟨a1.symm, b1.symm⟩
  ·rw [if_pos (by omega), if_pos (by omega)] at a2 b2; exact ⟨a2.symm, b2.symm⟩
 ·rintro ⟨e, hl, hk⟩
  have key : ∀ j, (if j < b.len then b.lo j else 0) = (if j < y.box.len then y.box.lo j else 0) /\ (if j < b.len then b.hi j else 0) = (if j < y.box.len then y.box.hi j else 0) := fun j => by
   rw [hl]
   by_cases hj : j < b.len
   ·simp only [if_pos hj]
    exact ⟨(hk j (by omega)).1.symm, (hk j (by omega)).2.symm⟩
   ·simp only [if_neg hj]; exact ⟨trivial, trivial⟩
  exact ⟨e.symm, (key 0).1, (key 0).2, (key 1).1, (key 1).2, (key 2).1, (key 2).2⟩
noncomputable def SYf0 : Sums := ⟨SYd2.one, SYd2.two, SYd2.lo, SYd2.eqs, SYd2.its, SYd2.imm⟩
theorem SYf0_ok : SumsOK Try.prog SYf0 := SYd2_ok
end Abs
end Go.Proofs.Ytdfdjlijghjdaaa

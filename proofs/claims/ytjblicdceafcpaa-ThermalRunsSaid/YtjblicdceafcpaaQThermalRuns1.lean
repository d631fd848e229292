/- A part of the proof: no statement of its own. -/
import Derived.Test.YtjblicdceafcpaaQF3
import Derived.Test.YtjblicdceafcpaaProg
/- Plain numbers: leaf functions of specs, and what is known of them. -/
namespace Go.Proofs.Ytjblicdceafcpaa
namespace Abs
open Go

@[irreducible] def isIn (lo x hi : Int) : Bool := decide (lo ≤ x) && decide (x ≤ hi)
@[simp] theorem isIn_eq (lo x hi : Int) : isIn lo x hi = (decide (lo ≤ x) && decide (x ≤ hi)) := by unfold isIn; rfl
@[irreducible] def fdiv (n d : Int) : Int := n / d
@[simp] theorem fdiv_eq (n d : Int) : fdiv n d = n / d := by unfold fdiv; rfl
theorem fdiv_a (n d : Int) (h0 : 0 < d) (h : n.tmod d < 0) : n.tdiv d - 1 = n / d := by
  have h1 := Int.tmod_add_tdiv_mul n d
  have h2 := Int.lt_tmod_of_pos n h0
  have : n / d = n.tdiv d - 1 := by
    rw [Int.ediv_eq_iff_of_pos h0, Int.sub_mul]
    constructor <;> omega
  exact this.symm
theorem fdiv_b (n d : Int) (h0 : 0 < d) (h : 0 ≤ n.tmod d) : n.tdiv d = n / d := by
  have h1 := Int.tmod_add_tdiv_mul n d
  have h2 := Int.tmod_lt_of_pos n h0
  have : n / d = n.tdiv d := by
    rw [Int.ediv_eq_iff_of_pos h0]
    constructor <;> omega
  exact this.symm
theorem fdiv_ge (n d : Int) (h0 : 0 < d) (h : -9223372036854775808 ≤ n) : -9223372036854775808 ≤ n / d := by
  rw [Int.le_ediv_iff_mul_le h0]
  have : -9223372036854775808 * d ≤ -9223372036854775808 * 1 := Int.mul_le_mul_of_nonpos_left (by omega) (by omega)
  omega
theorem fdiv_le (n d : Int) (h0 : 0 < d) (h : n ≤ 9223372036854775807) : n / d ≤ 9223372036854775807 := by
  have : n / d < 9223372036854775808 := by
    rw [Int.ediv_lt_iff_lt_mul h0]
    have : 9223372036854775808 * 1 ≤ 9223372036854775808 * d := Int.mul_le_mul_of_nonneg_left (by omega) (by omega)
    omega
  omega
theorem tdiv_in (n d : Int) (h0 : 0 < d) (h : InR .i64 n) : InR .i64 (n.tdiv d) := by
  simp at h ⊢
  have h1 := fdiv_ge n d h0 h.1
  have h2 := fdiv_le n d h0 h.2
  by_cases hm : n.tmod d < 0
  · have h3 := fdiv_a n d h0 hm
    have h4 : n < 0 := by
      apply Int.lt_of_not_ge
      intro h
      have := Int.tmod_nonneg d h; omega
    have h5 : n / d < 0 := Int.ediv_neg_of_neg_of_pos h4 h0
    omega
  · have h3 := fdiv_b n d h0 (by omega); omega
theorem tdiv2 (b : Int) (h : 0 ≤ b) : b.tdiv 2 = b / 2 := Int.tdiv_eq_ediv_of_nonneg h
theorem tmod_z (n d : Int) : n.tmod d = 0 ↔ n % d = 0 := by
  constructor
  · intro h; exact Int.emod_eq_zero_of_dvd (Int.dvd_of_tmod_eq_zero h)
  · intro h; exact Int.tmod_eq_zero_of_dvd (Int.dvd_of_emod_eq_zero h)
@[irreducible] def intoV (x lo hi : Int) : Int := max lo (min x hi)
def within : Spec [.int .i64, .int .i64, .int .i64] := ⟨fun _ => True, fun (x, lo, hi, _) => .sb (isIn lo x hi)⟩
def floor : Spec [.int .i64, .int .i64] := ⟨fun ((n : Int), (d : Int), _) => InR .i64 n ∧ 0 < d, fun (n, d, _) => .si .i64 (fdiv n d)⟩
def into : Spec [.int .i64, .int .i64, .int .i64] := ⟨fun _ => True, fun ((x : Int), (lo : Int), (hi : Int), _) => .si .i64 (intoV x lo hi)⟩
@[irreducible] def isQ (x : Int) : Bool := isIn (-1099511627776) x 1099511627776
def isQs : Spec [.int .i64] := ⟨fun _ => True, fun ((x : Int), _) => .sb (isQ x)⟩
end Abs
end Go.Proofs.Ytjblicdceafcpaa

/- The first place at which something holds; somewhere, everywhere. -/
namespace Go.Proofs.Ytjblicdceafcpaa
namespace Abs
open Go

/-- the first k below n with p k, or n -/
def firstN (p : Nat → Bool) : Nat → Nat
  | 0 => 0
  | n + 1 => let f := firstN p n; if f < n then f else if p n then n else n + 1
theorem firstN_zero (p : Nat → Bool) : firstN p 0 = 0 := rfl
theorem firstN_succ (p : Nat → Bool) (n : Nat) : firstN p (n + 1) = if firstN p n < n then firstN p n else if p n then n else n + 1 := rfl
attribute [irreducible] firstN
theorem firstN_le (p : Nat → Bool) : ∀ n, firstN p n ≤ n
  | 0 => by rw [firstN_zero]; omega
  | n + 1 => by
    have := firstN_le p n
    rw [firstN_succ]
    split
    · omega
    · split <;> omega
theorem firstN_not (p : Nat → Bool) : ∀ n k, k < firstN p n → p k = false
  | 0, k, h => by rw [firstN_zero] at h; omega
  | n + 1, k, h => by
    have hle := firstN_le p n
    rw [firstN_succ] at h
    split at h
    · exact firstN_not p n k h
    · by_cases hk : k < n
      · exact firstN_not p n k (by omega)
      · split at h
        · omega
        · obtain rfl : k = n := by omega
          cases hp : p k with
          | false => rfl
          | true => rename_i h1; exact absurd hp h1
theorem firstN_is (p : Nat → Bool) : ∀ n, firstN p n < n → p (firstN p n) = true
  | 0, h => by omega
  | n + 1, h => by
    have hle := firstN_le p n
    rw [firstN_succ] at h ⊢
    split
    · rename_i h1; exact firstN_is p n h1
    · rename_i h1
      rw [if_neg h1] at h
      split
      · rename_i h2; exact h2
      · rename_i h2; rw [if_neg h2] at h; omega
theorem firstN_uniq {p : Nat → Bool} {n k : Nat} (hk : k ≤ n) (h1 : ∀ j, j < k → p j = false) (h2 : k < n → p k = true) : firstN p n = k := by
  have hle := firstN_le p n
  rcases Nat.lt_trichotomy (firstN p n) k with h | h | h
  · have := firstN_is p n (by omega); rw [h1 _ h] at this; cases this
  · exact h
  · have := firstN_not p n k h; rw [h2 (by omega)] at this; cases this
theorem firstN_ge {p : Nat → Bool} {n k : Nat} (hk : k ≤ firstN p n) (h : p k = false) (hn : k < n) : k + 1 ≤ firstN p n := by
  rcases Nat.lt_or_ge k (firstN p n) with h1 | h1
  · omega
  · obtain rfl : k = firstN p n := by omega
    have := firstN_is p n hn
    rw [h] at this; cases this
theorem firstN_at {p : Nat → Bool} {n k : Nat} (hk : k ≤ firstN p n) (h : p k = true) : firstN p n = k := by
  rcases Nat.lt_or_ge k (firstN p n) with h1 | h1
  · have := firstN_not p n k h1; rw [h] at this; cases this
  · omega
/-- somewhere below n -/
@[irreducible] def anyN (p : Nat → Bool) (n : Nat) : Bool := decide (firstN p n < n)
theorem anyN_iff {p : Nat → Bool} {n : Nat} : anyN p n = true ↔ ∃ k, k < n ∧ p k = true := by
  unfold anyN
  simp only [decide_eq_true_eq]
  constructor
  · intro h; exact ⟨_, h, firstN_is p n h⟩
  · rintro ⟨k, hk, hp⟩
    rcases Nat.lt_or_ge (firstN p n) n with h | h
    · exact h
    · have := firstN_not p n k (by omega); rw [hp] at this; cases this
theorem anyN_false {p : Nat → Bool} {n : Nat} : anyN p n = false ↔ ∀ k, k < n → p k = false := by
  constructor
  · intro h k hk
    cases hp : p k with
    | false => rfl
    | true => have := anyN_iff.2 ⟨k, hk, hp⟩; rw [h] at this; cases this
  · intro h
    cases ha : anyN p n with
    | false => rfl
    | true => obtain ⟨k, hk, hp⟩ := anyN_iff.1 ha; rw [h k hk] at hp; cases hp
@[simp] theorem anyN_zero (p : Nat → Bool) : anyN p 0 = false := anyN_false.2 fun k hk => by omega
theorem anyN_succ (p : Nat → Bool) (n : Nat) : anyN p (n + 1) = (anyN p n || p n) := by
  rw [Bool.eq_iff_iff, Bool.or_eq_true, anyN_iff, anyN_iff]
  constructor
  · rintro ⟨k, hk, hp⟩
    by_cases h : k < n
    · exact .inl ⟨k, h, hp⟩
    · obtain rfl : k = n := by omega
      exact .inr hp
  · rintro (⟨k, hk, hp⟩ | hp)
    · exact ⟨k, by omega, hp⟩
    · exact ⟨n, by omega, hp⟩
@[simp] theorem anyN_one (p : Nat → Bool) : anyN p 1 = p 0 := by rw [anyN_succ]; simp
@[simp] theorem anyN_two (p : Nat → Bool) : anyN p 2 = (p 0 || p 1) := by rw [anyN_succ]; simp
theorem anyN_congr {p q : Nat → Bool} {n : Nat} (h : ∀ k, k < n → p k = q k) : anyN p n = anyN q n := by
  rw [Bool.eq_iff_iff, anyN_iff, anyN_iff]
  constructor
  · rintro ⟨k, hk, hp⟩; exact ⟨k, hk, by rw [← h k hk]; exact hp⟩
  · rintro ⟨k, hk, hp⟩; exact ⟨k, hk, by rw [h k hk]; exact hp⟩
/-- everywhere below n -/
@[irreducible] def allN (p : Nat → Bool) (n : Nat) : Bool := !(anyN (fun k => !(p k)) n)
theorem allN_iff {p : Nat → Bool} {n : Nat} : allN p n = true ↔ ∀ k, k < n → p k = true := by
  unfold allN
  rw [Bool.not_eq_true', anyN_false]
  simp
/-- the index that a search answers -/
@[irreducible] def idxN (p : Nat → Bool) (n : Nat) : Int := if firstN p n < n then (firstN p n : Int) else -1
theorem idxN_nonneg {p : Nat → Bool} {n : Nat} : decide (0 ≤ idxN p n) = anyN p n := by
  unfold idxN anyN
  split <;> rename_i h <;> simp [h] <;> omega
end Abs
end Go.Proofs.Ytjblicdceafcpaa

/- Thermal plans in plain Lean: lists of numbers, boxes, modes, systems; what the functions answer. -/
namespace Go.Proofs.Ytjblicdceafcpaa
namespace Abs
open Go

theorem allN_succ (p : Nat → Bool) (n : Nat) : allN p (n + 1) = (allN p n && p n) := by
  rw [Bool.eq_iff_iff, Bool.and_eq_true, allN_iff, allN_iff]
  constructor
  · intro h; exact ⟨fun k hk => h k (by omega), h n (by omega)⟩
  · rintro ⟨h1, h2⟩ k hk
    by_cases h : k < n
    · exact h1 k h
    · obtain rfl : k = n := by omega
      exact h2
@[simp] theorem allN_zero (p : Nat → Bool) : allN p 0 = true := allN_iff.2 fun k hk => by omega
theorem allN_lt {p : Nat → Bool} {n k : Nat} (h : allN p n = true) (hk : k < n) : p k = true := allN_iff.1 h k hk
theorem allN_not {p : Nat → Bool} {n k : Nat} (hk : k < n) (h : p k = false) : allN p n = false := by
  cases ha : allN p n with
  | false => rfl
  | true => have := allN_lt ha hk; rw [h] at this; cases this
theorem allN_any (p : Nat → Bool) (n : Nat) : allN p n = !(anyN (fun k => !(p k)) n) := by unfold allN; rfl
theorem anyN_all (p : Nat → Bool) (n : Nat) : anyN p n = !(allN (fun k => !(p k)) n) := by rw [allN_any]; simp
theorem allN_congr {p q : Nat → Bool} {n : Nat} (h : ∀ k, k < n → p k = q k) : allN p n = allN q n := by
  rw [allN_any, allN_any, anyN_congr fun k hk => by rw [h k hk]]

-- shapes
@[reducible] def spanSh : Sh := .agg [.int .i64, .int .i64]
@[reducible] def spansSh : Sh := .slice 2 [.int .i64, .int .i64]
@[reducible] def intsSh : Sh := .slice 1 [.int .i64]
@[reducible] def modeCells : List Sh := [.int .i64, .slice 1 [.int .i64], .slice 3 [.int .i64, .int .i64, .int .i64]]
@[reducible] def modeSh : Sh := .agg modeCells
@[reducible] def sysSh : Sh := .agg [spansSh, spansSh, .slice 3 modeCells, .slice 1 [spansSh]]

-- lists of numbers
structure Vx where
  n : Nat
  v : Nat → Int
@[irreducible] def Vx.len (x : Vx) : Nat := x.n
@[irreducible] def Vx.at (x : Vx) : Nat → Int := x.v
@[simp] theorem Vx.len_mk (n : Nat) (v : Nat → Int) : (Vx.mk n v).len = n := by unfold Vx.len; rfl
@[simp] theorem Vx.at_mk (n : Nat) (v : Nat → Int) : (Vx.mk n v).at = v := by unfold Vx.at; rfl
@[irreducible] def vxOf (x : Nat × (Nat → Int × Unit)) : Vx := ⟨x.1, fun k => (x.2 k).1⟩
@[simp] theorem vxOf_mk (b : Vx) : vxOf (b.len, fun k => (b.at k, ())) = b := by unfold vxOf Vx.len Vx.at; rfl
theorem vx_ex (x : Nat × (Nat → Int × Unit)) : ∃ b : Vx, x = (b.len, fun k => (b.at k, ())) := ⟨vxOf x, by unfold vxOf Vx.len Vx.at; rfl⟩
@[simp] theorem vxOf_len (n : Nat) (f : Nat → Int × Unit) : (vxOf (n, f)).len = n := by unfold vxOf Vx.len; rfl
@[simp] theorem vxOf_at (n : Nat) (f : Nat → Int × Unit) (k : Nat) : (vxOf (n, f)).at k = (f k).1 := by unfold vxOf Vx.at; rfl
-- boxes
structure Bx where
  n : Nat
  l : Nat → Int
  h : Nat → Int
@[irreducible] def Bx.len (b : Bx) : Nat := b.n
@[irreducible] def Bx.lo (b : Bx) : Nat → Int := b.l
@[irreducible] def Bx.hi (b : Bx) : Nat → Int := b.h
@[simp] theorem Bx.len_mk (n : Nat) (l h : Nat → Int) : (Bx.mk n l h).len = n := by unfold Bx.len; rfl
@[simp] theorem Bx.lo_mk (n : Nat) (l h : Nat → Int) : (Bx.mk n l h).lo = l := by unfold Bx.lo; rfl
@[simp] theorem Bx.hi_mk (n : Nat) (l h : Nat → Int) : (Bx.mk n l h).hi = h := by unfold Bx.hi; rfl
@[irreducible] def bxOf (x : Nat × (Nat → Int × Int × Unit)) : Bx := ⟨x.1, fun k => (x.2 k).1, fun k => (x.2 k).2.1⟩
@[simp] theorem bxOf_mk (b : Bx) : bxOf (b.len, fun k => (b.lo k, b.hi k, ())) = b := by unfold bxOf Bx.len Bx.lo Bx.hi; rfl
theorem bx_ex (x : Nat × (Nat → Int × Int × Unit)) : ∃ b : Bx, x = (b.len, fun k => (b.lo k, b.hi k, ())) := ⟨bxOf x, by unfold bxOf Bx.len Bx.lo Bx.hi; rfl⟩
@[simp] theorem bxOf_len (n : Nat) (f : Nat → Int × Int × Unit) : (bxOf (n, f)).len = n := by unfold bxOf Bx.len; rfl
@[simp] theorem bxOf_lo (n : Nat) (f : Nat → Int × Int × Unit) (k : Nat) : (bxOf (n, f)).lo k = (f k).1 := by unfold bxOf Bx.lo; rfl
@[simp] theorem bxOf_hi (n : Nat) (f : Nat → Int × Int × Unit) (k : Nat) : (bxOf (n, f)).hi k = (f k).2.1 := by unfold bxOf Bx.hi; rfl
-- modes
structure Mo where
  c : Int
  ns : Nat
  s : Nat → Int
  nf : Nat
  f : Nat → Int
  t : Nat → Int
  p : Nat → Int
@[irreducible] def Mo.cost (m : Mo) : Int := m.c
@[irreducible] def Mo.nsh (m : Mo) : Nat := m.ns
@[irreducible] def Mo.sh (m : Mo) : Nat → Int := m.s
@[irreducible] def Mo.nfl (m : Mo) : Nat := m.nf
@[irreducible] def Mo.ff (m : Mo) : Nat → Int := m.f
@[irreducible] def Mo.ft (m : Mo) : Nat → Int := m.t
@[irreducible] def Mo.fp (m : Mo) : Nat → Int := m.p
@[reducible] def mdD (m : Mo) : Int × (Nat × (Nat → Int × Unit)) × (Nat × (Nat → Int × Int × Int × Unit)) × Unit := (m.cost, (m.nsh, fun j => (m.sh j, ())), (m.nfl, fun j => (m.ff j, m.ft j, m.fp j, ())), ())
abbrev MoD := Int × (Nat × (Nat → Int × Unit)) × (Nat × (Nat → Int × Int × Int × Unit)) × Unit
@[irreducible] def mdOf (x : MoD) : Mo := ⟨x.1, x.2.1.1, fun j => (x.2.1.2 j).1, x.2.2.1.1, fun j => (x.2.2.1.2 j).1, fun j => (x.2.2.1.2 j).2.1, fun j => (x.2.2.1.2 j).2.2.1⟩
@[simp] theorem mdOf_mk (m : Mo) : mdOf (m.cost, (m.nsh, fun j => (m.sh j, ())), (m.nfl, fun j => (m.ff j, m.ft j, m.fp j, ())), ()) = m := by
  unfold mdOf Mo.cost Mo.nsh Mo.sh Mo.nfl Mo.ff Mo.ft Mo.fp; rfl
@[simp] theorem mdOf_D (m : Mo) : mdOf (mdD m) = m := mdOf_mk m
theorem md_ex (x : DatL modeCells) : ∃ m : Mo, x = mdD m := ⟨mdOf x, by unfold mdD mdOf Mo.cost Mo.nsh Mo.sh Mo.nfl Mo.ff Mo.ft Mo.fp; rfl⟩
-- systems
structure Sys where
  a : Bx
  b : Bx
  nm : Nat
  m : Nat → Mo
  nw : Nat
  w : Nat → Bx
@[irreducible] def Sys.lim (s : Sys) : Bx := s.a
@[irreducible] def Sys.st (s : Sys) : Bx := s.b
@[irreducible] def Sys.nmd (s : Sys) : Nat := s.nm
@[irreducible] def Sys.md (s : Sys) : Nat → Mo := s.m
@[irreducible] def Sys.nld (s : Sys) : Nat := s.nw
@[irreducible] def Sys.ld (s : Sys) : Nat → Bx := s.w
@[reducible] def sysD (s : Sys) : (Nat × (Nat → Int × Int × Unit)) × (Nat × (Nat → Int × Int × Unit)) × (Nat × (Nat → MoD)) × (Nat × (Nat → (Nat × (Nat → Int × Int × Unit)) × Unit)) × Unit := ((s.lim.len, fun k => (s.lim.lo k, s.lim.hi k, ())), (s.st.len, fun k => (s.st.lo k, s.st.hi k, ())), (s.nmd, fun k => mdD (s.md k)),
  (s.nld, fun k => (((s.ld k).len, fun j => ((s.ld k).lo j, (s.ld k).hi j, ())), ())), ())
@[irreducible] def sysOf (x : (Nat × (Nat → Int × Int × Unit)) × (Nat × (Nat → Int × Int × Unit)) × (Nat × (Nat → MoD)) × (Nat × (Nat → (Nat × (Nat → Int × Int × Unit)) × Unit)) × Unit) : Sys := ⟨bxOf x.1, bxOf x.2.1, x.2.2.1.1, fun k => mdOf (x.2.2.1.2 k), x.2.2.2.1.1, fun k => bxOf (x.2.2.2.1.2 k).1⟩
@[simp] theorem sysOf_mk (s : Sys) : sysOf ((s.lim.len, fun k => (s.lim.lo k, s.lim.hi k, ())), (s.st.len, fun k => (s.st.lo k, s.st.hi k, ())),
    (s.nmd, fun k => ((s.md k).cost, ((s.md k).nsh, fun j => ((s.md k).sh j, ())), ((s.md k).nfl, fun j => ((s.md k).ff j, (s.md k).ft j, (s.md k).fp j, ())), ())),
    (s.nld, fun k => (((s.ld k).len, fun j => ((s.ld k).lo j, (s.ld k).hi j, ())), ())), ()) = s := by
  unfold sysOf bxOf mdOf Sys.lim Sys.st Sys.nmd Sys.md Sys.nld Sys.ld Bx.len Bx.lo Bx.hi Mo.cost Mo.nsh Mo.sh Mo.nfl Mo.ff Mo.ft Mo.fp; rfl
@[simp] theorem sysOf_D (s : Sys) : sysOf (sysD s) = s := sysOf_mk s
theorem sys_ex (x : Dat sysSh) : ∃ s : Sys, x = sysD s := ⟨sysOf x, by
  unfold sysD mdD sysOf bxOf mdOf Sys.lim Sys.st Sys.nmd Sys.md Sys.nld Sys.ld Bx.len Bx.lo Bx.hi Mo.cost Mo.nsh Mo.sh Mo.nfl Mo.ff Mo.ft Mo.fp; rfl⟩

-- what is valid
@[irreducible] def spanOK (lo hi : Int) : Bool := isQ lo && isQ hi && decide (lo ≤ hi)
@[irreducible] def badSpan (lo hi : Int) : Bool := !(spanOK lo hi)
theorem isQ_iff {x : Int} : isQ x = true ↔ -1099511627776 ≤ x ∧ x ≤ 1099511627776 := by unfold isQ; simp
theorem spanOK_iff {lo hi : Int} : spanOK lo hi = true ↔ -1099511627776 ≤ lo ∧ hi ≤ 1099511627776 ∧ lo ≤ hi := by unfold spanOK isQ; simp; omega
/-- one span inside of another -/
@[irreducible] def insB (a b c d : Int) : Bool := spanOK a b && spanOK c d && decide (c ≤ a) && decide (b ≤ d)
theorem insB_iff {a b c d : Int} : insB a b c d = true ↔ spanOK a b = true ∧ spanOK c d = true ∧ c ≤ a ∧ b ≤ d := by unfold insB; simp [and_assoc]
/-- a valid span, at most so far from 0 -/
@[irreducible] def nearB (a b m : Int) : Bool := decide (a ≤ b) && decide (-m ≤ a) && decide (b ≤ m)
theorem nearB_iff {a b m : Int} : nearB a b m = true ↔ a ≤ b ∧ -m ≤ a ∧ b ≤ m := by unfold nearB; simp [and_assoc]
theorem insB_near {a b m : Int} (h0 : 0 ≤ m) (h1 : m ≤ 1099511627776) : insB a b (-m) m = nearB a b m := by
  rw [Bool.eq_iff_iff, insB_iff, nearB_iff, spanOK_iff, spanOK_iff]; omega
@[irreducible] def nearV (b : Bx) (m : Int) : Bool := allN (fun k => nearB (b.lo k) (b.hi k) m) b.len
theorem nearV_iff {b : Bx} {m : Int} : nearV b m = true ↔ ∀ k, k < b.len → b.lo k ≤ b.hi k ∧ -m ≤ b.lo k ∧ b.hi k ≤ m := by
  unfold nearV; rw [allN_iff]; simp only [nearB_iff]
/-- a box inside of limits -/
@[irreducible] def inV (l b : Bx) : Bool := allN (fun k => decide (b.lo k ≤ b.hi k) && decide (l.lo k ≤ b.lo k) && decide (b.hi k ≤ l.hi k)) b.len
theorem inV_iff {l b : Bx} : inV l b = true ↔ ∀ k, k < b.len → b.lo k ≤ b.hi k ∧ l.lo k ≤ b.lo k ∧ b.hi k ≤ l.hi k := by
  unfold inV; rw [allN_iff]; simp [and_assoc]
/-- is a loop in use by the first flows? -/
@[irreducible] def usedB (m : Mo) (g : Nat) (i : Int) : Bool := anyN (fun j => decide (m.ff j = i) || decide (m.ft j = i)) g
theorem usedB_zero (m : Mo) (i : Int) : usedB m 0 i = false := by unfold usedB; simp
theorem usedB_succ (m : Mo) (g : Nat) (i : Int) : usedB m (g + 1) i = (usedB m g i || decide (m.ff g = i) || decide (m.ft g = i)) := by
  unfold usedB; rw [anyN_succ, Bool.or_assoc]
@[irreducible] def flowB (m : Mo) (n : Int) (g : Nat) : Bool :=
  decide (0 ≤ m.fp g) && decide (m.fp g ≤ 65536) && decide (m.ff g ≠ m.ft g) && decide (0 ≤ m.ff g) && decide (m.ff g < n) && decide (0 ≤ m.ft g) && decide (m.ft g < n) && !(usedB m g (m.ff g)) && !(usedB m g (m.ft g))
theorem flowB_iff {m : Mo} {n : Int} {g : Nat} : flowB m n g = true ↔ 0 ≤ m.fp g ∧ m.fp g ≤ 65536 ∧ m.ff g ≠ m.ft g ∧ 0 ≤ m.ff g ∧ m.ff g < n ∧ 0 ≤ m.ft g ∧ m.ft g < n ∧ usedB m g (m.ff g) = false ∧ usedB m g (m.ft g) = false := by
  unfold flowB; simp [and_assoc]
@[irreducible] def modeB (m : Mo) (n : Int) : Bool := decide (0 ≤ m.cost) && decide (m.cost ≤ 1073741824) && decide ((m.nsh : Int) = n) && allN (fun k => decide (-10000 ≤ m.sh k) && decide (m.sh k ≤ 10000)) m.nsh && allN (flowB m n) m.nfl
theorem modeB_iff {m : Mo} {n : Int} : modeB m n = true ↔ 0 ≤ m.cost ∧ m.cost ≤ 1073741824 ∧ (m.nsh : Int) = n ∧ (∀ k, k < m.nsh → -10000 ≤ m.sh k ∧ m.sh k ≤ 10000) ∧ ∀ g, g < m.nfl → flowB m n g = true := by
  unfold modeB; simp [and_assoc, allN_iff]
theorem modeB_one {m : Mo} {n : Int} (h : modeB m n = true) (hn : n ≤ 3) : m.nfl ≤ 1 := by
  rcases Nat.lt_or_ge 1 m.nfl with h1 | h1
  · exfalso
    have hh := (modeB_iff.1 h).2.2.2.2
    have h0 := flowB_iff.1 (hh 0 (by omega))
    have h2 := flowB_iff.1 (hh 1 (by omega))
    have e1 := h2.2.2.2.2.2.2.2.1
    have e2 := h2.2.2.2.2.2.2.2.2
    rw [show (1 : Nat) = 0 + 1 from rfl, usedB_succ, usedB_zero] at e1 e2
    simp at e1 e2
    omega
  · omega
@[irreducible] def checkB (s : Sys) : Bool := decide (1 ≤ s.lim.len) && decide (s.lim.len ≤ 3) && decide (1 ≤ s.nmd) && decide (s.nmd ≤ 8) && decide (s.nld ≤ 48) && nearV s.lim 10000 && decide (s.st.len = s.lim.len) && nearV s.st 10000 &&
  inV s.lim s.st && allN (fun k => decide ((s.ld k).len = s.lim.len) && nearV (s.ld k) 10000) s.nld && allN (fun k => modeB (s.md k) (s.lim.len : Int)) s.nmd
theorem checkB_iff {s : Sys} : checkB s = true ↔ 1 ≤ s.lim.len ∧ s.lim.len ≤ 3 ∧ 1 ≤ s.nmd ∧ s.nmd ≤ 8 ∧ s.nld ≤ 48 ∧ nearV s.lim 10000 = true ∧ s.st.len = s.lim.len ∧ nearV s.st 10000 = true ∧
    inV s.lim s.st = true ∧ (∀ k, k < s.nld → (s.ld k).len = s.lim.len ∧ nearV (s.ld k) 10000 = true) ∧ ∀ k, k < s.nmd → modeB (s.md k) (s.lim.len : Int) = true := by
  unfold checkB; simp [and_assoc, allN_iff]
@[irreducible] def errA (b : Bool) : Int := if b then 0 else 2
@[simp] theorem errA_true : errA true = 0 := by unfold errA; rfl
@[simp] theorem errA_false : errA false = 2 := by unfold errA; rfl
@[simp] theorem errA_eq (b : Bool) : errA b = 0 ↔ b = true := by cases b <;> simp
end Abs
end Go.Proofs.Ytjblicdceafcpaa

/- Spans: what the functions of quantity answer; the functions of the library over them. -/
namespace Go.Proofs.Ytjblicdceafcpaa
namespace Abs
open Go Go.RowKit

theorem mixed : Try.prog.follows .mixedOrders = true := by kernel_rfl
def spanKs : List (Option IntKind) := [some .i64, some .i64]
def eqs0 : List (Nat × List (Option IntKind)) := [(35, spanKs)]
theorem eqs0_ok : ∀ t ks, findS eqs0 t = some ks → EqOK Try.prog t ks := by
  intro t ks h
  unfold eqs0 at h
  simp only [findS] at h
  split at h
  · rename_i e
    obtain rfl := Nat.eq_of_beq_eq_true e
    injection h with h; subst h
    exact EqOK.of 3 (by decide) (by kernel_rfl) (by kernel_rfl) (by kernel_rfl)
  · cases h
def S0 : Sums := ⟨[], [], 0, eqs0, []⟩
theorem S0_ok : SumsOK Try.prog S0 := .nil _ _ _ eqs0_ok
def isS : Spec [.int .i64] := ⟨fun _ => True, fun (x, _) => .sb (isQ x)⟩
set_option maxRecDepth 100000 in
theorem is_ok : FnSpec Try.prog 107 _ isS := by
  refine FnSpec.of S0_ok mixed (U := 0) (I := fun _ => []) Try.func107 rfl (by kernel_rfl) rfl rfl (by decide +kernel) ?_
  rintro ⟨(x : Int), ⟨⟩⟩ -
  unfold FnSat
  conv => arg 2; reduce
  simp [isS, isQ]
def SQ0 : Sums := ⟨(107, mkSum _ isS) :: S0.one, S0.two, S0.lo, S0.eqs, S0.its⟩
theorem SQ0_ok : SumsOK Try.prog SQ0 := (S0_ok.cons Try.func107 (by kernel_rfl) (by kernel_rfl) is_ok)
def badS : Spec [spanSh] := ⟨fun _ => True, fun ((lo, hi, _), _) => .sb (badSpan lo hi)⟩
set_option maxRecDepth 100000 in
theorem bad_ok : FnSpec Try.prog 106 _ badS := by
  refine FnSpec.of SQ0_ok mixed (U := 0) (I := fun _ => []) Try.func106 rfl (by kernel_rfl) rfl rfl (by decide +kernel) ?_
  rintro ⟨⟨(lo : Int), (hi : Int), ⟨⟩⟩, ⟨⟩⟩ -
  unfold FnSat
  conv => arg 2; reduce
  simp [badS, isS, badSpan, spanOK]
  cases isQ lo <;> cases isQ hi <;> (rw [Bool.eq_iff_iff]; simp)
def SQ1 : Sums := ⟨(106, mkSum _ badS) :: SQ0.one, SQ0.two, SQ0.lo, SQ0.eqs, SQ0.its⟩
theorem SQ1_ok : SumsOK Try.prog SQ1 := (SQ0_ok.cons Try.func106 (by kernel_rfl) (by kernel_rfl) bad_ok)
def anyBadI : Spec [.slice 2 [.int .i64, .int .i64], .fn 106 [] []] := ⟨fun x => x.1.1 ≤ maxLen, fun ((n, el), ((_, c), _)) => .si .i64 (idxN (fun k => badSpan (el k).1 (el k).2.1) n)⟩
noncomputable def anyBadA : DatL [.slice 2 [.int .i64, .int .i64], .fn 106 [] []] → Anns := fun ((n, el), ((_, c), _)) => [(2, [], fun fr hp => ⟨Nat, fun g => ⟨frI [.k 5, .t 1, .k 2, .s (.si .i64 (icast g)), .t 10] fr, hp⟩, Nat, fun g => g, fun g => g ≤ firstN (fun k => badSpan (el k).1 (el k).2.1) n, fun g => nsub n g⟩)]
set_option maxRecDepth 100000 in
theorem anyBadI_ok : FnSpec Try.prog 109 _ anyBadI := by
  refine FnSpec.of SQ1_ok mixed (U := 0) (I := anyBadA) Try.func109 rfl (by kernel_rfl) rfl rfl (by decide +kernel) ?_
  rintro ⟨⟨n, el⟩, ⟨⟨⟩, c⟩, ⟨⟩⟩ hpre
  have hn : n ≤ maxLen := hpre
  unfold FnSat
  conv => arg 2; reduce
  unfold maxLen at hn
  have hle := firstN_le (fun k => badSpan (el k).1 (el k).2.1) n
  simp [anyBadI, badS, and_assoc]
  refine ⟨⟨0, rfl, by omega⟩, fun k hk => ⟨fun h1 => ?_, fun h1 => ?_⟩⟩
  · refine And.intro h1 ?_
    refine ⟨fun h2 => ?_, fun h2 => ?_⟩
    · rw [idxN, firstN_at hk (by simpa using h2), if_pos h1]; try simp
    · have := firstN_ge hk (by simpa using h2) h1
      refine ⟨by omega, by omega, k + 1, by omega, by omega, by omega⟩
  · rw [idxN, if_neg (by omega)]
def anyBadC : Spec [.slice 2 [.int .i64, .int .i64], .fn 106 [] []] := ⟨fun x => x.1.1 ≤ maxLen, fun ((n, el), ((_, c), _)) => .sb (anyN (fun k => badSpan (el k).1 (el k).2.1) n)⟩
def anyBadS : Sums := ⟨(109, mkSum _ anyBadI) :: SQ1.one, SQ1.two, SQ1.lo, SQ1.eqs, SQ1.its⟩
theorem anyBadS_ok : SumsOK Try.prog anyBadS := (SQ1_ok.cons Try.func109 (by kernel_rfl) (by kernel_rfl) anyBadI_ok)
set_option maxRecDepth 100000 in
theorem anyBadC_ok : FnSpec Try.prog 88 _ anyBadC := by
  refine FnSpec.of anyBadS_ok mixed (U := 0) (I := fun _ => []) Try.func88 rfl (by kernel_rfl) rfl rfl (by decide +kernel) ?_
  rintro ⟨⟨n, el⟩, ⟨⟨⟩, c⟩, ⟨⟩⟩ hpre
  unfold FnSat
  conv => arg 2; reduce
  have hpre : anyBadC.pre ((n, el), (((), c), ())) := hpre
  simp [anyBadC, anyBadI, idxN_nonneg] at hpre ⊢
  exact hpre
@[irreducible] def spansOK (el : Nat → Int × Int × Unit) (n : Nat) : Bool := !(anyN (fun k => badSpan (el k).1 (el k).2.1) n)
@[simp] theorem spansOK_one (el : Nat → Int × Int × Unit) : spansOK el 1 = spanOK (el 0).1 (el 0).2.1 := by
  unfold spansOK badSpan; rw [anyN_one]; simp
@[simp] theorem spansOK_two (el : Nat → Int × Int × Unit) : spansOK el 2 = (spanOK (el 0).1 (el 0).2.1 && spanOK (el 1).1 (el 1).2.1) := by
  unfold spansOK badSpan; rw [anyN_two]; simp
theorem spansOK_iff (el : Nat → Int × Int × Unit) (n : Nat) : spansOK el n = true ↔ ∀ k, k < n → spanOK (el k).1 (el k).2.1 = true := by
  unfold spansOK badSpan; rw [Bool.not_eq_true', anyN_false]; simp
def SQ2 : Sums := ⟨(88, mkSum _ anyBadC) :: SQ1.one, SQ1.two, SQ1.lo, SQ1.eqs, SQ1.its⟩
theorem SQ2_ok : SumsOK Try.prog SQ2 := (SQ1_ok.cons Try.func88 (by kernel_rfl) (by kernel_rfl) anyBadC_ok)
def validS : Spec [spansSh] := ⟨fun x => x.1.1 ≤ maxLen, fun ((n, el), _) => .sb (spansOK el n)⟩
set_option maxRecDepth 100000 in
theorem valid_ok : FnSpec Try.prog 84 _ validS := by
  refine FnSpec.of SQ2_ok mixed (U := 0) (I := fun _ => []) Try.func84 rfl (by kernel_rfl) rfl rfl (by decide +kernel) ?_
  rintro ⟨⟨n, el⟩, ⟨⟩⟩ (hn : n ≤ maxLen)
  unfold FnSat
  conv => arg 2; reduce
  simp [validS, anyBadC, spansOK]
  exact hn
def SQ3 : Sums := ⟨(84, mkSum _ validS) :: SQ2.one, SQ2.two, SQ2.lo, SQ2.eqs, SQ2.its⟩
theorem SQ3_ok : SumsOK Try.prog SQ3 := (SQ2_ok.cons Try.func84 (by kernel_rfl) (by kernel_rfl) valid_ok)
def insideS : Spec [spanSh, spanSh] := ⟨fun _ => True, fun ((a, b, _), (c, d, _), _) => .sb (insB a b c d)⟩
set_option maxRecDepth 100000 in
theorem qinside_ok : FnSpec Try.prog 90 _ insideS := by
  refine FnSpec.of SQ3_ok mixed (U := 0) (I := fun _ => []) Try.func90 rfl (by kernel_rfl) rfl rfl (by decide +kernel) ?_
  rintro ⟨⟨(a : Int), (b : Int), ⟨⟩⟩, ⟨(c : Int), (d : Int), ⟨⟩⟩, ⟨⟩⟩ -
  unfold FnSat
  conv => arg 2; reduce
  simp [insideS, validS, insB, maxLen, decL, rowAt, takeL, dropL]
  intro k hk
  rcases (by omega : k = 0 ∨ k = 1) with rfl | rfl <;> simp [rowAt, takeL, dropL]
def SQ4 : Sums := ⟨(90, mkSum _ insideS) :: SQ3.one, SQ3.two, SQ3.lo, SQ3.eqs, SQ3.its⟩
theorem SQ4_ok : SumsOK Try.prog SQ4 := (SQ3_ok.cons Try.func90 (by kernel_rfl) (by kernel_rfl) qinside_ok)
end Abs
end Go.Proofs.Ytjblicdceafcpaa

/- The check of a system, by the program. -/
namespace Go.Proofs.Ytjblicdceafcpaa
namespace Abs
open Go Go.RowKit
@[irreducible] def outB (a b c d : Int) : Bool := !(insB a b c d)
def outS : Spec [spanSh, .ptr [.int .i64, .int .i64]] := ⟨fun _ => True, fun ((a, b, _), (c, d, _), _) => .sb (outB a b c d)⟩
set_option maxRecDepth 100000 in
theorem out_ok : FnSpec Try.prog 89 _ outS := by
  refine FnSpec.of SQ4_ok mixed (U := 0) (I := fun _ => []) Try.func89 rfl (by kernel_rfl) rfl rfl (by decide +kernel) ?_
  rintro ⟨⟨(a : Int), (b : Int), ⟨⟩⟩, ⟨(c : Int), (d : Int), ⟨⟩⟩, ⟨⟩⟩ -
  unfold FnSat
  conv => arg 2; reduce
  simp [outS, insideS, outB]
def SC0 : Sums := ⟨(89, mkSum _ outS) :: SQ4.one, SQ4.two, SQ4.lo, SQ4.eqs, SQ4.its⟩
theorem SC0_ok : SumsOK Try.prog SC0 := (SQ4_ok.cons Try.func89 (by kernel_rfl) (by kernel_rfl) out_ok)
def anyOutI : Spec [.slice 2 [.int .i64, .int .i64], .fn 89 [] [.ptr [.int .i64, .int .i64]]] := ⟨fun x => x.1.1 ≤ maxLen, fun ((n, el), ((_, c), _)) => .si .i64 (idxN (fun k => outB (el k).1 (el k).2.1 c.1.1 c.1.2.1) n)⟩
noncomputable def anyOutA : DatL [.slice 2 [.int .i64, .int .i64], .fn 89 [] [.ptr [.int .i64, .int .i64]]] → Anns := fun ((n, el), ((_, c), _)) => [(2, [], fun fr hp => ⟨Nat, fun g => ⟨frI [.k 5, .t 1, .k 2, .s (.si .i64 (icast g)), .t 10] fr, hp⟩, Nat, fun g => g, fun g => g ≤ firstN (fun k => outB (el k).1 (el k).2.1 c.1.1 c.1.2.1) n, fun g => nsub n g⟩)]
set_option maxRecDepth 100000 in
theorem anyOutI_ok : FnSpec Try.prog 109 _ anyOutI := by
  refine FnSpec.of SC0_ok mixed (U := 0) (I := anyOutA) Try.func109 rfl (by kernel_rfl) rfl rfl (by decide +kernel) ?_
  rintro ⟨⟨n, el⟩, ⟨⟨⟩, c⟩, ⟨⟩⟩ hpre
  have hn : n ≤ maxLen := hpre
  unfold FnSat
  conv => arg 2; reduce
  unfold maxLen at hn
  have hle := firstN_le (fun k => outB (el k).1 (el k).2.1 c.1.1 c.1.2.1) n
  simp [anyOutI, outS, and_assoc]
  refine ⟨⟨0, rfl, by omega⟩, fun k hk => ⟨fun h1 => ?_, fun h1 => ?_⟩⟩
  · refine And.intro h1 ?_
    refine ⟨fun h2 => ?_, fun h2 => ?_⟩
    · rw [idxN, firstN_at hk (by simpa using h2), if_pos h1]; try simp
    · have := firstN_ge hk (by simpa using h2) h1
      refine ⟨by omega, by omega, k + 1, by omega, by omega, by omega⟩
  · rw [idxN, if_neg (by omega)]
def anyOutC : Spec [.slice 2 [.int .i64, .int .i64], .fn 89 [] [.ptr [.int .i64, .int .i64]]] := ⟨fun x => x.1.1 ≤ maxLen, fun ((n, el), ((_, c), _)) => .sb (anyN (fun k => outB (el k).1 (el k).2.1 c.1.1 c.1.2.1) n)⟩
def anyOutS : Sums := ⟨(109, mkSum _ anyOutI) :: SC0.one, SC0.two, SC0.lo, SC0.eqs, SC0.its⟩
theorem anyOutS_ok : SumsOK Try.prog anyOutS := (SC0_ok.cons Try.func109 (by kernel_rfl) (by kernel_rfl) anyOutI_ok)
set_option maxRecDepth 100000 in
theorem anyOutC_ok : FnSpec Try.prog 88 _ anyOutC := by
  refine FnSpec.of anyOutS_ok mixed (U := 0) (I := fun _ => []) Try.func88 rfl (by kernel_rfl) rfl rfl (by decide +kernel) ?_
  rintro ⟨⟨n, el⟩, ⟨⟨⟩, c⟩, ⟨⟩⟩ hpre
  unfold FnSat
  conv => arg 2; reduce
  have hpre : anyOutC.pre ((n, el), (((), c), ())) := hpre
  simp [anyOutC, anyOutI, idxN_nonneg] at hpre ⊢
  exact hpre
def SC1 : Sums := ⟨(88, (altSum (mkSum _ anyBadC) (mkSum _ anyOutC))) :: SC0.one, SC0.two, SC0.lo, SC0.eqs, SC0.its⟩
theorem SC1_ok : SumsOK Try.prog SC1 := (SC0_ok.add Try.func88 (by kernel_rfl) (by kernel_rfl) (altSum_ok (mkSum_ok anyBadC_ok) (mkSum_ok anyOutC_ok)))
def withinS : Spec [spansSh, .int .i64] := ⟨fun (b, m, _) => b.1 ≤ maxLen ∧ 0 ≤ m ∧ m ≤ 1099511627776, fun (b, m, _) => .sb (nearV (bxOf b) m)⟩
set_option maxRecDepth 100000 in
theorem within_ok : FnSpec Try.prog 55 _ withinS := by
  refine FnSpec.of SC1_ok mixed (U := 0) (I := fun _ => []) Try.func55 rfl (by kernel_rfl) rfl rfl (by decide +kernel) ?_
  rintro ⟨b, (m : Int), ⟨⟩⟩ ⟨(hn : b.1 ≤ maxLen), (h1 : 0 ≤ m), (h2 : m ≤ 1099511627776)⟩
  obtain ⟨b, rfl⟩ := bx_ex b
  unfold FnSat
  conv => arg 2; reduce
  simp [withinS, anyOutC, and_assoc]
  refine ⟨by omega, by omega, hn, ?_⟩
  unfold nearV outB
  rw [anyN_all]
  simp [insB_near h1 h2]
def SC2 : Sums := ⟨(55, mkSum _ withinS) :: SC1.one, SC1.two, SC1.lo, SC1.eqs, SC1.its⟩
theorem SC2_ok : SumsOK Try.prog SC2 := (SC1_ok.cons Try.func55 (by kernel_rfl) (by kernel_rfl) within_ok)
@[irreducible] def boxB (b : Bx) (n : Int) : Bool := decide ((b.len : Int) = n) && nearV b 10000
def boxS : Spec [spansSh, .ptr [.int .i64]] := ⟨fun (b, _) => b.1 ≤ maxLen, fun (b, (n, _), _) => .sb (boxB (bxOf b) n)⟩
set_option maxRecDepth 100000 in
theorem box_ok : FnSpec Try.prog 62 _ boxS := by
  refine FnSpec.of SC2_ok mixed (U := 0) (I := fun _ => []) Try.func62 rfl (by kernel_rfl) rfl rfl (by decide +kernel) ?_
  rintro ⟨b, ⟨(n : Int), ⟨⟩⟩, ⟨⟩⟩ (hn : b.1 ≤ maxLen)
  obtain ⟨b, rfl⟩ := bx_ex b
  unfold FnSat
  conv => arg 2; reduce
  simp [boxS, withinS, boxB, and_assoc]
  exact ⟨fun _ => hn, by rw [Bool.eq_iff_iff]; simp⟩
def SC3 : Sums := ⟨(62, mkSum _ boxS) :: SC2.one, SC2.two, SC2.lo, SC2.eqs, SC2.its⟩
theorem SC3_ok : SumsOK Try.prog SC3 := (SC2_ok.cons Try.func62 (by kernel_rfl) (by kernel_rfl) box_ok)
def nboxS : Spec [spansSh, .ptr [.fn 62 [] [.ptr [.int .i64]]]] := ⟨fun (b, _) => b.1 ≤ maxLen, fun (b, ((_, (n, _), _), _), _) => .sb (bnot (boxB (bxOf b) n))⟩
set_option maxRecDepth 100000 in
theorem nbox_ok : FnSpec Try.prog 65 _ nboxS := by
  refine FnSpec.of SC3_ok mixed (U := 0) (I := fun _ => []) Try.func65 rfl (by kernel_rfl) rfl rfl (by decide +kernel) ?_
  rintro ⟨b, ⟨⟨⟨⟩, ⟨(n : Int), ⟨⟩⟩, ⟨⟩⟩, ⟨⟩⟩, ⟨⟩⟩ (hn : b.1 ≤ maxLen)
  obtain ⟨b, rfl⟩ := bx_ex b
  unfold FnSat
  conv => arg 2; reduce
  simp [nboxS, boxS, and_assoc]
  exact hn
def SC4 : Sums := ⟨(65, mkSum _ nboxS) :: SC3.one, SC3.two, SC3.lo, SC3.eqs, SC3.its⟩
theorem SC4_ok : SumsOK Try.prog SC4 := (SC3_ok.cons Try.func65 (by kernel_rfl) (by kernel_rfl) nbox_ok)
def anyBoxI : Spec [.slice 1 [spansSh], .fn 65 [] [.ptr [.fn 62 [] [.ptr [.int .i64]]]]] := ⟨fun x => x.1.1 ≤ maxLen ∧ ∀ k, k < x.1.1 → (fun (el : Nat → DatL [spansSh]) (c : DatL [.ptr [.fn 62 [] [.ptr [.int .i64]]]]) => (el k).1.1 ≤ maxLen) x.1.2 x.2.1.2, fun ((n, el), ((_, c), _)) => .si .i64 (idxN (fun k => bnot (boxB (bxOf (el k).1) c.1.1.2.1.1)) n)⟩
noncomputable def anyBoxA : DatL [.slice 1 [spansSh], .fn 65 [] [.ptr [.fn 62 [] [.ptr [.int .i64]]]]] → Anns := fun ((n, el), ((_, c), _)) => [(2, [], fun fr hp => ⟨Nat, fun g => ⟨frI [.k 5, .t 1, .k 2, .s (.si .i64 (icast g)), .t 10] fr, hp⟩, Nat, fun g => g, fun g => g ≤ firstN (fun k => bnot (boxB (bxOf (el k).1) c.1.1.2.1.1)) n, fun g => nsub n g⟩)]
set_option maxRecDepth 100000 in
theorem anyBoxI_ok : FnSpec Try.prog 93 _ anyBoxI := by
  refine FnSpec.of SC4_ok mixed (U := 0) (I := anyBoxA) Try.func93 rfl (by kernel_rfl) rfl rfl (by decide +kernel) ?_
  rintro ⟨⟨n, el⟩, ⟨⟨⟩, c⟩, ⟨⟩⟩ hpre
  have hn : n ≤ maxLen := hpre.1
  have hp := hpre.2
  unfold FnSat
  conv => arg 2; reduce
  unfold maxLen at hn
  have hle := firstN_le (fun k => bnot (boxB (bxOf (el k).1) c.1.1.2.1.1)) n
  simp [anyBoxI, nboxS, and_assoc]
  refine ⟨⟨0, rfl, by omega⟩, fun k hk => ⟨fun h1 => ?_, fun h1 => ?_⟩⟩
  · refine And.intro h1 ?_
    have hq := hp k h1
    repeat refine And.intro (by first | exact hq | exact hq.1 | exact hq.2 | exact hq.2.1 | exact hq.2.2 | exact hq.2.2.1 | exact hq.2.2.2) ?_
    refine ⟨fun h2 => ?_, fun h2 => ?_⟩
    · rw [idxN, firstN_at hk (by simpa using h2), if_pos h1]; try simp
    · have := firstN_ge hk (by simpa using h2) h1
      refine ⟨by omega, by omega, k + 1, by omega, by omega, by omega⟩
  · rw [idxN, if_neg (by omega)]
def anyBoxC : Spec [.slice 1 [spansSh], .fn 65 [] [.ptr [.fn 62 [] [.ptr [.int .i64]]]]] := ⟨fun x => x.1.1 ≤ maxLen ∧ ∀ k, k < x.1.1 → (fun (el : Nat → DatL [spansSh]) (c : DatL [.ptr [.fn 62 [] [.ptr [.int .i64]]]]) => (el k).1.1 ≤ maxLen) x.1.2 x.2.1.2, fun ((n, el), ((_, c), _)) => .sb (anyN (fun k => bnot (boxB (bxOf (el k).1) c.1.1.2.1.1)) n)⟩
def anyBoxS : Sums := ⟨(93, mkSum _ anyBoxI) :: SC4.one, SC4.two, SC4.lo, SC4.eqs, SC4.its⟩
theorem anyBoxS_ok : SumsOK Try.prog anyBoxS := (SC4_ok.cons Try.func93 (by kernel_rfl) (by kernel_rfl) anyBoxI_ok)
set_option maxRecDepth 100000 in
theorem anyBoxC_ok : FnSpec Try.prog 64 _ anyBoxC := by
  refine FnSpec.of anyBoxS_ok mixed (U := 0) (I := fun _ => []) Try.func64 rfl (by kernel_rfl) rfl rfl (by decide +kernel) ?_
  rintro ⟨⟨n, el⟩, ⟨⟨⟩, c⟩, ⟨⟩⟩ hpre
  unfold FnSat
  conv => arg 2; reduce
  have hpre : anyBoxC.pre ((n, el), (((), c), ())) := hpre
  simp [anyBoxC, anyBoxI, idxN_nonneg] at hpre ⊢
  exact hpre
def SC5 : Sums := ⟨(64, mkSum _ anyBoxC) :: SC4.one, SC4.two, SC4.lo, SC4.eqs, SC4.its⟩
theorem SC5_ok : SumsOK Try.prog SC5 := (SC4_ok.cons Try.func64 (by kernel_rfl) (by kernel_rfl) anyBoxC_ok)
@[irreducible] def farB (n m : Int) : Bool := decide (n < -m) || decide (m < n)
def shiftS : Spec [.int .i64] := ⟨fun _ => True, fun (n, _) => .sb (farB n 10000)⟩
set_option maxRecDepth 100000 in
theorem shf_ok : FnSpec Try.prog 95 _ shiftS := by
  refine FnSpec.of SC5_ok mixed (U := 0) (I := fun _ => []) Try.func95 rfl (by kernel_rfl) rfl rfl (by decide +kernel) ?_
  rintro ⟨(n : Int), ⟨⟩⟩ -
  unfold FnSat
  conv => arg 2; reduce
  simp [shiftS, farB]
def SC6 : Sums := ⟨(95, mkSum _ shiftS) :: SC5.one, SC5.two, SC5.lo, SC5.eqs, SC5.its⟩
theorem SC6_ok : SumsOK Try.prog SC6 := (SC5_ok.cons Try.func95 (by kernel_rfl) (by kernel_rfl) shf_ok)
def anyShI : Spec [.slice 1 [.int .i64], .fn 95 [] []] := ⟨fun x => x.1.1 ≤ maxLen, fun ((n, el), ((_, c), _)) => .si .i64 (idxN (fun k => farB (el k).1 10000) n)⟩
noncomputable def anyShA : DatL [.slice 1 [.int .i64], .fn 95 [] []] → Anns := fun ((n, el), ((_, c), _)) => [(2, [], fun fr hp => ⟨Nat, fun g => ⟨frI [.k 5, .t 1, .k 2, .s (.si .i64 (icast g)), .t 10] fr, hp⟩, Nat, fun g => g, fun g => g ≤ firstN (fun k => farB (el k).1 10000) n, fun g => nsub n g⟩)]
set_option maxRecDepth 100000 in
theorem anyShI_ok : FnSpec Try.prog 91 _ anyShI := by
  refine FnSpec.of SC6_ok mixed (U := 0) (I := anyShA) Try.func91 rfl (by kernel_rfl) rfl rfl (by decide +kernel) ?_
  rintro ⟨⟨n, el⟩, ⟨⟨⟩, c⟩, ⟨⟩⟩ hpre
  have hn : n ≤ maxLen := hpre
  unfold FnSat
  conv => arg 2; reduce
  unfold maxLen at hn
  have hle := firstN_le (fun k => farB (el k).1 10000) n
  simp [anyShI, shiftS, and_assoc]
  refine ⟨⟨0, rfl, by omega⟩, fun k hk => ⟨fun h1 => ?_, fun h1 => ?_⟩⟩
  · refine And.intro h1 ?_
    refine ⟨fun h2 => ?_, fun h2 => ?_⟩
    · rw [idxN, firstN_at hk (by simpa using h2), if_pos h1]; try simp
    · have := firstN_ge hk (by simpa using h2) h1
      refine ⟨by omega, by omega, k + 1, by omega, by omega, by omega⟩
  · rw [idxN, if_neg (by omega)]
def anyShC : Spec [.slice 1 [.int .i64], .fn 95 [] []] := ⟨fun x => x.1.1 ≤ maxLen, fun ((n, el), ((_, c), _)) => .sb (anyN (fun k => farB (el k).1 10000) n)⟩
def anyShS : Sums := ⟨(91, mkSum _ anyShI) :: SC6.one, SC6.two, SC6.lo, SC6.eqs, SC6.its⟩
theorem anyShS_ok : SumsOK Try.prog anyShS := (SC6_ok.cons Try.func91 (by kernel_rfl) (by kernel_rfl) anyShI_ok)
set_option maxRecDepth 100000 in
theorem anyShC_ok : FnSpec Try.prog 58 _ anyShC := by
  refine FnSpec.of anyShS_ok mixed (U := 0) (I := fun _ => []) Try.func58 rfl (by kernel_rfl) rfl rfl (by decide +kernel) ?_
  rintro ⟨⟨n, el⟩, ⟨⟨⟩, c⟩, ⟨⟩⟩ hpre
  unfold FnSat
  conv => arg 2; reduce
  have hpre : anyShC.pre ((n, el), (((), c), ())) := hpre
  simp [anyShC, anyShI, idxN_nonneg] at hpre ⊢
  exact hpre
def SC7 : Sums := ⟨(58, mkSum _ anyShC) :: SC6.one, SC6.two, SC6.lo, SC6.eqs, SC6.its⟩
theorem SC7_ok : SumsOK Try.prog SC7 := (SC6_ok.cons Try.func58 (by kernel_rfl) (by kernel_rfl) anyShC_ok)
def modeS : Spec [modeSh, .int .i64] := ⟨fun (m, n, _) => n ≤ 3 ∧ m.2.1.1 ≤ maxLen ∧ m.2.2.1.1 ≤ maxLen, fun (m, n, _) => .sb (modeB (mdOf m) n)⟩
noncomputable def modeI : DatL [modeSh, .int .i64] → Anns := fun (m, n, _) => [(7, [], fun fr hp => ⟨Nat, fun g => ⟨frI [.k 7, .t 1, .k 1, .t 1, .k 21, .s (.si .i64 (icast g)), .t 42] fr,
  putC hp 1 [.sb (usedB (mdOf m) g 0), .sb (usedB (mdOf m) g 1), .sb (usedB (mdOf m) g 2)]⟩, Nat × Mo × Int, fun g => (g, mdOf m, n), fun (g, m, n) => g ≤ m.nfl ∧ ∀ j, j < g → flowB m n j = true, fun g => nsub m.2.2.1.1 g⟩)]
set_option maxRecDepth 100000 in
theorem mode_ok : FnSpec Try.prog 68 _ modeS := by
  refine FnSpec.of SC7_ok mixed (U := 3) (I := modeI) Try.func68 rfl (by kernel_rfl) rfl rfl (by decide +kernel) ?_
  rintro ⟨m, (n : Int), ⟨⟩⟩ ⟨(h1 : n ≤ 3), (h2 : m.2.1.1 ≤ maxLen), (h3 : m.2.2.1.1 ≤ maxLen)⟩
  obtain ⟨m, rfl⟩ := md_ex m
  unfold FnSat
  conv => arg 2; reduce
  have h2 : m.nsh ≤ maxLen := h2
  have h3 : m.nfl ≤ maxLen := h3
  unfold maxLen at h2 h3
  have hm : ∀ {g : Nat}, g < m.nfl → (flowB m n g = true → False) → modeB m n = false := fun {g} hg hf => by
    cases hb : modeB m n with
    | false => rfl
    | true => exact (hf ((modeB_iff.1 hb).2.2.2.2 g hg)).elim
  have hm0 : (modeB m n = true → False) → modeB m n = false := fun h => by
    cases hb : modeB m n with
    | false => rfl
    | true => exact (h hb).elim
  have hall : anyN (fun k => farB (m.sh k) 10000) m.nsh = false → ∀ k, k < m.nsh → -10000 ≤ m.sh k ∧ m.sh k ≤ 10000 := fun h k hk => by
    have := anyN_false.1 h k hk
    unfold farB at this; simp at this; omega
  simp [modeS, anyShC, and_assoc]
  refine ⟨fun h => hm0 fun hb => ?_, fun c1 c2 c3 => ⟨by unfold maxLen; omega, fun h => hm0 fun hb => ?_, fun h => ⟨⟨0, rfl, usedB_zero .., usedB_zero .., usedB_zero .., by omega, fun j hj => by omega⟩, fun g hg hf => ⟨fun hlt => ?_, fun hge => ?_⟩⟩⟩⟩
  · have := modeB_iff.1 hb; omega
  · obtain ⟨k, hk, hk2⟩ := anyN_iff.1 h
    have := (modeB_iff.1 hb).2.2.2.1 k hk
    unfold farB at hk2; simp at hk2; omega
  · have hnext : 0 ≤ m.fp g → m.fp g ≤ 65536 → ¬m.ff g = m.ft g → 0 ≤ m.ff g → m.ff g < n → 0 ≤ m.ft g → m.ft g < n → usedB m g (m.ff g) = false → usedB m g (m.ft g) = false → ∀ j, j < g + 1 → flowB m n j = true := fun a1 a2 a3 a4 a5 a6 a7 a8 a9 j hj => by
      by_cases h : j < g
      · exact hf j h
      · obtain rfl : j = g := by omega
        exact flowB_iff.2 ⟨a1, a2, a3, a4, a5, a6, a7, a8, a9⟩
    have hu := fun i => usedB_succ m g i
    have hA : ∀ i, (0 ≤ m.ff g → m.ff g < n → m.ff g = i) → (m.ff g < 0 ∨ n ≤ m.ff g) ∨ usedB m g i = true → modeB m n = false := fun i e h => hm hlt fun hb => by
      have hb := flowB_iff.1 hb
      rcases h with h | h
      · omega
      · rw [e (by omega) (by omega)] at hb; rw [h] at hb; simp at hb
    have hB : ∀ i, (0 ≤ m.ft g → m.ft g < n → m.ft g = i) → (m.ft g < 0 ∨ n ≤ m.ft g) ∨ usedB m g i = true → modeB m n = false := fun i e h => hm hlt fun hb => by
      have hb := flowB_iff.1 hb
      rcases h with h | h
      · omega
      · rw [e (by omega) (by omega)] at hb; rw [h] at hb; simp at hb
    repeat' (first | refine And.intro ?_ ?_ | intro _)
    all_goals first
      | omega
      | exact hA 0 (by omega) (by assumption)
      | exact hA 1 (by omega) (by assumption)
      | exact hA 2 (by omega) (by assumption)
      | exact hB 0 (by omega) (by assumption)
      | exact hB 1 (by omega) (by assumption)
      | exact hB 2 (by omega) (by assumption)
      | (refine hm hlt fun hb => ?_; have hb := flowB_iff.1 hb; first | omega | (simp_all; done))
      | (have e1 : m.ff g = 0 ∨ m.ff g = 1 ∨ m.ff g = 2 := by omega
         have e2 : m.ft g = 0 ∨ m.ft g = 1 ∨ m.ft g = 2 := by omega
         refine ⟨g + 1, by omega, ?_, ?_, ?_, by omega, hnext (by omega) (by omega) (by omega) (by omega) (by omega) (by omega) (by omega) ?_ ?_, by omega⟩
         all_goals rcases e1 with e1 | e1 | e1 <;> rcases e2 with e2 | e2 | e2 <;> first | omega | (rw [hu, e1, e2]; simp [*]; done) | (rw [hu, e1, e2]; simp; done) | (rw [e1]; assumption) | (rw [e2]; assumption))
  · refine modeB_iff.2 ⟨c1, c2, c3, hall h, fun j hj => hf j (by omega)⟩
end Abs
end Go.Proofs.Ytjblicdceafcpaa

/- The check of a system, by the program: the whole. -/
namespace Go.Proofs.Ytjblicdceafcpaa
namespace Abs
open Go Go.RowKit
def SC8 : Sums := ⟨(68, mkSum _ modeS) :: SC7.one, SC7.two, SC7.lo, SC7.eqs, SC7.its⟩
theorem SC8_ok : SumsOK Try.prog SC8 := (SC7_ok.cons Try.func68 (by kernel_rfl) (by kernel_rfl) mode_ok)
def nmodeS : Spec [modeSh, .ptr [.int .i64]] := ⟨fun (m, (n, _), _) => n ≤ 3 ∧ m.2.1.1 ≤ maxLen ∧ m.2.2.1.1 ≤ maxLen, fun (m, (n, _), _) => .sb (bnot (modeB (mdOf m) n))⟩
set_option maxRecDepth 100000 in
theorem nmode_ok : FnSpec Try.prog 67 _ nmodeS := by
  refine FnSpec.of SC8_ok mixed (U := 0) (I := fun _ => []) Try.func67 rfl (by kernel_rfl) rfl rfl (by decide +kernel) ?_
  rintro ⟨m, ⟨(n : Int), ⟨⟩⟩, ⟨⟩⟩ ⟨(h1 : n ≤ 3), (h2 : m.2.1.1 ≤ maxLen), (h3 : m.2.2.1.1 ≤ maxLen)⟩
  obtain ⟨m, rfl⟩ := md_ex m
  unfold FnSat
  conv => arg 2; reduce
  simp [nmodeS, modeS, and_assoc]
  exact ⟨h1, h2, h3⟩
def SC9 : Sums := ⟨(67, mkSum _ nmodeS) :: SC8.one, SC8.two, SC8.lo, SC8.eqs, SC8.its⟩
theorem SC9_ok : SumsOK Try.prog SC9 := (SC8_ok.cons Try.func67 (by kernel_rfl) (by kernel_rfl) nmode_ok)
def anyMoI : Spec [.slice 3 modeCells, .fn 67 [] [.ptr [.int .i64]]] := ⟨fun x => x.1.1 ≤ maxLen ∧ ∀ k, k < x.1.1 → (fun (el : Nat → DatL modeCells) (c : DatL [.ptr [.int .i64]]) => c.1.1 ≤ 3 ∧ (el k).2.1.1 ≤ maxLen ∧ (el k).2.2.1.1 ≤ maxLen) x.1.2 x.2.1.2, fun ((n, el), ((_, c), _)) => .si .i64 (idxN (fun k => bnot (modeB (mdOf (el k)) c.1.1)) n)⟩
noncomputable def anyMoA : DatL [.slice 3 modeCells, .fn 67 [] [.ptr [.int .i64]]] → Anns := fun ((n, el), ((_, c), _)) => [(2, [], fun fr hp => ⟨Nat, fun g => ⟨frI [.k 5, .t 1, .k 2, .s (.si .i64 (icast g)), .t 10] fr, hp⟩, Nat, fun g => g, fun g => g ≤ firstN (fun k => bnot (modeB (mdOf (el k)) c.1.1)) n, fun g => nsub n g⟩)]
set_option maxRecDepth 100000 in
theorem anyMoI_ok : FnSpec Try.prog 94 _ anyMoI := by
  refine FnSpec.of SC9_ok mixed (U := 0) (I := anyMoA) Try.func94 rfl (by kernel_rfl) rfl rfl (by decide +kernel) ?_
  rintro ⟨⟨n, el⟩, ⟨⟨⟩, c⟩, ⟨⟩⟩ hpre
  have hn : n ≤ maxLen := hpre.1
  have hp := hpre.2
  unfold FnSat
  conv => arg 2; reduce
  unfold maxLen at hn
  have hle := firstN_le (fun k => bnot (modeB (mdOf (el k)) c.1.1)) n
  simp [anyMoI, nmodeS, and_assoc]
  refine ⟨⟨0, rfl, by omega⟩, fun k hk => ⟨fun h1 => ?_, fun h1 => ?_⟩⟩
  · refine And.intro h1 ?_
    have hq := hp k h1
    repeat refine And.intro (by first | exact hq | exact hq.1 | exact hq.2 | exact hq.2.1 | exact hq.2.2 | exact hq.2.2.1 | exact hq.2.2.2) ?_
    refine ⟨fun h2 => ?_, fun h2 => ?_⟩
    · rw [idxN, firstN_at hk (by simpa using h2), if_pos h1]; try simp
    · have := firstN_ge hk (by simpa using h2) h1
      refine ⟨by omega, by omega, k + 1, by omega, by omega, by omega⟩
  · rw [idxN, if_neg (by omega)]
def anyMoC : Spec [.slice 3 modeCells, .fn 67 [] [.ptr [.int .i64]]] := ⟨fun x => x.1.1 ≤ maxLen ∧ ∀ k, k < x.1.1 → (fun (el : Nat → DatL modeCells) (c : DatL [.ptr [.int .i64]]) => c.1.1 ≤ 3 ∧ (el k).2.1.1 ≤ maxLen ∧ (el k).2.2.1.1 ≤ maxLen) x.1.2 x.2.1.2, fun ((n, el), ((_, c), _)) => .sb (anyN (fun k => bnot (modeB (mdOf (el k)) c.1.1)) n)⟩
def anyMoS : Sums := ⟨(94, mkSum _ anyMoI) :: SC9.one, SC9.two, SC9.lo, SC9.eqs, SC9.its⟩
theorem anyMoS_ok : SumsOK Try.prog anyMoS := (SC9_ok.cons Try.func94 (by kernel_rfl) (by kernel_rfl) anyMoI_ok)
set_option maxRecDepth 100000 in
theorem anyMoC_ok : FnSpec Try.prog 66 _ anyMoC := by
  refine FnSpec.of anyMoS_ok mixed (U := 0) (I := fun _ => []) Try.func66 rfl (by kernel_rfl) rfl rfl (by decide +kernel) ?_
  rintro ⟨⟨n, el⟩, ⟨⟨⟩, c⟩, ⟨⟩⟩ hpre
  unfold FnSat
  conv => arg 2; reduce
  have hpre : anyMoC.pre ((n, el), (((), c), ())) := hpre
  simp [anyMoC, anyMoI, idxN_nonneg] at hpre ⊢
  exact hpre
def SC10 : Sums := ⟨(66, mkSum _ anyMoC) :: SC9.one, SC9.two, SC9.lo, SC9.eqs, SC9.its⟩
theorem SC10_ok : SumsOK Try.prog SC10 := (SC9_ok.cons Try.func66 (by kernel_rfl) (by kernel_rfl) anyMoC_ok)
def insS : Spec [sysSh, spansSh] := ⟨fun (s, b, _) => b.1 ≤ (sysOf s).lim.len ∧ b.1 ≤ maxLen ∧ nearV (sysOf s).lim 10000 = true, fun (s, b, _) => .sb (inV (sysOf s).lim (bxOf b))⟩
noncomputable def insI : DatL [sysSh, spansSh] → Anns := fun (s, b, _) => [(2, [], fun fr hp => ⟨Nat, fun g => ⟨frI [.k 5, .t 2, .k 2, .s (.si .i64 (icast g)), .t 13] fr, hp⟩,
  Nat × Sys × Bx, fun g => (g, sysOf s, bxOf b), fun (g, s, b) => g ≤ b.len ∧ ∀ j, j < g → b.lo j ≤ b.hi j ∧ s.lim.lo j ≤ b.lo j ∧ b.hi j ≤ s.lim.hi j, fun g => nsub b.1 g⟩)]
set_option maxRecDepth 100000 in
theorem ins_ok : FnSpec Try.prog 63 _ insS := by
  refine FnSpec.of SC10_ok mixed (U := 0) (I := insI) Try.func63 rfl (by kernel_rfl) rfl rfl (by decide +kernel) ?_
  rintro ⟨s, b, ⟨⟩⟩ ⟨h1, (h2 : b.1 ≤ maxLen), h3⟩
  obtain ⟨s, rfl⟩ := sys_ex s
  obtain ⟨b, rfl⟩ := bx_ex b
  rw [sysOf_D] at h1 h3
  have h1 : b.len ≤ s.lim.len := h1
  have h2 : b.len ≤ maxLen := h2
  unfold maxLen at h2
  have h3 := nearV_iff.1 h3
  unfold FnSat
  conv => arg 2; reduce
  simp [insS, insideS, and_assoc]
  refine ⟨⟨0, rfl, by omega, fun j hj => by omega⟩, fun g hg hf => ⟨fun hlt => ⟨hlt, by omega, fun hn => ?_, fun hy => ⟨by omega, by omega, g + 1, by omega, by omega, fun j hj => ?_, by omega⟩⟩, fun hge => ?_⟩⟩
  · rw [Bool.eq_false_iff] at hn ⊢
    intro hv
    have h4 := inV_iff.1 hv g hlt
    have h5 := h3 g (by omega)
    exact hn (insB_iff.2 ⟨spanOK_iff.2 (by omega), spanOK_iff.2 (by omega), by omega, by omega⟩)
  · by_cases h : j < g
    · exact hf j h
    · obtain rfl : j = g := by omega
      have h4 := insB_iff.1 hy
      have h5 := spanOK_iff.1 h4.1
      omega
  · exact inV_iff.2 fun k hk => hf k (by omega)
def SC11 : Sums := ⟨(63, mkSum _ insS) :: SC10.one, SC10.two, SC10.lo, SC10.eqs, SC10.its⟩
theorem SC11_ok : SumsOK Try.prog SC11 := (SC10_ok.cons Try.func63 (by kernel_rfl) (by kernel_rfl) ins_ok)
def checkS : Spec [sysSh] := ⟨fun (s, _) => 
  (sysOf s).lim.len ≤ maxLen ∧ (sysOf s).st.len ≤ maxLen ∧ (sysOf s).nmd ≤ maxLen ∧ (sysOf s).nld ≤ maxLen ∧ (∀ k, k < (sysOf s).nld → ((sysOf s).ld k).len ≤ maxLen) ∧ ∀ k, k < (sysOf s).nmd → ((sysOf s).md k).nsh ≤ maxLen ∧ ((sysOf s).md k).nfl ≤ maxLen,
  fun (s, _) => .si .i64 (errA (checkB (sysOf s)))⟩
set_option maxRecDepth 100000 in
theorem check_ok : FnSpec Try.prog 22 _ checkS := by
  refine FnSpec.of SC11_ok mixed (U := 0) (I := fun _ => []) Try.func22 rfl (by kernel_rfl) rfl rfl (by decide +kernel) ?_
  rintro ⟨s, ⟨⟩⟩ hpre
  obtain ⟨s, rfl⟩ := sys_ex s
  obtain ⟨p1, p2, p3, p4, p5, p6⟩ := hpre
  rw [sysOf_D] at p1 p2 p3 p4 p5 p6
  unfold FnSat
  conv => arg 2; reduce
  have hb : ∀ b : Bx, boxB b (s.lim.len : Int) = true ↔ b.len = s.lim.len ∧ nearV b 10000 = true := fun b => by unfold boxB; simp; intro _; omega
  have hk : checkB s = true ↔ (1 ≤ (s.lim.len : Int) ∧ (s.lim.len : Int) ≤ 3 ∧ 1 ≤ (s.nmd : Int) ∧ (s.nmd : Int) ≤ 8 ∧ (s.nld : Int) ≤ 48 ∧ boxB s.lim s.lim.len = true ∧ boxB s.st s.lim.len = true ∧ inV s.lim s.st = true ∧
      anyN (fun k => !boxB (s.ld k) s.lim.len) s.nld = false ∧ anyN (fun k => !modeB (s.md k) s.lim.len) s.nmd = false) := by
    rw [checkB_iff, anyN_false, anyN_false, hb, hb]
    simp only [Bool.not_eq_false', hb]
    constructor
    · rintro ⟨a1, a2, a3, a4, a5, a6, a7, a8, a9, a10, a11⟩
      exact ⟨by omega, by omega, by omega, by omega, by omega, ⟨trivial, a6⟩, ⟨a7, a8⟩, a9, a10, a11⟩
    · rintro ⟨a1, a2, a3, a4, a5, ⟨_, a6⟩, ⟨a7, a8⟩, a9, a10, a11⟩
      exact ⟨by omega, by omega, by omega, by omega, by omega, a6, a7, a8, a9, a10, a11⟩
  simp [checkS, boxS, insS, anyBoxC, anyMoC, and_assoc]
  refine ⟨fun _ _ _ _ _ => p1, fun _ _ _ _ _ _ => p2, fun _ _ _ _ _ h1 h2 => ⟨by have := (hb _).1 h2; omega, p2, ((hb _).1 h1).2⟩, fun _ _ _ _ _ _ _ _ => ⟨p4, p5⟩, fun _ h _ _ _ _ _ _ _ => ⟨p3, fun k hk => ⟨h, p6 k hk⟩⟩, fun h => ?_, fun a1 a2 a3 a4 a5 a6 a7 a8 a9 a10 => ?_⟩
  · cases hc : checkB s with
    | false => simp
    | true =>
      exfalso
      obtain ⟨a1, a2, a3, a4, a5, a6, a7, a8, a9, a10⟩ := hk.1 hc
      rw [a6, a7, a8, a9, a10] at h
      simp at h
      omega
  · rw [hk.2 ⟨a1, a2, a3, a4, a5, a6, a7, a8, a9, a10⟩]; simp
end Abs
end Go.Proofs.Ytjblicdceafcpaa

/- The check of a system, by the document. -/
namespace Go.Proofs.Ytjblicdceafcpaa
namespace Abs
open Go Go.RowKit
def SD0 : Sums := ⟨(22, mkSum _ checkS) :: SC11.one, SC11.two, SC11.lo, SC11.eqs, SC11.its⟩
theorem SD0_ok : SumsOK Try.prog SD0 := (SC11_ok.cons Try.func22 (by kernel_rfl) (by kernel_rfl) check_ok)
def inS : Spec [.int .i64, .int .i64, .int .i64] := ⟨fun _ => True, fun (x, lo, hi, _) => .sb (isIn lo x hi)⟩
set_option maxRecDepth 100000 in
theorem rin_ok : FnSpec Try.prog 60 _ inS := by
  refine FnSpec.of SD0_ok mixed (U := 0) (I := fun _ => []) Try.func60 rfl (by kernel_rfl) rfl rfl (by decide +kernel) ?_
  rintro ⟨(x : Int), (lo : Int), (hi : Int), ⟨⟩⟩ -
  unfold FnSat
  conv => arg 2; reduce
  simp [inS, isIn]
def nearS : Spec [spanSh, .int .i64] := ⟨fun (_, m, _) => -1099511627776 ≤ m ∧ m ≤ 1099511627776, fun ((a, b, _), m, _) => .sb (nearB a b m)⟩
set_option maxRecDepth 100000 in
theorem rspan_ok : FnSpec Try.prog 96 _ nearS := by
  refine FnSpec.of SD0_ok mixed (U := 0) (I := fun _ => []) Try.func96 rfl (by kernel_rfl) rfl rfl (by decide +kernel) ?_
  rintro ⟨⟨(a : Int), (b : Int), ⟨⟩⟩, (m : Int), ⟨⟩⟩ ⟨(h1 : -1099511627776 ≤ m), (h2 : m ≤ 1099511627776)⟩
  unfold FnSat
  conv => arg 2; reduce
  simp [nearS, nearB]
  omega
def SD1 : Sums := ⟨(96, mkSum _ nearS) :: (60, mkSum _ inS) :: SD0.one, SD0.two, SD0.lo, SD0.eqs, SD0.its⟩
theorem SD1_ok : SumsOK Try.prog SD1 := ((SD0_ok.cons Try.func60 (by kernel_rfl) (by kernel_rfl) rin_ok).cons Try.func96 (by kernel_rfl) (by kernel_rfl) rspan_ok)
@[irreducible] def boxM (b : Bx) (n m : Int) : Bool := decide ((b.len : Int) = n) && nearV b m
theorem boxM_iff {b : Bx} {n m : Int} : boxM b n m = true ↔ (b.len : Int) = n ∧ nearV b m = true := by unfold boxM; simp
def spansS : Spec [spansSh, .int .i64, .int .i64] := ⟨fun (b, _, m, _) => b.1 ≤ maxLen ∧ -1099511627776 ≤ m ∧ m ≤ 1099511627776, fun (b, n, m, _) => .sb (boxM (bxOf b) n m)⟩
noncomputable def spansI : DatL [spansSh, .int .i64, .int .i64] → Anns := fun (b, _, m, _) => [(4, [], fun fr hp => ⟨Nat, fun g => ⟨frI [.k 7, .s (.si .i64 (icast g)), .k 4, .t 13] fr, hp⟩,
  Nat × Bx × Int, fun g => (g, bxOf b, m), fun (g, b, m) => g ≤ b.len ∧ ∀ j, j < g → nearB (b.lo j) (b.hi j) m = true, fun g => nsub b.1 g⟩)]
set_option maxRecDepth 100000 in
theorem rspans_ok : FnSpec Try.prog 69 _ spansS := by
  refine FnSpec.of SD1_ok mixed (U := 0) (I := spansI) Try.func69 rfl (by kernel_rfl) rfl rfl (by decide +kernel) ?_
  rintro ⟨b, (n : Int), (m : Int), ⟨⟩⟩ ⟨(h0 : b.1 ≤ maxLen), (h1 : -1099511627776 ≤ m), (h2 : m ≤ 1099511627776)⟩
  obtain ⟨b, rfl⟩ := bx_ex b
  have h0 : b.len ≤ maxLen := h0
  unfold maxLen at h0
  unfold FnSat
  conv => arg 2; reduce
  simp [spansS, nearS, and_assoc]
  refine ⟨fun hn => ?_, fun hn => ⟨⟨0, rfl, by omega, fun j hj => by omega⟩, fun g hg hf => ⟨fun hlt => ⟨hlt, h1, h2, fun hy => ?_, fun hy => ⟨by omega, by omega, g + 1, by omega, by omega, fun j hj => ?_, by omega⟩⟩, fun hge => ?_⟩⟩⟩
  · unfold boxM; simp [hn]
  · unfold boxM nearV; rw [allN_not hlt hy]; simp
  · by_cases h : j < g
    · exact hf j h
    · obtain rfl : j = g := by omega
      exact hy
  · rw [boxM_iff, nearV_iff]
    exact ⟨hn, fun k hk => nearB_iff.1 (hf k (by omega))⟩
def SD2 : Sums := ⟨(69, mkSum _ spansS) :: SD1.one, SD1.two, SD1.lo, SD1.eqs, SD1.its⟩
theorem SD2_ok : SumsOK Try.prog SD2 := (SD1_ok.cons Try.func69 (by kernel_rfl) (by kernel_rfl) rspans_ok)
@[irreducible] def rinV (l b : Bx) : Bool := decide (b.len = l.len) && inV l b
theorem rinV_iff {l b : Bx} : rinV l b = true ↔ b.len = l.len ∧ inV l b = true := by unfold rinV; simp
def rinsS : Spec [sysSh, spansSh] := ⟨fun (s, b, _) => b.1 ≤ maxLen, fun (s, b, _) => .sb (rinV (sysOf s).lim (bxOf b))⟩
noncomputable def rinsI : DatL [sysSh, spansSh] → Anns := fun (s, b, _) => [(4, [], fun fr hp => ⟨Nat, fun g => ⟨frI [.k 5, .s (.si .i64 (icast g)), .k 6, .t 45] fr, hp⟩,
  Nat × Sys × Bx, fun g => (g, sysOf s, bxOf b), fun (g, s, b) => g ≤ b.len ∧ ∀ j, j < g → b.lo j ≤ b.hi j ∧ s.lim.lo j ≤ b.lo j ∧ b.hi j ≤ s.lim.hi j, fun g => nsub b.1 g⟩)]
set_option maxRecDepth 100000 in
theorem rins_ok : FnSpec Try.prog 70 _ rinsS := by
  refine FnSpec.of SD2_ok mixed (U := 0) (I := rinsI) Try.func70 rfl (by kernel_rfl) rfl rfl (by decide +kernel) ?_
  rintro ⟨s, b, ⟨⟩⟩ (h0 : b.1 ≤ maxLen)
  obtain ⟨s, rfl⟩ := sys_ex s
  obtain ⟨b, rfl⟩ := bx_ex b
  have h0 : b.len ≤ maxLen := h0
  unfold maxLen at h0
  unfold FnSat
  conv => arg 2; reduce
  simp [rinsS, rinV, and_assoc]
  refine ⟨fun hn => ?_, fun hn => ⟨⟨0, rfl, by omega, fun j hj => by omega⟩, fun g hg hf => ⟨fun hlt => ⟨hlt, fun _ => hlt, fun _ => by omega, fun _ _ => hlt, fun _ _ => by omega, fun h _ => ?_, fun a1 a2 a3 => ⟨by omega, by omega, g + 1, by omega, by omega, fun j hj => ?_, by omega⟩⟩, fun hge => ⟨by omega, inV_iff.2 fun k hk => hf k (by omega)⟩⟩⟩⟩
  · omega
  · rw [Bool.eq_false_iff]; intro hv
    have := inV_iff.1 hv g hlt
    omega
  · by_cases h : j < g
    · exact hf j h
    · obtain rfl : j = g := by omega
      exact ⟨a1, a2, a3⟩
def rmodeS : Spec [modeSh, .int .i64] := ⟨fun (m, n, _) => 0 ≤ n ∧ n ≤ 3 ∧ m.2.1.1 ≤ maxLen ∧ m.2.2.1.1 ≤ maxLen, fun (m, n, _) => .sb (modeB (mdOf m) n)⟩
noncomputable def rmodeI : DatL [modeSh, .int .i64] → Anns := fun (m, n, _) => [
  (4, [], fun fr hp => ⟨Nat, fun g => ⟨frI [.k 5, .s (.si .i64 (icast g)), .k 14, .t 81] fr, hp⟩, Nat × Mo × Int, fun g => (g, mdOf m, n), fun (g, m, n) => (g : Int) ≤ n ∧ ∀ j, j < g → -10000 ≤ m.sh j ∧ m.sh j ≤ 10000, fun g => nat (isub n (icast g))⟩),
  (10, [], fun fr hp => ⟨Nat, fun g => ⟨frI [.k 7, .s (.si .i64 (icast g)), .t 1, .k 25, .t 67] fr, putE hp 1 (fun k => [.sb (usedB (mdOf m) g (icast k))])⟩, Nat × Mo × Int, fun g => (g, mdOf m, n), fun (g, m, n) => g ≤ m.nfl ∧ ∀ j, j < g → flowB m n j = true, fun g => nsub m.2.2.1.1 g⟩)]
set_option maxRecDepth 100000 in
theorem rmode_ok : FnSpec Try.prog 71 _ rmodeS := by
  refine FnSpec.of SD2_ok mixed (U := 0) (I := rmodeI) Try.func71 rfl (by kernel_rfl) rfl rfl (by decide +kernel) ?_
  rintro ⟨m, (n : Int), ⟨⟩⟩ ⟨(h0 : 0 ≤ n), (h1 : n ≤ 3), (h2 : m.2.1.1 ≤ maxLen), (h3 : m.2.2.1.1 ≤ maxLen)⟩
  obtain ⟨m, rfl⟩ := md_ex m
  have h2 : m.nsh ≤ maxLen := h2
  have h3 : m.nfl ≤ maxLen := h3
  unfold maxLen at h2 h3
  unfold FnSat
  conv => arg 2; reduce
  have hm0 : (modeB m n = true → False) → modeB m n = false := fun h => by
    cases hb : modeB m n with
    | false => rfl
    | true => exact (h hb).elim
  simp [rmodeS, inS, isIn, maxRow, ElEq, aliveB, getB, and_assoc]
  refine ⟨fun h => hm0 fun hb => ?_, fun c1 c2 c3 => ⟨⟨0, rfl, by omega, fun j hj => by omega⟩, fun g hg hf => ⟨fun hlt => ⟨by omega, fun h => hm0 fun hb => ?_, fun a1 a2 => ⟨by omega, by omega, g + 1, by omega, by omega, fun j hj => ?_, by omega⟩⟩,
    fun hge => ⟨h0, by omega, ⟨0, rfl, fun j _ => usedB_zero .., by omega, fun j hj => by omega⟩, fun g' hg' hf' => ⟨fun hlt' => ⟨hlt', by omega, by omega, fun h => hm0 fun hb => ?_,
      fun a1 a2 a3 a4 a5 a6 a7 a8 a9 => ⟨a1, by omega, a3, by omega, by omega, by omega, g' + 1, by omega, fun j hj => ?_, by omega, fun j hj => ?_, by omega⟩⟩, fun hge' => ?_⟩⟩⟩⟩⟩
  · have := modeB_iff.1 hb; omega
  · have := (modeB_iff.1 hb).2.2.2.1 g (by omega); omega
  · by_cases h : j < g
    · exact hf j h
    · obtain rfl : j = g := by omega
      exact ⟨a1, a2⟩
  · have hfl := flowB_iff.1 ((modeB_iff.1 hb).2.2.2.2 g' hlt')
    rw [show max (m.ff g') 0 = m.ff g' by omega, show max (m.ft g') 0 = m.ft g' by omega, hfl.2.2.2.2.2.2.2.1, hfl.2.2.2.2.2.2.2.2] at h
    simp at h
    omega
  · rw [usedB_succ]
    by_cases e1 : j = (m.ft g').toNat
    · have : m.ft g' = (j : Int) := by omega
      simp [← e1, this]
    · by_cases e2 : j = (m.ff g').toNat
      · have : m.ff g' = (j : Int) := by omega
        simp [e1, ← e2, this]
      · have n1 : m.ft g' ≠ (j : Int) := by omega
        have n2 : m.ff g' ≠ (j : Int) := by omega
        simp [e1, e2, n1, n2]
  · by_cases h : j < g'
    · exact hf' j h
    · obtain rfl : j = g' := by omega
      rw [show max (m.ff j) 0 = m.ff j by omega] at a8
      rw [show max (m.ft j) 0 = m.ft j by omega] at a9
      exact flowB_iff.2 ⟨a6, a7, a5, a1, a2, a3, a4, a8, a9⟩
  · exact modeB_iff.2 ⟨c1, c2, c3, fun k hk => hf k (by omega), fun j hj => hf' j (by omega)⟩
def SD3 : Sums := ⟨(71, mkSum _ rmodeS) :: (70, mkSum _ rinsS) :: SD2.one, SD2.two, SD2.lo, SD2.eqs, SD2.its⟩
theorem SD3_ok : SumsOK Try.prog SD3 := ((SD2_ok.cons Try.func70 (by kernel_rfl) (by kernel_rfl) rins_ok).cons Try.func71 (by kernel_rfl) (by kernel_rfl) rmode_ok)
noncomputable def rcheckI : DatL [sysSh] → Anns := fun (s, _) => [
  (5, [], fun fr hp => ⟨Nat, fun g => ⟨frI [.k 4, .s (.si .i64 (icast g)), .k 49, .t 30] fr, hp⟩, Nat × Sys, fun g => (g, sysOf s), fun (g, s) => g ≤ s.nld ∧ ∀ j, j < g → boxM (s.ld j) s.lim.len 10000 = true, fun g => nsub s.2.2.2.1.1 g⟩),
  (10, [], fun fr hp => ⟨Nat, fun g => ⟨frI [.k 5, .s (.si .i64 (icast g)), .k 63, .t 15] fr, hp⟩, Nat × Sys, fun g => (g, sysOf s), fun (g, s) => g ≤ s.nmd ∧ ∀ j, j < g → modeB (s.md j) s.lim.len = true, fun g => nsub s.2.2.1.1 g⟩)]
set_option maxRecDepth 100000 in
theorem rcheck_ok : FnSpec Try.prog 23 _ checkS := by
  refine FnSpec.of SD3_ok mixed (U := 0) (I := rcheckI) Try.func23 rfl (by kernel_rfl) rfl rfl (by decide +kernel) ?_
  rintro ⟨s, ⟨⟩⟩ hpre
  obtain ⟨s, rfl⟩ := sys_ex s
  obtain ⟨p1, p2, p3, p4, p5, p6⟩ := hpre
  rw [sysOf_D] at p1 p2 p3 p4 p5 p6
  unfold maxLen at p1 p2 p3 p4
  unfold FnSat
  conv => arg 2; reduce
  simp [checkS, spansS, rinsS, rmodeS, and_assoc]
  have hf : (checkB s = true → False) → errA (checkB s) = 2 := fun h => by
    cases hc : checkB s with
    | false => simp
    | true => exact (h hc).elim
  refine ⟨fun _ _ _ _ _ => by unfold maxLen; omega, fun _ _ _ _ _ _ => by unfold maxLen; omega, fun _ _ _ _ _ _ _ => by unfold maxLen; omega, fun h => (hf fun hc => ?_).symm, fun a1 a2 a3 a4 a5 a6 a7 a8 =>
    ⟨⟨0, rfl, by omega, fun j hj => by omega⟩, fun g hg hfl => ⟨fun hlt => ⟨hlt, p5 g hlt, fun h => (hf fun hc => ?_).symm, fun h => ⟨by omega, by omega, g + 1, by omega, by omega, fun j hj => ?_, by omega⟩⟩, fun hge =>
    ⟨⟨0, rfl, by omega, fun j hj => by omega⟩, fun g' hg' hfl' => ⟨fun hlt' => ⟨hlt', a2, (p6 g' hlt').1, (p6 g' hlt').2, fun h => (hf fun hc => ?_).symm, fun h => ⟨by omega, by omega, g' + 1, by omega, by omega, fun j hj => ?_, by omega⟩⟩, fun hge' => ?_⟩⟩⟩⟩⟩
  · have := checkB_iff.1 hc
    rw [boxM_iff.2 ⟨rfl, this.2.2.2.2.2.1⟩, boxM_iff.2 ⟨by omega, this.2.2.2.2.2.2.2.1⟩, rinV_iff.2 ⟨this.2.2.2.2.2.2.1, this.2.2.2.2.2.2.2.2.1⟩] at h
    simp at h
    omega
  · have := (checkB_iff.1 hc).2.2.2.2.2.2.2.2.2.1 g hlt
    rw [boxM_iff.2 ⟨by omega, this.2⟩] at h; cases h
  · by_cases h' : j < g
    · exact hfl j h'
    · obtain rfl : j = g := by omega
      exact h
  · have := (checkB_iff.1 hc).2.2.2.2.2.2.2.2.2.2 g' hlt'
    rw [this] at h; cases h
  · by_cases h' : j < g'
    · exact hfl' j h'
    · obtain rfl : j = g' := by omega
      exact h
  · rw [checkB_iff.2 ⟨by omega, by omega, by omega, by omega, by omega, (boxM_iff.1 a6).2, by have := (boxM_iff.1 a7).1; omega, (boxM_iff.1 a7).2, (rinV_iff.1 a8).2, fun k hk => ?_, fun k hk => hfl' k (by omega)⟩]; simp
    have := boxM_iff.1 (hfl k (by omega))
    exact ⟨by omega, this.2⟩
def SD4 : Sums := ⟨(23, mkSum _ checkS) :: SD3.one, SD3.two, SD3.lo, SD3.eqs, SD3.its⟩
theorem SD4_ok : SumsOK Try.prog SD4 := (SD3_ok.cons Try.func23 (by kernel_rfl) (by kernel_rfl) rcheck_ok)
end Abs
end Go.Proofs.Ytjblicdceafcpaa

/- Products divided by a number, digit by digit: in plain Lean. -/
namespace Go.Proofs.Ytjblicdceafcpaa
namespace Abs
open Go

/-- x times the first digits of n, all but i of them -/
@[irreducible] def topP (x n i : Int) : Int := x * (n / 2 ^ i.toNat)
theorem topP_zero (x n : Int) : topP x n 0 = x * n := by unfold topP; simp
theorem topP_top {x n : Int} (h0 : 0 ≤ n) (h1 : n < 17592186044416) : topP x n 44 = 0 := by
  unfold topP
  rw [show (2 : Int) ^ (44 : Int).toNat = 17592186044416 from rfl, Int.ediv_eq_zero_of_lt h0 h1, Int.mul_zero]
/-- the digit i of n -/
@[irreducible] def bitP (n i : Int) : Int := (n / 2 ^ i.toNat) % 2
theorem bitP_or (n i : Int) : bitP n i = 0 ∨ bitP n i = 1 := by unfold bitP; omega
theorem topP_step {x n i : Int} (hi : 0 ≤ i) : topP x n i = 2 * topP x n (i + 1) + bitP n i * x := by
  unfold topP bitP
  have e : (i + 1).toNat = i.toNat + 1 := by omega
  have e2 : (2 : Int) ^ (i + 1).toNat = 2 ^ i.toNat * 2 := by rw [e, Int.pow_succ]
  have e3 : n / (2 ^ i.toNat * 2) = n / 2 ^ i.toNat / 2 := by rw [Int.ediv_ediv_of_nonneg (Int.pow_nonneg (by decide))]
  rw [e2, e3]
  generalize n / 2 ^ i.toNat = y
  have h : y = 2 * (y / 2) + y % 2 := by omega
  calc x * y = x * (2 * (y / 2) + y % 2) := by rw [← h]
    _ = 2 * (x * (y / 2)) + y % 2 * x := by rw [Int.mul_add, Int.mul_left_comm, Int.mul_comm (y % 2) x]
theorem topP_nonneg {x n i : Int} (hx : 0 ≤ x) (hn : 0 ≤ n) : 0 ≤ topP x n i := by
  unfold topP; exact Int.mul_nonneg hx (Int.ediv_nonneg hn (Int.pow_nonneg (by decide)))
theorem topP_mono {x n : Int} (hx : 0 ≤ x) (hn : 0 ≤ n) : ∀ k : Nat, topP x n k ≤ x * n
  | 0 => by rw [show ((0 : Nat) : Int) = 0 from rfl, topP_zero]; exact Int.le_refl _
  | k + 1 => by
    have h1 := topP_mono hx hn k
    have h2 := topP_step (x := x) (n := n) (i := (k : Int)) (by omega)
    have h3 := topP_nonneg (i := ((k : Int) + 1)) hx hn
    rw [show ((k + 1 : Nat) : Int) = (k : Int) + 1 by omega]
    rcases bitP_or n (k : Int) with h | h <;> rw [h] at h2 <;> omega
/-- the quotient and the rest, or 'far' -/
@[irreducible] def whQ (x n d : Int) : Int := if x * n / d ≤ 288230376151711744 then x * n / d else 1152921504606846976
@[irreducible] def whR (x n d : Int) : Int := if x * n / d ≤ 288230376151711744 then x * n % d else 0
theorem wh_uniq {q r d T : Int} (h : q * d + r = T) (h0 : 0 ≤ r) (h1 : r < d) : q = T / d ∧ r = T % d := by
  have hd : 0 < d := by omega
  have := (Int.ediv_emod_unique (a := T) (b := d) (r := r) (q := q) hd).2 ⟨by rw [← h, Int.mul_comm]; omega, h0, h1⟩
  exact ⟨this.1.symm, this.2.symm⟩
theorem wh_far {x n d : Int} {k : Nat} (hx : 0 ≤ x) (hn : 0 ≤ n) (hd : 0 < d) (h : 288230376151711744 < topP x n k / d) : whQ x n d = 1152921504606846976 ∧ whR x n d = 0 := by
  have h1 : topP x n k / d ≤ x * n / d := Int.ediv_le_ediv hd (topP_mono hx hn k)
  unfold whQ whR
  rw [if_neg (by omega), if_neg (by omega)]; exact ⟨rfl, rfl⟩
theorem wh_near {x n d q r : Int} (h : q * d + r = topP x n 0) (h0 : 0 ≤ r) (h1 : r < d) (hq : q ≤ 288230376151711744) : whQ x n d = q ∧ whR x n d = r := by
  rw [topP_zero] at h
  obtain ⟨e1, e2⟩ := wh_uniq h h0 h1
  unfold whQ whR
  rw [← e1, ← e2, if_pos hq, if_pos hq]; exact ⟨rfl, rfl⟩
theorem whQ_b {x n d : Int} (hx : 0 ≤ x) (hn : 0 ≤ n) (hd : 0 < d) : 0 ≤ whQ x n d ∧ whQ x n d ≤ 1152921504606846976 := by
  have : 0 ≤ x * n / d := Int.ediv_nonneg (Int.mul_nonneg hx hn) (Int.le_of_lt hd)
  unfold whQ; split <;> omega
@[irreducible] def absI (x : Int) : Int := if x < 0 then -x else x
theorem absI_neg {x : Int} (h : x < 0) : absI x = -x := by unfold absI; rw [if_pos h]
theorem absI_pos {x : Int} (h : 0 ≤ x) : absI x = x := by unfold absI; rw [if_neg (by omega)]
theorem absI_b {x m : Int} (h1 : -m ≤ x) (h2 : x ≤ m) : 0 ≤ absI x ∧ absI x ≤ m := by unfold absI; split <;> omega
/-- x n / d, rounded down, or far -/
@[irreducible] def dnV (x n d : Int) : Int :=
  if (decide (x < 0) != decide (n < 0)) != decide (d < 0) then -(if 0 < whR (absI x) (absI n) (absI d) then whQ (absI x) (absI n) (absI d) + 1 else whQ (absI x) (absI n) (absI d)) else whQ (absI x) (absI n) (absI d)
/-- for a positive divisor, where it is not far -/
theorem dnV_pos {x n d : Int} (hn : 0 ≤ n) (hd : 0 < d) (h : absI x * n / d ≤ 288230376151711744) : dnV x n d = x * n / d := by
  unfold dnV whQ whR
  rw [absI_pos hn, absI_pos (Int.le_of_lt hd), if_pos h, if_pos h, show decide (n < 0) = false by simp; omega, show decide (d < 0) = false by simp; omega]
  by_cases hx : x < 0
  · rw [absI_neg hx]
    simp [hx]
    have hd0 : d ≠ 0 := by omega
    have e : -x * n = -(x * n) := Int.neg_mul ..
    rw [e]
    generalize x * n = y
    have h1 := Int.emod_add_mul_ediv (-y) d
    have h2 := Int.emod_nonneg (-y) hd0
    have h3 := Int.emod_lt_of_pos (-y) hd
    have h4 := Int.emod_add_mul_ediv y d
    have h5 := Int.emod_nonneg y hd0
    have h6 := Int.emod_lt_of_pos y hd
    generalize hq : -y / d = q at *
    generalize hq' : y / d = q' at *
    generalize hr : -y % d = r at *
    generalize hr' : y % d = r' at *
    have key : d * (q + q') = -(r + r') := by rw [Int.mul_add]; omega
    have k1 : -2 < q + q' := by
      rcases Int.lt_or_le (-2) (q + q') with h | h
      · exact h
      · have := Int.mul_le_mul_of_nonneg_left h (Int.le_of_lt hd); omega
    have k2 : q + q' ≤ 0 := by
      rcases Int.lt_or_le 0 (q + q') with h | h
      · have := Int.mul_le_mul_of_nonneg_left (show 1 ≤ q + q' by omega) (Int.le_of_lt hd); omega
      · exact h
    split
    · rename_i hpos
      have : q + q' ≠ 0 := fun h0 => by rw [h0] at key; omega
      omega
    · have : q + q' = 0 := by
        have hr0 : r = 0 := by omega
        rcases (by omega : q + q' = -1 ∨ q + q' = 0) with h0 | h0
        · rw [h0] at key; omega
        · exact h0
      omega
  · rw [absI_pos (by omega)]
    simp [hx]
theorem wrap_u64 {i : Int} (h0 : 0 ≤ i) (h1 : i < 18446744073709551616) : IntKind.wrap .u64 i = i := by
  simp [IntKind.wrap, IntKind.signed, IntKind.bits]; omega
end Abs
end Go.Proofs.Ytjblicdceafcpaa

/- The document's product by a fraction. -/
namespace Go.Proofs.Ytjblicdceafcpaa
namespace Abs
open Go Go.RowKit
def absS : Spec [.int .i64] := ⟨fun (x, _) => -4398046511104 ≤ x ∧ x ≤ 4398046511104, fun (x, _) => .si .i64 (absI x)⟩
set_option maxRecDepth 100000 in
theorem abs_ok : FnSpec Try.prog 111 _ absS := by
  refine FnSpec.of SD4_ok mixed (U := 0) (I := fun _ => []) Try.func111 rfl (by kernel_rfl) rfl rfl (by decide +kernel) ?_
  rintro ⟨(x : Int), ⟨⟩⟩ ⟨(h1 : -4398046511104 ≤ x), (h2 : x ≤ 4398046511104)⟩
  unfold FnSat
  conv => arg 2; reduce
  simp [absS]
  repeat' (first | refine And.intro ?_ ?_ | intro _)
  all_goals first | omega | (rw [absI_neg (by omega)]; done) | (rw [absI_pos (by omega)]; done)
@[irreducible] def qP (x n d : Int) (k : Nat) : Int := topP x n k / d
@[irreducible] def rP (x n d : Int) (k : Nat) : Int := topP x n k % d
def whS : Spec [.int .i64, .int .i64, .int .i64] := ⟨fun (x, n, d, _) => 0 ≤ x ∧ x ≤ 4398046511104 ∧ 0 ≤ n ∧ n ≤ 4398046511104 ∧ 1 ≤ d ∧ d ≤ 4398046511104, fun (x, n, d, _) => .tup [.si .i64 (whQ x n d), .si .i64 (whR x n d)]⟩
noncomputable def whI : DatL [.int .i64, .int .i64, .int .i64] → Anns := fun ((x : Int), (n : Int), (d : Int), _) => [
  (4, [], fun fr hp => ⟨Nat, fun k => ⟨frI [.k 8, .s (.si .i64 (qP x n d k)), .s (.si .i64 (rP x n d k)), .s (.si .i64 (isub (icast k) 1)), .t 36] fr, hp⟩, Nat × Int × Int × Int, fun k => (k, x, n, d), fun (k, x, n, d) => k ≤ 44 ∧ qP x n d k ≤ 288230376151711744, fun k => k⟩),
  (11, [], fun fr hp => ⟨Int × Int, fun (q, r) => ⟨frI [.k 8, .s (.si .i64 q), .s (.si .i64 r), .k 25, .t 8, .k 4] fr, hp⟩, Int × Int × Int × Int × Int × Int, fun (q, r) => (q, r, x, n, d, intOf (getL fr 10)), fun (q, r, x, n, d, i) => q * d + r = topP x n i ∧ 0 ≤ r ∧ 0 ≤ q ∧ q + r ≤ 1152921504606846976, fun (_, r) => nat r⟩)]
set_option maxRecDepth 100000 in
theorem wh_ok : FnSpec Try.prog 110 _ whS := by
  refine FnSpec.of SD4_ok mixed (U := 0) (I := whI) Try.func110 rfl (by kernel_rfl) rfl rfl (by decide +kernel) ?_
  rintro ⟨(x : Int), (n : Int), (d : Int), ⟨⟩⟩ ⟨(h1 : 0 ≤ x), (h2 : x ≤ 4398046511104), (h3 : 0 ≤ n), (h4 : n ≤ 4398046511104), (h5 : 1 ≤ d), (h6 : d ≤ 4398046511104)⟩
  unfold FnSat
  conv => arg 2; reduce
  simp [whS, and_assoc]
  have hd0 : d ≠ 0 := by omega
  have hx1 := Int.emod_add_mul_ediv x d
  have hx2 := Int.emod_nonneg x hd0
  have hx3 := Int.emod_lt_of_pos x (show 0 < d by omega)
  have hx4 : 0 ≤ x / d := Int.ediv_nonneg h1 (by omega)
  have hx5 : x / d ≤ x := Int.ediv_le_self _ h1
  rw [Int.tdiv_eq_ediv_of_nonneg h1, Int.tmod_eq_emod_of_nonneg h1]
  rw [Int.mul_comm] at hx1
  generalize x / d = q1 at *
  generalize x % d = r1 at *
  refine ⟨⟨44, ?_, ?_, by omega, by omega, ?_⟩, fun g hg hq => ⟨fun hge => ?_, fun hlt => ?_⟩⟩
  · unfold qP; rw [show ((44 : Nat) : Int) = 44 from rfl, topP_top h3 (by omega)]; simp
  · unfold rP; rw [show ((44 : Nat) : Int) = 44 from rfl, topP_top h3 (by omega)]; simp
  · unfold qP; rw [show ((44 : Nat) : Int) = 44 from rfl, topP_top h3 (by omega)]; simp
  · obtain ⟨i, rfl⟩ : ∃ i, g = i + 1 := ⟨g - 1, by omega⟩
    have ei : ((i + 1 : Nat) : Int) - 1 = (i : Int) := by omega
    rw [ei]
    have hw : IntKind.u64.wrap (i : Int) = (i : Int) := wrap_u64 (by omega) (by omega)
    have hbit : (ishr n (IntKind.u64.wrap (i : Int))).tmod 2 = bitP n i := by
      rw [hw]
      unfold ishr bitP
      rw [Int.fdiv_eq_ediv_of_nonneg _ (Int.pow_nonneg (by decide)), Int.tmod_eq_emod_of_nonneg (Int.ediv_nonneg h3 (Int.pow_nonneg (by decide)))]
    rw [hbit, hw]
    have hT := topP_step (x := x) (n := n) (i := (i : Int)) (by omega)
    have e1 : (i : Int) + 1 = ((i + 1 : Nat) : Int) := by omega
    rw [e1] at hT
    have hn0 := topP_nonneg (i := ((i + 1 : Nat) : Int)) h1 h3
    have hq1 := Int.emod_add_mul_ediv (topP x n ((i + 1 : Nat) : Int)) d
    have hq2 := Int.emod_nonneg (topP x n ((i + 1 : Nat) : Int)) hd0
    have hq3 := Int.emod_lt_of_pos (topP x n ((i + 1 : Nat) : Int)) (show 0 < d by omega)
    have hq4 : 0 ≤ topP x n ((i + 1 : Nat) : Int) / d := Int.ediv_nonneg hn0 (by omega)
    rw [Int.mul_comm] at hq1
    have u1 : topP x n ((i + 1 : Nat) : Int) / d = qP x n d (i + 1) := by unfold qP; rfl
    have u2 : topP x n ((i + 1 : Nat) : Int) % d = rP x n d (i + 1) := by unfold rP; rfl
    rw [u1, u2] at hq1
    rw [u2] at hq2 hq3
    rw [u1] at hq4
    clear u1 u2
    generalize qP x n d (i + 1) = q at *
    generalize rP x n d (i + 1) = r at *
    have tail : ∀ a b : Int, a * d + b = topP x n i → 0 ≤ b → 0 ≤ a → a + b ≤ 1152921504606846976 →
        (d ≤ b → -9223372036854775808 ≤ b - d ∧ b - d ≤ 9223372036854775807 ∧ -9223372036854775808 ≤ a + 1 ∧ a + 1 ≤ 9223372036854775807 ∧ (a + 1) * d + (b - d) = topP x n i ∧ d ≤ b ∧ 0 ≤ a + 1 ∧ a + 1 + (b - d) ≤ 1152921504606846976 ∧ max (b - d) 0 < b) ∧
        (b < d → (288230376151711744 < a → 1152921504606846976 = whQ x n d ∧ 0 = whR x n d) ∧
          (a ≤ 288230376151711744 → -9223372036854775808 ≤ (i : Int) - 1 ∧ (i : Int) - 1 ≤ 9223372036854775807 ∧ ∃ g_1 : Nat, a = qP x n d g_1 ∧ b = rP x n d g_1 ∧ (i : Int) = g_1 ∧ g_1 ≤ 44 ∧ qP x n d g_1 ≤ 288230376151711744 ∧ g_1 < i + 1)) := by
      intro a b e b0 a0 ab
      refine ⟨fun hdb => ⟨by omega, by omega, by omega, by omega, by rw [Int.add_mul]; omega, hdb, by omega, by omega, by omega⟩, fun hbd => ?_⟩
      obtain ⟨u1, u2⟩ := wh_uniq e b0 hbd
      refine ⟨fun hfar => ?_, fun hnear => ⟨by omega, by omega, i, ?_, ?_, rfl, by omega, ?_, by omega⟩⟩
      · obtain ⟨v1, v2⟩ := wh_far (k := i) h1 h3 (show 0 < d by omega) (by rw [← u1]; exact hfar)
        rw [v1, v2]; exact ⟨rfl, rfl⟩
      · unfold qP; exact u1
      · unfold rP; exact u2
      · unfold qP; rw [← u1]; exact hnear
    refine ⟨by omega, by omega, by omega, by omega, by omega, by simp [IntKind.bits]; omega, fun hb => ⟨hd0, by omega, by omega, by omega, by omega, hd0, by omega, by omega, ?_, by omega, by omega, by omega, tail⟩, fun hb => ⟨?_, by omega, by omega, by omega, tail⟩⟩
    · rw [hT, hb, Int.add_mul, Int.mul_assoc]; omega
    · have hb0 : bitP n i = 0 := by rcases bitP_or n i with h | h; exact h; exact absurd h hb
      rw [hT, hb0, Int.mul_assoc]; omega
  · obtain rfl : g = 0 := by omega
    have hq1 := Int.emod_add_mul_ediv (topP x n ((0 : Nat) : Int)) d
    have hq2 := Int.emod_nonneg (topP x n ((0 : Nat) : Int)) hd0
    have hq3 := Int.emod_lt_of_pos (topP x n ((0 : Nat) : Int)) (show 0 < d by omega)
    rw [Int.mul_comm] at hq1
    unfold qP at hq ⊢
    unfold rP
    have := wh_near (x := x) (n := n) (d := d) (q := topP x n ((0 : Nat) : Int) / d) (r := topP x n ((0 : Nat) : Int) % d) (by rw [Int.add_comm]; exact hq1) hq2 hq3 hq
    exact ⟨this.1.symm, this.2.symm⟩
def SW0 : Sums := ⟨(110, mkSum _ whS) :: (111, mkSum _ absS) :: SD4.one, SD4.two, SD4.lo, SD4.eqs, SD4.its⟩
theorem SW0_ok : SumsOK Try.prog SW0 := ((SD4_ok.cons Try.func111 (by kernel_rfl) (by kernel_rfl) abs_ok).cons Try.func110 (by kernel_rfl) (by kernel_rfl) wh_ok)
def dnS : Spec [.int .i64, .int .i64, .int .i64] := ⟨fun ((x : Int), (n : Int), (d : Int), _) => -4398046511104 ≤ x ∧ x ≤ 4398046511104 ∧ -4398046511104 ≤ n ∧ n ≤ 4398046511104 ∧ 1 ≤ absI d ∧ -4398046511104 ≤ d ∧ d ≤ 4398046511104, fun ((x : Int), (n : Int), (d : Int), _) => .si .i64 (dnV x n d)⟩
set_option maxRecDepth 100000 in
theorem dn_ok : FnSpec Try.prog 92 _ dnS := by
  refine FnSpec.of SW0_ok mixed (U := 0) (I := fun _ => []) Try.func92 rfl (by kernel_rfl) rfl rfl (by decide +kernel) ?_
  rintro ⟨(x : Int), (n : Int), (d : Int), ⟨⟩⟩ ⟨(h1 : -4398046511104 ≤ x), (h2 : x ≤ 4398046511104), (h3 : -4398046511104 ≤ n), (h4 : n ≤ 4398046511104), (h5 : 1 ≤ absI d), (h6 : -4398046511104 ≤ d), (h7 : d ≤ 4398046511104)⟩
  unfold FnSat
  conv => arg 2; reduce
  have a1 := absI_b (x := x) (m := 4398046511104) (by omega) (by omega)
  have a2 := absI_b (x := n) (m := 4398046511104) (by omega) (by omega)
  have a3 := absI_b (x := d) (m := 4398046511104) (by omega) (by omega)
  have hb := whQ_b (x := absI x) (n := absI n) (d := absI d) a1.1 a2.1 (by omega)
  simp [dnS, absS, whS, and_assoc]
  have e1 : (decide (x < 0) == decide (n < 0)) = (!decide (d < 0)) → ((decide (x < 0) != decide (n < 0)) != decide (d < 0)) = false := by
    cases decide (x < 0) <;> cases decide (n < 0) <;> cases decide (d < 0) <;> simp
  have e2 : (decide (x < 0) == decide (n < 0)) = decide (d < 0) → ((decide (x < 0) != decide (n < 0)) != decide (d < 0)) = true := by
    cases decide (x < 0) <;> cases decide (n < 0) <;> cases decide (d < 0) <;> simp
  unfold dnV
  refine ⟨h1, h2, h3, h4, h6, h7, a1.1, a1.2, a2.1, a2.2, h5, a3.2, fun h => ?_, fun h => ⟨fun hr => ⟨by omega, by omega, by omega, by omega, ?_⟩, fun hr => ⟨by omega, by omega, ?_⟩⟩⟩
  · rw [e1 h]; simp
  · rw [e2 h, if_pos rfl, if_pos hr]
  · rw [e2 h, if_pos rfl, if_neg (by omega)]
def SW1 : Sums := ⟨(92, mkSum _ dnS) :: SW0.one, SW0.two, SW0.lo, SW0.eqs, SW0.its⟩
theorem SW1_ok : SumsOK Try.prog SW1 := (SW0_ok.cons Try.func92 (by kernel_rfl) (by kernel_rfl) dn_ok)
end Abs
end Go.Proofs.Ytjblicdceafcpaa

/- The next temperatures, in plain Lean. -/
namespace Go.Proofs.Ytjblicdceafcpaa
namespace Abs
open Go

@[irreducible] def nx0 (m : Mo) (t w : Nat → Int) (i : Nat) : Int := t i + m.sh i + w i
/-- what the flow g moves -/
@[irreducible] def xV (m : Mo) (t : Nat → Int) (g : Nat) : Int := (t (m.ff g).toNat - t (m.ft g).toNat) * m.fp g / 65536
@[irreducible] def fl1 (m : Mo) (t : Nat → Int) (g : Nat) (o : Nat → Int) (i : Nat) : Int := if (i : Int) = m.ft g then o i + xV m t g else if (i : Int) = m.ff g then o i - xV m t g else o i
def nxG (m : Mo) (t w : Nat → Int) : Nat → Nat → Int
  | 0 => nx0 m t w
  | g + 1 => fl1 m t g (nxG m t w g)
theorem nxG_zero (m : Mo) (t w : Nat → Int) (i : Nat) : nxG m t w 0 i = nx0 m t w i := rfl
theorem nxG_succ (m : Mo) (t w : Nat → Int) (g i : Nat) : nxG m t w (g + 1) i = fl1 m t g (nxG m t w g) i := rfl
attribute [irreducible] nxG
@[irreducible] def nxV (m : Mo) (t w : Nat → Int) (i : Nat) : Int := nxG m t w m.nfl i
/-- the first g elements of f, then nothing -/
@[irreducible] def fillF (f : Nat → Int) (g k : Nat) : Int := if k < g then f k else 0
theorem fillF_lt {f : Nat → Int} {g k : Nat} (h : k < g) : fillF f g k = f k := by unfold fillF; rw [if_pos h]
theorem fillF_ge {f : Nat → Int} {g k : Nat} (h : g ≤ k) : fillF f g k = 0 := by unfold fillF; rw [if_neg (by omega)]

theorem mul_lo {a p : Int} (ha : 0 ≤ a) (h0 : 0 ≤ p) (h1 : p ≤ 65536) : 0 ≤ a * p / 65536 ∧ a * p / 65536 ≤ a := by
  have e1 := Int.mul_nonneg ha h0
  have e2 := Int.mul_le_mul_of_nonneg_left h1 ha
  omega
theorem mul_hi {a p : Int} (ha : a ≤ 0) (h0 : 0 ≤ p) (h1 : p ≤ 65536) : a ≤ a * p / 65536 ∧ a * p / 65536 ≤ 0 := by
  have e1 := Int.mul_nonneg (show 0 ≤ -a by omega) h0
  have e2 := Int.mul_le_mul_of_nonneg_left h1 (show 0 ≤ -a by omega)
  rw [Int.neg_mul] at e1 e2
  omega
theorem mul_b {a p T : Int} (h1 : -T ≤ a) (h2 : a ≤ T) (h0 : 0 ≤ p) (hp : p ≤ 65536) : -(T * 65536) ≤ a * p ∧ a * p ≤ T * 65536 := by
  rcases Int.lt_or_le a 0 with h | h
  · have e1 := Int.mul_nonneg (show 0 ≤ -a by omega) h0
    have e2 := Int.mul_le_mul_of_nonneg_left hp (show 0 ≤ -a by omega)
    rw [Int.neg_mul] at e1 e2
    omega
  · have e1 := Int.mul_nonneg h h0
    have e2 := Int.mul_le_mul_of_nonneg_left hp h
    omega
theorem ishr16 (a : Int) : ishr a 16 = a / 65536 := by
  unfold ishr
  rw [Int.fdiv_eq_ediv_of_nonneg _ (by decide)]; rfl
/-- what one flow of the mode, at most, does -/
theorem nxV_none {m : Mo} {t w : Nat → Int} {i : Nat} (h : m.nfl = 0) : nxV m t w i = t i + m.sh i + w i := by
  unfold nxV; rw [h, nxG_zero]; unfold nx0; rfl
theorem nxV_one {m : Mo} {t w : Nat → Int} {i : Nat} (h : m.nfl = 1) : nxV m t w i = if (i : Int) = m.ft 0 then t i + m.sh i + w i + xV m t 0 else if (i : Int) = m.ff 0 then t i + m.sh i + w i - xV m t 0 else t i + m.sh i + w i := by
  unfold nxV; rw [h, show (1 : Nat) = 0 + 1 from rfl, nxG_succ]
  unfold fl1
  rw [nxG_zero]; unfold nx0; rfl
/-- a mode's flow, seen at once -/
theorem one_flow {m : Mo} {n : Nat} (h : modeB m (n : Int) = true) (hn : n ≤ 3) (h1 : m.nfl ≠ 0) : m.nfl = 1 ∧ 0 ≤ m.fp 0 ∧ m.fp 0 ≤ 65536 ∧ m.ff 0 ≠ m.ft 0 ∧ 0 ≤ m.ff 0 ∧ m.ff 0 < n ∧ 0 ≤ m.ft 0 ∧ m.ft 0 < n := by
  have := modeB_one h (by omega)
  have hf := flowB_iff.1 ((modeB_iff.1 h).2.2.2.2 0 (by omega))
  exact ⟨by omega, hf.1, hf.2.1, hf.2.2.1, hf.2.2.2.1, hf.2.2.2.2.1, hf.2.2.2.2.2.1, hf.2.2.2.2.2.2.1⟩
theorem mode_sh {m : Mo} {n : Nat} (h : modeB m (n : Int) = true) {k : Nat} (hk : k < n) : -10000 ≤ m.sh k ∧ m.sh k ≤ 10000 :=
  (modeB_iff.1 h).2.2.2.1 k (by have := (modeB_iff.1 h).2.2.1; omega)
theorem nxV_mono {m : Mo} {n : Nat} (h : modeB m (n : Int) = true) (hn : n ≤ 3) {t w t' w' : Nat → Int} (ht : ∀ k, k < n → t k ≤ t' k) (hw : ∀ k, k < n → w k ≤ w' k) {i : Nat} (hi : i < n) : nxV m t w i ≤ nxV m t' w' i := by
  by_cases h1 : m.nfl = 0
  · rw [nxV_none h1, nxV_none h1]; have := ht i hi; have := hw i hi; omega
  · obtain ⟨e, p0, p1, hne, f0, f1, g0, g1⟩ := one_flow h hn h1
    rw [nxV_one e, nxV_one e]
    have a1 := ht i hi
    have a2 := hw i hi
    have a3 := ht (m.ff 0).toNat (by omega)
    have a4 := ht (m.ft 0).toNat (by omega)
    have x1 : xV m t' 0 ≤ xV m t 0 + (t' (m.ff 0).toNat - t (m.ff 0).toNat) := by
      unfold xV
      have := mul_lo (a := t' (m.ff 0).toNat - t (m.ff 0).toNat) (by omega) p0 p1
      have e1 : (t' (m.ff 0).toNat - t' (m.ft 0).toNat) * m.fp 0 ≤ (t (m.ff 0).toNat - t (m.ft 0).toNat) * m.fp 0 + (t' (m.ff 0).toNat - t (m.ff 0).toNat) * 65536 := by
        have e2 : (t' (m.ff 0).toNat - t' (m.ft 0).toNat) * m.fp 0 = (t (m.ff 0).toNat - t (m.ft 0).toNat) * m.fp 0 + (t' (m.ff 0).toNat - t (m.ff 0).toNat) * m.fp 0 - (t' (m.ft 0).toNat - t (m.ft 0).toNat) * m.fp 0 := by
          rw [← Int.add_mul, ← Int.sub_mul]; congr 1; omega
        have e3 := Int.mul_nonneg (show 0 ≤ t' (m.ft 0).toNat - t (m.ft 0).toNat by omega) p0
        have e4 := Int.mul_le_mul_of_nonneg_left p1 (show 0 ≤ t' (m.ff 0).toNat - t (m.ff 0).toNat by omega)
        omega
      omega
    have x2 : xV m t 0 ≤ xV m t' 0 + (t' (m.ft 0).toNat - t (m.ft 0).toNat) := by
      unfold xV
      have e1 : (t (m.ff 0).toNat - t (m.ft 0).toNat) * m.fp 0 ≤ (t' (m.ff 0).toNat - t' (m.ft 0).toNat) * m.fp 0 + (t' (m.ft 0).toNat - t (m.ft 0).toNat) * 65536 := by
        have e2 : (t (m.ff 0).toNat - t (m.ft 0).toNat) * m.fp 0 = (t' (m.ff 0).toNat - t' (m.ft 0).toNat) * m.fp 0 + (t' (m.ft 0).toNat - t (m.ft 0).toNat) * m.fp 0 - (t' (m.ff 0).toNat - t (m.ff 0).toNat) * m.fp 0 := by
          rw [← Int.add_mul, ← Int.sub_mul]; congr 1; omega
        have e3 := Int.mul_nonneg (show 0 ≤ t' (m.ff 0).toNat - t (m.ff 0).toNat by omega) p0
        have e4 := Int.mul_le_mul_of_nonneg_left p1 (show 0 ≤ t' (m.ft 0).toNat - t (m.ft 0).toNat by omega)
        omega
      omega
    split
    · rename_i hh
      rw [show (m.ft 0).toNat = i by omega] at x2
      omega
    · split
      · rename_i hh
        rw [show (m.ff 0).toNat = i by omega] at x1
        omega
      · omega
/-- how far from 0 the next temperatures are -/
theorem nxV_near {m : Mo} {n : Nat} (h : modeB m (n : Int) = true) (hn : n ≤ 3) {t w : Nat → Int} {T W : Int} (ht : ∀ k, k < n → -T ≤ t k ∧ t k ≤ T) (hw : ∀ k, k < n → -W ≤ w k ∧ w k ≤ W) {i : Nat} (hi : i < n) :
    -(T + W + 10000) ≤ nxV m t w i ∧ nxV m t w i ≤ T + W + 10000 := by
  have hs := mode_sh h hi
  have a1 := ht i hi
  have a2 := hw i hi
  by_cases h1 : m.nfl = 0
  · rw [nxV_none h1]; omega
  · obtain ⟨e, p0, p1, hne, f0, f1, g0, g1⟩ := one_flow h hn h1
    rw [nxV_one e]
    have a3 := ht (m.ff 0).toNat (by omega)
    have a4 := ht (m.ft 0).toNat (by omega)
    have hx : (0 ≤ xV m t 0 ∧ xV m t 0 ≤ t (m.ff 0).toNat - t (m.ft 0).toNat) ∨ (t (m.ff 0).toNat - t (m.ft 0).toNat ≤ xV m t 0 ∧ xV m t 0 ≤ 0) := by
      unfold xV
      rcases Int.lt_or_le (t (m.ff 0).toNat - t (m.ft 0).toNat) 0 with h | h
      · right; exact mul_hi (by omega) p0 p1
      · left; exact mul_lo h p0 p1
    split
    · rename_i hh
      rw [show (m.ft 0).toNat = i by omega] at hx a4
      omega
    · split
      · rename_i hh
        rw [show (m.ff 0).toNat = i by omega] at hx a3
        omega
      · omega
theorem xV_near {m : Mo} {n : Nat} (h : modeB m (n : Int) = true) (hn : n ≤ 3) {t : Nat → Int} {T : Int} (ht : ∀ k, k < n → -T ≤ t k ∧ t k ≤ T) (h1 : m.nfl ≠ 0) : -(2 * T) ≤ xV m t 0 ∧ xV m t 0 ≤ 2 * T := by
  obtain ⟨e, p0, p1, hne, f0, f1, g0, g1⟩ := one_flow h hn h1
  have a3 := ht (m.ff 0).toNat (by omega)
  have a4 := ht (m.ft 0).toNat (by omega)
  unfold xV
  rcases Int.lt_or_le (t (m.ff 0).toNat - t (m.ft 0).toNat) 0 with h | h
  · have := mul_hi (a := t (m.ff 0).toNat - t (m.ft 0).toNat) (by omega) p0 p1; omega
  · have := mul_lo h p0 p1; omega
/-- a flow changes no sum -/
theorem nxV_sum {m : Mo} {n : Nat} (h : modeB m (n : Int) = true) (hn : n ≤ 3) (t w : Nat → Int) : ∀ (S : Nat → Int), S 0 = 0 → (∀ i, S (i + 1) = S i + (nxV m t w i - t i - w i - m.sh i)) → S n = 0 := by
  intro S h0 hs
  have key : n = 0 ∨ n = 1 ∨ n = 2 ∨ n = 3 := by omega
  by_cases h1 : m.nfl = 0
  · have hz : ∀ i, S (i + 1) = S i := fun i => by rw [hs, nxV_none h1]; omega
    rcases key with rfl | rfl | rfl | rfl
    · exact h0
    · rw [hz 0, h0]
    · rw [hz 1, hz 0, h0]
    · rw [hz 2, hz 1, hz 0, h0]
  · obtain ⟨e, p0, p1, hne, f0, f1, g0, g1⟩ := one_flow h hn h1
    have hz : ∀ i, S (i + 1) = S i + (if (i : Int) = m.ft 0 then xV m t 0 else if (i : Int) = m.ff 0 then -xV m t 0 else 0) := fun i => by
      rw [hs, nxV_one e]; split <;> (try split) <;> omega
    generalize xV m t 0 = x at hz
    generalize m.ff 0 = a at *
    generalize m.ft 0 = b at *
    have z0 := hz 0
    have z1 := hz 1
    have z2 := hz 2
    rcases key with rfl | rfl | rfl | rfl
    · omega
    · omega
    · have : (a = 0 ∧ b = 1) ∨ (a = 1 ∧ b = 0) := by omega
      rcases this with ⟨rfl, rfl⟩ | ⟨rfl, rfl⟩ <;> simp at z0 z1 <;> omega
    · have : (a = 0 ∨ a = 1 ∨ a = 2) ∧ (b = 0 ∨ b = 1 ∨ b = 2) := by omega
      rcases this with ⟨rfl | rfl | rfl, rfl | rfl | rfl⟩ <;> simp at z0 z1 z2 hne <;> omega
/-- the next box -/
@[irreducible] def adV (s : Sys) (slot mode : Int) (b : Bx) : Bx := ⟨b.len, nxV (s.md mode.toNat) b.lo (s.ld slot.toNat).lo, nxV (s.md mode.toNat) b.hi (s.ld slot.toNat).hi⟩
@[simp] theorem adV_len (s : Sys) (slot mode : Int) (b : Bx) : (adV s slot mode b).len = b.len := by unfold adV; simp
theorem adV_lo (s : Sys) (slot mode : Int) (b : Bx) (k : Nat) : (adV s slot mode b).lo k = nxV (s.md mode.toNat) b.lo (s.ld slot.toNat).lo k := by unfold adV; simp
theorem adV_hi (s : Sys) (slot mode : Int) (b : Bx) (k : Nat) : (adV s slot mode b).hi k = nxV (s.md mode.toNat) b.hi (s.ld slot.toNat).hi k := by unfold adV; simp
/-- what a box may be for the next one to be found -/
structure AdOK (s : Sys) (slot mode : Int) (b : Bx) : Prop where
  n3 : b.len ≤ 3
  sl0 : 0 ≤ slot
  sl1 : slot < s.nld
  mo0 : 0 ≤ mode
  mo1 : mode < s.nmd
  md : modeB (s.md mode.toNat) b.len = true
  ll : (s.ld slot.toNat).len = b.len
  ld : nearV (s.ld slot.toNat) 10000 = true
  nr : ∀ k, k < b.len → -2147483648 ≤ b.lo k ∧ b.lo k ≤ 2147483648 ∧ -2147483648 ≤ b.hi k ∧ b.hi k ≤ 2147483648
end Abs
end Go.Proofs.Ytjblicdceafcpaa

/- The next temperatures: what the functions answer. -/
namespace Go.Proofs.Ytjblicdceafcpaa
namespace Abs
open Go Go.RowKit
structure NxOK (m : Mo) (t w : Vx) : Prop where
  n3 : t.len ≤ 3
  wl : w.len = t.len
  md : modeB m t.len = true
  tn : ∀ k, k < t.len → -2147483648 ≤ t.at k ∧ t.at k ≤ 2147483648
  wn : ∀ k, k < t.len → -2147483648 ≤ w.at k ∧ w.at k ≤ 2147483648
def nextS : SpecN [modeSh, intsSh, intsSh] := ⟨fun (m, t, w, _) => NxOK (mdOf m) (vxOf t) (vxOf w), fun _ => .row 1, fun (m, t, w, _) => [.dead, .row 2 1 (.sym t.1) (fun k => [.si .i64 (nxV (mdOf m) (vxOf t).at (vxOf w).at k)])]⟩
noncomputable def nextI : DatL [modeSh, intsSh, intsSh] → Anns := fun (m, t, w, _) => [
  (3, [], fun fr hp => ⟨Nat, fun g => ⟨frI [.k 8, .t 1, .k 8, .s (.si .i64 (icast g)), .t 61] fr, putE hp 1 (fun k => [.si .i64 (fillF (nx0 (mdOf m) (vxOf t).at (vxOf w).at) g k)])⟩, Nat × Nat, fun g => (g, t.1), fun (g, n) => g ≤ n, fun g => nsub t.1 g⟩),
  (8, [], fun fr hp => ⟨Nat, fun g => ⟨frI [.k 10, .t 2, .k 30, .s (.si .i64 (icast g)), .t 36] fr, putE hp 1 (fun k => [.si .i64 (nxG (mdOf m) (vxOf t).at (vxOf w).at g k)])⟩, Nat × Nat, fun g => (g, m.2.2.1.1), fun (g, n) => g ≤ n, fun g => nsub m.2.2.1.1 g⟩)]
set_option maxRecDepth 100000 in
theorem next_ok : FnSpecN Try.prog 59 _ nextS := by
  refine FnSpecN.of SW1_ok mixed (U := 0) (I := nextI) Try.func59 rfl (by kernel_rfl) rfl rfl (by decide +kernel) ?_
  rintro ⟨m, t, w, ⟨⟩⟩ hpre
  obtain ⟨m, rfl⟩ := md_ex m
  obtain ⟨t, rfl⟩ := vx_ex t
  obtain ⟨w, rfl⟩ := vx_ex w
  have hpre : NxOK m t w := by have : NxOK (mdOf (mdD m)) (vxOf (t.len, fun k => (t.at k, ()))) (vxOf (w.len, fun k => (w.at k, ()))) := hpre; simpa using this
  obtain ⟨p1, p2, p3, p4, p5⟩ := hpre
  unfold FnSat
  conv => arg 2; reduce
  simp [nextS, maxRow, ElEq, aliveB, goneB, getB, and_assoc]
  have hns := (modeB_iff.1 p3).2.2.1
  refine ⟨by omega, ⟨0, rfl, fun j _ => (fillF_ge (by omega)).symm, by omega⟩, fun g hg => ⟨fun hlt => ?_, fun hge => ⟨⟨0, rfl, fun j hj => ?_, by omega⟩, fun g' hg' => ⟨fun hlt' => ?_, fun hge' => ?_⟩⟩⟩⟩
  · have h1 := p4 g hlt
    have h2 := p5 g hlt
    have h3 := mode_sh p3 hlt
    refine ⟨hlt, by omega, by omega, by omega, by omega, by omega, by omega, hlt, by omega, by omega, g + 1, by omega, fun j hj => ?_, by omega, by omega⟩
    by_cases h : j = g
    · subst h; rw [if_pos rfl, fillF_lt (by omega)]; unfold nx0; rfl
    · rw [if_neg h]
      rcases Nat.lt_or_ge j g with h' | h'
      · rw [fillF_lt h', fillF_lt (by omega)]
      · rw [fillF_ge h', fillF_ge (by omega)]
  · rw [fillF_lt (by omega), nxG_zero]
  · have hone := modeB_one p3 (by omega)
    obtain rfl : g' = 0 := by omega
    obtain ⟨e, q0, q1, hne, f0, f1, g0, g1⟩ := one_flow p3 p1 (by omega)
    have h1 := p4 (m.ff 0).toNat (by omega)
    have h2 := p4 (m.ft 0).toNat (by omega)
    have h3 := mul_b (a := t.at (m.ff 0).toNat - t.at (m.ft 0).toNat) (T := 4294967296) (by omega) (by omega) q0 q1
    have h4 := xV_near p3 p1 (T := 2147483648) p4 (by omega)
    have hx : ishr ((t.at (m.ff 0).toNat - t.at (m.ft 0).toNat) * m.fp 0) 16 = xV m t.at 0 := by rw [ishr16]; unfold xV; rfl
    rw [hx]
    have hn : ¬ (m.ft 0).toNat = (m.ff 0).toNat := by omega
    rw [if_neg hn]
    have h5 := mode_sh p3 (k := (m.ff 0).toNat) (by omega)
    have h6 := mode_sh p3 (k := (m.ft 0).toNat) (by omega)
    have h7 := p5 (m.ff 0).toNat (by omega)
    have h8 := p5 (m.ft 0).toNat (by omega)
    have e1 : nxG m t.at w.at 0 (m.ff 0).toNat = t.at (m.ff 0).toNat + m.sh (m.ff 0).toNat + w.at (m.ff 0).toNat := by rw [nxG_zero]; unfold nx0; rfl
    have e2 : nxG m t.at w.at 0 (m.ft 0).toNat = t.at (m.ft 0).toNat + m.sh (m.ft 0).toNat + w.at (m.ft 0).toNat := by rw [nxG_zero]; unfold nx0; rfl
    refine ⟨hlt', f0, f1, g0, g1, by omega, by omega, by omega, by omega, by simp [IntKind.bits], f0, f1, by omega, by omega, f0, f1, g0, g1, by omega, by omega, g0, g1, by omega, by omega, 1, rfl, fun j hj => ?_, by omega, by omega⟩
    rw [show (1 : Nat) = 0 + 1 from rfl, nxG_succ]
    unfold fl1
    by_cases hj1 : j = (m.ft 0).toNat
    · rw [if_pos hj1, if_pos (by omega), hj1]
    · rw [if_neg hj1, if_neg (show ¬ (j : Int) = m.ft 0 by omega)]
      by_cases hj2 : j = (m.ff 0).toNat
      · rw [if_pos hj2, if_pos (by omega), hj2]
      · rw [if_neg hj2, if_neg (by omega)]
  · intro j hj
    unfold nxV
    rw [show g' = m.nfl by omega]
noncomputable def rnextI : DatL [modeSh, intsSh, intsSh] → Anns := fun (m, t, w, _) => [
  (3, [(7, 2, 1)], fun fr hp => ⟨Nat, fun g => ⟨frI [.k 8, .s (.si .i64 (icast g)), .k 3, .t 73] fr, putRL hp (.sym g) (fun k => [.si .i64 (nx0 (mdOf m) (vxOf t).at (vxOf w).at k)])⟩, Nat × Nat, fun g => (g, t.1), fun (g, n) => g ≤ n, fun g => nsub t.1 g⟩),
  (7, [], fun fr hp => ⟨Nat, fun g => ⟨frI [.k 9, .s (.si .i64 (icast g)), .t 2, .k 24, .t 49] fr, putE hp 1 (fun k => [.si .i64 (nxG (mdOf m) (vxOf t).at (vxOf w).at g k)])⟩, Nat × Nat, fun g => (g, m.2.2.1.1), fun (g, n) => g ≤ n, fun g => nsub m.2.2.1.1 g⟩)]
set_option maxRecDepth 100000 in
theorem rnext_ok : FnSpecN Try.prog 61 _ nextS := by
  refine FnSpecN.of SW1_ok mixed (U := 0) (I := rnextI) Try.func61 rfl (by kernel_rfl) rfl rfl (by decide +kernel) ?_
  rintro ⟨m, t, w, ⟨⟩⟩ hpre
  obtain ⟨m, rfl⟩ := md_ex m
  obtain ⟨t, rfl⟩ := vx_ex t
  obtain ⟨w, rfl⟩ := vx_ex w
  have hpre : NxOK m t w := by have : NxOK (mdOf (mdD m)) (vxOf (t.len, fun k => (t.at k, ()))) (vxOf (w.len, fun k => (w.at k, ()))) := hpre; simpa using this
  obtain ⟨p1, p2, p3, p4, p5⟩ := hpre
  unfold FnSat
  conv => arg 2; reduce
  simp [nextS, dnS, maxRow, ElEq, aliveB, goneB, getB, and_assoc]
  have hns := (modeB_iff.1 p3).2.2.1
  refine ⟨⟨0, rfl, rfl, fun j => by omega, by omega⟩, fun g hg => ⟨fun hlt => ?_, fun hge => ⟨⟨0, rfl, fun j hj => ?_, by omega⟩, fun g' hg' => ⟨fun hlt' => ?_, fun hge' => ?_⟩⟩⟩⟩
  · have h1 := p4 g hlt
    have h2 := p5 g hlt
    have h3 := mode_sh p3 hlt
    refine ⟨hlt, by omega, by omega, by omega, by omega, by omega, by omega, by omega, by omega, by omega, g + 1, by omega, rfl, fun j hj => app_one hj (fun _ => rfl) (fun h => ?_), by omega, by omega⟩
    subst h; unfold nx0; rfl
  · rw [nxG_zero]
  · have hone := modeB_one p3 (by omega)
    obtain rfl : g' = 0 := by omega
    obtain ⟨e, q0, q1, hne, f0, f1, g0, g1⟩ := one_flow p3 p1 (by omega)
    have h1 := p4 (m.ff 0).toNat (by omega)
    have h2 := p4 (m.ft 0).toNat (by omega)
    have h4 := xV_near p3 p1 (T := 2147483648) p4 (by omega)
    have hb := absI_b (x := t.at (m.ff 0).toNat - t.at (m.ft 0).toNat) (m := 4294967296) (by omega) (by omega)
    have h3 := mul_b (a := absI (t.at (m.ff 0).toNat - t.at (m.ft 0).toNat)) (T := 4294967296) (by omega) (by omega) q0 q1
    have hx : dnV (t.at (m.ff 0).toNat - t.at (m.ft 0).toNat) (m.fp 0) 65536 = xV m t.at 0 := by rw [dnV_pos q0 (by decide) (by omega)]; unfold xV; rfl
    rw [hx]
    have hn : ¬ (m.ft 0).toNat = (m.ff 0).toNat := by omega
    rw [if_neg hn]
    have h5 := mode_sh p3 (k := (m.ff 0).toNat) (by omega)
    have h6 := mode_sh p3 (k := (m.ft 0).toNat) (by omega)
    have h7 := p5 (m.ff 0).toNat (by omega)
    have h8 := p5 (m.ft 0).toNat (by omega)
    have e1 : nxG m t.at w.at 0 (m.ff 0).toNat = t.at (m.ff 0).toNat + m.sh (m.ff 0).toNat + w.at (m.ff 0).toNat := by rw [nxG_zero]; unfold nx0; rfl
    have e2 : nxG m t.at w.at 0 (m.ft 0).toNat = t.at (m.ft 0).toNat + m.sh (m.ft 0).toNat + w.at (m.ft 0).toNat := by rw [nxG_zero]; unfold nx0; rfl
    have hd : 1 ≤ absI 65536 := by rw [absI_pos (by decide)]; decide
    repeat refine And.intro (by first | assumption | omega) ?_
    refine ⟨1, rfl, fun j hj => ?_, by omega, by omega⟩
    rw [show (1 : Nat) = 0 + 1 from rfl, nxG_succ]
    unfold fl1
    by_cases hj1 : j = (m.ft 0).toNat
    · rw [if_pos hj1, if_pos (by omega), hj1]
    · rw [if_neg hj1, if_neg (show ¬ (j : Int) = m.ft 0 by omega)]
      by_cases hj2 : j = (m.ff 0).toNat
      · rw [if_pos hj2, if_pos (by omega), hj2]
      · rw [if_neg hj2, if_neg (by omega)]
  · refine ⟨by omega, fun j hj => ?_⟩
    unfold nxV
    rw [show g' = m.nfl by omega]
def SN0 : Sums := ⟨(61, mkSumN _ nextS) :: (59, mkSumN _ nextS) :: SW1.one, SW1.two, SW1.lo, SW1.eqs, SW1.its⟩
theorem SN0_ok : SumsOK Try.prog SN0 := ((SW1_ok.add Try.func59 (by kernel_rfl) (by kernel_rfl) (mkSumN_ok next_ok)).add Try.func61 (by kernel_rfl) (by kernel_rfl) (mkSumN_ok rnext_ok))
def farS : Spec [.int .i64] := ⟨fun _ => True, fun (n, _) => .sb (farB n 1073741824)⟩
set_option maxRecDepth 100000 in
theorem far_ok : FnSpec Try.prog 57 _ farS := by
  refine FnSpec.of SN0_ok mixed (U := 0) (I := fun _ => []) Try.func57 rfl (by kernel_rfl) rfl rfl (by decide +kernel) ?_
  rintro ⟨(n : Int), ⟨⟩⟩ -
  unfold FnSat
  conv => arg 2; reduce
  simp [farS, farB]
def SN1 : Sums := ⟨(57, mkSum _ farS) :: SN0.one, SN0.two, SN0.lo, SN0.eqs, SN0.its⟩
theorem SN1_ok : SumsOK Try.prog SN1 := (SN0_ok.cons Try.func57 (by kernel_rfl) (by kernel_rfl) far_ok)
def anyFarI : Spec [.slice 1 [.int .i64], .fn 57 [] []] := ⟨fun x => x.1.1 ≤ maxLen, fun ((n, el), ((_, c), _)) => .si .i64 (idxN (fun k => farB (el k).1 1073741824) n)⟩
noncomputable def anyFarA : DatL [.slice 1 [.int .i64], .fn 57 [] []] → Anns := fun ((n, el), ((_, c), _)) => [(2, [], fun fr hp => ⟨Nat, fun g => ⟨frI [.k 5, .t 1, .k 2, .s (.si .i64 (icast g)), .t 10] fr, hp⟩, Nat, fun g => g, fun g => g ≤ firstN (fun k => farB (el k).1 1073741824) n, fun g => nsub n g⟩)]
set_option maxRecDepth 100000 in
theorem anyFarI_ok : FnSpec Try.prog 91 _ anyFarI := by
  refine FnSpec.of SN1_ok mixed (U := 0) (I := anyFarA) Try.func91 rfl (by kernel_rfl) rfl rfl (by decide +kernel) ?_
  rintro ⟨⟨n, el⟩, ⟨⟨⟩, c⟩, ⟨⟩⟩ hpre
  have hn : n ≤ maxLen := hpre
  unfold FnSat
  conv => arg 2; reduce
  unfold maxLen at hn
  have hle := firstN_le (fun k => farB (el k).1 1073741824) n
  simp [anyFarI, farS, and_assoc]
  refine ⟨⟨0, rfl, by omega⟩, fun k hk => ⟨fun h1 => ?_, fun h1 => ?_⟩⟩
  · refine And.intro h1 ?_
    refine ⟨fun h2 => ?_, fun h2 => ?_⟩
    · rw [idxN, firstN_at hk (by simpa using h2), if_pos h1]; try simp
    · have := firstN_ge hk (by simpa using h2) h1
      refine ⟨by omega, by omega, k + 1, by omega, by omega, by omega⟩
  · rw [idxN, if_neg (by omega)]
def anyFarC : Spec [.slice 1 [.int .i64], .fn 57 [] []] := ⟨fun x => x.1.1 ≤ maxLen, fun ((n, el), ((_, c), _)) => .sb (anyN (fun k => farB (el k).1 1073741824) n)⟩
def anyFarS : Sums := ⟨(91, mkSum _ anyFarI) :: SN1.one, SN1.two, SN1.lo, SN1.eqs, SN1.its⟩
theorem anyFarS_ok : SumsOK Try.prog anyFarS := (SN1_ok.cons Try.func91 (by kernel_rfl) (by kernel_rfl) anyFarI_ok)
set_option maxRecDepth 100000 in
theorem anyFarC_ok : FnSpec Try.prog 58 _ anyFarC := by
  refine FnSpec.of anyFarS_ok mixed (U := 0) (I := fun _ => []) Try.func58 rfl (by kernel_rfl) rfl rfl (by decide +kernel) ?_
  rintro ⟨⟨n, el⟩, ⟨⟨⟩, c⟩, ⟨⟩⟩ hpre
  unfold FnSat
  conv => arg 2; reduce
  have hpre : anyFarC.pre ((n, el), (((), c), ())) := hpre
  simp [anyFarC, anyFarI, idxN_nonneg] at hpre ⊢
  exact hpre
def SN2 : Sums := ⟨(58, (altSum (mkSum _ anyShC) (mkSum _ anyFarC))) :: SN1.one, SN1.two, SN1.lo, SN1.eqs, SN1.its⟩
theorem SN2_ok : SumsOK Try.prog SN2 := (SN1_ok.add Try.func58 (by kernel_rfl) (by kernel_rfl) (altSum_ok (mkSum_ok anyShC_ok) (mkSum_ok anyFarC_ok)))
@[simp] theorem vxOf_at' (n : Nat) (f : Nat → Int) : (vxOf (n, fun k => (f k, ()))).at = f := by funext k; simp
@[irreducible] def pickV (w : Nat) (b : Bx) : Nat → Int := if w = 0 then b.lo else b.hi
theorem pickV_0 (b : Bx) : pickV 0 b = b.lo := by unfold pickV; rfl
theorem pickV_1 (b : Bx) : pickV 1 b = b.hi := by unfold pickV; rfl
def advS : Spec [sysSh, .int .i64, .int .i64, spansSh] := ⟨fun (s, sl, mo, b, _) => AdOK (sysOf s) sl mo (bxOf b), fun (s, sl, mo, b, _) => .slc (.sym b.1) 2 (fun k => [.si .i64 ((adV (sysOf s) sl mo (bxOf b)).lo k), .si .i64 ((adV (sysOf s) sl mo (bxOf b)).hi k)])⟩
def isLi1 : AV → Nat
  | .li _ 0 => 0
  | _ => 1
noncomputable def advI : DatL [sysSh, .int .i64, .int .i64, spansSh] → Anns := fun (s, (sl : Int), (mo : Int), b, _) => [
  (7, [(11, 2, 1), (12, 2, 1)], fun fr hp => ⟨Nat, fun g => ⟨frI [.k 13, .t 3, .k 7, .s (.si .i64 (icast g)), .t 35, .k 35] fr,
    putR (putR hp (lenH hp - 2) (.sym g) (fun k => [.si .i64 (pickV (isLi1 (getL fr 10)) (bxOf b) k)])) (lenH hp - 1) (.sym g) (fun k => [.si .i64 (pickV (isLi1 (getL fr 10)) ((sysOf s).ld (nat sl)) k)])⟩, Nat × Nat, fun g => (g, b.1), fun (g, n) => g ≤ n, fun g => nsub b.1 g⟩),
  (18, [], fun fr hp => ⟨Nat, fun g => ⟨frI [.k 17, .t 1, .k 57, .s (.si .i64 (icast g)), .t 18] fr,
    putE hp (lenH hp - 1) (fun k => [.si .i64 (fillF (adV (sysOf s) sl mo (bxOf b)).lo g k), .si .i64 (fillF (adV (sysOf s) sl mo (bxOf b)).hi g k)])⟩, Nat × Nat, fun g => (g, b.1), fun (g, n) => g ≤ n, fun g => nsub b.1 g⟩)]
set_option maxRecDepth 100000 in
set_option maxHeartbeats 2000000 in
theorem adv_ok : FnSpec Try.prog 56 _ advS := by
  refine FnSpec.of SN2_ok mixed (U := 3) (I := advI) Try.func56 rfl (by kernel_rfl) rfl rfl (by decide +kernel) ?_
  rintro ⟨s, (sl : Int), (mo : Int), b, ⟨⟩⟩ hpre
  obtain ⟨s, rfl⟩ := sys_ex s
  obtain ⟨b, rfl⟩ := bx_ex b
  have hpre : AdOK s sl mo b := by have : AdOK (sysOf (sysD s)) sl mo (bxOf (b.len, fun k => (b.lo k, b.hi k, ()))) := hpre; simpa using this
  obtain ⟨p1, p2, p3, p4, p5, p6, p7, p8, p9⟩ := hpre
  unfold FnSat
  conv => arg 2; reduce
  simp [advS, nextS, maxRow, ElEq, aliveB, goneB, getB, and_assoc, pickV_0, pickV_1, plainA.plainL, plainA]
  have hn : ∀ k, k < b.len → -10000 ≤ (s.ld sl.toNat).lo k ∧ (s.ld sl.toNat).lo k ≤ 10000 ∧ -10000 ≤ (s.ld sl.toNat).hi k ∧ (s.ld sl.toNat).hi k ≤ 10000 := fun k hk => by
    have := nearV_iff.1 p8 k (by omega)
    omega
  refine ⟨⟨0, rfl, rfl, fun j => by omega, rfl, fun j => by omega, by omega⟩, fun g hg => ⟨fun hlt => ?_, fun hge => ⟨p4, p5, ?_, ⟨0, rfl, rfl, fun j => by omega, rfl, fun j => by omega, by omega⟩, fun g1 hg1 => ⟨fun hlt => ?_, fun hge1 => ⟨p4, p5, ?_, by omega,
    ⟨0, rfl, fun j hj => ⟨(fillF_ge (by omega)).symm, (fillF_ge (by omega)).symm⟩, by omega⟩, fun g2 hg2 => ⟨fun hlt2 => ⟨by omega, by omega, by omega, by omega, by omega, g2 + 1, by omega, fun j hj => ?_, by omega, by omega⟩, fun hge2 j hj => ?_⟩⟩⟩⟩⟩⟩
  · exact ⟨hlt, p2, p3, by omega, by omega, by omega, by omega, g + 1, by omega, rfl, fun j hj => app_one hj (fun _ => rfl) (fun h => by subst h; rfl), rfl, fun j hj => app_one hj (fun _ => rfl) (fun h => by subst h; rfl), by omega, by omega⟩
  · obtain rfl : g = b.len := by omega
    exact ⟨by simpa using p1, by simp, by simpa using p6, fun k hk => by simp at hk ⊢; have := p9 k hk; omega, fun k hk => by simp at hk ⊢; have := hn k hk; omega⟩
  · exact ⟨hlt, p2, p3, by omega, by omega, by omega, by omega, g1 + 1, by omega, rfl, fun j hj => app_one hj (fun _ => rfl) (fun h => by subst h; rfl), rfl, fun j hj => app_one hj (fun _ => rfl) (fun h => by subst h; rfl), by omega, by omega⟩
  · obtain rfl : g1 = b.len := by omega
    exact ⟨by simpa using p1, by simp, by simpa using p6, fun k hk => by simp at hk ⊢; have := p9 k hk; omega, fun k hk => by simp at hk ⊢; have := hn k hk; omega⟩
  · by_cases h : j = g2
    · subst h
      rw [if_pos rfl, if_pos rfl, fillF_lt (by omega), fillF_lt (by omega), adV_lo, adV_hi]
      exact ⟨rfl, rfl⟩
    · rw [if_neg h, if_neg h]
      rcases Nat.lt_or_ge j g2 with h' | h'
      · rw [fillF_lt h', fillF_lt (show j < g2 + 1 by omega), fillF_lt h', fillF_lt (show j < g2 + 1 by omega)]
        exact ⟨rfl, rfl⟩
      · rw [fillF_ge h', fillF_ge (show g2 + 1 ≤ j by omega), fillF_ge h', fillF_ge (show g2 + 1 ≤ j by omega)]
        exact ⟨rfl, rfl⟩
  · rw [fillF_lt (by omega), fillF_lt (by omega)]
    exact ⟨rfl, rfl⟩
end Abs
end Go.Proofs.Ytjblicdceafcpaa

/- A plan's check and cost; the next box; the example. -/
namespace Go.Proofs.Ytjblicdceafcpaa
namespace Abs
open Go Go.RowKit
def SP0 : Sums := ⟨(56, mkSum _ advS) :: SN2.one, SN2.two, SN2.lo, SN2.eqs, SN2.its⟩
theorem SP0_ok : SumsOK Try.prog SP0 := (SN2_ok.cons Try.func56 (by kernel_rfl) (by kernel_rfl) adv_ok)
@[irreducible] def badK (x : Int) (n : Nat) : Bool := decide (x < 0) || decide ((n : Int) ≤ x)
theorem badK_iff {x : Int} {n : Nat} : badK x n = false ↔ 0 ≤ x ∧ x < n := by unfold badK; simp
theorem badK_eq {x : Int} {n : Nat} : badK x n = true ↔ x < 0 ∨ (n : Int) ≤ x := by unfold badK; simp
@[reducible] def sysCells : List Sh := [spansSh, spansSh, .slice 3 modeCells, .slice 1 [spansSh]]
def cp1S : Spec [.int .i64, .ptr sysCells] := ⟨fun _ => True, fun ((x : Int), (_, _, m, _), _) => .sb (badK x m.1)⟩
set_option maxRecDepth 100000 in
theorem cp1_ok : FnSpec Try.prog 101 _ cp1S := by
  refine FnSpec.of SP0_ok mixed (U := 0) (I := fun _ => []) Try.func101 rfl (by kernel_rfl) rfl rfl (by decide +kernel) ?_
  rintro ⟨(x : Int), ⟨a, b, c, d, ⟨⟩⟩, ⟨⟩⟩ -
  unfold FnSat
  conv => arg 2; reduce
  simp [cp1S, badK]
def SP1 : Sums := ⟨(101, mkSum _ cp1S) :: SP0.one, SP0.two, SP0.lo, SP0.eqs, SP0.its⟩
theorem SP1_ok : SumsOK Try.prog SP1 := (SP0_ok.cons Try.func101 (by kernel_rfl) (by kernel_rfl) cp1_ok)
def anyPlI : Spec [.slice 1 [.int .i64], .fn 101 [] [.ptr sysCells]] := ⟨fun x => x.1.1 ≤ maxLen, fun ((n, el), ((_, c), _)) => .si .i64 (idxN (fun k => badK (el k).1 c.1.2.2.1.1) n)⟩
noncomputable def anyPlA : DatL [.slice 1 [.int .i64], .fn 101 [] [.ptr sysCells]] → Anns := fun ((n, el), ((_, c), _)) => [(2, [], fun fr hp => ⟨Nat, fun g => ⟨frI [.k 5, .t 1, .k 2, .s (.si .i64 (icast g)), .t 10] fr, hp⟩, Nat, fun g => g, fun g => g ≤ firstN (fun k => badK (el k).1 c.1.2.2.1.1) n, fun g => nsub n g⟩)]
set_option maxRecDepth 100000 in
theorem anyPlI_ok : FnSpec Try.prog 112 _ anyPlI := by
  refine FnSpec.of SP1_ok mixed (U := 0) (I := anyPlA) Try.func112 rfl (by kernel_rfl) rfl rfl (by decide +kernel) ?_
  rintro ⟨⟨n, el⟩, ⟨⟨⟩, c⟩, ⟨⟩⟩ hpre
  have hn : n ≤ maxLen := hpre
  unfold FnSat
  conv => arg 2; reduce
  unfold maxLen at hn
  have hle := firstN_le (fun k => badK (el k).1 c.1.2.2.1.1) n
  simp [anyPlI, cp1S, and_assoc]
  refine ⟨⟨0, rfl, by omega⟩, fun k hk => ⟨fun h1 => ?_, fun h1 => ?_⟩⟩
  · refine And.intro h1 ?_
    refine ⟨fun h2 => ?_, fun h2 => ?_⟩
    · rw [idxN, firstN_at hk (by simpa using h2), if_pos h1]; try simp
    · have := firstN_ge hk (by simpa using h2) h1
      refine ⟨by omega, by omega, k + 1, by omega, by omega, by omega⟩
  · rw [idxN, if_neg (by omega)]
def anyPlC : Spec [.slice 1 [.int .i64], .fn 101 [] [.ptr sysCells]] := ⟨fun x => x.1.1 ≤ maxLen, fun ((n, el), ((_, c), _)) => .sb (anyN (fun k => badK (el k).1 c.1.2.2.1.1) n)⟩
def anyPlS : Sums := ⟨(112, mkSum _ anyPlI) :: SP1.one, SP1.two, SP1.lo, SP1.eqs, SP1.its⟩
theorem anyPlS_ok : SumsOK Try.prog anyPlS := (SP1_ok.cons Try.func112 (by kernel_rfl) (by kernel_rfl) anyPlI_ok)
set_option maxRecDepth 100000 in
theorem anyPlC_ok : FnSpec Try.prog 100 _ anyPlC := by
  refine FnSpec.of anyPlS_ok mixed (U := 0) (I := fun _ => []) Try.func100 rfl (by kernel_rfl) rfl rfl (by decide +kernel) ?_
  rintro ⟨⟨n, el⟩, ⟨⟨⟩, c⟩, ⟨⟩⟩ hpre
  unfold FnSat
  conv => arg 2; reduce
  have hpre : anyPlC.pre ((n, el), (((), c), ())) := hpre
  simp [anyPlC, anyPlI, idxN_nonneg] at hpre ⊢
  exact hpre
def SP2 : Sums := ⟨(100, mkSum _ anyPlC) :: SP1.one, SP1.two, SP1.lo, SP1.eqs, SP1.its⟩
theorem SP2_ok : SumsOK Try.prog SP2 := (SP1_ok.cons Try.func100 (by kernel_rfl) (by kernel_rfl) anyPlC_ok)
/-- how long the lists of a system may be -/
def SysMax (s : Sys) : Prop := s.lim.len ≤ maxLen ∧ s.st.len ≤ maxLen ∧ s.nmd ≤ maxLen ∧ s.nld ≤ maxLen ∧ (∀ k, k < s.nld → (s.ld k).len ≤ maxLen) ∧ ∀ k, k < s.nmd → (s.md k).nsh ≤ maxLen ∧ (s.md k).nfl ≤ maxLen
@[irreducible] def plE (s : Sys) (p : Vx) : Int := if checkB s = true then (if p.len = s.nld then (if anyN (fun k => badK (p.at k) s.nmd) p.len = true then 3 else 0) else 8) else 2
theorem plE_iff {s : Sys} {p : Vx} : plE s p = 0 ↔ checkB s = true ∧ p.len = s.nld ∧ ∀ k, k < p.len → 0 ≤ p.at k ∧ p.at k < s.nmd := by
  unfold plE
  have : anyN (fun k => badK (p.at k) s.nmd) p.len = false ↔ ∀ k, k < p.len → 0 ≤ p.at k ∧ p.at k < s.nmd := by rw [anyN_false]; simp only [badK_iff]
  rw [← this]
  cases checkB s <;> cases anyN (fun k => badK (p.at k) s.nmd) p.len <;> by_cases h : p.len = s.nld <;> simp [h]
def planS : Spec [sysSh, intsSh] := ⟨fun (s, p, _) => SysMax (sysOf s) ∧ p.1 ≤ maxLen, fun (s, p, _) => .si .i64 (plE (sysOf s) (vxOf p))⟩
set_option maxRecDepth 100000 in
theorem plan_ok : FnSpec Try.prog 78 _ planS := by
  refine FnSpec.of SP2_ok mixed (U := 0) (I := fun _ => []) Try.func78 rfl (by kernel_rfl) rfl rfl (by decide +kernel) ?_
  rintro ⟨s, p, ⟨⟩⟩ hpre
  obtain ⟨s, rfl⟩ := sys_ex s
  obtain ⟨p, rfl⟩ := vx_ex p
  have hpre : SysMax s ∧ p.len ≤ maxLen := by have : SysMax (sysOf (sysD s)) ∧ p.len ≤ maxLen := hpre; rwa [sysOf_D] at this
  obtain ⟨⟨p1, p2, p3, p4, p5, p6⟩, p7⟩ := hpre
  unfold FnSat
  conv => arg 2; reduce
  simp [planS, checkS, anyPlC, and_assoc]
  refine ⟨p1, p2, p3, p4, p5, p6, fun h => by unfold plE; simp [h], fun h => ⟨fun h1 => ?_, fun h1 => ⟨p7, fun h2 => ?_, fun h2 => ?_⟩⟩⟩
  · unfold plE; rw [if_pos h, if_neg (by omega)]
  · unfold plE; rw [if_pos h, if_pos (by omega), if_pos h2]
  · unfold plE; rw [if_pos h, if_pos (by omega), if_neg (by simp [h2])]
def costN (s : Sys) (p : Vx) : Nat → Int
  | 0 => 0
  | k + 1 => costN s p k + (s.md (p.at k).toNat).cost
theorem costN_zero (s : Sys) (p : Vx) : costN s p 0 = 0 := rfl
theorem costN_succ (s : Sys) (p : Vx) (k : Nat) : costN s p (k + 1) = costN s p k + (s.md (p.at k).toNat).cost := rfl
attribute [irreducible] costN
@[irreducible] def csV (s : Sys) (p : Vx) : Int := if plE s p = 0 then costN s p p.len else 0
theorem costN_b {s : Sys} {p : Vx} (h : plE s p = 0) : ∀ {k : Nat}, k ≤ p.len → 0 ≤ costN s p k ∧ costN s p k ≤ (k : Int) * 1073741824
  | 0, _ => by rw [costN_zero]; omega
  | k + 1, hk => by
    rw [costN_succ]
    have h1 := costN_b h (k := k) (by omega)
    have h2 := plE_iff.1 h
    have h3 := h2.2.2 k (by omega)
    have h4 := modeB_iff.1 ((checkB_iff.1 h2.1).2.2.2.2.2.2.2.2.2.2 (p.at k).toNat (by omega))
    omega
def costS : Spec [sysSh, intsSh] := ⟨fun (s, p, _) => SysMax (sysOf s) ∧ p.1 ≤ maxLen, fun (s, p, _) => .tup [.si .i64 (csV (sysOf s) (vxOf p)), .si .i64 (plE (sysOf s) (vxOf p))]⟩
def SP3 : Sums := ⟨(78, mkSum _ planS) :: SP2.one, SP2.two, SP2.lo, SP2.eqs, SP2.its⟩
theorem SP3_ok : SumsOK Try.prog SP3 := (SP2_ok.cons Try.func78 (by kernel_rfl) (by kernel_rfl) plan_ok)
noncomputable def costI : DatL [sysSh, intsSh] → Anns := fun (s, p, _) => [
  (6, [], fun fr hp => ⟨Nat, fun g => ⟨frI [.k 7, .s (.si .i64 (costN (sysOf s) (vxOf p) g)), .t 2, .k 8, .s (.si .i64 (icast g)), .t 13] fr, hp⟩, Nat × Nat, fun g => (g, p.1), fun (g, n) => g ≤ n, fun g => nsub p.1 g⟩)]
set_option maxRecDepth 100000 in
theorem cost_ok : FnSpec Try.prog 39 _ costS := by
  refine FnSpec.of SP3_ok mixed (U := 0) (I := costI) Try.func39 rfl (by kernel_rfl) rfl rfl (by decide +kernel) ?_
  rintro ⟨s, p, ⟨⟩⟩ hpre
  obtain ⟨s, rfl⟩ := sys_ex s
  obtain ⟨p, rfl⟩ := vx_ex p
  have hpre : SysMax s ∧ p.len ≤ maxLen := by have : SysMax (sysOf (sysD s)) ∧ p.len ≤ maxLen := hpre; rwa [sysOf_D] at this
  unfold FnSat
  conv => arg 2; reduce
  simp [costS, planS, and_assoc]
  refine ⟨hpre.1, hpre.2, fun h => by unfold csV; rw [if_neg h], fun h => ⟨⟨0, (costN_zero _ _).symm, rfl, by omega⟩, fun g hg => ⟨fun hlt => ?_, fun hge => ⟨?_, h.symm⟩⟩⟩⟩
  · have h3 := plE_iff.1 h
    have h1 := h3.2.2 g hlt
    have h2 := costN_b h (k := g + 1) hlt
    rw [costN_succ] at h2
    have h4 := (checkB_iff.1 h3.1).2.2.2.2.1
    exact ⟨hlt, h1.1, h1.2, by omega, by omega, by omega, by omega, g + 1, (costN_succ _ _ _).symm, by omega, by omega, by omega⟩
  · unfold csV; rw [if_pos h, show g = p.len by omega]
theorem adOK_of {s : Sys} {sl mo : Int} {b : Bx} (h : checkB s = true) (h1 : 0 ≤ sl) (h2 : sl < s.nld) (h3 : 0 ≤ mo) (h4 : mo < s.nmd) (h5 : b.len = s.lim.len) (h6 : nearV b 1073741824 = true) : AdOK s sl mo b := by
  have c := checkB_iff.1 h
  have hl := c.2.2.2.2.2.2.2.2.2.1 sl.toNat (by omega)
  refine ⟨by omega, h1, h2, h3, h4, by rw [h5]; exact c.2.2.2.2.2.2.2.2.2.2 mo.toNat (by omega), by omega, hl.2, fun k hk => ?_⟩
  have := nearV_iff.1 h6 k hk
  omega
@[irreducible] def nbE (s : Sys) (sl mo : Int) (b : Bx) : Int := if checkB s = true then (if 0 ≤ sl ∧ sl < s.nld ∧ 0 ≤ mo ∧ mo < s.nmd then (if b.len = s.lim.len ∧ nearV b 1073741824 = true then 0 else 8) else 3) else 2
@[irreducible] def nbN (s : Sys) (sl mo : Int) (b : Bx) : Nat := if nbE s sl mo b = 0 then b.len else 0
def nbS : Spec [sysSh, .int .i64, .int .i64, spansSh] := ⟨fun (s, _, _, b, _) => SysMax (sysOf s) ∧ b.1 ≤ maxLen, fun (s, (sl : Int), (mo : Int), b, _) =>
  .tup [.slc (.sym (nbN (sysOf s) sl mo (bxOf b))) 2 (fun k => [.si .i64 ((adV (sysOf s) sl mo (bxOf b)).lo k), .si .i64 ((adV (sysOf s) sl mo (bxOf b)).hi k)]), .si .i64 (nbE (sysOf s) sl mo (bxOf b))]⟩
set_option maxRecDepth 100000 in
theorem nb_ok : FnSpec Try.prog 17 _ nbS := by
  refine FnSpec.of SP3_ok mixed (U := 0) (I := fun _ => []) Try.func17 rfl (by kernel_rfl) rfl rfl (by decide +kernel) ?_
  rintro ⟨s, (sl : Int), (mo : Int), b, ⟨⟩⟩ hpre
  obtain ⟨s, rfl⟩ := sys_ex s
  obtain ⟨b, rfl⟩ := bx_ex b
  have hpre : SysMax s ∧ b.len ≤ maxLen := by have : SysMax (sysOf (sysD s)) ∧ b.len ≤ maxLen := hpre; rwa [sysOf_D] at this
  obtain ⟨⟨p1, p2, p3, p4, p5, p6⟩, p7⟩ := hpre
  unfold FnSat
  conv => arg 2; reduce
  simp [nbS, checkS, withinS, advS, ElEq, and_assoc]
  refine ⟨p1, p2, p3, p4, p5, p6, fun h => ?_, fun h => ⟨fun h1 => ?_, fun a1 a2 a3 a4 => ⟨fun _ => p7, fun h1 => ?_, fun h1 h2 => ⟨adOK_of h a1 a2 a3 a4 (by omega) h2, ?_⟩⟩⟩⟩
  · have e : nbE s sl mo b = 2 := by unfold nbE; simp [h]
    rw [e]; unfold nbN; rw [e]; simp [h]
  · have e : nbE s sl mo b = 3 := by unfold nbE; rw [if_pos h, if_neg (by omega)]
    rw [e]; unfold nbN; rw [e]; simp
  · have e : nbE s sl mo b = 8 := by
      unfold nbE
      rw [if_pos h, if_pos ⟨a1, a2, a3, a4⟩, if_neg]
      rintro ⟨h3, h4⟩
      rw [h4] at h1; simp at h1; omega
    rw [e]; unfold nbN; rw [e]; simp
  · have e : nbE s sl mo b = 0 := by unfold nbE; rw [if_pos h, if_pos ⟨a1, a2, a3, a4⟩, if_pos ⟨by omega, h2⟩]
    rw [e]; unfold nbN; rw [e]; simp
end Abs
end Go.Proofs.Ytjblicdceafcpaa

/- Short and valid systems; the example. -/
namespace Go.Proofs.Ytjblicdceafcpaa
namespace Abs
open Go Go.RowKit
def SE0 : Sums := ⟨(17, mkSum _ nbS) :: (39, mkSum _ costS) :: SP3.one, SP3.two, SP3.lo, SP3.eqs, SP3.its⟩
theorem SE0_ok : SumsOK Try.prog SE0 := ((SP3_ok.cons Try.func39 (by kernel_rfl) (by kernel_rfl) cost_ok).cons Try.func17 (by kernel_rfl) (by kernel_rfl) nb_ok)
@[irreducible] def shortB (s : Sys) : Bool := decide (s.lim.len ≤ 10) && decide (s.st.len ≤ 10) && decide (s.nmd ≤ 20) && decide (s.nld ≤ 60) && allN (fun k => decide ((s.md k).nsh ≤ 10) && decide ((s.md k).nfl ≤ 10)) s.nmd && allN (fun k => decide ((s.ld k).len ≤ 10)) s.nld
theorem shortB_iff {s : Sys} : shortB s = true ↔ s.lim.len ≤ 10 ∧ s.st.len ≤ 10 ∧ s.nmd ≤ 20 ∧ s.nld ≤ 60 ∧ (∀ k, k < s.nmd → (s.md k).nsh ≤ 10 ∧ (s.md k).nfl ≤ 10) ∧ ∀ k, k < s.nld → (s.ld k).len ≤ 10 := by
  unfold shortB; simp [and_assoc, allN_iff]
theorem short_max {s : Sys} (h : shortB s = true) : SysMax s := by
  obtain ⟨h1, h2, h3, h4, h5, h6⟩ := shortB_iff.1 h
  unfold SysMax maxLen
  exact ⟨by omega, by omega, by omega, by omega, fun k hk => by have := h6 k hk; omega, fun k hk => by have := h5 k hk; omega⟩
def shortS : Spec [sysSh] := ⟨fun _ => True, fun (s, _) => .sb (shortB (sysOf s))⟩
noncomputable def shortI : DatL [sysSh] → Anns := fun (s, _) => [
  (4, [], fun fr hp => ⟨Nat, fun g => ⟨frI [.k 3, .s (.si .i64 (icast g)), .k 23, .t 25, .k 14] fr, hp⟩, Nat × Sys, fun g => (g, sysOf s), fun (g, s) => g ≤ s.nmd ∧ ∀ j, j < g → (s.md j).nsh ≤ 10 ∧ (s.md j).nfl ≤ 10, fun g => nsub s.2.2.1.1 g⟩),
  (9, [], fun fr hp => ⟨Nat, fun g => ⟨frI [.k 4, .s (.si .i64 (icast g)), .k 47, .t 14] fr, hp⟩, Nat × Sys, fun g => (g, sysOf s), fun (g, s) => g ≤ s.nld ∧ ∀ j, j < g → (s.ld j).len ≤ 10, fun g => nsub s.2.2.2.1.1 g⟩)]
set_option maxRecDepth 100000 in
theorem short_ok : FnSpec Try.prog 20 _ shortS := by
  refine FnSpec.of SE0_ok mixed (U := 0) (I := shortI) Try.func20 rfl (by kernel_rfl) rfl rfl (by decide +kernel) ?_
  rintro ⟨s, ⟨⟩⟩ -
  obtain ⟨s, rfl⟩ := sys_ex s
  unfold FnSat
  conv => arg 2; reduce
  simp [shortS, and_assoc]
  have no : (shortB s = true → False) → shortB s = false := fun h => by cases hs : shortB s with | false => rfl | true => exact (h hs).elim
  refine ⟨fun h => no fun hs => ?_, fun a1 a2 a3 a4 => ⟨⟨0, rfl, by omega, fun j hj => by omega⟩, fun g hg hf => ⟨fun hlt => ⟨hlt, fun _ => hlt, fun h => no fun hs => ?_, fun h1 h2 => ⟨by omega, by omega, g + 1, by omega, by omega, fun j hj => ?_, by omega⟩⟩,
    fun hge => ⟨⟨0, rfl, by omega, fun j hj => by omega⟩, fun g' hg' hf' => ⟨fun hlt => ⟨hlt, fun h => no fun hs => ?_, fun h1 => ⟨by omega, by omega, g' + 1, by omega, by omega, fun j hj => ?_, by omega⟩⟩, fun hge' => ?_⟩⟩⟩⟩⟩
  · have := shortB_iff.1 hs; omega
  · have := (shortB_iff.1 hs).2.2.2.2.1 g hlt; omega
  · by_cases h : j < g
    · exact hf j h
    · obtain rfl : j = g := by omega
      omega
  · have := (shortB_iff.1 hs).2.2.2.2.2 g' hlt; omega
  · by_cases h : j < g'
    · exact hf' j h
    · obtain rfl : j = g' := by omega
      omega
  · exact shortB_iff.2 ⟨by omega, by omega, by omega, by omega, fun k hk => hf k (by omega), fun k hk => hf' k (by omega)⟩
def SE1 : Sums := ⟨(20, mkSum _ shortS) :: SE0.one, SE0.two, SE0.lo, SE0.eqs, SE0.its⟩
theorem SE1_ok : SumsOK Try.prog SE1 := (SE0_ok.cons Try.func20 (by kernel_rfl) (by kernel_rfl) short_ok)
@[irreducible] def validB (s : Sys) : Bool := shortB s && checkB s
theorem validB_iff {s : Sys} : validB s = true ↔ shortB s = true ∧ checkB s = true := by unfold validB; simp
def validS11 : Spec [sysSh] := ⟨fun _ => True, fun (s, _) => .sb (validB (sysOf s))⟩
set_option maxRecDepth 100000 in
theorem valid11_ok : FnSpec Try.prog 15 _ validS11 := by
  refine FnSpec.of SE1_ok mixed (U := 0) (I := fun _ => []) Try.func15 rfl (by kernel_rfl) rfl rfl (by decide +kernel) ?_
  rintro ⟨s, ⟨⟩⟩ -
  obtain ⟨s, rfl⟩ := sys_ex s
  unfold FnSat
  conv => arg 2; reduce
  simp [validS11, shortS, checkS, and_assoc]
  refine ⟨fun h => short_max h, ?_⟩
  unfold validB
  cases shortB s <;> cases checkB s <;> simp
def exA : AV := .agg [.slc (.lit 1) 2 (rowAt 2 [.li .i64 0, .li .i64 10]), .slc (.lit 1) 2 (rowAt 2 [.li .i64 5, .li .i64 5]),
  .slc (.lit 2) 3 (rowAt 3 [.li .i64 0, .slc (.lit 1) 1 (rowAt 1 [.li .i64 0]), .v (.slice none 0 0), .li .i64 3, .slc (.lit 1) 1 (rowAt 1 [.li .i64 (-4)]), .v (.slice none 0 0)]),
  .slc (.lit 3) 1 (rowAt 1 [.slc (.lit 1) 2 (rowAt 2 [.li .i64 1, .li .i64 3]), .slc (.lit 1) 2 (rowAt 2 [.li .i64 1, .li .i64 3]), .slc (.lit 1) 2 (rowAt 2 [.li .i64 1, .li .i64 3])])]
def exS0 : Spec [] := ⟨fun _ => True, fun _ => exA⟩
set_option maxRecDepth 100000 in
theorem ex0_ok : FnSpec Try.prog 54 _ exS0 := by
  refine FnSpec.of SE1_ok mixed (U := 0) (I := fun _ => []) Try.func54 rfl (by kernel_rfl) rfl rfl (by decide +kernel) ?_
  rintro ⟨⟩ -
  unfold FnSat
  conv => arg 2; reduce
  simp [exS0, exA, ElEq, getB, goneB, aliveB]
@[irreducible] def exSys : Sys := sysOf (dec sysSh exA)
theorem Fn.res {P : Program} {f : FuncId} {args : List AV} {H H' : Heap} {r r' : AV} (h : Fn P f args H r H') (hr : ∀ (C : Cx) (w : World) (v : Value), Rel C w r v → Rel C w r' v) : Fn P f args H r' H' :=
  fun C w vs h1 h2 => (h C w vs h1 h2).mono fun e w' ⟨v, C', he, h3, h4, h5⟩ => ⟨v, C', he, h3, hr _ _ _ h4, h5⟩
theorem ex_can : CanSh sysSh exA := by
  unfold exA CanSh
  refine ⟨rfl, fun k hk => ?_, rfl, fun k hk => ?_, rfl, fun k hk => ?_, rfl, fun k hk => ?_, trivial⟩
  · obtain rfl : k = 0 := by simp [LN.val] at hk; exact hk
    exact ⟨rfl, trivial, rfl, trivial, trivial⟩
  · obtain rfl : k = 0 := by simp [LN.val] at hk; exact hk
    exact ⟨rfl, trivial, rfl, trivial, trivial⟩
  · have : k = 0 ∨ k = 1 := by simp only [LN.val] at hk; omega
    rcases this with rfl | rfl
    · refine ⟨rfl, trivial, rfl, fun k hk => ?_, rfl, trivial, trivial⟩
      obtain rfl : k = 0 := by simp [LN.val] at hk; exact hk
      exact ⟨rfl, trivial, trivial⟩
    · refine ⟨rfl, trivial, rfl, fun k hk => ?_, rfl, trivial, trivial⟩
      obtain rfl : k = 0 := by simp [LN.val] at hk; exact hk
      exact ⟨rfl, trivial, trivial⟩
  · have : k = 0 ∨ k = 1 ∨ k = 2 := by simp only [LN.val] at hk; omega
    rcases this with rfl | rfl | rfl
    all_goals
      refine ⟨rfl, fun k hk => ?_, trivial⟩
      obtain rfl : k = 0 := by simp [LN.val] at hk; exact hk
      exact ⟨rfl, trivial, rfl, trivial, trivial⟩
def exS : Spec [] := ⟨fun _ => True, fun _ => enc sysSh (sysD exSys)⟩
theorem ex_ok : FnSpec Try.prog 54 _ exS := fun x hx => (ex0_ok x hx).res fun C w v hv => by
  have h1 := enc_dec (s := sysSh) (a := exA) rfl ex_can hv
  obtain ⟨s, hs⟩ := sys_ex (dec sysSh exA)
  have h2 : exSys = s := by unfold exSys; rw [hs]; exact sysOf_D s
  show Rel C w (enc sysSh (sysD exSys)) v
  rw [h2, ← hs]; exact h1
theorem ex_0 : exSys.lim.len = 1 ∧ exSys.lim.lo 0 = 0 ∧ exSys.lim.hi 0 = 10 ∧ exSys.st.len = 1 ∧ exSys.st.lo 0 = 5 ∧ exSys.st.hi 0 = 5 ∧ exSys.nmd = 2 ∧ exSys.nld = 3 := by
  unfold exSys exA sysOf Sys.lim Sys.st Sys.nmd Sys.nld bxOf Bx.len Bx.lo Bx.hi; exact ⟨rfl, rfl, rfl, rfl, rfl, rfl, rfl, rfl⟩
theorem ex_m0 : (exSys.md 0).cost = 0 ∧ (exSys.md 0).nsh = 1 ∧ (exSys.md 0).sh 0 = 0 ∧ (exSys.md 0).nfl = 0 := by
  unfold exSys exA sysOf Sys.md mdOf Mo.cost Mo.nsh Mo.sh Mo.nfl; exact ⟨rfl, rfl, rfl, rfl⟩
theorem ex_m1 : (exSys.md 1).cost = 3 ∧ (exSys.md 1).nsh = 1 ∧ (exSys.md 1).sh 0 = -4 ∧ (exSys.md 1).nfl = 0 := by
  unfold exSys exA sysOf Sys.md mdOf Mo.cost Mo.nsh Mo.sh Mo.nfl; exact ⟨rfl, rfl, rfl, rfl⟩
theorem ex_l : ∀ k, k < 3 → (exSys.ld k).len = 1 ∧ (exSys.ld k).lo 0 = 1 ∧ (exSys.ld k).hi 0 = 3 := fun k hk => by
  have : k = 0 ∨ k = 1 ∨ k = 2 := by omega
  rcases this with rfl | rfl | rfl
  all_goals (unfold exSys exA sysOf Sys.ld bxOf Bx.len Bx.lo Bx.hi; exact ⟨rfl, rfl, rfl⟩)
theorem ex_check : checkB exSys = true := by
  obtain ⟨a1, a2, a3, a4, a5, a6, a7, a8⟩ := ex_0
  obtain ⟨b1, b2, b3, b4⟩ := ex_m0
  obtain ⟨c1, c2, c3, c4⟩ := ex_m1
  refine checkB_iff.2 ⟨by omega, by omega, by omega, by omega, by omega, nearV_iff.2 fun k hk => ?_, by omega, nearV_iff.2 fun k hk => ?_, inV_iff.2 fun k hk => ?_, fun k hk => ⟨?_, nearV_iff.2 fun j hj => ?_⟩, fun k hk => modeB_iff.2 ?_⟩
  · obtain rfl : k = 0 := by omega
    omega
  · obtain rfl : k = 0 := by omega
    omega
  · obtain rfl : k = 0 := by omega
    omega
  · have := ex_l k (by omega); omega
  · have := ex_l k (by omega)
    obtain rfl : j = 0 := by omega
    omega
  · have : k = 0 ∨ k = 1 := by omega
    rcases this with rfl | rfl
    · refine ⟨by omega, by omega, by omega, fun j hj => ?_, fun g hg => by omega⟩
      obtain rfl : j = 0 := by omega
      omega
    · refine ⟨by omega, by omega, by omega, fun j hj => ?_, fun g hg => by omega⟩
      obtain rfl : j = 0 := by omega
      omega
def SE2 : Sums := ⟨(54, mkSum _ exS) :: (15, mkSum _ validS11) :: SE1.one, SE1.two, SE1.lo, SE1.eqs, SE1.its⟩
theorem SE2_ok : SumsOK Try.prog SE2 := ((SE1_ok.cons Try.func15 (by kernel_rfl) (by kernel_rfl) valid11_ok).cons Try.func54 (by kernel_rfl) (by kernel_rfl) ex_ok)
def worksS : Spec [] := ⟨fun _ => True, fun _ => .sb true⟩
set_option maxRecDepth 100000 in
theorem works_ok : FnSpec Try.prog 16 _ worksS := by
  refine FnSpec.of SE2_ok mixed (U := 0) (I := fun _ => []) Try.func16 rfl (by kernel_rfl) rfl rfl (by decide +kernel) ?_
  rintro ⟨⟩ -
  unfold FnSat
  conv => arg 2; reduce
  simp [worksS, nbS, costS]
  have hmax : SysMax exSys := by
    obtain ⟨a1, a2, a3, a4, a5, a6, a7, a8⟩ := ex_0
    obtain ⟨b1, b2, b3, b4⟩ := ex_m0
    obtain ⟨c1, c2, c3, c4⟩ := ex_m1
    unfold SysMax maxLen
    refine ⟨by omega, by omega, by omega, by omega, fun k hk => by have := ex_l k (by omega); omega, fun k hk => ?_⟩
    have : k = 0 ∨ k = 1 := by omega
    rcases this with rfl | rfl <;> omega
  generalize hb : bxOf _ = b
  generalize hv : vxOf _ = v
  have b1 : b.len = 1 := by rw [← hb]; simp
  have b2 : b.lo 0 = 5 := by rw [← hb, bxOf_lo]; rfl
  have b3 : b.hi 0 = 5 := by rw [← hb, bxOf_hi]; rfl
  have v1 : v.len = 3 := by rw [← hv]; simp
  have v2 : v.at 0 = 0 := by rw [← hv, vxOf_at]; rfl
  have v3 : v.at 1 = 1 := by rw [← hv, vxOf_at]; rfl
  have v4 : v.at 2 = 0 := by rw [← hv, vxOf_at]; rfl
  clear hb hv
  obtain ⟨a1, a2, a3, a4, a5, a6, a7, a8⟩ := ex_0
  have hnr : nearV b 1073741824 = true := nearV_iff.2 fun k hk => by
    obtain rfl : k = 0 := by omega
    omega
  have hn : nbE exSys 0 0 b = 0 := by
    unfold nbE
    rw [if_pos ex_check, if_pos (by omega), if_pos ⟨by omega, hnr⟩]
  have hn1 : nbN exSys 0 0 b = 1 := by unfold nbN; rw [hn, if_pos rfl, b1]
  have hp : plE exSys v = 0 := plE_iff.2 ⟨ex_check, by omega, fun k hk => by
    have : k = 0 ∨ k = 1 ∨ k = 2 := by omega
    rcases this with rfl | rfl | rfl <;> omega⟩
  have hc : csV exSys v = 3 := by
    unfold csV
    rw [if_pos hp, v1, costN_succ, costN_succ, costN_succ, costN_zero, v2, v3, v4]
    have h0 := ex_m0.1
    have h1 := ex_m1.1
    show 0 + (exSys.md 0).cost + (exSys.md 1).cost + (exSys.md 0).cost = 3
    omega
  have hl : (adV exSys 0 0 b).lo 0 = 6 := by
    rw [adV_lo]
    show nxV (exSys.md 0) b.lo (exSys.ld 0).lo 0 = 6
    rw [nxV_none ex_m0.2.2.2, b2, (ex_l 0 (by decide)).2.1, ex_m0.2.2.1]; rfl
  have hh : (adV exSys 0 0 b).hi 0 = 8 := by
    rw [adV_hi]
    show nxV (exSys.md 0) b.hi (exSys.ld 0).hi 0 = 8
    rw [nxV_none ex_m0.2.2.2, b3, (ex_l 0 (by decide)).2.2, ex_m0.2.2.1]; rfl
  refine ⟨⟨rfl, trivial, rfl, trivial, trivial⟩, ⟨hmax, by decide⟩, fun k hk => ?_, ⟨hmax, by decide⟩, ?_⟩
  · have : k = 0 ∨ k = 1 ∨ k = 2 := by omega
    rcases this with rfl | rfl | rfl <;> exact ⟨rfl, trivial, trivial⟩
  · simp [hn, hn1, hp, hc, hl, hh]
end Abs
end Go.Proofs.Ytjblicdceafcpaa

/- The next temperatures: what the program's Next answers. -/
namespace Go.Proofs.Ytjblicdceafcpaa
namespace Abs
open Go Go.RowKit
@[irreducible] def nxE (s : Sys) (mo : Int) (t w : Vx) : Int := if checkB s = true then (if 0 ≤ mo ∧ mo < s.nmd then (if t.len = s.lim.len ∧ w.len = s.lim.len then
  (if anyN (fun k => farB (t.at k) 1073741824) t.len = true ∨ anyN (fun k => farB (w.at k) 1073741824) w.len = true then 3 else 0) else 8) else 3) else 2
@[irreducible] def nxN (s : Sys) (mo : Int) (t w : Vx) : Nat := if nxE s mo t w = 0 then t.len else 0
theorem nxE_iff {s : Sys} {mo : Int} {t w : Vx} : nxE s mo t w = 0 ↔ checkB s = true ∧ 0 ≤ mo ∧ mo < s.nmd ∧ t.len = s.lim.len ∧ w.len = s.lim.len ∧ (∀ k, k < t.len → farB (t.at k) 1073741824 = false) ∧ ∀ k, k < w.len → farB (w.at k) 1073741824 = false := by
  rw [← anyN_false (p := fun k => farB (t.at k) 1073741824), ← anyN_false (p := fun k => farB (w.at k) 1073741824)]
  unfold nxE
  cases checkB s <;> cases anyN (fun k => farB (t.at k) 1073741824) t.len <;> cases anyN (fun k => farB (w.at k) 1073741824) w.len <;> by_cases h : 0 ≤ mo ∧ mo < (s.nmd : Int) <;> by_cases h' : t.len = s.lim.len ∧ w.len = s.lim.len <;> simp [h, h'] <;> omega
theorem nxOK_of {s : Sys} {mo : Int} {t w : Vx} (h : nxE s mo t w = 0) : NxOK (s.md mo.toNat) t w := by
  obtain ⟨h1, h2, h3, h4, h5, h6, h7⟩ := nxE_iff.1 h
  have c := checkB_iff.1 h1
  refine ⟨by omega, by omega, by rw [h4]; exact c.2.2.2.2.2.2.2.2.2.2 mo.toNat (by omega), fun k hk => ?_, fun k hk => ?_⟩
  · have := h6 k hk; unfold farB at this; simp at this; omega
  · have := h7 k (by omega); unfold farB at this; simp at this; omega
def nxtS : Spec [sysSh, .int .i64, intsSh, intsSh] := ⟨fun (s, _, t, w, _) => SysMax (sysOf s) ∧ t.1 ≤ maxLen ∧ w.1 ≤ maxLen, fun (s, (mo : Int), t, w, _) =>
  .tup [.slc (.sym (nxN (sysOf s) mo (vxOf t) (vxOf w))) 1 (fun k => [.si .i64 (nxV ((sysOf s).md (nat mo)) (vxOf t).at (vxOf w).at k)]), .si .i64 (nxE (sysOf s) mo (vxOf t) (vxOf w))]⟩
def SL0 : Sums := ⟨(16, mkSum _ worksS) :: SE2.one, SE2.two, SE2.lo, SE2.eqs, SE2.its⟩
theorem SL0_ok : SumsOK Try.prog SL0 := (SE2_ok.cons Try.func16 (by kernel_rfl) (by kernel_rfl) works_ok)
set_option maxRecDepth 100000 in
set_option maxHeartbeats 1000000 in
theorem nxt_ok : FnSpec Try.prog 19 _ nxtS := by
  refine FnSpec.of SL0_ok mixed (U := 0) (I := fun _ => []) Try.func19 rfl (by kernel_rfl) rfl rfl (by decide +kernel) ?_
  rintro ⟨s, (mo : Int), t, w, ⟨⟩⟩ hpre
  obtain ⟨s, rfl⟩ := sys_ex s
  obtain ⟨t, rfl⟩ := vx_ex t
  obtain ⟨w, rfl⟩ := vx_ex w
  have hpre : SysMax s ∧ t.len ≤ maxLen ∧ w.len ≤ maxLen := by have : SysMax (sysOf (sysD s)) ∧ t.len ≤ maxLen ∧ w.len ≤ maxLen := hpre; rwa [sysOf_D] at this
  obtain ⟨⟨p1, p2, p3, p4, p5, p6⟩, p7, p8⟩ := hpre
  unfold FnSat
  conv => arg 2; reduce
  simp [nxtS, checkS, anyFarC, nextS, ElEq, getB, goneB, aliveB, and_assoc]
  have val : ∀ e : Int, nxE s mo t w = e → e ≠ 0 → nxN s mo t w = 0 ∧ e = nxE s mo t w := fun e h1 h2 => ⟨by unfold nxN; rw [h1, if_neg h2], h1.symm⟩
  refine ⟨p1, p2, p3, p4, p5, p6, fun h => ?_, fun h => ⟨fun h1 => ?_, fun a1 a2 => ⟨fun h1 => ?_, fun a3 a4 => ⟨p7, fun _ => p8, fun h1 => ?_, fun a5 a6 => ?_⟩⟩⟩⟩
  · rw [h, errA_false]; exact val 2 (by unfold nxE; simp [h]) (by decide)
  · exact val 3 (by unfold nxE; rw [if_pos h, if_neg (by omega)]) (by decide)
  · exact val 8 (by unfold nxE; rw [if_pos h, if_pos ⟨a1, a2⟩, if_neg (by omega)]) (by decide)
  · exact val 3 (by unfold nxE; rw [if_pos h, if_pos ⟨a1, a2⟩, if_pos (by omega), if_pos h1]) (by decide)
  · have h0 : nxE s mo t w = 0 := by unfold nxE; rw [if_pos h, if_pos ⟨a1, a2⟩, if_pos (by omega), if_neg (by simp [a5, a6])]
    have h1 : nxN s mo t w = t.len := by unfold nxN; rw [if_pos h0]
    simp [h0, h1, nxOK_of h0, a1, a2]
def SL1 : Sums := ⟨(19, mkSum _ nxtS) :: SL0.one, SL0.two, SL0.lo, SL0.eqs, SL0.its⟩
theorem SL1_ok : SumsOK Try.prog SL1 := (SL0_ok.cons Try.func19 (by kernel_rfl) (by kernel_rfl) nxt_ok)
theorem nxV_b {m : Mo} {t w : Vx} (h : NxOK m t w) {k : Nat} (hk : k < t.len) : -17179869184 ≤ nxV m t.at w.at k ∧ nxV m t.at w.at k ≤ 17179869184 := by
  obtain ⟨p1, p2, p3, p4, p5⟩ := h
  have h1 := p4 k hk
  have h2 := p5 k hk
  have h3 := mode_sh p3 hk
  by_cases h0 : m.nfl = 0
  · rw [nxV_none h0]; omega
  · have h4 := xV_near p3 p1 (T := 2147483648) p4 h0
    have hone := modeB_one p3 (by omega)
    rw [nxV_one (show m.nfl = 1 by omega)]
    split
    · omega
    · split <;> omega
end Abs
end Go.Proofs.Ytjblicdceafcpaa

/- The next temperatures and boxes by the document; how long a mode can be kept; equal lists. -/
namespace Go.Proofs.Ytjblicdceafcpaa
namespace Abs
open Go Go.RowKit
noncomputable def rnxtI : DatL [sysSh, .int .i64, intsSh, intsSh] → Anns := fun (_, _, t, w, _) => [
  (8, [], fun fr hp => ⟨Nat, fun g => ⟨frI [.k 10, .s (.si .i64 (icast g)), .k 26, .t 28] fr, hp⟩, Nat × Vx × Vx, fun g => (g, vxOf t, vxOf w), fun (g, t, w) => g ≤ t.len ∧ (∀ j, j < g → farB (t.at j) 1073741824 = false) ∧ ∀ j, j < g → farB (w.at j) 1073741824 = false, fun g => nsub t.1 g⟩)]
set_option maxRecDepth 100000 in
set_option maxHeartbeats 1000000 in
theorem rnxt_ok : FnSpec Try.prog 21 _ nxtS := by
  refine FnSpec.of SL1_ok mixed (U := 0) (I := rnxtI) Try.func21 rfl (by kernel_rfl) rfl rfl (by decide +kernel) ?_
  rintro ⟨s, (mo : Int), t, w, ⟨⟩⟩ hpre
  obtain ⟨s, rfl⟩ := sys_ex s
  obtain ⟨t, rfl⟩ := vx_ex t
  obtain ⟨w, rfl⟩ := vx_ex w
  have hpre : SysMax s ∧ t.len ≤ maxLen ∧ w.len ≤ maxLen := by have : SysMax (sysOf (sysD s)) ∧ t.len ≤ maxLen ∧ w.len ≤ maxLen := hpre; rwa [sysOf_D] at this
  obtain ⟨⟨p1, p2, p3, p4, p5, p6⟩, p7, p8⟩ := hpre
  unfold FnSat
  conv => arg 2; reduce
  simp [nxtS, inS, ElEq, getB, goneB, aliveB, and_assoc]
  have val : ∀ e : Int, nxE s mo t w = e → e ≠ 0 → nxN s mo t w = 0 ∧ e = nxE s mo t w := fun e h1 h2 => ⟨by unfold nxN; rw [h1, if_neg h2], h1.symm⟩
  have hfar : ∀ {x : Int}, farB x 1073741824 = true ↔ x < -1073741824 ∨ 1073741824 < x := fun {x} => by unfold farB; simp
  have hnf : ∀ {x : Int}, farB x 1073741824 = false ↔ -1073741824 ≤ x ∧ x ≤ 1073741824 := fun {x} => by unfold farB; simp
  refine ⟨p1, p2, p3, p4, p5, p6, fun h => val 2 (by unfold nxE; simp [h]) (by decide), fun h => ⟨fun h1 => val 3 (by unfold nxE; rw [if_pos h, if_neg (by omega)]) (by decide), fun a1 a2 =>
    ⟨fun h1 => val 8 (by unfold nxE; rw [if_pos h, if_pos ⟨a1, a2⟩, if_neg (by omega)]) (by decide), fun b1 b2 => ⟨⟨0, rfl, by omega, fun j hj => by omega, fun j hj => by omega⟩, fun g hg hf hf' => ⟨fun hlt => ⟨hlt, fun _ _ => by omega, fun h1 => ?_,
      fun c1 c2 c3 c4 => ⟨by unfold maxLen at p7; omega, by unfold maxLen at p7; omega, g + 1, by omega, by omega, fun j hj => ?_, fun j hj => ?_, by omega⟩⟩, fun hge => ?_⟩⟩⟩⟩⟩
  · refine val 3 ?_ (by decide)
    unfold nxE
    rw [if_pos h, if_pos ⟨a1, a2⟩, if_pos (by omega), if_pos]
    rcases h1 with h1 | h1
    · exact .inl (anyN_iff.2 ⟨g, hlt, hfar.2 h1⟩)
    · exact .inr (anyN_iff.2 ⟨g, by omega, hfar.2 h1⟩)
  · by_cases h' : j < g
    · exact hf j h'
    · obtain rfl : j = g := by omega
      exact hnf.2 ⟨c1, c2⟩
  · by_cases h' : j < g
    · exact hf' j h'
    · obtain rfl : j = g := by omega
      exact hnf.2 ⟨c3, c4⟩
  · have h0 : nxE s mo t w = 0 := nxE_iff.2 ⟨h, a1, a2, by omega, by omega, fun k hk => hf k (by omega), fun k hk => hf' k (by omega)⟩
    have h1 : nxN s mo t w = t.len := by unfold nxN; rw [if_pos h0]
    exact ⟨a1, a2, nxOK_of h0, h1.symm, h0.symm⟩
def lowS : Spec [spansSh] := ⟨fun (b, _) => b.1 ≤ 100000, fun (b, _) => .slc (.sym b.1) 1 (fun k => [.si .i64 ((bxOf b).lo k)])⟩
noncomputable def lowI : DatL [spansSh] → Anns := fun (b, _) => [(3, [(3, 2, 1)], fun fr hp => ⟨Nat, fun g => ⟨frI [.k 4, .s (.si .i64 (icast g)), .t 15] fr, putRL hp (.sym g) (fun k => [.si .i64 ((bxOf b).lo k)])⟩, Nat × Nat, fun g => (g, b.1), fun (g, n) => g ≤ n, fun g => nsub b.1 g⟩)]
set_option maxRecDepth 100000 in
theorem low_ok : FnSpec Try.prog 97 _ lowS := by
  refine FnSpec.of SL1_ok mixed (U := 0) (I := lowI) Try.func97 rfl (by kernel_rfl) rfl rfl (by decide +kernel) ?_
  rintro ⟨b, ⟨⟩⟩ (h0 : b.1 ≤ 100000)
  obtain ⟨b, rfl⟩ := bx_ex b
  have h0 : b.len ≤ 100000 := h0
  unfold FnSat
  conv => arg 2; reduce
  simp [lowS, maxRow, ElEq, aliveB, goneB, getB, and_assoc]
  exact ⟨⟨0, rfl, rfl, fun j => by omega, by omega⟩, fun g hg => ⟨fun hlt => ⟨hlt, by omega, by omega, by omega, g + 1, by omega, rfl, fun j hj => app_one hj (fun _ => rfl) (fun h => by subst h; rfl), by omega, by omega⟩, fun hge => by omega⟩⟩
def highS : Spec [spansSh] := ⟨fun (b, _) => b.1 ≤ 100000, fun (b, _) => .slc (.sym b.1) 1 (fun k => [.si .i64 ((bxOf b).hi k)])⟩
noncomputable def highI : DatL [spansSh] → Anns := fun (b, _) => [(3, [(3, 2, 1)], fun fr hp => ⟨Nat, fun g => ⟨frI [.k 4, .s (.si .i64 (icast g)), .t 15] fr, putRL hp (.sym g) (fun k => [.si .i64 ((bxOf b).hi k)])⟩, Nat × Nat, fun g => (g, b.1), fun (g, n) => g ≤ n, fun g => nsub b.1 g⟩)]
set_option maxRecDepth 100000 in
theorem high_ok : FnSpec Try.prog 98 _ highS := by
  refine FnSpec.of SL1_ok mixed (U := 0) (I := highI) Try.func98 rfl (by kernel_rfl) rfl rfl (by decide +kernel) ?_
  rintro ⟨b, ⟨⟩⟩ (h0 : b.1 ≤ 100000)
  obtain ⟨b, rfl⟩ := bx_ex b
  have h0 : b.len ≤ 100000 := h0
  unfold FnSat
  conv => arg 2; reduce
  simp [highS, maxRow, ElEq, aliveB, goneB, getB, and_assoc]
  exact ⟨⟨0, rfl, rfl, fun j => by omega, by omega⟩, fun g hg => ⟨fun hlt => ⟨hlt, by omega, by omega, by omega, g + 1, by omega, rfl, fun j hj => app_one hj (fun _ => rfl) (fun h => by subst h; rfl), by omega, by omega⟩, fun hge => by omega⟩⟩
def SK0 : Sums := ⟨(21, mkSum _ nxtS) :: (98, mkSum _ highS) :: (97, mkSum _ lowS) :: SL1.one, SL1.two, SL1.lo, SL1.eqs, SL1.its⟩
theorem SK0_ok : SumsOK Try.prog SK0 := (((SL1_ok.cons Try.func97 (by kernel_rfl) (by kernel_rfl) low_ok).cons Try.func98 (by kernel_rfl) (by kernel_rfl) high_ok).cons Try.func21 (by kernel_rfl) (by kernel_rfl) rnxt_ok)
noncomputable def rboxI : DatL [sysSh, .int .i64, .int .i64, spansSh] → Anns := fun (s, (sl : Int), (mo : Int), b, _) => [
  (5, [(11, 35, 2)], fun fr hp => ⟨Nat, fun g => ⟨frI [.k 12, .s (.si .i64 (icast g)), .k 28, .t 19] fr,
    putRL hp (.sym g) (fun k => [.si .i64 ((adV (sysOf s) sl mo (bxOf b)).lo k), .si .i64 ((adV (sysOf s) sl mo (bxOf b)).hi k)])⟩, Nat × Nat, fun g => (g, b.1), fun (g, n) => g ≤ n, fun g => nsub b.1 g⟩)]
set_option maxRecDepth 100000 in
set_option maxHeartbeats 2000000 in
theorem rbox_ok : FnSpec Try.prog 72 _ advS := by
  refine FnSpec.of SK0_ok mixed (U := 0) (I := rboxI) Try.func72 rfl (by kernel_rfl) rfl rfl (by decide +kernel) ?_
  rintro ⟨s, (sl : Int), (mo : Int), b, ⟨⟩⟩ hpre
  obtain ⟨s, rfl⟩ := sys_ex s
  obtain ⟨b, rfl⟩ := bx_ex b
  have hpre : AdOK s sl mo b := by have : AdOK (sysOf (sysD s)) sl mo (bxOf (b.len, fun k => (b.lo k, b.hi k, ()))) := hpre; simpa using this
  obtain ⟨p1, p2, p3, p4, p5, p6, p7, p8, p9⟩ := hpre
  unfold FnSat
  conv => arg 2; reduce
  simp [advS, maxRow, ElEq, aliveB, goneB, getB, and_assoc]
  have hn : ∀ k, k < b.len → -10000 ≤ (s.ld sl.toNat).lo k ∧ (s.ld sl.toNat).lo k ≤ 10000 ∧ -10000 ≤ (s.ld sl.toNat).hi k ∧ (s.ld sl.toNat).hi k ≤ 10000 := fun k hk => by
    have := nearV_iff.1 p8 k (by omega)
    omega
  refine ⟨p4, p5, by omega, p2, p3, by omega, ?_, p4, p5, by omega, p2, p3, by omega, ?_, ⟨0, rfl, rfl, fun j => by omega, by omega⟩, fun g hg => ⟨fun hlt => ⟨hlt, by omega, by omega, by omega, g + 1, by omega, rfl, fun j hj => app_one hj (fun _ => rfl) (fun h => by
    subst h; rw [adV_lo, adV_hi]; rfl), by omega, by omega⟩, fun hge => by omega⟩⟩
  · exact ⟨by simpa using p1, by simp; omega, by simpa using p6, fun k hk => by simp at hk ⊢; have := p9 k hk; omega, fun k hk => by simp at hk ⊢; have := hn k hk; omega⟩
  · exact ⟨by simpa using p1, by simp; omega, by simpa using p6, fun k hk => by simp at hk ⊢; have := p9 k hk; omega, fun k hk => by simp at hk ⊢; have := hn k hk; omega⟩
def SK1 : Sums := ⟨(72, mkSum _ advS) :: SK0.one, SK0.two, SK0.lo, SK0.eqs, SK0.its⟩
theorem SK1_ok : SumsOK Try.prog SK1 := (SK0_ok.cons Try.func72 (by kernel_rfl) (by kernel_rfl) rbox_ok)
set_option maxRecDepth 100000 in
theorem rnb_ok : FnSpec Try.prog 25 _ nbS := by
  refine FnSpec.of SK1_ok mixed (U := 0) (I := fun _ => []) Try.func25 rfl (by kernel_rfl) rfl rfl (by decide +kernel) ?_
  rintro ⟨s, (sl : Int), (mo : Int), b, ⟨⟩⟩ hpre
  obtain ⟨s, rfl⟩ := sys_ex s
  obtain ⟨b, rfl⟩ := bx_ex b
  have hpre : SysMax s ∧ b.len ≤ maxLen := by have : SysMax (sysOf (sysD s)) ∧ b.len ≤ maxLen := hpre; rwa [sysOf_D] at this
  obtain ⟨⟨p1, p2, p3, p4, p5, p6⟩, p7⟩ := hpre
  unfold FnSat
  conv => arg 2; reduce
  simp [nbS, ElEq, and_assoc]
  refine ⟨p1, p2, p3, p4, p5, p6, fun h => ?_, fun h => ⟨fun h1 => ?_, fun a1 a2 a3 a4 => ⟨p7, fun h1 => ?_, fun h1 => ⟨adOK_of h a1 a2 a3 a4 (by have := (boxM_iff.1 h1).1; omega) (boxM_iff.1 h1).2, ?_⟩⟩⟩⟩
  · have e : nbE s sl mo b = 2 := by unfold nbE; simp [h]
    rw [e]; unfold nbN; rw [e]; simp
  · have e : nbE s sl mo b = 3 := by unfold nbE; rw [if_pos h, if_neg (by omega)]
    rw [e]; unfold nbN; rw [e]; simp
  · have e : nbE s sl mo b = 8 := by
      unfold nbE
      rw [if_pos h, if_pos ⟨a1, a2, a3, a4⟩, if_neg]
      rintro ⟨h3, h4⟩
      rw [boxM_iff.2 ⟨by omega, h4⟩] at h1; cases h1
    rw [e]; unfold nbN; rw [e]; simp
  · have h2 := boxM_iff.1 h1
    have e : nbE s sl mo b = 0 := by unfold nbE; rw [if_pos h, if_pos ⟨a1, a2, a3, a4⟩, if_pos ⟨by omega, h2.2⟩]
    rw [e]; unfold nbN; rw [e]; simp
/-- the boxes of a mode that is kept -/
def kpV (s : Sys) (mo : Int) : Nat → Bx
  | 0 => s.st
  | g + 1 => adV s g mo (kpV s mo g)
theorem kpV_zero (s : Sys) (mo : Int) : kpV s mo 0 = s.st := rfl
theorem kpV_succ (s : Sys) (mo : Int) (g : Nat) : kpV s mo (g + 1) = adV s g mo (kpV s mo g) := rfl
attribute [irreducible] kpV
theorem kpV_len (s : Sys) (mo : Int) : ∀ g, (kpV s mo g).len = s.st.len
  | 0 => by rw [kpV_zero]
  | g + 1 => by rw [kpV_succ, adV_len, kpV_len s mo g]
@[simp] theorem bxOf_adV (s : Sys) (sl mo : Int) (b : Bx) : bxOf (b.len, fun k => ((adV s sl mo b).lo k, (adV s sl mo b).hi k, ())) = adV s sl mo b := by
  have := bxOf_mk (adV s sl mo b); rwa [adV_len] at this
@[irreducible] def kpN (s : Sys) (mo : Int) : Nat := firstN (fun g => !(inV s.lim (kpV s mo (g + 1)))) s.nld
theorem kpN_le (s : Sys) (mo : Int) : kpN s mo ≤ s.nld := by unfold kpN; exact firstN_le _ _
@[irreducible] def kpE (s : Sys) (mo : Int) : Int := if checkB s = true then (if 0 ≤ mo ∧ mo < s.nmd then 0 else 3) else 2
@[irreducible] def kpR (s : Sys) (mo : Int) : Int := if kpE s mo = 0 then (kpN s mo : Int) else 0
theorem near_of_in {s : Sys} {b : Bx} (h : checkB s = true) (hl : b.len = s.lim.len) (hb : inV s.lim b = true) : nearV b 10000 = true := by
  have c := checkB_iff.1 h
  have h1 := nearV_iff.1 c.2.2.2.2.2.1
  refine nearV_iff.2 fun k hk => ?_
  have h2 := inV_iff.1 hb k hk
  have h3 := h1 k (by omega)
  omega
theorem near_wide {b : Bx} (h : nearV b 10000 = true) : nearV b 1073741824 = true := nearV_iff.2 fun k hk => by have := nearV_iff.1 h k hk; omega
theorem kp_in {s : Sys} {mo : Int} (h : checkB s = true) {g : Nat} (hg : g ≤ kpN s mo) : inV s.lim (kpV s mo g) = true := by
  cases g with
  | zero => rw [kpV_zero]; exact (checkB_iff.1 h).2.2.2.2.2.2.2.2.1
  | succ g =>
    unfold kpN at hg
    have := firstN_not _ _ g hg
    simpa using this
theorem kp_ad {s : Sys} {mo : Int} (h : checkB s = true) (h0 : 0 ≤ mo) (h1 : mo < s.nmd) {g : Nat} (hg : g ≤ kpN s mo) (hlt : g < s.nld) : AdOK s g mo (kpV s mo g) := by
  have c := checkB_iff.1 h
  have hl : (kpV s mo g).len = s.lim.len := by rw [kpV_len]; exact c.2.2.2.2.2.2.1
  exact adOK_of h (by omega) (by omega) h0 h1 hl (near_wide (near_of_in h hl (kp_in h hg)))
theorem kpN_at {s : Sys} {mo : Int} {g : Nat} (hg : g ≤ kpN s mo) (_hlt : g < s.nld) (h : inV s.lim (adV s g mo (kpV s mo g)) = false) : kpN s mo = g := by
  unfold kpN at hg ⊢
  exact firstN_at hg (by rw [kpV_succ, h]; rfl)
theorem kpN_more {s : Sys} {mo : Int} {g : Nat} (hg : g ≤ kpN s mo) (hlt : g < s.nld) (h : inV s.lim (adV s g mo (kpV s mo g)) = true) : g + 1 ≤ kpN s mo := by
  unfold kpN at hg ⊢
  exact firstN_ge hg (by rw [kpV_succ, h]; rfl) hlt
def keepS : Spec [sysSh, .int .i64] := ⟨fun (s, _) => SysMax (sysOf s), fun (s, (mo : Int), _) => .tup [.si .i64 (kpR (sysOf s) mo), .si .i64 (kpE (sysOf s) mo)]⟩
noncomputable def keepI : DatL [sysSh, .int .i64] → Anns := fun (s, (mo : Int), _) => [
  (8, [], fun fr hp => ⟨Nat, fun g => ⟨frI [.k 7, .s (.slc (.sym (kpV (sysOf s) mo g).len) 2 (fun k => [.si .i64 ((kpV (sysOf s) mo g).lo k), .si .i64 ((kpV (sysOf s) mo g).hi k)])), .t 1, .k 19, .s (.si .i64 (icast g)), .t 16] fr, hp⟩, Nat × Sys × Int, fun g => (g, sysOf s, mo), fun (g, s, mo) => g ≤ kpN s mo, fun g => nsub s.2.2.2.1.1 g⟩)]
set_option maxRecDepth 100000 in
theorem keep_ok : FnSpec Try.prog 26 _ keepS := by
  refine FnSpec.of SK1_ok mixed (U := 0) (I := keepI) Try.func26 rfl (by kernel_rfl) rfl rfl (by decide +kernel) ?_
  rintro ⟨s, (mo : Int), ⟨⟩⟩ hpre
  obtain ⟨s, rfl⟩ := sys_ex s
  have hpre : SysMax s := by have : SysMax (sysOf (sysD s)) := hpre; rwa [sysOf_D] at this
  obtain ⟨p1, p2, p3, p4, p5, p6⟩ := hpre
  unfold FnSat
  conv => arg 2; reduce
  simp [keepS, and_assoc]
  have e0 : checkB s = true → 0 ≤ mo → mo < s.nmd → kpE s mo = 0 := fun h h1 h2 => by unfold kpE; rw [if_pos h, if_pos ⟨h1, h2⟩]
  refine ⟨p1, p2, p3, p4, p5, p6, fun h => ?_, fun h => ⟨fun h1 => ?_, fun a1 a2 => ⟨⟨0, by rw [kpV_zero], fun j _ => by rw [kpV_zero]; exact ⟨rfl, rfl⟩, rfl, by omega⟩, fun g hg => ⟨fun hlt => ⟨kp_ad h a1 a2 hg hlt, ?_, ?_, (checkB_iff.1 h).2.2.2.2.2.1, fun hi => ?_, fun hi => ?_⟩, fun hge => ?_⟩⟩⟩⟩
  · have e : kpE s mo = 2 := by unfold kpE; simp [h]
    unfold kpR; rw [e, h]; simp
  · have e : kpE s mo = 3 := by unfold kpE; rw [if_pos h, if_neg (by omega)]
    unfold kpR; rw [e]; simp
  · rw [kpV_len]; have := (checkB_iff.1 h).2.2.2.2.2.2.1; omega
  · rw [kpV_len]; exact p2
  · have e := e0 h a1 a2
    unfold kpR; rw [e, if_pos rfl, kpN_at hg hlt hi]; exact ⟨rfl, rfl⟩
  · have hm := kpN_more hg hlt hi
    unfold maxLen at p4
    refine ⟨by omega, by omega, g + 1, by rw [kpV_len, kpV_len], fun j _ => by rw [kpV_succ]; exact ⟨rfl, rfl⟩, by omega, hm, by omega⟩
  · have e := e0 h a1 a2
    have := kpN_le s mo
    unfold kpR; rw [e, if_pos rfl, show kpN s mo = s.nld by omega]; exact ⟨rfl, rfl⟩
noncomputable def rkeepI : DatL [sysSh, .int .i64] → Anns := fun (s, (mo : Int), _) => [
  (7, [], fun fr hp => ⟨Nat, fun g => ⟨frI [.k 6, .s (.slc (.sym (kpV (sysOf s) mo g).len) 2 (fun k => [.si .i64 ((kpV (sysOf s) mo g).lo k), .si .i64 ((kpV (sysOf s) mo g).hi k)])), .s (.si .i64 (icast g)), .k 14, .t 20] fr, hp⟩, Nat × Sys × Int, fun g => (g, sysOf s, mo), fun (g, s, mo) => g ≤ kpN s mo, fun g => nsub s.2.2.2.1.1 g⟩)]
set_option maxRecDepth 100000 in
theorem rkeep_ok : FnSpec Try.prog 27 _ keepS := by
  refine FnSpec.of SK1_ok mixed (U := 0) (I := rkeepI) Try.func27 rfl (by kernel_rfl) rfl rfl (by decide +kernel) ?_
  rintro ⟨s, (mo : Int), ⟨⟩⟩ hpre
  obtain ⟨s, rfl⟩ := sys_ex s
  have hpre : SysMax s := by have : SysMax (sysOf (sysD s)) := hpre; rwa [sysOf_D] at this
  obtain ⟨p1, p2, p3, p4, p5, p6⟩ := hpre
  unfold FnSat
  conv => arg 2; reduce
  simp [keepS, and_assoc]
  have e0 : checkB s = true → 0 ≤ mo → mo < s.nmd → kpE s mo = 0 := fun h h1 h2 => by unfold kpE; rw [if_pos h, if_pos ⟨h1, h2⟩]
  have hl : checkB s = true → ∀ g, (kpV s mo g).len = s.lim.len := fun h g => by rw [kpV_len]; exact (checkB_iff.1 h).2.2.2.2.2.2.1
  have hri : checkB s = true → ∀ g, rinV s.lim (adV s (g : Nat) mo (kpV s mo g)) = inV s.lim (adV s (g : Nat) mo (kpV s mo g)) := fun h g => by unfold rinV; simp [hl h g]
  refine ⟨p1, p2, p3, p4, p5, p6, fun h => ?_, fun h => ⟨fun h1 => ?_, fun a1 a2 => ⟨⟨0, by rw [kpV_zero], fun j _ => by rw [kpV_zero]; exact ⟨rfl, rfl⟩, rfl, by omega⟩, fun g hg => ⟨fun hlt => ⟨kp_ad h a1 a2 hg hlt, ?_, fun hi => ?_, fun hi => ?_⟩, fun hge => ?_⟩⟩⟩⟩
  · have e : kpE s mo = 2 := by unfold kpE; simp [h]
    unfold kpR; rw [e]; simp
  · have e : kpE s mo = 3 := by unfold kpE; rw [if_pos h, if_neg (by omega)]
    unfold kpR; rw [e]; simp
  · rw [kpV_len]; exact p2
  · rw [hri h] at hi
    have e := e0 h a1 a2
    unfold kpR; rw [e, if_pos rfl, kpN_at hg hlt hi]; exact ⟨rfl, rfl⟩
  · rw [hri h] at hi
    have hm := kpN_more hg hlt hi
    unfold maxLen at p4
    refine ⟨by omega, by omega, g + 1, by rw [kpV_len, kpV_len], fun j _ => by rw [kpV_succ]; exact ⟨rfl, rfl⟩, by omega, hm, by omega⟩
  · have e := e0 h a1 a2
    have := kpN_le s mo
    unfold kpR; rw [e, if_pos rfl, show kpN s mo = s.nld by omega]; exact ⟨rfl, rfl⟩
@[irreducible] def eqVx (x y : Vx) : Bool := decide (x.len = y.len) && allN (fun k => decide (x.at k = y.at k)) x.len
theorem eqVx_iff {x y : Vx} : eqVx x y = true ↔ x.len = y.len ∧ ∀ k, k < x.len → x.at k = y.at k := by unfold eqVx; simp [allN_iff]
@[simp] theorem eqVx_self (x : Vx) : eqVx x x = true := eqVx_iff.2 ⟨rfl, fun _ _ => rfl⟩
@[irreducible] def eqBx (x y : Bx) : Bool := decide (x.len = y.len) && allN (fun k => decide (x.lo k = y.lo k) && decide (x.hi k = y.hi k)) x.len
theorem eqBx_iff {x y : Bx} : eqBx x y = true ↔ x.len = y.len ∧ ∀ k, k < x.len → x.lo k = y.lo k ∧ x.hi k = y.hi k := by unfold eqBx; simp [allN_iff]
@[simp] theorem eqBx_self (x : Bx) : eqBx x x = true := eqBx_iff.2 ⟨rfl, fun _ _ => ⟨rfl, rfl⟩⟩
def sameS : Spec [intsSh, intsSh] := ⟨fun (x, _) => x.1 ≤ maxLen, fun (x, y, _) => .sb (eqVx (vxOf x) (vxOf y))⟩
noncomputable def sameI : DatL [intsSh, intsSh] → Anns := fun (x, y, _) => [(4, [], fun fr hp => ⟨Nat, fun g => ⟨frI [.k 5, .s (.si .i64 (icast g)), .k 5, .t 15] fr, hp⟩, Nat × Vx × Vx, fun g => (g, vxOf x, vxOf y), fun (g, x, y) => g ≤ x.len ∧ ∀ j, j < g → x.at j = y.at j, fun g => nsub x.1 g⟩)]
set_option maxRecDepth 100000 in
theorem same_ok : FnSpec Try.prog 24 _ sameS := by
  refine FnSpec.of SK1_ok mixed (U := 0) (I := sameI) Try.func24 rfl (by kernel_rfl) rfl rfl (by decide +kernel) ?_
  rintro ⟨x, y, ⟨⟩⟩ (h0 : x.1 ≤ maxLen)
  obtain ⟨x, rfl⟩ := vx_ex x
  obtain ⟨y, rfl⟩ := vx_ex y
  have h0 : x.len ≤ maxLen := h0
  unfold maxLen at h0
  unfold FnSat
  conv => arg 2; reduce
  simp [sameS, and_assoc]
  have no : (eqVx x y = true → False) → eqVx x y = false := fun h => by cases hs : eqVx x y with | false => rfl | true => exact (h hs).elim
  refine ⟨fun h => no fun he => ?_, fun h => ⟨⟨0, rfl, by omega, fun j hj => by omega⟩, fun g hg hf => ⟨fun hlt => ⟨hlt, by omega, fun hn => no fun he => hn ((eqVx_iff.1 he).2 g hlt), fun hy => ⟨by omega, by omega, g + 1, by omega, by omega, fun j hj => ?_, by omega⟩⟩, fun hge => eqVx_iff.2 ⟨by omega, fun k hk => hf k (by omega)⟩⟩⟩⟩
  · have := (eqVx_iff.1 he).1; omega
  · by_cases h' : j < g
    · exact hf j h'
    · obtain rfl : j = g := by omega
      exact hy
def sameBS : Spec [spansSh, spansSh] := ⟨fun (x, _) => x.1 ≤ maxLen, fun (x, y, _) => .sb (eqBx (bxOf x) (bxOf y))⟩
noncomputable def sameBI : DatL [spansSh, spansSh] → Anns := fun (x, y, _) => [(4, [], fun fr hp => ⟨Nat, fun g => ⟨frI [.k 5, .s (.si .i64 (icast g)), .k 5, .t 15] fr, hp⟩, Nat × Bx × Bx, fun g => (g, bxOf x, bxOf y), fun (g, x, y) => g ≤ x.len ∧ ∀ j, j < g → x.lo j = y.lo j ∧ x.hi j = y.hi j, fun g => nsub x.1 g⟩)]
set_option maxRecDepth 100000 in
theorem sameB_ok : FnSpec Try.prog 73 _ sameBS := by
  refine FnSpec.of SK1_ok mixed (U := 0) (I := sameBI) Try.func73 rfl (by kernel_rfl) rfl rfl (by decide +kernel) ?_
  rintro ⟨x, y, ⟨⟩⟩ (h0 : x.1 ≤ maxLen)
  obtain ⟨x, rfl⟩ := bx_ex x
  obtain ⟨y, rfl⟩ := bx_ex y
  have h0 : x.len ≤ maxLen := h0
  unfold maxLen at h0
  unfold FnSat
  conv => arg 2; reduce
  simp [sameBS, and_assoc]
  have no : (eqBx x y = true → False) → eqBx x y = false := fun h => by cases hs : eqBx x y with | false => rfl | true => exact (h hs).elim
  refine ⟨fun h => no fun he => ?_, fun h => ⟨⟨0, rfl, by omega, fun j hj => by omega⟩, fun g hg hf => ⟨fun hlt => ⟨hlt, by omega, fun hn => no fun he => ?_, fun hy hy' => ⟨by omega, by omega, g + 1, by omega, by omega, fun j hj => ?_, by omega⟩⟩, fun hge => eqBx_iff.2 ⟨by omega, fun k hk => hf k (by omega)⟩⟩⟩⟩
  · have := (eqBx_iff.1 he).1; omega
  · have := (eqBx_iff.1 he).2 g hlt; omega
  · by_cases h' : j < g
    · exact hf j h'
    · obtain rfl : j = g := by omega
      exact ⟨hy, hy'⟩
def SK2 : Sums := ⟨(25, mkSum _ nbS) :: (26, mkSum _ keepS) :: (27, mkSum _ keepS) :: (24, mkSum _ sameS) :: (73, mkSum _ sameBS) :: SK1.one, SK1.two, SK1.lo, SK1.eqs, SK1.its⟩
theorem SK2_ok : SumsOK Try.prog SK2 := (((((SK1_ok.cons Try.func73 (by kernel_rfl) (by kernel_rfl) sameB_ok).cons Try.func24 (by kernel_rfl) (by kernel_rfl) same_ok).cons Try.func27 (by kernel_rfl) (by kernel_rfl) rkeep_ok).cons Try.func26 (by kernel_rfl) (by kernel_rfl) keep_ok).cons Try.func25 (by kernel_rfl) (by kernel_rfl) rnb_ok)
set_option maxRecDepth 100000 in
theorem rsame_ok : FnSpec Try.prog 28 _ sameBS := by
  refine FnSpec.of SK2_ok mixed (U := 0) (I := fun _ => []) Try.func28 rfl (by kernel_rfl) rfl rfl (by decide +kernel) ?_
  rintro ⟨x, y, ⟨⟩⟩ (h0 : x.1 ≤ maxLen)
  obtain ⟨x, rfl⟩ := bx_ex x
  obtain ⟨y, rfl⟩ := bx_ex y
  have h0 : x.len ≤ maxLen := h0
  unfold FnSat
  conv => arg 2; reduce
  simp [sameBS]
  exact h0
def SK3 : Sums := ⟨(28, mkSum _ sameBS) :: SK2.one, SK2.two, SK2.lo, SK2.eqs, SK2.its⟩
theorem SK3_ok : SumsOK Try.prog SK3 := (SK2_ok.cons Try.func28 (by kernel_rfl) (by kernel_rfl) rsame_ok)
end Abs
end Go.Proofs.Ytjblicdceafcpaa

/- Copies of lists; the boxes of a plan, whether it is safe, its margin. -/
namespace Go.Proofs.Ytjblicdceafcpaa
namespace Abs
open Go Go.RowKit
def cloneBS : Spec [spansSh] := ⟨fun (b, _) => b.1 ≤ 1000000, fun (b, _) => .slc (.sym b.1) 2 (fun k => [.si .i64 ((bxOf b).lo k), .si .i64 ((bxOf b).hi k)])⟩
set_option maxRecDepth 100000 in
theorem cloneB_ok : FnSpec Try.prog 79 _ cloneBS := by
  refine FnSpec.of SK3_ok mixed (U := 0) (I := fun _ => []) Try.func79 rfl (by kernel_rfl) rfl rfl (by decide +kernel) ?_
  rintro ⟨b, ⟨⟩⟩ (h0 : b.1 ≤ 1000000)
  obtain ⟨b, rfl⟩ := bx_ex b
  have h0 : b.len ≤ 1000000 := h0
  unfold FnSat
  conv => arg 2; reduce
  simp [unitA, cloneBS, maxRow, ElEq, aliveB, goneB, getB]
  omega
def cloneVS : Spec [intsSh] := ⟨fun (b, _) => b.1 ≤ 1000000, fun (b, _) => .slc (.sym b.1) 1 (fun k => [.si .i64 ((vxOf b).at k)])⟩
set_option maxRecDepth 100000 in
theorem cloneV_ok : FnSpec Try.prog 83 _ cloneVS := by
  refine FnSpec.of SK3_ok mixed (U := 0) (I := fun _ => []) Try.func83 rfl (by kernel_rfl) rfl rfl (by decide +kernel) ?_
  rintro ⟨b, ⟨⟩⟩ (h0 : b.1 ≤ 1000000)
  obtain ⟨b, rfl⟩ := vx_ex b
  have h0 : b.len ≤ 1000000 := h0
  unfold FnSat
  conv => arg 2; reduce
  simp [unitA, cloneVS, maxRow, ElEq, aliveB, goneB, getB]
  omega
noncomputable def rplanI : DatL [sysSh, intsSh] → Anns := fun (s, p, _) => [
  (6, [], fun fr hp => ⟨Nat, fun g => ⟨frI [.k 5, .s (.si .i64 (icast g)), .k 9, .t 21] fr, hp⟩, Nat × Sys × Vx, fun g => (g, sysOf s, vxOf p), fun (g, s, p) => g ≤ p.len ∧ ∀ j, j < g → 0 ≤ p.at j ∧ p.at j < s.nmd, fun g => nsub p.1 g⟩)]
set_option maxRecDepth 100000 in
theorem rplan_ok : FnSpec Try.prog 85 _ planS := by
  refine FnSpec.of SK3_ok mixed (U := 0) (I := rplanI) Try.func85 rfl (by kernel_rfl) rfl rfl (by decide +kernel) ?_
  rintro ⟨s, p, ⟨⟩⟩ hpre
  obtain ⟨s, rfl⟩ := sys_ex s
  obtain ⟨p, rfl⟩ := vx_ex p
  have hpre : SysMax s ∧ p.len ≤ maxLen := by have : SysMax (sysOf (sysD s)) ∧ p.len ≤ maxLen := hpre; rwa [sysOf_D] at this
  obtain ⟨⟨p1, p2, p3, p4, p5, p6⟩, p7⟩ := hpre
  unfold FnSat
  conv => arg 2; reduce
  simp [planS, and_assoc]
  unfold maxLen at p7
  refine ⟨p1, p2, p3, p4, p5, p6, fun h => by unfold plE; simp [h], fun h => ⟨fun h1 => ?_, fun h1 => ⟨⟨0, rfl, by omega, fun j hj => by omega⟩, fun g hg hf => ⟨fun hlt => ⟨hlt, fun _ => hlt, fun h2 => ?_, fun a1 a2 => ⟨by omega, by omega, g + 1, by omega, by omega, fun j hj => ?_, by omega⟩⟩, fun hge => ?_⟩⟩⟩⟩
  · unfold plE; rw [if_pos h, if_neg (by omega)]
  · unfold plE; rw [if_pos h, if_pos (by omega), if_pos (anyN_iff.2 ⟨g, hlt, by exact badK_eq.2 h2⟩)]
  · by_cases h' : j < g
    · exact hf j h'
    · obtain rfl : j = g := by omega
      exact ⟨a1, a2⟩
  · exact (plE_iff.2 ⟨h, by omega, fun k hk => hf k (by omega)⟩).symm
def SB0 : Sums := ⟨(83, mkSum _ cloneVS) :: (79, mkSum _ cloneBS) :: (85, mkSum _ planS) :: SK3.one, SK3.two, SK3.lo, SK3.eqs, SK3.its⟩
theorem SB0_ok : SumsOK Try.prog SB0 := (((SK3_ok.cons Try.func85 (by kernel_rfl) (by kernel_rfl) rplan_ok).cons Try.func79 (by kernel_rfl) (by kernel_rfl) cloneB_ok).cons Try.func83 (by kernel_rfl) (by kernel_rfl) cloneV_ok)
noncomputable def rcostI : DatL [sysSh, intsSh] → Anns := fun (s, p, _) => [
  (6, [], fun fr hp => ⟨Nat, fun g => ⟨frI [.k 7, .s (.si .i64 (costN (sysOf s) (vxOf p) g)), .s (.si .i64 (icast g)), .k 6, .t 18] fr, hp⟩, Nat × Nat, fun g => (g, p.1), fun (g, n) => g ≤ n, fun g => nsub p.1 g⟩)]
set_option maxRecDepth 100000 in
theorem rcost_ok : FnSpec Try.prog 40 _ costS := by
  refine FnSpec.of SB0_ok mixed (U := 0) (I := rcostI) Try.func40 rfl (by kernel_rfl) rfl rfl (by decide +kernel) ?_
  rintro ⟨s, p, ⟨⟩⟩ hpre
  obtain ⟨s, rfl⟩ := sys_ex s
  obtain ⟨p, rfl⟩ := vx_ex p
  have hpre : SysMax s ∧ p.len ≤ maxLen := by have : SysMax (sysOf (sysD s)) ∧ p.len ≤ maxLen := hpre; rwa [sysOf_D] at this
  unfold FnSat
  conv => arg 2; reduce
  simp [costS, and_assoc]
  refine ⟨hpre.1, hpre.2, fun h => by unfold csV; rw [if_neg h], fun h => ⟨⟨0, (costN_zero _ _).symm, rfl, by omega⟩, fun g hg => ⟨fun hlt => ?_, fun hge => ⟨?_, h.symm⟩⟩⟩⟩
  · have h3 := plE_iff.1 h
    have h1 := h3.2.2 g hlt
    have h2 := costN_b h (k := g + 1) hlt
    rw [costN_succ] at h2
    have h4 := (checkB_iff.1 h3.1).2.2.2.2.1
    exact ⟨hlt, h1.1, h1.2, by omega, by omega, by omega, by omega, g + 1, (costN_succ _ _ _).symm, by omega, by omega, by omega⟩
  · unfold csV; rw [if_pos h, show g = p.len by omega]
theorem nxV_nearT {m : Mo} {n : Nat} (h : modeB m (n : Int) = true) (hn : n ≤ 3) {t w : Nat → Int} {T : Int} (ht : ∀ k, k < n → -T ≤ t k ∧ t k ≤ T) (hw : ∀ k, k < n → -10000 ≤ w k ∧ w k ≤ 10000) {i : Nat} (hi : i < n) :
    -(T + 20000) ≤ nxV m t w i ∧ nxV m t w i ≤ T + 20000 := by
  have a1 := ht i hi
  have a2 := hw i hi
  have a3 := mode_sh h hi
  by_cases h1 : m.nfl = 0
  · rw [nxV_none h1]; omega
  · obtain ⟨e, p0, p1, hne, f0, f1, g0, g1⟩ := one_flow h hn h1
    rw [nxV_one e]
    have b1 := ht (m.ff 0).toNat (by omega)
    have b2 := ht (m.ft 0).toNat (by omega)
    have hx : (0 ≤ xV m t 0 ∧ xV m t 0 ≤ t (m.ff 0).toNat - t (m.ft 0).toNat) ∨ (t (m.ff 0).toNat - t (m.ft 0).toNat ≤ xV m t 0 ∧ xV m t 0 ≤ 0) := by
      unfold xV
      rcases Int.le_total 0 (t (m.ff 0).toNat - t (m.ft 0).toNat) with h | h
      · exact .inl (mul_lo h p0 p1)
      · exact .inr (mul_hi h p0 p1)
    split
    · have e2 : i = (m.ft 0).toNat := by omega
      rw [← e2] at hx b2
      omega
    · split
      · have e2 : i = (m.ff 0).toNat := by omega
        rw [← e2] at hx b1
        omega
      · omega
/-- the boxes of a plan -/
def bxV (s : Sys) (p : Vx) : Nat → Bx
  | 0 => s.st
  | g + 1 => adV s g (p.at g) (bxV s p g)
theorem bxV_zero (s : Sys) (p : Vx) : bxV s p 0 = s.st := rfl
theorem bxV_succ (s : Sys) (p : Vx) (g : Nat) : bxV s p (g + 1) = adV s g (p.at g) (bxV s p g) := rfl
attribute [irreducible] bxV
theorem bxV_len (s : Sys) (p : Vx) : ∀ g, (bxV s p g).len = s.st.len
  | 0 => by rw [bxV_zero]
  | g + 1 => by rw [bxV_succ, adV_len, bxV_len s p g]
theorem bxV_near {s : Sys} {p : Vx} (h : plE s p = 0) : ∀ {g : Nat}, g ≤ p.len → ∀ k, k < s.lim.len → -(10000 + (g : Int) * 20000) ≤ (bxV s p g).lo k ∧ (bxV s p g).lo k ≤ 10000 + (g : Int) * 20000 ∧ -(10000 + (g : Int) * 20000) ≤ (bxV s p g).hi k ∧ (bxV s p g).hi k ≤ 10000 + (g : Int) * 20000
  | 0, _, k, hk => by
    have c := checkB_iff.1 (plE_iff.1 h).1
    have := nearV_iff.1 c.2.2.2.2.2.2.2.1 k (by omega)
    rw [bxV_zero]; omega
  | g + 1, hg, k, hk => by
    have h3 := plE_iff.1 h
    have c := checkB_iff.1 h3.1
    have hi := fun j hj => bxV_near h (g := g) (by omega) j hj
    have hp := h3.2.2 g hg
    have hm : modeB (s.md (p.at g).toNat) (s.lim.len : Int) = true := c.2.2.2.2.2.2.2.2.2.2 (p.at g).toNat (by omega)
    have hl := c.2.2.2.2.2.2.2.2.2.1 g (by omega)
    have hw := nearV_iff.1 hl.2
    rw [bxV_succ, adV_lo, adV_hi]
    have q1 := nxV_nearT hm c.2.1 (t := (bxV s p g).lo) (w := (s.ld ((g : Nat) : Int).toNat).lo) (T := 10000 + (g : Int) * 20000) (fun j hj => by have := hi j hj; omega) (fun j hj => by
      simp only [Int.toNat_natCast]; have := hw j (by omega); omega) hk
    have q2 := nxV_nearT hm c.2.1 (t := (bxV s p g).hi) (w := (s.ld ((g : Nat) : Int).toNat).hi) (T := 10000 + (g : Int) * 20000) (fun j hj => by have := hi j hj; omega) (fun j hj => by
      simp only [Int.toNat_natCast]; have := hw j (by omega); omega) hk
    omega
theorem bx_ad {s : Sys} {p : Vx} (h : plE s p = 0) {g : Nat} (hg : g < p.len) : AdOK s g (p.at g) (bxV s p g) := by
  have h3 := plE_iff.1 h
  have c := checkB_iff.1 h3.1
  have hp := h3.2.2 g hg
  have hl : (bxV s p g).len = s.lim.len := by rw [bxV_len]; exact c.2.2.2.2.2.2.1
  have hld := c.2.2.2.2.2.2.2.2.2.1 g (by omega)
  refine ⟨by omega, by omega, by omega, hp.1, hp.2, by rw [hl]; exact c.2.2.2.2.2.2.2.2.2.2 (p.at g).toNat (by omega), by simp only [Int.toNat_natCast]; omega, by simp only [Int.toNat_natCast]; exact hld.2, fun k hk => ?_⟩
  have := bxV_near h (g := g) (by omega) k (by omega)
  have := c.2.2.2.2.1
  omega
@[irreducible] def bxN (s : Sys) (p : Vx) : Nat := if plE s p = 0 then p.len + 1 else 0
@[reducible] def bxEl (s : Sys) (p : Vx) (k : Nat) : List AV := [.slc (.sym (bxV s p k).len) 2 (fun j => [.si .i64 ((bxV s p k).lo j), .si .i64 ((bxV s p k).hi j)])]
def boxesS : Spec [sysSh, intsSh] := ⟨fun (s, p, _) => SysMax (sysOf s) ∧ p.1 ≤ maxLen, fun (s, p, _) => .tup [.slc (.sym (bxN (sysOf s) (vxOf p))) 1 (fun k => bxEl (sysOf s) (vxOf p) k), .si .i64 (plE (sysOf s) (vxOf p))]⟩
noncomputable def boxesI : DatL [sysSh, intsSh] → Anns := fun (s, p, _) => [
  (6, [], fun fr hp => ⟨Nat, fun g => ⟨frI [.k 8, .t 2, .k 9, .t 1, .k 2, .s (.si .i64 (icast g)), .t 17] fr, putR hp 1 (.sym (nadd g 1)) (fun k => bxEl (sysOf s) (vxOf p) k)⟩, Nat × Nat, fun g => (g, p.1), fun (g, n) => g ≤ n, fun g => nsub p.1 g⟩)]
set_option maxRecDepth 100000 in
theorem boxes_ok : FnSpec Try.prog 31 _ boxesS := by
  refine FnSpec.of SB0_ok mixed (U := 0) (I := boxesI) Try.func31 rfl (by kernel_rfl) rfl rfl (by decide +kernel) ?_
  rintro ⟨s, p, ⟨⟩⟩ hpre
  obtain ⟨s, rfl⟩ := sys_ex s
  obtain ⟨p, rfl⟩ := vx_ex p
  have hpre : SysMax s ∧ p.len ≤ maxLen := by have : SysMax (sysOf (sysD s)) ∧ p.len ≤ maxLen := hpre; rwa [sysOf_D] at this
  unfold FnSat
  conv => arg 2; reduce
  simp [boxesS, maxRow, ElEq, aliveB, goneB, getB, and_assoc]
  have fin : ∀ g : Nat, plE s p = 0 → g ≤ p.len → p.len ≤ g → g + 1 = bxN s p ∧ 0 = plE s p := fun g h h1 h2 => ⟨by unfold bxN; rw [if_pos h]; omega, h.symm⟩
  refine ⟨hpre.1, hpre.2, fun h => by unfold bxN; rw [if_neg h], fun h => ?_⟩
  have h3 := plE_iff.1 h
  have c := checkB_iff.1 h3.1
  refine ⟨by omega, ⟨0, rfl, rfl, fun j hj => ?_, by omega⟩, fun g hg => ⟨fun hlt => ⟨hlt, by omega, bx_ad h hlt, by omega, by omega, by omega, g + 1, by omega, rfl, fun j hj => app_one hj (fun _ => rfl) (fun h => ?_), by omega, by omega⟩, fun hge => fin g h hg hge⟩⟩
  · obtain rfl : j = 0 := by omega
    rw [bxV_zero]; rfl
  · subst h; rw [bxV_succ, adV_len]; rfl
noncomputable def rboxesI : DatL [sysSh, intsSh] → Anns := fun (s, p, _) => [
  (6, [], fun fr hp => ⟨Nat, fun g => ⟨frI [.k 8, .s (.si .i64 (icast g)), .k 10, .t 22] fr, putR hp 2 (.sym (nadd g 1)) (fun k => bxEl (sysOf s) (vxOf p) k)⟩, Nat × Nat, fun g => (g, p.1), fun (g, n) => g ≤ n, fun g => nsub p.1 g⟩)]
set_option maxRecDepth 100000 in
theorem rboxes_ok : FnSpec Try.prog 37 _ boxesS := by
  refine FnSpec.of SB0_ok mixed (U := 0) (I := rboxesI) Try.func37 rfl (by kernel_rfl) rfl rfl (by decide +kernel) ?_
  rintro ⟨s, p, ⟨⟩⟩ hpre
  obtain ⟨s, rfl⟩ := sys_ex s
  obtain ⟨p, rfl⟩ := vx_ex p
  have hpre : SysMax s ∧ p.len ≤ maxLen := by have : SysMax (sysOf (sysD s)) ∧ p.len ≤ maxLen := hpre; rwa [sysOf_D] at this
  unfold FnSat
  conv => arg 2; reduce
  simp [boxesS, maxRow, ElEq, aliveB, goneB, getB, and_assoc]
  have fin : ∀ g : Nat, plE s p = 0 → g ≤ p.len → p.len ≤ g → g + 1 = bxN s p ∧ 0 = plE s p := fun g h h1 h2 => ⟨by unfold bxN; rw [if_pos h]; omega, h.symm⟩
  refine ⟨hpre.1, hpre.2, fun h => by unfold bxN; rw [if_neg h], fun h => ?_⟩
  have h3 := plE_iff.1 h
  have c := checkB_iff.1 h3.1
  refine ⟨by omega, ⟨0, rfl, rfl, fun j hj => ?_, by omega⟩, fun g hg => ⟨fun hlt => ⟨hlt, by omega, bx_ad h hlt, by omega, by omega, by omega, g + 1, by omega, rfl, fun j hj => app_one hj (fun _ => rfl) (fun h => ?_), by omega, by omega⟩, fun hge => fin g h hg hge⟩⟩
  · obtain rfl : j = 0 := by omega
    rw [bxV_zero]; rfl
  · subst h; rw [bxV_succ, adV_len]; rfl
def SB1 : Sums := ⟨(40, mkSum _ costS) :: (31, mkSum _ boxesS) :: (37, mkSum _ boxesS) :: SB0.one, SB0.two, SB0.lo, SB0.eqs, SB0.its⟩
theorem SB1_ok : SumsOK Try.prog SB1 := (((SB0_ok.cons Try.func37 (by kernel_rfl) (by kernel_rfl) rboxes_ok).cons Try.func31 (by kernel_rfl) (by kernel_rfl) boxes_ok).cons Try.func40 (by kernel_rfl) (by kernel_rfl) rcost_ok)
end Abs
end Go.Proofs.Ytjblicdceafcpaa

/- Whether a plan is safe; its margin. -/
namespace Go.Proofs.Ytjblicdceafcpaa
namespace Abs
open Go Go.RowKit
/-- how many boxes behind the first one are inside of the limits -/
@[irreducible] def sfN (s : Sys) (p : Vx) : Nat := firstN (fun k => !(inV s.lim (bxV s p (k + 1)))) p.len
theorem sfN_le (s : Sys) (p : Vx) : sfN s p ≤ p.len := by unfold sfN; exact firstN_le _ _
theorem sfN_at {s : Sys} {p : Vx} {g : Nat} (hg : g ≤ sfN s p) (h : inV s.lim (bxV s p (g + 1)) = false) : sfN s p = g := by
  unfold sfN at hg ⊢
  exact firstN_at hg (by rw [h]; rfl)
theorem sfN_more {s : Sys} {p : Vx} {g : Nat} (hg : g ≤ sfN s p) (hlt : g < p.len) (h : inV s.lim (bxV s p (g + 1)) = true) : g + 1 ≤ sfN s p := by
  unfold sfN at hg ⊢
  exact firstN_ge hg (by rw [h]; rfl) hlt
@[irreducible] def sfK (s : Sys) (p : Vx) : Int := if plE s p = 0 then (sfN s p : Int) else 0
@[irreducible] def sfB (s : Sys) (p : Vx) : Bool := decide (plE s p = 0) && decide (sfN s p = p.len)
theorem sfB_iff {s : Sys} {p : Vx} : sfB s p = true ↔ plE s p = 0 ∧ sfN s p = p.len := by unfold sfB; simp
theorem safe_in {s : Sys} {p : Vx} (h : sfB s p = true) {g : Nat} (hg : g ≤ p.len) : inV s.lim (bxV s p g) = true := by
  obtain ⟨h1, h2⟩ := sfB_iff.1 h
  cases g with
  | zero => rw [bxV_zero]; exact (checkB_iff.1 (plE_iff.1 h1).1).2.2.2.2.2.2.2.2.1
  | succ g =>
    unfold sfN at h2
    have := firstN_not (fun k => !(inV s.lim (bxV s p (k + 1)))) p.len g (by omega)
    simpa using this
def safeS : Spec [sysSh, intsSh] := ⟨fun (s, p, _) => SysMax (sysOf s) ∧ p.1 ≤ maxLen, fun (s, p, _) => .tup [.si .i64 (sfK (sysOf s) (vxOf p)), .sb (sfB (sysOf s) (vxOf p)), .si .i64 (plE (sysOf s) (vxOf p))]⟩
noncomputable def safeI : DatL [sysSh, intsSh] → Anns := fun (s, p, _) => [
  (5, [], fun fr hp => ⟨Nat, fun g => ⟨frI [.k 9, .t 2, .k 12, .s (.si .i64 (icast g)), .t 12] fr, hp⟩, Nat × Sys × Vx, fun g => (g, sysOf s, vxOf p), fun (g, s, p) => g ≤ sfN s p, fun g => nsub p.1 g⟩)]
set_option maxRecDepth 100000 in
theorem safe_ok : FnSpec Try.prog 32 _ safeS := by
  refine FnSpec.of SB1_ok mixed (U := 0) (I := safeI) Try.func32 rfl (by kernel_rfl) rfl rfl (by decide +kernel) ?_
  rintro ⟨s, p, ⟨⟩⟩ hpre
  obtain ⟨s, rfl⟩ := sys_ex s
  obtain ⟨p, rfl⟩ := vx_ex p
  have hpre : SysMax s ∧ p.len ≤ maxLen := by have : SysMax (sysOf (sysD s)) ∧ p.len ≤ maxLen := hpre; rwa [sysOf_D] at this
  unfold FnSat
  conv => arg 2; reduce
  simp [safeS, and_assoc]
  have bl : plE s p = 0 → ∀ g, (bxV s p g).len = s.lim.len := fun h g => by rw [bxV_len]; exact (checkB_iff.1 (plE_iff.1 h).1).2.2.2.2.2.2.1
  have l3 : plE s p = 0 → s.lim.len ≤ 3 ∧ p.len ≤ 48 := fun h => by have h3 := plE_iff.1 h; have c := checkB_iff.1 h3.1; omega
  have bn : plE s p = 0 → bxN s p = p.len + 1 := fun h => by unfold bxN; rw [if_pos h]
  have no : plE s p = 0 → ∀ g, g ≤ sfN s p → g < p.len → inV s.lim (bxV s p (g + 1)) = false → (g : Int) = sfK s p ∧ sfB s p = false ∧ 0 = plE s p := fun h g h1 h2 h3 => by
    have e := sfN_at h1 h3
    refine ⟨by unfold sfK; rw [if_pos h, e], ?_, h.symm⟩
    cases hs : sfB s p with
    | false => rfl
    | true => have := (sfB_iff.1 hs).2; omega
  have yes : plE s p = 0 → ∀ g, g ≤ sfN s p → p.len ≤ g → (p.len : Int) = sfK s p ∧ sfB s p = true ∧ 0 = plE s p := fun h g h1 h2 => by
    have := sfN_le s p
    have e : sfN s p = p.len := by omega
    exact ⟨by unfold sfK; rw [if_pos h, e], sfB_iff.2 ⟨h, e⟩, h.symm⟩
  have bad : ¬plE s p = 0 → 0 = sfK s p ∧ sfB s p = false := fun h => by
    refine ⟨by unfold sfK; rw [if_neg h], ?_⟩
    cases hs : sfB s p with
    | false => rfl
    | true => exact absurd (sfB_iff.1 hs).1 h
  refine ⟨hpre.1, hpre.2, bad, fun h => ?_⟩
  have e := bn h
  have hl := bl h
  have h3 := l3 h
  refine ⟨by omega, ⟨0, rfl, by omega⟩, fun g hg => ⟨fun hlt => ⟨hlt, by rw [hl]; exact Nat.le_refl _, by rw [hl]; unfold maxLen; omega, (checkB_iff.1 (plE_iff.1 h).1).2.2.2.2.2.1, fun hi => ?_, fun hi => ?_⟩, fun hge => yes h g hg (by omega)⟩⟩
  · rw [Nat.add_comm] at hi
    exact no h g hg (by omega) hi
  · rw [Nat.add_comm] at hi
    exact ⟨by omega, by omega, g + 1, by omega, sfN_more hg (by omega) hi, by omega⟩
noncomputable def rsafeI : DatL [sysSh, intsSh] → Anns := fun (s, p, _) => [
  (5, [], fun fr hp => ⟨Nat, fun g => ⟨frI [.k 9, .s (.si .i64 (icast g)), .k 9, .t 17] fr, hp⟩, Nat × Sys × Vx, fun g => (g, sysOf s, vxOf p), fun (g, s, p) => g ≤ sfN s p, fun g => nsub p.1 g⟩)]
set_option maxRecDepth 100000 in
theorem rsafe_ok : FnSpec Try.prog 38 _ safeS := by
  refine FnSpec.of SB1_ok mixed (U := 0) (I := rsafeI) Try.func38 rfl (by kernel_rfl) rfl rfl (by decide +kernel) ?_
  rintro ⟨s, p, ⟨⟩⟩ hpre
  obtain ⟨s, rfl⟩ := sys_ex s
  obtain ⟨p, rfl⟩ := vx_ex p
  have hpre : SysMax s ∧ p.len ≤ maxLen := by have : SysMax (sysOf (sysD s)) ∧ p.len ≤ maxLen := hpre; rwa [sysOf_D] at this
  unfold FnSat
  conv => arg 2; reduce
  simp [safeS, and_assoc]
  have bl : plE s p = 0 → ∀ g, (bxV s p g).len = s.lim.len := fun h g => by rw [bxV_len]; exact (checkB_iff.1 (plE_iff.1 h).1).2.2.2.2.2.2.1
  have l3 : plE s p = 0 → s.lim.len ≤ 3 ∧ p.len ≤ 48 := fun h => by have h3 := plE_iff.1 h; have c := checkB_iff.1 h3.1; omega
  have bn : plE s p = 0 → bxN s p = p.len + 1 := fun h => by unfold bxN; rw [if_pos h]
  have no : plE s p = 0 → ∀ g, g ≤ sfN s p → g < p.len → inV s.lim (bxV s p (g + 1)) = false → (g : Int) = sfK s p ∧ sfB s p = false ∧ 0 = plE s p := fun h g h1 h2 h3 => by
    have e := sfN_at h1 h3
    refine ⟨by unfold sfK; rw [if_pos h, e], ?_, h.symm⟩
    cases hs : sfB s p with
    | false => rfl
    | true => have := (sfB_iff.1 hs).2; omega
  have yes : plE s p = 0 → ∀ g, g ≤ sfN s p → p.len ≤ g → (p.len : Int) = sfK s p ∧ sfB s p = true ∧ 0 = plE s p := fun h g h1 h2 => by
    have := sfN_le s p
    have e : sfN s p = p.len := by omega
    exact ⟨by unfold sfK; rw [if_pos h, e], sfB_iff.2 ⟨h, e⟩, h.symm⟩
  have bad : ¬plE s p = 0 → 0 = sfK s p ∧ sfB s p = false := fun h => by
    refine ⟨by unfold sfK; rw [if_neg h], ?_⟩
    cases hs : sfB s p with
    | false => rfl
    | true => exact absurd (sfB_iff.1 hs).1 h
  refine ⟨hpre.1, hpre.2, bad, fun h => ?_⟩
  have e := bn h
  have hl := bl h
  have h3 := l3 h
  have hr : ∀ g, rinV s.lim (bxV s p g) = inV s.lim (bxV s p g) := fun g => by unfold rinV; simp [hl g]
  refine ⟨⟨0, rfl, by omega⟩, fun g hg => ⟨fun hlt => ⟨by omega, by omega, by omega, by omega, by rw [hl]; unfold maxLen; omega, fun hi => ?_, fun hi => ?_⟩, fun hge => yes h g hg (by omega)⟩⟩
  · rw [hr] at hi
    exact no h g hg (by omega) hi
  · rw [hr] at hi
    exact ⟨by omega, by omega, g + 1, by omega, sfN_more hg (by omega) hi, by omega⟩
def SM0 : Sums := ⟨(32, mkSum _ safeS) :: (38, mkSum _ safeS) :: SB1.one, SB1.two, SB1.lo, SB1.eqs, SB1.its⟩
theorem SM0_ok : SumsOK Try.prog SM0 := ((SB1_ok.cons Try.func38 (by kernel_rfl) (by kernel_rfl) rsafe_ok).cons Try.func32 (by kernel_rfl) (by kernel_rfl) safe_ok)
/-- the least distance to the limits, box by box, loop by loop -/
def mgL (l b : Bx) (a : Int) : Nat → Int
  | 0 => a
  | j + 1 => min (mgL l b a j) (min (b.lo j - l.lo j) (l.hi j - b.hi j))
theorem mgL_zero (l b : Bx) (a : Int) : mgL l b a 0 = a := rfl
theorem mgL_succ (l b : Bx) (a : Int) (j : Nat) : mgL l b a (j + 1) = min (mgL l b a j) (min (b.lo j - l.lo j) (l.hi j - b.hi j)) := rfl
attribute [irreducible] mgL
def mgV (s : Sys) (p : Vx) : Nat → Int
  | 0 => 1073741824
  | g + 1 => mgL s.lim (bxV s p g) (mgV s p g) s.lim.len
theorem mgV_zero (s : Sys) (p : Vx) : mgV s p 0 = 1073741824 := rfl
theorem mgV_succ (s : Sys) (p : Vx) (g : Nat) : mgV s p (g + 1) = mgL s.lim (bxV s p g) (mgV s p g) s.lim.len := rfl
attribute [irreducible] mgV
@[irreducible] def mgE (s : Sys) (p : Vx) : Int := if plE s p = 0 then (if sfB s p = true then 0 else 18) else plE s p
@[irreducible] def mgR (s : Sys) (p : Vx) : Int := if mgE s p = 0 then mgV s p (p.len + 1) else 0
theorem mgE_iff {s : Sys} {p : Vx} : mgE s p = 0 ↔ sfB s p = true := by
  unfold mgE
  by_cases h : plE s p = 0
  · rw [if_pos h]
    cases sfB s p <;> simp
  · rw [if_neg h]
    constructor
    · intro h1; exact absurd h1 h
    · intro h1; exact absurd (sfB_iff.1 h1).1 h
def marS : Spec [sysSh, intsSh] := ⟨fun (s, p, _) => SysMax (sysOf s) ∧ p.1 ≤ maxLen, fun (s, p, _) => .tup [.si .i64 (mgR (sysOf s) (vxOf p)), .si .i64 (mgE (sysOf s) (vxOf p))]⟩
noncomputable def marI : DatL [sysSh, intsSh] → Anns := fun (s, p, _) => [
  (9, [], fun fr hp => ⟨Nat, fun g => ⟨frI [.k 11, .s (.si .i64 (mgV (sysOf s) (vxOf p) g)), .k 1, .t 3, .k 20, .s (.si .i64 (icast g)), .t 33] fr, hp⟩, Nat × Nat, fun g => (g, p.1), fun (g, n) => g ≤ n + 1, fun g => nsub (nadd p.1 1) g⟩),
  (12, [], fun fr hp => ⟨Nat, fun j => ⟨frI [.k 11, .s (.si .i64 (mgL (sysOf s).lim (bxV (sysOf s) (vxOf p) (nat (intOf (getL fr 36)))) (mgV (sysOf s) (vxOf p) (nat (intOf (getL fr 36)))) j)), .k 2, .t 2, .k 26, .s (.si .i64 (icast j)), .t 27] fr, hp⟩, Nat × Nat, fun j => (j, s.1.1), fun (j, n) => j ≤ n, fun j => nsub s.1.1 j⟩)]
set_option maxRecDepth 100000 in
set_option maxHeartbeats 2000000 in
theorem mar_ok : FnSpec Try.prog 41 _ marS := by
  refine FnSpec.of SM0_ok mixed (U := 0) (I := marI) Try.func41 rfl (by kernel_rfl) rfl rfl (by decide +kernel) ?_
  rintro ⟨s, p, ⟨⟩⟩ hpre
  obtain ⟨s, rfl⟩ := sys_ex s
  obtain ⟨p, rfl⟩ := vx_ex p
  have hpre : SysMax s ∧ p.len ≤ maxLen := by have : SysMax (sysOf (sysD s)) ∧ p.len ≤ maxLen := hpre; rwa [sysOf_D] at this
  unfold FnSat
  conv => arg 2; reduce
  simp [marS, and_assoc]
  have bl : plE s p = 0 → ∀ g, (bxV s p g).len = s.lim.len := fun h g => by rw [bxV_len]; exact (checkB_iff.1 (plE_iff.1 h).1).2.2.2.2.2.2.1
  have l3 : plE s p = 0 → s.lim.len ≤ 3 ∧ p.len ≤ 48 := fun h => by have h3 := plE_iff.1 h; have c := checkB_iff.1 h3.1; omega
  have bn : plE s p = 0 → bxN s p = p.len + 1 := fun h => by unfold bxN; rw [if_pos h]
  have e1 : ¬plE s p = 0 → 0 = mgR s p ∧ plE s p = mgE s p := fun h => by
    have e : mgE s p = plE s p := by unfold mgE; rw [if_neg h]
    exact ⟨by unfold mgR; rw [e, if_neg h], e.symm⟩
  have e2 : plE s p = 0 → sfB s p = false → 0 = mgR s p ∧ 18 = mgE s p := fun h h2 => by
    have e : mgE s p = 18 := by unfold mgE; rw [if_pos h, h2]; simp
    exact ⟨by unfold mgR; rw [e, if_neg (by decide)], e.symm⟩
  have e3 : sfB s p = true → mgV s p (p.len + 1) = mgR s p ∧ 0 = mgE s p := fun h => by
    have e := mgE_iff.2 h
    exact ⟨by unfold mgR; rw [if_pos e], e.symm⟩
  have hb : sfB s p = true → ∀ g, g ≤ p.len → ∀ j, j < s.lim.len → -20000 ≤ (bxV s p g).lo j - s.lim.lo j ∧ (bxV s p g).lo j - s.lim.lo j ≤ 20000 ∧ -20000 ≤ s.lim.hi j - (bxV s p g).hi j ∧ s.lim.hi j - (bxV s p g).hi j ≤ 20000 := fun h g hg j hj => by
    have h1 := (sfB_iff.1 h).1
    have h2 := inV_iff.1 (safe_in h hg) j (by rw [bl h1]; exact hj)
    have h3 := nearV_iff.1 (checkB_iff.1 (plE_iff.1 h1).1).2.2.2.2.2.1 j hj
    omega
  refine ⟨hpre.1, hpre.2, e1, fun h => ⟨e2 h, fun hs => ⟨hpre.1, hpre.2, ⟨0, (mgV_zero s p).symm, rfl, by omega⟩, fun g hg => ⟨fun hlt => ?_, fun hge => ?_⟩⟩⟩⟩
  · have hl := bl h g
    have h3 := l3 h
    have e := bn h
    refine ⟨hlt, ⟨0, (mgL_zero ..).symm, rfl, by omega⟩, fun j hj => ⟨fun hlt' => ?_, fun hge => ?_⟩⟩
    · have := hb hs g (by omega) j (by omega)
      exact ⟨hlt', by omega, by omega, by omega, by omega, by omega, by omega, by omega, by omega, j + 1, (mgL_succ ..).symm, by omega, by omega, by omega⟩
    · obtain rfl : j = s.lim.len := by omega
      exact ⟨by omega, by omega, g + 1, (mgV_succ ..).symm, by omega, by omega, by omega⟩
  · have e := bn h
    obtain rfl : g = p.len + 1 := by omega
    exact e3 hs
noncomputable def rmarI : DatL [sysSh, intsSh] → Anns := fun (s, p, _) => [
  (9, [], fun fr hp => ⟨Nat, fun g => ⟨frI [.k 11, .s (.si .i64 (mgV (sysOf s) (vxOf p) g)), .s (.si .i64 (icast g)), .t 1, .k 18, .t 46] fr, hp⟩, Nat × Nat, fun g => (g, p.1), fun (g, n) => g ≤ n + 1, fun g => nsub (nadd p.1 1) g⟩),
  (12, [], fun fr hp => ⟨Nat, fun j => ⟨frI [.k 11, .s (.si .i64 (mgL (sysOf s).lim (bxV (sysOf s) (vxOf p) (nat (intOf (getL fr 12)))) (mgV (sysOf s) (vxOf p) (nat (intOf (getL fr 12)))) j)), .k 1, .s (.si .i64 (icast j)), .k 24, .t 40] fr, hp⟩, Nat × Nat, fun j => (j, s.1.1), fun (j, n) => j ≤ n, fun j => nsub s.1.1 j⟩)]
set_option maxRecDepth 100000 in
set_option maxHeartbeats 2000000 in
theorem rmar_ok : FnSpec Try.prog 42 _ marS := by
  refine FnSpec.of SM0_ok mixed (U := 0) (I := rmarI) Try.func42 rfl (by kernel_rfl) rfl rfl (by decide +kernel) ?_
  rintro ⟨s, p, ⟨⟩⟩ hpre
  obtain ⟨s, rfl⟩ := sys_ex s
  obtain ⟨p, rfl⟩ := vx_ex p
  have hpre : SysMax s ∧ p.len ≤ maxLen := by have : SysMax (sysOf (sysD s)) ∧ p.len ≤ maxLen := hpre; rwa [sysOf_D] at this
  unfold FnSat
  conv => arg 2; reduce
  simp [marS, and_assoc]
  have bl : plE s p = 0 → ∀ g, (bxV s p g).len = s.lim.len := fun h g => by rw [bxV_len]; exact (checkB_iff.1 (plE_iff.1 h).1).2.2.2.2.2.2.1
  have l3 : plE s p = 0 → s.lim.len ≤ 3 ∧ p.len ≤ 48 := fun h => by have h3 := plE_iff.1 h; have c := checkB_iff.1 h3.1; omega
  have bn : plE s p = 0 → bxN s p = p.len + 1 := fun h => by unfold bxN; rw [if_pos h]
  have e1 : ¬plE s p = 0 → 0 = mgR s p ∧ plE s p = mgE s p := fun h => by
    have e : mgE s p = plE s p := by unfold mgE; rw [if_neg h]
    exact ⟨by unfold mgR; rw [e, if_neg h], e.symm⟩
  have e2 : plE s p = 0 → sfB s p = false → 0 = mgR s p ∧ 18 = mgE s p := fun h h2 => by
    have e : mgE s p = 18 := by unfold mgE; rw [if_pos h, h2]; simp
    exact ⟨by unfold mgR; rw [e, if_neg (by decide)], e.symm⟩
  have e3 : sfB s p = true → mgV s p (p.len + 1) = mgR s p ∧ 0 = mgE s p := fun h => by
    have e := mgE_iff.2 h
    exact ⟨by unfold mgR; rw [if_pos e], e.symm⟩
  have hb : sfB s p = true → ∀ g, g ≤ p.len → ∀ j, j < s.lim.len → -20000 ≤ (bxV s p g).lo j - s.lim.lo j ∧ (bxV s p g).lo j - s.lim.lo j ≤ 20000 ∧ -20000 ≤ s.lim.hi j - (bxV s p g).hi j ∧ s.lim.hi j - (bxV s p g).hi j ≤ 20000 := fun h g hg j hj => by
    have h1 := (sfB_iff.1 h).1
    have h2 := inV_iff.1 (safe_in h hg) j (by rw [bl h1]; exact hj)
    have h3 := nearV_iff.1 (checkB_iff.1 (plE_iff.1 h1).1).2.2.2.2.2.1 j hj
    omega
  refine ⟨hpre.1, hpre.2, e1, fun h => ⟨e2 h, fun hs => ⟨hpre.1, hpre.2, ⟨0, (mgV_zero s p).symm, rfl, by omega⟩, fun g hg => ⟨fun hlt => ?_, fun hge => ?_⟩⟩⟩⟩
  · have hl := bl h g
    have h3 := l3 h
    have e := bn h
    refine ⟨⟨0, (mgL_zero ..).symm, rfl, by omega⟩, fun j hj => ⟨fun hlt' => ?_, fun hge => ?_⟩⟩
    · have := hb hs g (by omega) j (by omega)
      exact ⟨hlt, by omega, by omega, by omega, by omega, by omega, hlt, by omega, by omega, by omega, by omega, by omega, j + 1, (mgL_succ ..).symm, by omega, by omega, by omega⟩
    · obtain rfl : j = s.lim.len := by omega
      exact ⟨by omega, by omega, g + 1, (mgV_succ ..).symm, by omega, by omega, by omega⟩
  · have e := bn h
    obtain rfl : g = p.len + 1 := by omega
    exact e3 hs
def SM1 : Sums := ⟨(41, mkSum _ marS) :: (42, mkSum _ marS) :: SM0.one, SM0.two, SM0.lo, SM0.eqs, SM0.its⟩
theorem SM1_ok : SumsOK Try.prog SM1 := ((SM0_ok.cons Try.func42 (by kernel_rfl) (by kernel_rfl) rmar_ok).cons Try.func41 (by kernel_rfl) (by kernel_rfl) mar_ok)
end Abs
end Go.Proofs.Ytjblicdceafcpaa

/- Boxes that contain numbers; the run of a plan. -/
namespace Go.Proofs.Ytjblicdceafcpaa
namespace Abs
open Go Go.RowKit
-- lists of lists of numbers
@[reducible] def rowsSh : Sh := .slice 1 [intsSh]
structure Rx where
  n : Nat
  r : Nat → Vx
@[irreducible] def Rx.len (x : Rx) : Nat := x.n
@[irreducible] def Rx.row (x : Rx) : Nat → Vx := x.r
@[reducible] def rxD (r : Rx) : Nat × (Nat → (Nat × (Nat → Int × Unit)) × Unit) := (r.len, fun k => (((r.row k).len, fun j => ((r.row k).at j, ())), ()))
@[irreducible] def rxOf (x : Nat × (Nat → (Nat × (Nat → Int × Unit)) × Unit)) : Rx := ⟨x.1, fun k => vxOf (x.2 k).1⟩
@[simp] theorem rxOf_mk (r : Rx) : rxOf (r.len, fun k => (((r.row k).len, fun j => ((r.row k).at j, ())), ())) = r := by
  unfold rxOf vxOf Rx.len Rx.row Vx.len Vx.at; rfl
@[simp] theorem rxOf_D (r : Rx) : rxOf (rxD r) = r := rxOf_mk r
@[simp] theorem rxOf_len (n : Nat) (f : Nat → (Nat × (Nat → Int × Unit)) × Unit) : (rxOf (n, f)).len = n := by unfold rxOf Rx.len; rfl
@[simp] theorem rxOf_row (n : Nat) (f : Nat → (Nat × (Nat → Int × Unit)) × Unit) (k : Nat) : (rxOf (n, f)).row k = vxOf (f k).1 := by unfold rxOf Rx.row; rfl
theorem rx_ex (x : Dat rowsSh) : ∃ r : Rx, x = rxD r := ⟨rxOf x, by unfold rxD rxOf vxOf Rx.len Rx.row Vx.len Vx.at; rfl⟩
@[irreducible] def lenNe (x : Vx) (n : Int) : Bool := decide (¬ (x.len : Int) = n)
def run1S : Spec [intsSh, .ptr [.int .i64]] := ⟨fun _ => True, fun (x, (n, _), _) => .sb (lenNe (vxOf x) n)⟩
set_option maxRecDepth 100000 in
theorem run1_ok : FnSpec Try.prog 81 _ run1S := by
  refine FnSpec.of SM1_ok mixed (U := 0) (I := fun _ => []) Try.func81 rfl (by kernel_rfl) rfl rfl (by decide +kernel) ?_
  rintro ⟨x, ⟨(n : Int), ⟨⟩⟩, ⟨⟩⟩ -
  obtain ⟨x, rfl⟩ := vx_ex x
  unfold FnSat
  conv => arg 2; reduce
  simp [run1S, lenNe]
  rw [Bool.eq_iff_iff]; simp
def SU0 : Sums := ⟨(81, mkSum _ run1S) :: SM1.one, SM1.two, SM1.lo, SM1.eqs, SM1.its⟩
theorem SU0_ok : SumsOK Try.prog SU0 := (SM1_ok.cons Try.func81 (by kernel_rfl) (by kernel_rfl) run1_ok)
def anyLnI : Spec [.slice 1 [intsSh], .fn 81 [] [.ptr [.int .i64]]] := ⟨fun x => x.1.1 ≤ maxLen, fun ((n, el), ((_, c), _)) => .si .i64 (idxN (fun k => lenNe (vxOf (el k).1) c.1.1) n)⟩
noncomputable def anyLnA : DatL [.slice 1 [intsSh], .fn 81 [] [.ptr [.int .i64]]] → Anns := fun ((n, el), ((_, c), _)) => [(2, [], fun fr hp => ⟨Nat, fun g => ⟨frI [.k 5, .t 1, .k 2, .s (.si .i64 (icast g)), .t 10] fr, hp⟩, Nat, fun g => g, fun g => g ≤ firstN (fun k => lenNe (vxOf (el k).1) c.1.1) n, fun g => nsub n g⟩)]
set_option maxRecDepth 100000 in
theorem anyLnI_ok : FnSpec Try.prog 102 _ anyLnI := by
  refine FnSpec.of SU0_ok mixed (U := 0) (I := anyLnA) Try.func102 rfl (by kernel_rfl) rfl rfl (by decide +kernel) ?_
  rintro ⟨⟨n, el⟩, ⟨⟨⟩, c⟩, ⟨⟩⟩ hpre
  have hn : n ≤ maxLen := hpre
  unfold FnSat
  conv => arg 2; reduce
  unfold maxLen at hn
  have hle := firstN_le (fun k => lenNe (vxOf (el k).1) c.1.1) n
  simp [anyLnI, and_assoc]
  refine ⟨⟨0, rfl, by omega⟩, fun k hk => ⟨fun h1 => ?_, fun h1 => ?_⟩⟩
  · refine And.intro h1 ?_
    refine ⟨fun h2 => ?_, fun h2 => ?_⟩
    · rw [idxN, firstN_at hk (by simpa using h2), if_pos h1]; try simp
    · have := firstN_ge hk (by simpa using h2) h1
      refine ⟨by omega, by omega, k + 1, by omega, by omega, by omega⟩
  · rw [idxN, if_neg (by omega)]
def anyLnC : Spec [.slice 1 [intsSh], .fn 81 [] [.ptr [.int .i64]]] := ⟨fun x => x.1.1 ≤ maxLen, fun ((n, el), ((_, c), _)) => .sb (anyN (fun k => lenNe (vxOf (el k).1) c.1.1) n)⟩
def anyLnS : Sums := ⟨(102, mkSum _ anyLnI) :: SU0.one, SU0.two, SU0.lo, SU0.eqs, SU0.its⟩
theorem anyLnS_ok : SumsOK Try.prog anyLnS := (SU0_ok.cons Try.func102 (by kernel_rfl) (by kernel_rfl) anyLnI_ok)
set_option maxRecDepth 100000 in
theorem anyLnC_ok : FnSpec Try.prog 80 _ anyLnC := by
  refine FnSpec.of anyLnS_ok mixed (U := 0) (I := fun _ => []) Try.func80 rfl (by kernel_rfl) rfl rfl (by decide +kernel) ?_
  rintro ⟨⟨n, el⟩, ⟨⟨⟩, c⟩, ⟨⟩⟩ hpre
  unfold FnSat
  conv => arg 2; reduce
  have hpre : anyLnC.pre ((n, el), (((), c), ())) := hpre
  simp [anyLnC, idxN_nonneg] at hpre ⊢
  exact hpre
def SU1 : Sums := ⟨(80, mkSum _ anyLnC) :: SU0.one, SU0.two, SU0.lo, SU0.eqs, SU0.its⟩
theorem SU1_ok : SumsOK Try.prog SU1 := (SU0_ok.cons Try.func80 (by kernel_rfl) (by kernel_rfl) anyLnC_ok)
@[irreducible] def hasT (lo hi x : Int) : Bool := spanOK lo hi && decide (lo ≤ x) && decide (x ≤ hi)
theorem hasT_iff {lo hi x : Int} : hasT lo hi x = true ↔ spanOK lo hi = true ∧ lo ≤ x ∧ x ≤ hi := by unfold hasT; simp [and_assoc]
def hasTS : Spec [spanSh, .int .i64] := ⟨fun _ => True, fun ((lo, hi, _), x, _) => .sb (hasT lo hi x)⟩
set_option maxRecDepth 100000 in
theorem hasT_ok : FnSpec Try.prog 34 _ hasTS := by
  refine FnSpec.of SU1_ok mixed (U := 0) (I := fun _ => []) Try.func34 rfl (by kernel_rfl) rfl rfl (by decide +kernel) ?_
  rintro ⟨⟨(lo : Int), (hi : Int), ⟨⟩⟩, (x : Int), ⟨⟩⟩ -
  unfold FnSat
  conv => arg 2; reduce
  simp [hasTS, hasT, maxLen, rowAt, takeL, CanL, CanSh, okSh, kindOf]
@[irreducible] def okBx (b : Bx) : Bool := allN (fun k => spanOK (b.lo k) (b.hi k)) b.len
theorem okBx_iff {b : Bx} : okBx b = true ↔ ∀ k, k < b.len → spanOK (b.lo k) (b.hi k) = true := by unfold okBx; rw [allN_iff]
theorem okBx_eq (b : Bx) : spansOK (fun k => (b.lo k, b.hi k, ())) b.len = okBx b := by rw [Bool.eq_iff_iff, spansOK_iff, okBx_iff]
@[irreducible] def cbE (b : Bx) : Int := if 8 < b.len then 6 else if okBx b = true then 0 else 2
theorem cbE_iff {b : Bx} : cbE b = 0 ↔ b.len ≤ 8 ∧ okBx b = true := by
  unfold cbE
  split
  · rename_i h
    constructor
    · intro e; cases e
    · intro e; omega
  · split
    · rename_i h1 h2; simp [h2]; omega
    · rename_i h1 h2; simp [h2]
def cbS : Spec [spansSh] := ⟨fun (b, _) => b.1 ≤ maxLen, fun (b, _) => .si .i64 (cbE (bxOf b))⟩
set_option maxRecDepth 100000 in
theorem cb_ok : FnSpec Try.prog 103 _ cbS := by
  refine FnSpec.of SU1_ok mixed (U := 0) (I := fun _ => []) Try.func103 rfl (by kernel_rfl) rfl rfl (by decide +kernel) ?_
  rintro ⟨b, ⟨⟩⟩ (h0 : b.1 ≤ maxLen)
  obtain ⟨b, rfl⟩ := bx_ex b
  have h0 : b.len ≤ maxLen := h0
  unfold FnSat
  conv => arg 2; reduce
  simp [cbS, okBx_eq]
  refine ⟨fun h => by unfold cbE; rw [if_pos (by omega)], fun h => ⟨h0, fun h1 => ?_, fun h1 => (cbE_iff.2 ⟨by omega, h1⟩).symm⟩⟩
  unfold cbE; rw [if_neg (by omega), if_neg (by rw [h1]; decide)]
def SU2 : Sums := ⟨(103, mkSum _ cbS) :: (34, mkSum _ hasTS) :: SU1.one, SU1.two, SU1.lo, SU1.eqs, SU1.its⟩
theorem SU2_ok : SumsOK Try.prog SU2 := ((SU1_ok.cons Try.func34 (by kernel_rfl) (by kernel_rfl) hasT_ok).cons Try.func103 (by kernel_rfl) (by kernel_rfl) cb_ok)
def bh1S : Spec [spanSh, spanSh] := ⟨fun _ => True, fun ((a, b, _), (c, _, _), _) => .sb (hasT a b c)⟩
set_option maxRecDepth 100000 in
theorem bh1_ok : FnSpec Try.prog 105 _ bh1S := by
  refine FnSpec.of SU2_ok mixed (U := 0) (I := fun _ => []) Try.func105 rfl (by kernel_rfl) rfl rfl (by decide +kernel) ?_
  rintro ⟨⟨(a : Int), (b : Int), ⟨⟩⟩, ⟨(c : Int), (d : Int), ⟨⟩⟩, ⟨⟩⟩ -
  unfold FnSat
  conv => arg 2; reduce
  simp [bh1S]
def SU3 : Sums := ⟨(105, mkSum _ bh1S) :: SU2.one, SU2.two, SU2.lo, SU2.eqs, SU2.its⟩
theorem SU3_ok : SumsOK Try.prog SU3 := (SU2_ok.cons Try.func105 (by kernel_rfl) (by kernel_rfl) bh1_ok)
@[irreducible] def allB (x y : Bx) : Bool := decide (cbE x = 0) && decide (cbE y = 0) && decide (x.len = y.len) && allN (fun k => hasT (x.lo k) (x.hi k) (y.lo k)) x.len
theorem allB_iff {x y : Bx} : allB x y = true ↔ cbE x = 0 ∧ cbE y = 0 ∧ x.len = y.len ∧ ∀ k, k < x.len → hasT (x.lo k) (x.hi k) (y.lo k) = true := by unfold allB; simp [and_assoc, allN_iff]
def allBS : Spec [spansSh, spansSh, .fn 105 [] []] := ⟨fun (x, y, _) => x.1 ≤ maxLen ∧ y.1 ≤ maxLen, fun (x, y, _) => .sb (allB (bxOf x) (bxOf y))⟩
noncomputable def allBI : DatL [spansSh, spansSh, .fn 105 [] []] → Anns := fun (x, y, _) => [
  (4, [], fun fr hp => ⟨Nat, fun g => ⟨frI [.k 7, .t 1, .k 17, .s (.si .i64 (icast g)), .t 14] fr, hp⟩, Nat × Bx × Bx, fun g => (g, bxOf x, bxOf y), fun (g, x, y) => g ≤ x.len ∧ ∀ k, k < g → hasT (x.lo k) (x.hi k) (y.lo k) = true, fun g => nsub x.1 g⟩)]
set_option maxRecDepth 100000 in
theorem allB_ok : FnSpec Try.prog 104 _ allBS := by
  refine FnSpec.of SU3_ok mixed (U := 0) (I := allBI) Try.func104 rfl (by kernel_rfl) rfl rfl (by decide +kernel) ?_
  rintro ⟨x, y, ⟨⟨⟩, ⟨⟩⟩, ⟨⟩⟩ ⟨(h0 : x.1 ≤ maxLen), (h1 : y.1 ≤ maxLen)⟩
  obtain ⟨x, rfl⟩ := bx_ex x
  obtain ⟨y, rfl⟩ := bx_ex y
  have h0 : x.len ≤ maxLen := h0
  have h1 : y.len ≤ maxLen := h1
  unfold FnSat
  conv => arg 2; reduce
  simp [allBS, cbS, and_assoc]
  have no : (allB x y = true → False) → allB x y = false := fun h => by cases hs : allB x y with | false => rfl | true => exact (h hs).elim
  refine ⟨h0, fun _ => h1, fun h => no fun ha => ?_, fun e1 e2 e3 => ⟨⟨0, rfl, by omega, fun k hk => by omega⟩, fun g hg hf => ⟨fun hlt => ⟨hlt, by omega, fun hn => no fun ha => ?_, fun hy => ⟨?_, ?_, g + 1, by omega, by omega, fun k hk => ?_, by omega⟩⟩, fun hge => allB_iff.2 ⟨e1, e2, by omega, fun k hk => hf k (by omega)⟩⟩⟩⟩
  · have := allB_iff.1 ha; omega
  · have := (allB_iff.1 ha).2.2.2 g hlt; rw [hn] at this; cases this
  · unfold maxLen at h0; omega
  · unfold maxLen at h0; omega
  · by_cases h' : k < g
    · exact hf k h'
    · obtain rfl : k = g := by omega
      exact hy
def SU4 : Sums := ⟨(104, mkSum _ allBS) :: SU3.one, SU3.two, SU3.lo, SU3.eqs, SU3.its⟩
theorem SU4_ok : SumsOK Try.prog SU4 := (SU3_ok.cons Try.func104 (by kernel_rfl) (by kernel_rfl) allB_ok)
@[irreducible] def bhV (b : Bx) (p : Vx) : Bool := decide (p.len = b.len) && decide (cbE b = 0) && allN (fun k => hasT (b.lo k) (b.hi k) (p.at k)) b.len
theorem bhV_iff {b : Bx} {p : Vx} : bhV b p = true ↔ p.len = b.len ∧ cbE b = 0 ∧ ∀ k, k < b.len → hasT (b.lo k) (b.hi k) (p.at k) = true := by unfold bhV; simp [and_assoc, allN_iff]
def bhS : Spec [spansSh, intsSh] := ⟨fun (b, p, _) => b.1 ≤ maxLen ∧ p.1 ≤ 1000000, fun (b, p, _) => .sb (bhV (bxOf b) (vxOf p))⟩
noncomputable def bhI : DatL [spansSh, intsSh] → Anns := fun (_, p, _) => [
  (3, [(5, 35, 2)], fun fr hp => ⟨Nat, fun g => ⟨frI [.k 7, .t 1, .k 2, .s (.si .i64 (icast g)), .t 23] fr, putRL hp (.sym g) (fun k => [.si .i64 ((vxOf p).at k), .si .i64 ((vxOf p).at k)])⟩, Nat × Nat, fun g => (g, p.1), fun (g, n) => g ≤ n, fun g => nsub p.1 g⟩)]
set_option maxRecDepth 100000 in
theorem bh_ok : FnSpec Try.prog 82 _ bhS := by
  refine FnSpec.of SU4_ok mixed (U := 0) (I := bhI) Try.func82 rfl (by kernel_rfl) rfl rfl (by decide +kernel) ?_
  rintro ⟨b, p, ⟨⟩⟩ ⟨(h0 : b.1 ≤ maxLen), (h1 : p.1 ≤ 1000000)⟩
  obtain ⟨b, rfl⟩ := bx_ex b
  obtain ⟨p, rfl⟩ := vx_ex p
  have h0 : b.len ≤ maxLen := h0
  have h1 : p.len ≤ 1000000 := h1
  unfold FnSat
  conv => arg 2; reduce
  simp [bhS, cbS, maxRow, and_assoc, CanL, CanSh, okSh, kindOf]
  have no : (bhV b p = true → False) → bhV b p = false := fun h => by cases hs : bhV b p with | false => rfl | true => exact (h hs).elim
  refine ⟨⟨0, rfl, rfl, fun j => by omega, by omega⟩, fun g hg => ⟨fun hlt => ⟨hlt, by omega, by omega, by omega, g + 1, by omega, rfl, fun j hj => app_one hj (fun _ => rfl) (fun h => by subst h; rfl), by omega, by omega⟩, fun hge => ⟨fun _ => h0, fun h => no fun ha => ?_, fun e1 e2 => ⟨h0, by unfold maxLen; omega, ?_⟩⟩⟩⟩
  · have := bhV_iff.1 ha; omega
  · rw [Bool.eq_iff_iff, allB_iff, bhV_iff]
    simp only [bxOf_len, bxOf_lo]
    constructor
    · rintro ⟨_, _, _, h⟩; exact ⟨by omega, e2, h⟩
    · rintro ⟨_, _, h⟩
      refine ⟨e2, cbE_iff.2 ⟨?_, okBx_iff.2 fun k hk => ?_⟩, by omega, h⟩
      · have := (cbE_iff.1 e2).1; simp only [bxOf_len]; omega
      · simp only [bxOf_len] at hk
        simp only [bxOf_lo, bxOf_hi]
        have h2 := hasT_iff.1 (h k (by omega))
        have h3 := spanOK_iff.1 h2.1
        exact spanOK_iff.2 ⟨by omega, by omega, by omega⟩
def SU5 : Sums := ⟨(82, mkSum _ bhS) :: SU4.one, SU4.two, SU4.lo, SU4.eqs, SU4.its⟩
theorem SU5_ok : SumsOK Try.prog SU5 := (SU4_ok.cons Try.func82 (by kernel_rfl) (by kernel_rfl) bh_ok)
end Abs
end Go.Proofs.Ytjblicdceafcpaa

/- The run of a plan: temperatures, tick by tick. -/
namespace Go.Proofs.Ytjblicdceafcpaa
namespace Abs
open Go Go.RowKit
/-- the temperatures of a plan -/
def rnV (s : Sys) (p t : Vx) (l : Rx) : Nat → Nat → Int
  | 0 => t.at
  | g + 1 => nxV (s.md (p.at g).toNat) (rnV s p t l g) (l.row g).at
theorem rnV_zero (s : Sys) (p t : Vx) (l : Rx) : rnV s p t l 0 = t.at := rfl
theorem rnV_succ (s : Sys) (p t : Vx) (l : Rx) (g : Nat) : rnV s p t l (g + 1) = nxV (s.md (p.at g).toNat) (rnV s p t l g) (l.row g).at := rfl
attribute [irreducible] rnV
@[irreducible] def rgB (s : Sys) (t : Vx) (l : Rx) (g : Nat) : Bool := bhV s.st t && allN (fun k => bhV (s.ld k) (l.row k)) g
theorem rgB_zero (s : Sys) (t : Vx) (l : Rx) : rgB s t l 0 = bhV s.st t := by unfold rgB; simp
theorem rgB_succ (s : Sys) (t : Vx) (l : Rx) (g : Nat) : rgB s t l (g + 1) = (rgB s t l g && bhV (s.ld g) (l.row g)) := by unfold rgB; rw [allN_succ, Bool.and_assoc]
theorem rgB_iff {s : Sys} {t : Vx} {l : Rx} {g : Nat} : rgB s t l g = true ↔ bhV s.st t = true ∧ ∀ k, k < g → bhV (s.ld k) (l.row k) = true := by unfold rgB; rw [Bool.and_eq_true, allN_iff]
/-- are the lists as long as they have to be? -/
@[irreducible] def rlB (s : Sys) (p t : Vx) (l : Rx) : Bool := decide (t.len = s.lim.len) && decide (l.len = p.len) && allN (fun k => decide ((l.row k).len = s.lim.len)) l.len
theorem rlB_iff {s : Sys} {p t : Vx} {l : Rx} : rlB s p t l = true ↔ t.len = s.lim.len ∧ l.len = p.len ∧ ∀ k, k < l.len → (l.row k).len = s.lim.len := by unfold rlB; simp [and_assoc, allN_iff]
@[irreducible] def rnE (s : Sys) (p t : Vx) (l : Rx) : Int := if plE s p = 0 then (if rlB s p t l = true then (if rgB s t l l.len = true then 0 else 3) else 8) else plE s p
@[irreducible] def rnN (s : Sys) (p t : Vx) (l : Rx) : Nat := if rnE s p t l = 0 then p.len else 0
theorem rnE_iff {s : Sys} {p t : Vx} {l : Rx} : rnE s p t l = 0 ↔ plE s p = 0 ∧ rlB s p t l = true ∧ rgB s t l l.len = true := by
  unfold rnE
  by_cases h : plE s p = 0
  · rw [if_pos h]
    cases rlB s p t l <;> cases rgB s t l l.len <;> simp [h]
  · rw [if_neg h]
    constructor
    · intro h1; exact absurd h1 h
    · intro h1; exact absurd h1.1 h
theorem rn_bad {s : Sys} {p t : Vx} {l : Rx} {e : Int} (h : rnE s p t l = e) (he : e ≠ 0) : rnN s p t l = 0 ∧ e = rnE s p t l := ⟨by unfold rnN; rw [h, if_neg he], h.symm⟩
theorem bh_in {b : Bx} {p : Vx} (h : bhV b p = true) {k : Nat} (hk : k < b.len) : b.lo k ≤ p.at k ∧ p.at k ≤ b.hi k := (hasT_iff.1 ((bhV_iff.1 h).2.2 k hk)).2
theorem rnV_near {s : Sys} {p t : Vx} {l : Rx} (h : plE s p = 0) (hl : rlB s p t l = true) (hr : rgB s t l l.len = true) : ∀ {g : Nat}, g ≤ p.len → ∀ k, k < s.lim.len → -(10000 + (g : Int) * 20000) ≤ rnV s p t l g k ∧ rnV s p t l g k ≤ 10000 + (g : Int) * 20000
  | 0, _, k, hk => by
    have c := checkB_iff.1 (plE_iff.1 h).1
    have h1 := nearV_iff.1 c.2.2.2.2.2.2.2.1 k (by omega)
    have h2 := bh_in (rgB_iff.1 hr).1 (k := k) (by omega)
    rw [rnV_zero]; omega
  | g + 1, hg, k, hk => by
    have h3 := plE_iff.1 h
    have c := checkB_iff.1 h3.1
    have hi := fun j hj => rnV_near h hl hr (g := g) (by omega) j hj
    have hp := h3.2.2 g hg
    have hm : modeB (s.md (p.at g).toNat) (s.lim.len : Int) = true := c.2.2.2.2.2.2.2.2.2.2 (p.at g).toNat (by omega)
    have hd := c.2.2.2.2.2.2.2.2.2.1 g (by omega)
    have hw := nearV_iff.1 hd.2
    have hh := rlB_iff.1 hl
    have hb := (rgB_iff.1 hr).2 g (by omega)
    rw [rnV_succ]
    have q1 := nxV_nearT hm c.2.1 (t := rnV s p t l g) (w := (l.row g).at) (T := 10000 + (g : Int) * 20000) hi (fun j hj => by
      have h1 := hw j (by omega)
      have h2 := bh_in hb (k := j) (by omega)
      omega) hk
    omega
theorem rn_nx {s : Sys} {p t : Vx} {l : Rx} (h : plE s p = 0) (hl : rlB s p t l = true) (hr : rgB s t l l.len = true) {g : Nat} (hg : g < p.len) : NxOK (s.md (p.at g).toNat) (vxOf (t.len, fun k => (rnV s p t l g k, ()))) (l.row g) := by
  have h3 := plE_iff.1 h
  have c := checkB_iff.1 h3.1
  have hp := h3.2.2 g hg
  have hh := rlB_iff.1 hl
  have hd := c.2.2.2.2.2.2.2.2.2.1 g (by omega)
  have hw := nearV_iff.1 hd.2
  have hb := (rgB_iff.1 hr).2 g (by omega)
  have hrow := hh.2.2 g (by omega)
  refine ⟨by simp; omega, by simp; omega, by simp only [vxOf_len]; rw [hh.1]; exact c.2.2.2.2.2.2.2.2.2.2 (p.at g).toNat (by omega), fun k hk => ?_, fun k hk => ?_⟩
  · simp only [vxOf_len] at hk
    simp only [vxOf_at]
    have := rnV_near h hl hr (g := g) (by omega) k (by omega)
    omega
  · simp only [vxOf_len] at hk
    have h1 := hw k (by omega)
    have h2 := bh_in hb (k := k) (by omega)
    omega
theorem bh_of {b : Bx} {p : Vx} (hl : p.len = b.len) (hn : nearV b 10000 = true) (h3 : b.len ≤ 3) (h : ∀ k, k < b.len → b.lo k ≤ p.at k ∧ p.at k ≤ b.hi k) : bhV b p = true := by
  have hn := nearV_iff.1 hn
  have ho : ∀ k, k < b.len → spanOK (b.lo k) (b.hi k) = true := fun k hk => spanOK_iff.2 (by have := hn k hk; omega)
  exact bhV_iff.2 ⟨hl, cbE_iff.2 ⟨by omega, okBx_iff.2 ho⟩, fun k hk => hasT_iff.2 ⟨ho k hk, h k hk⟩⟩
def RxMax (l : Rx) : Prop := l.len ≤ 1000000 ∧ ∀ k, k < l.len → (l.row k).len ≤ 1000000
@[reducible] def rnEl (s : Sys) (p t : Vx) (l : Rx) (k : Nat) : List AV := [.slc (.sym t.len) 1 (fun j => [.si .i64 (rnV s p t l (k + 1) j)])]
def runS : Spec [sysSh, intsSh, intsSh, rowsSh] := ⟨fun (s, p, t, l, _) => SysMax (sysOf s) ∧ p.1 ≤ maxLen ∧ t.1 ≤ 1000000 ∧ RxMax (rxOf l), fun (s, p, t, l, _) =>
  .tup [.slc (.sym (rnN (sysOf s) (vxOf p) (vxOf t) (rxOf l))) 1 (fun k => [.slc (.sym t.1) 1 (fun j => [.si .i64 (rnV (sysOf s) (vxOf p) (vxOf t) (rxOf l) (nadd k 1) j)])]), .si .i64 (rnE (sysOf s) (vxOf p) (vxOf t) (rxOf l))]⟩
noncomputable def runI : DatL [sysSh, intsSh, intsSh, rowsSh] → Anns := fun (s, p, t, l, _) => [
  (9, [], fun fr hp => ⟨Nat, fun g => ⟨frI [.k 12, .s (.sb (rgB (sysOf s) (vxOf t) (rxOf l) g)), .t 2, .k 34, .s (.si .i64 (icast g)), .t 42] fr, hp⟩, Nat × Nat, fun g => (g, l.1), fun (g, n) => g ≤ n, fun g => nsub l.1 g⟩),
  (17, [(15, 33, 1)], fun fr hp => ⟨Nat, fun g => ⟨frI [.k 2, .s (.slc (.sym t.1) 1 (fun j => [.si .i64 (rnV (sysOf s) (vxOf p) (vxOf t) (rxOf l) g j)])), .k 13, .t 2, .k 51, .s (.si .i64 (icast g)), .t 22] fr,
    putRL hp (.sym g) (fun k => [.slc (.sym t.1) 1 (fun j => [.si .i64 (rnV (sysOf s) (vxOf p) (vxOf t) (rxOf l) (nadd k 1) j)])])⟩, Nat × Nat, fun g => (g, p.1), fun (g, n) => g ≤ n, fun g => nsub p.1 g⟩)]
set_option maxRecDepth 100000 in
set_option maxHeartbeats 2000000 in
theorem run_ok : FnSpec Try.prog 33 _ runS := by
  refine FnSpec.of SU5_ok mixed (U := 0) (I := runI) Try.func33 rfl (by kernel_rfl) rfl rfl (by decide +kernel) ?_
  rintro ⟨s, p, t, l, ⟨⟩⟩ hpre
  obtain ⟨s, rfl⟩ := sys_ex s
  obtain ⟨p, rfl⟩ := vx_ex p
  obtain ⟨t, rfl⟩ := vx_ex t
  obtain ⟨l, rfl⟩ := rx_ex l
  have hpre : SysMax s ∧ p.len ≤ maxLen ∧ t.len ≤ 1000000 ∧ RxMax l := by have : SysMax (sysOf (sysD s)) ∧ p.len ≤ maxLen ∧ t.len ≤ 1000000 ∧ RxMax (rxOf (rxD l)) := hpre; rwa [sysOf_D, rxOf_D] at this
  obtain ⟨p1, p2, p3, p4, p5⟩ := hpre
  unfold FnSat
  conv => arg 2; reduce
  simp [runS, anyLnC, bhS, maxRow, ElEq, aliveB, goneB, getB, and_assoc]
  have bad1 : ¬plE s p = 0 → rnN s p t l = 0 ∧ plE s p = rnE s p t l := fun h => rn_bad (by unfold rnE; rw [if_neg h]) h
  have bad2 : plE s p = 0 → (rlB s p t l = true → False) → rnN s p t l = 0 ∧ 8 = rnE s p t l := fun h h2 => rn_bad (by unfold rnE; rw [if_pos h, if_neg (fun h3 => h2 h3)]) (by decide)
  have bad3 : plE s p = 0 → rlB s p t l = true → (rgB s t l l.len = true → False) → rnN s p t l = 0 ∧ 3 = rnE s p t l := fun h h2 h3 => rn_bad (by unfold rnE; rw [if_pos h, if_pos h2, if_neg (fun h4 => h3 h4)]) (by decide)
  have good : plE s p = 0 → rlB s p t l = true → rgB s t l l.len = true → ∀ g : Nat, g ≤ p.len → p.len ≤ g → g = rnN s p t l ∧ 0 = rnE s p t l := fun h h2 h3 g h4 h5 => by
    have e := rnE_iff.2 ⟨h, h2, h3⟩
    exact ⟨by unfold rnN; rw [if_pos e]; omega, e.symm⟩
  have ap : ∀ g j : Nat, j < g + 1 → nrmL (catE g (fun k => [AV.slc (LN.sym t.len) 1 fun j => [AV.si IntKind.i64 (rnV s p t l (k + 1) j)]]) (rowAt 1 [AV.slc (LN.sym t.len) 1 fun k => [AV.si IntKind.i64 (nxV (s.md (p.at g).toNat) (rnV s p t l g) (l.row g).at k)]]) j) =
      [AV.slc (LN.sym t.len) 1 fun j_1 => [AV.si IntKind.i64 (rnV s p t l (j + 1) j_1)]] := fun g j hj => app_one hj (fun _ => rfl) (fun h => by subst h; rw [rnV_succ]; rfl)
  have hne : ∀ (x : Vx) (n : Nat), lenNe x n = false ↔ x.len = n := fun x n => by unfold lenNe; simp; omega
  refine ⟨p1, p2, bad1, fun h => ⟨fun _ _ => by unfold maxLen; omega, fun h2 => bad2 h fun hl => ?_, fun a1 a2 a3 => ?_⟩⟩
  · have := rlB_iff.1 hl
    rcases h2 with h2 | h2
    · omega
    · obtain ⟨k, hk, hk2⟩ := anyN_iff.1 h2
      have := (hne (l.row k) s.lim.len).2 (this.2.2 k hk)
      rw [this] at hk2; cases hk2
  have hl : rlB s p t l = true := rlB_iff.2 ⟨by omega, by omega, fun k hk => (hne _ _).1 (anyN_false.1 a3 k hk)⟩
  have hl' := rlB_iff.1 hl
  have h3 := plE_iff.1 h
  have c := checkB_iff.1 h3.1
  refine ⟨by unfold maxLen; omega, p3, ⟨0, (rgB_zero ..).symm, rfl, by omega⟩, fun g hg => ⟨fun hlt => ⟨hlt, fun _ => by omega, fun _ => ?_, by omega, by omega, g + 1, (rgB_succ ..).symm, by omega, by omega, by omega⟩, fun hge => ?_⟩⟩
  · have := c.2.2.2.2.2.2.2.2.2.1 g (by omega)
    exact ⟨by unfold maxLen; omega, p5 g hlt⟩
  obtain rfl : g = l.len := by omega
  refine ⟨fun hf => bad3 h hl fun ht => (by rw [hf] at ht; cases ht), fun hr => ⟨⟨0, fun j _ => by rw [rnV_zero], rfl, rfl, fun j => by omega, by omega⟩, fun g hg => ⟨fun hlt => ?_, fun hge => good h hl hr g hg hge⟩⟩⟩
  have hp := h3.2.2 g hlt
  exact ⟨hlt, hp.1, hp.2, by omega, rn_nx h hl hr hlt, p3, by omega, by omega, by omega, g + 1, fun j _ => by rw [rnV_succ], by omega, rfl, ap g, by omega, by omega⟩
noncomputable def rrunI : DatL [sysSh, intsSh, intsSh, rowsSh] → Anns := fun (s, p, t, l, _) => [
  (8, [], fun fr hp => ⟨Nat, fun g => ⟨frI [.k 12, .s (.si .i64 (icast g)), .k 25, .t 94] fr, hp⟩, Nat × Sys × Rx, fun g => (g, sysOf s, rxOf l), fun (g, s, l) => g ≤ l.len ∧ ∀ k, k < g → (l.row k).len = s.lim.len, fun g => nsub l.1 g⟩),
  (13, [], fun fr hp => ⟨Nat, fun g => ⟨frI [.k 13, .s (.si .i64 (icast g)), .t 1, .k 36, .t 81] fr, hp⟩, Nat × Sys × Vx × Rx, fun g => (g, sysOf s, vxOf t, rxOf l), fun (g, s, t, l) => g ≤ s.lim.len ∧ ∀ k, k < g → (s.st.lo k ≤ t.at k ∧ t.at k ≤ s.st.hi k) ∧ ∀ i, i < l.len → (s.ld i).lo k ≤ (l.row i).at k ∧ (l.row i).at k ≤ (s.ld i).hi k, fun g => nsub s.1.1 g⟩),
  (18, [], fun fr hp => ⟨Nat, fun i => ⟨frI [.k 14, .s (.si .i64 (icast i)), .k 59, .t 58] fr, hp⟩, Nat × Nat × Sys × Rx, fun i => (i, nat (intOf (getL fr 13)), sysOf s, rxOf l), fun (i, k, s, l) => i ≤ l.len ∧ ∀ j, j < i → (s.ld j).lo k ≤ (l.row j).at k ∧ (l.row j).at k ≤ (s.ld j).hi k, fun i => nsub l.1 i⟩),
  (24, [(15, 33, 1)], fun fr hp => ⟨Nat, fun g => ⟨frI [.k 2, .s (.slc (.sym t.1) 1 (fun j => [.si .i64 (rnV (sysOf s) (vxOf p) (vxOf t) (rxOf l) g j)])), .k 13, .s (.si .i64 (icast g)), .k 90, .t 25] fr,
    putRL hp (.sym g) (fun k => [.slc (.sym t.1) 1 (fun j => [.si .i64 (rnV (sysOf s) (vxOf p) (vxOf t) (rxOf l) (nadd k 1) j)])])⟩, Nat × Nat, fun g => (g, p.1), fun (g, n) => g ≤ n, fun g => nsub p.1 g⟩)]
set_option maxRecDepth 100000 in
set_option maxHeartbeats 2000000 in
theorem rrun_ok : FnSpec Try.prog 35 _ runS := by
  refine FnSpec.of SU5_ok mixed (U := 0) (I := rrunI) Try.func35 rfl (by kernel_rfl) rfl rfl (by decide +kernel) ?_
  rintro ⟨s, p, t, l, ⟨⟩⟩ hpre
  obtain ⟨s, rfl⟩ := sys_ex s
  obtain ⟨p, rfl⟩ := vx_ex p
  obtain ⟨t, rfl⟩ := vx_ex t
  obtain ⟨l, rfl⟩ := rx_ex l
  have hpre : SysMax s ∧ p.len ≤ maxLen ∧ t.len ≤ 1000000 ∧ RxMax l := by have : SysMax (sysOf (sysD s)) ∧ p.len ≤ maxLen ∧ t.len ≤ 1000000 ∧ RxMax (rxOf (rxD l)) := hpre; rwa [sysOf_D, rxOf_D] at this
  obtain ⟨p1, p2, p3, p4, p5⟩ := hpre
  unfold FnSat
  conv => arg 2; reduce
  simp [runS, maxRow, ElEq, aliveB, goneB, getB, and_assoc]
  have bad1 : ¬plE s p = 0 → rnN s p t l = 0 ∧ plE s p = rnE s p t l := fun h => rn_bad (by unfold rnE; rw [if_neg h]) h
  have bad2 : plE s p = 0 → (rlB s p t l = true → False) → rnN s p t l = 0 ∧ 8 = rnE s p t l := fun h h2 => rn_bad (by unfold rnE; rw [if_pos h, if_neg (fun h3 => h2 h3)]) (by decide)
  have bad3 : plE s p = 0 → rlB s p t l = true → (rgB s t l l.len = true → False) → rnN s p t l = 0 ∧ 3 = rnE s p t l := fun h h2 h3 => rn_bad (by unfold rnE; rw [if_pos h, if_pos h2, if_neg (fun h4 => h3 h4)]) (by decide)
  have good : plE s p = 0 → rlB s p t l = true → rgB s t l l.len = true → ∀ g : Nat, g ≤ p.len → p.len ≤ g → g = rnN s p t l ∧ 0 = rnE s p t l := fun h h2 h3 g h4 h5 => by
    have e := rnE_iff.2 ⟨h, h2, h3⟩
    exact ⟨by unfold rnN; rw [if_pos e]; omega, e.symm⟩
  have ap : ∀ g j : Nat, j < g + 1 → nrmL (catE g (fun k => [AV.slc (LN.sym t.len) 1 fun j => [AV.si IntKind.i64 (rnV s p t l (k + 1) j)]]) (rowAt 1 [AV.slc (LN.sym t.len) 1 fun k => [AV.si IntKind.i64 (nxV (s.md (p.at g).toNat) (rnV s p t l g) (l.row g).at k)]]) j) =
      [AV.slc (LN.sym t.len) 1 fun j_1 => [AV.si IntKind.i64 (rnV s p t l (j + 1) j_1)]] := fun g j hj => app_one hj (fun _ => rfl) (fun h => by subst h; rw [rnV_succ]; rfl)
  refine ⟨p1, p2, bad1, fun h => ?_⟩
  have h3 := plE_iff.1 h
  have c := checkB_iff.1 h3.1
  refine ⟨fun h2 => bad2 h fun hl => ?_, fun a1 a2 => ⟨⟨0, rfl, by omega, fun k hk => by omega⟩, fun g hg hf => ⟨fun hlt => ⟨hlt, fun h2 => bad2 h fun hl => ?_, fun h2 => ⟨by omega, by omega, g + 1, by omega, by omega, fun k hk => ?_, by omega⟩⟩, fun hge => ?_⟩⟩⟩
  · have := rlB_iff.1 hl; omega
  · have := (rlB_iff.1 hl).2.2 g hlt; omega
  · by_cases h' : k < g
    · exact hf k h'
    · obtain rfl : k = g := by omega
      omega
  obtain rfl : g = l.len := by omega
  have hl : rlB s p t l = true := rlB_iff.2 ⟨by omega, by omega, fun k hk => hf k hk⟩
  have hd : ∀ k, k < l.len → (s.ld k).len = s.lim.len ∧ nearV (s.ld k) 10000 = true := fun k hk => c.2.2.2.2.2.2.2.2.2.1 k (by omega)
  refine ⟨⟨0, rfl, by omega, fun k hk => by omega⟩, fun g hg hf2 => ⟨fun hlt => ⟨by omega, by omega, fun h2 => bad3 h hl fun hr => ?_, fun b1 b2 => ⟨⟨0, rfl, by omega, fun j hj => by omega⟩, fun i hi hf3 => ⟨fun hlt' => ?_, fun hge => ?_⟩⟩⟩, fun hge => ?_⟩⟩
  · have := bh_in (rgB_iff.1 hr).1 (k := g) (by omega); omega
  · have h4 := hd i hlt'
    have h5 := hf i hlt'
    refine ⟨hlt', by omega, by omega, by omega, by omega, by omega, fun h2 => bad3 h hl fun hr => ?_, fun c1 c2 => ⟨by omega, by omega, i + 1, by omega, by omega, fun j hj => ?_, by omega⟩⟩
    · have := bh_in ((rgB_iff.1 hr).2 i hlt') (k := g) (by omega); omega
    · by_cases h' : j < i
      · exact hf3 j h'
      · obtain rfl : j = i := by omega
        exact ⟨c1, c2⟩
  · refine ⟨by omega, by omega, g + 1, by omega, by omega, fun k hk => ?_, by omega⟩
    by_cases h' : k < g
    · exact hf2 k h'
    · obtain rfl : k = g := by omega
      exact ⟨b1, b2, fun j hj => hf3 j (by omega)⟩
  obtain rfl : g = s.lim.len := by omega
  have hr : rgB s t l l.len = true := rgB_iff.2 ⟨bh_of (by omega) c.2.2.2.2.2.2.2.1 (by omega) fun k hk => ⟨(hf2 k (by omega)).1, (hf2 k (by omega)).2.1⟩, fun i hi => by
    have h4 := hd i hi
    have h5 := hf i hi
    exact bh_of (by omega) h4.2 (by omega) fun k hk => (hf2 k (by omega)).2.2 i hi⟩
  refine ⟨⟨0, fun j _ => by rw [rnV_zero], rfl, rfl, fun j => by omega, by omega⟩, fun g hg => ⟨fun hlt => ?_, fun hge => good h hl hr g hg hge⟩⟩
  have hp := h3.2.2 g hlt
  exact ⟨hlt, hp.1, hp.2, by omega, rn_nx h hl hr hlt, by omega, by omega, by omega, g + 1, fun j _ => by rw [rnV_succ], by omega, rfl, ap g, by omega, by omega⟩
def SV0 : Sums := ⟨(33, mkSum _ runS) :: (35, mkSum _ runS) :: SU5.one, SU5.two, SU5.lo, SU5.eqs, SU5.its⟩
theorem SV0_ok : SumsOK Try.prog SV0 := ((SU5_ok.cons Try.func35 (by kernel_rfl) (by kernel_rfl) rrun_ok).cons Try.func33 (by kernel_rfl) (by kernel_rfl) run_ok)
@[irreducible] def eqRx (x y : Rx) : Bool := decide (x.len = y.len) && allN (fun k => eqVx (x.row k) (y.row k)) x.len
theorem eqRx_iff {x y : Rx} : eqRx x y = true ↔ x.len = y.len ∧ ∀ k, k < x.len → eqVx (x.row k) (y.row k) = true := by unfold eqRx; simp [allN_iff]
@[simp] theorem eqRx_self (x : Rx) : eqRx x x = true := eqRx_iff.2 ⟨rfl, fun _ _ => eqVx_self _⟩
def rowsS : Spec [rowsSh, rowsSh] := ⟨fun (x, _) => RxMax (rxOf x), fun (x, y, _) => .sb (eqRx (rxOf x) (rxOf y))⟩
noncomputable def rowsI : DatL [rowsSh, rowsSh] → Anns := fun (x, y, _) => [(4, [], fun fr hp => ⟨Nat, fun g => ⟨frI [.k 5, .s (.si .i64 (icast g)), .k 5, .t 16] fr, hp⟩, Nat × Rx × Rx, fun g => (g, rxOf x, rxOf y), fun (g, x, y) => g ≤ x.len ∧ ∀ j, j < g → eqVx (x.row j) (y.row j) = true, fun g => nsub x.1 g⟩)]
set_option maxRecDepth 100000 in
theorem rows_ok : FnSpec Try.prog 36 _ rowsS := by
  refine FnSpec.of SV0_ok mixed (U := 0) (I := rowsI) Try.func36 rfl (by kernel_rfl) rfl rfl (by decide +kernel) ?_
  rintro ⟨x, y, ⟨⟩⟩ hpre
  obtain ⟨x, rfl⟩ := rx_ex x
  obtain ⟨y, rfl⟩ := rx_ex y
  have hpre : RxMax x := by have : RxMax (rxOf (rxD x)) := hpre; rwa [rxOf_D] at this
  obtain ⟨h0, h1⟩ := hpre
  unfold FnSat
  conv => arg 2; reduce
  simp [rowsS, and_assoc]
  have no : (eqRx x y = true → False) → eqRx x y = false := fun h => by cases hs : eqRx x y with | false => rfl | true => exact (h hs).elim
  refine ⟨fun h => no fun he => ?_, fun h => ⟨⟨0, rfl, by omega, fun j hj => by omega⟩, fun g hg hf => ⟨fun hlt => ⟨hlt, by omega, by have := h1 g hlt; unfold maxLen; omega, fun hn => no fun he => ?_, fun hy => ⟨by omega, by omega, g + 1, by omega, by omega, fun j hj => ?_, by omega⟩⟩, fun hge => eqRx_iff.2 ⟨by omega, fun k hk => hf k (by omega)⟩⟩⟩⟩
  · have := (eqRx_iff.1 he).1; omega
  · have := (eqRx_iff.1 he).2 g hlt; rw [hn] at this; cases this
  · by_cases h' : j < g
    · exact hf j h'
    · obtain rfl : j = g := by omega
      exact hy
def SV1 : Sums := ⟨(36, mkSum _ rowsS) :: SV0.one, SV0.two, SV0.lo, SV0.eqs, SV0.its⟩
theorem SV1_ok : SumsOK Try.prog SV1 := (SV0_ok.cons Try.func36 (by kernel_rfl) (by kernel_rfl) rows_ok)
end Abs
end Go.Proofs.Ytjblicdceafcpaa

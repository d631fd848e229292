/- A part of the proof: no statement of its own. -/
import Derived.Test.YtdhbbdljiidgiaaQGa1bb44e9
set_option linter.unusedSimpArgs false
set_option linter.unusedVariables false
namespace Go.Proofs.Ytdhbbdljiidgiaa
namespace Abs
open Go
theorem segN_add {c : Nat -> Int} {a k : Nat} : ∀ {l : Nat}, segN c a (k + l) = segN c a k + segN c (a + k) l
 | 0 => by simp
 | l + 1 => by rw [<- Nat.add_assoc, segN_succ, segN_add (l := l), segN_succ, Nat.add_assoc]; omega
@[irreducible] def loS (c : Nat -> Int) (lo : Int) (a k : Nat) : Int := k * lo - segN c a k
@[irreducible] def hiS (c : Nat -> Int) (hi : Int) (a k : Nat) : Int := k * hi - segN c a k
theorem loS_zero (c : Nat -> Int) (lo : Int) (a : Nat) : loS c lo a 0 = 0 := by unfold loS; simp
theorem hiS_zero (c : Nat -> Int) (hi : Int) (a : Nat) : hiS c hi a 0 = 0 := by unfold hiS; simp
theorem loS_add (c : Nat -> Int) (lo : Int) (a k l : Nat) : loS c lo a (k + l) = loS c lo a k + loS c lo (a + k) l := by
 unfold loS; rw [segN_add, Int.natCast_add, Int.add_mul]; omega
theorem hiS_add (c : Nat -> Int) (hi : Int) (a k l : Nat) : hiS c hi a (k + l) = hiS c hi a k + hiS c hi (a + k) l := by
 unfold hiS; rw [segN_add, Int.natCast_add, Int.add_mul]; omega
theorem loS_left (c : Nat -> Int) (lo : Int) (a k : Nat) : loS c lo a (k + 1) = lo - c a + loS c lo (a + 1) k := by
 rw [Nat.add_comm k 1, loS_add]; unfold loS; simp
theorem hiS_left (c : Nat -> Int) (hi : Int) (a k : Nat) : hiS c hi a (k + 1) = hi - c a + hiS c hi (a + 1) k := by
 rw [Nat.add_comm k 1, hiS_add]; unfold hiS; simp
theorem lo_hiS {c : Nat -> Int} {lo hi : Int} (h : lo <= hi) (a k : Nat) : loS c lo a k <= hiS c hi a k := by
 unfold loS hiS
 have := Int.mul_le_mul_of_nonneg_left h (Int.natCast_nonneg k)
 omega
theorem exc_S {c : Nat -> Int} {lo hi : Int} {a b : Nat} (h : a <= b) : excN c lo hi a b = max (max 0 (-(hiS c hi a (b - a + 1)))) (loS c lo a (b - a + 1)) := by
 rw [excN_eq]; unfold loS hiS
 have e : ((b - a + 1 : Nat) : Int) = (b : Int) - a + 1 := by omega
 rw [e]
 generalize ((b : Int) - a + 1) * hi = x
 generalize ((b : Int) - a + 1) * lo = y
 omega
structure Brings (n : Nat) (c F : Nat -> Int) (lo hi t : Int) : Prop where
 z0 : F 0 = 0
 zn : F n = 0
 b : ∀ i, i <= n -> -t <= F i /\ F i <= t
 l : ∀ i, i < n -> lo <= c i + F i - F (i + 1) /\ c i + F i - F (i + 1) <= hi
theorem brings_seg {n : Nat} {c F : Nat -> Int} {lo hi t : Int} (h : Brings n c F lo hi t) {a : Nat} : ∀ {k : Nat}, a + k <= n -> loS c lo a k <= F a - F (a + k) /\ F a - F (a + k) <= hiS c hi a k
 | 0, _ => by rw [loS_zero, hiS_zero]; simp
 | k + 1, hk => by
   have ih := brings_seg h (a := a) (k := k) (by omega)
   have hl := h.l (a + k) (by omega)
   have e1 := loS_add c lo a k 1
   have e2 := hiS_add c hi a k 1
   have e3 := loS_left c lo (a + k) 0
   have e4 := hiS_left c hi (a + k) 0
   rw [loS_zero] at e3
   rw [hiS_zero] at e4
   simp only [Nat.zero_add] at e3 e4
   rw [<- Nat.add_assoc a k 1]
   omega
theorem brings_exc {n : Nat} {c F : Nat -> Int} {lo hi t : Int} (h : Brings n c F lo hi t) (t0 : 0 <= t) {a b : Nat} (hab : a <= b) (hb : b < n) : excN c lo hi a b <= endsN n a b * t := by
 have hs := brings_seg h (a := a) (k := b - a + 1) (by omega)
 rw [show a + (b - a + 1) = b + 1 by omega] at hs
 rw [exc_S hab, endsN_eq]
 have b1 := h.b a (by omega)
 have b2 := h.b (b + 1) (by omega)
 by_cases ha : 0 < a
 ·by_cases hbn : b + 1 < n
  ·rw [if_pos ha, if_pos hbn]; omega
  ·have : F (b + 1) = 0 := by rw [show b + 1 = n by omega]; exact h.zn
   rw [if_pos ha, if_neg hbn]; omega
 ·have h0 : F a = 0 := by rw [show a = 0 by omega]; exact h.z0
  by_cases hbn : b + 1 < n
  ·rw [if_neg ha, if_pos hbn]; omega
  ·have : F (b + 1) = 0 := by rw [show b + 1 = n by omega]; exact h.zn
   rw [if_neg ha, if_neg hbn]; omega
theorem exc_nd {n : Nat} {c : Nat -> Int} {lo hi t : Int} {a b : Nat} (t0 : 0 <= t) (hab : a <= b) (h : excN c lo hi a b <= endsN n a b * t) : ndN n c lo hi a b <= t /\ (endsN n a b = 0 -> ndB n c lo hi a b = true) := by
 have hd := endsN_in n a b
 have h0 : 0 <= excN c lo hi a b := by rw [exc_S hab]; omega
 refine ⟨?_, fun e => ?_⟩
 ·by_cases e : endsN n a b = 0
  ·rw [ndN_0 e]; exact t0
  ·rw [ndN_n e]
   rcases (show endsN n a b = 1 \/ endsN n a b = 2 by omega) with e1 | e1
   ·rw [e1] at h ⊢; rw [Int.tdiv_one]; omega
   ·rw [e1] at h ⊢; rw [Int.tdiv_eq_ediv_of_nonneg (by omega)]; omega
 ·rw [ndB_0 e]
  rw [e] at h
  have : excN c lo hi a b = 0 := by omega
  rw [this]; rfl
theorem nd_exc {n : Nat} {c : Nat -> Int} {lo hi t : Int} {a b : Nat} (hab : a <= b) (h : ndN n c lo hi a b <= t) (h0 : endsN n a b = 0 -> ndB n c lo hi a b = true) : excN c lo hi a b <= endsN n a b * t := by
 have hd := endsN_in n a b
 have h0' : 0 <= excN c lo hi a b := by rw [exc_S hab]; omega
 by_cases e : endsN n a b = 0
 ·have := h0 e
  rw [ndB_0 e, decide_eq_true_eq] at this
  rw [this, e]; simp
 ·rw [ndN_n e] at h
  rcases (show endsN n a b = 1 \/ endsN n a b = 2 by omega) with e1 | e1
  ·rw [e1, Int.tdiv_one] at h; rw [e1]; omega
  ·rw [e1, Int.tdiv_eq_ediv_of_nonneg (by omega)] at h; rw [e1]; omega
theorem pos_whole {n : Nat} {c : Nat -> Int} {lo hi : Int} (hn : 0 < n) : posB n c lo hi = true ↔ ndB n c lo hi 0 (n - 1) = true := by
 have e : endsN n 0 (n - 1) = 0 := by rw [endsN_eq, if_neg (by omega), if_neg (by omega)]; rfl
 rw [ndB_0 e, exc_S (by omega)]
 have e2 : n - 1 - 0 + 1 = n := by omega
 rw [e2]
 unfold loS hiS
 have e3 : segN c 0 n = sumN c n := by unfold segN; congr 1; funext j; rw [Nat.zero_add]
 rw [e3]
 simp only [posB_eq, Bool.and_eq_true, decide_eq_true_eq]
 rw [Int.mul_comm lo, Int.mul_comm hi]
 generalize (n : Int) * lo = x
 generalize (n : Int) * hi = y
 omega
theorem wdL_wit {n : Nat} {c : Nat -> Int} {lo t : Int} : ∀ {d i : Nat}, n - i = d -> i <= n -> ∃ k, i + k <= n /\ wdL n c lo t i = (if i + k = n then 0 else -t) + loS c lo i k
 | 0, i, e, hi => ⟨0, by omega, by obtain rfl : i = n := by omega
                                   rw [wdL_n, if_pos (by omega), loS_zero]; rfl⟩
 | d + 1, i, e, hi => by
   obtain ⟨k, hk, h⟩ := wdL_wit (n := n) (c := c) (lo := lo) (t := t) (d := d) (i := i + 1) (by omega) (by omega)
   by_cases hm : wdL n c lo t (i + 1) + lo - c i <= -t
   ·exact ⟨0, by omega, by rw [wdL_at (by omega), if_neg (by omega), loS_zero]; omega⟩
   ·refine ⟨k + 1, by omega, ?_⟩
    rw [wdL_at (by omega), loS_left, show i + (k + 1) = i + 1 + k by omega]
    omega
theorem wdH_wit {n : Nat} {c : Nat -> Int} {hi t : Int} : ∀ {d i : Nat}, n - i = d -> i <= n -> ∃ k, i + k <= n /\ wdH n c hi t i = (if i + k = n then 0 else t) + hiS c hi i k
 | 0, i, e, hi' => ⟨0, by omega, by obtain rfl : i = n := by omega
                                    rw [wdH_n, if_pos (by omega), hiS_zero]; rfl⟩
 | d + 1, i, e, hi' => by
   obtain ⟨k, hk, h⟩ := wdH_wit (n := n) (c := c) (hi := hi) (t := t) (d := d) (i := i + 1) (by omega) (by omega)
   by_cases hm : t <= wdH n c hi t (i + 1) + hi - c i
   ·exact ⟨0, by omega, by rw [wdH_at (by omega), if_neg (by omega), hiS_zero]; omega⟩
   ·refine ⟨k + 1, by omega, ?_⟩
    rw [wdH_at (by omega), hiS_left, show i + (k + 1) = i + 1 + k by omega]
    omega
theorem slB_of {n : Nat} {c : Nat -> Int} {lo hi t : Int} (hlh : lo <= hi) (t0 : 0 <= t) (hn : 0 < n) (H : ∀ a b, a <= b -> b < n -> excN c lo hi a b <= endsN n a b * t) : slB n c lo hi t = true := by
 have Hs : ∀ a k, 0 < k -> a + k <= n -> loS c lo a k <= endsN n a (a + k - 1) * t /\ -(hiS c hi a k) <= endsN n a (a + k - 1) * t := fun a k hk hak => by
  have := H a (a + k - 1) (by omega) (by omega)
  rw [exc_S (by omega), show a + k - 1 - a + 1 = k by omega] at this
  omega
 have H2 : ∀ a k, a + k <= n -> loS c lo a k <= 2 * t /\ -(hiS c hi a k) <= 2 * t := fun a k hak => by
  cases k with
  | zero => rw [loS_zero, hiS_zero]; omega
  | succ k =>
    have h1 := Hs a (k + 1) (by omega) hak
    have h2 := endsN_in n a (a + (k + 1) - 1)
    have h3 := Int.mul_le_mul_of_nonneg_right h2.2 t0
    omega
 have H1 : ∀ a k, a + k = n -> loS c lo a k <= t /\ -(hiS c hi a k) <= t := fun a k hak => by
  cases k with
  | zero => rw [loS_zero, hiS_zero]; omega
  | succ k =>
    have h1 := Hs a (k + 1) (by omega) (by omega)
    have h2 : endsN n a (a + (k + 1) - 1) <= 1 := by rw [endsN_eq, if_neg (show ¬ a + (k + 1) - 1 + 1 < n by omega)]; split <;> omega
    have h3 := Int.mul_le_mul_of_nonneg_right h2 t0
    omega
 have H0 : ∀ k, k <= n -> loS c lo 0 k <= t /\ -(hiS c hi 0 k) <= t /\ (k = n -> loS c lo 0 k <= 0 /\ -(hiS c hi 0 k) <= 0) := fun k hk => by
  cases k with
  | zero => rw [loS_zero, hiS_zero]; omega
  | succ k =>
    have h1 := Hs 0 (k + 1) (by omega) (by omega)
    have h2 : endsN n 0 (0 + (k + 1) - 1) = if k + 1 < n then 1 else 0 := by rw [endsN_eq, if_neg (by omega), show 0 + (k + 1) - 1 + 1 = k + 1 by omega, Int.zero_add]
    rw [h2] at h1
    by_cases hkn : k + 1 < n
    ·rw [if_pos hkn] at h1; omega
    ·rw [if_neg hkn] at h1; omega
 refine slB_t.2 ⟨fun i hi' => ?_, ?_, ?_⟩
 ·obtain ⟨k, hk, e1⟩ := wdL_wit (n := n) (c := c) (lo := lo) (t := t) (i := i) rfl (by omega)
  obtain ⟨l, hl, e2⟩ := wdH_wit (n := n) (c := c) (hi := hi) (t := t) (i := i) rfl (by omega)
  rw [e1, e2]
  rcases Nat.lt_trichotomy k l with h | h | h
  ·obtain ⟨d, rfl⟩ : ∃ d, l = k + d := ⟨l - k, by omega⟩
   rw [hiS_add]
   have a1 := lo_hiS (c := c) hlh i k
   have a2 := H2 (i + k) d (by omega)
   by_cases hn2 : i + (k + d) = n
   ·have a3 := H1 (i + k) d (by omega)
    rw [if_pos hn2, if_neg (by omega)]; omega
   ·rw [if_neg hn2, if_neg (by omega)]; omega
  ·subst h
   have a1 := lo_hiS (c := c) hlh i k
   by_cases hn2 : i + k = n
   ·rw [if_pos hn2, if_pos hn2]; omega
   ·rw [if_neg hn2, if_neg hn2]; omega
  ·obtain ⟨d, rfl⟩ : ∃ d, k = l + d := ⟨k - l, by omega⟩
   rw [loS_add]
   have a1 := lo_hiS (c := c) hlh i l
   have a2 := H2 (i + l) d (by omega)
   by_cases hn2 : i + (l + d) = n
   ·have a3 := H1 (i + l) d (by omega)
    rw [if_pos hn2, if_neg (by omega)]; omega
   ·rw [if_neg hn2, if_neg (by omega)]; omega
 ·obtain ⟨k, hk, e1⟩ := wdL_wit (n := n) (c := c) (lo := lo) (t := t) (i := 0) rfl (by omega)
  have a := H0 k (by omega)
  rw [e1]
  by_cases h : 0 + k = n
  ·rw [if_pos h]; have := a.2.2 (by omega); omega
  ·rw [if_neg h]; omega
 ·obtain ⟨k, hk, e1⟩ := wdH_wit (n := n) (c := c) (hi := hi) (t := t) (i := 0) rfl (by omega)
  have a := H0 k (by omega)
  rw [e1]
  by_cases h : 0 + k = n
  ·rw [if_pos h]; have := a.2.2 (by omega); omega
  ·rw [if_neg h]; omega
theorem slN_brings {n : Nat} {c : Nat -> Int} {lo hi t : Int} (hlh : lo <= hi) (t0 : 0 <= t) (h : slB n c lo hi t = true) : Brings n c (slN n c lo hi t) lo hi t := by
 obtain ⟨h1, h2, h3⟩ := slB_t.1 h
 have h4 : ∀ i, i <= n -> wdL n c lo t i <= wdH n c hi t i := fun i hi' => by
  by_cases e : i = n
  ·subst e; rw [wdL_n, wdH_n]; omega
  ·exact h1 i (by omega)
 have hin : ∀ i, i <= n -> wdL n c lo t i <= slN n c lo hi t i /\ slN n c lo hi t i <= wdH n c hi t i := by
  intro i
  induction i with
  | zero => intro _; rw [slN_zero]; exact ⟨h2, h3⟩
  | succ i ih =>
    intro hi'
    have ih := ih (by omega)
    have a := h4 (i + 1) hi'
    have b := wdH_at (c := c) (hi := hi) (t := t) (n := n) (i := i) (by omega)
    rw [slN_succ]; omega
 have hb : ∀ i, i < n -> -t <= wdL n c lo t i /\ wdH n c hi t i <= t := fun i hi' => by
  rw [wdL_at hi', wdH_at hi']; omega
 refine ⟨slN_zero .., ?_, fun i hi' => ?_, fun i hi' => ?_⟩
 ·have := hin n (Nat.le_refl _)
  rw [wdL_n, wdH_n] at this; omega
 ·by_cases e : i = n
  ·have := hin n (Nat.le_refl _)
   rw [wdL_n, wdH_n] at this
   subst e; omega
  ·have a := hin i hi'
   have b := hb i (by omega)
   omega
 ·have a := hin i (by omega)
  have b := wdL_at (c := c) (lo := lo) (t := t) (n := n) (i := i) hi'
  have d := slN_succ n c lo hi t i
  omega
theorem slB_iff {n : Nat} {c : Nat -> Int} {lo hi t : Int} (hlh : lo <= hi) (t0 : 0 <= t) (hn : 0 < n) : slB n c lo hi t = true ↔ posB n c lo hi = true /\ ∀ a b, a <= b -> b < n -> ndN n c lo hi a b <= t := by
 constructor
 ·intro h
  have hb := slN_brings hlh t0 h
  have key : ∀ a b, a <= b -> b < n -> ndN n c lo hi a b <= t /\ (endsN n a b = 0 -> ndB n c lo hi a b = true) := fun a b h1 h2 => exc_nd t0 h1 (brings_exc hb t0 h1 h2)
  exact ⟨(pos_whole hn).2 ((key 0 (n - 1) (by omega) (by omega)).2 (by rw [endsN_eq, if_neg (by omega), if_neg (by omega)]; rfl)), fun a b h1 h2 => (key a b h1 h2).1⟩
 ·rintro ⟨h1, h2⟩
  refine slB_of hlh t0 hn fun a b hab hb => nd_exc hab (h2 a b hab hb) fun e => ?_
  rw [endsN_eq] at e
  have : a = 0 /\ b = n - 1 := by
   by_cases x : 0 < a
   ·rw [if_pos x] at e; split at e <;> omega
   ·rw [if_neg x] at e
    split at e
    ·omega
    ·omega
  rw [this.1, this.2]; exact (pos_whole hn).1 h1
def seen (n a k x y : Nat) : Prop := x <= y /\ y < n /\ (x < a \/ x = a /\ y < a + k)
structure QInv (n : Nat) (c : Nat -> Int) (lo hi : Int) (a k x y : Nat) : Prop where
 F : qF n c lo hi a k = x
 O : qO n c lo hi a k = y
 s : seen n a k x y
 t : qT n c lo hi a k = ndN n c lo hi x y
 le : ∀ x' y', seen n a k x' y' -> ndN n c lo hi x' y' <= ndN n c lo hi x y
 lt : ∀ x' y', seen n a k x' y' -> (x' < x \/ x' = x /\ y' < y) -> ndN n c lo hi x' y' < ndN n c lo hi x y
theorem qInv_step {n : Nat} {c : Nat -> Int} {lo hi : Int} {a k : Nat} (hk : a + k < n) (h : (∃ x y, QInv n c lo hi a k x y) \/ (a = 0 /\ k = 0)) : ∃ x y, QInv n c lo hi a (k + 1) x y := by
 by_cases hy : qT n c lo hi a k < ndN n c lo hi a (a + k) \/ a + (a + k) = 0
 ·obtain ⟨y1, y2, y3⟩ := qAt_yes hy
  refine ⟨a, a + k, y2, by rw [y3]; simp, ⟨by omega, hk, .inr ⟨rfl, by omega⟩⟩, y1, fun x' y' hs => ?_, fun x' y' hs hb => ?_⟩
  ·rcases h with ⟨x, y, q⟩ | ⟨rfl, rfl⟩
   ·by_cases e : x' = a /\ y' = a + k
    ·rw [e.1, e.2]; exact Int.le_refl _
    ·have := q.le x' y' ⟨hs.1, hs.2.1, by have := hs.2.2; omega⟩
     have := q.t
     rcases hy with hy | hy
     ·omega
     ·exfalso
      have := q.s.2.2; omega
   ·obtain ⟨s1, s2, s3⟩ := hs
    have : x' = 0 /\ y' = 0 := by omega
    rw [this.1, this.2]; exact Int.le_refl _
  ·rcases h with ⟨x, y, q⟩ | ⟨rfl, rfl⟩
   ·have := q.le x' y' ⟨hs.1, hs.2.1, by have := hs.2.2; omega⟩
    have := q.t
    rcases hy with hy | hy
    ·omega
    ·exfalso
     have := q.s.2.2; omega
   ·obtain ⟨s1, s2, s3⟩ := hs
    omega
 ·obtain ⟨y1, y2, y3⟩ := qAt_no hy
  rcases h with ⟨x, y, q⟩ | ⟨rfl, rfl⟩
  ·have hqs := q.s.2.2
   refine ⟨x, y, by rw [y2]; exact q.F, by rw [y3]; exact q.O, ⟨q.s.1, q.s.2.1, by omega⟩, by rw [y1]; exact q.t, fun x' y' hs => ?_, fun x' y' hs hb => ?_⟩
   ·by_cases e : x' = a /\ y' = a + k
    ·have := q.t
     rw [e.1, e.2]; omega
    ·exact q.le x' y' ⟨hs.1, hs.2.1, by have := hs.2.2; omega⟩
   ·exact q.lt x' y' ⟨hs.1, hs.2.1, by have := hs.2.2; omega⟩ hb
  ·exfalso; omega
theorem qInv {n : Nat} {c : Nat -> Int} {lo hi : Int} (hn : 0 < n) : ∀ a : Nat, a <= n -> (∃ x y, QInv n c lo hi a 0 x y) \/ a = 0
 | 0, _ => .inr rfl
 | a + 1, ha => by
   have ih := qInv (c := c) (lo := lo) (hi := hi) hn a (by omega)
   have key : ∀ k, a + k <= n -> (∃ x y, QInv n c lo hi a k x y) \/ (a = 0 /\ k = 0) := by
    intro k
    induction k with
    | zero => intro _; exact ih.imp id fun e => ⟨e, rfl⟩
    | succ k ihk => intro hk; exact .inl (qInv_step (by omega) (ihk (by omega)))
   obtain ⟨x, y, q⟩ := (key (n - a) (by omega)).resolve_right (by omega)
   obtain ⟨e1, e2, e3⟩ := qAt_row n c lo hi a
   refine .inl ⟨x, y, by rw [e2]; exact q.F, by rw [e3]; exact q.O, ⟨q.s.1, q.s.2.1, .inl (by have := q.s.2.2; omega)⟩, by rw [e1]; exact q.t, fun x' y' hs => q.le x' y' ⟨hs.1, hs.2.1, by have := hs.2.2; have := hs.1; have := hs.2.1; omega⟩, fun x' y' hs hb => q.lt x' y' ⟨hs.1, hs.2.1, by have := hs.2.2; have := hs.1; have := hs.2.1; omega⟩ hb⟩
structure QMax (n : Nat) (c : Nat -> Int) (lo hi : Int) (x y : Nat) : Prop where
 F : qF n c lo hi n 0 = x
 O : qO n c lo hi n 0 = y
 xy : x <= y
 yn : y < n
 t : qckT n c lo hi = ndN n c lo hi x y
 le : ∀ a b, a <= b -> b < n -> ndN n c lo hi a b <= ndN n c lo hi x y
 lt : ∀ a b, a <= b -> b < n -> (a < x \/ a = x /\ b < y) -> ndN n c lo hi a b < ndN n c lo hi x y
theorem qMax {n : Nat} {c : Nat -> Int} {lo hi : Int} (hn : 0 < n) : ∃ x y, QMax n c lo hi x y := by
 obtain ⟨x, y, q⟩ := (qInv (c := c) (lo := lo) (hi := hi) hn n (Nat.le_refl _)).resolve_right (by omega)
 refine ⟨x, y, q.F, q.O, q.s.1, q.s.2.1, by rw [qckT_eq']; exact q.t, fun a b h1 h2 => q.le a b ⟨h1, h2, .inl (by omega)⟩, fun a b h1 h2 h3 => q.lt a b ⟨h1, h2, .inl (by omega)⟩ h3⟩
theorem slB_q {n : Nat} {c : Nat -> Int} {lo hi t : Int} (hlh : lo <= hi) (t0 : 0 <= t) (hn : 0 < n) : slB n c lo hi t = true ↔ posB n c lo hi = true /\ qckT n c lo hi <= t := by
 obtain ⟨x, y, q⟩ := qMax (c := c) (lo := lo) (hi := hi) hn
 rw [slB_iff hlh t0 hn, q.t]
 exact ⟨fun h => ⟨h.1, h.2 x y q.xy q.yn⟩, fun h => ⟨h.1, fun a b h1 h2 => Int.le_trans (q.le a b h1 h2) h.2⟩⟩
end Abs
end Go.Proofs.Ytdhbbdljiidgiaa

namespace Go.Proofs.Ytdhbbdljiidgiaa
namespace Abs
open Go Go.RowKit
noncomputable section
def rbdS : Spec [inSh, .int .i64, .int .i64] := ⟨fun _ => True, fun ((n, el), (lo : Int), (hi : Int), _) => .si .i64 (bdE n (fun k => (el k).1) lo hi)⟩
set_option maxRecDepth 100000 in
theorem rbd_ok : FnSpec Try.prog 52 _ rbdS := by
 refine FnSpec.of SH4_ok mixed (U := 0) (I := fun _ => []) Try.func52 rfl (by kernel_rfl) rfl rfl (by decide +kernel) ?_
 rintro ⟨⟨n, el⟩, (lo : Int), (hi : Int), ⟨⟩⟩ -
 obtain ⟨c, rfl⟩ : ∃ c : Nat -> Int, el = fun k => (c k, ()) := ⟨fun k => (el k).1, rfl⟩
 unfold FnSat
 conv => arg 2; reduce
 simp [rbdS, lvS, and_assoc]
 have e : (fun k => c k) = c := rfl
 simp only [e]
 refine ⟨fun h => (bdE_lv h).symm, fun h => ?_⟩
 refine ⟨fun h' => (bdE_2 h (by omega)).symm, fun a b d => (bdE_0.2 ⟨h, a, b, d⟩).symm⟩
def rpoS : Spec [inSh, .int .i64, .int .i64] := ⟨fun ((n, el), (lo : Int), (hi : Int), _) => n <= 16 /\ 0 <= lo /\ lo <= 100 /\ 0 <= hi /\ hi <= 100 /\ ∀ k, k < n -> 0 <= (el k).1 /\ (el k).1 <= 100, fun ((n, el), (lo : Int), (hi : Int), _) => .sb (posB n (fun k => (el k).1) lo hi)⟩
def rpoI : DatL [inSh, .int .i64, .int .i64] -> Anns := fun ((n, el), (lo : Int), (hi : Int), _) => [
 (3, [], fun fr hp => ⟨Nat, fun g => ⟨frI [.k 7, .s (.si .i64 (sumN (fun k => (el k).1) g)), .s (.si .i64 (icast g)), .t 26] fr, hp⟩, Nat × Nat, fun g => (n, g), fun (n, g) => g <= n, fun g => nsub n g⟩)]
set_option maxRecDepth 100000 in
theorem rpo_ok : FnSpec Try.prog 72 _ rpoS := by
 refine FnSpec.of SH4_ok mixed (U := 0) (I := rpoI) Try.func72 rfl (by kernel_rfl) rfl rfl (by decide +kernel) ?_
 rintro ⟨⟨n, el⟩, (lo : Int), (hi : Int), ⟨⟩⟩ ⟨(hn : n <= 16), (h1 : 0 <= lo), (h2 : lo <= 100), (h3 : 0 <= hi), (h4 : hi <= 100), (h5 : ∀ k, k < n -> 0 <= (el k).1 /\ (el k).1 <= 100)⟩
 obtain ⟨c, rfl⟩ : ∃ c : Nat -> Int, el = fun k => (c k, ()) := ⟨fun k => (el k).1, rfl⟩
 have h5 : ∀ k, k < n -> 0 <= c k /\ c k <= 100 := h5
 unfold FnSat
 conv => arg 2; reduce
 simp [rpoS, ElEq, getB, goneB, aliveB, and_assoc]
 have e : (fun k => c k) = c := rfl
 simp only [e]
 have q1 : ∀ z : Int, 0 <= z -> z <= 100 -> 0 <= z * (n : Int) /\ z * (n : Int) <= 1600 := fun z z0 z1 => by
  have := Int.mul_nonneg z0 (Int.natCast_nonneg n)
  have h2 : z * (n : Int) <= 100 * (n : Int) := Int.mul_le_mul_of_nonneg_right z1 (Int.natCast_nonneg n)
  omega
 have q2 := q1 lo h1 h2
 have q3 := q1 hi h3 h4
 refine ⟨⟨0, by simp, rfl, by omega⟩, fun g hg => ⟨fun hlt => ?_, fun hge => ?_⟩⟩
 ·have a1 := h5 g hlt
  have a2 := sumN_in (c := c) (M := 100) (n := g) fun k hk => by have := h5 k (by omega); omega
  exact ⟨hlt, by omega, by omega, by omega, by omega, g + 1, by simp, by omega, by omega, by omega⟩
 ·obtain rfl : g = n := by omega
  exact ⟨by omega, by omega, fun _ => by omega, rfl⟩
def rneI : DatL [inSh, .int .i64, .int .i64, .int .i64, .int .i64] -> Anns := fun ((n, c), (lo : Int), (hi : Int), (a : Int), (b : Int), _) => [
 (7, [], fun fr hp => ⟨Nat, fun g => ⟨frI [.k 12, .s (.si .i64 (segN (fun k => (c k).1) (nat a) g)), .k 2, .s (.si .i64 (iadd a (icast g))), .t 75] fr, hp⟩, Nat × Int, fun g => (g, isub b a), fun (g, q) => g <= q + 1, fun g => nsub 17 g⟩)]
noncomputable def SI1 : Sums := ⟨(72, mkSum _ rpoS) :: (52, mkSum _ rbdS) :: SH4.one, SH4.two, SH4.lo, SH4.eqs, SH4.its, SH4.imm⟩
theorem SI1_ok : SumsOK Try.prog SI1 := ((SH4_ok.cons Try.func52 (by kernel_rfl) (by kernel_rfl) rbd_ok).cons Try.func72 (by kernel_rfl) (by kernel_rfl) rpo_ok)
set_option maxRecDepth 100000 in
theorem rne_ok : FnSpec Try.prog 41 _ neS := by
 refine FnSpec.of SI1_ok mixed (U := 0) (I := rneI) Try.func41 rfl (by kernel_rfl) rfl rfl (by decide +kernel) ?_
 rintro ⟨⟨n, c'⟩, (lo : Int), (hi : Int), (a : Int), (b : Int), ⟨⟩⟩ -
 obtain ⟨c, rfl⟩ : ∃ c : Nat -> Int, c' = fun k => (c k, ()) := ⟨fun k => (c' k).1, rfl⟩
 unfold FnSat
 conv => arg 2; reduce
 simp [neS, rbdS, ElEq, getB, goneB, aliveB, and_assoc]
 have e1 : (fun k => c k) = c := rfl
 simp only [e1]
 refine ⟨fun h => ?_, fun h => ⟨fun h' => ?_, fun a1 a2 a3 => ?_⟩⟩
 ·have e := neE_bd (n := n) (c := c) (lo := lo) (hi := hi) (a := a) (b := b) h
  exact ⟨(okI_e (by rw [e]; exact h)).symm, e.symm⟩
 ·have e := neE_3 (n := n) (c := c) (lo := lo) (hi := hi) (a := a) (b := b) h (by omega)
  exact ⟨(okI_e (by omega)).symm, e.symm⟩
 obtain ⟨hl, b1, b2, b3⟩ := bdE_0.1 h
 obtain ⟨l1, l2, l3⟩ := lvE_0.1 hl
 obtain ⟨x, rfl⟩ := Int.eq_ofNat_of_zero_le a1
 obtain ⟨y, rfl⟩ := Int.eq_ofNat_of_zero_le (Int.le_trans a1 a2)
 have hok : ndB n c lo hi x y = true -> neE n c lo hi x y = 0 := fun h2 => neE_ok h ⟨a1, a2, a3⟩ (by simpa using h2)
 have hno : ndB n c lo hi x y = false -> neE n c lo hi x y = 18 := fun h2 => neE_18 h ⟨a1, a2, a3⟩ (by simpa using h2)
 simp only [Int.toNat_natCast]
 have p1 := mul_b (x := (y : Int) - x + 1) (h := hi) (by omega) (by omega) (by omega) b3
 have p2 := mul_b (x := (y : Int) - x + 1) (h := lo) (by omega) (by omega) b1 (by omega)
 refine ⟨by omega, by omega, by omega, by omega, ⟨0, by simp, by omega, by omega⟩, fun g hg => ?_⟩
 have hs := segN_in (a := x) (k := g) l3 (by omega)
 have hN : ((x : Int) + g).toNat = x + g := by omega
 rw [hN]
 refine ⟨fun hlt => ?_, fun hge => ?_⟩
 ·have hc := l3 (x + g) (by omega)
  exact ⟨by omega, by omega, by omega, by omega, by omega, by omega, g + 1, by simp, by omega, by omega, by omega⟩
 obtain rfl : g = y - x + 1 := by omega
 have E : max 0 (max (segN c x (y - x + 1) - ((y : Int) - x + 1) * hi) (((y : Int) - x + 1) * lo - segN c x (y - x + 1))) = excN c lo hi x y := by rw [excN_eq]; omega
 have he := excN_in (c := c) (lo := lo) (hi := hi) (a := x) (b := y) l2 (by omega) (by omega) l3 b1 (by omega) (by omega) b3
 rw [E]
 have n0 : endsN n x y = 0 -> ndN n c lo hi x y = 0 /\ ndB n c lo hi x y = decide (excN c lo hi x y = 0) := fun h => ⟨ndN_0 h, ndB_0 h⟩
 have n1 : endsN n x y ≠ 0 -> ndN n c lo hi x y = (excN c lo hi x y + endsN n x y - 1).tdiv (endsN n x y) /\ ndB n c lo hi x y = true := fun h => ⟨ndN_n h, ndB_n h⟩
 have en := endsN_eq n x y
 generalize excN c lo hi x y = X at *
 refine ⟨fun hx => ⟨by omega, by omega, fun hy => ?_, fun hy => ?_⟩, fun hx => ⟨by omega, by omega, fun hy => ?_, fun hy => ?_⟩⟩
 ·rw [if_pos (by omega), if_pos (by omega)] at en
  have en : endsN n x y = 2 := en
  rw [en] at n1
  obtain ⟨q1, q2⟩ := n1 (by omega)
  have e := hok q2
  have hq : (X + 2 - 1).tdiv 2 = (X + 2 - 1) / 2 := Int.tdiv_eq_ediv_of_nonneg (by omega)
  rw [okI_0 e, e]
  rw [hq] at q1 ⊢
  repeat' refine And.intro ?_ ?_
  all_goals first | omega | rfl
 ·rw [if_pos (by omega), if_neg (by omega)] at en
  have en : endsN n x y = 1 := en
  rw [en] at n1
  obtain ⟨q1, q2⟩ := n1 (by omega)
  have e := hok q2
  rw [okI_0 e, e]
  rw [Int.tdiv_one] at q1
  repeat' refine And.intro ?_ ?_
  all_goals first | omega | rfl
 ·rw [if_neg (by omega), if_pos (by omega)] at en
  have en : endsN n x y = 1 := en
  rw [en] at n1
  obtain ⟨q1, q2⟩ := n1 (by omega)
  have e := hok q2
  rw [okI_0 e, e]
  rw [Int.tdiv_one] at q1
  repeat' refine And.intro ?_ ?_
  all_goals first | omega | rfl
 ·rw [if_neg (by omega), if_neg (by omega)] at en
  have en : endsN n x y = 0 := en
  obtain ⟨q1, q2⟩ := n0 en
  have e1 : X = 0 -> neE n c lo hi x y = 0 := fun h => hok (by rw [q2]; simp [h])
  have e2 : X ≠ 0 -> neE n c lo hi x y = 18 := fun h => hno (by rw [q2]; simp [h])
  refine ⟨by omega, by omega, by omega, by omega, by omega, by omega, by omega, by omega, fun h => ?_, fun h => ?_⟩
  ·have e := e2 (by omega)
   exact ⟨(okI_e (by omega)).symm, e.symm⟩
  ·have e := e1 (by omega)
   exact ⟨by rw [okI_0 e, q1], e.symm⟩
def rwiS : Spec [inSh, .int .i64, .int .i64, .int .i64] := ⟨fun ((n, c), (lo : Int), (hi : Int), (t : Int), _) => 1 <= n /\ n <= 16 /\ 0 <= lo /\ lo <= hi /\ hi <= 100 /\ (∀ k, k < n -> 0 <= (c k).1 /\ (c k).1 <= 100) /\ 0 <= t /\ t <= 2000,
 fun ((n, c), (lo : Int), (hi : Int), (t : Int), _) => .tup [.slc (.sym (slL n (fun k => (c k).1) lo hi t)) 1 (fun k => [.si .i64 (slF n (fun k => (c k).1) lo hi t k)]), .sb (slB n (fun k => (c k).1) lo hi t)]⟩
def rwiI : DatL [inSh, .int .i64, .int .i64, .int .i64] -> Anns := fun ((n, c), (lo : Int), (hi : Int), (t : Int), _) => [
 (5, [], fun fr hp => ⟨Nat, fun g => ⟨frI [.k 13, .s (.si .i64 (isub (icast g) 1)), .t 2, .k 11, .t 89] fr, setB (setB hp 0 (.row 3 1 (.sym n) (fun k => [.si .i64 (frmL n (fun k => (c k).1) lo t g k)]))) 1 (.row 3 1 (.sym n) (fun k => [.si .i64 (frmH n (fun k => (c k).1) hi t g k)]))⟩, Nat × Nat × (Nat -> Bool), fun g => (n, g, wdX n (fun k => (c k).1) lo hi t), fun (n, g, p) => g <= n /\ ∀ k, g <= k -> k < n -> p k = false, fun g => g⟩),
 (19, [(16, 3, 1)], fun fr hp => ⟨Nat, fun g => ⟨frI [.k 17, .s (.si .i64 (slN n (fun k => (c k).1) lo hi t g)), .s (.si .i64 (icast g)), .k 72, .t 25] fr, setB hp 2 (.row 3 1 (.sym g) (fun k => [.si .i64 (slF n (fun k => (c k).1) lo hi t k)]))⟩, Nat × Nat, fun g => (n, g), fun (n, g) => g + 1 <= n, fun g => nsub n g⟩)]
set_option maxRecDepth 100000 in
theorem rwi_ok : FnSpec Try.prog 73 _ rwiS := by
 refine FnSpec.of SI1_ok mixed (U := 0) (I := rwiI) Try.func73 rfl (by kernel_rfl) rfl rfl (by decide +kernel) ?_
 rintro ⟨⟨n, c'⟩, (lo : Int), (hi : Int), (t : Int), ⟨⟩⟩ ⟨(h0 : 1 <= n), (h1 : n <= 16), (h2 : 0 <= lo), (h3 : lo <= hi), (h5 : hi <= 100), (h6 : ∀ k, k < n -> 0 <= (c' k).1 /\ (c' k).1 <= 100), (t0 : 0 <= t), (t1 : t <= 2000)⟩
 obtain ⟨c, rfl⟩ : ∃ c : Nat -> Int, c' = fun k => (c k, ()) := ⟨fun k => (c' k).1, rfl⟩
 have h6 : ∀ k, k < n -> 0 <= c k /\ c k <= 100 := h6
 unfold FnSat
 conv => arg 2; reduce
 simp [rwiS, ElEq, getB, goneB, aliveB, maxRow, and_assoc]
 have e1 : (fun k => c k) = c := rfl
 simp only [e1]
 have hL : ∀ g, frmL n c lo t g = frmV (wdL n c lo t) g := fun g => by funext k; unfold frmL; rfl
 have hH : ∀ g, frmH n c hi t g = frmV (wdH n c hi t) g := fun g => by funext k; unfold frmH; rfl
 simp only [hL, hH]
 refine ⟨by omega, by omega, by omega, ⟨n, rfl, fun j hj => (frmV_out (by omega)).symm, fun j hj => (frmV_out (by omega)).symm, by omega, fun k _ _ => by omega⟩, fun g hg hall => ⟨fun hg1 => ?_, fun hg0 => ?_⟩⟩
 ·have bL := wdL_in (c := c) (lo := lo) (t := t) h6 h2 (by omega) t0 (d := n - g) (i := g) rfl hg
  have bH := wdH_in (c := c) (hi := hi) (t := t) h6 (by omega) h5 t0 (d := n - g) (i := g) rfl hg
  have hc := h6 (g - 1) (by omega)
  have aL := wdL_at (c := c) (lo := lo) (t := t) (n := n) (i := g - 1) (by omega)
  have aH := wdH_at (c := c) (hi := hi) (t := t) (n := n) (i := g - 1) (by omega)
  rw [show g - 1 + 1 = g by omega] at aL aH
  have eL : frmV (wdL n c lo t) g g = wdL n c lo t g := frmV_in (Nat.le_refl _)
  have eH : frmV (wdH n c hi t) g g = wdH n c hi t g := frmV_in (Nat.le_refl _)
  rw [eL, eH]
  have up : ∀ (V : Nat -> Int) j, (if j = g - 1 then V (g - 1) else frmV V g j) = frmV V (g - 1) j := fun V j => by
   by_cases e : j = g - 1
   ·rw [if_pos e, e, frmV_in (Nat.le_refl _)]
   ·rw [if_neg e]
    by_cases h : g <= j
    ·rw [frmV_in h, frmV_in (by omega)]
    ·rw [frmV_out (by omega), frmV_out (by omega)]
  have f1 : wdH n c hi t (g - 1) < wdL n c lo t (g - 1) -> slL n c lo hi t = 0 /\ slB n c lo hi t = false := fun hx => by
   have hf := slB_f (n := n) (c := c) (lo := lo) (hi := hi) (t := t) fun h => by have := h.1 (g - 1) (by omega); omega
   exact ⟨slL_f hf, hf⟩
  have f2 : wdL n c lo t (g - 1) <= wdH n c hi t (g - 1) -> ∀ k, g - 1 <= k -> k < n -> wdX n c lo hi t k = false := fun hy k h1 h2 => by
   by_cases e : k = g - 1
   ·subst e; exact wdX_f.2 (by omega)
   ·exact hall k (by omega) h2
  refine ⟨by omega, by omega, fun hgn => ?_, fun hgn => ?_⟩
  ·rw [<- aL, <- aH]
   exact ⟨by omega, hgn, by omega, hgn, by omega, by omega, by omega, by omega, by omega, by omega, by omega, by omega, by omega, by omega, by omega, by omega, by omega, by omega, by omega, by omega, by omega, by omega, by omega, by omega, by omega, by omega, f1, fun hy => ⟨by omega, by omega, g - 1, by omega, fun j hj => up _ j, fun j hj => up _ j, by omega, f2 hy, by omega⟩⟩
  ·obtain rfl : g = n := by omega
   have zL := wdL_n g c lo t
   have zH := wdH_n g c hi t
   have aL' : max (-t) (lo - c (g - 1)) = wdL g c lo t (g - 1) := by rw [aL, zL]; omega
   have aH' : min t (hi - c (g - 1)) = wdH g c hi t (g - 1) := by rw [aH, zH]; omega
   rw [aL', aH']
   exact ⟨by omega, by omega, by omega, by omega, by omega, by omega, by omega, by omega, by omega, by omega, by omega, by omega, by omega, by omega, by omega, by omega, by omega, by omega, by omega, by omega, by omega, by omega, f1, fun hy => ⟨by omega, by omega, g - 1, by omega, fun j hj => up _ j, fun j hj => up _ j, by omega, f2 hy, by omega⟩⟩
 ·obtain rfl : g = 0 := by omega
  have eV : ∀ (V : Nat -> Int) k, frmV V 0 k = V k := fun V k => frmV_in (by omega)
  simp only [eV]
  have hx : ∀ i, i < n -> wdL n c lo t i <= wdH n c hi t i := fun i hi => wdX_f.1 (hall i (by omega) hi)
  refine ⟨by omega, fun _ => by omega, fun hb => ?_, fun hb1 hb2 => ?_⟩
  ·have hf := slB_f (n := n) (c := c) (lo := lo) (hi := hi) (t := t) fun h => by omega
   exact ⟨slL_f hf, hf⟩
  have ht := slB_t.2 ⟨hx, hb1, hb2⟩
  refine ⟨⟨0, by simp, rfl, rfl, by omega, by omega⟩, fun g hg => ⟨by omega, by omega, fun hlt => ?_, fun hge => ⟨by rw [slL_t ht]; omega, ht⟩⟩⟩
  have hs := slN_in (c := c) (lo := lo) (hi := hi) (t := t) h6 h2 (by omega) (by omega) t0 (i := g) (by omega)
  have hc := h6 g (by omega)
  have hS := slN_succ n c lo hi t g
  exact ⟨by omega, by omega, by omega, by omega, by omega, by omega, by omega, by omega, by omega, by omega, by omega, by omega, g + 1, hS.symm, by omega, rfl, fun j hj => app_one hj (fun _ => rfl) (fun e => by subst e; rw [slF_eq, hS]; rfl), by omega, by omega⟩
noncomputable def SI2 : Sums := ⟨(73, mkSum _ rwiS) :: (41, mkSum _ neS) :: SI1.one, SI1.two, SI1.lo, SI1.eqs, SI1.its, SI1.imm⟩
theorem SI2_ok : SumsOK Try.prog SI2 := ((SI1_ok.cons Try.func41 (by kernel_rfl) (by kernel_rfl) rne_ok).cons Try.func73 (by kernel_rfl) (by kernel_rfl) rwi_ok)
def rqkI : DatL [inSh, .int .i64, .int .i64] -> Anns := fun ((n, c), (lo : Int), (hi : Int), _) => [
 (6, [], fun fr hp => ⟨Nat, fun T => ⟨frI [.k 9, .t 2, .k 21, .t 52] fr, setB hp 1 (.cells 32 [.v (.slice none 0 0), .si .i64 (icast T), .li .i64 0, .li .i64 0])⟩, Nat × Int, fun T => (T, qckT n (fun k => (c k).1) lo hi), fun (T, q) => (T : Int) <= q, fun T => nsub 1601 T⟩),
 (11, [], fun fr hp => ⟨Nat, fun a => ⟨frI [.k 11, .s (.si .i64 (icast a)), .t 3, .k 33, .t 36] fr, hp⟩, Nat × Int, fun a => (a, qF n (fun k => (c k).1) lo hi n 0), fun (a, x) => (a : Int) <= x, fun a => nsub n a⟩),
 (14, [], fun fr hp => ⟨Nat, fun b => ⟨frI [.k 12, .s (.si .i64 (icast b)), .t 2, .k 40, .t 29] fr, hp⟩, Nat × Nat × Nat × Int × Int, fun b => (n, nat (intOf (getL fr 11)), b, qF n (fun k => (c k).1) lo hi n 0, qO n (fun k => (c k).1) lo hi n 0), fun (n, a, b, x, y) => a <= b /\ b <= n /\ ((a : Int) < x \/ (a : Int) = x /\ (b : Int) <= y), fun b => nsub n b⟩)]
set_option maxRecDepth 100000 in
set_option maxHeartbeats 2000000 in
theorem rqk_ok : FnSpec Try.prog 39 _ qckS := by
 refine FnSpec.of SI2_ok mixed (U := 0) (I := rqkI) Try.func39 rfl (by kernel_rfl) rfl rfl (by decide +kernel) ?_
 rintro ⟨⟨n, c'⟩, (lo : Int), (hi : Int), ⟨⟩⟩ -
 obtain ⟨c, rfl⟩ : ∃ c : Nat -> Int, c' = fun k => (c k, ()) := ⟨fun k => (c' k).1, rfl⟩
 unfold FnSat
 conv => arg 2; reduce
 simp [qckS, rbdS, rpoS, neS, rwiS, ElEq, getB, goneB, aliveB, maxRow, and_assoc]
 have e1 : (fun k => c k) = c := rfl
 simp only [e1]
 refine ⟨fun h => ?_, fun h => ?_⟩
 ·have e := fewE_bd (n := n) (c := c) (lo := lo) (hi := hi) h
  have he : fewE n c lo hi ≠ 0 := by rw [e]; exact h
  exact ⟨by unfold qckL; exact okN_e he, (okI_e he).symm, (okI_e he).symm, (okI_e he).symm, e.symm⟩
 obtain ⟨hl, b1, b2, b3⟩ := bdE_0.1 h
 obtain ⟨l1, l2, l3⟩ := lvE_0.1 hl
 refine ⟨l2, b1, by omega, by omega, b3, l3, fun hs => ?_, fun p1 p2 => ?_⟩
 ·have e := fewE_18 (n := n) (c := c) (lo := lo) (hi := hi) h (by simp; omega)
  have he : fewE n c lo hi ≠ 0 := by omega
  exact ⟨by unfold qckL; exact okN_e he, (okI_e he).symm, (okI_e he).symm, (okI_e he).symm, e.symm⟩
 have hpos : posB n c lo hi = true := by simp; omega
 have he := fewE_ok h hpos
 have hq := qAt_in (c := c) (lo := lo) (hi := hi) l2 l3 b1 (by omega) (by omega) b3 n 0 (fun _ => by omega) (Nat.le_refl _) (fun _ => rfl)
 rw [<- qckT_eq] at hq
 obtain ⟨x, y, q⟩ := qMax (c := c) (lo := lo) (hi := hi) (n := n) (by omega)
 have hiff : ∀ T : Nat, slB n c lo hi T = true ↔ qckT n c lo hi <= T := fun T => by
  rw [slB_q b2 (by omega) (by omega)]; exact ⟨fun h => h.2, fun h => ⟨hpos, h⟩⟩
 have hne : ∀ a b : Nat, a <= b -> b < n -> neE n c lo hi a b = 0 := fun a b hab hb => by
  refine neE_ok h ⟨by omega, by omega, by omega⟩ ?_
  simp only [Int.toNat_natCast]
  by_cases e : endsN n a b = 0
  ·rw [endsN_eq] at e
   have : a = 0 /\ b = n - 1 := by
    by_cases z : 0 < a
    ·rw [if_pos z] at e; split at e <;> omega
    ·rw [if_neg z] at e; split at e <;> omega
   rw [this.1, this.2]; exact (pos_whole (by omega)).1 hpos
  ·exact ndB_n e
 have qF' := q.F
 have qO' := q.O
 have qxy := q.xy
 have qyn := q.yn
 rw [qF', qO']
 refine ⟨⟨0, rfl, by omega⟩, fun T hT => ⟨l1, l2, b1, b2, b3, l3, by omega, fun hs => ?_, fun hs => ?_⟩⟩
 ·have hTq : qckT n c lo hi = T := by have := (hiff T).1 hs; omega
  have hfin : slL n c lo hi T = qckL n c lo hi /\ (∀ j, j < qckL n c lo hi -> slF n c lo hi T j = qckF n c lo hi j) /\ (T : Int) = okI (fewE n c lo hi) (qckT n c lo hi) := by
   refine ⟨?_, fun j _ => ?_, ?_⟩
   ·unfold qckL; rw [okN_0 he, hTq]
   ·unfold qckF; rw [hTq]
   ·rw [okI_0 he, hTq]
  refine ⟨⟨0, rfl, by omega⟩, fun a ha => ⟨fun han => ⟨⟨a, rfl, by omega, by omega, by omega⟩, fun b hab hbn hlt => ⟨fun hb => ?_, fun hb => ?_⟩⟩, fun han => ?_⟩⟩
  ·have e0 := hne a b hab hb
   rw [e0, okI_0 rfl]
   refine ⟨fun _ hn => ?_, fun hn => ?_⟩
   ·have : a = x /\ b = y := by
     have := q.lt a b hab hb
     rw [<- q.t, hTq, hn] at this
     omega
    obtain ⟨rfl, rfl⟩ := this
    exact ⟨hfin.1, hfin.2.1, hfin.2.2, (okI_0 he).symm, (okI_0 he).symm, he.symm⟩
   ·have hne' : ¬ (a = x /\ b = y) := fun ⟨e1, e2⟩ => by
     subst e1 e2
     have := hn rfl
     rw [<- q.t, hTq] at this
     exact this rfl
    exact ⟨by omega, by omega, b + 1, by omega, by omega, by omega, by omega, by omega⟩
  ·exact ⟨by omega, by omega, a + 1, by omega, by omega, by omega⟩
  ·exfalso; omega
 ·have : ¬ qckT n c lo hi <= T := fun h => by rw [(hiff T).2 h] at hs; cases hs
  exact ⟨by omega, by omega, T + 1, by omega, by omega, by omega⟩
noncomputable def SI3 : Sums := ⟨(39, mkSum _ qckS) :: SI2.one, SI2.two, SI2.lo, SI2.eqs, SI2.its, SI2.imm⟩
theorem SI3_ok : SumsOK Try.prog SI3 := (SI2_ok.cons Try.func39 (by kernel_rfl) (by kernel_rfl) rqk_ok)
@[irreducible] def ibX (x : Nat -> Int) (lo hi : Int) (k : Nat) : Bool := !(isIn lo (x k) hi)
theorem ibX_f {x : Nat -> Int} {lo hi : Int} {k : Nat} : ibX x lo hi k = false ↔ lo <= x k /\ x k <= hi := by unfold ibX; simp
@[irreducible] def ibB (n : Nat) (x : Nat -> Int) (lo hi : Int) : Bool := !(anyN (ibX x lo hi) n)
theorem ibB_t {n : Nat} {x : Nat -> Int} {lo hi : Int} : ibB n x lo hi = true ↔ ∀ k, k < n -> lo <= x k /\ x k <= hi := by
 unfold ibB
 rw [Bool.not_eq_true', anyN_false]
 exact ⟨fun h k hk => ibX_f.1 (h k hk), fun h k hk => ibX_f.2 (h k hk)⟩
theorem ibB_f {n k : Nat} {x : Nat -> Int} {lo hi : Int} (hk : k < n) (h : x k < lo \/ hi < x k) : ibB n x lo hi = false := by
 cases h' : ibB n x lo hi with
 | false => rfl
 | true => have := ibB_t.1 h' k hk; omega
theorem ibB_fit (n : Nat) (c : Nat -> Int) (m : Nat) (f : Nat -> Int) (lo hi : Int) : ibB n (fun k => bhV c m f k) lo hi = fitB n c m f lo hi := by
 cases h : fitB n c m f lo hi with
 | true => exact ibB_t.2 (fitB_t.1 h)
 | false =>
   cases h' : ibB n (fun k => bhV c m f k) lo hi with
   | false => rfl
   | true => rw [fitB_t.2 (ibB_t.1 h')] at h; cases h
def ribS : Spec [inSh, .int .i64, .int .i64] := ⟨fun ((n, _), _) => n <= 4611686018427387904, fun ((n, x), (lo : Int), (hi : Int), _) => .sb (ibB n (fun k => (x k).1) lo hi)⟩
def ribI : DatL [inSh, .int .i64, .int .i64] -> Anns := fun ((n, x), (lo : Int), (hi : Int), _) => [
 (2, [], fun fr hp => ⟨Nat, fun g => ⟨frI [.k 7, .s (.si .i64 (icast g)), .t 20] fr, hp⟩, Nat × Nat × (Nat -> Bool), fun g => (n, g, ibX (fun k => (x k).1) lo hi), fun (n, g, p) => g <= n /\ ∀ k, k < g -> p k = false, fun g => nsub n g⟩)]
set_option maxRecDepth 100000 in
theorem rib_ok : FnSpec Try.prog 54 _ ribS := by
 refine FnSpec.of SI3_ok mixed (U := 0) (I := ribI) Try.func54 rfl (by kernel_rfl) rfl rfl (by decide +kernel) ?_
 rintro ⟨⟨n, x'⟩, (lo : Int), (hi : Int), ⟨⟩⟩ (hn : n <= 4611686018427387904)
 obtain ⟨x, rfl⟩ : ∃ x : Nat -> Int, x' = fun k => (x k, ()) := ⟨fun k => (x' k).1, rfl⟩
 unfold FnSat
 conv => arg 2; reduce
 simp [ribS, ElEq, getB, goneB, aliveB, and_assoc]
 have e1 : (fun k => x k) = x := rfl
 simp only [e1]
 have nx : ∀ g, (∀ k, k < g -> ibX x lo hi k = false) -> lo <= x g -> x g <= hi -> ∀ k, k < g + 1 -> ibX x lo hi k = false := fun g hall a b k hk => by
  by_cases e : k = g
  ·subst e; exact ibX_f.2 ⟨a, b⟩
  ·exact hall k (by omega)
 exact ⟨⟨0, rfl, by omega, fun k hk => by omega⟩, fun g hg hall => ⟨fun hlt => ⟨hlt, fun _ => hlt, fun hb => ibB_f hlt hb, fun a b => ⟨by omega, by omega, g + 1, by omega, by omega, nx g hall a b, by omega⟩⟩, fun hge => ibB_t.2 fun k hk => ibX_f.1 (hall k (by omega))⟩⟩
def rtkS : Spec [inSh] := ⟨fun ((m, f), _) => m <= 30 /\ ∀ k, k < m -> -2000 <= (f k).1 /\ (f k).1 <= 2000, fun ((m, f), _) => .si .i64 (tckN (fun k => (f k).1) m)⟩
def rtkI : DatL [inSh] -> Anns := fun ((m, f), _) => [
 (3, [], fun fr hp => ⟨Nat, fun g => ⟨frI [.k 3, .s (.si .i64 (tckN (fun k => (f k).1) g)), .s (.si .i64 (icast g)), .t 14] fr, hp⟩, Nat × Nat, fun g => (m, g), fun (m, g) => g <= m, fun g => nsub m g⟩)]
set_option maxRecDepth 100000 in
theorem rtk_ok : FnSpec Try.prog 17 _ rtkS := by
 refine FnSpec.of SI3_ok mixed (U := 0) (I := rtkI) Try.func17 rfl (by kernel_rfl) rfl rfl (by decide +kernel) ?_
 rintro ⟨⟨m, f'⟩, ⟨⟩⟩ ⟨(hm : m <= 30), (h : ∀ k, k < m -> -2000 <= (f' k).1 /\ (f' k).1 <= 2000)⟩
 obtain ⟨f, rfl⟩ : ∃ f : Nat -> Int, f' = fun k => (f k, ()) := ⟨fun k => (f' k).1, rfl⟩
 have h : ∀ k, k < m -> -2000 <= f k /\ f k <= 2000 := h
 unfold FnSat
 conv => arg 2; reduce
 simp [rtkS, amS, ElEq, getB, goneB, aliveB, and_assoc]
 have e : (fun k => f k) = f := rfl
 simp only [e]
 exact ⟨⟨0, by simp, rfl, by omega⟩, fun g hg => ⟨fun hlt => by
  have a := h g hlt
  exact ⟨hlt, by omega, by omega, by omega, by omega, g + 1, by simp, by omega, by omega, by omega⟩, fun hge => by rw [show g = m by omega]⟩⟩
noncomputable def SI4 : Sums := ⟨(17, mkSum _ rtkS) :: (54, mkSum _ ribS) :: SI3.one, SI3.two, SI3.lo, SI3.eqs, SI3.its, SI3.imm⟩
theorem SI4_ok : SumsOK Try.prog SI4 := ((SI3_ok.cons Try.func54 (by kernel_rfl) (by kernel_rfl) rib_ok).cons Try.func17 (by kernel_rfl) (by kernel_rfl) rtk_ok)
set_option maxRecDepth 100000 in
theorem rcq_ok : FnSpec Try.prog 22 _ cqS := by
 refine FnSpec.of SI4_ok mixed (U := 0) (I := fun _ => []) Try.func22 rfl (by kernel_rfl) rfl rfl (by decide +kernel) ?_
 rintro ⟨⟨n, c'⟩, (lo : Int), (hi : Int), ⟨⟨m, f'⟩, (t : Int), (a : Int), (b : Int), ⟨⟩⟩, ⟨⟩⟩ -
 obtain ⟨c, rfl⟩ : ∃ c : Nat -> Int, c' = fun k => (c k, ()) := ⟨fun k => (c' k).1, rfl⟩
 obtain ⟨f, rfl⟩ : ∃ f : Nat -> Int, f' = fun k => (f k, ()) := ⟨fun k => (f' k).1, rfl⟩
 unfold FnSat
 conv => arg 2; reduce
 simp [cqS, rbdS, rflS, neS, rbS, bhS, ribS, rtkS, ElEq, getB, goneB, aliveB, and_assoc]
 have e1 : (fun k => c k) = c := rfl
 have e2 : (fun k => f k) = f := rfl
 simp only [e1, e2]
 refine ⟨fun h => (cqE_bd h).symm, fun h => ?_⟩
 obtain ⟨hl, b1, b2, b3⟩ := bdE_0.1 h
 obtain ⟨l1, l2, l3⟩ := lvE_0.1 hl
 refine ⟨by omega, fun h' => ⟨by omega, (cqE_fl h h').symm⟩, fun h' => ?_⟩
 obtain ⟨q1, q2⟩ := flE_0.1 h'
 rw [cqE_t h h', ibB_fit]
 refine ⟨fun hb => (cqT_3 (by omega)).symm, fun a1 a2 a3 => ?_⟩
 have hnd : neE n c lo hi a b = 0 ↔ ndB n c lo hi a.toNat b.toNat = true := ⟨fun e => (neE_0.1 e).2.2, fun e => neE_ok h ⟨a1, a2, a3⟩ e⟩
 refine ⟨fun _ => ⟨l2, by omega, l3, q2⟩, fun _ => by omega, fun _ _ => ⟨by omega, q2⟩, fun hx => (cqT_19 ⟨a1, a2, a3⟩ fun hh => ?_).symm, fun x1 x2 x3 x4 => (cqT_0 ⟨a1, a2, a3⟩ ⟨hnd.1 x1, x2, x3.symm, by rw [okI_0 x1] at x4; exact x4.symm⟩).symm⟩
 obtain ⟨y1, y2, y3, y4⟩ := hh
 rw [okI_0 (hnd.2 y1), y2] at hx
 rcases hx with ((hx | hx) | hx) | hx
 ·exact hx (hnd.2 y1)
 ·cases hx
 ·exact hx y3.symm
 ·exact hx y4.symm
def rnwI : DatL [inSh, .int .i64] -> Anns := fun ((n, c), (t : Int), _) => [
 (7, [], fun fr hp => ⟨Nat, fun w => ⟨frI [.k 7, .s (.si .i64 (icast w)), .t 3, .k 9, .t 25] fr, hp⟩, Nat × Nat, fun w => (w, nwW n (fun k => (c k).1) t), fun (w, q) => w <= q, fun w => nsub 101 w⟩),
 (10, [], fun fr hp => ⟨Nat, fun l => ⟨frI [.k 8, .s (.si .i64 (icast l)), .t 2, .k 13, .t 21] fr, hp⟩, Nat × Nat, fun l => (l, nwF n (fun k => (c k).1) t (nat (intOf (getL fr 7)))), fun (l, q) => l <= q, fun l => nsub 101 l⟩)]
set_option maxRecDepth 100000 in
theorem rnw_ok : FnSpec Try.prog 42 _ nwS := by
 refine FnSpec.of SI4_ok mixed (U := 0) (I := rnwI) Try.func42 rfl (by kernel_rfl) rfl rfl (by decide +kernel) ?_
 rintro ⟨⟨n, c'⟩, (t : Int), ⟨⟩⟩ -
 obtain ⟨c, rfl⟩ : ∃ c : Nat -> Int, c' = fun k => (c k, ()) := ⟨fun k => (c' k).1, rfl⟩
 unfold FnSat
 conv => arg 2; reduce
 simp [nwS, lvS, rwiS, ElEq, getB, goneB, aliveB, and_assoc]
 have e1 : (fun k => c k) = c := rfl
 simp only [e1]
 refine ⟨fun h => ?_, fun h => ⟨fun ht => ?_, fun ht => ?_⟩⟩
 ·have e := nwE_lv (n := n) (c := c) (t := t) h
  exact ⟨(okI_e (by rw [e]; exact h)).symm, (okI_e (by rw [e]; exact h)).symm, e.symm⟩
 ·have e := nwE_3 (n := n) (c := c) (t := t) h ht
  exact ⟨(okI_e (by omega)).symm, (okI_e (by omega)).symm, e.symm⟩
 have e := nwE_ok (n := n) (c := c) (t := t) h ht
 obtain ⟨l1, l2, l3⟩ := lvE_0.1 h
 have hFle : ∀ w, nwF n c t w <= 101 - w := fun w => by rw [nwF_eq]; exact firstN_le _ _
 rw [okI_0 e, okI_0 e]
 refine ⟨⟨0, rfl, by omega⟩, fun w hw => ⟨fun hw1 => ⟨⟨0, rfl, by omega⟩, fun l hl => ⟨by have := hFle w; omega, by have := hFle w; omega, fun hll => ?_, fun hlg => ?_⟩⟩, fun hw1 => ?_⟩⟩
 ·have hq := nwQ_eq n c t w l
  have hsame : slB n c l (l + w) (min t 2000) = slB n c l (l + w) (nwT t) := by
   rw [nwT_eq]
   have hqm := qAt_in (c := c) (lo := l) (hi := (l : Int) + w) l2 l3 (by omega) (by omega) (by omega) (by omega) n 0 (fun _ => by omega) (Nat.le_refl _) (fun _ => rfl)
   rw [<- qckT_eq] at hqm
   have i1 := slB_q (n := n) (c := c) (lo := l) (hi := (l : Int) + w) (t := min t 2000) (by omega) (by omega) (by omega)
   have i2 := slB_q (n := n) (c := c) (lo := l) (hi := (l : Int) + w) (t := min t 1600) (by omega) (by omega) (by omega)
   rw [Bool.eq_iff_iff, i1, i2]
   exact ⟨fun h => ⟨h.1, by omega⟩, fun h => ⟨h.1, by omega⟩⟩
  rw [hsame]
  refine ⟨by omega, by omega, l1, l2, by omega, by omega, l3, by omega, by omega, fun hs => ?_, fun hs => ?_⟩
  ·rw [hs] at hq
   have hF : nwF n c t w = l := by rw [nwF_eq] at hl ⊢; exact firstN_at hl hq
   have hP : nwP n c t w = true := by unfold nwP; exact anyN_iff.2 ⟨l, by omega, hq⟩
   have hW : nwW n c t = w := by rw [nwW_eq] at hw ⊢; exact firstN_at hw hP
   refine ⟨by omega, by omega, ?_, ?_, e.symm⟩
   ·unfold nwL; rw [hW, if_pos (by omega), hF]
   ·unfold nwH; rw [hW, if_pos (by omega), hF]
  ·rw [hs] at hq
   have hF : l + 1 <= nwF n c t w := by rw [nwF_eq] at hl ⊢; exact firstN_ge hl hq (by omega)
   exact ⟨by omega, by omega, l + 1, by omega, hF, by omega⟩
 ·have hP : nwP n c t w = false := by
   unfold nwP
   rw [anyN_false]
   intro k hk
   rw [nwF_eq] at hl
   exact firstN_not (nwQ n c t w) (101 - w) k (by omega)
  have hW : w + 1 <= nwW n c t := by rw [nwW_eq] at hw ⊢; exact firstN_ge hw hP (by omega)
  exact ⟨by omega, by omega, w + 1, by omega, hW, by omega⟩
 ·refine ⟨?_, ?_, e.symm⟩
  ·unfold nwL; rw [if_neg (by omega)]
  ·unfold nwH; rw [if_neg (by omega)]
noncomputable def SI5 : Sums := ⟨(42, mkSum _ nwS) :: (22, mkSum _ cqS) :: SI4.one, SI4.two, SI4.lo, SI4.eqs, SI4.its, SI4.imm⟩
theorem SI5_ok : SumsOK Try.prog SI5 := ((SI4_ok.cons Try.func22 (by kernel_rfl) (by kernel_rfl) rcq_ok).cons Try.func42 (by kernel_rfl) (by kernel_rfl) rnw_ok)
end
end Abs
end Go.Proofs.Ytdhbbdljiidgiaa

namespace Go.Proofs.Ytdhbbdljiidgiaa
namespace Abs
open Go Go.RowKit
theorem tckN_ge {f : Nat -> Int} : ∀ {m k : Nat}, k < m -> amt (f k) <= tckN f m
 | 0, k, h => by omega
 | m + 1, k, h => by
   rw [tckN_succ]
   by_cases e : k = m
   ·subst e; omega
   ·have := tckN_ge (f := f) (show k < m by omega); omega
theorem tckN_nn {f : Nat -> Int} : ∀ {m : Nat}, 0 <= tckN f m
 | 0 => by simp
 | m + 1 => by have := tckN_nn (f := f) (m := m); rw [tckN_succ]; omega
theorem tckN_le {f : Nat -> Int} {M : Int} (h0 : 0 <= M) : ∀ {m : Nat}, (∀ k, k < m -> -M <= f k /\ f k <= M) -> tckN f m <= M := fun h => (tckN_in h0 h).2
theorem fit_brings {n : Nat} {c f : Nat -> Int} {lo hi : Int} (hn : 0 < n) (h : fitB n c (n - 1) f lo hi = true) : Brings n c (inAt (n - 1) f) lo hi (tckN f (n - 1)) := by
 have h1 := fitB_t.1 h
 have hb : ∀ i, -(tckN f (n - 1)) <= flAt (n - 1) f i /\ flAt (n - 1) f i <= tckN f (n - 1) := fun i => by
  have h0 := tckN_nn (f := f) (m := n - 1)
  by_cases hi' : i < n - 1
  ·have := tckN_ge (f := f) hi'
   rw [amt_eq] at this
   rw [flAt_in hi']; omega
  ·rw [flAt_out (by omega)]; omega
 refine ⟨inAt_zero .., ?_, fun i hi' => ?_, fun i hi' => ?_⟩
 ·obtain ⟨k, rfl⟩ : ∃ k, n = k + 1 := ⟨n - 1, by omega⟩
  rw [inAt_succ, flAt_out (by omega)]
 ·cases i with
  | zero => rw [inAt_zero]; have := tckN_nn (f := f) (m := n - 1); omega
  | succ i => rw [inAt_succ]; exact hb i
 ·have := h1 i hi'
  rw [bhV_eq] at this
  rw [inAt_succ]; exact this
theorem fit_nd {n : Nat} {c f : Nat -> Int} {lo hi : Int} (h : fitB n c (n - 1) f lo hi = true) {a b : Nat} (hab : a <= b) (hb : b < n) : ndN n c lo hi a b <= tckN f (n - 1) /\ ndB n c lo hi a b = true := by
 have hB := brings_exc (fit_brings (by omega) h) tckN_nn hab hb
 have k := exc_nd tckN_nn hab hB
 refine ⟨k.1, ?_⟩
 by_cases e : endsN n a b = 0
 ·exact k.2 e
 ·exact ndB_n e
structure QPlan (n : Nat) (c : Nat -> Int) (lo hi : Int) : Prop where
 L : qckL n c lo hi = n - 1
 b : ∀ k, k < n - 1 -> -1600 <= qckF n c lo hi k /\ qckF n c lo hi k <= 1600
 fit : fitB n c (n - 1) (qckF n c lo hi) lo hi = true
 t : tckN (qckF n c lo hi) (n - 1) = qckT n c lo hi
 tb : 0 <= qckT n c lo hi /\ qckT n c lo hi <= 1600
theorem few_split {n : Nat} {c : Nat -> Int} {lo hi : Int} (h : fewE n c lo hi = 0) : (0 < n /\ n <= 16 /\ ∀ k, k < n -> 0 <= c k /\ c k <= 100) /\ 0 <= lo /\ lo <= hi /\ hi <= 100 /\ posB n c lo hi = true := by
 obtain ⟨hb, hp⟩ := fewE_0.1 h
 obtain ⟨hl, b1, b2, b3⟩ := bdE_0.1 hb
 obtain ⟨l1, l2, l3⟩ := lvE_0.1 hl
 exact ⟨⟨by omega, l2, l3⟩, b1, b2, b3, hp⟩
theorem qPlan {n : Nat} {c : Nat -> Int} {lo hi : Int} (h : fewE n c lo hi = 0) : QPlan n c lo hi := by
 obtain ⟨⟨l1, l2, l3⟩, b1, b2, b3, hp⟩ := few_split h
 have hq := qAt_in (c := c) (lo := lo) (hi := hi) l2 l3 b1 (by omega) (by omega) b3 n 0 (fun _ => by omega) (Nat.le_refl _) (fun _ => rfl)
 rw [<- qckT_eq] at hq
 have hs : slB n c lo hi (qckT n c lo hi) = true := (slB_q b2 hq.1 l1).2 ⟨hp, Int.le_refl _⟩
 have hB := slN_brings b2 hq.1 hs
 have hF : ∀ k, qckF n c lo hi k = slN n c lo hi (qckT n c lo hi) (k + 1) := fun k => by unfold qckF; rw [slF_eq]
 have hI : ∀ i, i <= n -> inAt (n - 1) (qckF n c lo hi) i = slN n c lo hi (qckT n c lo hi) i := fun i hi' => by
  cases i with
  | zero => rw [inAt_zero, slN_zero]
  | succ i =>
    rw [inAt_succ]
    by_cases e : i < n - 1
    ·rw [flAt_in e, hF]
    ·rw [flAt_out (by omega), show i + 1 = n by omega, hB.zn]
 have hfit : fitB n c (n - 1) (qckF n c lo hi) lo hi = true := fitB_t.2 fun k hk => by
  have := hB.l k hk
  rw [bhV_eq, <- inAt_succ, hI k (by omega), hI (k + 1) (by omega)]; exact this
 have hb : ∀ k, k < n - 1 -> -(qckT n c lo hi) <= qckF n c lo hi k /\ qckF n c lo hi k <= qckT n c lo hi := fun k hk => by rw [hF]; exact hB.b (k + 1) (by omega)
 obtain ⟨x, y, q⟩ := qMax (c := c) (lo := lo) (hi := hi) l1
 have h1 := (fit_nd hfit q.xy q.yn).1
 rw [<- q.t] at h1
 have h2 := tckN_le hq.1 hb
 exact ⟨by unfold qckL; rw [okN_0 h, slL_t hs], fun k hk => by have := hb k hk; omega, hfit, by omega, hq⟩
theorem qck_checks {n : Nat} {c : Nat -> Int} {lo hi : Int} (h : fewE n c lo hi = 0) : cqE n c lo hi (n - 1) (qckF n c lo hi) (qckT n c lo hi) (qF n c lo hi n 0) (qO n c lo hi n 0) = 0 := by
 obtain ⟨⟨l1, l2, l3⟩, b1, b2, b3, hp⟩ := few_split h
 have P := qPlan h
 obtain ⟨x, y, q⟩ := qMax (c := c) (lo := lo) (hi := hi) l1
 have hfl : flE n (n - 1) (qckF n c lo hi) = 0 := flE_0.2 ⟨by omega, fun k hk => by have := P.b k hk; omega⟩
 rw [cqE_t (fewE_0.1 h).1 hfl, q.F, q.O]
 have := q.xy
 have := q.yn
 refine cqT_0 ⟨by omega, by omega, by omega⟩ ⟨?_, P.fit, P.t, ?_⟩
 ·simp only [Int.toNat_natCast]; exact (fit_nd P.fit q.xy q.yn).2
 ·simp only [Int.toNat_natCast]; exact q.t.symm
end Abs
end Go.Proofs.Ytdhbbdljiidgiaa

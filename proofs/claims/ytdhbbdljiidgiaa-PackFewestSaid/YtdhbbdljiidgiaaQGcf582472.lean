/- A part of the proof: no statement of its own. -/
import Derived.Test.YtdhbbdljiidgiaaQGbfce4394
set_option linter.unusedSimpArgs false
set_option linter.unusedVariables false
namespace Go.Proofs.Ytdhbbdljiidgiaa
namespace Abs
open Go
theorem segN_add {c : Nat -> Int} {a k : Nat} : ∀ {l : Nat}, segN c a (k + l) = segN c a k + segN c (a + k) l
 | 0 => by simp
 | l + 1 => by rw [<- Nat.add_assoc, segN_succ, segN_add (l := l), segN_succ, Nat.add_assoc]; omega
@[irreducible] def loS (c : Nat -> Int) (lo : Int) (a k : Nat) : Int := k * lo - segN c a k
@[irreducible] def hiS (c : Nat -> Int) (hi : Int) (a k : Nat) : Int := k * hi - segN c a k
theorem loS_zero (c : Nat -> Int) (lo : Int) (a : Nat) : loS c lo a 0 = 0 := by unfold loS; simp
theorem hiS_zero (c : Nat -> Int) (hi : Int) (a : Nat) : hiS c hi a 0 = 0 := by unfold hiS; simp
theorem loS_add (c : Nat -> Int) (lo : Int) (a k l : Nat) : loS c lo a (k + l) = loS c lo a k + loS c lo (a + k) l := by
 unfold loS; rw [segN_add, Int.natCast_add, Int.add_mul]; omega
theorem hiS_add (c : Nat -> Int) (hi : Int) (a k l : Nat) : hiS c hi a (k + l) = hiS c hi a k + hiS c hi (a + k) l := by
 unfold hiS; rw [segN_add, Int.natCast_add, Int.add_mul]; omega
theorem loS_left (c : Nat -> Int) (lo : Int) (a k : Nat) : loS c lo a (k + 1) = lo - c a + loS c lo (a + 1) k := by
 rw [Nat.add_comm k 1, loS_add]; unfold loS; simp
theorem hiS_left (c : Nat -> Int) (hi : Int) (a k : Nat) : hiS c hi a (k + 1) = hi - c a + hiS c hi (a + 1) k := by
 rw [Nat.add_comm k 1, hiS_add]; unfold hiS; simp
theorem lo_hiS {c : Nat -> Int} {lo hi : Int} (h : lo <= hi) (a k : Nat) : loS c lo a k <= hiS c hi a k := by
 unfold loS hiS
 have := Int.mul_le_mul_of_nonneg_left h (Int.natCast_nonneg k)
 omega
theorem exc_S {c : Nat -> Int} {lo hi : Int} {a b : Nat} (h : a <= b) : excN c lo hi a b = max (max 0 (-(hiS c hi a (b - a + 1)))) (loS c lo a (b - a + 1)) := by
 rw [excN_eq]; unfold loS hiS
 have e : ((b - a + 1 : Nat) : Int) = (b : Int) - a + 1 := by omega
 rw [e]
 generalize ((b : Int) - a + 1) * hi = x
 generalize ((b : Int) - a + 1) * lo = y
 omega
structure Brings (n : Nat) (c F : Nat -> Int) (lo hi t : Int) : Prop where
 z0 : F 0 = 0
 zn : F n = 0
 b : ∀ i, i <= n -> -t <= F i /\ F i <= t
 l : ∀ i, i < n -> lo <= c i + F i - F (i + 1) /\ c i + F i - F (i + 1) <= hi
theorem brings_seg {n : Nat} {c F : Nat -> Int} {lo hi t : Int} (h : Brings n c F lo hi t) {a : Nat} : ∀ {k : Nat}, a + k <= n -> loS c lo a k <= F a - F (a + k) /\ F a - F (a + k) <= hiS c hi a k
 | 0, _ => by rw [loS_zero, hiS_zero]; simp
 | k + 1, hk => by
   have ih := brings_seg h (a := a) (k := k) (by omega)
   have hl := h.l (a + k) (by omega)
   have e1 := loS_add c lo a k 1
   have e2 := hiS_add c hi a k 1
   have e3 := loS_left c lo (a + k) 0
   have e4 := hiS_left c hi (a + k) 0
   rw [loS_zero] at e3
   rw [hiS_zero] at e4
   simp only [Nat.zero_add] at e3 e4
   rw [<- Nat.add_assoc a k 1]
   omega
theorem brings_exc {n : Nat} {c F : Nat -> Int} {lo hi t : Int} (h : Brings n c F lo hi t) (t0 : 0 <= t) {a b : Nat} (hab : a <= b) (hb : b < n) : excN c lo hi a b <= endsN n a b * t := by
 have hs := brings_seg h (a := a) (k := b - a + 1) (by omega)
 rw [show a + (b - a + 1) = b + 1 by omega] at hs
 rw [exc_S hab, endsN_eq]
 have b1 := h.b a (by omega)
 have b2 := h.b (b + 1) (by omega)
 by_cases ha : 0 < a
 ·by_cases hbn : b + 1 < n
  ·rw [if_pos ha, if_pos hbn]; omega
  ·have : F (b + 1) = 0 := by rw [show b + 1 = n by omega]; exact h.zn
   rw [if_pos ha, if_neg hbn]; omega
 ·have h0 : F a = 0 := by rw [show a = 0 by omega]; exact h.z0
  by_cases hbn : b + 1 < n
  ·rw [if_neg ha, if_pos hbn]; omega
  ·have : F (b + 1) = 0 := by rw [show b + 1 = n by omega]; exact h.zn
   rw [if_neg ha, if_neg hbn]; omega
theorem exc_nd {n : Nat} {c : Nat -> Int} {lo hi t : Int} {a b : Nat} (t0 : 0 <= t) (hab : a <= b) (h : excN c lo hi a b <= endsN n a b * t) : ndN n c lo hi a b <= t /\ (endsN n a b = 0 -> ndB n c lo hi a b = true) := by
 have hd := endsN_in n a b
 have h0 : 0 <= excN c lo hi a b := by rw [exc_S hab]; omega
 refine ⟨?_, fun e => ?_⟩
 ·by_cases e : endsN n a b = 0
  ·rw [ndN_0 e]; exact t0
  ·rw [ndN_n e]
   rcases (show endsN n a b = 1 \/ endsN n a b = 2 by omega) with e1 | e1
   ·rw [e1] at h ⊢; rw [Int.tdiv_one]; omega
   ·rw [e1] at h ⊢; rw [Int.tdiv_eq_ediv_of_nonneg (by omega)]; omega
 ·rw [ndB_0 e]
  rw [e] at h
  have : excN c lo hi a b = 0 := by omega
  rw [this]; rfl
theorem nd_exc {n : Nat} {c : Nat -> Int} {lo hi t : Int} {a b : Nat} (hab : a <= b) (h : ndN n c lo hi a b <= t) (h0 : endsN n a b = 0 -> ndB n c lo hi a b = true) : excN c lo hi a b <= endsN n a b * t := by
 have hd := endsN_in n a b
 have h0' : 0 <= excN c lo hi a b := by rw [exc_S hab]; omega
 by_cases e : endsN n a b = 0
 ·have := h0 e
  rw [ndB_0 e, decide_eq_true_eq] at this
  rw [this, e]; simp
 ·rw [ndN_n e] at h
  rcases (show endsN n a b = 1 \/ endsN n a b = 2 by omega) with e1 | e1
  ·rw [e1, Int.tdiv_one] at h; rw [e1]; omega
  ·rw [e1, Int.tdiv_eq_ediv_of_nonneg (by omega)] at h; rw [e1]; omega
theorem pos_whole {n : Nat} {c : Nat -> Int} {lo hi : Int} (hn : 0 < n) : posB n c lo hi = true ↔ ndB n c lo hi 0 (n - 1) = true := by
 have e : endsN n 0 (n - 1) = 0 := by rw [endsN_eq, if_neg (by omega), if_neg (by omega)]; rfl
 rw [ndB_0 e, exc_S (by omega)]
 have e2 : n - 1 - 0 + 1 = n := by omega
 rw [e2]
 unfold loS hiS
 have e3 : segN c 0 n = sumN c n := by unfold segN; congr 1; funext j; rw [Nat.zero_add]
 rw [e3]
 simp only [posB_eq, Bool.and_eq_true, decide_eq_true_eq]
 rw [Int.mul_comm lo, Int.mul_comm hi]
 generalize (n : Int) * lo = x
 generalize (n : Int) * hi = y
 omega
theorem wdL_wit {n : Nat} {c : Nat -> Int} {lo t : Int} : ∀ {d i : Nat}, n - i = d -> i <= n -> ∃ k, i + k <= n /\ wdL n c lo t i = (if i + k = n then 0 else -t) + loS c lo i k
 | 0, i, e, hi => ⟨0, by omega, by obtain rfl : i = n := by omega
                                   rw [wdL_n, if_pos (by omega), loS_zero]; rfl⟩
 | d + 1, i, e, hi => by
   obtain ⟨k, hk, h⟩ := wdL_wit (n := n) (c := c) (lo := lo) (t := t) (d := d) (i := i + 1) (by omega) (by omega)
   by_cases hm : wdL n c lo t (i + 1) + lo - c i <= -t
   ·exact ⟨0, by omega, by rw [wdL_at (by omega), if_neg (by omega), loS_zero]; omega⟩
   ·refine ⟨k + 1, by omega, ?_⟩
    rw [wdL_at (by omega), loS_left, show i + (k + 1) = i + 1 + k by omega]
    omega
theorem wdH_wit {n : Nat} {c : Nat -> Int} {hi t : Int} : ∀ {d i : Nat}, n - i = d -> i <= n -> ∃ k, i + k <= n /\ wdH n c hi t i = (if i + k = n then 0 else t) + hiS c hi i k
 | 0, i, e, hi' => ⟨0, by omega, by obtain rfl : i = n := by omega
                                    rw [wdH_n, if_pos (by omega), hiS_zero]; rfl⟩
 | d + 1, i, e, hi' => by
   obtain ⟨k, hk, h⟩ := wdH_wit (n := n) (c := c) (hi := hi) (t := t) (d := d) (i := i + 1) (by omega) (by omega)
   by_cases hm : t <= wdH n c hi t (i + 1) + hi - c i
   ·exact ⟨0, by omega, by rw [wdH_at (by omega), if_neg (by omega), hiS_zero]; omega⟩
   ·refine ⟨k + 1, by omega, ?_⟩
    rw [wdH_at (by omega), hiS_left, show i + (k + 1) = i + 1 + k by omega]
    omega
theorem slB_of {n : Nat} {c : Nat -> Int} {lo hi t : Int} (hlh : lo <= hi) (t0 : 0 <= t) (hn : 0 < n) (H : ∀ a b, a <= b -> b < n -> excN c lo hi a b <= endsN n a b * t) : slB n c lo hi t = true := by
 have Hs : ∀ a k, 0 < k -> a + k <= n -> loS c lo a k <= endsN n a (a + k - 1) * t /\ -(hiS c hi a k) <= endsN n a (a + k - 1) * t := fun a k hk hak => by
  have := H a (a + k - 1) (by omega) (by omega)
  rw [exc_S (by omega), show a + k - 1 - a + 1 = k by omega] at this
  omega
 have H2 : ∀ a k, a + k <= n -> loS c lo a k <= 2 * t /\ -(hiS c hi a k) <= 2 * t := fun a k hak => by
  cases k with
  | zero => rw [loS_zero, hiS_zero]; omega
  | succ k =>
    have h1 := Hs a (k + 1) (by omega) hak
    have h2 := endsN_in n a (a + (k + 1) - 1)
    have h3 := Int.mul_le_mul_of_nonneg_right h2.2 t0
    omega
 have H1 : ∀ a k, a + k = n -> loS c lo a k <= t /\ -(hiS c hi a k) <= t := fun a k hak => by
  cases k with
  | zero => rw [loS_zero, hiS_zero]; omega
  | succ k =>
    have h1 := Hs a (k + 1) (by omega) (by omega)
    have h2 : endsN n a (a + (k + 1) - 1) <= 1 := by rw [endsN_eq, if_neg (show ¬ a + (k + 1) - 1 + 1 < n by omega)]; split <;> omega
    have h3 := Int.mul_le_mul_of_nonneg_right h2 t0
    omega
 have H0 : ∀ k, k <= n -> loS c lo 0 k <= t /\ -(hiS c hi 0 k) <= t /\ (k = n -> loS c lo 0 k <= 0 /\ -(hiS c hi 0 k) <= 0) := fun k hk => by
  cases k with
  | zero => rw [loS_zero, hiS_zero]; omega
  | succ k =>
    have h1 := Hs 0 (k + 1) (by omega) (by omega)
    have h2 : endsN n 0 (0 + (k + 1) - 1) = if k + 1 < n then 1 else 0 := by rw [endsN_eq, if_neg (by omega), show 0 + (k + 1) - 1 + 1 = k + 1 by omega, Int.zero_add]
    rw [h2] at h1
    by_cases hkn : k + 1 < n
    ·rw [if_pos hkn] at h1; omega
    ·rw [if_neg hkn] at h1; omega
 refine slB_t.2 ⟨fun i hi' => ?_, ?_, ?_⟩
 ·obtain ⟨k, hk, e1⟩ := wdL_wit (n := n) (c := c) (lo := lo) (t := t) (i := i) rfl (by omega)
  obtain ⟨l, hl, e2⟩ := wdH_wit (n := n) (c := c) (hi := hi) (t := t) (i := i) rfl (by omega)
  rw [e1, e2]
  rcases Nat.lt_trichotomy k l with h | h | h
  ·obtain ⟨d, rfl⟩ : ∃ d, l = k + d := ⟨l - k, by omega⟩
   rw [hiS_add]
   have a1 := lo_hiS (c := c) hlh i k
   have a2 := H2 (i + k) d (by omega)
   by_cases hn2 : i + (k + d) = n
   ·have a3 := H1 (i + k) d (by omega)
    rw [if_pos hn2, if_neg (by omega)]; omega
   ·rw [if_neg hn2, if_neg (by omega)]; omega
  ·subst h
   have a1 := lo_hiS (c := c) hlh i k
   by_cases hn2 : i + k = n
   ·rw [if_pos hn2, if_pos hn2]; omega
   ·rw [if_neg hn2, if_neg hn2]; omega
  ·obtain ⟨d, rfl⟩ : ∃ d, k = l + d := ⟨k - l, by omega⟩
   rw [loS_add]
   have a1 := lo_hiS (c := c) hlh i l
   have a2 := H2 (i + l) d (by omega)
   by_cases hn2 : i + (l + d) = n
   ·have a3 := H1 (i + l) d (by omega)
    rw [if_pos hn2, if_neg (by omega)]; omega
   ·rw [if_neg hn2, if_neg (by omega)]; omega
 ·obtain ⟨k, hk, e1⟩ := wdL_wit (n := n) (c := c) (lo := lo) (t := t) (i := 0) rfl (by omega)
  have a := H0 k (by omega)
  rw [e1]
  by_cases h : 0 + k = n
  ·rw [if_pos h]; have := a.2.2 (by omega); omega
  ·rw [if_neg h]; omega
 ·obtain ⟨k, hk, e1⟩ := wdH_wit (n := n) (c := c) (hi := hi) (t := t) (i := 0) rfl (by omega)
  have a := H0 k (by omega)
  rw [e1]
  by_cases h : 0 + k = n
  ·rw [if_pos h]; have := a.2.2 (by omega); omega
  ·rw [if_neg h]; omega
theorem slN_brings {n : Nat} {c : Nat -> Int} {lo hi t : Int} (hlh : lo <= hi) (t0 : 0 <= t) (h : slB n c lo hi t = true) : Brings n c (slN n c lo hi t) lo hi t := by
 obtain ⟨h1, h2, h3⟩ := slB_t.1 h
 have h4 : ∀ i, i <= n -> wdL n c lo t i <= wdH n c hi t i := fun i hi' => by
  by_cases e : i = n
  ·subst e; rw [wdL_n, wdH_n]; omega
  ·exact h1 i (by omega)
 have hin : ∀ i, i <= n -> wdL n c lo t i <= slN n c lo hi t i /\ slN n c lo hi t i <= wdH n c hi t i := by
  intro i
  induction i with
  | zero => intro _; rw [slN_zero]; exact ⟨h2, h3⟩
  | succ i ih =>
    intro hi'
    have ih := ih (by omega)
    have a := h4 (i + 1) hi'
    have b := wdH_at (c := c) (hi := hi) (t := t) (n := n) (i := i) (by omega)
    rw [slN_succ]; omega
 have hb : ∀ i, i < n -> -t <= wdL n c lo t i /\ wdH n c hi t i <= t := fun i hi' => by
  rw [wdL_at hi', wdH_at hi']; omega
 refine ⟨slN_zero .., ?_, fun i hi' => ?_, fun i hi' => ?_⟩
 ·have := hin n (Nat.le_refl _)
  rw [wdL_n, wdH_n] at this; omega
 ·by_cases e : i = n
  ·have := hin n (Nat.le_refl _)
   rw [wdL_n, wdH_n] at this
   subst e; omega
  ·have a := hin i hi'
   have b := hb i (by omega)
   omega
 ·have a := hin i (by omega)
  have b := wdL_at (c := c) (lo := lo) (t := t) (n := n) (i := i) hi'
  have d := slN_succ n c lo hi t i
  omega
theorem slB_iff {n : Nat} {c : Nat -> Int} {lo hi t : Int} (hlh : lo <= hi) (t0 : 0 <= t) (hn : 0 < n) : slB n c lo hi t = true ↔ posB n c lo hi = true /\ ∀ a b, a <= b -> b < n -> ndN n c lo hi a b <= t := by
 constructor
 ·intro h
  have hb := slN_brings hlh t0 h
  have key : ∀ a b, a <= b -> b < n -> ndN n c lo hi a b <= t /\ (endsN n a b = 0 -> ndB n c lo hi a b = true) := fun a b h1 h2 => exc_nd t0 h1 (brings_exc hb t0 h1 h2)
  exact ⟨(pos_whole hn).2 ((key 0 (n - 1) (by omega) (by omega)).2 (by rw [endsN_eq, if_neg (by omega), if_neg (by omega)]; rfl)), fun a b h1 h2 => (key a b h1 h2).1⟩
 ·rintro ⟨h1, h2⟩
  refine slB_of hlh t0 hn fun a b hab hb => nd_exc hab (h2 a b hab hb) fun e => ?_
  rw [endsN_eq] at e
  have : a = 0 /\ b = n - 1 := by
   by_cases x : 0 < a
   ·rw [if_pos x] at e; split at e <;> omega
   ·rw [if_neg x] at e
    split at e
    ·omega
    ·omega
  rw [this.1, this.2]; exact (pos_whole hn).1 h1
def seen (n a k x y : Nat) : Prop := x <= y /\ y < n /\ (x < a \/ x = a /\ y < a + k)
structure QInv (n : Nat) (c : Nat -> Int) (lo hi : Int) (a k x y : Nat) : Prop where
 F : qF n c lo hi a k = x
 O : qO n c lo hi a k = y
 s : seen n a k x y
 t : qT n c lo hi a k = ndN n c lo hi x y
 le : ∀ x' y', seen n a k x' y' -> ndN n c lo hi x' y' <= ndN n c lo hi x y
 lt : ∀ x' y', seen n a k x' y' -> (x' < x \/ x' = x /\ y' < y) -> ndN n c lo hi x' y' < ndN n c lo hi x y
theorem qInv_step {n : Nat} {c : Nat -> Int} {lo hi : Int} {a k : Nat} (hk : a + k < n) (h : (∃ x y, QInv n c lo hi a k x y) \/ (a = 0 /\ k = 0)) : ∃ x y, QInv n c lo hi a (k + 1) x y := by
 by_cases hy : qT n c lo hi a k < ndN n c lo hi a (a + k) \/ a + (a + k) = 0
 ·obtain ⟨y1, y2, y3⟩ := qAt_yes hy
  refine ⟨a, a + k, y2, by rw [y3]; simp, ⟨by omega, hk, .inr ⟨rfl, by omega⟩⟩, y1, fun x' y' hs => ?_, fun x' y' hs hb => ?_⟩
  ·rcases h with ⟨x, y, q⟩ | ⟨rfl, rfl⟩
   ·by_cases e : x' = a /\ y' = a + k
    ·rw [e.1, e.2]; exact Int.le_refl _
    ·have := q.le x' y' ⟨hs.1, hs.2.1, by have := hs.2.2; omega⟩
     have := q.t
     rcases hy with hy | hy
     ·omega
     ·exfalso
      have := q.s.2.2; omega
   ·obtain ⟨s1, s2, s3⟩ := hs
    have : x' = 0 /\ y' = 0 := by omega
    rw [this.1, this.2]; exact Int.le_refl _
  ·rcases h with ⟨x, y, q⟩ | ⟨rfl, rfl⟩
   ·have := q.le x' y' ⟨hs.1, hs.2.1, by have := hs.2.2; omega⟩
    have := q.t
    rcases hy with hy | hy
    ·omega
    ·exfalso
     have := q.s.2.2; omega
   ·obtain ⟨s1, s2, s3⟩ := hs
    omega
 ·obtain ⟨y1, y2, y3⟩ := qAt_no hy
  rcases h with ⟨x, y, q⟩ | ⟨rfl, rfl⟩
  ·have hqs := q.s.2.2
   refine ⟨x, y, by rw [y2]; exact q.F, by rw [y3]; exact q.O, ⟨q.s.1, q.s.2.1, by omega⟩, by rw [y1]; exact q.t, fun x' y' hs => ?_, fun x' y' hs hb => ?_⟩
   ·by_cases e : x' = a /\ y' = a + k
    ·have := q.t
     rw [e.1, e.2]; omega
    ·exact q.le x' y' ⟨hs.1, hs.2.1, by have := hs.2.2; omega⟩
   ·exact q.lt x' y' ⟨hs.1, hs.2.1, by have := hs.2.2; omega⟩ hb
  ·exfalso; omega
theorem qInv {n : Nat} {c : Nat -> Int} {lo hi : Int} (hn : 0 < n) : ∀ a : Nat, a <= n -> (∃ x y, QInv n c lo hi a 0 x y) \/ a = 0
 | 0, _ => .inr rfl
 | a + 1, ha => by
   have ih := qInv (c := c) (lo := lo) (hi := hi) hn a (by omega)
   have key : ∀ k, a + k <= n -> (∃ x y, QInv n c lo hi a k x y) \/ (a = 0 /\ k = 0) := by
    intro k
    induction k with
    | zero => intro _; exact ih.imp id fun e => ⟨e, rfl⟩
    | succ k ihk => intro hk; exact .inl (qInv_step (by omega) (ihk (by omega)))
   obtain ⟨x, y, q⟩ := (key (n - a) (by omega)).resolve_right (by omega)
   obtain ⟨e1, e2, e3⟩ := qAt_row n c lo hi a
   refine .inl ⟨x, y, by rw [e2]; exact q.F, by rw [e3]; exact q.O, ⟨q.s.1, q.s.2.1, .inl (by have := q.s.2.2; omega)⟩, by rw [e1]; exact q.t, fun x' y' hs => q.le x' y' ⟨hs.1, hs.2.1, by have := hs.2.2; have := hs.1; have := hs.2.1; omega⟩, fun x' y' hs hb => q.lt x' y' ⟨hs.1, hs.2.1, by have := hs.2.2; have := hs.1; have := hs.2.1; omega⟩ hb⟩
structure QMax (n : Nat) (c : Nat -> Int) (lo hi : Int) (x y : Nat) : Prop where
 F : qF n c lo hi n 0 = x
 O : qO n c lo hi n 0 = y
 xy : x <= y
 yn : y < n
 t : qckT n c lo hi = ndN n c lo hi x y
 le : ∀ a b, a <= b -> b < n -> ndN n c lo hi a b <= ndN n c lo hi x y
 lt : ∀ a b, a <= b -> b < n -> (a < x \/ a = x /\ b < y) -> ndN n c lo hi a b < ndN n c lo hi x y
theorem qMax {n : Nat} {c : Nat -> Int} {lo hi : Int} (hn : 0 < n) : ∃ x y, QMax n c lo hi x y := by
 obtain ⟨x, y, q⟩ := (qInv (c := c) (lo := lo) (hi := hi) hn n (Nat.le_refl _)).resolve_right (by omega)
 refine ⟨x, y, q.F, q.O, q.s.1, q.s.2.1, by rw [qckT_eq']; exact q.t, fun a b h1 h2 => q.le a b ⟨h1, h2, .inl (by omega)⟩, fun a b h1 h2 h3 => q.lt a b ⟨h1, h2, .inl (by omega)⟩ h3⟩
theorem slB_q {n : Nat} {c : Nat -> Int} {lo hi t : Int} (hlh : lo <= hi) (t0 : 0 <= t) (hn : 0 < n) : slB n c lo hi t = true ↔ posB n c lo hi = true /\ qckT n c lo hi <= t := by
 obtain ⟨x, y, q⟩ := qMax (c := c) (lo := lo) (hi := hi) hn
 rw [slB_iff hlh t0 hn, q.t]
 exact ⟨fun h => ⟨h.1, h.2 x y q.xy q.yn⟩, fun h => ⟨h.1, fun a b h1 h2 => Int.le_trans (q.le a b h1 h2) h.2⟩⟩
end Abs
end Go.Proofs.Ytdhbbdljiidgiaa

namespace Go.Proofs.Ytdhbbdljiidgiaa
namespace Abs
open Go Go.RowKit
noncomputable section
def rbdS : Spec [inSh, .int .i64, .int .i64] := ⟨fun _ => True, fun ((n, el), (lo : Int), (hi : Int), _) => .si .i64 (bdE n (fun k => (el k).1) lo hi)⟩
set_option maxRecDepth 100000 in
theorem rbd_ok : FnSpec Try.prog 52 _ rbdS := by
 refine FnSpec.of SH4_ok mixed (U := 0) (I := fun _ => []) Try.func52 rfl (by kernel_rfl) rfl rfl (by decide +kernel) ?_
 rintro ⟨⟨n, el⟩, (lo : Int), (hi : Int), ⟨⟩⟩ -
 obtain ⟨c, rfl⟩ : ∃ c : Nat -> Int, el = fun k => (c k, ()) := ⟨fun k => (el k).1, rfl⟩
 unfold FnSat
 conv => arg 2; reduce
 simp [rbdS, lvS, and_assoc]
 have e : (fun k => c k) = c := rfl
 simp only [e]
 refine ⟨fun h => (bdE_lv h).symm, fun h => ?_⟩
 refine ⟨fun h' => (bdE_2 h (by omega)).symm, fun a b d => (bdE_0.2 ⟨h, a, b, d⟩).symm⟩
def rpoS : Spec [inSh, .int .i64, .int .i64] := ⟨fun ((n, el), (lo : Int), (hi : Int), _) => n <= 16 /\ 0 <= lo /\ lo <= 100 /\ 0 <= hi /\ hi <= 100 /\ ∀ k, k < n -> 0 <= (el k).1 /\ (el k).1 <= 100, fun ((n, el), (lo : Int), (hi : Int), _) => .sb (posB n (fun k => (el k).1) lo hi)⟩
def rpoI : DatL [inSh, .int .i64, .int .i64] -> Anns := fun ((n, el), (lo : Int), (hi : Int), _) => [
 (3, [], fun fr hp => ⟨Nat, fun g => ⟨frI [.k 7, .s (.si .i64 (sumN (fun k => (el k).1) g)), .s (.si .i64 (icast g)), .t 26] fr, hp⟩, Nat × Nat, fun g => (n, g), fun (n, g) => g <= n, fun g => nsub n g⟩)]
set_option maxRecDepth 100000 in
theorem rpo_ok : FnSpec Try.prog 72 _ rpoS := by
 refine FnSpec.of SH4_ok mixed (U := 0) (I := rpoI) Try.func72 rfl (by kernel_rfl) rfl rfl (by decide +kernel) ?_
 rintro ⟨⟨n, el⟩, (lo : Int), (hi : Int), ⟨⟩⟩ ⟨(hn : n <= 16), (h1 : 0 <= lo), (h2 : lo <= 100), (h3 : 0 <= hi), (h4 : hi <= 100), (h5 : ∀ k, k < n -> 0 <= (el k).1 /\ (el k).1 <= 100)⟩
 obtain ⟨c, rfl⟩ : ∃ c : Nat -> Int, el = fun k => (c k, ()) := ⟨fun k => (el k).1, rfl⟩
 have h5 : ∀ k, k < n -> 0 <= c k /\ c k <= 100 := h5
 unfold FnSat
 conv => arg 2; reduce
 simp [rpoS, ElEq, getB, goneB, aliveB, and_assoc]
 have e : (fun k => c k) = c := rfl
 simp only [e]
 have q1 : ∀ z : Int, 0 <= z -> z <= 100 -> 0 <= z * (n : Int) /\ z * (n : Int) <= 1600 := fun z z0 z1 => by
  have := Int.mul_nonneg z0 (Int.natCast_nonneg n)
  have h2 : z * (n : Int) <= 100 * (n : Int) := Int.mul_le_mul_of_nonneg_right z1 (Int.natCast_nonneg n)
  omega
 have q2 := q1 lo h1 h2
 have q3 := q1 hi h3 h4
 refine ⟨⟨0, by simp, rfl, by omega⟩, fun g hg => ⟨fun hlt => ?_, fun hge => ?_⟩⟩
 ·have a1 := h5 g hlt
  have a2 := sumN_in (c := c) (M := 100) (n := g) fun k hk => by have := h5 k (by omega); omega
  exact ⟨hlt, by omega, by omega, by omega, by omega, g + 1, by simp, by omega, by omega, by omega⟩
 ·obtain rfl : g = n := by omega
  exact ⟨by omega, by omega, fun _ => by omega, rfl⟩
noncomputable def SI1 : Sums := ⟨(72, mkSum _ rpoS) :: (52, mkSum _ rbdS) :: SH4.one, SH4.two, SH4.lo, SH4.eqs, SH4.its, SH4.imm⟩
theorem SI1_ok : SumsOK Try.prog SI1 := ((SH4_ok.cons Try.func52 (by kernel_rfl) (by kernel_rfl) rbd_ok).cons Try.func72 (by kernel_rfl) (by kernel_rfl) rpo_ok)
noncomputable def SI2 : Sums := ⟨SI1.one, SI1.two, SI1.lo, SI1.eqs, SI1.its, SI1.imm⟩
theorem SI2_ok : SumsOK Try.prog SI2 := SI1_ok
noncomputable def SI3 : Sums := ⟨SI2.one, SI2.two, SI2.lo, SI2.eqs, SI2.its, SI2.imm⟩
theorem SI3_ok : SumsOK Try.prog SI3 := SI2_ok
@[irreducible] def ibX (x : Nat -> Int) (lo hi : Int) (k : Nat) : Bool := !(isIn lo (x k) hi)
theorem ibX_f {x : Nat -> Int} {lo hi : Int} {k : Nat} : ibX x lo hi k = false ↔ lo <= x k /\ x k <= hi := by unfold ibX; simp
@[irreducible] def ibB (n : Nat) (x : Nat -> Int) (lo hi : Int) : Bool := !(anyN (ibX x lo hi) n)
theorem ibB_t {n : Nat} {x : Nat -> Int} {lo hi : Int} : ibB n x lo hi = true ↔ ∀ k, k < n -> lo <= x k /\ x k <= hi := by
 unfold ibB
 rw [Bool.not_eq_true', anyN_false]
 exact ⟨fun h k hk => ibX_f.1 (h k hk), fun h k hk => ibX_f.2 (h k hk)⟩
theorem ibB_f {n k : Nat} {x : Nat -> Int} {lo hi : Int} (hk : k < n) (h : x k < lo \/ hi < x k) : ibB n x lo hi = false := by
 cases h' : ibB n x lo hi with
 | false => rfl
 | true => have := ibB_t.1 h' k hk; omega
theorem ibB_fit (n : Nat) (c : Nat -> Int) (m : Nat) (f : Nat -> Int) (lo hi : Int) : ibB n (fun k => bhV c m f k) lo hi = fitB n c m f lo hi := by
 cases h : fitB n c m f lo hi with
 | true => exact ibB_t.2 (fitB_t.1 h)
 | false =>
   cases h' : ibB n (fun k => bhV c m f k) lo hi with
   | false => rfl
   | true => rw [fitB_t.2 (ibB_t.1 h')] at h; cases h
def ribS : Spec [inSh, .int .i64, .int .i64] := ⟨fun ((n, _), _) => n <= 4611686018427387904, fun ((n, x), (lo : Int), (hi : Int), _) => .sb (ibB n (fun k => (x k).1) lo hi)⟩
def ribI : DatL [inSh, .int .i64, .int .i64] -> Anns := fun ((n, x), (lo : Int), (hi : Int), _) => [
 (2, [], fun fr hp => ⟨Nat, fun g => ⟨frI [.k 7, .s (.si .i64 (icast g)), .t 20] fr, hp⟩, Nat × Nat × (Nat -> Bool), fun g => (n, g, ibX (fun k => (x k).1) lo hi), fun (n, g, p) => g <= n /\ ∀ k, k < g -> p k = false, fun g => nsub n g⟩)]
set_option maxRecDepth 100000 in
theorem rib_ok : FnSpec Try.prog 54 _ ribS := by
 refine FnSpec.of SI3_ok mixed (U := 0) (I := ribI) Try.func54 rfl (by kernel_rfl) rfl rfl (by decide +kernel) ?_
 rintro ⟨⟨n, x'⟩, (lo : Int), (hi : Int), ⟨⟩⟩ (hn : n <= 4611686018427387904)
 obtain ⟨x, rfl⟩ : ∃ x : Nat -> Int, x' = fun k => (x k, ()) := ⟨fun k => (x' k).1, rfl⟩
 unfold FnSat
 conv => arg 2; reduce
 simp [ribS, ElEq, getB, goneB, aliveB, and_assoc]
 have e1 : (fun k => x k) = x := rfl
 simp only [e1]
 have nx : ∀ g, (∀ k, k < g -> ibX x lo hi k = false) -> lo <= x g -> x g <= hi -> ∀ k, k < g + 1 -> ibX x lo hi k = false := fun g hall a b k hk => by
  by_cases e : k = g
  ·subst e; exact ibX_f.2 ⟨a, b⟩
  ·exact hall k (by omega)
 exact ⟨⟨0, rfl, by omega, fun k hk => by omega⟩, fun g hg hall => ⟨fun hlt => ⟨hlt, fun _ => hlt, fun hb => ibB_f hlt hb, fun a b => ⟨by omega, by omega, g + 1, by omega, by omega, nx g hall a b, by omega⟩⟩, fun hge => ibB_t.2 fun k hk => ibX_f.1 (hall k (by omega))⟩⟩
def rmvS : Spec [inSh] := ⟨fun ((m, f), _) => m <= 30 /\ ∀ k, k < m -> -2000 <= (f k).1 /\ (f k).1 <= 2000, fun ((m, f), _) => .si .i64 (movN (fun k => (f k).1) m)⟩
def rmvI : DatL [inSh] -> Anns := fun ((m, f), _) => [
 (3, [], fun fr hp => ⟨Nat, fun g => ⟨frI [.k 3, .s (.si .i64 (movN (fun k => (f k).1) g)), .s (.si .i64 (icast g)), .t 13] fr, hp⟩, Nat × Nat, fun g => (m, g), fun (m, g) => g <= m, fun g => nsub m g⟩)]
set_option maxRecDepth 100000 in
theorem rmv_ok : FnSpec Try.prog 16 _ rmvS := by
 refine FnSpec.of SI3_ok mixed (U := 0) (I := rmvI) Try.func16 rfl (by kernel_rfl) rfl rfl (by decide +kernel) ?_
 rintro ⟨⟨m, f'⟩, ⟨⟩⟩ ⟨(hm : m <= 30), (h : ∀ k, k < m -> -2000 <= (f' k).1 /\ (f' k).1 <= 2000)⟩
 obtain ⟨f, rfl⟩ : ∃ f : Nat -> Int, f' = fun k => (f k, ()) := ⟨fun k => (f' k).1, rfl⟩
 have h : ∀ k, k < m -> -2000 <= f k /\ f k <= 2000 := h
 unfold FnSat
 conv => arg 2; reduce
 simp [rmvS, amS, ElEq, getB, goneB, aliveB, and_assoc]
 have e : (fun k => f k) = f := rfl
 simp only [e]
 exact ⟨⟨0, by simp, rfl, by omega⟩, fun g hg => ⟨fun hlt => by
  have a := h g hlt
  have b := movN_in (f := f) (M := 2000) (m := g) fun k hk => h k (by omega)
  exact ⟨hlt, by omega, by omega, by omega, by omega, by omega, by omega, g + 1, by simp, by omega, by omega, by omega⟩, fun hge => by rw [show g = m by omega]⟩⟩
noncomputable def SI4 : Sums := ⟨(16, mkSum _ rmvS) :: (54, mkSum _ ribS) :: SI3.one, SI3.two, SI3.lo, SI3.eqs, SI3.its, SI3.imm⟩
theorem SI4_ok : SumsOK Try.prog SI4 := ((SI3_ok.cons Try.func54 (by kernel_rfl) (by kernel_rfl) rib_ok).cons Try.func16 (by kernel_rfl) (by kernel_rfl) rmv_ok)
noncomputable def SI5 : Sums := ⟨SI4.one, SI4.two, SI4.lo, SI4.eqs, SI4.its, SI4.imm⟩
theorem SI5_ok : SumsOK Try.prog SI5 := SI4_ok
end
end Abs
end Go.Proofs.Ytdhbbdljiidgiaa

namespace Go.Proofs.Ytdhbbdljiidgiaa
namespace Abs
open Go Go.RowKit
theorem tckN_ge {f : Nat -> Int} : ∀ {m k : Nat}, k < m -> amt (f k) <= tckN f m
 | 0, k, h => by omega
 | m + 1, k, h => by
   rw [tckN_succ]
   by_cases e : k = m
   ·subst e; omega
   ·have := tckN_ge (f := f) (show k < m by omega); omega
theorem tckN_nn {f : Nat -> Int} : ∀ {m : Nat}, 0 <= tckN f m
 | 0 => by simp
 | m + 1 => by have := tckN_nn (f := f) (m := m); rw [tckN_succ]; omega
theorem tckN_le {f : Nat -> Int} {M : Int} (h0 : 0 <= M) : ∀ {m : Nat}, (∀ k, k < m -> -M <= f k /\ f k <= M) -> tckN f m <= M := fun h => (tckN_in h0 h).2
theorem fit_brings {n : Nat} {c f : Nat -> Int} {lo hi : Int} (hn : 0 < n) (h : fitB n c (n - 1) f lo hi = true) : Brings n c (inAt (n - 1) f) lo hi (tckN f (n - 1)) := by
 have h1 := fitB_t.1 h
 have hb : ∀ i, -(tckN f (n - 1)) <= flAt (n - 1) f i /\ flAt (n - 1) f i <= tckN f (n - 1) := fun i => by
  have h0 := tckN_nn (f := f) (m := n - 1)
  by_cases hi' : i < n - 1
  ·have := tckN_ge (f := f) hi'
   rw [amt_eq] at this
   rw [flAt_in hi']; omega
  ·rw [flAt_out (by omega)]; omega
 refine ⟨inAt_zero .., ?_, fun i hi' => ?_, fun i hi' => ?_⟩
 ·obtain ⟨k, rfl⟩ : ∃ k, n = k + 1 := ⟨n - 1, by omega⟩
  rw [inAt_succ, flAt_out (by omega)]
 ·cases i with
  | zero => rw [inAt_zero]; have := tckN_nn (f := f) (m := n - 1); omega
  | succ i => rw [inAt_succ]; exact hb i
 ·have := h1 i hi'
  rw [bhV_eq] at this
  rw [inAt_succ]; exact this
theorem fit_nd {n : Nat} {c f : Nat -> Int} {lo hi : Int} (h : fitB n c (n - 1) f lo hi = true) {a b : Nat} (hab : a <= b) (hb : b < n) : ndN n c lo hi a b <= tckN f (n - 1) /\ ndB n c lo hi a b = true := by
 have hB := brings_exc (fit_brings (by omega) h) tckN_nn hab hb
 have k := exc_nd tckN_nn hab hB
 refine ⟨k.1, ?_⟩
 by_cases e : endsN n a b = 0
 ·exact k.2 e
 ·exact ndB_n e
structure QPlan (n : Nat) (c : Nat -> Int) (lo hi : Int) : Prop where
 L : qckL n c lo hi = n - 1
 b : ∀ k, k < n - 1 -> -1600 <= qckF n c lo hi k /\ qckF n c lo hi k <= 1600
 fit : fitB n c (n - 1) (qckF n c lo hi) lo hi = true
 t : tckN (qckF n c lo hi) (n - 1) = qckT n c lo hi
 tb : 0 <= qckT n c lo hi /\ qckT n c lo hi <= 1600
theorem few_split {n : Nat} {c : Nat -> Int} {lo hi : Int} (h : fewE n c lo hi = 0) : (0 < n /\ n <= 16 /\ ∀ k, k < n -> 0 <= c k /\ c k <= 100) /\ 0 <= lo /\ lo <= hi /\ hi <= 100 /\ posB n c lo hi = true := by
 obtain ⟨hb, hp⟩ := fewE_0.1 h
 obtain ⟨hl, b1, b2, b3⟩ := bdE_0.1 hb
 obtain ⟨l1, l2, l3⟩ := lvE_0.1 hl
 exact ⟨⟨by omega, l2, l3⟩, b1, b2, b3, hp⟩
theorem qPlan {n : Nat} {c : Nat -> Int} {lo hi : Int} (h : fewE n c lo hi = 0) : QPlan n c lo hi := by
 obtain ⟨⟨l1, l2, l3⟩, b1, b2, b3, hp⟩ := few_split h
 have hq := qAt_in (c := c) (lo := lo) (hi := hi) l2 l3 b1 (by omega) (by omega) b3 n 0 (fun _ => by omega) (Nat.le_refl _) (fun _ => rfl)
 rw [<- qckT_eq] at hq
 have hs : slB n c lo hi (qckT n c lo hi) = true := (slB_q b2 hq.1 l1).2 ⟨hp, Int.le_refl _⟩
 have hB := slN_brings b2 hq.1 hs
 have hF : ∀ k, qckF n c lo hi k = slN n c lo hi (qckT n c lo hi) (k + 1) := fun k => by unfold qckF; rw [slF_eq]
 have hI : ∀ i, i <= n -> inAt (n - 1) (qckF n c lo hi) i = slN n c lo hi (qckT n c lo hi) i := fun i hi' => by
  cases i with
  | zero => rw [inAt_zero, slN_zero]
  | succ i =>
    rw [inAt_succ]
    by_cases e : i < n - 1
    ·rw [flAt_in e, hF]
    ·rw [flAt_out (by omega), show i + 1 = n by omega, hB.zn]
 have hfit : fitB n c (n - 1) (qckF n c lo hi) lo hi = true := fitB_t.2 fun k hk => by
  have := hB.l k hk
  rw [bhV_eq, <- inAt_succ, hI k (by omega), hI (k + 1) (by omega)]; exact this
 have hb : ∀ k, k < n - 1 -> -(qckT n c lo hi) <= qckF n c lo hi k /\ qckF n c lo hi k <= qckT n c lo hi := fun k hk => by rw [hF]; exact hB.b (k + 1) (by omega)
 obtain ⟨x, y, q⟩ := qMax (c := c) (lo := lo) (hi := hi) l1
 have h1 := (fit_nd hfit q.xy q.yn).1
 rw [<- q.t] at h1
 have h2 := tckN_le hq.1 hb
 exact ⟨by unfold qckL; rw [okN_0 h, slL_t hs], fun k hk => by have := hb k hk; omega, hfit, by omega, hq⟩
end Abs
end Go.Proofs.Ytdhbbdljiidgiaa

namespace Go.Proofs.Ytdhbbdljiidgiaa
namespace Abs
open Go Go.RowKit
noncomputable section
noncomputable def SJ1 : Sums := ⟨SI5.one, SI5.two, SI5.lo, SI5.eqs, SI5.its, SI5.imm⟩
theorem SJ1_ok : SumsOK Try.prog SJ1 := SI5_ok
end
end Abs
end Go.Proofs.Ytdhbbdljiidgiaa

namespace Go.Proofs.Ytdhbbdljiidgiaa
namespace Abs
open Go
end Abs
end Go.Proofs.Ytdhbbdljiidgiaa

namespace Go.Proofs.Ytdhbbdljiidgiaa
namespace Abs
open Go Go.RowKit
noncomputable section
end
end Abs
end Go.Proofs.Ytdhbbdljiidgiaa

namespace Go.Proofs.Ytdhbbdljiidgiaa
namespace Abs
open Go Go.RowKit
noncomputable section
end
end Abs
end Go.Proofs.Ytdhbbdljiidgiaa

namespace Go.Proofs.Ytdhbbdljiidgiaa
namespace Abs
open Go Go.RowKit
end Abs
end Go.Proofs.Ytdhbbdljiidgiaa

namespace Go.Proofs.Ytdhbbdljiidgiaa
namespace Abs
open Go Go.RowKit
noncomputable section
end
end Abs
end Go.Proofs.Ytdhbbdljiidgiaa

namespace Go.Proofs.Ytdhbbdljiidgiaa
namespace Abs
open Go Go.RowKit
theorem bstN_le {c0 f lo : Int} {nx : Nat -> Int} {o : Int} : ∀ {d e : Nat}, e < d -> o = c0 + f - (lo + e) -> -1600 <= o -> o <= 1600 -> bstN c0 f lo nx d <= max o (-o) + nx (o + 1600).toNat
 | 0, e, h, _, _, _ => by omega
 | d + 1, e, h, ho, h1, h2 => by
   by_cases he : e = d
   ·subst he; rw [bstN_in ho h1 h2]; omega
   ·have ih := bstN_le (c0 := c0) (f := f) (lo := lo) (nx := nx) (d := d) (e := e) (by omega) ho h1 h2
    by_cases hc : -1600 <= c0 + f - (lo + d) /\ c0 + f - (lo + d) <= 1600
    ·rw [bstN_in rfl hc.1 hc.2]; omega
    ·rw [bstN_out rfl (by omega)]; exact ih
theorem bstN_at {c0 f lo : Int} {nx : Nat -> Int} : ∀ {d : Nat}, bstN c0 f lo nx d < 1073741824 -> ∃ e, e < d /\ (-1600 <= c0 + f - (lo + e) /\ c0 + f - (lo + e) <= 1600) /\ bstN c0 f lo nx d = max (c0 + f - (lo + e)) (-(c0 + f - (lo + e))) + nx (c0 + f - (lo + e) + 1600).toNat
 | 0, h => by rw [bstN_zero] at h; omega
 | d + 1, h => by
   by_cases hc : -1600 <= c0 + f - (lo + d) /\ c0 + f - (lo + d) <= 1600
   ·have e := bstN_in (nx := nx) (d := d) rfl hc.1 hc.2
    by_cases hm : bstN c0 f lo nx d <= max (c0 + f - (lo + d)) (-(c0 + f - (lo + d))) + nx (c0 + f - (lo + d) + 1600).toNat
    ·have e2 : bstN c0 f lo nx (d + 1) = bstN c0 f lo nx d := by rw [e]; omega
     obtain ⟨x, h1, h2, h3⟩ := bstN_at (c0 := c0) (f := f) (lo := lo) (nx := nx) (d := d) (by omega)
     exact ⟨x, by omega, h2, by rw [e2]; exact h3⟩
    ·exact ⟨d, by omega, hc, by rw [e]; omega⟩
   ·have e := bstN_out (nx := nx) (d := d) rfl (show c0 + f - (lo + d) < -1600 \/ 1600 < c0 + f - (lo + d) by omega)
    rw [e] at h
    obtain ⟨x, h1, h2, h3⟩ := bstN_at (c0 := c0) (f := f) (lo := lo) (nx := nx) (d := d) h
    exact ⟨x, by omega, h2, by rw [e]; exact h3⟩
def movF (F : Nat -> Int) (i : Nat) : Nat -> Int
 | 0 => 0
 | d + 1 => max (F (i + 1)) (-(F (i + 1))) + movF F (i + 1) d
theorem movF_sum {F : Nat -> Int} : ∀ {d i : Nat}, movF F i (d + 1) = movF F i d + max (F (i + d + 1)) (-(F (i + d + 1)))
 | 0, i => by simp [movF]
 | d + 1, i => by
   rw [movF, movF_sum (d := d) (i := i + 1), show movF F i (d + 1) = max (F (i + 1)) (-(F (i + 1))) + movF F (i + 1) d from rfl, show i + 1 + d + 1 = i + (d + 1) + 1 by omega]
   omega
theorem movF_nn {F : Nat -> Int} : ∀ {d i : Nat}, 0 <= movF F i d
 | 0, i => by simp [movF]
 | d + 1, i => by have := movF_nn (F := F) (d := d) (i := i + 1); rw [movF]; omega
theorem tab_endT {n : Nat} {c : Nat -> Int} {lo hi : Int} : tab n c lo hi n 1600 = 0 := by rw [tab_end]; unfold endT; simp
theorem tab_endN {n : Nat} {c : Nat -> Int} {lo hi : Int} {o : Int} (h : o ≠ 0) (h1 : -1600 <= o) (h2 : o <= 1600) : tab n c lo hi n (o + 1600).toNat = 1073741824 := by
 rw [tab_end]; unfold endT; rw [if_pos (by omega), if_neg (by omega)]
theorem tab_le {n : Nat} {c F : Nat -> Int} {lo hi t : Int} (h : Brings n c F lo hi t) (ht : t <= 1600) : ∀ {d i : Nat}, n - i = d -> i <= n -> tab n c lo hi i (F i + 1600).toNat <= movF F i d
 | 0, i, e, hi' => by
   obtain rfl : i = n := by omega
   rw [h.zn, show (0 + 1600 : Int).toNat = 1600 by rfl, tab_endT, movF]; exact Int.le_refl _
 | d + 1, i, e, hi' => by
   have ih := tab_le h ht (d := d) (i := i + 1) (by omega) (by omega)
   have hb := h.b i hi'
   have hb2 := h.b (i + 1) (by omega)
   have hl := h.l i (by omega)
   have ek : (((F i + 1600).toNat : Nat) : Int) - 1600 = F i := by omega
   rw [tab_at (by omega) (by omega), movF, ek]
   have key := bstN_le (c0 := c i) (f := F i) (lo := lo) (nx := tab n c lo hi (i + 1)) (o := F (i + 1)) (d := (hi - lo + 1).toNat) (e := (c i + F i - F (i + 1) - lo).toNat) (by omega) (by omega) (by omega) (by omega)
   omega
structure FPlan (n : Nat) (c : Nat -> Int) (lo hi : Int) (k : Nat) : Prop where
 s : movF (fwN n c lo hi) 0 k + tab n c lo hi k (fwN n c lo hi k + 1600).toNat = tab n c lo hi 0 1600
 l : ∀ i, i < k -> lo <= c i + fwN n c lo hi i - fwN n c lo hi (i + 1) /\ c i + fwN n c lo hi i - fwN n c lo hi (i + 1) <= hi
theorem fPlan {n : Nat} {c : Nat -> Int} {lo hi : Int} (hlh : lo <= hi) (h : tab n c lo hi 0 1600 < 1073741824) : ∀ k : Nat, k + 1 <= n -> FPlan n c lo hi k
 | 0, _ => ⟨by rw [movF, fwN_zero, show (0 + 1600 : Int).toNat = 1600 by rfl]; omega, fun i hi' => by omega⟩
 | k + 1, hk => by
   have ih := fPlan (n := n) (c := c) hlh h k (by omega)
   have hm := movF_nn (F := fwN n c lo hi) (d := k) (i := 0)
   have hF := fwN_in (n := n) (c := c) (lo := lo) (hi := hi) k
   have hs := ih.s
   have ek : (((fwN n c lo hi k + 1600).toNat : Nat) : Int) - 1600 = fwN n c lo hi k := by omega
   have hta := tab_at (n := n) (c := c) (lo := lo) (hi := hi) (i := k) (k := (fwN n c lo hi k + 1600).toNat) (by omega) (by omega)
   rw [ek] at hta
   obtain ⟨e, he, hin, hv⟩ := bstN_at (c0 := c k) (f := fwN n c lo hi k) (lo := lo) (nx := tab n c lo hi (k + 1)) (d := (hi - lo + 1).toNat) (by omega)
   have hw := wid_eq lo hi
   have hfk := fwK_eq n c lo hi k (fwN n c lo hi k)
   have hlt : fwK n c lo hi k (fwN n c lo hi k) < wid lo hi := by
    have hle := firstN_le (fwB n c lo hi k (fwN n c lo hi k)) (wid lo hi)
    rcases Nat.lt_or_ge (fwK n c lo hi k (fwN n c lo hi k)) (wid lo hi) with hh | hh
    ·exact hh
    ·have hno := firstN_not (fwB n c lo hi k (fwN n c lo hi k)) (wid lo hi) ((hi - lo).toNat - e) (by omega)
     have hyes : fwB n c lo hi k (fwN n c lo hi k) ((hi - lo).toNat - e) = true := (fwB_iff (o := c k + fwN n c lo hi k - (lo + e)) (by omega)).2 ⟨hin, by rw [hta, hv]⟩
     rw [hyes] at hno; cases hno
   have hB := firstN_is (fwB n c lo hi k (fwN n c lo hi k)) (wid lo hi) (by omega)
   rw [<- hfk] at hB
   have hS : fwN n c lo hi (k + 1) = c k + fwN n c lo hi k - (hi - fwK n c lo hi k (fwN n c lo hi k)) := by rw [fwN_succ]; exact fwS_at (Nat.le_refl _) hlt hB
   obtain ⟨b1, b2⟩ := (fwB_iff rfl).1 hB
   rw [<- hS] at b1 b2
   refine ⟨?_, fun i hi' => ?_⟩
   ·rw [movF_sum, Nat.zero_add]; omega
   ·by_cases hik : i = k
    ·subst hik; omega
    ·exact ih.l i (by omega)
structure FBest (n : Nat) (c : Nat -> Int) (lo hi : Int) : Prop where
 fit : fitB n c (n - 1) (fwF n c lo hi) lo hi = true
 le : ∀ f, fitB n c (n - 1) f lo hi = true -> movN (fwF n c lo hi) (n - 1) <= movN f (n - 1)
 t : movN (fwF n c lo hi) (n - 1) = tab n c lo hi 0 1600
 z : tab n c lo hi (n - 1) (fwN n c lo hi (n - 1) + 1600).toNat = 0
theorem movN_movF {f : Nat -> Int} {F : Nat -> Int} : ∀ {m : Nat}, (∀ k, k < m -> F (k + 1) = f k) -> movF F 0 m = movN f m
 | 0, _ => by rw [movF, movN_zero]
 | m + 1, h => by
   rw [movF_sum, movN_succ, movN_movF (m := m) fun k hk => h k (by omega), Nat.zero_add, h m (by omega), amt_eq]
theorem brings_b {n : Nat} {c F : Nat -> Int} {lo hi t : Int} (h : Brings n c F lo hi t) (hc : ∀ k, k < n -> 0 <= c k /\ c k <= 100) (l0 : 0 <= lo) (h1 : hi <= 100) : ∀ i : Nat, i <= n -> -(100 * i) <= F i /\ F i <= 100 * (i : Int)
 | 0, _ => by rw [h.z0]; simp
 | i + 1, hi' => by
   have ih := brings_b h hc l0 h1 i (by omega)
   have := h.l i (by omega)
   have := hc i (by omega)
   omega
theorem fBest {n : Nat} {c : Nat -> Int} {lo hi : Int} (h : fewE n c lo hi = 0) : FBest n c lo hi := by
 obtain ⟨⟨l1, l2, l3⟩, b1, b2, b3, hp⟩ := few_split h
 have hany : ∀ f, fitB n c (n - 1) f lo hi = true -> tab n c lo hi 0 1600 <= movN f (n - 1) /\ movN f (n - 1) <= 16 * 1600 := fun f hf => by
  have hB := fit_brings l1 hf
  have hb := brings_b hB l3 b1 b3
  have hB2 : Brings n c (inAt (n - 1) f) lo hi 1600 := ⟨hB.z0, hB.zn, fun i hi' => by have := hb i hi'; omega, hB.l⟩
  have hle := tab_le hB2 (Int.le_refl _) (d := n) (i := 0) rfl (Nat.zero_le _)
  rw [hB.z0, show (0 + 1600 : Int).toNat = 1600 by rfl] at hle
  obtain ⟨m, rfl⟩ : ∃ m, n = m + 1 := ⟨n - 1, by omega⟩
  have hz := hB.zn
  simp only [Nat.add_sub_cancel] at hle hz ⊢
  rw [movF_sum, Nat.zero_add, hz, movN_movF (f := f) fun k hk => by rw [inAt_succ, flAt_in hk]] at hle
  have hm := movN_in (f := f) (M := 1600) (m := m) fun k hk => by
   have := hb (k + 1) (by omega)
   simp only [Nat.add_sub_cancel] at this
   rw [inAt_succ, flAt_in hk] at this; omega
  exact ⟨by omega, by omega⟩
 have P := qPlan h
 have hq := hany _ P.fit
 have hfp := fPlan (n := n) (c := c) b2 (by omega) (n - 1) (by omega)
 have hs := hfp.s
 have hm := movF_nn (F := fwN n c lo hi) (d := n - 1) (i := 0)
 have hF := fwN_in (n := n) (c := c) (lo := lo) (hi := hi) (n - 1)
 have hF0 : ∀ k, fwF n c lo hi k = fwN n c lo hi (k + 1) := fun k => fwF_eq ..
 have ek : (((fwN n c lo hi (n - 1) + 1600).toNat : Nat) : Int) - 1600 = fwN n c lo hi (n - 1) := by omega
 have hta := tab_at (n := n) (c := c) (lo := lo) (hi := hi) (i := n - 1) (k := (fwN n c lo hi (n - 1) + 1600).toNat) (by omega) (by omega)
 rw [ek, show n - 1 + 1 = n by omega] at hta
 obtain ⟨e, he, hin, hv⟩ := bstN_at (c0 := c (n - 1)) (f := fwN n c lo hi (n - 1)) (lo := lo) (nx := tab n c lo hi n) (d := (hi - lo + 1).toNat) (by omega)
 have ho : c (n - 1) + fwN n c lo hi (n - 1) - (lo + e) = 0 := by
  by_cases hz : c (n - 1) + fwN n c lo hi (n - 1) - (lo + e) = 0
  ·exact hz
  ·have := tab_endN (n := n) (c := c) (lo := lo) (hi := hi) hz hin.1 hin.2
   omega
 have hz : tab n c lo hi (n - 1) (fwN n c lo hi (n - 1) + 1600).toNat = 0 := by
  rw [hta, hv, ho, show (0 + 1600 : Int).toNat = 1600 by rfl, tab_endT]; rfl
 have hmov : movN (fwF n c lo hi) (n - 1) = tab n c lo hi 0 1600 := by
  rw [<- movN_movF (F := fwN n c lo hi) (f := fwF n c lo hi) fun k _ => (hF0 k).symm]; omega
 refine ⟨fitB_t.2 fun k hk => ?_, fun f hf => by rw [hmov]; exact (hany f hf).1, hmov, hz⟩
 have hI : inAt (n - 1) (fwF n c lo hi) k = fwN n c lo hi k := by
  cases k with
  | zero => rw [inAt_zero, fwN_zero]
  | succ k => rw [inAt_succ, flAt_in (by omega), hF0]
 rw [bhV_eq, hI]
 by_cases hkn : k < n - 1
 ·rw [flAt_in hkn, hF0]; exact hfp.l k hkn
 ·obtain rfl : k = n - 1 := by omega
  rw [flAt_out (by omega)]
  omega
end Abs
end Go.Proofs.Ytdhbbdljiidgiaa

namespace Go.Proofs.Ytdhbbdljiidgiaa
namespace Abs
open Go Go.RowKit
noncomputable section
def rpvS : Spec [inSh, .int .i64, .int .i64, inSh] := ⟨fun ((n, c), (lo : Int), (hi : Int), (m, p), _) => n <= 16 /\ m = n /\ 0 <= lo /\ lo <= 100 /\ 0 <= hi /\ hi <= 100 /\ (∀ k, k < n -> 0 <= (c k).1 /\ (c k).1 <= 100) /\ ∀ k, k < m -> -16 <= (p k).1 /\ (p k).1 <= 16, fun ((n, c), (lo : Int), (hi : Int), (m, p), _) => .si .i64 (pvN (fun k => (c k).1) (fun k => (p k).1) lo hi n)⟩
def rpvI : DatL [inSh, .int .i64, .int .i64, inSh] -> Anns := fun ((n, c), (lo : Int), (hi : Int), (m, p), _) => [
 (3, [], fun fr hp => ⟨Nat, fun g => ⟨frI [.k 9, .s (.si .i64 (pvN (fun k => (c k).1) (fun k => (p k).1) lo hi g)), .s (.si .i64 (icast g)), .t 32] fr, hp⟩, Nat × Nat, fun g => (n, g), fun (n, g) => g <= n, fun g => nsub n g⟩)]
set_option maxRecDepth 100000 in
theorem rpv_ok : FnSpec Try.prog 33 _ rpvS := by
 refine FnSpec.of SJ1_ok mixed (U := 0) (I := rpvI) Try.func33 rfl (by kernel_rfl) rfl rfl (by decide +kernel) ?_
 rintro ⟨⟨n, c'⟩, (lo : Int), (hi : Int), ⟨m, p'⟩, ⟨⟩⟩ ⟨(h1 : n <= 16), (h2 : m = n), (l0 : 0 <= lo), (l1 : lo <= 100), (u0 : 0 <= hi), (u1 : hi <= 100), (h3 : ∀ k, k < n -> 0 <= (c' k).1 /\ (c' k).1 <= 100), (h4 : ∀ k, k < m -> -16 <= (p' k).1 /\ (p' k).1 <= 16)⟩
 obtain ⟨c, rfl⟩ : ∃ c : Nat -> Int, c' = fun k => (c k, ()) := ⟨fun k => (c' k).1, rfl⟩
 obtain ⟨p, rfl⟩ : ∃ p : Nat -> Int, p' = fun k => (p k, ()) := ⟨fun k => (p' k).1, rfl⟩
 subst h2
 have h3 : ∀ k, k < m -> 0 <= c k /\ c k <= 100 := h3
 have h4 : ∀ k, k < m -> -16 <= p k /\ p k <= 16 := h4
 unfold FnSat
 conv => arg 2; reduce
 simp [rpvS, ElEq, getB, goneB, aliveB, and_assoc]
 have e1 : (fun k => c k) = c := rfl
 have e2 : (fun k => p k) = p := rfl
 simp only [e1, e2]
 refine ⟨⟨0, by simp, rfl, by omega⟩, fun g hg => ⟨fun hlt => ?_, fun hge => by rw [show g = m by omega]⟩⟩
 have a := h4 g hlt
 have b := h3 g hlt
 have m1 := mul_B (X := 16) (Y := 100) a (y := c g) (by omega)
 have m2 := mul_B (X := 16) (Y := 100) a (y := lo) (by omega)
 have m3 := mul_B (X := 16) (Y := 100) a (y := hi) (by omega)
 have d := pvN_in (c := c) (p := p) ⟨l0, l1⟩ ⟨u0, u1⟩ (n := g) fun k hk => ⟨h4 k (by omega), h3 k (by omega)⟩
 have e := pvN_succ c p lo hi g
 rw [pvK_eq] at e
 repeat' refine And.intro ?_ ?_
 all_goals first | omega | exact ⟨g + 1, e.symm, by omega, by omega, by omega⟩
noncomputable def SK1 : Sums := ⟨(33, mkSum _ rpvS) :: SJ1.one, SJ1.two, SJ1.lo, SJ1.eqs, SJ1.its, SJ1.imm⟩
theorem SK1_ok : SumsOK Try.prog SK1 := (SJ1_ok.cons Try.func33 (by kernel_rfl) (by kernel_rfl) rpv_ok)
end
end Abs
end Go.Proofs.Ytdhbbdljiidgiaa

namespace Go.Proofs.Ytdhbbdljiidgiaa
namespace Abs
open Go Go.RowKit
def shF (F : Nat -> Int) (s : Int) (a b k : Nat) : Int := if a <= k /\ k < b then F k + s else F k
def shG (F : Nat -> Int) (s : Int) (k : Nat) : Int := max (F k + s) (-(F k + s)) - max (F k) (-(F k))
theorem shf_mov {F : Nat -> Int} {s : Int} {a b : Nat} (h : a <= b) : ∀ m : Nat, movN (shF F s a b) m = movN F m + (sumN (shG F s) (min m b) - sumN (shG F s) (min m a))
 | 0 => by simp
 | m + 1 => by
   have ih := shf_mov (F := F) (s := s) h m
   rw [movN_succ, movN_succ, ih, amt_eq, amt_eq]
   by_cases h1 : m < a
   ·rw [show min (m + 1) b = m + 1 by omega, show min (m + 1) a = m + 1 by omega, show min m b = m by omega, show min m a = m by omega]
    unfold shF; rw [if_neg (by omega)]; omega
   ·by_cases h2 : m < b
    ·rw [show min (m + 1) b = m + 1 by omega, show min (m + 1) a = a by omega, show min m b = m by omega, show min m a = a by omega, sumN_succ]
     unfold shF; rw [if_pos (by omega)]
     have : shG F s m = max (F m + s) (-(F m + s)) - max (F m) (-(F m)) := rfl
     omega
    ·rw [show min (m + 1) b = b by omega, show min (m + 1) a = a by omega, show min m b = b by omega, show min m a = a by omega]
     unfold shF; rw [if_neg (by omega)]; omega
theorem shf_bh {n : Nat} {c F : Nat -> Int} {s : Int} {a b k : Nat} (hb : b + 1 <= n) (hk : k < n) (hab : a < b) :
  bhV c (n - 1) (shF F s a b) k = bhV c (n - 1) F k + (if k = a then -s else if k = b then s else 0) := by
 rw [bhV_eq, bhV_eq]
 have hin : inAt (n - 1) (shF F s a b) k = inAt (n - 1) F k + (if a + 1 <= k /\ k < b + 1 then s else 0) := by
  cases k with
  | zero => rw [inAt_zero, inAt_zero, if_neg (by omega)]; rfl
  | succ k =>
    rw [inAt_succ, inAt_succ, flAt_in (by omega), flAt_in (by omega)]
    unfold shF
    by_cases h : a <= k /\ k < b
    ·rw [if_pos h, if_pos (by omega)]
    ·rw [if_neg h, if_neg (by omega)]; omega
 have hout : flAt (n - 1) (shF F s a b) k = flAt (n - 1) F k + (if a <= k /\ k < b then s else 0) := by
  by_cases hkn : k < n - 1
  ·rw [flAt_in hkn, flAt_in hkn]
   unfold shF
   split <;> omega
  ·rw [flAt_out (by omega), flAt_out (by omega), if_neg (by omega)]; rfl
 rw [hin, hout]
 by_cases e1 : k = a
 ·subst e1; rw [if_neg (by omega), if_pos (by omega), if_pos rfl]; omega
 ·by_cases e2 : k = b
  ·subst e2; rw [if_pos (by omega), if_neg (by omega), if_neg e1, if_pos rfl]; omega
  ·rw [if_neg e1, if_neg e2]
   by_cases h : a <= k /\ k < b
   ·rw [if_pos (by omega), if_pos h]; omega
   ·rw [if_neg (by omega), if_neg h]; omega
structure OptF (n : Nat) (c F : Nat -> Int) (lo hi : Int) : Prop where
 fit : ∀ k, k < n -> lo <= bhV c (n - 1) F k /\ bhV c (n - 1) F k <= hi
 le : ∀ f, fitB n c (n - 1) f lo hi = true -> movN F (n - 1) <= movN f (n - 1)
theorem opt_no {n : Nat} {c F : Nat -> Int} {lo hi s : Int} {a b : Nat} (O : OptF n c F lo hi) (hb : b + 1 <= n) (hab : a < b)
  (ha : lo <= bhV c (n - 1) F a - s /\ bhV c (n - 1) F a - s <= hi) (hb2 : lo <= bhV c (n - 1) F b + s /\ bhV c (n - 1) F b + s <= hi) : 0 <= sumN (shG F s) b - sumN (shG F s) a := by
 have h := O.le (shF F s a b) (fitB_t.2 fun k hk => by
  have hf := O.fit k hk
  rw [shf_bh hb hk hab]
  by_cases e1 : k = a
  ·subst e1; rw [if_pos rfl]; omega
  ·by_cases e2 : k = b
   ·subst e2; rw [if_neg e1, if_pos rfl]; omega
   ·rw [if_neg e1, if_neg e2]; omega)
 rw [shf_mov (Nat.le_of_lt hab), show min (n - 1) b = b by omega, show min (n - 1) a = a by omega] at h
 omega
def dlF (F : Nat -> Int) (k : Nat) : Int := if F k < 0 then 1 else -1
def duF (F : Nat -> Int) (k : Nat) : Int := if 0 < F k then -1 else 1
def lwB (x lo : Int) : Int := if x = lo then -16 else 0
def upB (x hi : Int) : Int := if x = hi then 16 else 0
theorem shG_p {F : Nat -> Int} {k : Nat} : shG F 1 k = -dlF F k := by unfold shG dlF; split <;> omega
theorem shG_n {F : Nat -> Int} {k : Nat} : shG F (-1) k = duF F k := by unfold shG duF; split <;> omega
theorem sumN_neg {f g : Nat -> Int} (h : ∀ k, f k = -g k) : ∀ n, sumN f n = -sumN g n
 | 0 => by simp
 | n + 1 => by rw [sumN_succ, sumN_succ, sumN_neg h n, h n]; omega
theorem sumN_eqA {f g : Nat -> Int} (h : ∀ k, f k = g k) : ∀ n, sumN f n = sumN g n
 | 0 => by simp
 | n + 1 => by rw [sumN_succ, sumN_succ, sumN_eqA h n, h n]
theorem sum_step {g : Nat -> Int} (h : ∀ k, -1 <= g k /\ g k <= 1) {j : Nat} : ∀ {i : Nat}, j <= i -> -((i : Int) - j) <= sumN g i - sumN g j /\ sumN g i - sumN g j <= (i : Int) - j
 | 0, hj => by obtain rfl : j = 0 := by omega
               omega
 | i + 1, hj => by
   by_cases e : j = i + 1
   ·subst e; omega
   ·have ih := sum_step h (j := j) (i := i) (by omega)
    have := h i
    rw [sumN_succ]; omega
theorem sum_sub {f g : Nat -> Int} (h : ∀ k, f k <= g k) {j : Nat} : ∀ {i : Nat}, j <= i -> sumN f i - sumN f j <= sumN g i - sumN g j
 | 0, hj => by obtain rfl : j = 0 := by omega
               omega
 | i + 1, hj => by
   by_cases e : j = i + 1
   ·subst e; omega
   ·have ih := sum_sub h (j := j) (i := i) (by omega)
    have := h i
    rw [sumN_succ, sumN_succ]; omega
def rgA (x F : Nat -> Int) (lo : Int) : Nat -> Int
 | 0 => lwB (x 0) lo
 | i + 1 => max (rgA x F lo i + dlF F i) (lwB (x (i + 1)) lo)
def rgB (x F : Nat -> Int) (hi : Int) : Nat -> Int
 | 0 => upB (x 0) hi
 | i + 1 => min (rgB x F hi i + duF F i) (upB (x (i + 1)) hi)
theorem rgA_ch {x F : Nat -> Int} {lo : Int} : ∀ i : Nat, ∃ j, j <= i /\ rgA x F lo i = lwB (x j) lo + (sumN (dlF F) i - sumN (dlF F) j)
 | 0 => ⟨0, by omega, by rw [rgA]; omega⟩
 | i + 1 => by
   obtain ⟨j, h1, h2⟩ := rgA_ch (x := x) (F := F) (lo := lo) i
   rw [rgA]
   by_cases h : lwB (x (i + 1)) lo <= rgA x F lo i + dlF F i
   ·exact ⟨j, by omega, by rw [sumN_succ]; omega⟩
   ·exact ⟨i + 1, by omega, by omega⟩
theorem rgB_ch {x F : Nat -> Int} {hi : Int} : ∀ i : Nat, ∃ j, j <= i /\ rgB x F hi i = upB (x j) hi + (sumN (duF F) i - sumN (duF F) j)
 | 0 => ⟨0, by omega, by rw [rgB]; omega⟩
 | i + 1 => by
   obtain ⟨j, h1, h2⟩ := rgB_ch (x := x) (F := F) (hi := hi) i
   rw [rgB]
   by_cases h : rgB x F hi i + duF F i <= upB (x (i + 1)) hi
   ·exact ⟨j, by omega, by rw [sumN_succ]; omega⟩
   ·exact ⟨i + 1, by omega, by omega⟩
theorem lwB_in (x lo : Int) : -16 <= lwB x lo /\ lwB x lo <= 0 := by unfold lwB; split <;> omega
theorem upB_in (x hi : Int) : 0 <= upB x hi /\ upB x hi <= 16 := by unfold upB; split <;> omega
theorem rgA_lw {x F : Nat -> Int} {lo : Int} : ∀ i : Nat, lwB (x i) lo <= rgA x F lo i
 | 0 => by rw [rgA]; exact Int.le_refl _
 | i + 1 => by rw [rgA]; omega
theorem rgB_up {x F : Nat -> Int} {hi : Int} : ∀ i : Nat, rgB x F hi i <= upB (x i) hi
 | 0 => by rw [rgB]; exact Int.le_refl _
 | i + 1 => by rw [rgB]; omega
theorem dl_in {F : Nat -> Int} (k : Nat) : -1 <= dlF F k /\ dlF F k <= 1 := by unfold dlF; split <;> omega
theorem du_in {F : Nat -> Int} (k : Nat) : -1 <= duF F k /\ duF F k <= 1 := by unfold duF; split <;> omega
theorem dl_du {F : Nat -> Int} (k : Nat) : dlF F k <= duF F k := by unfold dlF duF; split <;> split <;> omega
theorem rg_le {n : Nat} {c F : Nat -> Int} {lo hi : Int} (O : OptF n c F lo hi) (hn : n <= 16) {i : Nat} (hi' : i < n) : rgA (bhV c (n - 1) F) F lo i <= rgB (bhV c (n - 1) F) F hi i := by
 obtain ⟨j, j1, j2⟩ := rgA_ch (x := bhV c (n - 1) F) (F := F) (lo := lo) i
 obtain ⟨k, k1, k2⟩ := rgB_ch (x := bhV c (n - 1) F) (F := F) (hi := hi) i
 have lj := lwB_in (bhV c (n - 1) F j) lo
 have uk := upB_in (bhV c (n - 1) F k) hi
 have fj := O.fit j (by omega)
 have fk := O.fit k (by omega)
 apply Classical.byContradiction
 intro hlt
 by_cases hjk : j <= k
 ·have s1 := sum_sub (f := dlF F) (g := duF F) dl_du k1
  have s2 := sum_step (g := dlF F) dl_in hjk
  have hj0 : ¬ bhV c (n - 1) F j = lo := fun e => by unfold lwB at lj j2; rw [if_pos e] at lj j2; omega
  have hk0 : ¬ bhV c (n - 1) F k = hi := fun e => by unfold upB at uk k2; rw [if_pos e] at uk k2; omega
  have e1 : lwB (bhV c (n - 1) F j) lo = 0 := by unfold lwB; rw [if_neg hj0]
  have e2 : upB (bhV c (n - 1) F k) hi = 0 := by unfold upB; rw [if_neg hk0]
  have hjk2 : j < k := by
   rcases Nat.lt_or_ge j k with h | h
   ·exact h
   ·obtain rfl : j = k := by omega
    omega
  have hno := opt_no (s := 1) O (by omega) hjk2 (by omega) (by omega)
  have a := sumN_neg (f := shG F 1) (g := dlF F) (fun k => shG_p) k
  have b := sumN_neg (f := shG F 1) (g := dlF F) (fun k => shG_p) j
  omega
 ·have s1 := sum_sub (f := dlF F) (g := duF F) dl_du j1
  have s2 := sum_step (g := duF F) du_in (show k <= j by omega)
  have hj0 : ¬ bhV c (n - 1) F j = lo := fun e => by unfold lwB at lj j2; rw [if_pos e] at lj j2; omega
  have hk0 : ¬ bhV c (n - 1) F k = hi := fun e => by unfold upB at uk k2; rw [if_pos e] at uk k2; omega
  have e1 : lwB (bhV c (n - 1) F j) lo = 0 := by unfold lwB; rw [if_neg hj0]
  have e2 : upB (bhV c (n - 1) F k) hi = 0 := by unfold upB; rw [if_neg hk0]
  have hno := opt_no (s := -1) O (a := k) (b := j) (by omega) (by omega) (by omega) (by omega)
  have a := sumN_eqA (f := shG F (-1)) (g := duF F) (fun k => shG_n) k
  have b := sumN_eqA (f := shG F (-1)) (g := duF F) (fun k => shG_n) j
  omega
theorem can_ft {a f : Nat -> Int} {lo hi : Int} {i p : Nat} (h : canV a f lo hi i p = true) : ftB (a i) ((p : Int) - 16) lo hi = true := by
 cases e : ftB (a i) ((p : Int) - 16) lo hi with
 | true => rfl
 | false => rw [canV_no e] at h; cases h
theorem can_src {a f : Nat -> Int} {lo hi : Int} {i p : Nat} (h : canV a f lo hi (i + 1) p = true) : ∃ q, q < 33 /\ canV a f lo hi i q = true /\ stB (f i) ((q : Int) - 16) ((p : Int) - 16) = true := by
 rw [canV_at (can_ft h)] at h
 unfold canS at h
 obtain ⟨q, h1, h2⟩ := anyN_iff.1 h
 unfold srcB at h2
 simp at h2
 exact ⟨q, h1, h2⟩
theorem can_of {a f : Nat -> Int} {lo hi : Int} {i p q : Nat} (h : ftB (a (i + 1)) ((p : Int) - 16) lo hi = true) (hq : q < 33) (h1 : canV a f lo hi i q = true) (h2 : stB (f i) ((q : Int) - 16) ((p : Int) - 16) = true) : canV a f lo hi (i + 1) p = true := by
 rw [canV_at h]
 unfold canS
 refine anyN_iff.2 ⟨q, hq, ?_⟩
 unfold srcB
 simp [h1, h2]
theorem can_zero {a f : Nat -> Int} {lo hi : Int} {p : Nat} (h : ftB (a 0) ((p : Int) - 16) lo hi = true) : canV a f lo hi 0 p = true := by
 rw [canV_at h]
 unfold canS
 refine anyN_iff.2 ⟨0, by omega, ?_⟩
 unfold srcB; simp
theorem ft_of {x lo hi p : Int} (h1 : lwB x lo <= p) (h2 : p <= upB x hi) : ftB x p lo hi = true := by
 refine ftB_t.2 ⟨fun h => ?_, fun h => ?_⟩
 ·unfold upB at h2; split at h2
  ·assumption
  ·omega
 ·unfold lwB at h1; split at h1
  ·assumption
  ·omega
theorem rg_can {x F : Nat -> Int} {lo hi : Int} : ∀ {i : Nat}, (∀ k, k <= i -> rgA x F lo k <= rgB x F hi k) -> ∀ {p : Nat}, rgA x F lo i <= (p : Int) - 16 -> (p : Int) - 16 <= rgB x F hi i -> canV x F lo hi i p = true
 | 0, _, p, h1, h2 => can_zero (ft_of h1 h2)
 | i + 1, hR, p, h1, h2 => by
   have hr := hR i (by omega)
   have a1 := rgA_lw (x := x) (F := F) (lo := lo) i
   have a2 := lwB_in (x i) lo
   have b1 := rgB_up (x := x) (F := F) (hi := hi) i
   have b2 := upB_in (x i) hi
   have c1 := rgA_lw (x := x) (F := F) (lo := lo) (i + 1)
   have c2 := rgB_up (x := x) (F := F) (hi := hi) (i + 1)
   have hft : ftB (x (i + 1)) ((p : Int) - 16) lo hi = true := ft_of (by omega) (by omega)
   rw [rgA] at h1
   rw [rgB] at h2
   have ih := fun q => rg_can (x := x) (F := F) (lo := lo) (hi := hi) (i := i) (fun k hk => hR k (by omega)) (p := q)
   have use : ∀ q : Int, rgA x F lo i <= q -> q <= rgB x F hi i -> stB (F i) q ((p : Int) - 16) = true -> canV x F lo hi (i + 1) p = true := fun q q1 q2 hs => by
    have e : (((q + 16).toNat : Nat) : Int) - 16 = q := by omega
    exact can_of hft (q := (q + 16).toNat) (by omega) (ih _ (by omega) (by omega)) (by rw [e]; exact hs)
   by_cases f1 : 0 < F i
   ·have d1 : dlF F i = -1 := by unfold dlF; rw [if_neg (by omega)]
    have d2 : duF F i = -1 := by unfold duF; rw [if_pos f1]
    refine use ((p : Int) - 16 + 1) (by omega) (by omega) ?_
    rw [stB_p f1]; simp; omega
   ·by_cases f2 : F i < 0
    ·have d1 : dlF F i = 1 := by unfold dlF; rw [if_pos f2]
     have d2 : duF F i = 1 := by unfold duF; rw [if_neg f1]
     refine use ((p : Int) - 16 - 1) (by omega) (by omega) ?_
     rw [stB_n f2]; simp; omega
    ·have d1 : dlF F i = -1 := by unfold dlF; rw [if_neg f2]
     have d2 : duF F i = 1 := by unfold duF; rw [if_neg f1]
     refine use (max (rgA x F lo i) (min (rgB x F hi i) ((p : Int) - 16))) (by omega) (by omega) ?_
     rw [stB_z f1 f2]
     simp only [decide_eq_true_eq]
     omega
theorem pkP_is {p : Nat -> Bool} (h : ∃ k, k < 33 /\ p k = true) : ∃ k, k < 33 /\ p k = true /\ pkP p = (k : Int) - 16 := by
 obtain ⟨k, hk, hp⟩ := h
 have hlt : firstN p 33 < 33 := by
  have hle := firstN_le p 33
  rcases Nat.lt_or_ge (firstN p 33) 33 with hh | hh
  ·exact hh
  ·rw [firstN_not p 33 k (by omega)] at hp; cases hp
 exact ⟨firstN p 33, hlt, firstN_is p 33 hlt, by unfold pkP; rw [if_pos hlt]⟩
theorem pri_ok {n : Nat} {a f : Nat -> Int} {lo hi : Int} (hl : ∃ k, k < 33 /\ canV a f lo hi (n - 1) k = true) : ∀ {d i : Nat}, n - 1 - i = d -> i < n ->
  ∃ k, k < 33 /\ canV a f lo hi i k = true /\ priV (canV a f lo hi) f n i = (k : Int) - 16 /\ (i + 1 < n -> stB (f i) (priV (canV a f lo hi) f n i) (priV (canV a f lo hi) f n (i + 1)) = true)
 | 0, i, e, h => by
   obtain rfl : i = n - 1 := by omega
   rw [priV_eq h]
   obtain ⟨k, h1, h2, h3⟩ := pkP_is (p := pqB (canV a f lo hi) f n (n - 1)) (by
    obtain ⟨k, h1, h2⟩ := hl
    exact ⟨k, h1, by rw [pqB_eq, h2]; simp; omega⟩)
   rw [pqB_eq] at h2
   simp only [Bool.and_eq_true] at h2
   exact ⟨k, h1, h2.1, h3, fun hh => by omega⟩
 | d + 1, i, e, h => by
   obtain ⟨k, h1, h2, h3, _⟩ := pri_ok hl (d := d) (i := i + 1) (by omega) (by omega)
   obtain ⟨q, q1, q2, q3⟩ := can_src h2
   obtain ⟨k', k1, k2, k3⟩ := pkP_is (p := pqB (canV a f lo hi) f n i) ⟨q, q1, by rw [pqB_eq, q2, h3, q3]; simp⟩
   rw [<- priV_eq h] at k3
   rw [pqB_eq] at k2
   simp only [Bool.and_eq_true, Bool.or_eq_true, decide_eq_true_eq] at k2
   refine ⟨k', k1, k2.1, k3, fun hh => ?_⟩
   rw [k3]
   rcases k2.2 with h | h
   ·omega
   ·exact h
theorem mul_fit {p x lo hi : Int} (hlh : lo <= hi) (h : ftB x p lo hi = true) : p * x = max (p * lo) (p * hi) := by
 obtain ⟨h1, h2⟩ := ftB_t.1 h
 rcases Int.lt_trichotomy p 0 with hp | hp | hp
 ·rw [h2 hp]
  have := Int.mul_le_mul_of_nonpos_left (a := p) (by omega) hlh
  omega
 ·subst hp; simp
 ·rw [h1 hp]
  have := Int.mul_le_mul_of_nonneg_left hlh (show 0 <= p by omega)
  omega
theorem mul_st {F a b : Int} (h : stB F a b = true) : (a - b) * F = max F (-F) := by
 by_cases f1 : 0 < F
 ·rw [stB_p f1] at h
  have : a - b = 1 := by simpa using h
  rw [this]; omega
 ·by_cases f2 : F < 0
  ·rw [stB_n f2] at h
   have : a - b = -1 := by simpa using h
   rw [this]; omega
  ·obtain rfl : F = 0 := by omega
   simp
theorem st_in {F a b : Int} (h : stB F a b = true) : -1 <= b - a /\ b - a <= 1 := by
 by_cases f1 : 0 < F
 ·rw [stB_p f1] at h
  have : a - b = 1 := by simpa using h
  omega
 ·by_cases f2 : F < 0
  ·rw [stB_n f2] at h
   have : a - b = -1 := by simpa using h
   omega
  ·rw [stB_z f1 f2] at h
   simp only [decide_eq_true_eq] at h
   omega
theorem strong {n : Nat} {c F p : Nat -> Int} {lo hi : Int} (hlh : lo <= hi) (hf : ∀ k, k < n -> ftB (bhV c (n - 1) F k) (p k) lo hi = true) (hs : ∀ k, k + 1 < n -> stB (F k) (p k) (p (k + 1)) = true) :
  ∀ k : Nat, k + 1 <= n -> pvN c p lo hi (k + 1) = movN F k + p k * flAt (n - 1) F k
 | 0, hk => by
   rw [pvN_succ, pvN_zero, pvK_eq, movN_zero]
   have := mul_fit hlh (hf 0 (by omega))
   rw [bhV_eq, inAt_zero] at this
   have e : p 0 * (c 0 + 0 - flAt (n - 1) F 0) = p 0 * c 0 - p 0 * flAt (n - 1) F 0 := by rw [Int.mul_sub, Int.add_zero]
   rw [e] at this
   omega
 | k + 1, hk => by
   have ih := strong hlh hf hs k (by omega)
   rw [pvN_succ, pvK_eq, movN_succ, ih, amt_eq]
   have h1 := mul_fit hlh (hf (k + 1) (by omega))
   rw [bhV_eq, inAt_succ] at h1
   have e : p (k + 1) * (c (k + 1) + flAt (n - 1) F k - flAt (n - 1) F (k + 1)) = p (k + 1) * c (k + 1) + p (k + 1) * flAt (n - 1) F k - p (k + 1) * flAt (n - 1) F (k + 1) := by rw [Int.mul_sub, Int.mul_add]
   rw [e] at h1
   have h2 := mul_st (hs k (by omega))
   rw [Int.sub_mul] at h2
   rw [flAt_in (show k < n - 1 by omega)] at h1 ⊢
   omega
structure FewK (n : Nat) (c : Nat -> Int) (lo hi : Int) : Prop where
 b : ∀ k, k < n -> -16 <= fewP n c lo hi k /\ fewP n c lo hi k <= 16
 d : ∀ k, k + 1 < n -> -1 <= fewP n c lo hi (k + 1) - fewP n c lo hi k /\ fewP n c lo hi (k + 1) - fewP n c lo hi k <= 1
 v : pvN c (fewP n c lo hi) lo hi n = movN (fwF n c lo hi) (n - 1)
theorem fewK {n : Nat} {c : Nat -> Int} {lo hi : Int} (h : fewE n c lo hi = 0) : FewK n c lo hi := by
 obtain ⟨⟨l1, l2, l3⟩, b1, b2, b3, hp⟩ := few_split h
 have B := fBest h
 have O : OptF n c (fwF n c lo hi) lo hi := ⟨fitB_t.1 B.fit, B.le⟩
 have hR := fun k (hk : k <= n - 1) => rg_le O l2 (i := k) (by omega)
 have a1 := rgA_lw (x := bhV c (n - 1) (fwF n c lo hi)) (F := fwF n c lo hi) (lo := lo) (n - 1)
 have a2 := lwB_in (bhV c (n - 1) (fwF n c lo hi) (n - 1)) lo
 have c1 := rgB_up (x := bhV c (n - 1) (fwF n c lo hi)) (F := fwF n c lo hi) (hi := hi) (n - 1)
 have c2 := upB_in (bhV c (n - 1) (fwF n c lo hi) (n - 1)) hi
 have hr := hR (n - 1) (Nat.le_refl _)
 have hcan := rg_can hR (p := (rgA (bhV c (n - 1) (fwF n c lo hi)) (fwF n c lo hi) lo (n - 1) + 16).toNat) (by omega) (by omega)
 have hpr := fun i (hi' : i < n) => pri_ok (n := n) ⟨_, by omega, hcan⟩ (d := n - 1 - i) (i := i) rfl hi'
 have hP : ∀ k, fewP n c lo hi k = priV (canV (bhV c (n - 1) (fwF n c lo hi)) (fwF n c lo hi) lo hi) (fwF n c lo hi) n k := fun k => by
  unfold fewP prc
  congr 1
  funext i p
  unfold pcT; rfl
 have hPf : fewP n c lo hi = priV (canV (bhV c (n - 1) (fwF n c lo hi)) (fwF n c lo hi) lo hi) (fwF n c lo hi) n := funext hP
 rw [<- hPf] at hpr
 refine ⟨fun k hk => ?_, fun k hk => ?_, ?_⟩
 ·obtain ⟨q, q1, _, q3, _⟩ := hpr k hk
  omega
 ·obtain ⟨q, q1, _, q3, q4⟩ := hpr k (by omega)
  exact st_in (q4 hk)
 ·have hst := strong (n := n) (c := c) (F := fwF n c lo hi) (p := fewP n c lo hi) b2 (fun k hk => by
   obtain ⟨q, q1, q2, q3, _⟩ := hpr k hk
   rw [q3]; exact can_ft q2) (fun k hk => by
   obtain ⟨q, q1, _, q3, q4⟩ := hpr k (by omega)
   exact q4 hk) (n - 1) (by omega)
  rw [show n - 1 + 1 = n by omega, flAt_out (Nat.le_refl _)] at hst
  rw [hst]; omega
theorem few_checks {n : Nat} {c : Nat -> Int} {lo hi : Int} (h : fewE n c lo hi = 0) : cfE n c lo hi (n - 1) (fwF n c lo hi) (movN (fwF n c lo hi) (n - 1)) n (fewP n c lo hi) = 0 := by
 obtain ⟨⟨l1, l2, l3⟩, b1, b2, b3, hp⟩ := few_split h
 have B := fBest h
 have K := fewK h
 have hpr : prE n n (fewP n c lo hi) = 0 := prE_0.2 ⟨rfl, fun k hk => prB_f fun hh => by
  have := K.b k hk
  rcases hh with hh | ⟨h0, hh⟩
  ·omega
  ·have := K.d (k - 1) (by omega)
   rw [show k - 1 + 1 = k by omega] at this
   omega⟩
 have hfl : flE n (n - 1) (fwF n c lo hi) = 0 := flE_0.2 ⟨by omega, fun k hk => by
  rw [fwF_eq]
  have := fwN_in (n := n) (c := c) (lo := lo) (hi := hi) (k + 1)
  omega⟩
 rw [cfE_mq (fewE_0.1 h).1 hfl hpr]
 exact mqE_0 ⟨B.fit, rfl, K.v⟩
end Abs
end Go.Proofs.Ytdhbbdljiidgiaa

namespace Go.Proofs.Ytdhbbdljiidgiaa
namespace Abs
open Go Go.RowKit
noncomputable section
noncomputable def SP0 : Sums := ⟨SK1.one, SK1.two, SK1.lo, SK1.eqs, SK1.its, [27]⟩
theorem SP0_ok : SumsOK Try.prog SP0 := SK1_ok.setImm _
theorem prB_in {p : Nat -> Int} {k : Nat} (h : prB p k = false) : (-16 <= p k /\ p k <= 16) /\ (0 < k -> max (p k - p (k - 1)) (-(p k - p (k - 1))) <= 1) := by
 have h1 : ¬ (16 < max (p k) (-(p k)) \/ (0 < k /\ 1 < max (p k - p (k - 1)) (-(p k - p (k - 1))))) := fun hh => by rw [prB_t.2 hh] at h; cases h
 exact ⟨by omega, fun h0 => by omega⟩
theorem prB_of {p : Nat -> Int} {k : Nat} (h : (p k < -16 \/ 16 < p k) \/ 0 < k /\ 1 < max (p k - p (k - 1)) (-(p k - p (k - 1)))) : prB p k = true := prB_t.2 (by omega)
theorem prB_no {p : Nat -> Int} {k : Nat} (h1 : -16 <= p k) (h2 : p k <= 16) (h3 : 0 < k -> max (p k - p (k - 1)) (-(p k - p (k - 1))) <= 1) : prB p k = false := prB_f (by omega)
theorem prB_ar {p : Nat -> Int} {q g : Nat} (h1 : ∀ k, k < q -> -1000 <= p k /\ p k <= 1000) (hg : g < q) : -2000 <= p g - p (g - 1) /\ p g - p (g - 1) <= 2000 := by
 have a := h1 g hg
 have b := h1 (g - 1) (by omega)
 omega
def rcfI : DatL [inSh, .int .i64, .int .i64, .agg mvL] -> Anns := fun ((n, c), (lo : Int), (hi : Int), ((m, f), (t : Int), (q, p), _), _) => [
 (8, [], fun fr hp => ⟨Nat, fun k => ⟨frI [.k 9, .s (.si .i64 (icast k)), .k 26, .t 67] fr, hp⟩, Nat × Nat × (Nat -> Bool), fun k => (n, k, prB (fun k => (p k).1)), fun (n, k, b) => k <= n /\ ∀ j, j < k -> b j = false, fun k => nsub n k⟩)]
set_option maxRecDepth 100000 in
set_option maxHeartbeats 2000000 in
theorem rcf_ok : FnSpec Try.prog 21 _ cfS := by
 refine FnSpec.of SP0_ok mixed (U := 0) (I := rcfI) Try.func21 rfl (by kernel_rfl) rfl rfl (by decide +kernel) ?_
 rintro ⟨⟨n, c'⟩, (lo : Int), (hi : Int), ⟨⟨m, f'⟩, (t : Int), ⟨q, p'⟩, ⟨⟩⟩, ⟨⟩⟩ ⟨(hq9 : q <= 4611686018427387904), (h1 : ∀ k, k < q -> -1000 <= (p' k).1 /\ (p' k).1 <= 1000)⟩
 obtain ⟨c, rfl⟩ : ∃ c : Nat -> Int, c' = fun k => (c k, ()) := ⟨fun k => (c' k).1, rfl⟩
 obtain ⟨f, rfl⟩ : ∃ f : Nat -> Int, f' = fun k => (f k, ()) := ⟨fun k => (f' k).1, rfl⟩
 obtain ⟨p, rfl⟩ : ∃ p : Nat -> Int, p' = fun k => (p k, ()) := ⟨fun k => (p' k).1, rfl⟩
 have h1 : ∀ k, k < q -> -1000 <= p k /\ p k <= 1000 := h1
 unfold FnSat
 conv => arg 2; reduce
 simp [cfS, rbdS, rflS, rbS, bhS, ribS, rmvS, rpvS, amS, ElEq, getB, goneB, aliveB, and_assoc]
 have e1 : (fun k => c k) = c := rfl
 have e2 : (fun k => f k) = f := rfl
 have e3 : (fun k => p k) = p := rfl
 simp only [e1, e2, e3]
 refine ⟨fun h => (cfE_bd h).symm, fun h => ?_⟩
 obtain ⟨hl, b1, b2, b3⟩ := bdE_0.1 h
 obtain ⟨l1, l2, l3⟩ := lvE_0.1 hl
 refine ⟨by omega, fun h' => ⟨by omega, (cfE_fl h h').symm⟩, fun h' => ⟨fun hq => ?_, fun hq => ?_⟩⟩
 ·have e := prE_20 (n := n) (q := q) (p := p) (by omega)
  rw [cfE_pr h h' (by rw [e]; omega), e]
 obtain ⟨q1, q2⟩ := flE_0.1 h'
 obtain rfl : q = n := by omega
 refine ⟨⟨0, rfl, by omega, fun j hj => by omega⟩, fun g hg hall => ⟨fun hlt => ?_, fun hge => ?_⟩⟩
 ·have ar := prB_ar h1 hlt
  refine ⟨hlt, fun _ => hlt, fun _ _ _ => hlt, fun _ _ _ => by omega, fun _ _ _ => by omega, fun _ _ _ => by omega, fun _ _ _ => by omega, fun x y z => ⟨x, y, z⟩, fun hb => ?_, fun x y z => ⟨by omega, by omega, g + 1, by omega, by omega, fun j hj => ?_, by omega⟩⟩
  ·have e := prE_2 (n := q) (q := q) rfl hlt (prB_of hb)
   rw [cfE_pr h h' (by rw [e]; omega), e]
  ·by_cases e : j = g
   ·subst e; exact prB_no x y z
   ·exact hall j (by omega)
 ·obtain rfl : g = q := by omega
  have hpr : prE g g p = 0 := prE_0.2 ⟨rfl, hall⟩
  rw [cfE_mq h h' hpr, ibB_fit]
  have hp : ∀ k, k < g -> -16 <= p k /\ p k <= 16 := fun k hk => (prB_in (hall k hk)).1
  refine ⟨l2, by omega, l3, q2, by omega, fun _ => ⟨by omega, q2⟩, fun _ _ => ⟨l2, rfl, by omega, by omega, by omega, by omega, l3, hp⟩, fun hx => (mqE_19 fun hh => ?_).symm, fun x1 x2 x3 => (mqE_0 ⟨x1, x2.symm, by rw [<- x3, <- x2]⟩).symm⟩
  obtain ⟨y1, y2, y3⟩ := hh
  rcases hx with (hx | hx) | hx
  ·rw [y1] at hx; cases hx
  ·exact hx y2.symm
  ·exact hx (by rw [y3, y2])
noncomputable def SP1 : Sums := ⟨(21, mkSum _ cfS) :: SP0.one, SP0.two, SP0.lo, SP0.eqs, SP0.its, SP0.imm⟩
theorem SP1_ok : SumsOK Try.prog SP1 := (SP0_ok.cons Try.func21 (by kernel_rfl) (by kernel_rfl) rcf_ok)
noncomputable def SP2 : Sums := ⟨SP1.one, SP1.two, SP1.lo, SP1.eqs, SP1.its, SP1.imm⟩
theorem SP2_ok : SumsOK Try.prog SP2 := SP1_ok
end
end Abs
end Go.Proofs.Ytdhbbdljiidgiaa

namespace Go.Proofs.Ytdhbbdljiidgiaa
namespace Abs
open Go Go.RowKit
noncomputable section
noncomputable def SP3 : Sums := SP2
theorem SP3_ok : SumsOK Try.prog SP3 := SP2_ok
end
end Abs
end Go.Proofs.Ytdhbbdljiidgiaa

namespace Go.Proofs.Ytdhbbdljiidgiaa
namespace Abs
open Go Go.RowKit
theorem brings_s {n : Nat} {c F : Nat -> Int} {lo hi t : Int} (h : Brings n c F lo hi t) (hc : ∀ k, k < n -> 0 <= c k) (l0 : 0 <= lo) : ∀ {i : Nat}, i <= n -> F i <= sumN c i /\ -(i * hi) <= F i
 | 0, _ => by rw [h.z0]; simp
 | i + 1, hi' => by
   have ih := brings_s h hc l0 (i := i) (by omega)
   have a := h.l i (by omega)
   have b := hc i (by omega)
   have e : ((i + 1 : Nat) : Int) * hi = i * hi + hi := by rw [Int.natCast_succ, Int.add_mul, Int.one_mul]
   rw [sumN_succ, e]
   omega
end Abs
end Go.Proofs.Ytdhbbdljiidgiaa

namespace Go.Proofs.Ytdhbbdljiidgiaa
namespace Abs
open Go Go.RowKit
noncomputable section
theorem tab_lim {n : Nat} {c : Nat -> Int} {lo hi : Int} (hc : ∀ k, k < n -> 0 <= c k) (l0 : 0 <= lo) (hlh : lo <= hi) : ∀ {d i : Nat}, n - i = d -> i <= n -> ∀ {o : Int}, -1600 <= o -> o <= 1600 -> tab n c lo hi i (o + 1600).toNat < 1073741824 -> o <= d * hi /\ sumN c i - sumN c n <= o
 | 0, i, e, hi', o, o1, o2, h => by
   obtain rfl : i = n := by omega
   by_cases hz : o = 0
   ·subst hz; omega
   ·rw [tab_endN hz o1 o2] at h; omega
 | d + 1, i, e, hi', o, o1, o2, h => by
   have ek : (((o + 1600).toNat : Nat) : Int) - 1600 = o := by omega
   have hta := tab_at (n := n) (c := c) (lo := lo) (hi := hi) (i := i) (k := (o + 1600).toNat) (by omega) (by omega)
   rw [ek] at hta
   rw [hta] at h
   obtain ⟨x, hx, hin, hv⟩ := bstN_at h
   have ih := tab_lim hc l0 hlh (d := d) (i := i + 1) (by omega) (by omega) (o := c i + o - (lo + x)) hin.1 hin.2 (by omega)
   have e2 : ((d + 1 : Nat) : Int) * hi = d * hi + hi := by rw [Int.natCast_succ, Int.add_mul, Int.one_mul]
   have hci := hc i (by omega)
   rw [sumN_succ] at ih
   rw [e2]
   omega
structure MostM (n : Nat) (c : Nat -> Int) (lo hi M : Int) : Prop where
 n16 : n <= 16
 c0 : ∀ k, k < n -> 0 <= c k /\ c k <= 100
 lo : 0 <= lo /\ lo <= hi /\ hi <= 100
 a : sumN c n <= M
 b : hi * n <= M
 m : 0 <= M /\ M <= 1600
theorem tab_out {n : Nat} {c : Nat -> Int} {lo hi M : Int} (h : MostM n c lo hi M) {i : Nat} (hi' : i <= n) {o : Int} (o1 : -1600 <= o) (o2 : o <= 1600) (ho : o < -M \/ M < o) : tab n c lo hi i (o + 1600).toNat = 1073741824 := by
 have hb := (tab_b (n := n) (c := c) (lo := lo) (hi := hi) (d := n - i) (i := i) rfl (o + 1600).toNat).2
 by_cases hh : tab n c lo hi i (o + 1600).toNat < 1073741824
 ·exfalso
  have hl := tab_lim (fun k hk => (h.c0 k hk).1) h.lo.1 h.lo.2.1 (d := n - i) (i := i) rfl hi' o1 o2 hh
  have e1 : ((n - i : Nat) : Int) * hi <= (n : Int) * hi := Int.mul_le_mul_of_nonneg_right (by omega) (by have := h.lo; omega)
  rw [Int.mul_comm (n : Int) hi] at e1
  have e2 := sumN_nn (c := c) (n := i) fun k hk => (h.c0 k (by omega)).1
  have := h.a
  have := h.b
  omega
 ·omega
@[irreducible] def fdB (n : Nat) (c : Nat -> Int) (lo hi : Int) (i : Nat) (f : Int) (d : Nat) : Int := bstN (c i) f lo (tab n c lo hi (i + 1)) d
theorem fdB_0 {n : Nat} {c : Nat -> Int} {lo hi : Int} {i : Nat} {f : Int} : fdB n c lo hi i f 0 = 1073741824 := by unfold fdB; rw [bstN_zero]
theorem fdB_in {n : Nat} {c : Nat -> Int} {lo hi f : Int} {i d : Nat} : 0 <= fdB n c lo hi i f d /\ fdB n c lo hi i f d <= 1073741824 := by
 unfold fdB
 exact bstN_b (fun k _ => (tab_b (d := n - (i + 1)) (i := i + 1) rfl k).1) d
theorem fdB_n {n : Nat} {c : Nat -> Int} {lo hi f : Int} {i d : Nat} (hi' : i < n) (h : -1600 <= f /\ f <= 1600) (hd : d = (hi - lo + 1).toNat) : fdB n c lo hi i f d = tab n c lo hi i (f + 1600).toNat := by
 unfold fdB
 rw [tab_at hi' (by omega), hd, show (((f + 1600).toNat : Nat) : Int) - 1600 = f by omega]
theorem fdB_z {n : Nat} {c : Nat -> Int} {lo hi f : Int} {i d : Nat} (hi' : i + 1 = n) (h : c i + f - (lo + d) = 0) : fdB n c lo hi i f (d + 1) = 0 := by
 have hb := fdB_in (n := n) (c := c) (lo := lo) (hi := hi) (f := f) (i := i) (d := d)
 unfold fdB at hb ⊢
 rw [bstN_in h.symm (by omega) (by omega), hi', show (0 + 1600 : Int).toNat = 1600 by rfl, tab_endT]
 rw [hi'] at hb
 omega
theorem fdB_y {n : Nat} {c : Nat -> Int} {lo hi f o : Int} {i d : Nat} (h : o = c i + f - (lo + d)) (h1 : -1600 <= o) (h2 : o <= 1600) : fdB n c lo hi i f (d + 1) = min (fdB n c lo hi i f d) (max o (-o) + tab n c lo hi (i + 1) (o + 1600).toNat) := by
 unfold fdB
 rw [bstN_in h h1 h2]
theorem fdB_no {n : Nat} {c : Nat -> Int} {lo hi M f o : Int} {i d : Nat} (hM : MostM n c lo hi M) (hi' : i < n) (h : o = c i + f - (lo + d)) (hz : i + 1 = n -> o ≠ 0) (ho : i + 1 < n -> o < -M \/ M < o) : fdB n c lo hi i f (d + 1) = fdB n c lo hi i f d := by
 have hb := (fdB_in (n := n) (c := c) (lo := lo) (hi := hi) (f := f) (i := i) (d := d)).2
 unfold fdB at hb ⊢
 by_cases hin : -1600 <= o /\ o <= 1600
 ·have ht : tab n c lo hi (i + 1) (o + 1600).toNat = 1073741824 := by
   by_cases e : i + 1 = n
   ·rw [e]; exact tab_endN (hz e) hin.1 hin.2
   ·exact tab_out hM (by omega) hin.1 hin.2 (ho (by omega))
  rw [bstN_in h hin.1 hin.2, ht]
  omega
 ·exact bstN_out h (by omega)
@[irreducible] def fdV (n : Nat) (c : Nat -> Int) (lo hi M : Int) (i j : Nat) : Int := tab n c lo hi i ((j : Int) - M + 1600).toNat
theorem fdV_eq {n : Nat} {c : Nat -> Int} {lo hi M : Int} {i j : Nat} {o : Int} (h : (j : Int) = o + M) : fdV n c lo hi M i j = tab n c lo hi i (o + 1600).toNat := by
 unfold fdV; rw [show (j : Int) - M = o by omega]
@[irreducible] def fdZ (g k : Nat) : Bool := decide (g <= k)
theorem fdZ_in {g k : Nat} (h : g <= k) : fdZ g k = true := by unfold fdZ; simpa using h
theorem fdZ_out {g k : Nat} (h : k < g) : fdZ g k = false := by unfold fdZ; simpa using h
@[irreducible] def fdL (g : Nat) (M : Int) (k : Nat) : Nat := if g <= k then (2 * M + 1).toNat else 0
theorem fdL_in {g k : Nat} {M : Int} (h : g <= k) : fdL g M k = (2 * M + 1).toNat := by unfold fdL; rw [if_pos h]
theorem fdL_out {g k : Nat} {M : Int} (h : k < g) : fdL g M k = 0 := by unfold fdL; rw [if_neg (by omega)]
@[irreducible] def fdP (n : Nat) (c : Nat -> Int) (lo hi M : Int) (i h k j : Nat) : Int := if k = i then filT (fdV n c lo hi M i) h j else fdV n c lo hi M k j
theorem fdP_i {n : Nat} {c : Nat -> Int} {lo hi M : Int} {i h j : Nat} : fdP n c lo hi M i h i j = filT (fdV n c lo hi M i) h j := by unfold fdP; rw [if_pos rfl]
theorem fdP_n {n : Nat} {c : Nat -> Int} {lo hi M : Int} {i h k j : Nat} (e : k ≠ i) : fdP n c lo hi M i h k j = fdV n c lo hi M k j := by unfold fdP; rw [if_neg e]
@[irreducible] def ffN (n : Nat) (c : Nat -> Int) (lo hi : Int) : Nat := if posB n c lo hi = true then n - 1 else 0
theorem fwK_lt {n : Nat} {c : Nat -> Int} {lo hi : Int} (h : fewE n c lo hi = 0) {k : Nat} (hk : k + 1 <= n) : fwK n c lo hi k (fwN n c lo hi k) < wid lo hi := by
 obtain ⟨⟨l1, l2, l3⟩, b1, b2, b3, hp⟩ := few_split h
 have B := fBest h
 have hmn := (movN_in (f := qckF n c lo hi) (M := 1600) (m := n - 1) fun k hk => (qPlan h).b k hk).2
 have hle := B.le _ (qPlan h).fit
 have ht := B.t
 have hmm : ((n - 1 : Nat) : Int) * 1600 <= 16 * 1600 := Int.mul_le_mul_of_nonneg_right (by omega) (by omega)
 have hs := (fPlan (n := n) (c := c) b2 (by omega) k hk).s
 have hm := movF_nn (F := fwN n c lo hi) (d := k) (i := 0)
 have hF := fwN_in (n := n) (c := c) (lo := lo) (hi := hi) k
 have ek : (((fwN n c lo hi k + 1600).toNat : Nat) : Int) - 1600 = fwN n c lo hi k := by omega
 have hta := tab_at (n := n) (c := c) (lo := lo) (hi := hi) (i := k) (k := (fwN n c lo hi k + 1600).toNat) (by omega) (by omega)
 rw [ek] at hta
 obtain ⟨e, he, hin, hv⟩ := bstN_at (c0 := c k) (f := fwN n c lo hi k) (lo := lo) (nx := tab n c lo hi (k + 1)) (d := (hi - lo + 1).toNat) (by omega)
 have hw := wid_eq lo hi
 have hfk := fwK_eq n c lo hi k (fwN n c lo hi k)
 have hle := firstN_le (fwB n c lo hi k (fwN n c lo hi k)) (wid lo hi)
 rcases Nat.lt_or_ge (fwK n c lo hi k (fwN n c lo hi k)) (wid lo hi) with hh | hh
 ·exact hh
 ·have hno := firstN_not (fwB n c lo hi k (fwN n c lo hi k)) (wid lo hi) ((hi - lo).toNat - e) (by omega)
  have hyes : fwB n c lo hi k (fwN n c lo hi k) ((hi - lo).toNat - e) = true := (fwB_iff (o := c k + fwN n c lo hi k - (lo + e)) (by omega)).2 ⟨hin, by rw [hta, hv]⟩
  rw [hyes] at hno; cases hno
theorem fwN_M {n : Nat} {c : Nat -> Int} {lo hi M : Int} (h : fewE n c lo hi = 0) (hM : MostM n c lo hi M) : ∀ {k : Nat}, k < n -> -M <= fwN n c lo hi k /\ fwN n c lo hi k <= M
 | 0, _ => by rw [fwN_zero]; have := hM.m; omega
 | k + 1, hk => by
   obtain ⟨⟨l1, l2, l3⟩, b1, b2, b3, hp⟩ := few_split h
   have hB := fit_brings l1 (fBest h).fit
   have a := brings_s hB (fun k hk => (l3 k hk).1) b1 (i := k + 1) (by omega)
   rw [inAt_succ, flAt_in (by omega), fwF_eq] at a
   have b := sumN_mono (V := c) (n := n) (fun k hk => (l3 k hk).1) (show k + 1 <= n by omega) (Nat.le_refl _)
   have e : ((k + 1 : Nat) : Int) * hi <= (n : Int) * hi := Int.mul_le_mul_of_nonneg_right (by omega) (by omega)
   rw [Int.mul_comm (n : Int) hi] at e
   have := hM.a
   have := hM.b
   omega
def rffS : Spec [inSh, .int .i64, .int .i64] := ⟨fun ((n, c), (lo : Int), (hi : Int), _) => 1 <= n /\ n <= 16 /\ 0 <= lo /\ lo <= hi /\ hi <= 100 /\ ∀ k, k < n -> 0 <= (c k).1 /\ (c k).1 <= 100, fun ((n, c), (lo : Int), (hi : Int), _) => .tup [.slc (.sym (ffN n (fun k => (c k).1) lo hi)) 1 (fun k => [.si .i64 (fwF n (fun k => (c k).1) lo hi k)]), .sb (posB n (fun k => (c k).1) lo hi)]⟩
def rffI : DatL [inSh, .int .i64, .int .i64] -> Anns := fun ((n, c), (lo : Int), (hi : Int), _) => [
 (2097152 + 11, [(11, 3, 17)], fun _ _ => ⟨Unit, fun _ => ⟨[], []⟩, Unit, fun _ => (), fun _ => True, fun _ => 0⟩),
 (2097152 + 14, [(11, 12, 1)], fun _ _ => ⟨Unit, fun _ => ⟨[], []⟩, Unit, fun _ => (), fun _ => True, fun _ => 0⟩),
 (2097152 + 15, [(11, 0, 2)], fun _ _ => ⟨Unit, fun _ => ⟨[], []⟩, Unit, fun _ => (), fun _ => True, fun _ => 0⟩),
 (2097152 + 27, [(11, 12, 1)], fun _ _ => ⟨Unit, fun _ => ⟨[], []⟩, Unit, fun _ => (), fun _ => True, fun _ => 0⟩),
 (2097152 + 17, [(11, 0, 2)], fun _ _ => ⟨Unit, fun _ => ⟨[], []⟩, Unit, fun _ => (), fun _ => True, fun _ => 0⟩),
 (2097152 + 13, [(11, 12, 1), (11, 0, 3)], fun _ _ => ⟨Unit, fun _ => ⟨[], []⟩, Unit, fun _ => (), fun _ => True, fun _ => 0⟩),
 (2097152 + 28, [(11, 0, 4)], fun _ _ => ⟨Unit, fun _ => ⟨[], []⟩, Unit, fun _ => (), fun _ => True, fun _ => 0⟩),
 (6, [], fun fr hp => ⟨Nat, fun g => ⟨frI [.k 9, .s (.si .i64 (sumN (fun k => (c k).1) g)), .s (.si .i64 (icast g)), .k 18, .t 151] fr, hp⟩, Nat × Nat, fun g => (n, g), fun (n, g) => g <= n, fun g => nsub n g⟩),
 (12, [], fun fr hp => ⟨Nat, fun g => ⟨frI [.k 12, .s (.si .i64 (isub (icast g) 1)), .t 4, .k 32, .t 131] fr, setB hp 0 (.rows 23 3 1 (.sym n) (fun k => fdZ g k) (fun k => fdL g (intOf (getL fr 9)) k) (fun k j => [.si .i64 (fdV n (fun k => (c k).1) lo hi (intOf (getL fr 9)) k j)]) none)⟩, Nat × Nat, fun g => (n, g), fun (n, g) => g <= n, fun g => g⟩),
 (16, [], fun fr hp => ⟨Nat, fun h => ⟨frI [.k 13, .s (.si .i64 (isub (icast h) (intOf (getL fr 9)))), .t 3, .k 45, .t 118] fr, setB hp 0 (.rows 23 3 1 (.sym n) (fun k => fdZ (nadd (nat (intOf (getL fr 12))) 1) k) (fun k => fdL (nat (intOf (getL fr 12))) (intOf (getL fr 9)) k) (fun k j => [.si .i64 (fdP n (fun k => (c k).1) lo hi (intOf (getL fr 9)) (nat (intOf (getL fr 12))) h k j)]) none)⟩, Nat × Int, fun h => (h, intOf (getL fr 9)), fun (h, (m : Int)) => (h : Int) <= 2 * m + 1, fun h => nsub 3202 h⟩),
 (20, [], fun fr hp => ⟨Nat, fun d => ⟨frI [.k 14, .s (.si .i64 (fdB n (fun k => (c k).1) lo hi (nat (intOf (getL fr 12))) (intOf (getL fr 13)) d)), .s (.si .i64 (iadd lo (icast d))), .t 1, .k 51, .t 112] fr, hp⟩, Nat × Nat, fun d => (d, wid lo hi), fun (d, w) => d <= w, fun d => nsub 102 d⟩),
 (31, [(17, 3, 1)], fun fr hp => ⟨Nat, fun g => ⟨frI [.k 18, .s (.si .i64 (fwN n (fun k => (c k).1) lo hi g)), .s (.si .i64 (icast g)), .t 2, .k 103, .t 55] fr, setB hp 1 (.row 3 1 (.sym g) (fun k => [.si .i64 (fwF n (fun k => (c k).1) lo hi k)]))⟩, Nat × Nat, fun g => (n, g), fun (n, g) => g + 1 <= n, fun g => nsub n g⟩),
 (34, [], fun fr hp => ⟨Nat, fun d => ⟨frI [.k 20, .s (.si .i64 (isub hi (icast d))), .t 1, .k 110, .t 48] fr, hp⟩, Nat × Nat, fun d => (d, fwK n (fun k => (c k).1) lo hi (nat (intOf (getL fr 19))) (intOf (getL fr 18))), fun (d, q) => d <= q, fun d => nsub 101 d⟩)]
set_option maxRecDepth 100000 in
set_option maxHeartbeats 2000000 in
theorem rff_ok : FnSpec Try.prog 67 _ rffS := by
 refine FnSpec.of SP3_ok mixed (U := 0) (I := rffI) Try.func67 rfl (by kernel_rfl) rfl rfl (by decide +kernel) ?_
 rintro ⟨⟨n, c'⟩, (lo : Int), (hi : Int), ⟨⟩⟩ ⟨(h0 : 1 <= n), (h1 : n <= 16), (h2 : 0 <= lo), (h3 : lo <= hi), (h5 : hi <= 100), (h6 : ∀ k, k < n -> 0 <= (c' k).1 /\ (c' k).1 <= 100)⟩
 obtain ⟨c, rfl⟩ : ∃ c : Nat -> Int, c' = fun k => (c k, ()) := ⟨fun k => (c' k).1, rfl⟩
 have h6 : ∀ k, k < n -> 0 <= c k /\ c k <= 100 := h6
 unfold FnSat
 conv => arg 2; reduce
 simp [rffS, rpoS, amS, ElEq, RowsEq, getB, goneB, aliveB, maxRow, and_assoc]
 have e1 : (fun k => c k) = c := rfl
 simp only [e1]
 have hF0 : ¬ posB n c lo hi = true -> ffN n c lo hi = 0 := fun h => by unfold ffN; rw [if_neg h]
 have hF1 : posB n c lo hi = true -> ffN n c lo hi = n - 1 := fun h => by unfold ffN; rw [if_pos h]
 rw [posB_eq] at hF0 hF1
 simp only [Bool.and_eq_true, decide_eq_true_eq] at hF0 hF1
 refine ⟨h1, h2, by omega, by omega, h5, h6, fun hs => ⟨hF0 (by omega), by omega⟩, fun p1 p2 => ⟨⟨0, by simp, rfl, by omega⟩, fun g hg => ⟨fun hlt => ?_, fun hge => ?_⟩⟩⟩
 ·have a := sumN_in (c := c) (M := 100) (n := g) fun k hk => by have := h6 k (by omega); omega
  have b := h6 g hlt
  exact ⟨hlt, by omega, by omega, by omega, by omega, g + 1, by rw [sumN_succ], by omega, by omega, by omega⟩
 obtain rfl : g = n := by omega
 have hhn : 0 <= hi * (g : Int) /\ hi * (g : Int) <= 1600 := by
  have a := mul_b (x := (g : Int)) (h := hi) (by omega) (by omega) (by omega) h5
  rw [Int.mul_comm]; exact a
 have hsn := sumN_in (c := c) (M := 100) (n := g) fun k hk => by have := h6 k hk; omega
 have hM : MostM g c lo hi (max (sumN c g) (hi * g)) := ⟨h1, h6, ⟨h2, h3, h5⟩, by omega, by omega, by omega⟩
 have hM1 : 0 <= max (sumN c g) (hi * g) /\ max (sumN c g) (hi * g) <= 1600 := hM.m
 have hL1 := hF1 ⟨p1, p2⟩
 have hfw := fewE_ok (bdE_0.2 ⟨lvE_0.2 ⟨h0, h1, h6⟩, h2, h3, h5⟩) (by rw [posB_eq]; simp; exact ⟨p1, p2⟩)
 generalize max (sumN c g) (hi * g) = M at *
 clear hF0 hF1 hsn
 refine ⟨by omega, by omega, by omega, by omega, by omega, by omega, ⟨g, rfl, fun k hk => ⟨fdZ_out hk, by rw [fdL_out hk], fun j => by rw [fdL_out hk]; omega⟩, by omega⟩, fun q hq => ⟨fun hq1 => ?_, fun hq0 => ?_⟩⟩
 ·obtain ⟨i, rfl⟩ : ∃ i, q = i + 1 := ⟨q - 1, by omega⟩
  simp only [Nat.add_sub_cancel]
  have hW : ((2 * M + 1).toNat : Int) = 2 * M + 1 := by omega
  refine ⟨by omega, by omega, fdZ_out (by omega), by omega, by omega, by omega, by omega, by omega, by omega, by omega, by omega, by omega, by omega, ⟨0, by omega, fun k hk => ⟨?_, ?_, fun j hj => ?_⟩, by omega⟩, fun h hh => ⟨fun hh1 => ⟨⟨0, fdB_0.symm, by omega, by omega⟩, fun d hd => ⟨fun hd1 => ?_, fun hd0 => ?_⟩⟩, fun hh0 => ?_⟩⟩
  ·unfold updZ
   by_cases e : k = i
   ·subst e; rw [if_pos rfl, fdZ_out (by omega)]
   ·rw [if_neg e]
  ·unfold updN
   by_cases e : k = i
   ·subst e; rw [if_pos rfl, fdL_in (Nat.le_refl _)]
   ·rw [if_neg e]
    by_cases h : i < k
    ·show fdL (i + 1) M k = _
     rw [fdL_in (by omega), fdL_in (by omega)]
    ·show fdL (i + 1) M k = _
     rw [fdL_out (by omega), fdL_out (by omega)]
  ·unfold updR
   by_cases e : k = i
   ·subst e; rw [if_pos rfl, fdP_i, filT_zero]; rfl
   ·rw [if_neg e, fdP_n e]; rfl
  ·have hc := h6 i (by omega)
   have hw := wid_eq lo hi
   have hb := fdB_in (n := g) (c := c) (lo := lo) (hi := hi) (f := h - M) (i := i) (d := d)
   generalize hf : (h : Int) - M = f at *
   generalize ho : c i + f - (lo + ↑d) = o at *
   refine ⟨by omega, by omega, by omega, by omega, by omega, by omega, by omega, by omega, fun e1 e2 => ⟨by omega, by omega, d + 1, ?_, by omega, by omega, by omega⟩, fun hz => ⟨by omega, by omega, fun _ => by omega, fun e1 e2 => ?_, fun e1 => ⟨by omega, by omega, d + 1, ?_, by omega, by omega, by omega⟩⟩⟩
   ·exact (fdB_z (by omega) (by omega)).symm
   ·have ht := tab_b (n := g) (c := c) (lo := lo) (hi := hi) (d := g - (i + 1)) (i := i + 1) rfl (o + 1600).toNat
    have eV : fdP g c lo hi M i h (i + 1) (o + M).toNat = tab g c lo hi (i + 1) (o + 1600).toNat := by rw [fdP_n (by omega), fdV_eq (o := o) (by omega)]
    rw [eV, fdL_in (by omega), hW]
    exact ⟨by omega, by omega, by omega, by omega, fdZ_in (Nat.le_refl _), by omega, by omega, by omega, by omega, by omega, by omega, by omega, by omega, d + 1, (fdB_y ho.symm (by omega) (by omega)).symm, by omega, by omega, by omega⟩
   ·exact (fdB_no hM (by omega) ho.symm (fun e => hz (by omega)) fun e => by have := e1 e; omega).symm
  ·have hdw : d = (hi - lo + 1).toNat := by rw [<- wid_eq]; have := wid_eq lo hi; omega
   rw [fdL_in (Nat.le_refl _)]
   refine ⟨by omega, by omega, fdZ_out (by omega), by omega, by omega, by omega, by omega, by omega, by omega, h + 1, by omega, fun k hk => ⟨?_, ?_, fun j hj => ?_⟩, by omega, by omega⟩
   ·unfold updZ
    by_cases e : k = i
    ·subst e; rw [if_pos rfl, fdZ_out (by omega)]
    ·rw [if_neg e]
   ·unfold updN
    by_cases e : k = i
    ·subst e; rw [if_pos rfl, fdL_in (Nat.le_refl _)]
    ·rw [if_neg e]
   ·unfold updR
    by_cases e : k = i
    ·subst e
     rw [if_pos rfl]
     by_cases ej : j = h
     ·subst ej
      rw [if_pos rfl, fdP_i, filT_in (by omega), fdB_n (by omega) (by omega) hdw, fdV_eq (o := (j : Int) - M) (by omega)]; rfl
     ·rw [if_neg ej, fdP_i, fdP_i]
      by_cases hjh : j < h
      ·rw [filT_in hjh, filT_in (by omega)]; rfl
      ·rw [filT_out (by omega), filT_out (by omega)]; rfl
    ·rw [if_neg e, fdP_n e]
     show nrmL [AV.si IntKind.i64 (fdP g c lo hi M i h k j)] = _
     rw [fdP_n e]; rfl
  ·refine ⟨by omega, by omega, fdZ_out (by omega), by omega, by omega, i, by omega, fun k hk => ⟨?_, ?_, fun j hj => ?_⟩, by omega, by omega⟩
   ·unfold updZ
    by_cases e : k = i
    ·subst e; rw [if_pos rfl, fdZ_in (Nat.le_refl _)]
    ·rw [if_neg e]
     by_cases hki : i < k
     ·show fdZ (i + 1) k = _
      rw [fdZ_in (by omega), fdZ_in (by omega)]
     ·show fdZ (i + 1) k = _
      rw [fdZ_out (by omega), fdZ_out (by omega)]
   ·unfold updN
    by_cases e : k = i
    ·subst e; rw [if_pos rfl]
    ·rw [if_neg e]
   ·unfold updR
    by_cases e : k = i
    ·subst e
     rw [fdL_in (Nat.le_refl _)] at hj
     rw [if_pos rfl, fdP_i, filT_in (by omega)]; rfl
    ·rw [if_neg e]
     show nrmL [AV.si IntKind.i64 (fdP g c lo hi M i h k j)] = _
     rw [fdP_n e]; rfl
 ·obtain rfl : q = 0 := by omega
  have hX := fun k hk => fwN_M hfw hM (k := k) hk
  have hKl := fun k hk => fwK_lt hfw (k := k) hk
  have hLq : ∀ k, ((fdL 0 M k : Nat) : Int) = 2 * M + 1 := fun k => by rw [fdL_in (by omega)]; omega
  refine ⟨⟨0, by simp, rfl, rfl, fun j => by omega, by omega⟩, fun i hi' => ⟨by omega, by omega, fun hlt => ⟨⟨0, by omega, by omega⟩, fun d hd => ⟨fun hdl => ?_, fun hdl => ?_⟩⟩, fun hge2 => ⟨by rw [hL1]; omega, p1, p2⟩⟩⟩
  ·have hf := hX i (by omega)
   have hc := h6 i (by omega)
   have hS := fwN_succ g c lo hi i
   have hw := wid_eq lo hi
   have hKi := hKl i hi'
   have hfl := fwK_eq g c lo hi i (fwN g c lo hi i)
   have hv1 := tab_b (n := g) (c := c) (lo := lo) (hi := hi) (d := g - (i + 1)) (i := i + 1) rfl
   have hv2 := tab_b (n := g) (c := c) (lo := lo) (hi := hi) (d := g - i) (i := i) rfl (fwN g c lo hi i + 1600).toNat
   have hout := fun o => tab_out hM (i := i + 1) (by omega) (o := o)
   have hiff := fun o => fwB_iff (n := g) (c := c) (lo := lo) (hi := hi) (i := i) (f := fwN g c lo hi i) (d := d) (o := o)
   have hno := fun o => fwB_no (n := g) (c := c) (lo := lo) (hi := hi) (i := i) (f := fwN g c lo hi i) (d := d) (o := o)
   have eV2 : fdV g c lo hi M i (fwN g c lo hi i + M).toNat = tab g c lo hi i (fwN g c lo hi i + 1600).toNat := fdV_eq (by omega)
   rw [eV2, hLq, hLq]
   have hSa := fun a b => fwS_at (n := g) (c := c) (lo := lo) (hi := hi) (i := i) (d := d) (f := fwN g c lo hi i) hd a b
   generalize hF : fwN g c lo hi i = F at *
   generalize ho : c i + F - (hi - (d : Int)) = o at *
   have eV1 : max o (-o) <= M -> fdV g c lo hi M (i + 1) (o + M).toNat = tab g c lo hi (i + 1) (o + 1600).toNat := fun h => fdV_eq (by omega)
   have hv1 := hv1 (o + 1600).toNat
   have hout := hout o
   have hiff := hiff o rfl
   have hno := hno o rfl
   generalize tab g c lo hi (i + 1) (o + 1600).toNat = V1 at *
   generalize tab g c lo hi i (F + 1600).toNat = V2 at *
   refine ⟨by omega, by omega, by omega, by omega, by omega, by omega, by omega, fun _ => by omega, fun _ => by omega, fun _ => by omega, fun _ => by omega, fun _ => by omega, fun h => by rw [eV1 h]; omega, fun _ => by omega, fun _ => by omega, fun _ => by omega, fun hx he => ?_, fun hx => ?_⟩
   ·rw [eV1 hx] at he
    have hB : fwB g c lo hi i F d = true := hiff.2 ⟨by omega, he⟩
    have hS1 := hSa (by omega) hB
    rw [<- hS] at hS1
    exact ⟨by omega, by omega, by omega, i + 1, hS1.symm, by omega, rfl, fun j hj => app_one hj (fun _ => rfl) (fun e => by subst e; rw [fwF_eq, hS1]; rfl), by omega, by omega⟩
   ·have hB : fwB g c lo hi i F d = false := hno fun hh => by
     by_cases hm : max o (-o) <= M
     ·exact hx hm (by rw [eV1 hm]; exact hh.2)
     ·have := hout hh.1.1 hh.1.2 (by omega)
      omega
    have hd1 : d < wid lo hi := by omega
    have hge3 : d + 1 <= fwK g c lo hi i F := by
     rw [hfl] at hd ⊢
     exact firstN_ge hd hB hd1
    exact ⟨by omega, by omega, d + 1, by omega, hge3, by omega⟩
  ·exfalso
   have hw := wid_eq lo hi
   have := hKl i hi'
   omega
noncomputable def SQ1 : Sums := ⟨(67, mkSum _ rffS) :: SP3.one, SP3.two, SP3.lo, SP3.eqs, SP3.its, SP3.imm⟩
theorem SQ1_ok : SumsOK Try.prog SQ1 := (SP3_ok.cons Try.func67 (by kernel_rfl) (by kernel_rfl) rff_ok)
def rfwS : Spec [inSh, .int .i64, .int .i64] := ⟨fun _ => True, fun ((n, c), (lo : Int), (hi : Int), _) => .tup [.slc (.sym (okN (fewE n (fun k => (c k).1) lo hi) (nsub n 1))) 1 (fun k => [.si .i64 (fwF n (fun k => (c k).1) lo hi k)]),
 .si .i64 (okI (fewE n (fun k => (c k).1) lo hi) (movN (fwF n (fun k => (c k).1) lo hi) (nsub n 1))), .si .i64 (fewE n (fun k => (c k).1) lo hi)]⟩
set_option maxRecDepth 100000 in
theorem rfw_ok : FnSpec Try.prog 37 _ rfwS := by
 refine FnSpec.of SQ1_ok mixed (U := 0) (I := fun _ => []) Try.func37 rfl (by kernel_rfl) rfl rfl (by decide +kernel) ?_
 rintro ⟨⟨n, c'⟩, (lo : Int), (hi : Int), ⟨⟩⟩ -
 obtain ⟨c, rfl⟩ : ∃ c : Nat -> Int, c' = fun k => (c k, ()) := ⟨fun k => (c' k).1, rfl⟩
 unfold FnSat
 conv => arg 2; reduce
 simp [rfwS, rbdS, rffS, rmvS, ElEq, getB, goneB, aliveB, and_assoc]
 have e1 : (fun k => c k) = c := rfl
 simp only [e1]
 refine ⟨fun h => ?_, fun h => ?_⟩
 ·have e := fewE_bd (n := n) (c := c) (lo := lo) (hi := hi) h
  have he : fewE n c lo hi ≠ 0 := by rw [e]; exact h
  exact ⟨okN_e he, (okI_e he).symm, e.symm⟩
 obtain ⟨hl, b1, b2, b3⟩ := bdE_0.1 h
 obtain ⟨l1, l2, l3⟩ := lvE_0.1 hl
 refine ⟨l1, l2, b1, b2, b3, l3, fun hs => ?_, fun p1 p2 => ?_⟩
 ·have e := fewE_18 (n := n) (c := c) (lo := lo) (hi := hi) h (by simp; omega)
  have he : fewE n c lo hi ≠ 0 := by omega
  exact ⟨okN_e he, (okI_e he).symm, e.symm⟩
 have hp : posB n c lo hi = true := by rw [posB_eq]; simp; exact ⟨p1, p2⟩
 have he := fewE_ok (n := n) (c := c) (lo := lo) (hi := hi) h hp
 have hF : ffN n c lo hi = n - 1 := by unfold ffN; rw [if_pos hp]
 have eF : (fun k => fwF n c lo hi k) = fwF n c lo hi := rfl
 rw [hF, okN_0 he, okI_0 he, eF]
 exact ⟨by omega, fun k hk => by have := fwN_in (n := n) (c := c) (lo := lo) (hi := hi) (k + 1); show -2000 <= fwF n c lo hi k /\ fwF n c lo hi k <= 2000; rw [fwF_eq]; omega, rfl, rfl, he.symm⟩
@[irreducible] def lgP (c : Nat -> Int) (m : Int) (k : Nat) : Bool := decide (m < c k) && decide (c k <= 100)
def lgS : Spec [inSh, .int .i64] := ⟨fun ((n, _), _) => n <= 10, fun ((n, c), (m : Int), _) => .sb (anyN (lgP (fun k => (c k).1) m) n)⟩
def lgI : DatL [inSh, .int .i64] -> Anns := fun ((n, c), (m : Int), _) => [
 (2, [], fun fr hp => ⟨Nat, fun k => ⟨frI [.k 5, .s (.si .i64 (icast k)), .t 19] fr, hp⟩, Nat × Nat × (Nat -> Bool), fun k => (n, k, lgP (fun k => (c k).1) m), fun (n, k, b) => k <= n /\ ∀ j, j < k -> b j = false, fun k => nsub n k⟩)]
set_option maxRecDepth 100000 in
theorem lg_ok : FnSpec Try.prog 36 _ lgS := by
 refine FnSpec.of SQ1_ok mixed (U := 0) (I := lgI) Try.func36 rfl (by kernel_rfl) rfl rfl (by decide +kernel) ?_
 rintro ⟨⟨n, c'⟩, (m : Int), ⟨⟩⟩ (hn10 : n <= 10)
 obtain ⟨c, rfl⟩ : ∃ c : Nat -> Int, c' = fun k => (c k, ()) := ⟨fun k => (c' k).1, rfl⟩
 unfold FnSat
 conv => arg 2; reduce
 simp [lgS, ElEq, getB, goneB, aliveB, and_assoc]
 have e1 : (fun k => c k) = c := rfl
 simp only [e1]
 have hy : ∀ g, m < c g -> c g <= 100 -> lgP c m g = true := fun g a b => by unfold lgP; simp [a, b]
 have hn : ∀ g, (m < c g -> 100 < c g) -> lgP c m g = false := fun g a => by
  unfold lgP
  by_cases h : m < c g
  ·have := a h; simp; omega
  ·simp [h]
 refine ⟨⟨0, rfl, by omega, fun j hj => by omega⟩, fun g hg hall => ⟨fun hlt => ⟨hlt, fun _ => hlt, fun a b => anyN_iff.2 ⟨g, hlt, hy g a b⟩, fun a => ⟨by omega, by omega, g + 1, by omega, by omega, fun j hj => ?_, by omega⟩⟩, fun hge => anyN_false.2 fun j hj => hall j (by omega)⟩⟩
 by_cases e : j = g
 ·subst e; exact hn j a
 ·exact hall j (by omega)
noncomputable def SQ2 : Sums := ⟨(36, mkSum _ lgS) :: (37, mkSum _ rfwS) :: SQ1.one, SQ1.two, SQ1.lo, SQ1.eqs, SQ1.its, SQ1.imm⟩
theorem SQ2_ok : SumsOK Try.prog SQ2 := ((SQ1_ok.cons Try.func37 (by kernel_rfl) (by kernel_rfl) rfw_ok).cons Try.func36 (by kernel_rfl) (by kernel_rfl) lg_ok)
end
end Abs
end Go.Proofs.Ytdhbbdljiidgiaa

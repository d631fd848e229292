/- A part of the proof: no statement of its own. -/
import Derived.Test.YtbbjcfakoggbnaaGreatQG108fe7cc
import Derived.Test.YtbbjcfakoggbnaaGreatProg
set_option linter.unusedSimpArgs false
set_option linter.unusedVariables false
/- Plain numbers: leaf functions of specs, and what is known of them. -/
namespace Go.Proofs.YtbbjcfakoggbnaaGreat
namespace Abs
open Go

@[irreducible] def isIn (lo x hi : Int) : Bool := decide (lo ≤ x) && decide (x ≤ hi)
@[simp] theorem isIn_eq (lo x hi : Int) : isIn lo x hi = (decide (lo ≤ x) && decide (x ≤ hi)) := by unfold isIn; rfl
@[irreducible] def fdiv (n d : Int) : Int := n / d
@[simp] theorem fdiv_eq (n d : Int) : fdiv n d = n / d := by unfold fdiv; rfl
theorem fdiv_a (n d : Int) (h0 : 0 < d) (h : n.tmod d < 0) : n.tdiv d - 1 = n / d := by
  have h1 := Int.tmod_add_tdiv_mul n d
  have h2 := Int.lt_tmod_of_pos n h0
  have : n / d = n.tdiv d - 1 := by
    rw [Int.ediv_eq_iff_of_pos h0, Int.sub_mul]
    constructor <;> omega
  exact this.symm
theorem fdiv_b (n d : Int) (h0 : 0 < d) (h : 0 ≤ n.tmod d) : n.tdiv d = n / d := by
  have h1 := Int.tmod_add_tdiv_mul n d
  have h2 := Int.tmod_lt_of_pos n h0
  have : n / d = n.tdiv d := by
    rw [Int.ediv_eq_iff_of_pos h0]
    constructor <;> omega
  exact this.symm
theorem fdiv_ge (n d : Int) (h0 : 0 < d) (h : -9223372036854775808 ≤ n) : -9223372036854775808 ≤ n / d := by
  rw [Int.le_ediv_iff_mul_le h0]
  have : -9223372036854775808 * d ≤ -9223372036854775808 * 1 := Int.mul_le_mul_of_nonpos_left (by omega) (by omega)
  omega
theorem fdiv_le (n d : Int) (h0 : 0 < d) (h : n ≤ 9223372036854775807) : n / d ≤ 9223372036854775807 := by
  have : n / d < 9223372036854775808 := by
    rw [Int.ediv_lt_iff_lt_mul h0]
    have : 9223372036854775808 * 1 ≤ 9223372036854775808 * d := Int.mul_le_mul_of_nonneg_left (by omega) (by omega)
    omega
  omega
theorem tdiv_in (n d : Int) (h0 : 0 < d) (h : InR .i64 n) : InR .i64 (n.tdiv d) := by
  simp at h ⊢
  have h1 := fdiv_ge n d h0 h.1
  have h2 := fdiv_le n d h0 h.2
  by_cases hm : n.tmod d < 0
  · have h3 := fdiv_a n d h0 hm
    have h4 : n < 0 := by
      apply Int.lt_of_not_ge
      intro h
      have := Int.tmod_nonneg d h; omega
    have h5 : n / d < 0 := Int.ediv_neg_of_neg_of_pos h4 h0
    omega
  · have h3 := fdiv_b n d h0 (by omega); omega
theorem tdiv2 (b : Int) (h : 0 ≤ b) : b.tdiv 2 = b / 2 := Int.tdiv_eq_ediv_of_nonneg h
theorem tmod_z (n d : Int) : n.tmod d = 0 ↔ n % d = 0 := by
  constructor
  · intro h; exact Int.emod_eq_zero_of_dvd (Int.dvd_of_tmod_eq_zero h)
  · intro h; exact Int.tmod_eq_zero_of_dvd (Int.dvd_of_emod_eq_zero h)
@[irreducible] def intoV (x lo hi : Int) : Int := max lo (min x hi)
def within : Spec [.int .i64, .int .i64, .int .i64] := ⟨fun _ => True, fun (x, lo, hi, _) => .sb (isIn lo x hi)⟩
def floor : Spec [.int .i64, .int .i64] := ⟨fun ((n : Int), (d : Int), _) => InR .i64 n ∧ 0 < d, fun (n, d, _) => .si .i64 (fdiv n d)⟩
def into : Spec [.int .i64, .int .i64, .int .i64] := ⟨fun _ => True, fun ((x : Int), (lo : Int), (hi : Int), _) => .si .i64 (intoV x lo hi)⟩
@[irreducible] def isQ (x : Int) : Bool := isIn (-1099511627776) x 1099511627776
def isQs : Spec [.int .i64] := ⟨fun _ => True, fun ((x : Int), _) => .sb (isQ x)⟩
end Abs
end Go.Proofs.YtbbjcfakoggbnaaGreat

/- Sensors: plain numbers. -/
namespace Go.Proofs.YtbbjcfakoggbnaaGreat
namespace Abs
open Go
@[irreducible] def sensOK (a b c d : Int) : Bool := isIn 0 a 1073741824 && isIn 1 b 1073741824 && isIn (-1073741824) c 1073741824 && isIn c d 1073741824
@[irreducible] def errB (b : Bool) : Int := if b then 0 else 2
@[reducible] def senSh : Sh := .agg [.int .i64, .int .i64, .int .i64, .int .i64]
def check : Spec [senSh] := ⟨fun _ => True, fun ((a, b, c, d, _), _) => .si .i64 (errB (sensOK a b c d))⟩
@[irreducible] def stepV (b y : Int) : Int := b * ((y + b / 2) / b)
@[irreducible] def showV (a b c d x n : Int) : Int := if sensOK a b c d && isQ x && isIn (-a) n a then intoV (stepV b (x + n)) c d else 0
@[irreducible] def showE (a b c d x n : Int) : Int := if sensOK a b c d && isQ x then (if isIn (-a) n a then 0 else 3) else 2
theorem stepV_lo (b y : Int) (hb : 1 ≤ b) : y + b / 2 - b < stepV b y := by
  unfold stepV
  have h1 := Int.mul_ediv_add_emod (y + b / 2) b
  have h2 := Int.emod_lt_of_pos (y + b / 2) (show 0 < b by omega)
  omega
theorem stepV_hi (b y : Int) (hb : 1 ≤ b) : stepV b y ≤ y + b / 2 := by
  unfold stepV
  have h1 := Int.mul_ediv_add_emod (y + b / 2) b
  have h2 := Int.emod_nonneg (y + b / 2) (show b ≠ 0 by omega)
  omega
def show_ : Spec [senSh, .int .i64, .int .i64] := ⟨fun _ => True, fun ((a, b, c, d, _), x, n, _) => .tup [.si .i64 (showV a b c d x n), .si .i64 (showE a b c d x n)]⟩
theorem showE_2 {a b c d x n : Int} (h : (sensOK a b c d && isQ x) = false) : showV a b c d x n = 0 ∧ showE a b c d x n = 2 := by
  unfold showV showE; rw [h]; simp
theorem showE_3 {a b c d x n : Int} (h : (sensOK a b c d && isQ x) = true) (h' : isIn (-a) n a = false) : showV a b c d x n = 0 ∧ showE a b c d x n = 3 := by
  unfold showV showE; rw [h, h']; simp
theorem showE_0 {a b c d x n : Int} (h : (sensOK a b c d && isQ x) = true) (h' : isIn (-a) n a = true) : showV a b c d x n = intoV (stepV b (x + n)) c d ∧ showE a b c d x n = 0 := by
  unfold showV showE; rw [h, h']; simp

-- what is behind a reading
@[irreducible] def readOK (b c d r : Int) : Bool := isIn c r d && (decide (r = c) || decide (r = d) || decide (r % b = 0))
@[irreducible] def behE (a b c d r : Int) : Int := if sensOK a b c d then (if readOK b c d r then 0 else 5) else 2
@[irreducible] def behLo (a b c d r : Int) : Int := if sensOK a b c d && readOK b c d r then (if c < r then b * -(-r / b) - b / 2 - a else -1099511627776) else 0
@[irreducible] def behHi (a b c d r : Int) : Int := if sensOK a b c d && readOK b c d r then (if r < d then b * (r / b) + b - 1 - b / 2 + a else 1099511627776) else 0
def behind : Spec [senSh, .int .i64] := ⟨fun _ => True, fun ((a, b, c, d, _), r, _) => .tup [.agg [.si .i64 (behLo a b c d r), .si .i64 (behHi a b c d r)], .si .i64 (behE a b c d r)]⟩
theorem beh_2 {a b c d r : Int} (h : sensOK a b c d = false) : behLo a b c d r = 0 ∧ behHi a b c d r = 0 ∧ behE a b c d r = 2 := by
  unfold behLo behHi behE; rw [h]; simp
theorem beh_5 {a b c d r : Int} (h : sensOK a b c d = true) (h' : readOK b c d r = false) : behLo a b c d r = 0 ∧ behHi a b c d r = 0 ∧ behE a b c d r = 5 := by
  unfold behLo behHi behE; rw [h, h']; simp
theorem beh_0 {a b c d r : Int} (h : sensOK a b c d = true) (h' : readOK b c d r = true) :
    behLo a b c d r = (if c < r then b * -(-r / b) - b / 2 - a else -1099511627776) ∧ behHi a b c d r = (if r < d then b * (r / b) + b - 1 - b / 2 + a else 1099511627776) ∧ behE a b c d r = 0 := by
  unfold behLo behHi behE; rw [h, h']; simp
theorem mul_div_le (r b : Int) (hb : 1 ≤ b) : b * (r / b) ≤ r ∧ r < b * (r / b) + b := by
  have h1 := Int.mul_ediv_add_emod r b
  have h2 := Int.emod_nonneg r (show b ≠ 0 by omega)
  have h3 := Int.emod_lt_of_pos r (show 0 < b by omega)
  omega
theorem mul_cdiv_le (r b : Int) (hb : 1 ≤ b) : r ≤ b * -(-r / b) ∧ b * -(-r / b) < r + b := by
  have := mul_div_le (-r) b hb
  rw [Int.mul_neg]
  omega
theorem le_step (b y r : Int) (hb : 1 ≤ b) : r ≤ stepV b y ↔ b * -(-r / b) ≤ y + b / 2 := by
  unfold stepV
  have h1 : b * -(-r / b) ≤ y + b / 2 ↔ -(-r / b) ≤ (y + b / 2) / b := by rw [Int.le_ediv_iff_mul_le (by omega), Int.mul_comm]
  have h2 : -((y + b / 2) / b) ≤ -r / b ↔ -((y + b / 2) / b) * b ≤ -r := Int.le_ediv_iff_mul_le (by omega)
  rw [Int.neg_mul, Int.mul_comm ((y + b / 2) / b) b] at h2
  omega
theorem lt_step (b y r : Int) (hb : 1 ≤ b) : r < stepV b y ↔ b * (r / b) + b ≤ y + b / 2 := by
  unfold stepV
  have h1 : (r / b + 1) ≤ (y + b / 2) / b ↔ (r / b + 1) * b ≤ y + b / 2 := Int.le_ediv_iff_mul_le (by omega)
  have h2 : r / b < (y + b / 2) / b ↔ r < (y + b / 2) / b * b := Int.ediv_lt_iff_lt_mul (by omega)
  rw [Int.add_mul, Int.one_mul, Int.mul_comm (r / b) b] at h1
  rw [Int.mul_comm ((y + b / 2) / b) b] at h2
  omega
@[irreducible] def thr1 (a b c d r : Int) : Int := if r ≤ c then -1099511627776 else if d < r then 1099511627777 else b * -(-r / b) - b / 2 - a
@[irreducible] def thr2 (a b c d r : Int) : Int := if d ≤ r then 1099511627777 else if r < c then -1099511627776 else b * (r / b) + b - b / 2 + a
theorem sens_of {a b c d : Int} (h : sensOK a b c d = true) : 0 ≤ a ∧ a ≤ 1073741824 ∧ 1 ≤ b ∧ b ≤ 1073741824 ∧ -1073741824 ≤ c ∧ c ≤ d ∧ d ≤ 1073741824 := by
  simp [sensOK] at h; omega
theorem thr1_in {a b c d r : Int} (h : sensOK a b c d = true) : -1099511627776 ≤ thr1 a b c d r ∧ thr1 a b c d r ≤ 1099511627777 := by
  have := sens_of h
  have := mul_cdiv_le r b (by omega)
  unfold thr1; split
  · omega
  · split <;> omega
theorem thr2_in {a b c d r : Int} (h : sensOK a b c d = true) : -1099511627776 ≤ thr2 a b c d r ∧ thr2 a b c d r ≤ 1099511627777 := by
  have := sens_of h
  have := mul_div_le r b (by omega)
  unfold thr2; split
  · omega
  · split <;> omega
theorem thr1_iff {a b c d r x : Int} (h : sensOK a b c d = true) (h1 : -1099511627776 ≤ x) (h2 : x ≤ 1099511627776) : r ≤ intoV (stepV b (x + a)) c d ↔ thr1 a b c d r ≤ x := by
  have := sens_of h
  have := le_step b (x + a) r (by omega)
  unfold thr1 intoV; split
  · omega
  · split <;> omega
theorem thr2_iff {a b c d r x : Int} (h : sensOK a b c d = true) (h1 : -1099511627776 ≤ x) (h2 : x ≤ 1099511627776) : r < intoV (stepV b (x - a)) c d ↔ thr2 a b c d r ≤ x := by
  have := sens_of h
  have := lt_step b (x - a) r (by omega)
  unfold thr2 intoV; split
  · omega
  · split <;> omega
@[irreducible] def showsV (a b c d x r : Int) : Bool := decide (intoV (stepV b (x - a)) c d ≤ r) && decide (r ≤ intoV (stepV b (x + a)) c d) &&
  (decide (r = intoV (stepV b (x - a)) c d) || decide (r = intoV (stepV b (x + a)) c d) || decide (r % b = 0))
def shows : Spec [senSh, .int .i64, .int .i64] := ⟨fun ((a, b, c, d, _), (x : Int), _) => sensOK a b c d = true ∧ -1099511627776 ≤ x ∧ x ≤ 1099511627777, fun ((a, b, c, d, _), x, r, _) => .sb (showsV a b c d x r)⟩
theorem stepV_mod (b y : Int) : stepV b y % b = 0 := by unfold stepV; exact Int.mul_emod_right _ _
theorem ref_beh {a b c d r : Int} (h : sensOK a b c d = true) : (thr1 a b c d r < thr2 a b c d r ∧ showsV a b c d (thr1 a b c d r) r = true) ↔ readOK b c d r = true := by
  have h0 := sens_of h
  have hm1 := mul_div_le r b (by omega)
  have hm2 := mul_cdiv_le r b (by omega)
  have h1 := thr1_in h (r := r)
  have h2 := thr2_in h (r := r)
  constructor
  · rintro ⟨h3, h4⟩
    simp [showsV] at h4
    have hr : c ≤ r ∧ r ≤ d := by
      have h5 := h4.1.1; have h6 := h4.1.2
      unfold intoV at h5 h6; omega
    unfold readOK
    simp
    refine ⟨hr, ?_⟩
    by_cases hc : r = c
    · exact .inl (.inl hc)
    by_cases hd : r = d
    · exact .inl (.inr hd)
    right
    have e := stepV_mod b
    rcases h4.2 with (h6 | h6) | h6
    · unfold intoV at h6
      have : r = stepV b (thr1 a b c d r - a) := by omega
      rw [this]; exact e _
    · unfold intoV at h6
      have : r = stepV b (thr1 a b c d r + a) := by omega
      rw [this]; exact e _
    · exact h6
  · intro h3
    simp [readOK] at h3
    have hz : r % b = 0 → b * (r / b) = r ∧ b * -(-r / b) = r := fun hz => by
      have h1 := Int.mul_ediv_add_emod r b
      obtain ⟨k, hk⟩ := Int.dvd_of_emod_eq_zero hz
      constructor
      · omega
      · rw [hk, ← Int.mul_neg, Int.mul_ediv_cancel_left _ (by omega)]; simp
    have ht : thr1 a b c d r < thr2 a b c d r := by
      unfold thr1 thr2
      split
      · split
        · omega
        · split <;> omega
      · split
        · omega
        · split
          · omega
          · have := hz (by omega); split <;> omega
    refine ⟨ht, ?_⟩
    have h5 : r ≤ intoV (stepV b (thr1 a b c d r + a)) c d := by
      by_cases hq : thr1 a b c d r ≤ 1099511627776
      · exact (thr1_iff h h1.1 hq).2 (Int.le_refl _)
      · omega
    have h6 : intoV (stepV b (thr1 a b c d r - a)) c d ≤ r := by
      by_cases hq : thr1 a b c d r ≤ 1099511627776
      · have := thr2_iff h (r := r) h1.1 hq; omega
      · omega
    have h7 := stepV_hi b (thr1 a b c d r + a) (by omega)
    have h8 := stepV_lo b (thr1 a b c d r + a) (by omega)
    unfold showsV
    simp
    refine ⟨⟨h6, h5⟩, ?_⟩
    by_cases hzz : r % b = 0
    · exact .inr hzz
    · left; right
      have : r = c ∨ r = d := by omega
      have e1 : thr1 a b c d r = if r ≤ c then -1099511627776 else if d < r then 1099511627777 else b * -(-r / b) - b / 2 - a := by unfold thr1; rfl
      unfold intoV at h5 ⊢
      split at e1
      · omega
      · omega
theorem ref_eq {a b c d r : Int} (h : sensOK a b c d = true) (h' : readOK b c d r = true) : behLo a b c d r = thr1 a b c d r ∧ behHi a b c d r = thr2 a b c d r - 1 := by
  obtain ⟨h1, h2, _⟩ := beh_0 h h'
  simp [readOK] at h'
  rw [h1, h2]
  unfold thr1 thr2
  constructor
  · split
    · rw [if_neg (by omega), if_neg (by omega)]
    · rw [if_pos (by omega)]
  · split
    · rw [if_neg (by omega), if_neg (by omega)]; omega
    · rw [if_pos (by omega)]; omega
end Abs
end Go.Proofs.YtbbjcfakoggbnaaGreat

/- The sensor's functions, of the program and of the document: what they answer. -/
namespace Go.Proofs.YtbbjcfakoggbnaaGreat
namespace Abs
open Go Go.RowKit

theorem mixed : Tryz.prog.follows .mixedOrders = true := by kernel_rfl
def spanKs : List (Option IntKind) := [some .i64, some .i64]
def eqs0 : List (Nat × List (Option IntKind)) := [(39, spanKs)]
theorem eqs0_ok : ∀ t ks, findS eqs0 t = some ks → EqOK Tryz.prog t ks := by
  intro t ks h
  unfold eqs0 at h
  simp only [findS] at h
  split at h
  · rename_i e
    obtain rfl := Nat.eq_of_beq_eq_true e
    injection h with h; subst h
    exact EqOK.of 3 (by decide) (by kernel_rfl) (by kernel_rfl) (by kernel_rfl)
  · cases h
def S0 : Sums := ⟨[], [], 0, eqs0, [], []⟩
theorem S0_ok : SumsOK Tryz.prog S0 := .nil _ _ _ eqs0_ok

theorem isQs_simp (x : Int) : isQ x = isIn (-1099511627776) x 1099511627776 := by unfold isQ; rfl

set_option maxRecDepth 100000 in
theorem within_ok : FnSpec Tryz.prog 32 _ within := by
  refine FnSpec.of S0_ok mixed (U := 0) (I := fun _ => []) Tryz.func32 rfl (by kernel_rfl) rfl rfl (by decide +kernel) ?_
  rintro ⟨(x : Int), (lo : Int), (hi : Int), ⟨⟩⟩ -
  unfold FnSat
  conv => arg 2; reduce
  simp [within]
set_option maxRecDepth 100000 in
theorem floor_ok : FnSpec Tryz.prog 58 _ floor := by
  refine FnSpec.of S0_ok mixed (U := 0) (I := fun _ => []) Tryz.func58 rfl (by kernel_rfl) rfl rfl (by decide +kernel) ?_
  rintro ⟨(n : Int), (d : Int), ⟨⟩⟩ ⟨(h1 : InR .i64 n), (h2 : 0 < d)⟩
  unfold FnSat
  conv => arg 2; reduce
  have h3 := tdiv_in n d h2 h1
  have h4 := fdiv_ge n d h2 (by simp at h1; omega)
  simp [floor] at h1 h3 ⊢
  refine ⟨by omega, h3, by omega, fun h => ?_, fun h => fdiv_b n d h2 h⟩
  have := fdiv_a n d h2 h
  exact ⟨by omega, this⟩
def S1 : Sums := ⟨(58, mkSum _ floor) :: (32, mkSum _ within) :: S0.one, S0.two, S0.lo, S0.eqs, S0.its, S0.imm⟩
theorem S1_ok : SumsOK Tryz.prog S1 := ((S0_ok.cons Tryz.func32 (by kernel_rfl) (by kernel_rfl) within_ok).cons Tryz.func58 (by kernel_rfl) (by kernel_rfl) floor_ok)
set_option maxRecDepth 100000 in
theorem check_ok : FnSpec Tryz.prog 57 _ check := by
  refine FnSpec.of S1_ok mixed (U := 0) (I := fun _ => []) Tryz.func57 rfl (by kernel_rfl) rfl rfl (by decide +kernel) ?_
  rintro ⟨⟨(a : Int), (b : Int), (c : Int), (d : Int), ⟨⟩⟩, ⟨⟩⟩ -
  unfold FnSat
  conv => arg 2; reduce
  simp [check, within, errB, sensOK]
  omega
def S2 : Sums := ⟨(57, mkSum _ check) :: S1.one, S1.two, S1.lo, S1.eqs, S1.its, S1.imm⟩
theorem S2_ok : SumsOK Tryz.prog S2 := (S1_ok.cons Tryz.func57 (by kernel_rfl) (by kernel_rfl) check_ok)
set_option maxRecDepth 100000 in
theorem show_ok : FnSpec Tryz.prog 37 _ show_ := by
  refine FnSpec.of S2_ok mixed (U := 0) (I := fun _ => []) Tryz.func37 rfl (by kernel_rfl) rfl rfl (by decide +kernel) ?_
  rintro ⟨⟨(a : Int), (b : Int), (c : Int), (d : Int), ⟨⟩⟩, (x : Int), (n : Int), ⟨⟩⟩ -
  unfold FnSat
  conv => arg 2; reduce
  simp [show_, check, within, floor, errB, sensOK]
  constructor
  · intro h
    have h0 := showE_2 (a := a) (b := b) (c := c) (d := d) (x := x) (n := n) (by
      cases hh : (sensOK a b c d && isQ x) with
      | false => rfl
      | true => exfalso; simp [sensOK, isQ] at hh; omega)
    rw [h0.1, h0.2]; simp
  · intro h1 h2 h3 h4 h5 h6 h7 h8 h9 h10
    have h0 : (sensOK a b c d && isQ x) = true := by simp [sensOK, isQ]; omega
    have ht := tdiv2 b (by omega)
    have e1 : stepV b (x + n) = b * ((x + n + b / 2) / b) := by unfold stepV; rfl
    have l1 := stepV_lo b (x + n) h3
    have l2 := stepV_hi b (x + n) h3
    refine ⟨by omega, fun h => ?_, fun h h' => ?_⟩
    · have := showE_3 h0 (n := n) (by
        cases hh : isIn (-a) n a with
        | false => rfl
        | true => exfalso; simp at hh; omega)
      rw [this.1, this.2]; simp
    · have := showE_0 h0 (n := n) (by simp; omega)
      rw [ht, ← e1, this.1, this.2]
      refine ⟨by omega, by omega, by omega, by omega, by omega, ?_, ?_⟩
      · unfold intoV; omega
      · rfl
set_option maxRecDepth 100000 in
theorem behind_ok : FnSpec Tryz.prog 27 _ behind := by
  refine FnSpec.of S2_ok mixed (U := 0) (I := fun _ => []) Tryz.func27 rfl (by kernel_rfl) rfl rfl (by decide +kernel) ?_
  rintro ⟨⟨(a : Int), (b : Int), (c : Int), (d : Int), ⟨⟩⟩, (r : Int), ⟨⟩⟩ -
  unfold FnSat
  conv => arg 2; reduce
  have e0 : sensOK a b c d = true → sensOK a b c d = true := id
  simp [behind, check, within, floor, errB]
  constructor
  · intro h
    have := beh_2 h (r := r)
    omega
  · intro h
    have h1 := sens_of h
    rw [tdiv2 b (by omega)]
    have hm1 := mul_div_le r b (by omega)
    have hm2 := mul_cdiv_le r b (by omega)
    simp only [tmod_z]
    have hq : -1099511627776 ≤ -r / b ∨ r < c ∨ d < r := by
      by_cases hr : r < c ∨ d < r
      · exact .inr hr
      · left; rw [Int.le_ediv_iff_mul_le (by omega)]
        have : -1099511627776 * b ≤ -1099511627776 * 1 := Int.mul_le_mul_of_nonpos_left (by omega) (by omega)
        omega
    have hq2 : -r / b ≤ 1099511627776 ∨ r < c ∨ d < r := by
      by_cases hr : r < c ∨ d < r
      · exact .inr hr
      · left
        have : -r / b < 1099511627777 := by
          rw [Int.ediv_lt_iff_lt_mul (by omega)]
          have : 1099511627777 * 1 ≤ 1099511627777 * b := Int.mul_le_mul_of_nonneg_left (by omega) (by omega)
          omega
        omega
    cases hr : readOK b c d r with
    | false =>
      have := beh_5 h hr
      simp [readOK] at hr
      omega
    | true =>
      obtain ⟨g1, g2, g3⟩ := beh_0 h hr
      rw [g1, g2, g3]
      simp [readOK] at hr
      generalize b * (r / b) = u at *
      generalize b * -(-r / b) = v at *
      repeat' (first | refine And.intro ?_ ?_ | intro _)
      all_goals first | omega | (split <;> omega)
def SP : Sums := ⟨(27, mkSum _ behind) :: (37, mkSum _ show_) :: S2.one, S2.two, S2.lo, S2.eqs, S2.its, S2.imm⟩
theorem SP_ok : SumsOK Tryz.prog SP := ((S2_ok.cons Tryz.func37 (by kernel_rfl) (by kernel_rfl) show_ok).cons Tryz.func27 (by kernel_rfl) (by kernel_rfl) behind_ok)

-- the document's
def SR1 : Sums := ⟨SP.one, SP.two, SP.lo, SP.eqs, SP.its, SP.imm⟩
theorem SR1_ok : SumsOK Tryz.prog SR1 := SP_ok
def steps : Spec [senSh, .int .i64] := ⟨fun ((_, (b : Int), _, _, _), (y : Int), _) => 1 ≤ b ∧ b ≤ 1073741824 ∧ -4398046511104 ≤ y ∧ y ≤ 4398046511104, fun ((_, (b : Int), _, _, _), (y : Int), _) => .si .i64 (stepV b y)⟩
def SR2 : Sums := ⟨SR1.one, SR1.two, SR1.lo, SR1.eqs, SR1.its, SR1.imm⟩
theorem SR2_ok : SumsOK Tryz.prog SR2 := SR1_ok
def SR3 : Sums := ⟨SR2.one, SR2.two, SR2.lo, SR2.eqs, SR2.its, SR2.imm⟩
theorem SR3_ok : SumsOK Tryz.prog SR3 := SR2_ok
end Abs
end Go.Proofs.YtbbjcfakoggbnaaGreat

/- The statements' small example of layer 3. -/
namespace Go.Proofs.YtbbjcfakoggbnaaGreat
namespace Abs
open Go Go.RowKit
def plainS : Spec [] := ⟨fun _ => True, fun _ => .agg [.li .i64 3, .li .i64 10, .li .i64 0, .li .i64 100]⟩
set_option maxRecDepth 100000 in
theorem plainS_ok : FnSpec Tryz.prog 38 _ plainS := by
  refine FnSpec.of SP_ok mixed (U := 0) (I := fun _ => []) Tryz.func38 rfl (by kernel_rfl) rfl rfl (by decide +kernel) ?_
  rintro ⟨⟩ -
  unfold FnSat
  conv => arg 2; reduce
  simp [plainS]
def SW0 : Sums := ⟨(38, mkSum _ plainS) :: SP.one, SP.two, SP.lo, SP.eqs, SP.its, SP.imm⟩
theorem SW0_ok : SumsOK Tryz.prog SW0 := (SP_ok.cons Tryz.func38 (by kernel_rfl) (by kernel_rfl) plainS_ok)
def trueS : Spec [] := ⟨fun _ => True, fun _ => .sb true⟩
theorem works_num : showV 3 10 0 100 42 3 = 50 ∧ showE 3 10 0 100 42 3 = 0 ∧ behLo 3 10 0 100 40 = 32 ∧ behHi 3 10 0 100 40 = 47 ∧ behE 3 10 0 100 40 = 0 := by
  simp [showV, showE, behLo, behHi, behE, sensOK, isQ, intoV, stepV, readOK]; decide
set_option maxRecDepth 100000 in
theorem works_ok : FnSpec Tryz.prog 16 _ trueS := by
  refine FnSpec.of SW0_ok mixed (U := 0) (I := fun _ => []) Tryz.func16 rfl (by kernel_rfl) rfl rfl (by decide +kernel) ?_
  rintro ⟨⟩ -
  unfold FnSat
  conv => arg 2; reduce
  obtain ⟨h1, h2, h3, h4, h5⟩ := works_num
  simp [plainS, show_, behind, trueS, h1, h2, h3, h4, h5]
end Abs
end Go.Proofs.YtbbjcfakoggbnaaGreat

/- A part of the proof: no statement of its own. -/
import Derived.Test.YtaiilbgknjlmoaaQF2
import Derived.Test.YtaiilbgknjlmoaaProg
/- Plain numbers: leaf functions of specs, and what is known of them. -/
namespace Go.Proofs.Ytaiilbgknjlmoaa
namespace Abs
open Go

@[irreducible] def isIn (lo x hi : Int) : Bool := decide (lo ≤ x) && decide (x ≤ hi)
@[simp] theorem isIn_eq (lo x hi : Int) : isIn lo x hi = (decide (lo ≤ x) && decide (x ≤ hi)) := by unfold isIn; rfl
@[irreducible] def fdiv (n d : Int) : Int := n / d
@[simp] theorem fdiv_eq (n d : Int) : fdiv n d = n / d := by unfold fdiv; rfl
theorem fdiv_a (n d : Int) (h0 : 0 < d) (h : n.tmod d < 0) : n.tdiv d - 1 = n / d := by
  have h1 := Int.tmod_add_tdiv_mul n d
  have h2 := Int.lt_tmod_of_pos n h0
  have : n / d = n.tdiv d - 1 := by
    rw [Int.ediv_eq_iff_of_pos h0, Int.sub_mul]
    constructor <;> omega
  exact this.symm
theorem fdiv_b (n d : Int) (h0 : 0 < d) (h : 0 ≤ n.tmod d) : n.tdiv d = n / d := by
  have h1 := Int.tmod_add_tdiv_mul n d
  have h2 := Int.tmod_lt_of_pos n h0
  have : n / d = n.tdiv d := by
    rw [Int.ediv_eq_iff_of_pos h0]
    constructor <;> omega
  exact this.symm
theorem fdiv_ge (n d : Int) (h0 : 0 < d) (h : -9223372036854775808 ≤ n) : -9223372036854775808 ≤ n / d := by
  rw [Int.le_ediv_iff_mul_le h0]
  have : -9223372036854775808 * d ≤ -9223372036854775808 * 1 := Int.mul_le_mul_of_nonpos_left (by omega) (by omega)
  omega
theorem fdiv_le (n d : Int) (h0 : 0 < d) (h : n ≤ 9223372036854775807) : n / d ≤ 9223372036854775807 := by
  have : n / d < 9223372036854775808 := by
    rw [Int.ediv_lt_iff_lt_mul h0]
    have : 9223372036854775808 * 1 ≤ 9223372036854775808 * d := Int.mul_le_mul_of_nonneg_left (by omega) (by omega)
    omega
  omega
theorem tdiv_in (n d : Int) (h0 : 0 < d) (h : InR .i64 n) : InR .i64 (n.tdiv d) := by
  simp at h ⊢
  have h1 := fdiv_ge n d h0 h.1
  have h2 := fdiv_le n d h0 h.2
  by_cases hm : n.tmod d < 0
  · have h3 := fdiv_a n d h0 hm
    have h4 : n < 0 := by
      apply Int.lt_of_not_ge
      intro h
      have := Int.tmod_nonneg d h; omega
    have h5 : n / d < 0 := Int.ediv_neg_of_neg_of_pos h4 h0
    omega
  · have h3 := fdiv_b n d h0 (by omega); omega
theorem tdiv2 (b : Int) (h : 0 ≤ b) : b.tdiv 2 = b / 2 := Int.tdiv_eq_ediv_of_nonneg h
theorem tmod_z (n d : Int) : n.tmod d = 0 ↔ n % d = 0 := by
  constructor
  · intro h; exact Int.emod_eq_zero_of_dvd (Int.dvd_of_tmod_eq_zero h)
  · intro h; exact Int.tmod_eq_zero_of_dvd (Int.dvd_of_emod_eq_zero h)
@[irreducible] def intoV (x lo hi : Int) : Int := max lo (min x hi)
def within : Spec [.int .i64, .int .i64, .int .i64] := ⟨fun _ => True, fun (x, lo, hi, _) => .sb (isIn lo x hi)⟩
def floor : Spec [.int .i64, .int .i64] := ⟨fun ((n : Int), (d : Int), _) => InR .i64 n ∧ 0 < d, fun (n, d, _) => .si .i64 (fdiv n d)⟩
def into : Spec [.int .i64, .int .i64, .int .i64] := ⟨fun _ => True, fun ((x : Int), (lo : Int), (hi : Int), _) => .si .i64 (intoV x lo hi)⟩
@[irreducible] def isQ (x : Int) : Bool := isIn (-1099511627776) x 1099511627776
def isQs : Spec [.int .i64] := ⟨fun _ => True, fun ((x : Int), _) => .sb (isQ x)⟩
end Abs
end Go.Proofs.Ytaiilbgknjlmoaa

/- Sensors: plain numbers. -/
namespace Go.Proofs.Ytaiilbgknjlmoaa
namespace Abs
open Go
@[irreducible] def sensOK (a b c d : Int) : Bool := isIn 0 a 1073741824 && isIn 1 b 1073741824 && isIn (-1073741824) c 1073741824 && isIn c d 1073741824
@[irreducible] def errB (b : Bool) : Int := if b then 0 else 2
@[reducible] def senSh : Sh := .agg [.int .i64, .int .i64, .int .i64, .int .i64]
def check : Spec [senSh] := ⟨fun _ => True, fun ((a, b, c, d, _), _) => .si .i64 (errB (sensOK a b c d))⟩
@[irreducible] def stepV (b y : Int) : Int := b * ((y + b / 2) / b)
@[irreducible] def showV (a b c d x n : Int) : Int := if sensOK a b c d && isQ x && isIn (-a) n a then intoV (stepV b (x + n)) c d else 0
@[irreducible] def showE (a b c d x n : Int) : Int := if sensOK a b c d && isQ x then (if isIn (-a) n a then 0 else 3) else 2
theorem stepV_lo (b y : Int) (hb : 1 ≤ b) : y + b / 2 - b < stepV b y := by
  unfold stepV
  have h1 := Int.mul_ediv_add_emod (y + b / 2) b
  have h2 := Int.emod_lt_of_pos (y + b / 2) (show 0 < b by omega)
  omega
theorem stepV_hi (b y : Int) (hb : 1 ≤ b) : stepV b y ≤ y + b / 2 := by
  unfold stepV
  have h1 := Int.mul_ediv_add_emod (y + b / 2) b
  have h2 := Int.emod_nonneg (y + b / 2) (show b ≠ 0 by omega)
  omega
def show_ : Spec [senSh, .int .i64, .int .i64] := ⟨fun _ => True, fun ((a, b, c, d, _), x, n, _) => .tup [.si .i64 (showV a b c d x n), .si .i64 (showE a b c d x n)]⟩
theorem showE_2 {a b c d x n : Int} (h : (sensOK a b c d && isQ x) = false) : showV a b c d x n = 0 ∧ showE a b c d x n = 2 := by
  unfold showV showE; rw [h]; simp
theorem showE_3 {a b c d x n : Int} (h : (sensOK a b c d && isQ x) = true) (h' : isIn (-a) n a = false) : showV a b c d x n = 0 ∧ showE a b c d x n = 3 := by
  unfold showV showE; rw [h, h']; simp
theorem showE_0 {a b c d x n : Int} (h : (sensOK a b c d && isQ x) = true) (h' : isIn (-a) n a = true) : showV a b c d x n = intoV (stepV b (x + n)) c d ∧ showE a b c d x n = 0 := by
  unfold showV showE; rw [h, h']; simp

-- what is behind a reading
@[irreducible] def readOK (b c d r : Int) : Bool := isIn c r d && (decide (r = c) || decide (r = d) || decide (r % b = 0))
@[irreducible] def behE (a b c d r : Int) : Int := if sensOK a b c d then (if readOK b c d r then 0 else 5) else 2
@[irreducible] def behLo (a b c d r : Int) : Int := if sensOK a b c d && readOK b c d r then (if c < r then b * -(-r / b) - b / 2 - a else -1099511627776) else 0
@[irreducible] def behHi (a b c d r : Int) : Int := if sensOK a b c d && readOK b c d r then (if r < d then b * (r / b) + b - 1 - b / 2 + a else 1099511627776) else 0
def behind : Spec [senSh, .int .i64] := ⟨fun _ => True, fun ((a, b, c, d, _), r, _) => .tup [.agg [.si .i64 (behLo a b c d r), .si .i64 (behHi a b c d r)], .si .i64 (behE a b c d r)]⟩
theorem beh_2 {a b c d r : Int} (h : sensOK a b c d = false) : behLo a b c d r = 0 ∧ behHi a b c d r = 0 ∧ behE a b c d r = 2 := by
  unfold behLo behHi behE; rw [h]; simp
theorem beh_5 {a b c d r : Int} (h : sensOK a b c d = true) (h' : readOK b c d r = false) : behLo a b c d r = 0 ∧ behHi a b c d r = 0 ∧ behE a b c d r = 5 := by
  unfold behLo behHi behE; rw [h, h']; simp
theorem beh_0 {a b c d r : Int} (h : sensOK a b c d = true) (h' : readOK b c d r = true) :
    behLo a b c d r = (if c < r then b * -(-r / b) - b / 2 - a else -1099511627776) ∧ behHi a b c d r = (if r < d then b * (r / b) + b - 1 - b / 2 + a else 1099511627776) ∧ behE a b c d r = 0 := by
  unfold behLo behHi behE; rw [h, h']; simp
theorem mul_div_le (r b : Int) (hb : 1 ≤ b) : b * (r / b) ≤ r ∧ r < b * (r / b) + b := by
  have h1 := Int.mul_ediv_add_emod r b
  have h2 := Int.emod_nonneg r (show b ≠ 0 by omega)
  have h3 := Int.emod_lt_of_pos r (show 0 < b by omega)
  omega
theorem mul_cdiv_le (r b : Int) (hb : 1 ≤ b) : r ≤ b * -(-r / b) ∧ b * -(-r / b) < r + b := by
  have := mul_div_le (-r) b hb
  rw [Int.mul_neg]
  omega
theorem le_step (b y r : Int) (hb : 1 ≤ b) : r ≤ stepV b y ↔ b * -(-r / b) ≤ y + b / 2 := by
  unfold stepV
  have h1 : b * -(-r / b) ≤ y + b / 2 ↔ -(-r / b) ≤ (y + b / 2) / b := by rw [Int.le_ediv_iff_mul_le (by omega), Int.mul_comm]
  have h2 : -((y + b / 2) / b) ≤ -r / b ↔ -((y + b / 2) / b) * b ≤ -r := Int.le_ediv_iff_mul_le (by omega)
  rw [Int.neg_mul, Int.mul_comm ((y + b / 2) / b) b] at h2
  omega
theorem lt_step (b y r : Int) (hb : 1 ≤ b) : r < stepV b y ↔ b * (r / b) + b ≤ y + b / 2 := by
  unfold stepV
  have h1 : (r / b + 1) ≤ (y + b / 2) / b ↔ (r / b + 1) * b ≤ y + b / 2 := Int.le_ediv_iff_mul_le (by omega)
  have h2 : r / b < (y + b / 2) / b ↔ r < (y + b / 2) / b * b := Int.ediv_lt_iff_lt_mul (by omega)
  rw [Int.add_mul, Int.one_mul, Int.mul_comm (r / b) b] at h1
  rw [Int.mul_comm ((y + b / 2) / b) b] at h2
  omega
@[irreducible] def thr1 (a b c d r : Int) : Int := if r ≤ c then -1099511627776 else if d < r then 1099511627777 else b * -(-r / b) - b / 2 - a
@[irreducible] def thr2 (a b c d r : Int) : Int := if d ≤ r then 1099511627777 else if r < c then -1099511627776 else b * (r / b) + b - b / 2 + a
theorem sens_of {a b c d : Int} (h : sensOK a b c d = true) : 0 ≤ a ∧ a ≤ 1073741824 ∧ 1 ≤ b ∧ b ≤ 1073741824 ∧ -1073741824 ≤ c ∧ c ≤ d ∧ d ≤ 1073741824 := by
  simp [sensOK] at h; omega
theorem thr1_in {a b c d r : Int} (h : sensOK a b c d = true) : -1099511627776 ≤ thr1 a b c d r ∧ thr1 a b c d r ≤ 1099511627777 := by
  have := sens_of h
  have := mul_cdiv_le r b (by omega)
  unfold thr1; split
  · omega
  · split <;> omega
theorem thr2_in {a b c d r : Int} (h : sensOK a b c d = true) : -1099511627776 ≤ thr2 a b c d r ∧ thr2 a b c d r ≤ 1099511627777 := by
  have := sens_of h
  have := mul_div_le r b (by omega)
  unfold thr2; split
  · omega
  · split <;> omega
theorem thr1_iff {a b c d r x : Int} (h : sensOK a b c d = true) (h1 : -1099511627776 ≤ x) (h2 : x ≤ 1099511627776) : r ≤ intoV (stepV b (x + a)) c d ↔ thr1 a b c d r ≤ x := by
  have := sens_of h
  have := le_step b (x + a) r (by omega)
  unfold thr1 intoV; split
  · omega
  · split <;> omega
theorem thr2_iff {a b c d r x : Int} (h : sensOK a b c d = true) (h1 : -1099511627776 ≤ x) (h2 : x ≤ 1099511627776) : r < intoV (stepV b (x - a)) c d ↔ thr2 a b c d r ≤ x := by
  have := sens_of h
  have := lt_step b (x - a) r (by omega)
  unfold thr2 intoV; split
  · omega
  · split <;> omega
@[irreducible] def showsV (a b c d x r : Int) : Bool := decide (intoV (stepV b (x - a)) c d ≤ r) && decide (r ≤ intoV (stepV b (x + a)) c d) &&
  (decide (r = intoV (stepV b (x - a)) c d) || decide (r = intoV (stepV b (x + a)) c d) || decide (r % b = 0))
def shows : Spec [senSh, .int .i64, .int .i64] := ⟨fun ((a, b, c, d, _), (x : Int), _) => sensOK a b c d = true ∧ -1099511627776 ≤ x ∧ x ≤ 1099511627777, fun ((a, b, c, d, _), x, r, _) => .sb (showsV a b c d x r)⟩
theorem stepV_mod (b y : Int) : stepV b y % b = 0 := by unfold stepV; exact Int.mul_emod_right _ _
theorem ref_beh {a b c d r : Int} (h : sensOK a b c d = true) : (thr1 a b c d r < thr2 a b c d r ∧ showsV a b c d (thr1 a b c d r) r = true) ↔ readOK b c d r = true := by
  have h0 := sens_of h
  have hm1 := mul_div_le r b (by omega)
  have hm2 := mul_cdiv_le r b (by omega)
  have h1 := thr1_in h (r := r)
  have h2 := thr2_in h (r := r)
  constructor
  · rintro ⟨h3, h4⟩
    simp [showsV] at h4
    have hr : c ≤ r ∧ r ≤ d := by
      have h5 := h4.1.1; have h6 := h4.1.2
      unfold intoV at h5 h6; omega
    unfold readOK
    simp
    refine ⟨hr, ?_⟩
    by_cases hc : r = c
    · exact .inl (.inl hc)
    by_cases hd : r = d
    · exact .inl (.inr hd)
    right
    have e := stepV_mod b
    rcases h4.2 with (h6 | h6) | h6
    · unfold intoV at h6
      have : r = stepV b (thr1 a b c d r - a) := by omega
      rw [this]; exact e _
    · unfold intoV at h6
      have : r = stepV b (thr1 a b c d r + a) := by omega
      rw [this]; exact e _
    · exact h6
  · intro h3
    simp [readOK] at h3
    have hz : r % b = 0 → b * (r / b) = r ∧ b * -(-r / b) = r := fun hz => by
      have h1 := Int.mul_ediv_add_emod r b
      obtain ⟨k, hk⟩ := Int.dvd_of_emod_eq_zero hz
      constructor
      · omega
      · rw [hk, ← Int.mul_neg, Int.mul_ediv_cancel_left _ (by omega)]; simp
    have ht : thr1 a b c d r < thr2 a b c d r := by
      unfold thr1 thr2
      split
      · split
        · omega
        · split <;> omega
      · split
        · omega
        · split
          · omega
          · have := hz (by omega); split <;> omega
    refine ⟨ht, ?_⟩
    have h5 : r ≤ intoV (stepV b (thr1 a b c d r + a)) c d := by
      by_cases hq : thr1 a b c d r ≤ 1099511627776
      · exact (thr1_iff h h1.1 hq).2 (Int.le_refl _)
      · omega
    have h6 : intoV (stepV b (thr1 a b c d r - a)) c d ≤ r := by
      by_cases hq : thr1 a b c d r ≤ 1099511627776
      · have := thr2_iff h (r := r) h1.1 hq; omega
      · omega
    have h7 := stepV_hi b (thr1 a b c d r + a) (by omega)
    have h8 := stepV_lo b (thr1 a b c d r + a) (by omega)
    unfold showsV
    simp
    refine ⟨⟨h6, h5⟩, ?_⟩
    by_cases hzz : r % b = 0
    · exact .inr hzz
    · left; right
      have : r = c ∨ r = d := by omega
      have e1 : thr1 a b c d r = if r ≤ c then -1099511627776 else if d < r then 1099511627777 else b * -(-r / b) - b / 2 - a := by unfold thr1; rfl
      unfold intoV at h5 ⊢
      split at e1
      · omega
      · omega
theorem ref_eq {a b c d r : Int} (h : sensOK a b c d = true) (h' : readOK b c d r = true) : behLo a b c d r = thr1 a b c d r ∧ behHi a b c d r = thr2 a b c d r - 1 := by
  obtain ⟨h1, h2, _⟩ := beh_0 h h'
  simp [readOK] at h'
  rw [h1, h2]
  unfold thr1 thr2
  constructor
  · split
    · rw [if_neg (by omega), if_neg (by omega)]
    · rw [if_pos (by omega)]
  · split
    · rw [if_neg (by omega), if_neg (by omega)]; omega
    · rw [if_pos (by omega)]; omega
end Abs
end Go.Proofs.Ytaiilbgknjlmoaa

/- The sensor's functions, of the program and of the document: what they answer. -/
namespace Go.Proofs.Ytaiilbgknjlmoaa
namespace Abs
open Go Go.RowKit

theorem mixed : Try.prog.follows .mixedOrders = true := by kernel_rfl
def spanKs : List (Option IntKind) := [some .i64, some .i64]
def eqs0 : List (Nat × List (Option IntKind)) := [(28, spanKs)]
theorem eqs0_ok : ∀ t ks, findS eqs0 t = some ks → EqOK Try.prog t ks := by
  intro t ks h
  unfold eqs0 at h
  simp only [findS] at h
  split at h
  · rename_i e
    obtain rfl := Nat.eq_of_beq_eq_true e
    injection h with h; subst h
    exact EqOK.of 3 (by decide) (by kernel_rfl) (by kernel_rfl) (by kernel_rfl)
  · cases h
def S0 : Sums := ⟨[], [], 0, eqs0⟩
theorem S0_ok : SumsOK Try.prog S0 := .nil _ _ _ eqs0_ok

theorem isQs_simp (x : Int) : isQ x = isIn (-1099511627776) x 1099511627776 := by unfold isQ; rfl

set_option maxRecDepth 100000 in
theorem within_ok : FnSpec Try.prog 20 _ within := by
  refine FnSpec.of S0_ok mixed (U := 0) (I := fun _ => []) Try.func20 rfl (by kernel_rfl) rfl rfl (by decide +kernel) ?_
  rintro ⟨(x : Int), (lo : Int), (hi : Int), ⟨⟩⟩ -
  unfold FnSat
  conv => arg 2; reduce
  simp [within]
set_option maxRecDepth 100000 in
theorem floor_ok : FnSpec Try.prog 21 _ floor := by
  refine FnSpec.of S0_ok mixed (U := 0) (I := fun _ => []) Try.func21 rfl (by kernel_rfl) rfl rfl (by decide +kernel) ?_
  rintro ⟨(n : Int), (d : Int), ⟨⟩⟩ ⟨(h1 : InR .i64 n), (h2 : 0 < d)⟩
  unfold FnSat
  conv => arg 2; reduce
  have h3 := tdiv_in n d h2 h1
  have h4 := fdiv_ge n d h2 (by simp at h1; omega)
  simp [floor] at h1 h3 ⊢
  refine ⟨by omega, h3, by omega, fun h => ?_, fun h => fdiv_b n d h2 h⟩
  have := fdiv_a n d h2 h
  exact ⟨by omega, this⟩
def S1 : Sums := ⟨(21, mkSum _ floor) :: (20, mkSum _ within) :: S0.one, S0.two, S0.lo, S0.eqs⟩
theorem S1_ok : SumsOK Try.prog S1 := ((S0_ok.cons Try.func20 (by kernel_rfl) (by kernel_rfl) within_ok).cons Try.func21 (by kernel_rfl) (by kernel_rfl) floor_ok)
set_option maxRecDepth 100000 in
theorem check_ok : FnSpec Try.prog 10 _ check := by
  refine FnSpec.of S1_ok mixed (U := 0) (I := fun _ => []) Try.func10 rfl (by kernel_rfl) rfl rfl (by decide +kernel) ?_
  rintro ⟨⟨(a : Int), (b : Int), (c : Int), (d : Int), ⟨⟩⟩, ⟨⟩⟩ -
  unfold FnSat
  conv => arg 2; reduce
  simp [check, within, errB, sensOK]
  omega
def S2 : Sums := ⟨(10, mkSum _ check) :: S1.one, S1.two, S1.lo, S1.eqs⟩
theorem S2_ok : SumsOK Try.prog S2 := (S1_ok.cons Try.func10 (by kernel_rfl) (by kernel_rfl) check_ok)
set_option maxRecDepth 100000 in
theorem show_ok : FnSpec Try.prog 6 _ show_ := by
  refine FnSpec.of S2_ok mixed (U := 0) (I := fun _ => []) Try.func6 rfl (by kernel_rfl) rfl rfl (by decide +kernel) ?_
  rintro ⟨⟨(a : Int), (b : Int), (c : Int), (d : Int), ⟨⟩⟩, (x : Int), (n : Int), ⟨⟩⟩ -
  unfold FnSat
  conv => arg 2; reduce
  simp [show_, check, within, floor, errB, sensOK]
  constructor
  · intro h
    have h0 := showE_2 (a := a) (b := b) (c := c) (d := d) (x := x) (n := n) (by
      cases hh : (sensOK a b c d && isQ x) with
      | false => rfl
      | true => exfalso; simp [sensOK, isQ] at hh; omega)
    rw [h0.1, h0.2]; simp
  · intro h1 h2 h3 h4 h5 h6 h7 h8 h9 h10
    have h0 : (sensOK a b c d && isQ x) = true := by simp [sensOK, isQ]; omega
    have ht := tdiv2 b (by omega)
    have e1 : stepV b (x + n) = b * ((x + n + b / 2) / b) := by unfold stepV; rfl
    have l1 := stepV_lo b (x + n) h3
    have l2 := stepV_hi b (x + n) h3
    refine ⟨by omega, fun h => ?_, fun h h' => ?_⟩
    · have := showE_3 h0 (n := n) (by
        cases hh : isIn (-a) n a with
        | false => rfl
        | true => exfalso; simp at hh; omega)
      rw [this.1, this.2]; simp
    · have := showE_0 h0 (n := n) (by simp; omega)
      rw [ht, ← e1, this.1, this.2]
      refine ⟨by omega, by omega, by omega, by omega, by omega, ?_, ?_⟩
      · unfold intoV; omega
      · rfl
set_option maxRecDepth 100000 in
theorem behind_ok : FnSpec Try.prog 8 _ behind := by
  refine FnSpec.of S2_ok mixed (U := 0) (I := fun _ => []) Try.func8 rfl (by kernel_rfl) rfl rfl (by decide +kernel) ?_
  rintro ⟨⟨(a : Int), (b : Int), (c : Int), (d : Int), ⟨⟩⟩, (r : Int), ⟨⟩⟩ -
  unfold FnSat
  conv => arg 2; reduce
  have e0 : sensOK a b c d = true → sensOK a b c d = true := id
  simp [behind, check, within, floor, errB]
  constructor
  · intro h
    have := beh_2 h (r := r)
    omega
  · intro h
    have h1 := sens_of h
    rw [tdiv2 b (by omega)]
    have hm1 := mul_div_le r b (by omega)
    have hm2 := mul_cdiv_le r b (by omega)
    simp only [tmod_z]
    have hq : -1099511627776 ≤ -r / b ∨ r < c ∨ d < r := by
      by_cases hr : r < c ∨ d < r
      · exact .inr hr
      · left; rw [Int.le_ediv_iff_mul_le (by omega)]
        have : -1099511627776 * b ≤ -1099511627776 * 1 := Int.mul_le_mul_of_nonpos_left (by omega) (by omega)
        omega
    have hq2 : -r / b ≤ 1099511627776 ∨ r < c ∨ d < r := by
      by_cases hr : r < c ∨ d < r
      · exact .inr hr
      · left
        have : -r / b < 1099511627777 := by
          rw [Int.ediv_lt_iff_lt_mul (by omega)]
          have : 1099511627777 * 1 ≤ 1099511627777 * b := Int.mul_le_mul_of_nonneg_left (by omega) (by omega)
          omega
        omega
    cases hr : readOK b c d r with
    | false =>
      have := beh_5 h hr
      simp [readOK] at hr
      omega
    | true =>
      obtain ⟨g1, g2, g3⟩ := beh_0 h hr
      rw [g1, g2, g3]
      simp [readOK] at hr
      generalize b * (r / b) = u at *
      generalize b * -(-r / b) = v at *
      repeat' (first | refine And.intro ?_ ?_ | intro _)
      all_goals first | omega | (split <;> omega)
def SP : Sums := ⟨(8, mkSum _ behind) :: (6, mkSum _ show_) :: S2.one, S2.two, S2.lo, S2.eqs⟩
theorem SP_ok : SumsOK Try.prog SP := ((S2_ok.cons Try.func6 (by kernel_rfl) (by kernel_rfl) show_ok).cons Try.func8 (by kernel_rfl) (by kernel_rfl) behind_ok)

-- the document's
set_option maxRecDepth 100000 in
theorem rin_ok : FnSpec Try.prog 23 _ within := by
  refine FnSpec.of SP_ok mixed (U := 0) (I := fun _ => []) Try.func23 rfl (by kernel_rfl) rfl rfl (by decide +kernel) ?_
  rintro ⟨(x : Int), (lo : Int), (hi : Int), ⟨⟩⟩ -
  unfold FnSat
  conv => arg 2; reduce
  simp [within]
set_option maxRecDepth 100000 in
theorem ris_ok : FnSpec Try.prog 22 _ isQs := by
  refine FnSpec.of SP_ok mixed (U := 0) (I := fun _ => []) Try.func22 rfl (by kernel_rfl) rfl rfl (by decide +kernel) ?_
  rintro ⟨(x : Int), ⟨⟩⟩ -
  unfold FnSat
  conv => arg 2; reduce
  simp [isQs, isQ]
set_option maxRecDepth 100000 in
theorem into_ok : FnSpec Try.prog 24 _ into := by
  refine FnSpec.of SP_ok mixed (U := 0) (I := fun _ => []) Try.func24 rfl (by kernel_rfl) rfl rfl (by decide +kernel) ?_
  rintro ⟨(x : Int), (lo : Int), (hi : Int), ⟨⟩⟩ -
  unfold FnSat
  conv => arg 2; reduce
  simp [into, intoV]
set_option maxRecDepth 100000 in
theorem rfloor_ok : FnSpec Try.prog 26 _ floor := by
  refine FnSpec.of SP_ok mixed (U := 0) (I := fun _ => []) Try.func26 rfl (by kernel_rfl) rfl rfl (by decide +kernel) ?_
  rintro ⟨(n : Int), (d : Int), ⟨⟩⟩ ⟨(h1 : InR .i64 n), (h2 : 0 < d)⟩
  unfold FnSat
  conv => arg 2; reduce
  have h3 := tdiv_in n d h2 h1
  have h4 := fdiv_ge n d h2 (by simp at h1; omega)
  simp [floor] at h1 h3 ⊢
  refine ⟨by omega, h3, by omega, fun h => ?_, fun h => fdiv_b n d h2 h⟩
  have := fdiv_a n d h2 h
  exact ⟨by omega, this⟩
def SR1 : Sums := ⟨(26, mkSum _ floor) :: (24, mkSum _ into) :: (22, mkSum _ isQs) :: (23, mkSum _ within) :: SP.one, SP.two, SP.lo, SP.eqs⟩
theorem SR1_ok : SumsOK Try.prog SR1 := ((((SP_ok.cons Try.func23 (by kernel_rfl) (by kernel_rfl) rin_ok).cons Try.func22 (by kernel_rfl) (by kernel_rfl) ris_ok).cons Try.func24 (by kernel_rfl) (by kernel_rfl) into_ok).cons Try.func26 (by kernel_rfl) (by kernel_rfl) rfloor_ok)
set_option maxRecDepth 100000 in
theorem rcheck_ok : FnSpec Try.prog 11 _ check := by
  refine FnSpec.of SR1_ok mixed (U := 0) (I := fun _ => []) Try.func11 rfl (by kernel_rfl) rfl rfl (by decide +kernel) ?_
  rintro ⟨⟨(a : Int), (b : Int), (c : Int), (d : Int), ⟨⟩⟩, ⟨⟩⟩ -
  unfold FnSat
  conv => arg 2; reduce
  simp [check, within, errB, sensOK]
  omega
def steps : Spec [senSh, .int .i64] := ⟨fun ((_, (b : Int), _, _, _), (y : Int), _) => 1 ≤ b ∧ b ≤ 1073741824 ∧ -4398046511104 ≤ y ∧ y ≤ 4398046511104, fun ((_, (b : Int), _, _, _), (y : Int), _) => .si .i64 (stepV b y)⟩
set_option maxRecDepth 100000 in
theorem steps_ok : FnSpec Try.prog 25 _ steps := by
  refine FnSpec.of SR1_ok mixed (U := 0) (I := fun _ => []) Try.func25 rfl (by kernel_rfl) rfl rfl (by decide +kernel) ?_
  rintro ⟨⟨(a : Int), (b : Int), (c : Int), (d : Int), ⟨⟩⟩, (y : Int), ⟨⟩⟩ ⟨(h1 : 1 ≤ b), (h2 : b ≤ 1073741824), (h3 : -4398046511104 ≤ y), (h4 : y ≤ 4398046511104)⟩
  unfold FnSat
  conv => arg 2; reduce
  have ht := tdiv2 b (by omega)
  have e1 : stepV b y = b * ((y + b / 2) / b) := by unfold stepV; rfl
  have l1 := stepV_lo b y h1
  have l2 := stepV_hi b y h1
  simp [steps, floor, ht]
  rw [← e1]
  refine ⟨by omega, by omega, by omega, by omega, rfl⟩
def SR2 : Sums := ⟨(25, mkSum _ steps) :: (11, mkSum _ check) :: SR1.one, SR1.two, SR1.lo, SR1.eqs⟩
theorem SR2_ok : SumsOK Try.prog SR2 := ((SR1_ok.cons Try.func11 (by kernel_rfl) (by kernel_rfl) rcheck_ok).cons Try.func25 (by kernel_rfl) (by kernel_rfl) steps_ok)
set_option maxRecDepth 100000 in
theorem rshow_ok : FnSpec Try.prog 7 _ show_ := by
  refine FnSpec.of SR2_ok mixed (U := 0) (I := fun _ => []) Try.func7 rfl (by kernel_rfl) rfl rfl (by decide +kernel) ?_
  rintro ⟨⟨(a : Int), (b : Int), (c : Int), (d : Int), ⟨⟩⟩, (x : Int), (n : Int), ⟨⟩⟩ -
  unfold FnSat
  conv => arg 2; reduce
  simp [show_, check, within, floor, errB, isQs, into, steps]
  constructor
  · intro h
    have := showE_2 (a := a) (b := b) (c := c) (d := d) (x := x) (n := n) (by
      cases h1 : sensOK a b c d <;> cases h2 : isQ x <;> simp_all)
    rw [this.1, this.2]; simp
  · intro h1 h2
    have h0 : (sensOK a b c d && isQ x) = true := by rw [h1, h2]; rfl
    have h3 := sens_of h1
    simp [isQ] at h2
    refine ⟨by omega, fun h => ?_, fun h h' => ?_⟩
    · have := showE_3 h0 (n := n) (by
        cases hh : isIn (-a) n a with
        | false => rfl
        | true => exfalso; simp at hh; omega)
      rw [this.1, this.2]; simp
    · have := showE_0 h0 (n := n) (by simp; omega)
      rw [this.1, this.2]
      refine ⟨by omega, by omega, ?_, rfl⟩
      rfl
set_option maxRecDepth 100000 in
theorem shows_ok : FnSpec Try.prog 27 _ shows := by
  refine FnSpec.of SR2_ok mixed (U := 0) (I := fun _ => []) Try.func27 rfl (by kernel_rfl) rfl rfl (by decide +kernel) ?_
  rintro ⟨⟨(a : Int), (b : Int), (c : Int), (d : Int), ⟨⟩⟩, (x : Int), (r : Int), ⟨⟩⟩ ⟨(h1 : sensOK a b c d = true), (h2 : -1099511627776 ≤ x), (h3 : x ≤ 1099511627777)⟩
  unfold FnSat
  conv => arg 2; reduce
  have h4 := sens_of h1
  simp [shows, steps, into]
  refine ⟨by omega, by omega, by omega, by omega, fun h => ?_, fun h5 h6 => ⟨by omega, ?_⟩⟩
  · cases hh : showsV a b c d x r with
    | false => rfl
    | true => exfalso; simp [showsV] at hh; omega
  · unfold showsV
    rw [Bool.eq_iff_iff]; simp [tmod_z, h5, h6]
def SR3 : Sums := ⟨(27, mkSum _ shows) :: (7, mkSum _ show_) :: SR2.one, SR2.two, SR2.lo, SR2.eqs⟩
theorem SR3_ok : SumsOK Try.prog SR3 := ((SR2_ok.cons Try.func7 (by kernel_rfl) (by kernel_rfl) rshow_ok).cons Try.func27 (by kernel_rfl) (by kernel_rfl) shows_ok)
end Abs
end Go.Proofs.Ytaiilbgknjlmoaa

/- The first place at which something holds; somewhere, everywhere. -/
namespace Go.Proofs.Ytaiilbgknjlmoaa
namespace Abs
open Go

/-- the first k below n with p k, or n -/
def firstN (p : Nat → Bool) : Nat → Nat
  | 0 => 0
  | n + 1 => let f := firstN p n; if f < n then f else if p n then n else n + 1
theorem firstN_zero (p : Nat → Bool) : firstN p 0 = 0 := rfl
theorem firstN_succ (p : Nat → Bool) (n : Nat) : firstN p (n + 1) = if firstN p n < n then firstN p n else if p n then n else n + 1 := rfl
attribute [irreducible] firstN
theorem firstN_le (p : Nat → Bool) : ∀ n, firstN p n ≤ n
  | 0 => by rw [firstN_zero]; omega
  | n + 1 => by
    have := firstN_le p n
    rw [firstN_succ]
    split
    · omega
    · split <;> omega
theorem firstN_not (p : Nat → Bool) : ∀ n k, k < firstN p n → p k = false
  | 0, k, h => by rw [firstN_zero] at h; omega
  | n + 1, k, h => by
    have hle := firstN_le p n
    rw [firstN_succ] at h
    split at h
    · exact firstN_not p n k h
    · by_cases hk : k < n
      · exact firstN_not p n k (by omega)
      · split at h
        · omega
        · obtain rfl : k = n := by omega
          cases hp : p k with
          | false => rfl
          | true => rename_i h1; exact absurd hp h1
theorem firstN_is (p : Nat → Bool) : ∀ n, firstN p n < n → p (firstN p n) = true
  | 0, h => by omega
  | n + 1, h => by
    have hle := firstN_le p n
    rw [firstN_succ] at h ⊢
    split
    · rename_i h1; exact firstN_is p n h1
    · rename_i h1
      rw [if_neg h1] at h
      split
      · rename_i h2; exact h2
      · rename_i h2; rw [if_neg h2] at h; omega
theorem firstN_uniq {p : Nat → Bool} {n k : Nat} (hk : k ≤ n) (h1 : ∀ j, j < k → p j = false) (h2 : k < n → p k = true) : firstN p n = k := by
  have hle := firstN_le p n
  rcases Nat.lt_trichotomy (firstN p n) k with h | h | h
  · have := firstN_is p n (by omega); rw [h1 _ h] at this; cases this
  · exact h
  · have := firstN_not p n k h; rw [h2 (by omega)] at this; cases this
theorem firstN_ge {p : Nat → Bool} {n k : Nat} (hk : k ≤ firstN p n) (h : p k = false) (hn : k < n) : k + 1 ≤ firstN p n := by
  rcases Nat.lt_or_ge k (firstN p n) with h1 | h1
  · omega
  · obtain rfl : k = firstN p n := by omega
    have := firstN_is p n hn
    rw [h] at this; cases this
theorem firstN_at {p : Nat → Bool} {n k : Nat} (hk : k ≤ firstN p n) (h : p k = true) : firstN p n = k := by
  rcases Nat.lt_or_ge k (firstN p n) with h1 | h1
  · have := firstN_not p n k h1; rw [h] at this; cases this
  · omega
/-- somewhere below n -/
@[irreducible] def anyN (p : Nat → Bool) (n : Nat) : Bool := decide (firstN p n < n)
theorem anyN_iff {p : Nat → Bool} {n : Nat} : anyN p n = true ↔ ∃ k, k < n ∧ p k = true := by
  unfold anyN
  simp only [decide_eq_true_eq]
  constructor
  · intro h; exact ⟨_, h, firstN_is p n h⟩
  · rintro ⟨k, hk, hp⟩
    rcases Nat.lt_or_ge (firstN p n) n with h | h
    · exact h
    · have := firstN_not p n k (by omega); rw [hp] at this; cases this
theorem anyN_false {p : Nat → Bool} {n : Nat} : anyN p n = false ↔ ∀ k, k < n → p k = false := by
  constructor
  · intro h k hk
    cases hp : p k with
    | false => rfl
    | true => have := anyN_iff.2 ⟨k, hk, hp⟩; rw [h] at this; cases this
  · intro h
    cases ha : anyN p n with
    | false => rfl
    | true => obtain ⟨k, hk, hp⟩ := anyN_iff.1 ha; rw [h k hk] at hp; cases hp
@[simp] theorem anyN_zero (p : Nat → Bool) : anyN p 0 = false := anyN_false.2 fun k hk => by omega
theorem anyN_succ (p : Nat → Bool) (n : Nat) : anyN p (n + 1) = (anyN p n || p n) := by
  rw [Bool.eq_iff_iff, Bool.or_eq_true, anyN_iff, anyN_iff]
  constructor
  · rintro ⟨k, hk, hp⟩
    by_cases h : k < n
    · exact .inl ⟨k, h, hp⟩
    · obtain rfl : k = n := by omega
      exact .inr hp
  · rintro (⟨k, hk, hp⟩ | hp)
    · exact ⟨k, by omega, hp⟩
    · exact ⟨n, by omega, hp⟩
@[simp] theorem anyN_one (p : Nat → Bool) : anyN p 1 = p 0 := by rw [anyN_succ]; simp
@[simp] theorem anyN_two (p : Nat → Bool) : anyN p 2 = (p 0 || p 1) := by rw [anyN_succ]; simp
theorem anyN_congr {p q : Nat → Bool} {n : Nat} (h : ∀ k, k < n → p k = q k) : anyN p n = anyN q n := by
  rw [Bool.eq_iff_iff, anyN_iff, anyN_iff]
  constructor
  · rintro ⟨k, hk, hp⟩; exact ⟨k, hk, by rw [← h k hk]; exact hp⟩
  · rintro ⟨k, hk, hp⟩; exact ⟨k, hk, by rw [h k hk]; exact hp⟩
/-- everywhere below n -/
@[irreducible] def allN (p : Nat → Bool) (n : Nat) : Bool := !(anyN (fun k => !(p k)) n)
theorem allN_iff {p : Nat → Bool} {n : Nat} : allN p n = true ↔ ∀ k, k < n → p k = true := by
  unfold allN
  rw [Bool.not_eq_true', anyN_false]
  simp
/-- the index that a search answers -/
@[irreducible] def idxN (p : Nat → Bool) (n : Nat) : Int := if firstN p n < n then (firstN p n : Int) else -1
theorem idxN_nonneg {p : Nat → Bool} {n : Nat} : decide (0 ≤ idxN p n) = anyN p n := by
  unfold idxN anyN
  split <;> rename_i h <;> simp [h] <;> omega
end Abs
end Go.Proofs.Ytaiilbgknjlmoaa

/- Spans that are valid. -/
namespace Go.Proofs.Ytaiilbgknjlmoaa
namespace Abs
open Go Go.RowKit
@[reducible] def spanSh : Sh := .agg [.int .i64, .int .i64]
@[reducible] def spansSh : Sh := .slice 2 [.int .i64, .int .i64]
@[irreducible] def spanOK (lo hi : Int) : Bool := isQ lo && isQ hi && decide (lo ≤ hi)
@[irreducible] def badSpan (lo hi : Int) : Bool := !(spanOK lo hi)
def badS : Spec [spanSh] := ⟨fun _ => True, fun ((lo, hi, _), _) => .sb (badSpan lo hi)⟩
set_option maxRecDepth 100000 in
theorem is_ok : FnSpec Try.prog 38 _ isQs := by
  refine FnSpec.of SP_ok mixed (U := 0) (I := fun _ => []) Try.func38 rfl (by kernel_rfl) rfl rfl (by decide +kernel) ?_
  rintro ⟨(x : Int), ⟨⟩⟩ -
  unfold FnSat
  conv => arg 2; reduce
  simp [isQs, isQ]
def SQ0 : Sums := ⟨(38, mkSum _ isQs) :: SP.one, SP.two, SP.lo, SP.eqs⟩
theorem SQ0_ok : SumsOK Try.prog SQ0 := (SP_ok.cons Try.func38 (by kernel_rfl) (by kernel_rfl) is_ok)
set_option maxRecDepth 100000 in
theorem bad_ok : FnSpec Try.prog 37 _ badS := by
  refine FnSpec.of SQ0_ok mixed (U := 0) (I := fun _ => []) Try.func37 rfl (by kernel_rfl) rfl rfl (by decide +kernel) ?_
  rintro ⟨⟨(lo : Int), (hi : Int), ⟨⟩⟩, ⟨⟩⟩ -
  unfold FnSat
  conv => arg 2; reduce
  simp [badS, isQs, badSpan, spanOK]
  cases isQ lo <;> cases isQ hi <;> (rw [Bool.eq_iff_iff]; simp)
def SQ1 : Sums := ⟨(37, mkSum _ badS) :: SQ0.one, SQ0.two, SQ0.lo, SQ0.eqs⟩
theorem SQ1_ok : SumsOK Try.prog SQ1 := (SQ0_ok.cons Try.func37 (by kernel_rfl) (by kernel_rfl) bad_ok)
def anyBadI : Spec [.slice 2 [.int .i64, .int .i64], .fn 37 [] []] := ⟨fun x => x.1.1 ≤ maxLen, fun ((n, el), ((_, c), _)) => .si .i64 (idxN (fun k => badSpan (el k).1 (el k).2.1) n)⟩
noncomputable def anyBadA : DatL [.slice 2 [.int .i64, .int .i64], .fn 37 [] []] → Anns := fun ((n, el), ((_, c), _)) => [(2, [], fun fr hp => ⟨Nat, fun g => ⟨frI [.k 5, .t 1, .k 2, .s (.si .i64 (icast g)), .t 10] fr, hp⟩, Nat, fun g => g, fun g => g ≤ firstN (fun k => badSpan (el k).1 (el k).2.1) n, fun g => nsub n g⟩)]
set_option maxRecDepth 100000 in
theorem anyBadI_ok : FnSpec Try.prog 41 _ anyBadI := by
  refine FnSpec.of SQ1_ok mixed (U := 0) (I := anyBadA) Try.func41 rfl (by kernel_rfl) rfl rfl (by decide +kernel) ?_
  rintro ⟨⟨n, el⟩, ⟨⟨⟩, c⟩, ⟨⟩⟩ hpre
  have hn : n ≤ maxLen := hpre
  unfold FnSat
  conv => arg 2; reduce
  unfold maxLen at hn
  have hle := firstN_le (fun k => badSpan (el k).1 (el k).2.1) n
  simp [anyBadI, badS, and_assoc]
  refine ⟨⟨0, rfl, by omega⟩, fun k hk => ⟨fun h1 => ?_, fun h1 => ?_⟩⟩
  · refine ⟨h1, fun h2 => ?_, fun h2 => ?_⟩
    · rw [idxN, firstN_at hk (by simpa using h2), if_pos h1]; try simp
    · have := firstN_ge hk (by simpa using h2) h1
      refine ⟨by omega, by omega, k + 1, by omega, by omega, by omega⟩
  · rw [idxN, if_neg (by omega)]
def anyBadC : Spec [.slice 2 [.int .i64, .int .i64], .fn 37 [] []] := ⟨fun x => x.1.1 ≤ maxLen, fun ((n, el), ((_, c), _)) => .sb (anyN (fun k => badSpan (el k).1 (el k).2.1) n)⟩
def anyBadS : Sums := ⟨(41, mkSum _ anyBadI) :: SQ1.one, SQ1.two, SQ1.lo, SQ1.eqs⟩
theorem anyBadS_ok : SumsOK Try.prog anyBadS := (SQ1_ok.cons Try.func41 (by kernel_rfl) (by kernel_rfl) anyBadI_ok)
set_option maxRecDepth 100000 in
theorem anyBadC_ok : FnSpec Try.prog 36 _ anyBadC := by
  refine FnSpec.of anyBadS_ok mixed (U := 0) (I := fun _ => []) Try.func36 rfl (by kernel_rfl) rfl rfl (by decide +kernel) ?_
  rintro ⟨⟨n, el⟩, ⟨⟨⟩, c⟩, ⟨⟩⟩ hpre
  unfold FnSat
  conv => arg 2; reduce
  have hpre : anyBadC.pre ((n, el), (((), c), ())) := hpre
  simp [anyBadC, anyBadI, idxN_nonneg] at hpre ⊢
  exact ⟨fun k hk => by trivial, hpre⟩
@[irreducible] def spansOK (el : Nat → Int × Int × Unit) (n : Nat) : Bool := !(anyN (fun k => badSpan (el k).1 (el k).2.1) n)
@[simp] theorem spansOK_one (el : Nat → Int × Int × Unit) : spansOK el 1 = spanOK (el 0).1 (el 0).2.1 := by
  unfold spansOK badSpan; rw [anyN_one]; simp
@[simp] theorem spansOK_two (el : Nat → Int × Int × Unit) : spansOK el 2 = (spanOK (el 0).1 (el 0).2.1 && spanOK (el 1).1 (el 1).2.1) := by
  unfold spansOK badSpan; rw [anyN_two]; simp
theorem spansOK_iff (el : Nat → Int × Int × Unit) (n : Nat) : spansOK el n = true ↔ ∀ k, k < n → spanOK (el k).1 (el k).2.1 = true := by
  unfold spansOK badSpan; rw [Bool.not_eq_true', anyN_false]; simp
def SQ2 : Sums := ⟨(36, mkSum _ anyBadC) :: SQ1.one, SQ1.two, SQ1.lo, SQ1.eqs⟩
theorem SQ2_ok : SumsOK Try.prog SQ2 := (SQ1_ok.cons Try.func36 (by kernel_rfl) (by kernel_rfl) anyBadC_ok)
def validS : Spec [spansSh] := ⟨fun x => x.1.1 ≤ maxLen, fun ((n, el), _) => .sb (spansOK el n)⟩
set_option maxRecDepth 100000 in
theorem valid_ok : FnSpec Try.prog 29 _ validS := by
  refine FnSpec.of SQ2_ok mixed (U := 0) (I := fun _ => []) Try.func29 rfl (by kernel_rfl) rfl rfl (by decide +kernel) ?_
  rintro ⟨⟨n, el⟩, ⟨⟩⟩ (hn : n ≤ maxLen)
  unfold FnSat
  conv => arg 2; reduce
  simp [validS, anyBadC, spansOK, CanEl]
  exact ⟨fun k hk => by trivial, hn⟩
def SQ3 : Sums := ⟨(29, mkSum _ validS) :: SQ2.one, SQ2.two, SQ2.lo, SQ2.eqs⟩
theorem SQ3_ok : SumsOK Try.prog SQ3 := (SQ2_ok.cons Try.func29 (by kernel_rfl) (by kernel_rfl) valid_ok)
@[irreducible] def hasV (lo hi x : Int) : Bool := spanOK lo hi && decide (lo ≤ x) && decide (x ≤ hi)
def hasS : Spec [spanSh, .int .i64] := ⟨fun _ => True, fun ((lo, hi, _), x, _) => .sb (hasV lo hi x)⟩
set_option maxRecDepth 100000 in
theorem has_ok : FnSpec Try.prog 14 _ hasS := by
  refine FnSpec.of SQ3_ok mixed (U := 0) (I := fun _ => []) Try.func14 rfl (by kernel_rfl) rfl rfl (by decide +kernel) ?_
  rintro ⟨⟨(lo : Int), (hi : Int), ⟨⟩⟩, (x : Int), ⟨⟩⟩ -
  unfold FnSat
  conv => arg 2; reduce
  simp [hasS, validS, hasV, CanEl, CanL, CanSh, okSh, maxLen, decL, rowAt, takeL, dropL]
end Abs
end Go.Proofs.Ytaiilbgknjlmoaa

/- State boxes, vectors, lists that are picked out: plain data. -/
namespace Go.Proofs.Ytaiilbgknjlmoaa
namespace Abs
open Go
@[reducible] def stateSh : Sh := .agg [.int .i64, .int .i64, .int .i64, .int .i64, .int .i64]
@[reducible] def intsSh : Sh := .slice 1 [.int .i64]
@[irreducible] def insV (lo hi a b : Int) : Bool := decide (lo ≤ hi) && decide (a ≤ lo) && decide (hi ≤ b)
theorem insV_iff {lo hi a b : Int} : insV lo hi a b = true ↔ lo ≤ hi ∧ a ≤ lo ∧ hi ≤ b := by unfold insV; simp [and_assoc]
@[irreducible] def boxOK (n : Nat) (el : Nat → Int × Int × Unit) : Bool := decide (n = 5) && insV (el 0).1 (el 0).2.1 0 4294967296 && insV (el 1).1 (el 1).2.1 (-8388608) 8388608 && insV (el 2).1 (el 2).2.1 0 400000 &&
  insV (el 3).1 (el 3).2.1 0 1099511627776 && insV (el 4).1 (el 4).2.1 0 1099511627776
theorem boxOK_iff {n : Nat} {el : Nat → Int × Int × Unit} : boxOK n el = true ↔ n = 5 ∧ ((el 0).1 ≤ (el 0).2.1 ∧ 0 ≤ (el 0).1 ∧ (el 0).2.1 ≤ 4294967296) ∧ ((el 1).1 ≤ (el 1).2.1 ∧ -8388608 ≤ (el 1).1 ∧ (el 1).2.1 ≤ 8388608) ∧
    ((el 2).1 ≤ (el 2).2.1 ∧ 0 ≤ (el 2).1 ∧ (el 2).2.1 ≤ 400000) ∧ ((el 3).1 ≤ (el 3).2.1 ∧ 0 ≤ (el 3).1 ∧ (el 3).2.1 ≤ 1099511627776) ∧ ((el 4).1 ≤ (el 4).2.1 ∧ 0 ≤ (el 4).1 ∧ (el 4).2.1 ≤ 1099511627776) := by
  unfold boxOK; simp only [Bool.and_eq_true, decide_eq_true_eq, insV_iff, and_assoc]
theorem boxOK_lt {n : Nat} {el : Nat → Int × Int × Unit} (h : boxOK n el = true) : n = 5 ∧ ∀ k, k < 5 → (el k).1 ≤ (el k).2.1 ∧ -8388608 ≤ (el k).1 ∧ (el k).2.1 ≤ 1099511627776 := by
  have h := boxOK_iff.1 h
  refine ⟨h.1, fun k hk => ?_⟩
  match k, hk with
  | 0, _ => omega
  | 1, _ => omega
  | 2, _ => omega
  | 3, _ => omega
  | 4, _ => omega
def sel5 (a b c d e : Int) (k : Nat) : Int := match k with | 0 => a | 1 => b | 2 => c | 3 => d | _ => e
@[simp] theorem sel5_0 (a b c d e : Int) : sel5 a b c d e 0 = a := rfl
@[simp] theorem sel5_1 (a b c d e : Int) : sel5 a b c d e 1 = b := rfl
@[simp] theorem sel5_2 (a b c d e : Int) : sel5 a b c d e 2 = c := rfl
@[simp] theorem sel5_3 (a b c d e : Int) : sel5 a b c d e 3 = d := rfl
@[simp] theorem sel5_4 (a b c d e : Int) : sel5 a b c d e 4 = e := rfl
attribute [irreducible] sel5
theorem lt5 {p : Nat → Prop} : (∀ k, k < 5 → p k) ↔ p 0 ∧ p 1 ∧ p 2 ∧ p 3 ∧ p 4 := by
  constructor
  · intro h; exact ⟨h 0 (by omega), h 1 (by omega), h 2 (by omega), h 3 (by omega), h 4 (by omega)⟩
  · rintro ⟨h0, h1, h2, h3, h4⟩ k hk
    match k, hk with
    | 0, _ => exact h0
    | 1, _ => exact h1
    | 2, _ => exact h2
    | 3, _ => exact h3
    | 4, _ => exact h4
theorem catE_lt {n k : Nat} {f g : Nat → List AV} (h : k < n) : catE n f g k = f k := by unfold catE; rw [if_pos h]
theorem catE_ge {n k : Nat} {f g : Nat → List AV} (h : n ≤ k) : catE n f g k = g (k - n) := by unfold catE; rw [if_neg (by omega)]
/-- the numbers below k with p, and how many they are -/
def pickL (p : Nat → Bool) (k : Nat) : List Nat := (List.range k).filter p
@[irreducible] def cntF (p : Nat → Bool) (k : Nat) : Nat := (pickL p k).length
@[irreducible] def pickF (p : Nat → Bool) (k j : Nat) : Int := (((pickL p k).getD j 0 : Nat) : Int)
theorem pickL_succ (p : Nat → Bool) (k : Nat) : pickL p (k + 1) = pickL p k ++ (if p k then [k] else []) := by
  unfold pickL
  rw [List.range_succ, List.filter_append]
  cases h : p k <;> simp [h]
theorem cntF_0 (p : Nat → Bool) : cntF p 0 = 0 := by unfold cntF pickL; rfl
theorem cntF_le (p : Nat → Bool) (k : Nat) : cntF p k ≤ k := by
  unfold cntF pickL; exact Nat.le_trans (List.length_filter_le _ _) (by simp)
theorem cntF_t {p : Nat → Bool} {k : Nat} (h : p k = true) : cntF p (k + 1) = cntF p k + 1 := by unfold cntF; rw [pickL_succ, h]; simp
theorem cntF_f {p : Nat → Bool} {k : Nat} (h : p k = false) : cntF p (k + 1) = cntF p k := by unfold cntF; rw [pickL_succ, h]; simp
theorem pickF_lt {p : Nat → Bool} {k j : Nat} (h : j < cntF p k) : pickF p (k + 1) j = pickF p k j := by
  unfold cntF at h
  unfold pickF
  rw [pickL_succ, List.getD_eq_getElem?_getD, List.getElem?_append_left h, ← List.getD_eq_getElem?_getD]
theorem pickF_at {p : Nat → Bool} {k : Nat} (h : p k = true) : pickF p (k + 1) (cntF p k) = k := by
  unfold cntF pickF
  rw [pickL_succ, h, List.getD_eq_getElem?_getD, List.getElem?_append_right (Nat.le_refl _)]
  simp
theorem cntF_zero {p : Nat → Bool} {k : Nat} (h : ∀ j, j < k → p j = false) : cntF p k = 0 := by
  unfold cntF pickL
  rw [List.length_eq_zero_iff, List.filter_eq_nil_iff]
  intro a ha
  rw [h a (by simpa using ha)]; simp
/-- the last block replaced -/
def setLast : Heap → Blk → Heap
  | [], _ => []
  | [_], b => [b]
  | x :: y :: l, b => x :: setLast (y :: l) b
@[irreducible] def ofV (n : Nat) (x : Int) : Int := if n = 5 then x else 0
@[irreducible] def ofE (n : Nat) : Int := if n = 5 then 0 else 2
/-- where a state is outside of a box -/
@[irreducible] def outP (lo hi : Nat → Int) (a b c d e : Int) (k : Nat) : Bool := !(isIn (lo k) (sel5 a b c d e k) (hi k))
@[irreducible] def apN (n : Nat) (lo hi : Nat → Int) (a b c d e : Int) : Nat := if boxOK n (fun k => (lo k, hi k, ())) then cntF (outP lo hi a b c d e) 5 else 0
@[irreducible] def apE (n : Nat) (lo hi : Nat → Int) : Int := if boxOK n (fun k => (lo k, hi k, ())) then 0 else 2
@[irreducible] def pulV (n : Nat) (lo hi : Nat → Int) (x : Int) (k : Nat) : Int := if boxOK n (fun k => (lo k, hi k, ())) then intoV x (lo k) (hi k) else 0
@[irreducible] def pulF (lo hi : Nat → Int) (a b c d e : Int) (g j : Nat) : Int := if j < g then intoV (sel5 a b c d e j) (lo j) (hi j) else sel5 a b c d e j
@[irreducible] def intoF (lo hi : Nat → Int) (a b c d e : Int) (j : Nat) : Int := intoV (sel5 a b c d e j) (lo j) (hi j)
@[irreducible] def sameV (n m : Nat) (f g : Nat → Int) : Bool := decide (n = m) && allN (fun k => decide (f k = g k)) n
theorem sameV_iff {n m : Nat} {f g : Nat → Int} : sameV n m f g = true ↔ n = m ∧ ∀ k, k < n → f k = g k := by
  unfold sameV; rw [Bool.and_eq_true, decide_eq_true_eq, allN_iff]; simp
theorem sameV_self (n : Nat) (f : Nat → Int) : sameV n n f f = true := sameV_iff.2 ⟨rfl, fun _ _ => rfl⟩
@[reducible] def loF (el : Nat → Int × Int × Unit) (k : Nat) : Int := (el k).1
@[reducible] def hiF (el : Nat → Int × Int × Unit) (k : Nat) : Int := (el k).2.1
theorem pul_upd {lo hi : Nat → Int} {a b c d e : Int} {g : Nat} (h : ∀ k, k < 5 → lo k ≤ hi k) (hg : g < 5) : ∀ j, j < 5 →
    updE g [.si .i64 (min (max (pulF lo hi a b c d e g g) (lo g)) (hi g))] (fun j => [.si .i64 (pulF lo hi a b c d e g j)]) j = [.si .i64 (pulF lo hi a b c d e (g + 1) j)] := by
  intro j hj
  have := h g hg
  rw [updE_eq]
  unfold pulF
  split
  · rename_i e; subst e
    rw [if_neg (by omega), if_pos (by omega)]
    unfold intoV
    congr 2; omega
  · by_cases h1 : j < g
    · rw [if_pos h1, if_pos (by omega)]
    · rw [if_neg h1, if_neg (by omega)]
theorem pick_cat {p : Nat → Bool} {g : Nat} (h : p g = true) : ∀ j, j < cntF p g + 1 → catE (cntF p g) (fun j => [.si .i64 (pickF p g j)]) (rowAt 1 [.si .i64 (g : Int)]) j = [.si .i64 (pickF p (g + 1) j)] := by
  intro j hj
  by_cases h1 : j < cntF p g
  · rw [catE_lt h1, pickF_lt h1]
  · obtain rfl : j = cntF p g := by omega
    rw [catE_ge (Nat.le_refl _), pickF_at h, Nat.sub_self]; rfl
theorem app_cat {f : Nat → List AV} {g : Nat} {x : List AV} (h : x = f g) (hl : takeL x 1 = x) : ∀ j, j < g + 1 → catE g f (rowAt 1 x) j = f j := by
  intro j hj
  by_cases h1 : j < g
  · rw [catE_lt h1]
  · obtain rfl : j = g := by omega
    rw [catE_ge (Nat.le_refl _), Nat.sub_self, ← h]; exact hl
theorem apN_le (n : Nat) (lo hi : Nat → Int) (a b c d e : Int) : apN n lo hi a b c d e ≤ 5 := by
  unfold apN; split
  · exact cntF_le _ 5
  · omega
theorem pul_in {n : Nat} {lo hi : Nat → Int} (h : boxOK n (fun k => (lo k, hi k, ())) = true) {k : Nat} (hk : k < 5) (x : Int) : lo k ≤ pulV n lo hi x k ∧ pulV n lo hi x k ≤ hi k := by
  have := ((boxOK_lt h).2 k hk).1
  simp only at this
  unfold pulV intoV
  rw [h]; simp; omega
theorem pul_fix {n : Nat} {lo hi : Nat → Int} {k : Nat} {x : Int} (hx : lo k ≤ x ∧ x ≤ hi k) (h : boxOK n (fun k => (lo k, hi k, ())) = true) : pulV n lo hi x k = x := by
  unfold pulV intoV
  rw [h]; simp; omega
theorem ap_pul {n : Nat} {lo hi : Nat → Int} (h : boxOK n (fun k => (lo k, hi k, ())) = true) (a b c d e : Int) : apN n lo hi (pulV n lo hi a 0) (pulV n lo hi b 1) (pulV n lo hi c 2) (pulV n lo hi d 3) (pulV n lo hi e 4) = 0 := by
  unfold apN
  rw [if_pos h]
  refine cntF_zero (lt5.2 ?_)
  have h0 := pul_in h (k := 0) (by omega) a
  have h1 := pul_in h (k := 1) (by omega) b
  have h2 := pul_in h (k := 2) (by omega) c
  have h3 := pul_in h (k := 3) (by omega) d
  have h4 := pul_in h (k := 4) (by omega) e
  unfold outP
  simp [h0, h1, h2, h3, h4]
end Abs
end Go.Proofs.Ytaiilbgknjlmoaa

/- State boxes and vectors: what the functions answer. -/
namespace Go.Proofs.Ytaiilbgknjlmoaa
namespace Abs
open Go Go.RowKit
def boxS : Spec [spansSh] := ⟨fun _ => True, fun ((n, el), _) => .sb (boxOK n el)⟩
set_option maxRecDepth 100000 in
theorem stateBox_ok : FnSpec Try.prog 30 _ boxS := by
  refine FnSpec.of SQ3_ok mixed (U := 7) (I := fun _ => []) Try.func30 rfl (by kernel_rfl) rfl rfl (by decide +kernel) ?_
  rintro ⟨⟨n, el⟩, ⟨⟩⟩ -
  obtain ⟨lo, hi, rfl⟩ : ∃ lo hi : Nat → Int, el = fun k => (lo k, hi k, ()) := ⟨fun k => (el k).1, fun k => (el k).2.1, rfl⟩
  unfold FnSat
  conv => arg 2; reduce
  simp [boxS]
  refine ⟨fun h => ?_, fun h => ?_⟩
  · cases hb : boxOK n (fun k => (lo k, hi k, ())) with
    | false => rfl
    | true => have := (boxOK_iff.1 hb).1; omega
  obtain rfl : n = 5 := by omega
  have hb := boxOK_iff (n := 5) (el := fun k => (lo k, hi k, ()))
  simp only at hb
  cases hc : boxOK 5 (fun k => (lo k, hi k, ())) with
  | true =>
    have := hb.1 hc
    simp
    omega
  | false =>
    rw [hc] at hb
    simp at hb ⊢
    exact hb
def partsF : SpecF [.cells 45 [.int .i64, .int .i64, .int .i64, .int .i64, .int .i64]] [.own 0 0] :=
  ⟨fun _ _ => True, fun _ _ => .agg [.own 0 0, .own 0 1, .own 0 2, .own 0 3, .own 0 4], fun ((a, b, c, d, e, _), _) _ => [.cells 45 [.si .i64 a, .si .i64 b, .si .i64 c, .si .i64 d, .si .i64 e]]⟩
set_option maxRecDepth 100000 in
theorem parts_ok : FnSpecF Try.prog 39 _ _ partsF := by
  refine FnSpecF.of SQ3_ok mixed (U := 0) (I := fun _ _ => []) Try.func39 rfl (by kernel_rfl) rfl (by decide +kernel) ?_
  rintro ⟨⟨(a : Int), (b : Int), (c : Int), (d : Int), (e : Int), ⟨⟩⟩, ⟨⟩⟩ ⟨⟨⟩, ⟨⟩⟩ -
  unfold FnSat
  conv => arg 2; reduce
  simp [partsF, aliveB, getB, encH, encB]
def SP0 : Sums := ⟨SQ3.one, [(39, mkSumF _ _ partsF)], 0, SQ3.eqs⟩
theorem SP0_ok : SumsOK Try.prog SP0 := SQ3_ok.addTwo Try.func39 (by kernel_rfl) (by kernel_rfl) (mkSumF_ok parts_ok)

theorem hasV_box {n : Nat} {lo hi : Nat → Int} (h : boxOK n (fun k => (lo k, hi k, ())) = true) {k : Nat} (hk : k < 5) (x : Int) : hasV (lo k) (hi k) x = isIn (lo k) x (hi k) := by
  have := (boxOK_lt h).2 k hk
  simp only at this
  unfold hasV spanOK
  rw [Bool.eq_iff_iff]
  simp [isQ]
  omega
def vecN : SpecN [stateSh] := ⟨fun _ => True, fun _ => .row 1, fun ((a, b, c, d, e, _), _) => [.dead, .row 2 1 (.lit 5) (fun k => [.si .i64 (sel5 a b c d e k)])]⟩
set_option maxRecDepth 100000 in
theorem vector_ok : FnSpecN Try.prog 31 _ vecN := by
  refine FnSpecN.of SP0_ok mixed (U := 6) (I := fun _ => []) Try.func31 rfl (by kernel_rfl) rfl rfl (by decide +kernel) ?_
  rintro ⟨⟨(a : Int), (b : Int), (c : Int), (d : Int), (e : Int), ⟨⟩⟩, ⟨⟩⟩ -
  unfold FnSat
  conv => arg 2; reduce
  simp [vecN, partsF, maxRow, aliveB, getB, ElEq, lt5, catE_lt, catE_ge, rowAt, takeL, dropL]
set_option maxRecDepth 100000 in
theorem rvector_ok : FnSpecN Try.prog 33 _ vecN := by
  refine FnSpecN.of SP0_ok mixed (U := 0) (I := fun _ => []) Try.func33 rfl (by kernel_rfl) rfl rfl (by decide +kernel) ?_
  rintro ⟨⟨(a : Int), (b : Int), (c : Int), (d : Int), (e : Int), ⟨⟩⟩, ⟨⟩⟩ -
  unfold FnSat
  conv => arg 2; reduce
  simp [vecN, partsF, maxRow, aliveB, getB, ElEq, lt5, catE_lt, catE_ge, rowAt, takeL, dropL]
def SV : Sums := ⟨(14, mkSum _ hasS) :: (30, mkSum _ boxS) :: (33, mkSumN _ vecN) :: (31, mkSumN _ vecN) :: SP0.one, SP0.two, SP0.lo, SP0.eqs⟩
theorem SV_ok : SumsOK Try.prog SV := ((((SP0_ok.add Try.func31 (by kernel_rfl) (by kernel_rfl) (mkSumN_ok vector_ok)).add Try.func33 (by kernel_rfl) (by kernel_rfl) (mkSumN_ok rvector_ok)).cons Try.func30 (by kernel_rfl) (by kernel_rfl) stateBox_ok).cons Try.func14 (by kernel_rfl) (by kernel_rfl) has_ok)
def ofS : Spec [intsSh] := ⟨fun _ => True, fun ((n, el), _) => .tup [.agg [.si .i64 (ofV n (el 0).1), .si .i64 (ofV n (el 1).1), .si .i64 (ofV n (el 2).1), .si .i64 (ofV n (el 3).1), .si .i64 (ofV n (el 4).1)], .si .i64 (ofE n)]⟩
set_option maxRecDepth 100000 in
theorem of_ok : FnSpec Try.prog 34 _ ofS := by
  refine FnSpec.of SV_ok mixed (U := 6) (I := fun _ => []) Try.func34 rfl (by kernel_rfl) rfl rfl (by decide +kernel) ?_
  rintro ⟨⟨n, el⟩, ⟨⟩⟩ -
  obtain ⟨v, rfl⟩ : ∃ v : Nat → Int, el = fun k => (v k, ()) := ⟨fun k => (el k).1, rfl⟩
  unfold FnSat
  conv => arg 2; reduce
  simp [ofS, partsF]
  refine ⟨fun h => ?_, fun h => ?_⟩
  · have h' : ¬ n = 5 := by omega
    simp [ofV, ofE, h']
  · obtain rfl : n = 5 := by omega
    simp [ofV, ofE]
set_option maxRecDepth 100000 in
theorem rof_ok : FnSpec Try.prog 35 _ ofS := by
  refine FnSpec.of SV_ok mixed (U := 0) (I := fun _ => []) Try.func35 rfl (by kernel_rfl) rfl rfl (by decide +kernel) ?_
  rintro ⟨⟨n, el⟩, ⟨⟩⟩ -
  obtain ⟨v, rfl⟩ : ∃ v : Nat → Int, el = fun k => (v k, ()) := ⟨fun k => (el k).1, rfl⟩
  unfold FnSat
  conv => arg 2; reduce
  simp [ofS]
  refine ⟨fun h => ?_, fun h => ?_⟩
  · have h' : ¬ n = 5 := by omega
    simp [ofV, ofE, h']
  · obtain rfl : n = 5 := by omega
    simp [ofV, ofE]
def insS : Spec [spanSh, .int .i64, .int .i64] := ⟨fun _ => True, fun ((lo, hi, _), a, b, _) => .sb (insV lo hi a b)⟩
set_option maxRecDepth 100000 in
theorem rins_ok : FnSpec Try.prog 40 _ insS := by
  refine FnSpec.of SV_ok mixed (U := 0) (I := fun _ => []) Try.func40 rfl (by kernel_rfl) rfl rfl (by decide +kernel) ?_
  rintro ⟨⟨(lo : Int), (hi : Int), ⟨⟩⟩, (a : Int), (b : Int), ⟨⟩⟩ -
  unfold FnSat
  conv => arg 2; reduce
  simp [insS, insV]
def SV1 : Sums := ⟨(40, mkSum _ insS) :: (35, mkSum _ ofS) :: (34, mkSum _ ofS) :: SV.one, SV.two, SV.lo, SV.eqs⟩
theorem SV1_ok : SumsOK Try.prog SV1 := (((SV_ok.cons Try.func34 (by kernel_rfl) (by kernel_rfl) of_ok).cons Try.func35 (by kernel_rfl) (by kernel_rfl) rof_ok).cons Try.func40 (by kernel_rfl) (by kernel_rfl) rins_ok)
def rboxS : Spec [spansSh] := ⟨fun _ => True, fun ((n, el), _) => .si .i64 (errB (boxOK n el))⟩
set_option maxRecDepth 100000 in
theorem rbox_ok : FnSpec Try.prog 32 _ rboxS := by
  refine FnSpec.of SV1_ok mixed (U := 0) (I := fun _ => []) Try.func32 rfl (by kernel_rfl) rfl rfl (by decide +kernel) ?_
  rintro ⟨⟨n, el⟩, ⟨⟩⟩ -
  obtain ⟨lo, hi, rfl⟩ : ∃ lo hi : Nat → Int, el = fun k => (lo k, hi k, ()) := ⟨fun k => (el k).1, fun k => (el k).2.1, rfl⟩
  unfold FnSat
  conv => arg 2; reduce
  simp [rboxS, insS]
  by_cases hn : n = 5
  · subst hn
    simp only [boxOK]
    cases insV (lo 0) (hi 0) 0 4294967296 <;> cases insV (lo 1) (hi 1) (-8388608) 8388608 <;> cases insV (lo 2) (hi 2) 0 400000 <;> cases insV (lo 3) (hi 3) 0 1099511627776 <;> cases insV (lo 4) (hi 4) 0 1099511627776 <;> simp [errB]
  · have h' : ¬ (n : Int) = 5 := by omega
    simp [h', boxOK, hn, errB]
def SV2 : Sums := ⟨(32, mkSum _ rboxS) :: SV1.one, SV1.two, SV1.lo, SV1.eqs⟩
theorem SV2_ok : SumsOK Try.prog SV2 := (SV1_ok.cons Try.func32 (by kernel_rfl) (by kernel_rfl) rbox_ok)
def apartS : Spec [spansSh, stateSh] := ⟨fun _ => True, fun ((n, el), (a, b, c, d, e, _), _) =>
  .tup [.slc (.sym (apN n (loF el) (hiF el) a b c d e)) 1 (fun j => [.si .i64 (pickF (outP (loF el) (hiF el) a b c d e) 5 j)]), .si .i64 (apE n (loF el) (hiF el))]⟩
noncomputable def apI : DatL [spansSh, stateSh] → Anns := fun ((_, el), ((a : Int), (b : Int), (c : Int), (d : Int), (e : Int), _), _) =>
  [(5, [(6, 3, 1)], fun fr hp => ⟨Nat, fun g => ⟨frI [.k 7, .t 2, .k 6, .s (.si .i64 (icast g)), .t 16] fr,
    setLast hp (.row 3 1 (.sym (cntF (outP (loF el) (hiF el) a b c d e) g)) (fun j => [.si .i64 (pickF (outP (loF el) (hiF el) a b c d e) g j)]))⟩, Nat, fun g => g, fun g => g ≤ 5, fun g => nsub 5 g⟩)]
set_option maxRecDepth 100000 in
theorem apart_ok : FnSpec Try.prog 15 _ apartS := by
  refine FnSpec.of SV2_ok mixed (U := 0) (I := apI) Try.func15 rfl (by kernel_rfl) rfl rfl (by decide +kernel) ?_
  rintro ⟨⟨n, el⟩, ⟨(a : Int), (b : Int), (c : Int), (d : Int), (e : Int), ⟨⟩⟩, ⟨⟩⟩ -
  obtain ⟨lo, hi, rfl⟩ : ∃ lo hi : Nat → Int, el = fun k => (lo k, hi k, ()) := ⟨fun k => (el k).1, fun k => (el k).2.1, rfl⟩
  unfold FnSat
  conv => arg 2; reduce
  simp [apartS, boxS, vecN, hasS, maxRow, ElEq, aliveB, goneB, getB, and_assoc, CanL, okSh, CanSh]
  simp only [show (loF fun k => (lo k, hi k, ())) = lo from rfl, show (hiF fun k => (lo k, hi k, ())) = hi from rfl]
  generalize hP : outP lo hi a b c d e = Pq
  refine ⟨fun h => ?_, fun h => ⟨⟨0, rfl, (cntF_0 _).symm, fun j => by rw [cntF_0]; omega, by omega⟩, fun g hg => ⟨fun h1 => ?_, fun h1 => ?_⟩⟩⟩
  · have h : boxOK n (fun k => (lo k, hi k, ())) = false := h
    simp [apN, apE, h, hP]
  · have hb := hasV_box h (k := g) (by omega) (sel5 a b c d e g)
    have hn := (boxOK_lt h).1
    refine ⟨h1, by omega, fun h2 => ?_, fun h2 => ?_⟩
    · have hp : Pq g = true := by rw [← hP]; unfold outP; rw [← hb, h2]; rfl
      have := cntF_le Pq g
      refine ⟨by omega, by omega, by omega, g + 1, by omega, (cntF_t hp).symm, fun j hj => ?_, by omega, by omega⟩
      exact pick_cat hp j (by rw [cntF_t hp] at hj; exact hj)
    · have hp : Pq g = false := by rw [← hP]; unfold outP; rw [← hb, h2]; rfl
      exact ⟨by omega, by omega, g + 1, by omega, (cntF_f hp).symm, fun j hj => (pickF_lt (by rw [cntF_f hp] at hj; exact hj)).symm, by omega, by omega⟩
  · obtain rfl : g = 5 := by omega
    have h : boxOK n (fun k => (lo k, hi k, ())) = true := h
    simp [apN, apE, h, hP]
def pullS : Spec [spansSh, stateSh] := ⟨fun _ => True, fun ((n, el), (a, b, c, d, e, _), _) =>
  .tup [.agg [.si .i64 (pulV n (loF el) (hiF el) a 0), .si .i64 (pulV n (loF el) (hiF el) b 1), .si .i64 (pulV n (loF el) (hiF el) c 2), .si .i64 (pulV n (loF el) (hiF el) d 3), .si .i64 (pulV n (loF el) (hiF el) e 4)], .si .i64 (apE n (loF el) (hiF el))]⟩
noncomputable def pullI : DatL [spansSh, stateSh] → Anns := fun ((_, el), ((a : Int), (b : Int), (c : Int), (d : Int), (e : Int), _), _) =>
  [(5, [], fun fr hp => ⟨Nat, fun g => ⟨frI [.k 7, .t 1, .k 8, .s (.si .i64 (icast g)), .t 22] fr,
    setB hp 3 (.row 2 1 (.lit 5) (fun j => [.si .i64 (pulF (loF el) (hiF el) a b c d e g j)]))⟩, Nat, fun g => g, fun g => g ≤ 5, fun g => nsub 5 g⟩)]
set_option maxRecDepth 100000 in
theorem pull_ok : FnSpec Try.prog 17 _ pullS := by
  refine FnSpec.of SV2_ok mixed (U := 0) (I := pullI) Try.func17 rfl (by kernel_rfl) rfl rfl (by decide +kernel) ?_
  rintro ⟨⟨n, el⟩, ⟨(a : Int), (b : Int), (c : Int), (d : Int), (e : Int), ⟨⟩⟩, ⟨⟩⟩ -
  obtain ⟨lo, hi, rfl⟩ : ∃ lo hi : Nat → Int, el = fun k => (lo k, hi k, ()) := ⟨fun k => (el k).1, fun k => (el k).2.1, rfl⟩
  unfold FnSat
  conv => arg 2; reduce
  simp [pullS, boxS, vecN, ofS, maxRow, ElEq, aliveB, goneB, getB, and_assoc, CanL, okSh, CanSh]
  simp only [show (loF fun k => (lo k, hi k, ())) = lo from rfl, show (hiF fun k => (lo k, hi k, ())) = hi from rfl]
  refine ⟨fun h => ?_, fun h => ⟨⟨0, rfl, fun j hj => by simp [pulF], by omega⟩, fun g hg => ⟨fun h1 => ?_, fun h1 => ?_⟩⟩⟩
  · have h : boxOK n (fun k => (lo k, hi k, ())) = false := h
    simp [pulV, apE, h]
  · have hb := boxOK_lt h
    exact ⟨h1, by omega, h1, by omega, by omega, g + 1, by omega, pul_upd (fun k hk => (hb.2 k hk).1) (by omega), by omega, by omega⟩
  · obtain rfl : g = 5 := by omega
    have h : boxOK n (fun k => (lo k, hi k, ())) = true := h
    simp [ofV, ofE, pulF, pulV, apE, h]
def SV3 : Sums := ⟨(17, mkSum _ pullS) :: (15, mkSum _ apartS) :: SV2.one, SV2.two, SV2.lo, SV2.eqs⟩
theorem SV3_ok : SumsOK Try.prog SV3 := ((SV2_ok.cons Try.func15 (by kernel_rfl) (by kernel_rfl) apart_ok).cons Try.func17 (by kernel_rfl) (by kernel_rfl) pull_ok)
set_option maxRecDepth 100000 in
theorem bin_ok : FnSpec Try.prog 23 _ within := by
  refine FnSpec.of SV3_ok mixed (U := 0) (I := fun _ => []) Try.func23 rfl (by kernel_rfl) rfl rfl (by decide +kernel) ?_
  rintro ⟨(x : Int), (lo : Int), (hi : Int), ⟨⟩⟩ -
  unfold FnSat
  conv => arg 2; reduce
  simp [within]
set_option maxRecDepth 100000 in
theorem binto_ok : FnSpec Try.prog 24 _ into := by
  refine FnSpec.of SV3_ok mixed (U := 0) (I := fun _ => []) Try.func24 rfl (by kernel_rfl) rfl rfl (by decide +kernel) ?_
  rintro ⟨(x : Int), (lo : Int), (hi : Int), ⟨⟩⟩ -
  unfold FnSat
  conv => arg 2; reduce
  simp [into, intoV]
def SV4 : Sums := ⟨(24, mkSum _ into) :: (23, mkSum _ within) :: SV3.one, SV3.two, SV3.lo, SV3.eqs⟩
theorem SV4_ok : SumsOK Try.prog SV4 := ((SV3_ok.cons Try.func23 (by kernel_rfl) (by kernel_rfl) bin_ok).cons Try.func24 (by kernel_rfl) (by kernel_rfl) binto_ok)
noncomputable def rapI : DatL [spansSh, stateSh] → Anns := fun ((_, el), ((a : Int), (b : Int), (c : Int), (d : Int), (e : Int), _), _) =>
  [(6, [(7, 3, 1)], fun fr hp => ⟨Nat, fun g => ⟨frI [.k 8, .s (.si .i64 (icast g)), .k 5, .t 26] fr,
    setLast hp (.row 3 1 (.sym (cntF (outP (loF el) (hiF el) a b c d e) g)) (fun j => [.si .i64 (pickF (outP (loF el) (hiF el) a b c d e) g j)]))⟩, Nat, fun g => g, fun g => g ≤ 5, fun g => nsub 5 g⟩)]
set_option maxRecDepth 100000 in
theorem rapart_ok : FnSpec Try.prog 16 _ apartS := by
  refine FnSpec.of SV4_ok mixed (U := 0) (I := rapI) Try.func16 rfl (by kernel_rfl) rfl rfl (by decide +kernel) ?_
  rintro ⟨⟨n, el⟩, ⟨(a : Int), (b : Int), (c : Int), (d : Int), (e : Int), ⟨⟩⟩, ⟨⟩⟩ -
  obtain ⟨lo, hi, rfl⟩ : ∃ lo hi : Nat → Int, el = fun k => (lo k, hi k, ()) := ⟨fun k => (el k).1, fun k => (el k).2.1, rfl⟩
  unfold FnSat
  conv => arg 2; reduce
  simp [apartS, rboxS, vecN, within, errB, maxRow, ElEq, aliveB, goneB, getB, and_assoc, CanL, okSh, CanSh]
  simp only [show (loF fun k => (lo k, hi k, ())) = lo from rfl, show (hiF fun k => (lo k, hi k, ())) = hi from rfl]
  generalize hP : outP lo hi a b c d e = Pq
  refine ⟨fun h => ?_, fun h => ⟨⟨0, rfl, (cntF_0 _).symm, fun j => by rw [cntF_0]; omega, by omega⟩, fun g hg => ⟨fun h1 => ?_, fun h1 => ?_⟩⟩⟩
  · have h : boxOK n (fun k => (lo k, hi k, ())) = false := h
    simp [apN, apE, h]
  · have hn := (boxOK_lt h).1
    refine ⟨by omega, by omega, fun h2 => ?_, fun h2 h3 => ?_⟩
    · have hp : Pq g = true := by rw [← hP]; unfold outP; simp; omega
      have := cntF_le Pq g
      refine ⟨by omega, by omega, by omega, g + 1, by omega, (cntF_t hp).symm, fun j hj => ?_, by omega, by omega⟩
      exact pick_cat hp j (by rw [cntF_t hp] at hj; exact hj)
    · have hp : Pq g = false := by rw [← hP]; unfold outP; simp; omega
      exact ⟨by omega, by omega, g + 1, by omega, (cntF_f hp).symm, fun j hj => (pickF_lt (by rw [cntF_f hp] at hj; exact hj)).symm, by omega, by omega⟩
  · have hn := (boxOK_lt h).1
    obtain rfl : g = 5 := by omega
    have h : boxOK n (fun k => (lo k, hi k, ())) = true := h
    simp [apN, apE, h, hP]
noncomputable def rpulI : DatL [spansSh, stateSh] → Anns := fun ((_, el), ((a : Int), (b : Int), (c : Int), (d : Int), (e : Int), _), _) =>
  [(6, [(7, 2, 1)], fun fr hp => ⟨Nat, fun g => ⟨frI [.k 8, .s (.si .i64 (icast g)), .k 6, .t 24] fr,
    setLast hp (.row 2 1 (.sym g) (fun j => [.si .i64 (intoF (loF el) (hiF el) a b c d e j)]))⟩, Nat, fun g => g, fun g => g ≤ 5, fun g => nsub 5 g⟩)]
set_option maxRecDepth 100000 in
theorem rpull_ok : FnSpec Try.prog 18 _ pullS := by
  refine FnSpec.of SV4_ok mixed (U := 0) (I := rpulI) Try.func18 rfl (by kernel_rfl) rfl rfl (by decide +kernel) ?_
  rintro ⟨⟨n, el⟩, ⟨(a : Int), (b : Int), (c : Int), (d : Int), (e : Int), ⟨⟩⟩, ⟨⟩⟩ -
  obtain ⟨lo, hi, rfl⟩ : ∃ lo hi : Nat → Int, el = fun k => (lo k, hi k, ()) := ⟨fun k => (el k).1, fun k => (el k).2.1, rfl⟩
  unfold FnSat
  conv => arg 2; reduce
  simp [pullS, rboxS, vecN, ofS, into, errB, maxRow, ElEq, aliveB, goneB, getB, and_assoc, CanL, okSh, CanSh]
  simp only [show (loF fun k => (lo k, hi k, ())) = lo from rfl, show (hiF fun k => (lo k, hi k, ())) = hi from rfl]
  generalize hF : intoF lo hi a b c d e = F
  refine ⟨fun h => ?_, fun h => ⟨⟨0, rfl, rfl, fun j => by omega, by omega⟩, fun g hg => ⟨fun h1 => ?_, fun h1 => ?_⟩⟩⟩
  · have h : boxOK n (fun k => (lo k, hi k, ())) = false := h
    simp [pulV, apE, h]
  · have hb := boxOK_lt h
    refine ⟨by omega, by omega, by omega, by omega, by omega, g + 1, by omega, rfl, fun j hj => ?_, by omega, by omega⟩
    exact app_cat (f := fun j => [.si .i64 (F j)]) (by rw [← hF]; simp [intoF]) rfl j hj
  · have hn := (boxOK_lt h).1
    obtain rfl : g = 5 := by omega
    have h : boxOK n (fun k => (lo k, hi k, ())) = true := h
    rw [← hF]
    simp [ofV, ofE, intoF, pulV, apE, h]
def SV5 : Sums := ⟨(18, mkSum _ pullS) :: (16, mkSum _ apartS) :: SV4.one, SV4.two, SV4.lo, SV4.eqs⟩
theorem SV5_ok : SumsOK Try.prog SV5 := ((SV4_ok.cons Try.func16 (by kernel_rfl) (by kernel_rfl) rapart_ok).cons Try.func18 (by kernel_rfl) (by kernel_rfl) rpull_ok)
def intsS : Spec [intsSh, intsSh] := ⟨fun (x, y, _) => x.1 ≤ maxLen, fun ((n, f), (m, g), _) => .sb (sameV n m (fun k => (f k).1) (fun k => (g k).1))⟩
noncomputable def intsI : DatL [intsSh, intsSh] → Anns := fun ((n, f), (m, g), _) =>
  [(4, [], fun fr hp => ⟨Nat, fun k => ⟨frI [.k 5, .s (.si .i64 (icast k)), .k 5, .t 15] fr, hp⟩, Nat, fun k => k, fun k => k ≤ n ∧ ∀ j, j < k → (f j).1 = (g j).1, fun k => nsub n k⟩)]
set_option maxRecDepth 100000 in
theorem ints_ok : FnSpec Try.prog 19 _ intsS := by
  refine FnSpec.of SV5_ok mixed (U := 0) (I := intsI) Try.func19 rfl (by kernel_rfl) rfl rfl (by decide +kernel) ?_
  rintro ⟨⟨n, f⟩, ⟨m, g⟩, ⟨⟩⟩ (hn : n ≤ maxLen)
  obtain ⟨v, rfl⟩ : ∃ v : Nat → Int, f = fun k => (v k, ()) := ⟨fun k => (f k).1, rfl⟩
  obtain ⟨u, rfl⟩ : ∃ u : Nat → Int, g = fun k => (u k, ()) := ⟨fun k => (g k).1, rfl⟩
  unfold FnSat
  conv => arg 2; reduce
  unfold maxLen at hn
  simp [intsS, and_assoc]
  refine ⟨fun h => ?_, fun h => ⟨⟨0, rfl, by omega, fun j hj => by omega⟩, fun k hk hall => ⟨fun h1 => ⟨h1, by omega, fun h2 => ?_, fun h2 => ⟨by omega, by omega, k + 1, by omega, by omega, fun j hj => ?_, by omega⟩⟩, fun h1 => ?_⟩⟩⟩
  · cases hs : sameV n m v u with
    | false => rfl
    | true => have := (sameV_iff.1 hs).1; omega
  · cases hs : sameV n m v u with
    | false => rfl
    | true => exact absurd ((sameV_iff.1 hs).2 k h1) h2
  · by_cases hj' : j < k
    · exact hall j hj'
    · obtain rfl : j = k := by omega
      exact h2
  · exact sameV_iff.2 ⟨by omega, fun j hj => hall j (by omega)⟩
def SV6 : Sums := ⟨(19, mkSum _ intsS) :: SV5.one, SV5.two, SV5.lo, SV5.eqs⟩
theorem SV6_ok : SumsOK Try.prog SV6 := (SV5_ok.cons Try.func19 (by kernel_rfl) (by kernel_rfl) ints_ok)
def stateKs : List (Option IntKind) := [some .i64, some .i64, some .i64, some .i64, some .i64]
def eqs1 : List (Nat × List (Option IntKind)) := [(45, stateKs), (28, spanKs)]
theorem eqs1_ok : ∀ t ks, findS eqs1 t = some ks → EqOK Try.prog t ks := by
  intro t ks h
  unfold eqs1 at h
  simp only [findS] at h
  split at h
  · rename_i e
    obtain rfl := Nat.eq_of_beq_eq_true e
    injection h with h; subst h
    exact EqOK.of 3 (by decide) (by kernel_rfl) (by kernel_rfl) (by kernel_rfl)
  · split at h
    · rename_i e
      obtain rfl := Nat.eq_of_beq_eq_true e
      injection h with h; subst h
      exact EqOK.of 3 (by decide) (by kernel_rfl) (by kernel_rfl) (by kernel_rfl)
    · cases h
end Abs
end Go.Proofs.Ytaiilbgknjlmoaa

/- The statements' small example of layer 3. -/
namespace Go.Proofs.Ytaiilbgknjlmoaa
namespace Abs
open Go Go.RowKit
def plainS : Spec [] := ⟨fun _ => True, fun _ => .agg [.li .i64 3, .li .i64 10, .li .i64 0, .li .i64 100]⟩
set_option maxRecDepth 100000 in
theorem plainS_ok : FnSpec Try.prog 28 _ plainS := by
  refine FnSpec.of SP_ok mixed (U := 0) (I := fun _ => []) Try.func28 rfl (by kernel_rfl) rfl rfl (by decide +kernel) ?_
  rintro ⟨⟩ -
  unfold FnSat
  conv => arg 2; reduce
  simp [plainS]
def SW0 : Sums := ⟨(28, mkSum _ plainS) :: SP.one, SP.two, SP.lo, SP.eqs⟩
theorem SW0_ok : SumsOK Try.prog SW0 := (SP_ok.cons Try.func28 (by kernel_rfl) (by kernel_rfl) plainS_ok)
def trueS : Spec [] := ⟨fun _ => True, fun _ => .sb true⟩
theorem works_num : showV 3 10 0 100 42 3 = 50 ∧ showE 3 10 0 100 42 3 = 0 ∧ behLo 3 10 0 100 40 = 32 ∧ behHi 3 10 0 100 40 = 47 ∧ behE 3 10 0 100 40 = 0 := by
  simp [showV, showE, behLo, behHi, behE, sensOK, isQ, intoV, stepV, readOK]; decide
set_option maxRecDepth 100000 in
theorem works_ok : FnSpec Try.prog 12 _ trueS := by
  refine FnSpec.of SW0_ok mixed (U := 0) (I := fun _ => []) Try.func12 rfl (by kernel_rfl) rfl rfl (by decide +kernel) ?_
  rintro ⟨⟩ -
  unfold FnSat
  conv => arg 2; reduce
  obtain ⟨h1, h2, h3, h4, h5⟩ := works_num
  simp [plainS, show_, behind, trueS, h1, h2, h3, h4, h5]
end Abs
end Go.Proofs.Ytaiilbgknjlmoaa

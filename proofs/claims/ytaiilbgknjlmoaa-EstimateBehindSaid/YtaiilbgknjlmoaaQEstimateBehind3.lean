/- Part 3 of the proof of EstimateBehind: no statement of its own. -/
import Derived.Test.YtaiilbgknjlmoaaQEstimateBehind2
/- Spans that are valid. -/
namespace Go.Proofs.Ytaiilbgknjlmoaa
namespace Abs
open Go Go.RowKit
@[reducible] def spanSh : Sh := .agg [.int .i64, .int .i64]
@[reducible] def spansSh : Sh := .slice 2 [.int .i64, .int .i64]
@[irreducible] def spanOK (lo hi : Int) : Bool := isQ lo && isQ hi && decide (lo ≤ hi)
@[irreducible] def badSpan (lo hi : Int) : Bool := !(spanOK lo hi)
def badS : Spec [spanSh] := ⟨fun _ => True, fun ((lo, hi, _), _) => .sb (badSpan lo hi)⟩
set_option maxRecDepth 100000 in
theorem is_ok : FnSpec Try.prog 38 _ isQs := by
  refine FnSpec.of SP_ok mixed (U := 0) (I := fun _ => []) Try.func38 rfl (by kernel_rfl) rfl rfl (by decide +kernel) ?_
  rintro ⟨(x : Int), ⟨⟩⟩ -
  unfold FnSat
  conv => arg 2; reduce
  simp [isQs, isQ]
def SQ0 : Sums := ⟨(38, mkSum _ isQs) :: SP.one, SP.two, SP.lo, SP.eqs⟩
theorem SQ0_ok : SumsOK Try.prog SQ0 := (SP_ok.cons Try.func38 (by kernel_rfl) (by kernel_rfl) is_ok)
set_option maxRecDepth 100000 in
theorem bad_ok : FnSpec Try.prog 37 _ badS := by
  refine FnSpec.of SQ0_ok mixed (U := 0) (I := fun _ => []) Try.func37 rfl (by kernel_rfl) rfl rfl (by decide +kernel) ?_
  rintro ⟨⟨(lo : Int), (hi : Int), ⟨⟩⟩, ⟨⟩⟩ -
  unfold FnSat
  conv => arg 2; reduce
  simp [badS, isQs, badSpan, spanOK]
  cases isQ lo <;> cases isQ hi <;> (rw [Bool.eq_iff_iff]; simp)
def SQ1 : Sums := ⟨(37, mkSum _ badS) :: SQ0.one, SQ0.two, SQ0.lo, SQ0.eqs⟩
theorem SQ1_ok : SumsOK Try.prog SQ1 := (SQ0_ok.cons Try.func37 (by kernel_rfl) (by kernel_rfl) bad_ok)
def anyBadI : Spec [.slice 2 [.int .i64, .int .i64], .fn 37 [] []] := ⟨fun x => x.1.1 ≤ maxLen, fun ((n, el), ((_, c), _)) => .si .i64 (idxN (fun k => badSpan (el k).1 (el k).2.1) n)⟩
noncomputable def anyBadA : DatL [.slice 2 [.int .i64, .int .i64], .fn 37 [] []] → Anns := fun ((n, el), ((_, c), _)) => [(2, [], fun fr hp => ⟨Nat, fun g => ⟨frI [.k 5, .t 1, .k 2, .s (.si .i64 (icast g)), .t 10] fr, hp⟩, Nat, fun g => g, fun g => g ≤ firstN (fun k => badSpan (el k).1 (el k).2.1) n, fun g => nsub n g⟩)]
set_option maxRecDepth 100000 in
theorem anyBadI_ok : FnSpec Try.prog 41 _ anyBadI := by
  refine FnSpec.of SQ1_ok mixed (U := 0) (I := anyBadA) Try.func41 rfl (by kernel_rfl) rfl rfl (by decide +kernel) ?_
  rintro ⟨⟨n, el⟩, ⟨⟨⟩, c⟩, ⟨⟩⟩ hpre
  have hn : n ≤ maxLen := hpre
  unfold FnSat
  conv => arg 2; reduce
  unfold maxLen at hn
  have hle := firstN_le (fun k => badSpan (el k).1 (el k).2.1) n
  simp [anyBadI, badS, and_assoc]
  refine ⟨⟨0, rfl, by omega⟩, fun k hk => ⟨fun h1 => ?_, fun h1 => ?_⟩⟩
  · refine ⟨h1, fun h2 => ?_, fun h2 => ?_⟩
    · rw [idxN, firstN_at hk (by simpa using h2), if_pos h1]; try simp
    · have := firstN_ge hk (by simpa using h2) h1
      refine ⟨by omega, by omega, k + 1, by omega, by omega, by omega⟩
  · rw [idxN, if_neg (by omega)]
def anyBadC : Spec [.slice 2 [.int .i64, .int .i64], .fn 37 [] []] := ⟨fun x => x.1.1 ≤ maxLen, fun ((n, el), ((_, c), _)) => .sb (anyN (fun k => badSpan (el k).1 (el k).2.1) n)⟩
def anyBadS : Sums := ⟨(41, mkSum _ anyBadI) :: SQ1.one, SQ1.two, SQ1.lo, SQ1.eqs⟩
theorem anyBadS_ok : SumsOK Try.prog anyBadS := (SQ1_ok.cons Try.func41 (by kernel_rfl) (by kernel_rfl) anyBadI_ok)
set_option maxRecDepth 100000 in
theorem anyBadC_ok : FnSpec Try.prog 36 _ anyBadC := by
  refine FnSpec.of anyBadS_ok mixed (U := 0) (I := fun _ => []) Try.func36 rfl (by kernel_rfl) rfl rfl (by decide +kernel) ?_
  rintro ⟨⟨n, el⟩, ⟨⟨⟩, c⟩, ⟨⟩⟩ hpre
  unfold FnSat
  conv => arg 2; reduce
  have hpre : anyBadC.pre ((n, el), (((), c), ())) := hpre
  simp [anyBadC, anyBadI, idxN_nonneg] at hpre ⊢
  exact ⟨fun k hk => by trivial, hpre⟩
@[irreducible] def spansOK (el : Nat → Int × Int × Unit) (n : Nat) : Bool := !(anyN (fun k => badSpan (el k).1 (el k).2.1) n)
@[simp] theorem spansOK_one (el : Nat → Int × Int × Unit) : spansOK el 1 = spanOK (el 0).1 (el 0).2.1 := by
  unfold spansOK badSpan; rw [anyN_one]; simp
@[simp] theorem spansOK_two (el : Nat → Int × Int × Unit) : spansOK el 2 = (spanOK (el 0).1 (el 0).2.1 && spanOK (el 1).1 (el 1).2.1) := by
  unfold spansOK badSpan; rw [anyN_two]; simp
theorem spansOK_iff (el : Nat → Int × Int × Unit) (n : Nat) : spansOK el n = true ↔ ∀ k, k < n → spanOK (el k).1 (el k).2.1 = true := by
  unfold spansOK badSpan; rw [Bool.not_eq_true', anyN_false]; simp
def SQ2 : Sums := ⟨(36, mkSum _ anyBadC) :: SQ1.one, SQ1.two, SQ1.lo, SQ1.eqs⟩
theorem SQ2_ok : SumsOK Try.prog SQ2 := (SQ1_ok.cons Try.func36 (by kernel_rfl) (by kernel_rfl) anyBadC_ok)
def validS : Spec [spansSh] := ⟨fun x => x.1.1 ≤ maxLen, fun ((n, el), _) => .sb (spansOK el n)⟩
set_option maxRecDepth 100000 in
theorem valid_ok : FnSpec Try.prog 29 _ validS := by
  refine FnSpec.of SQ2_ok mixed (U := 0) (I := fun _ => []) Try.func29 rfl (by kernel_rfl) rfl rfl (by decide +kernel) ?_
  rintro ⟨⟨n, el⟩, ⟨⟩⟩ (hn : n ≤ maxLen)
  unfold FnSat
  conv => arg 2; reduce
  simp [validS, anyBadC, spansOK, CanEl]
  exact ⟨fun k hk => by trivial, hn⟩
def SQ3 : Sums := ⟨(29, mkSum _ validS) :: SQ2.one, SQ2.two, SQ2.lo, SQ2.eqs⟩
theorem SQ3_ok : SumsOK Try.prog SQ3 := (SQ2_ok.cons Try.func29 (by kernel_rfl) (by kernel_rfl) valid_ok)
@[irreducible] def hasV (lo hi x : Int) : Bool := spanOK lo hi && decide (lo ≤ x) && decide (x ≤ hi)
def hasS : Spec [spanSh, .int .i64] := ⟨fun _ => True, fun ((lo, hi, _), x, _) => .sb (hasV lo hi x)⟩
set_option maxRecDepth 100000 in
theorem has_ok : FnSpec Try.prog 14 _ hasS := by
  refine FnSpec.of SQ3_ok mixed (U := 0) (I := fun _ => []) Try.func14 rfl (by kernel_rfl) rfl rfl (by decide +kernel) ?_
  rintro ⟨⟨(lo : Int), (hi : Int), ⟨⟩⟩, (x : Int), ⟨⟩⟩ -
  unfold FnSat
  conv => arg 2; reduce
  simp [hasS, validS, hasV, CanEl, CanL, CanSh, okSh, maxLen, decL, rowAt, takeL, dropL]
end Abs
end Go.Proofs.Ytaiilbgknjlmoaa

/- Which noises show a reading of a quantity: plain numbers. -/
namespace Go.Proofs.Ytaiilbgknjlmoaa
namespace Abs
open Go
theorem step_mono {b y z : Int} (hb : 1 ≤ b) (h : y ≤ z) : stepV b y ≤ stepV b z := by
  unfold stepV
  exact Int.mul_le_mul_of_nonneg_left (Int.ediv_le_ediv (by omega) (by omega)) (by omega)
theorem into_mono {x y lo hi : Int} (h : x ≤ y) : intoV x lo hi ≤ intoV y lo hi := by unfold intoV; omega
open Classical in
@[irreducible] noncomputable def fndV (a b c d r y n : Int) : Bool := decide (∃ m, -a ≤ m ∧ m < n ∧ intoV (stepV b (y + m)) c d = r)
@[irreducible] def bfV (a b c d y n : Int) : Int := if n = -a then -1099511627776 else intoV (stepV b (y + (n - 1))) c d
theorem fnd_iff {a b c d r y n : Int} : fndV a b c d r y n = true ↔ ∃ m, -a ≤ m ∧ m < n ∧ intoV (stepV b (y + m)) c d = r := by unfold fndV; simp
theorem fnd_0 (a b c d r y : Int) : fndV a b c d r y (-a) = false := by
  cases h : fndV a b c d r y (-a) with
  | false => rfl
  | true => obtain ⟨m, h1, h2, _⟩ := fnd_iff.1 h; omega
theorem fnd_1 {a b c d r y n : Int} (hn : -a ≤ n) : fndV a b c d r y (n + 1) = (fndV a b c d r y n || decide (intoV (stepV b (y + n)) c d = r)) := by
  rw [Bool.eq_iff_iff, Bool.or_eq_true, fnd_iff, fnd_iff, decide_eq_true_eq]
  constructor
  · rintro ⟨m, h1, h2, h3⟩
    by_cases h : m < n
    · exact .inl ⟨m, h1, h, h3⟩
    · obtain rfl : m = n := by omega
      exact .inr h3
  · rintro (⟨m, h1, h2, h3⟩ | h)
    · exact ⟨m, h1, by omega, h3⟩
    · exact ⟨n, hn, by omega, h⟩
theorem bf_0 (a b c d y : Int) : bfV a b c d y (-a) = -1099511627776 := by unfold bfV; simp
theorem bf_1 {a b c d y n : Int} (hn : -a ≤ n) : bfV a b c d y (n + 1) = intoV (stepV b (y + n)) c d := by
  unfold bfV; rw [if_neg (by omega)]; congr 3; omega
theorem bf_le {a b c d y n : Int} (hb : 1 ≤ b) (hc : -1099511627776 ≤ c) : bfV a b c d y n ≤ intoV (stepV b (y + n)) c d := by
  unfold bfV; split
  · unfold intoV; omega
  · exact into_mono (step_mono hb (by omega))
theorem fnd_end {a b c d r y : Int} (h : sensOK a b c d = true) (hr : readOK b c d r = true) (h1 : -1099511627776 ≤ y) (h2 : y ≤ 1099511627776) :
    fndV a b c d r y (a + 1) = (decide (behLo a b c d r ≤ y) && decide (y ≤ behHi a b c d r)) := by
  have h0 := sens_of h
  obtain ⟨e1, e2⟩ := ref_eq h hr
  rw [e1, e2, Bool.eq_iff_iff, fnd_iff]
  have t1 := thr1_iff h (r := r) h1 h2
  have t2 := thr2_iff h (r := r) h1 h2
  simp only [Bool.and_eq_true, decide_eq_true_eq]
  constructor
  · rintro ⟨m, g1, g2, g3⟩
    have k1 : intoV (stepV b (y + m)) c d ≤ intoV (stepV b (y + a)) c d := into_mono (step_mono (by omega) (by omega))
    have k2 : intoV (stepV b (y - a)) c d ≤ intoV (stepV b (y + m)) c d := into_mono (step_mono (by omega) (by omega))
    omega
  · rintro ⟨g1, g2⟩
    have k1 := t1.2 g1
    have k2 : intoV (stepV b (y - a)) c d ≤ r := by omega
    simp [readOK] at hr
    by_cases hc : r = c
    · refine ⟨-a, by omega, by omega, ?_⟩
      rw [show y + -a = y - a by omega]
      have : c ≤ intoV (stepV b (y - a)) c d := by unfold intoV; omega
      omega
    by_cases hd : r = d
    · refine ⟨a, by omega, by omega, ?_⟩
      have : intoV (stepV b (y + a)) c d ≤ d := by unfold intoV; omega
      omega
    have hz : r % b = 0 := by omega
    have k3 : stepV b (y - a) ≤ r := by unfold intoV at k2; omega
    have k4 : r ≤ stepV b (y + a) := by unfold intoV at k1; omega
    have k5 := stepV_hi b (y + a) (by omega)
    have k6 := stepV_lo b (y - a) (by omega)
    obtain ⟨q, hq⟩ := Int.dvd_of_emod_eq_zero hz
    have key : ∀ m, r ≤ y + m + b / 2 → y + m + b / 2 < r + b → intoV (stepV b (y + m)) c d = r := fun m u1 u2 => by
      have : stepV b (y + m) = r := by
        unfold stepV
        have : (y + m + b / 2) / b = q := by
          rw [Int.ediv_eq_iff_of_pos (by omega), Int.mul_comm q b]
          omega
        rw [this, hq]
      rw [this]; unfold intoV; omega
    by_cases hm : -a ≤ r - y - b / 2
    · exact ⟨r - y - b / 2, hm, by omega, key _ (by omega) (by omega)⟩
    · exact ⟨-a, by omega, by omega, key _ (by omega) (by omega)⟩
theorem show_ok_read {a b c d x e : Int} (h : sensOK a b c d = true) (hx : isQ x = true) (he : isIn (-a) e a = true) : readOK b c d (showV a b c d x e) = true := by
  have h0 := sens_of h
  obtain ⟨e1, _⟩ := showE_0 (by rw [h, hx]; rfl) he
  rw [e1]
  have := stepV_mod b (x + e)
  unfold readOK
  simp
  unfold intoV
  by_cases h1 : stepV b (x + e) ≤ c
  · have : max c (min (stepV b (x + e)) d) = c := by omega
    rw [this]; omega
  · by_cases h2 : d ≤ stepV b (x + e)
    · have : max c (min (stepV b (x + e)) d) = d := by omega
      rw [this]; omega
    · have h3 : max c (min (stepV b (x + e)) d) = stepV b (x + e) := by omega
      rw [h3]; omega
end Abs
end Go.Proofs.Ytaiilbgknjlmoaa

/- The statements' small example of layer 3. -/
namespace Go.Proofs.Ytaiilbgknjlmoaa
namespace Abs
open Go Go.RowKit
def plainS : Spec [] := ⟨fun _ => True, fun _ => .agg [.li .i64 3, .li .i64 10, .li .i64 0, .li .i64 100]⟩
set_option maxRecDepth 100000 in
theorem plainS_ok : FnSpec Try.prog 28 _ plainS := by
  refine FnSpec.of SP_ok mixed (U := 0) (I := fun _ => []) Try.func28 rfl (by kernel_rfl) rfl rfl (by decide +kernel) ?_
  rintro ⟨⟩ -
  unfold FnSat
  conv => arg 2; reduce
  simp [plainS]
def SW0 : Sums := ⟨(28, mkSum _ plainS) :: SP.one, SP.two, SP.lo, SP.eqs⟩
theorem SW0_ok : SumsOK Try.prog SW0 := (SP_ok.cons Try.func28 (by kernel_rfl) (by kernel_rfl) plainS_ok)
def trueS : Spec [] := ⟨fun _ => True, fun _ => .sb true⟩
theorem works_num : showV 3 10 0 100 42 3 = 50 ∧ showE 3 10 0 100 42 3 = 0 ∧ behLo 3 10 0 100 40 = 32 ∧ behHi 3 10 0 100 40 = 47 ∧ behE 3 10 0 100 40 = 0 := by
  simp [showV, showE, behLo, behHi, behE, sensOK, isQ, intoV, stepV, readOK]; decide
set_option maxRecDepth 100000 in
theorem works_ok : FnSpec Try.prog 12 _ trueS := by
  refine FnSpec.of SW0_ok mixed (U := 0) (I := fun _ => []) Try.func12 rfl (by kernel_rfl) rfl rfl (by decide +kernel) ?_
  rintro ⟨⟩ -
  unfold FnSat
  conv => arg 2; reduce
  obtain ⟨h1, h2, h3, h4, h5⟩ := works_num
  simp [plainS, show_, behind, trueS, h1, h2, h3, h4, h5]
end Abs
end Go.Proofs.Ytaiilbgknjlmoaa

/- A part of the proof: no statement of its own. -/
import Derived.Test.YtlacopdaibhkkaaQG7ffc2e8f
import Derived.Laws.Bits128
set_option linter.unusedSimpArgs false
set_option linter.unusedVariables false
namespace Go.Proofs.Ytlacopdaibhkkaa
namespace Abs
open Go Go.RowKit
@[irreducible] def sgn (x : Int) : Int := if x < 0 then -1 else if 0 < x then 1 else 0
theorem sgn_mul (x : Int) : x * sgn x = absI x := by unfold sgn absI; split <;> (try split) <;> omega
theorem sgn_b (x : Int) : sgn x = -1 \/ sgn x = 0 \/ sgn x = 1 := by unfold sgn; split <;> (try split) <;> simp
def signS : Spec [.int .i64] := ⟨fun _ => True, fun (x, _) => .si .i64 (sgn x)⟩
set_option maxRecDepth 100000 in
theorem sign_ok : FnSpec Try.prog 102 _ signS := by
 refine FnSpec.of SQ3_ok mixed (U := 0) (I := fun _ => []) Try.func102 rfl (by kernel_rfl) rfl rfl (by decide +kernel) ?_
 rintro ⟨(x : Int), ⟨⟩⟩ -
 unfold FnSat
 conv => arg 2; reduce
 simp [signS, sgn]
 repeat' (first | refine And.intro ?_ ?_ | intro _)
 all_goals (try omega)
noncomputable def SX0 : Sums := ⟨(102, mkSum _ signS) :: SQ3.one, SQ3.two, SQ3.lo, SQ3.eqs, SQ3.its, SQ3.imm⟩
theorem SX0_ok : SumsOK Try.prog SX0 := (SQ3_ok.cons Try.func102 (by kernel_rfl) (by kernel_rfl) sign_ok)
@[irreducible] def qD (x n d : Int) (k : Nat) : Int := topP x n k / d
@[irreducible] def rD (x n d : Int) (k : Nat) : Int := topP x n k % d
theorem i64_and1 (n : Int) : bits .and .i64 n 1 = n % 2 := by
 have h1 : (BitVec.ofInt 64 1).toNat = 2 ^ 1 - 1 := by decide
 have key : (BitVec.ofInt 64 n &&& BitVec.ofInt 64 1).toNat = (n % ((2 ^ 64 : Nat) : Int)).toNat % 2 ^ 1 := by
  rw [BitVec.toNat_and, BitVec.toNat_ofInt, h1, Nat.and_two_pow_sub_one_eq_mod]
 show IntKind.i64.wrap ((BitVec.ofInt 64 n &&& BitVec.ofInt 64 1).toNat : Nat) = n % 2
 rw [key, IntKind.wrap_i64]
 omega
theorem bit_eq {n : Int} (i : Nat) (hn : 0 <= n) : ibit .and .i64 (ishr n (i : Int)) 1 = bitP n i := by
 unfold ibit ishr bitP
 rw [i64_and1, Int.fdiv_eq_ediv_of_nonneg _ (Int.pow_nonneg (by decide))]
theorem dvd_step {x n d : Int} {i : Nat} (hx : 0 <= x) (hn : 0 <= n) (hd : 1 <= d) : 0 <= qD x n d (i + 1) /\ 0 <= rD x n d (i + 1) /\ rD x n d (i + 1) < d /\
  2 * qD x n d (i + 1) + bitP n i * (x / d) + (2 * rD x n d (i + 1) + bitP n i * (x % d)) / d = qD x n d i /\ (2 * rD x n d (i + 1) + bitP n i * (x % d)) % d = rD x n d i := by
 have hT := topP_step (x := x) (n := n) (i := (i : Int)) (by omega)
 have e1 : (i : Int) + 1 = ((i + 1 : Nat) : Int) := by omega
 rw [e1] at hT
 have hn0 := topP_nonneg (i := ((i + 1 : Nat) : Int)) hx hn
 have hd0 : d ≠ 0 := by omega
 have hq1 := Int.emod_add_mul_ediv (topP x n ((i + 1 : Nat) : Int)) d
 have hq2 := Int.emod_nonneg (topP x n ((i + 1 : Nat) : Int)) hd0
 have hq3 := Int.emod_lt_of_pos (topP x n ((i + 1 : Nat) : Int)) (show 0 < d by omega)
 have hq4 : 0 <= topP x n ((i + 1 : Nat) : Int) / d := Int.ediv_nonneg hn0 (by omega)
 have hx1 := Int.emod_add_mul_ediv x d
 have u1 : topP x n ((i + 1 : Nat) : Int) / d = qD x n d (i + 1) := by unfold qD; rfl
 have u2 : topP x n ((i + 1 : Nat) : Int) % d = rD x n d (i + 1) := by unfold rD; rfl
 rw [u1, u2] at hq1
 rw [u2] at hq2 hq3
 rw [u1] at hq4
 refine ⟨hq4, hq2, hq3, ?_⟩
 have e2 : qD x n d i = topP x n i / d := by unfold qD; rfl
 have e3 : rD x n d i = topP x n i % d := by unfold rD; rfl
 rw [e2, e3]
 clear u1 u2 e2 e3
 generalize qD x n d (i + 1) = q at *
 generalize rD x n d (i + 1) = r at *
 generalize hxd : x / d = q1 at *
 generalize hxm : x % d = r1 at *
 have e4 : topP x n i = (2 * r + bitP n i * r1) + d * (2 * q + bitP n i * q1) := by
  rw [hT, <- hq1]
  rcases bitP_or n i with h | h <;> rw [h]
  ·simp only [Int.zero_mul, Int.add_zero]
   rw [Int.mul_add, Int.mul_left_comm]
  ·simp only [Int.one_mul]
   rw [<- hx1, Int.mul_add, Int.mul_add, Int.mul_left_comm]
   omega
 rw [e4, Int.add_mul_ediv_left _ _ hd0, Int.add_mul_emod_self_left]
 exact ⟨by omega, rfl⟩
theorem qD_top {x n d : Int} (h0 : 0 <= n) (h1 : n < 17592186044416) : qD x n d 44 = 0 /\ rD x n d 44 = 0 := by
 unfold qD rD
 rw [show ((44 : Nat) : Int) = 44 from rfl, topP_top h0 h1]; simp
theorem qD_zero {x n d : Int} (hd : 1 <= d) (h : qD x n d 0 <= 288230376151711744) : qD x n d 0 = whQ x n d /\ rD x n d 0 = whR x n d := by
 have hd0 : d ≠ 0 := by omega
 have hq1 := Int.emod_add_mul_ediv (topP x n ((0 : Nat) : Int)) d
 have hq2 := Int.emod_nonneg (topP x n ((0 : Nat) : Int)) hd0
 have hq3 := Int.emod_lt_of_pos (topP x n ((0 : Nat) : Int)) (show 0 < d by omega)
 rw [Int.mul_comm] at hq1
 unfold qD at h ⊢
 unfold rD
 have := wh_near (x := x) (n := n) (d := d) (q := topP x n ((0 : Nat) : Int) / d) (r := topP x n ((0 : Nat) : Int) % d) (by rw [Int.add_comm]; exact hq1) hq2 hq3 h
 exact ⟨this.1.symm, this.2.symm⟩
def dvdS : Spec [.int .i64, .int .i64, .int .i64] := ⟨fun (x, n, d, _) => 0 <= x /\ x <= 4398046511104 /\ 0 <= n /\ n <= 4398046511104 /\ 1 <= d /\ d <= 4398046511104, fun (x, n, d, _) => .tup [.si .i64 (whQ x n d), .si .i64 (whR x n d)]⟩
noncomputable def dvdI : DatL [.int .i64, .int .i64, .int .i64] -> Anns := fun ((x : Int), (n : Int), (d : Int), _) => [
 (6, [], fun fr hp => ⟨Nat, fun g => ⟨frI [.k 10, .s (.si .i64 (qD x n d (nsub 44 g))), .s (.si .i64 (rD x n d (nsub 44 g))), .t 1, .k 12, .s (.si .i64 (icast g)), .t 31] fr, hp⟩, Nat × Int × Int × Int, fun g => (g, x, n, d), fun (g, x, n, d) => g <= 44 /\ qD x n d (44 - g) <= 288230376151711744, fun g => nsub 44 g⟩)]
set_option maxRecDepth 100000 in
theorem dvd_ok : FnSpec Try.prog 101 _ dvdS := by
 refine FnSpec.of SX0_ok mixed (U := 0) (I := dvdI) Try.func101 rfl (by kernel_rfl) rfl rfl (by decide +kernel) ?_
 rintro ⟨(x : Int), (n : Int), (d : Int), ⟨⟩⟩ ⟨(h1 : 0 <= x), (h2 : x <= 4398046511104), (h3 : 0 <= n), (h4 : n <= 4398046511104), (h5 : 1 <= d), (h6 : d <= 4398046511104)⟩
 unfold FnSat
 conv => arg 2; reduce
 simp [dvdS, and_assoc]
 have hd0 : d ≠ 0 := by omega
 have hx4 : 0 <= x / d := Int.ediv_nonneg h1 (by omega)
 have hx5 : x / d <= x := Int.ediv_le_self _ h1
 have hx2 := Int.emod_nonneg x hd0
 have hx3 := Int.emod_lt_of_pos x (show 0 < d by omega)
 rw [Int.tdiv_eq_ediv_of_nonneg h1, Int.tmod_eq_emod_of_nonneg h1]
 refine ⟨fun h => ?_, fun hx hn => ⟨hd0, by omega, by omega, hd0, ⟨0, ?_⟩, fun g hg hq => ⟨fun hlt => ?_, fun hge => ?_⟩⟩⟩
 ·unfold whQ whR
  have e : x * n = 0 := by rcases h with h | h <;> simp [h]
  rw [e]; simp
 ·have := qD_top (x := x) (d := d) h3 (show n < 17592186044416 by omega)
  exact ⟨this.1.symm, this.2.symm, rfl, by omega, by rw [this.1]; decide⟩
 ·obtain ⟨i, hgi, hi43⟩ : ∃ i : Nat, g = 43 - i /\ i <= 43 := ⟨43 - g, by omega, by omega⟩
  subst hgi
  have eA : 44 - (43 - i) = i + 1 := by omega
  have eB : 43 - (((43 - i : Nat) : Nat) : Int) = (i : Int) := by omega
  rw [eA] at hq
  rw [eA, eB, bit_eq i h3]
  obtain ⟨s1, s2, s3, s4, s5⟩ := dvd_step (i := i) h1 h3 h5
  have tail : ∀ v w : Int, v = qD x n d i -> w = rD x n d i -> (288230376151711744 < v -> 1152921504606846976 = whQ x n d /\ 0 = whR x n d) /\
    (v <= 288230376151711744 -> -9223372036854775808 <= (((43 - i : Nat) : Nat) : Int) + 1 /\ (((43 - i : Nat) : Nat) : Int) + 1 <= 9223372036854775807 /\ ∃ g_1 : Nat, v = qD x n d (44 - g_1) /\ w = rD x n d (44 - g_1) /\ (((43 - i : Nat) : Nat) : Int) + 1 = (g_1 : Int) /\ g_1 <= 44 /\ qD x n d (44 - g_1) <= 288230376151711744 /\ 44 - g_1 < i + 1) := by
   intro v w hv hw
   refine ⟨fun hfar => ?_, fun hnear => ⟨by omega, by omega, 44 - i, ?_⟩⟩
   ·have := wh_far (x := x) (n := n) (d := d) (k := i) h1 h3 (by omega) (by rw [hv] at hfar; unfold qD at hfar; exact hfar)
    exact ⟨this.1.symm, this.2.symm⟩
   ·rw [show 44 - (44 - i) = i by omega]
    exact ⟨hv, hw, by omega, by omega, by omega, by omega⟩
  have dv : ∀ a : Int, 0 <= a -> a < 3 * d -> 0 <= a / d /\ a / d <= 2 := fun a ha hb => by
   refine ⟨Int.ediv_nonneg ha (by omega), ?_⟩
   have := Int.ediv_lt_of_lt_mul (a := a) (b := 3) (c := d) (by omega) hb
   omega
  refine ⟨by omega, by omega, by omega, by omega, by omega, by omega, by omega, by simp [IntKind.bits]; omega, fun hb => ?_, fun hb => ?_⟩
  ·rw [hb, Int.one_mul, Int.one_mul] at s4
   rw [hb, Int.one_mul] at s5
   have d1 := dv (2 * rD x n d (i + 1) + x % d) (by omega) (by omega)
   rw [Int.tdiv_eq_ediv_of_nonneg (by omega), Int.tmod_eq_emod_of_nonneg (by omega)]
   exact ⟨by omega, by omega, by omega, by omega, hd0, by omega, by omega, by omega, by omega, hd0, tail _ _ s4 s5⟩
  ·have hb0 : bitP n i = 0 := by rcases bitP_or n i with h | h; exact h; exact absurd h hb
   rw [hb0, Int.zero_mul, Int.zero_mul, Int.add_zero, Int.add_zero] at s4
   rw [hb0, Int.zero_mul, Int.add_zero] at s5
   have d1 := dv (2 * rD x n d (i + 1)) (by omega) (by omega)
   rw [Int.tdiv_eq_ediv_of_nonneg (by omega), Int.tmod_eq_emod_of_nonneg (by omega)]
   exact ⟨hd0, by omega, by omega, by omega, by omega, hd0, tail _ _ s4 s5⟩
 ·obtain rfl : g = 44 := by omega
  exact qD_zero h5 hq
noncomputable def SX1 : Sums := ⟨(101, mkSum _ dvdS) :: SX0.one, SX0.two, SX0.lo, SX0.eqs, SX0.its, SX0.imm⟩
theorem SX1_ok : SumsOK Try.prog SX1 := (SX0_ok.cons Try.func101 (by kernel_rfl) (by kernel_rfl) dvd_ok)
@[irreducible] def dnW (x n d : Int) : Int := if 0 <= sgn x * sgn n * sgn d then whQ (absI x) (absI n) (absI d) else -(if 0 < whR (absI x) (absI n) (absI d) then whQ (absI x) (absI n) (absI d) + 1 else whQ (absI x) (absI n) (absI d))
def dnS : Spec [.int .i64, .int .i64, .int .i64] := ⟨fun ((x : Int), (n : Int), (d : Int), _) => -4398046511104 <= x /\ x <= 4398046511104 /\ -4398046511104 <= n /\ n <= 4398046511104 /\ 1 <= absI d /\ -4398046511104 <= d /\ d <= 4398046511104, fun ((x : Int), (n : Int), (d : Int), _) => .si .i64 (dnW x n d)⟩
set_option maxRecDepth 100000 in
theorem dn_ok : FnSpec Try.prog 99 _ dnS := by
 refine FnSpec.of SX1_ok mixed (U := 0) (I := fun _ => []) Try.func99 rfl (by kernel_rfl) rfl rfl (by decide +kernel) ?_
 rintro ⟨(x : Int), (n : Int), (d : Int), ⟨⟩⟩ ⟨(h1 : -4398046511104 <= x), (h2 : x <= 4398046511104), (h3 : -4398046511104 <= n), (h4 : n <= 4398046511104), (h5 : 1 <= absI d), (h6 : -4398046511104 <= d), (h7 : d <= 4398046511104)⟩
 unfold FnSat
 conv => arg 2; reduce
 simp [dnS, signS, dvdS, sgn_mul, and_assoc]
 have a1 := absI_b (x := x) (m := 4398046511104) (by omega) (by omega)
 have a2 := absI_b (x := n) (m := 4398046511104) (by omega) (by omega)
 have a3 := absI_b (x := d) (m := 4398046511104) (by omega) (by omega)
 have hb := whQ_b (x := absI x) (n := absI n) (d := absI d) a1.1 a2.1 (by omega)
 have s1 : ∀ x n : Int, (x = -1 \/ x = 0 \/ x = 1) -> (n = -1 \/ n = 0 \/ n = 1) -> x * n = -1 \/ x * n = 0 \/ x * n = 1 := by
  rintro x n (rfl | rfl | rfl) (rfl | rfl | rfl) <;> decide
 have s2 := s1 _ _ (sgn_b x) (sgn_b n)
 have s3 := s1 _ _ s2 (sgn_b d)
 refine ⟨by omega, by omega, by omega, by omega, by omega, by omega, a1.1, a1.2, a2.1, a2.2, h5, a3.2, by omega, by omega, by omega, by omega, fun h => by unfold dnW; rw [if_pos h], fun h => ⟨fun hr => ⟨by omega, by omega, by omega, by omega, by unfold dnW; rw [if_neg (by omega), if_pos hr]⟩, fun hr => ⟨by omega, by omega, by unfold dnW; rw [if_neg (by omega), if_neg (by omega)]⟩⟩⟩
theorem dnW_pos {x n d : Int} (hn : 0 <= n) (hd : 0 < d) (h : absI x * n / d <= 288230376151711744) : dnW x n d = x * n / d := by
 rw [<- dnV_pos hn hd h]
 unfold dnW dnV
 have e1 : decide (n < 0) = false := by simp; omega
 have e2 : decide (d < 0) = false := by simp; omega
 have e3 : sgn d = 1 := by unfold sgn; rw [if_neg (by omega), if_pos hd]
 rw [e1, e2, e3, Int.mul_one]
 by_cases hx : x < 0
 ·have e4 : sgn x = -1 := by unfold sgn; rw [if_pos hx]
  rw [e4]
  by_cases hn0 : n = 0
  ·subst hn0
   have e5 : absI 0 = 0 := by unfold absI; rfl
   simp [hx, e5, whQ, whR, sgn]
  ·have e5 : sgn n = 1 := by unfold sgn; rw [if_neg (by omega), if_pos (by omega)]
   rw [e5]
   simp [hx]
 ·have e4 : 0 <= sgn x * sgn n := by
   refine Int.mul_nonneg ?_ ?_
   ·unfold sgn; rw [if_neg hx]; split <;> omega
   ·unfold sgn; rw [if_neg (by omega)]; split <;> omega
  rw [if_pos e4]
  simp [hx]
noncomputable def SX2 : Sums := ⟨(99, mkSum _ dnS) :: SX1.one, SX1.two, SX1.lo, SX1.eqs, SX1.its, SX1.imm⟩
theorem SX2_ok : SumsOK Try.prog SX2 := (SX1_ok.cons Try.func99 (by kernel_rfl) (by kernel_rfl) dn_ok)
@[irreducible] def upW (x n d : Int) : Int := -(dnW (-x) n d)
def upS : Spec [.int .i64, .int .i64, .int .i64] := ⟨fun ((x : Int), (n : Int), (d : Int), _) => -4398046511104 <= x /\ x <= 4398046511104 /\ 0 <= n /\ n <= 4398046511104 /\ 1 <= d /\ d <= 4398046511104, fun ((x : Int), (n : Int), (d : Int), _) => .si .i64 (upW x n d)⟩
theorem dnW_b {x n d : Int} (h5 : 1 <= absI d) : -1152921504606846977 <= dnW x n d /\ dnW x n d <= 1152921504606846976 := by
 have a1 : 0 <= absI x := by unfold absI; split <;> omega
 have a2 : 0 <= absI n := by unfold absI; split <;> omega
 have hb := whQ_b (x := absI x) (n := absI n) (d := absI d) a1 a2 (by omega)
 unfold dnW
 split
 ·omega
 ·split <;> omega
set_option maxRecDepth 100000 in
theorem up_ok : FnSpec Try.prog 100 _ upS := by
 refine FnSpec.of SX2_ok mixed (U := 0) (I := fun _ => []) Try.func100 rfl (by kernel_rfl) rfl rfl (by decide +kernel) ?_
 rintro ⟨(x : Int), (n : Int), (d : Int), ⟨⟩⟩ ⟨(h1 : -4398046511104 <= x), (h2 : x <= 4398046511104), (h3 : 0 <= n), (h4 : n <= 4398046511104), (h5 : 1 <= d), (h6 : d <= 4398046511104)⟩
 unfold FnSat
 conv => arg 2; reduce
 simp [upS, dnS, and_assoc]
 have hd : 1 <= absI d := by rw [absI_pos (by omega)]; exact h5
 have := dnW_b (x := -x) (n := n) hd
 refine ⟨by omega, by omega, by omega, by omega, by omega, by omega, hd, by omega, by omega, by omega, by omega, ?_⟩
 unfold upW; rfl
noncomputable def SX3 : Sums := ⟨(100, mkSum _ upS) :: SX2.one, SX2.two, SX2.lo, SX2.eqs, SX2.its, SX2.imm⟩
theorem SX3_ok : SumsOK Try.prog SX3 := (SX2_ok.cons Try.func100 (by kernel_rfl) (by kernel_rfl) up_ok)
def ratioS : Spec [.int .i64, .int .i64, .int .i64] := ⟨fun ((x : Int), (n : Int), (d : Int), _) => -4398046511104 <= x /\ x <= 4398046511104 /\ 0 <= n /\ n <= 4398046511104 /\ 1 <= d /\ d <= 4398046511104, fun ((x : Int), (n : Int), (d : Int), _) => .agg [.si .i64 (dnW x n d), .si .i64 (upW x n d)]⟩
set_option maxRecDepth 100000 in
theorem ratio_ok : FnSpec Try.prog 98 _ ratioS := by
 refine FnSpec.of SX3_ok mixed (U := 0) (I := fun _ => []) Try.func98 rfl (by kernel_rfl) rfl rfl (by decide +kernel) ?_
 rintro ⟨(x : Int), (n : Int), (d : Int), ⟨⟩⟩ ⟨(h1 : -4398046511104 <= x), (h2 : x <= 4398046511104), (h3 : 0 <= n), (h4 : n <= 4398046511104), (h5 : 1 <= d), (h6 : d <= 4398046511104)⟩
 unfold FnSat
 conv => arg 2; reduce
 simp [ratioS, dnS, upS, and_assoc]
 have hd : 1 <= absI d := by rw [absI_pos (by omega)]; exact h5
 exact ⟨by omega, by omega, by omega, by omega, hd, by omega, by omega, by omega, by omega, by omega, by omega, by omega, by omega⟩
noncomputable def SX4 : Sums := ⟨(98, mkSum _ ratioS) :: SX3.one, SX3.two, SX3.lo, SX3.eqs, SX3.its, SX3.imm⟩
theorem SX4_ok : SumsOK Try.prog SX4 := (SX3_ok.cons Try.func98 (by kernel_rfl) (by kernel_rfl) ratio_ok)
def piecesS : Spec [crvSh] := ⟨fun _ => True, fun ((x, y, _), _) => .fn (.func 94) [] [.xp [enc intsSh x, enc intsSh y]]⟩
set_option maxRecDepth 100000 in
theorem pieces_ok : FnSpec Try.prog 89 _ piecesS := by
 refine FnSpec.of SX4_ok mixed (U := 0) (I := fun _ => []) Try.func89 rfl (by kernel_rfl) rfl rfl (by decide +kernel) ?_
 rintro ⟨c, ⟨⟩⟩ -
 obtain ⟨c, rfl⟩ := crv_ex c
 unfold FnSat
 conv => arg 2; reduce
 simp [piecesS, enc, encL, ownIn, ownIn.ownInL, fnEq, getB, goneB, aliveB, dropL, ElEq]
noncomputable def SX5 : Sums := ⟨(89, mkSum _ piecesS) :: SX4.one, SX4.two, SX4.lo, SX4.eqs, SX4.its, SX4.imm⟩
theorem SX5_ok : SumsOK Try.prog SX5 := (SX4_ok.cons Try.func89 (by kernel_rfl) (by kernel_rfl) pieces_ok)
def tops : Nat -> List AV -> List AV
 | 0, l => l
 | n + 1, l => .top :: tops n l
def pcsI : SpecI [.ptr crvCells] := ⟨fun ((x, y, _), _) => 1 <= x.1 /\ x.1 <= y.1 /\ x.1 <= 1000 /\ ∀ k, k < x.1 -> isQ (x.2 k).1 = true /\ isQ (y.2 k).1 = true, fun ((x, _, _), _) => nsub x.1 1,
 fun ((x, y, _), _) i => [.si .i64 (icast i), .agg [.si .i64 (x.2 i).1, .si .i64 (y.2 i).1, .si .i64 (isub (x.2 (nadd i 1)).1 (x.2 i).1), .si .i64 (isub (y.2 (nadd i 1)).1 (y.2 i).1)]]⟩
def pcsF (Y : Value) (x : DatL [.ptr crvCells]) (g : Nat) : List AV := .v Y :: .xp (encL crvCells x.1) :: tops 5 (.si .i64 (icast (nsub x.1.1.1 1)) :: .si .i64 (icast g) :: tops 42 [])
set_option maxRecDepth 100000 in
set_option maxHeartbeats 2000000 in
theorem pcs_ok : IterOK Try.prog 94 (mkIt [.ptr crvCells] pcsI) := by
 refine IterOK.of SX5_ok mixed rfl Try.func94 rfl rfl (by decide +kernel) rfl (by decide) (dat := fun x g => (g, x.1.1.1)) (q := fun z : Nat × Nat => z.1 + 1 <= z.2) (fr := pcsF) (fun Y x g t ht => ?_) ?_
 ·have : t = 0 \/ t = 1 := by simp at ht; omega
  rcases this with rfl | rfl <;> rfl
 rintro Y ⟨⟨⟨n, x⟩, ⟨m, y⟩, ⟨⟩⟩, ⟨⟩⟩ ⟨(h1 : 1 <= n), (h2 : n <= m), (h3 : n <= 1000), (h4 : ∀ k, k < n -> isQ (x k).1 = true /\ isQ (y k).1 = true)⟩
 obtain ⟨u, rfl⟩ : ∃ u : Nat -> Int, x = fun k => (u k, ()) := ⟨fun k => (x k).1, rfl⟩
 obtain ⟨v, rfl⟩ : ∃ v : Nat -> Int, y = fun k => (v k, ()) := ⟨fun k => (y k).1, rfl⟩
 conv => arg 2; reduce
 simp [unitA, natA, ElEq, and_assoc]
 have h5 : ∀ k, k < n -> (-1099511627776 <= u k /\ u k <= 1099511627776) /\ (-1099511627776 <= v k /\ v k <= 1099511627776) := fun k hk => by
  have := h4 k hk
  exact ⟨isQ_iff.1 this.1, isQ_iff.1 this.2⟩
 refine ⟨by omega, by omega, by omega, h1, fun g hg => ⟨fun hlt => ?_, fun hge => by omega⟩⟩
 have a := h5 g (by omega)
 have b := h5 (g + 1) (by omega)
 exact ⟨by omega, by omega, by omega, by omega, by omega, by omega, by omega, by omega, by omega, by omega, by omega, by omega, by omega, by omega, by omega, by omega, hlt, by omega, by omega, hlt, by omega⟩
noncomputable def SX6 : Sums := ⟨SX5.one, SX5.two, SX5.lo, SX5.eqs, (94, mkIt [.ptr crvCells] pcsI) :: SX5.its, SX5.imm⟩
theorem SX6_ok : SumsOK Try.prog SX6 := SX5_ok.addIt Try.func94 (by kernel_rfl) (by kernel_rfl) pcs_ok
end Abs
end Go.Proofs.Ytlacopdaibhkkaa

namespace Go.Proofs.Ytlacopdaibhkkaa
namespace Abs
open Go Go.RowKit
@[irreducible] def notQ (x : Int) : Bool := !(isQ x)
def strS : Spec [.int .i64] := ⟨fun _ => True, fun (x, _) => .sb (notQ x)⟩
set_option maxRecDepth 100000 in
theorem str_ok : FnSpec Try.prog 86 _ strS := by
 refine FnSpec.of SX6_ok mixed (U := 0) (I := fun _ => []) Try.func86 rfl (by kernel_rfl) rfl rfl (by decide +kernel) ?_
 rintro ⟨(x : Int), ⟨⟩⟩ -
 unfold FnSat
 conv => arg 2; reduce
 simp [strS, isS, notQ]
noncomputable def SY0 : Sums := ⟨(86, mkSum _ strS) :: SX6.one, SX6.two, SX6.lo, SX6.eqs, SX6.its, SX6.imm⟩
theorem SY0_ok : SumsOK Try.prog SY0 := (SX6_ok.cons Try.func86 (by kernel_rfl) (by kernel_rfl) str_ok)
def anyStI : Spec [.slice 1 [.int .i64], .fn 86 [] []] := ⟨fun x => x.1.1 <= maxLen, fun ((n, el), ((_, c), _)) => .si .i64 (idxN (fun k => notQ (el k).1) n)⟩
noncomputable def anyStA : DatL [.slice 1 [.int .i64], .fn 86 [] []] -> Anns := fun ((n, el), ((_, c), _)) => [(2, [], fun fr hp => ⟨Nat, fun g => ⟨frI [.k 5, .t 1, .k 2, .s (.si .i64 (icast g)), .t 10] fr, hp⟩, Nat, fun g => g, fun g => g <= firstN (fun k => notQ (el k).1) n, fun g => nsub n g⟩)]
set_option maxRecDepth 100000 in
theorem anyStI_ok : FnSpec Try.prog 93 _ anyStI := by
 refine FnSpec.of SY0_ok mixed (U := 0) (I := anyStA) Try.func93 rfl (by kernel_rfl) rfl rfl (by decide +kernel) ?_
 rintro ⟨⟨n, el⟩, ⟨⟨⟩, c⟩, ⟨⟩⟩ hpre
 have hn : n <= maxLen := hpre
 unfold FnSat
 conv => arg 2; reduce
 unfold maxLen at hn
 have hle := firstN_le (fun k => notQ (el k).1) n
 simp [anyStI, strS, and_assoc]
 refine ⟨⟨0, rfl, by omega⟩, fun k hk => ⟨fun h1 => ?_, fun h1 => ?_⟩⟩
 ·refine And.intro h1 ?_
  refine ⟨fun h2 => ?_, fun h2 => ?_⟩
  ·rw [idxN, firstN_at hk (by simpa using h2), if_pos h1]; try simp
  ·have := firstN_ge hk (by simpa using h2) h1
   refine ⟨by omega, by omega, k + 1, by omega, by omega, by omega⟩
 ·rw [idxN, if_neg (by omega)]
def anyStC : Spec [.slice 1 [.int .i64], .fn 86 [] []] := ⟨fun x => x.1.1 <= maxLen, fun ((n, el), ((_, c), _)) => .sb (anyN (fun k => notQ (el k).1) n)⟩
noncomputable def anyStS : Sums := ⟨(93, mkSum _ anyStI) :: SY0.one, SY0.two, SY0.lo, SY0.eqs, SY0.its, SY0.imm⟩
theorem anyStS_ok : SumsOK Try.prog anyStS := (SY0_ok.cons Try.func93 (by kernel_rfl) (by kernel_rfl) anyStI_ok)
set_option maxRecDepth 100000 in
theorem anyStC_ok : FnSpec Try.prog 88 _ anyStC := by
 refine FnSpec.of anyStS_ok mixed (U := 0) (I := fun _ => []) Try.func88 rfl (by kernel_rfl) rfl rfl (by decide +kernel) ?_
 rintro ⟨⟨n, el⟩, ⟨⟨⟩, c⟩, ⟨⟩⟩ hpre
 unfold FnSat
 conv => arg 2; reduce
 have hpre : anyStC.pre ((n, el), (((), c), ())) := hpre
 simp [anyStC, anyStI, idxN_nonneg] at hpre ⊢
 exact hpre
noncomputable def SY1 : Sums := ⟨(88, mkSum _ anyStC) :: SY0.one, SY0.two, SY0.lo, SY0.eqs, SY0.its, SY0.imm⟩
theorem SY1_ok : SumsOK Try.prog SY1 := (SY0_ok.cons Try.func88 (by kernel_rfl) (by kernel_rfl) anyStC_ok)
def crS : Spec [crvSh] := ⟨fun ((x, y, _), _) => x.1 <= maxLen /\ y.1 <= maxLen, fun (c, _) => .si .i64 (crE (crvOf c))⟩
noncomputable def crI : DatL [crvSh] -> Anns := fun (c, _) => [
 (7, [], fun fr hp => ⟨Nat, fun g => ⟨frI [.k 5, .t 1, .k 35, .t 10] fr, hp⟩, Nat × Crv, fun g => (g, crvOf c), fun (g, c) => g + 1 <= c.nx /\ ∀ j, j < g -> c.x j < c.x (j + 1) /\ c.y j <= c.y (j + 1), fun g => g⟩)]
set_option maxRecDepth 100000 in
theorem cr_ok : FnSpec Try.prog 81 _ crS := by
 refine FnSpec.of SY1_ok mixed (U := 0) (I := crI) Try.func81 rfl (by kernel_rfl) rfl rfl (by decide +kernel) ?_
 rintro ⟨c, ⟨⟩⟩ hpre
 obtain ⟨c, rfl⟩ := crv_ex c
 have hpre : c.nx <= maxLen /\ c.ny <= maxLen := hpre
 obtain ⟨p1, p2⟩ := hpre
 unfold FnSat
 conv => arg 2; reduce
 simp [crS, anyStC, piecesS, pcsI, ElEq, getB, goneB, aliveB, and_assoc]
 have hnq : ∀ y, notQ y = false ↔ isQ y = true := fun y => by unfold notQ; simp
 have bad : (crB c = true -> False) -> c.nx <= 64 -> c.ny <= 64 -> 2 = crE c := fun h h1 h2 => by unfold crE; rw [if_neg (by omega), if_neg (fun hb => h hb)]
 have anyq : ∀ (f : Nat -> Int) (n : Nat), anyN (fun k => notQ (f k)) n = true -> ∃ k, k < n /\ isQ (f k) = false := fun f n h => by
  obtain ⟨k, hk, h1⟩ := anyN_iff.1 h
  exact ⟨k, hk, by unfold notQ at h1; simpa using h1⟩
 have allq : ∀ (f : Nat -> Int) (n : Nat), anyN (fun k => notQ (f k)) n = false -> ∀ k, k < n -> isQ (f k) = true := fun f n h k hk => (hnq _).1 (anyN_false.1 h k hk)
 refine ⟨fun h => by unfold crE; rw [if_pos (by omega)], fun h => ⟨fun _ _ => p1, fun _ _ _ => p2, fun h1 => bad (fun hb => ?_) (by omega) (by omega), fun a1 a2 a3 a4 => ⟨by omega, by omega, by omega, fun k hk => ⟨allq _ _ a3 k hk, allq _ _ a4 k (by omega)⟩, by omega, fun g hg hf => ⟨fun hlt => ⟨fun h1 => bad (fun hb => ?_) (by omega) (by omega), fun b1 b2 => ⟨by omega, fun j hj => ?_⟩⟩, fun hge => ?_⟩⟩⟩⟩
 ·have hb := crB_iff.1 hb
  rcases h1 with (h1 | h1) | h1
  ·omega
  ·obtain ⟨k, hk, h2⟩ := anyq _ _ h1
   rw [(hb.2.2.2.1 k hk).1] at h2; cases h2
  ·obtain ⟨k, hk, h2⟩ := anyq _ _ h1
   rw [(hb.2.2.2.1 k (by omega)).2] at h2; cases h2
 ·have := (crB_iff.1 hb).2.2.2.2 g (by omega)
  omega
 ·by_cases h' : j < g
  ·exact hf j h'
  ·obtain rfl : j = g := by omega
   exact ⟨b1, b2⟩
 ·exact (crE_iff.2 (crB_iff.2 ⟨by omega, by omega, by omega, fun k hk => ⟨allq _ _ a3 k hk, allq _ _ a4 k (by omega)⟩, fun k hk => hf k (by omega)⟩)).symm
noncomputable def SY2 : Sums := ⟨(81, mkSum _ crS) :: SY1.one, SY1.two, SY1.lo, SY1.eqs, SY1.its, SY1.imm⟩
theorem SY2_ok : SumsOK Try.prog SY2 := (SY1_ok.cons Try.func81 (by kernel_rfl) (by kernel_rfl) cr_ok)
@[irreducible] def vgL (c : Crv) (x : Int) (g : Nat) : Int := if g = 0 then c.y 0 else c.y (g - 1) + dnW (x - c.x (g - 1)) (c.y (g - 1 + 1) - c.y (g - 1)) (c.x (g - 1 + 1) - c.x (g - 1))
@[irreducible] def vgH (c : Crv) (x : Int) (g : Nat) : Int := if g = 0 then c.y 0 else c.y (g - 1) + upW (x - c.x (g - 1)) (c.y (g - 1 + 1) - c.y (g - 1)) (c.x (g - 1 + 1) - c.x (g - 1))
theorem vg_fin {c : Crv} (h : crB c = true) {x : Int} {g : Nat} (hg : g + 1 <= c.nx) (hf : ∀ j, j < g -> c.x j <= x) (hx : x < c.x (c.nx - 1)) (he : g = c.nx - 1 \/ x < c.x g) : vgL c x g = valL c x /\ vgH c x g = valH c x := by
 have hb := crB_iff.1 h
 cases g with
 | zero =>
   have : x < c.x 0 := by rcases he with he | he; omega; exact he
   have e1 : vgL c x 0 = c.y 0 := by unfold vgL; rw [if_pos rfl]
   have e2 : vgH c x 0 = c.y 0 := by unfold vgH; rw [if_pos rfl]
   have e3 : valL c x = c.y 0 := by unfold valL; rw [if_neg (by omega), if_pos this]
   have e4 : valH c x = c.y 0 := by unfold valH; rw [if_neg (by omega), if_pos this]
   rw [e1, e2, e3, e4]; exact ⟨rfl, rfl⟩
 | succ i =>
   have h0 := hf i (by omega)
   have h1 : x < c.x (i + 1) := by rcases he with he | he; rw [he]; exact hx; exact he
   have h2 := crv_x h (j := i) (i := 0) (by omega) (by omega)
   have hs := sgI_uniq h (x := x) (i := i) (by omega) h0 h1
   have h3 := hb.2.2.2.2 i (by omega)
   have hq1 := isQ_iff.1 (hb.2.2.2.1 i (by omega)).2
   have hq2 := isQ_iff.1 (hb.2.2.2.1 (i + 1) (by omega)).2
   have hp := piece_in (a := x - c.x i) (d := c.y (i + 1) - c.y i) (w := c.x (i + 1) - c.x i) (by omega) (by omega) (by omega) (by omega)
   have d1 := dnW_pos (x := x - c.x i) (n := c.y (i + 1) - c.y i) (d := c.x (i + 1) - c.x i) (by omega) (by omega) (by rw [absI_pos (by omega)]; omega)
   have d2 := dnW_pos (x := -(x - c.x i)) (n := c.y (i + 1) - c.y i) (d := c.x (i + 1) - c.x i) (by omega) (by omega) (by
    rcases Int.lt_or_le (-(x - c.x i)) 0 with h4 | h4
    ·rw [absI_neg h4, Int.neg_neg]; omega
    ·have e : x - c.x i = 0 := by omega
     rw [e]; simp [absI])
   unfold vgL vgH valL valH
   rw [if_neg (by omega), if_neg (by omega), if_neg (by omega), if_neg (by omega), if_neg (by omega), if_neg (by omega), hs, show i + 1 - 1 = i by omega]
   unfold upW pcL pcH
   rw [d1, d2]
   exact ⟨rfl, rfl⟩
def qvS : Spec [crvSh, .int .i64] := ⟨fun (c, (x : Int), _) => crB (crvOf c) = true /\ -1099511627776 <= x /\ x <= 1099511627776, fun (c, (x : Int), _) => .agg [.si .i64 (valL (crvOf c) x), .si .i64 (valH (crvOf c) x)]⟩
noncomputable def qvI : DatL [crvSh, .int .i64] -> Anns := fun (c, (x : Int), _) => [
 (6, [], fun fr hp => ⟨Nat, fun g => ⟨frI [.k 8, .t 2, .k 33, .t 27] fr, putC hp 3 [.si .i64 (vgL (crvOf c) x g), .si .i64 (vgH (crvOf c) x g)]⟩, Nat × Crv × Int, fun g => (g, crvOf c, x), fun (g, c, x) => g + 1 <= c.nx /\ ∀ j, j < g -> c.x j <= x, fun g => g⟩)]
set_option maxRecDepth 100000 in
theorem qv_ok : FnSpec Try.prog 97 _ qvS := by
 refine FnSpec.of SY2_ok mixed (U := 0) (I := qvI) Try.func97 rfl (by kernel_rfl) rfl rfl (by decide +kernel) ?_
 rintro ⟨c, (x : Int), ⟨⟩⟩ hpre
 obtain ⟨c, rfl⟩ := crv_ex c
 have hpre : crB c = true /\ -1099511627776 <= x /\ x <= 1099511627776 := by
  have : crB (crvOf (crvD c)) = true /\ -1099511627776 <= x /\ x <= 1099511627776 := hpre
  rwa [show crvOf (crvD c) = c from crvOf_mk c] at this
 obtain ⟨p1, p2, p3⟩ := hpre
 unfold FnSat
 conv => arg 2; reduce
 simp [qvS, piecesS, pcsI, ratioS, ElEq, getB, goneB, aliveB, and_assoc]
 have hb := crB_iff.1 p1
 have hq : ∀ k, k < c.nx -> (-1099511627776 <= c.x k /\ c.x k <= 1099511627776) /\ (-1099511627776 <= c.y k /\ c.y k <= 1099511627776) := fun k hk => ⟨isQ_iff.1 (hb.2.2.2.1 k hk).1, isQ_iff.1 (hb.2.2.2.1 k hk).2⟩
 refine ⟨by omega, by omega, by omega, by omega, fun h => ⟨by omega, by omega, by omega, by omega, by unfold valL; rw [if_pos h], by unfold valH; rw [if_pos h]⟩, fun h => ⟨by omega, by omega, by omega, by omega, hb.2.2.2.1, by unfold vgL; simp, by unfold vgH; simp, by omega, fun g hg hf => ⟨fun hlt => ⟨fun h1 => vg_fin p1 hg hf h (.inr h1), fun h1 => ?_⟩, fun hge => vg_fin p1 hg hf h (.inl (by omega))⟩⟩⟩
 have q1 := hq g (by omega)
 have q2 := hq (g + 1) (by omega)
 have q3 := hb.2.2.2.2 g (by omega)
 have hd : 1 <= absI (c.x (g + 1) - c.x g) := by rw [absI_pos (by omega)]; omega
 have q4 := dnW_b (x := x - c.x g) (n := c.y (g + 1) - c.y g) hd
 have q5 := dnW_b (x := -(x - c.x g)) (n := c.y (g + 1) - c.y g) hd
 have q6 : upW (x - c.x g) (c.y (g + 1) - c.y g) (c.x (g + 1) - c.x g) = -(dnW (-(x - c.x g)) (c.y (g + 1) - c.y g) (c.x (g + 1) - c.x g)) := by unfold upW; rfl
 refine ⟨by omega, by omega, by omega, by omega, by omega, by omega, by omega, by omega, by omega, by omega, by omega, by omega, ?_, ?_, by omega, fun j hj => ?_⟩
 ·unfold vgL; rw [if_neg (by omega), show g + 1 - 1 = g by omega]
 ·unfold vgH; rw [if_neg (by omega), show g + 1 - 1 = g by omega]
 ·by_cases h' : j < g
  ·exact hf j h'
  ·obtain rfl : j = g := by omega
   exact h1
noncomputable def SY3 : Sums := ⟨(97, mkSum _ qvS) :: SY2.one, SY2.two, SY2.lo, SY2.eqs, SY2.its, SY2.imm⟩
theorem SY3_ok : SumsOK Try.prog SY3 := (SY2_ok.cons Try.func97 (by kernel_rfl) (by kernel_rfl) qv_ok)
@[irreducible] def atE (c : Crv) (x : Int) : Int := if crE c = 0 then (if isQ x = true then 0 else 2) else crE c
@[irreducible] def atL (c : Crv) (x : Int) : Int := if atE c x = 0 then valL c x else 0
@[irreducible] def atH (c : Crv) (x : Int) : Int := if atE c x = 0 then valH c x else 0
theorem atE_iff {c : Crv} {x : Int} : atE c x = 0 ↔ crE c = 0 /\ isQ x = true := by
 unfold atE
 by_cases h : crE c = 0
 ·rw [if_pos h]; cases isQ x <;> simp [h]
 ·rw [if_neg h]; simp [h]
def atS : Spec [crvSh, .int .i64] := ⟨fun ((x, y, _), _) => x.1 <= maxLen /\ y.1 <= maxLen, fun (c, (x : Int), _) => .tup [.agg [.si .i64 (atL (crvOf c) x), .si .i64 (atH (crvOf c) x)], .si .i64 (atE (crvOf c) x)]⟩
set_option maxRecDepth 100000 in
theorem at_ok : FnSpec Try.prog 96 _ atS := by
 refine FnSpec.of SY3_ok mixed (U := 0) (I := fun _ => []) Try.func96 rfl (by kernel_rfl) rfl rfl (by decide +kernel) ?_
 rintro ⟨c, (x : Int), ⟨⟩⟩ hpre
 obtain ⟨c, rfl⟩ := crv_ex c
 have hpre : c.nx <= maxLen /\ c.ny <= maxLen := hpre
 obtain ⟨p1, p2⟩ := hpre
 unfold FnSat
 conv => arg 2; reduce
 simp [atS, crS, isS, qvS, ElEq, getB, goneB, aliveB, and_assoc]
 refine ⟨p1, p2, fun h => ?_, fun h => ⟨fun h2 => ?_, fun h2 => ⟨crE_iff.1 h, (isQ_iff.1 h2).1, (isQ_iff.1 h2).2, ?_⟩⟩⟩
 ·have e : atE c x = crE c := by unfold atE; rw [if_neg h]
  unfold atL atH; rw [e, if_neg h, if_neg h]; simp
 ·have e : atE c x = 2 := by unfold atE; rw [if_pos h, h2]; rfl
  unfold atL atH; rw [e]; simp
 ·have e : atE c x = 0 := atE_iff.2 ⟨h, h2⟩
  unfold atL atH; rw [e]; simp
noncomputable def SY4 : Sums := ⟨(96, mkSum _ atS) :: SY3.one, SY3.two, SY3.lo, SY3.eqs, SY3.its, SY3.imm⟩
theorem SY4_ok : SumsOK Try.prog SY4 := (SY3_ok.cons Try.func96 (by kernel_rfl) (by kernel_rfl) at_ok)
end Abs
end Go.Proofs.Ytlacopdaibhkkaa

namespace Go.Proofs.Ytlacopdaibhkkaa
namespace Abs
open Go Go.RowKit
noncomputable section
theorem atL_val {c : Crv} {x : Int} (h : crB c = true) (h1 : -1099511627776 <= x) (h2 : x <= 1099511627776) : atL c x = valL c x := by
 have e : atE c x = 0 := atE_iff.2 ⟨crE_iff.2 h, isQ_iff.2 ⟨h1, h2⟩⟩
 unfold atL; rw [if_pos e]
def divS : Spec [.int .i64, .int .i64] := ⟨fun ((n : Int), (d : Int), _) => -4611686018427387904 <= n /\ n <= 4611686018427387904 /\ 1 <= d, fun ((n : Int), (d : Int), _) => .si .i64 (dvI n d)⟩
set_option maxRecDepth 100000 in
theorem div_ok : FnSpec Try.prog 74 _ divS := by
 refine FnSpec.of SY4_ok mixed (U := 0) (I := fun _ => []) Try.func74 rfl (by kernel_rfl) rfl rfl (by decide +kernel) ?_
 rintro ⟨(n : Int), (d : Int), ⟨⟩⟩ ⟨(h1 : -4611686018427387904 <= n), (h2 : n <= 4611686018427387904), (h3 : 1 <= d)⟩
 unfold FnSat
 conv => arg 2; reduce
 simp [divS, and_assoc]
 exact dvI_by h1 h2 h3
def clipS : Spec [.int .i64, .int .i64, .int .i64] := ⟨fun _ => True, fun ((x : Int), (lo : Int), (hi : Int), _) => .si .i64 (clipV x lo hi)⟩
set_option maxRecDepth 100000 in
theorem clip_ok : FnSpec Try.prog 95 _ clipS := by
 refine FnSpec.of SY4_ok mixed (U := 0) (I := fun _ => []) Try.func95 rfl (by kernel_rfl) rfl rfl (by decide +kernel) ?_
 rintro ⟨(x : Int), (lo : Int), (hi : Int), ⟨⟩⟩ -
 unfold FnSat
 conv => arg 2; reduce
 simp [clipS, clipV]
def betS : Spec [.int .i64, .int .i64, .int .i64] := ⟨fun _ => True, fun ((x : Int), (lo : Int), (hi : Int), _) => .sb (isIn lo x hi)⟩
set_option maxRecDepth 100000 in
theorem bet_ok : FnSpec Try.prog 66 _ betS := by
 refine FnSpec.of SY4_ok mixed (U := 0) (I := fun _ => []) Try.func66 rfl (by kernel_rfl) rfl rfl (by decide +kernel) ?_
 rintro ⟨(x : Int), (lo : Int), (hi : Int), ⟨⟩⟩ -
 unfold FnSat
 conv => arg 2; reduce
 simp [betS, isIn]
def cvalS : Spec [crvSh, .int .i64] := ⟨fun ((x, y, _), _) => x.1 <= maxLen /\ y.1 <= maxLen, fun (c, (x : Int), _) => .si .i64 (atL (crvOf c) x)⟩
set_option maxRecDepth 100000 in
theorem cval_ok : FnSpec Try.prog 91 _ cvalS := by
 refine FnSpec.of SY4_ok mixed (U := 0) (I := fun _ => []) Try.func91 rfl (by kernel_rfl) rfl rfl (by decide +kernel) ?_
 rintro ⟨c, (x : Int), ⟨⟩⟩ hpre
 obtain ⟨c, rfl⟩ := crv_ex c
 have hpre : c.nx <= maxLen /\ c.ny <= maxLen := hpre
 unfold FnSat
 conv => arg 2; reduce
 simp [cvalS, atS, ElEq, and_assoc]
 exact hpre
noncomputable def SCa : Sums := ⟨(91, mkSum _ cvalS) :: (66, mkSum _ betS) :: (95, mkSum _ clipS) :: (74, mkSum _ divS) :: SY4.one, SY4.two, SY4.lo, SY4.eqs, SY4.its, SY4.imm⟩
theorem SCa_ok : SumsOK Try.prog SCa := ((((SY4_ok.cons Try.func74 (by kernel_rfl) (by kernel_rfl) div_ok).cons Try.func95 (by kernel_rfl) (by kernel_rfl) clip_ok).cons Try.func66 (by kernel_rfl) (by kernel_rfl) bet_ok).cons Try.func91 (by kernel_rfl) (by kernel_rfl) cval_ok)
def scaleS : Spec [crvSh, .int .i64, .int .i64] := ⟨fun ((x, y, _), _) => x.1 <= maxLen /\ y.1 <= maxLen, fun (c, (last : Int), (most : Int), _) => .sb (scB (crvOf c) last most)⟩
set_option maxRecDepth 100000 in
theorem scale_ok : FnSpec Try.prog 73 _ scaleS := by
 refine FnSpec.of SCa_ok mixed (U := 0) (I := fun _ => []) Try.func73 rfl (by kernel_rfl) rfl rfl (by decide +kernel) ?_
 rintro ⟨c, (last : Int), (most : Int), ⟨⟩⟩ hpre
 obtain ⟨c, rfl⟩ := crv_ex c
 have hpre : c.nx <= maxLen /\ c.ny <= maxLen := hpre
 obtain ⟨p1, p2⟩ := hpre
 unfold FnSat
 conv => arg 2; reduce
 simp [scaleS, and_assoc]
 refine ⟨p1, p2, fun h => ?_, fun h => ?_⟩
 ·have hb : crB c = false := by
   cases hb : crB c with
   | false => rfl
   | true => exact absurd (crE_iff.2 hb) h
  unfold scB; rw [hb]; simp
 ·have hb : crB c = true := crE_iff.1 h
  have h1 := crB_iff.1 hb
  have e : ((c.nx : Int) - 1).toNat = c.nx - 1 := by omega
  unfold maxLen at p1 p2
  refine ⟨by omega, by omega, by omega, fun _ => by omega, fun _ _ => by omega, fun _ _ _ => by omega, ?_⟩
  unfold scB
  rw [Bool.eq_iff_iff]
  simp [hb]
noncomputable def SCb : Sums := ⟨(73, mkSum _ scaleS) :: SCa.one, SCa.two, SCa.lo, SCa.eqs, SCa.its, SCa.imm⟩
theorem SCb_ok : SumsOK Try.prog SCb := (SCa_ok.cons Try.func73 (by kernel_rfl) (by kernel_rfl) scale_ok)
def wearS : Spec [.ptr celCells, .int .i64, .int .i64] := ⟨fun (c, (t : Int), (a : Int), _) => WearOK (celOf c) t a, fun (c, (t : Int), (a : Int), _) => .si .i64 (wearV (celOf c) t a)⟩
set_option maxRecDepth 100000 in
theorem wear_ok : FnSpec Try.prog 68 _ wearS := by
 refine FnSpec.of SCb_ok mixed (U := 0) (I := fun _ => []) Try.func68 rfl (by kernel_rfl) rfl rfl (by decide +kernel) ?_
 rintro ⟨c, (t : Int), (a : Int), ⟨⟩⟩ hpre
 obtain ⟨c, rfl⟩ := cel_ex c
 have hpre : WearOK c t a := by have : WearOK (celOf (celD c)) t a := hpre; rwa [celOf_D] at this
 unfold FnSat
 conv => arg 2; reduce
 simp [wearS, divS, and_assoc]
 have h1 := mul_in hpre.t0 hpre.t1 hpre.c0 hpre.c1
 have h2 := mul_in hpre.g0 hpre.g1 hpre.a0 hpre.a1
 have h3 := wearV_in hpre
 have e : dvI (t * c.cyc) 1073741824 + dvI (a * c.agel) 1073741824 = wearV c t a := by unfold wearV; rfl
 rw [e]
 omega
def roomS : Spec [.ptr celCells, .int .i64] := ⟨fun (c, (w : Int), _) => 0 <= (celOf c).cap /\ (celOf c).cap <= 4294967296 /\ -17179869184 <= w /\ w <= 17179869184, fun (c, (w : Int), _) => .si .i64 (roomV (celOf c) w)⟩
set_option maxRecDepth 100000 in
theorem room_ok : FnSpec Try.prog 67 _ roomS := by
 refine FnSpec.of SCb_ok mixed (U := 0) (I := fun _ => []) Try.func67 rfl (by kernel_rfl) rfl rfl (by decide +kernel) ?_
 rintro ⟨c, (w : Int), ⟨⟩⟩ hpre
 obtain ⟨c, rfl⟩ := cel_ex c
 have hpre : 0 <= c.cap /\ c.cap <= 4294967296 /\ -17179869184 <= w /\ w <= 17179869184 := by have : 0 <= (celOf (celD c)).cap /\ (celOf (celD c)).cap <= 4294967296 /\ -17179869184 <= w /\ w <= 17179869184 := hpre; rwa [celOf_D] at this
 unfold FnSat
 conv => arg 2; reduce
 simp [roomS, and_assoc]
 unfold roomV
 omega
def pcS : Spec [.int .i64, .int .i64] := ⟨fun ((x : Int), (o : Int), _) => -17592186044416 <= x /\ x <= 17592186044416 /\ 1 <= o, fun ((x : Int), (o : Int), _) => .si .i64 (pcV x o)⟩
set_option maxRecDepth 100000 in
theorem pc_ok : FnSpec Try.prog 92 _ pcS := by
 refine FnSpec.of SCb_ok mixed (U := 0) (I := fun _ => []) Try.func92 rfl (by kernel_rfl) rfl rfl (by decide +kernel) ?_
 rintro ⟨(x : Int), (o : Int), ⟨⟩⟩ ⟨(h1 : -17592186044416 <= x), (h2 : x <= 17592186044416), (h3 : 1 <= o)⟩
 unfold FnSat
 conv => arg 2; reduce
 simp [pcS, divS, and_assoc]
 unfold pcV
 omega
def openS : Spec [.ptr celCells, .int .i64] := ⟨fun (c, (f : Int), _) => celB (celOf c) = true /\ -1099511627776 <= f /\ f <= 1099511627776, fun (c, (f : Int), _) => .si .i64 (openV (celOf c) f)⟩
set_option maxRecDepth 100000 in
theorem copen_ok : FnSpec Try.prog 83 _ openS := by
 refine FnSpec.of SCb_ok mixed (U := 0) (I := fun _ => []) Try.func83 rfl (by kernel_rfl) rfl rfl (by decide +kernel) ?_
 rintro ⟨c, (f : Int), ⟨⟩⟩ hpre
 obtain ⟨c, rfl⟩ := cel_ex c
 have hpre : celB c = true /\ -1099511627776 <= f /\ f <= 1099511627776 := by have : celB (celOf (celD c)) = true /\ -1099511627776 <= f /\ f <= 1099511627776 := hpre; rwa [celOf_D] at this
 unfold FnSat
 conv => arg 2; reduce
 simp [openS, cvalS, and_assoc]
 obtain ⟨hc, f1, f2⟩ := hpre
 have hc := celB_iff.1 hc
 obtain ⟨m1, m2, -⟩ := hc.max
 have hv := sc_val hc.ocv f
 have e : atL c.ocv f = valL c.ocv f := atL_val (scB_iff.1 hc.ocv).1 (by omega) (by omega)
 rw [e]
 have := hc.sh0
 have := hc.sh1
 unfold openV
 exact ⟨m1, m2, by omega, by omega, rfl⟩
def resS : Spec [.ptr celCells, .int .i64, .int .i64] := ⟨fun (c, (t : Int), (w : Int), _) => celB (celOf c) = true /\ 0 <= t /\ t <= 400000 /\ 0 <= w /\ w <= 17179869184, fun (c, (t : Int), (w : Int), _) => .si .i64 (resV (celOf c) t w)⟩
set_option maxRecDepth 100000 in
theorem res_ok : FnSpec Try.prog 90 _ resS := by
 refine FnSpec.of SCb_ok mixed (U := 0) (I := fun _ => []) Try.func90 rfl (by kernel_rfl) rfl rfl (by decide +kernel) ?_
 rintro ⟨c, (t : Int), (w : Int), ⟨⟩⟩ hpre
 obtain ⟨c, rfl⟩ := cel_ex c
 have hpre : celB c = true /\ 0 <= t /\ t <= 400000 /\ 0 <= w /\ w <= 17179869184 := by have : celB (celOf (celD c)) = true /\ 0 <= t /\ t <= 400000 /\ 0 <= w /\ w <= 17179869184 := hpre; rwa [celOf_D] at this
 unfold FnSat
 conv => arg 2; reduce
 simp [resS, cvalS, divS, clipS, and_assoc]
 obtain ⟨hc, t0, t1, w0, w1⟩ := hpre
 have hc := celB_iff.1 hc
 obtain ⟨-, -, m1, m2, -⟩ := hc.max
 have hv := sc_val hc.cold (400000 - t)
 have e : atL c.cold (400000 - t) = valL c.cold (400000 - t) := atL_val (scB_iff.1 hc.cold).1 (by omega) (by omega)
 rw [e]
 have h1 := mul_in w0 w1 hc.gr0 hc.gr1
 have h2 := dvI_le (a := w * c.grow) (d := 65536) (m := 274877906944) (by decide) (by omega)
 have h3 := dvI_nonneg (a := w * c.grow) (d := 65536) (by decide) h1.1
 have := hc.ex0
 have := hc.ex1
 unfold resV
 exact ⟨by omega, by omega, m1, m2, by omega, by omega, by omega, by omega, by omega, by omega, by omega, by omega, rfl⟩
attribute [local irreducible] FnSat
def ccheckS : Spec [celSh] := ⟨fun (c, _) => CelMax (celOf c), fun (c, _) => .si .i64 (errA (celB (celOf c)))⟩
set_option maxRecDepth 100000 in
set_option maxHeartbeats 2000000 in
theorem ccheck_ok : FnSpec Try.prog 65 _ ccheckS := by
 refine FnSpec.of SCb_ok mixed (U := 12) (I := fun _ => []) Try.func65 rfl (by kernel_rfl) rfl rfl (by decide +kernel) ?_
 rintro ⟨c, ⟨⟩⟩ hpre
 obtain ⟨c, rfl⟩ := cel_ex c
 have hpre : CelMax c := by have : CelMax (celOf (celD c)) := hpre; rwa [celOf_D] at this
 obtain ⟨p1, p2, p3, p4, p5, p6⟩ := hpre
 unfold FnSat
 conv => arg 2; reduce
 simp [ccheckS, betS, scaleS, and_assoc]
 have no : (CelOK c -> False) -> 2 = errA (celB c) := fun h => by rw [celB_no h]; simp [errA]
 refine ⟨fun h => no fun k => by have := k.cap0; have := k.cap1; omega, fun q0 q1 => ⟨fun h => no fun k => by have := k.sh0; have := k.sh1; omega, fun q2 q3 => ⟨fun h => no fun k => by have := k.ex0; have := k.ex1; omega, fun q4 q5 => ⟨fun h => no fun k => by have := k.pr0; have := k.pr1; omega, fun q6 q7 => ⟨fun h => no fun k => by have := k.lk0; have := k.lk1; omega, fun q8 q9 => ⟨fun h => no fun k => by have := k.kp0; have := k.kp1; omega, fun q10 q11 => ⟨fun h => no fun k => by have := k.co0; have := k.co1; omega, fun q12 q13 => ⟨fun h => no fun k => by have := k.hc0; have := k.hc1; omega, fun q14 q15 => ⟨fun h => no fun k => by have := k.cy0; have := k.cy1; omega, fun q16 q17 => ⟨fun h => no fun k => by have := k.al0; have := k.al1; omega, fun q18 q19 => ⟨fun h => no fun k => by have := k.gr0; have := k.gr1; omega, fun q20 q21 => ⟨p1, p2, fun _ => ⟨p3, p4⟩, fun _ _ => ⟨p5, p6⟩, fun h => no fun k => ?_, fun h1 h2 h3 => ?_⟩⟩⟩⟩⟩⟩⟩⟩⟩⟩⟩⟩
 ·rw [k.ocv, k.cold, k.stress] at h; simp at h
 ·rw [celB_iff.2 ⟨q0, q1, q2, q3, q4, q5, q6, q7, q8, q9, q10, q11, q12, q13, q14, q15, q16, q17, q18, q19, q20, q21, h1, h2, h3⟩]; simp [errA]
noncomputable def SCd : Sums := ⟨(65, mkSum _ ccheckS) :: (90, mkSum _ resS) :: (83, mkSum _ openS) :: (92, mkSum _ pcS) :: (67, mkSum _ roomS) :: (68, mkSum _ wearS) :: SCb.one, SCb.two, SCb.lo, SCb.eqs, SCb.its, SCb.imm⟩
theorem SCd_ok : SumsOK Try.prog SCd := ((((((SCb_ok.cons Try.func68 (by kernel_rfl) (by kernel_rfl) wear_ok).cons Try.func67 (by kernel_rfl) (by kernel_rfl) room_ok).cons Try.func92 (by kernel_rfl) (by kernel_rfl) pc_ok).cons Try.func83 (by kernel_rfl) (by kernel_rfl) copen_ok).cons Try.func90 (by kernel_rfl) (by kernel_rfl) res_ok).cons Try.func65 (by kernel_rfl) (by kernel_rfl) ccheck_ok)
end
end Abs
end Go.Proofs.Ytlacopdaibhkkaa

namespace Go.Proofs.Ytlacopdaibhkkaa
namespace Abs
open Go Go.RowKit
noncomputable section
structure StOK (c : Cel) (s : Sta) : Prop where
 t0 : 0 <= s.tp
 t1 : s.tp <= 400000
 h0 : 0 <= s.th
 h1 : s.th <= 1099511627776
 a0 : 0 <= s.ag
 a1 : s.ag <= 1099511627776
 r0 : -8388608 <= s.rx
 r1 : s.rx <= 8388608
 q0 : 0 <= s.q
 q1 : s.q <= roomV c (wearV c s.th s.ag)
open Classical in
@[irreducible] def stB (c : Cel) (s : Sta) : Bool := decide (StOK c s)
theorem stB_iff {c : Cel} {s : Sta} : stB c s = true ↔ StOK c s := by unfold stB; simp
theorem stB_no {c : Cel} {s : Sta} (h : StOK c s -> False) : stB c s = false := by
 cases hb : stB c s with
 | false => rfl
 | true => exact (h (stB_iff.1 hb)).elim
@[irreducible] def csE (c : Cel) (s : Sta) : Int := match celB c with | true => (match stB c s with | true => 0 | false => 3) | false => 2
theorem csE_2 {c : Cel} {s : Sta} (h : celB c = false) : csE c s = 2 := by unfold csE; rw [h]
theorem csE_3 {c : Cel} {s : Sta} (h : celB c = true) (h2 : StOK c s -> False) : csE c s = 3 := by unfold csE; rw [h, stB_no h2]
theorem csE_0 {c : Cel} {s : Sta} (h : celB c = true) (h2 : StOK c s) : csE c s = 0 := by unfold csE; rw [h, stB_iff.2 h2]
theorem csE_iff {c : Cel} {s : Sta} : csE c s = 0 ↔ celB c = true /\ StOK c s := by
 unfold csE
 cases h : celB c with
 | false => simp
 | true => cases h2 : stB c s with
   | false => simp; intro h3; rw [stB_iff.2 h3] at h2; cases h2
   | true => simp; exact stB_iff.1 h2
attribute [local irreducible] FnSat
def cstS : Spec [celSh, staSh] := ⟨fun (c, _) => CelMax (celOf c), fun (c, s, _) => .si .i64 (csE (celOf c) (staOf s))⟩
set_option maxRecDepth 100000 in
set_option maxHeartbeats 2000000 in
theorem cst_ok : FnSpec Try.prog 45 _ cstS := by
 refine FnSpec.of SCd_ok mixed (U := 0) (I := fun _ => []) Try.func45 rfl (by kernel_rfl) rfl rfl (by decide +kernel) ?_
 rintro ⟨c, s, ⟨⟩⟩ hpre
 obtain ⟨c, rfl⟩ := cel_ex c
 obtain ⟨s, rfl⟩ := sta_ex s
 have hpre : CelMax c := by have : CelMax (celOf (celD c)) := hpre; rwa [celOf_D] at this
 unfold FnSat
 conv => arg 2; reduce
 simp [cstS, betS, ccheckS, wearS, roomS, and_assoc]
 refine ⟨hpre, fun h => by rw [csE_2 h, h]; simp [errA], fun h => ⟨fun h' => (csE_3 h fun k => ?_).symm, fun t0 t1 h0 h1 a0 a1 r0 r1 => ?_⟩⟩
 ·have := k.t0
  have := k.t1
  have := k.h0
  have := k.h1
  have := k.a0
  have := k.a1
  have := k.r0
  have := k.r1
  omega
 ·have hc := celB_iff.1 h
  have hw : WearOK c s.th s.ag := ⟨hc.cy0, hc.cy1, hc.al0, hc.al1, h0, by omega, a0, by omega⟩
  have hw2 := wearV_in hw
  refine ⟨hw, by have := hc.cap0; omega, hc.cap1, by omega, by omega, fun h' => (csE_3 h fun k => ?_).symm, fun q0 q1 => (csE_0 h ⟨t0, t1, h0, h1, a0, a1, r0, r1, q0, q1⟩).symm⟩
  have := k.q0
  have := k.q1
  omega
noncomputable def SCe : Sums := ⟨(45, mkSum _ cstS) :: SCd.one, SCd.two, SCd.lo, SCd.eqs, SCd.its, SCd.imm⟩
theorem SCe_ok : SumsOK Try.prog SCe := (SCd_ok.cons Try.func45 (by kernel_rfl) (by kernel_rfl) cst_ok)
end
end Abs
end Go.Proofs.Ytlacopdaibhkkaa

namespace Go.Proofs.Ytlacopdaibhkkaa
namespace Abs
open Go Go.RowKit
noncomputable section
@[irreducible] def wV (c : Cel) (s : Sta) : Int := wearV c s.th s.ag
@[irreducible] def kV (c : Cel) (s : Sta) : Int := roomV c (wV c s)
@[irreducible] def rV (c : Cel) (s : Sta) : Int := resV c s.tp (wV c s)
@[irreducible] def fillV (c : Cel) (s : Sta) : Int := pcV s.q (kV c s)
@[irreducible] def opnV (c : Cel) (s : Sta) : Int := openV c (fillV c s)
@[reducible] def vwCells : List Sh := [.ptr celCells, .int .i64, .int .i64, .int .i64, .int .i64, .int .i64, .int .i64, .int .i64, .int .i64]
@[reducible] def vwSh : Sh := .agg vwCells
abbrev VwD := CelD × Int × Int × Int × Int × Int × Int × Int × Int × Unit
@[reducible] def vwD (c : Cel) (s : Sta) : VwD := (celD c, s.q, s.rx, s.tp, s.th, s.ag, wV c s, kV c s, rV c s, ())
@[irreducible] def vwC (v : VwD) : Cel := celOf v.1
@[irreducible] def vwS (v : VwD) : Sta := ⟨v.2.1, v.2.2.1, v.2.2.2.1, v.2.2.2.2.1, v.2.2.2.2.2.1⟩
structure VwOK (v : VwD) : Prop where
 cel : celB (vwC v) = true
 sta : StOK (vwC v) (vwS v)
 wear : v.2.2.2.2.2.2.1 = wV (vwC v) (vwS v)
 room : v.2.2.2.2.2.2.2.1 = kV (vwC v) (vwS v)
 res : v.2.2.2.2.2.2.2.2.1 = rV (vwC v) (vwS v)
theorem vwC_D (c : Cel) (s : Sta) : vwC (vwD c s) = c := by unfold vwC; exact celOf_D c
theorem vwS_D (c : Cel) (s : Sta) : vwS (vwD c s) = s := by
 unfold vwS
 show Sta.mk s.q s.rx s.tp s.th s.ag = s
 unfold Sta.q Sta.rx Sta.tp Sta.th Sta.ag
 rfl
theorem vw_ok {c : Cel} {s : Sta} (h : celB c = true) (hs : StOK c s) : VwOK (vwD c s) := by
 refine ⟨?_, ?_, ?_, ?_, ?_⟩ <;> rw [vwC_D]
 ·exact h
 ·rw [vwS_D]; exact hs
 ·rw [vwS_D]
 ·rw [vwS_D]
 ·rw [vwS_D]
theorem vw_ex {v : VwD} (h : VwOK v) : ∃ (c : Cel) (s : Sta), v = vwD c s /\ celB c = true /\ StOK c s := by
 refine ⟨vwC v, vwS v, ?_, h.cel, h.sta⟩
 have h1 := h.wear
 have h2 := h.room
 have h3 := h.res
 obtain ⟨x, a, b, d, e, f, w, k, r, ⟨⟩⟩ := v
 simp only at h1 h2 h3
 obtain ⟨c, rfl⟩ := cel_ex x
 unfold vwD
 rw [<- h1, <- h2, <- h3]
 have e1 : vwC (celD c, a, b, d, e, f, w, k, r, ()) = c := by unfold vwC; exact celOf_D c
 rw [e1]
 unfold vwS
 simp
theorem wV_in {c : Cel} {s : Sta} (h : celB c = true) (hs : StOK c s) : 0 <= wV c s /\ wV c s <= 4294967296 := by
 have hc := celB_iff.1 h
 have := hs.h1
 have := hs.a1
 have hw : WearOK c s.th s.ag := ⟨hc.cy0, hc.cy1, hc.al0, hc.al1, hs.h0, by omega, hs.a0, by omega⟩
 have := wearV_in hw
 unfold wV
 exact this
theorem kV_in {c : Cel} {s : Sta} (h : celB c = true) (hs : StOK c s) : 1 <= kV c s /\ kV c s <= 4294967296 := by
 have hc := celB_iff.1 h
 have h1 := wV_in h hs
 have h2 := @roomV_in c (wV c s)
 have := h2.2 h1.1 hc.cap0
 have := hc.cap1
 unfold kV
 omega
theorem rV_in {c : Cel} {s : Sta} : 0 <= rV c s /\ rV c s <= 1048576 := by unfold rV resV; exact clipV_in (by decide)
theorem q_in {c : Cel} {s : Sta} (hs : StOK c s) : 0 <= s.q /\ s.q <= kV c s := by
 have h1 := hs.q0
 have h2 := hs.q1
 unfold kV wV
 exact ⟨h1, h2⟩
theorem fillV_in {c : Cel} {s : Sta} (h : celB c = true) (hs : StOK c s) : 0 <= fillV c s /\ fillV c s <= 65536 := by
 have h1 := kV_in h hs
 have h2 := q_in hs
 have := dvI_nonneg (a := s.q * 65536) (d := kV c s) h1.1 (by omega)
 unfold fillV pcV
 omega
theorem opnV_in {c : Cel} {s : Sta} (h : celB c = true) : -8388608 <= opnV c s /\ opnV c s <= 16777216 := by
 have hc := celB_iff.1 h
 have := sc_val hc.ocv (fillV c s)
 have := hc.sh0
 have := hc.sh1
 unfold opnV openV
 omega
theorem encL_cel (c : Cel) : encL celCells (celD c) = [.si .i64 c.cap, .slc (.sym c.ocv.nx) 1 (fun k => [.si .i64 (c.ocv.x k)]), .slc (.sym c.ocv.ny) 1 (fun k => [.si .i64 (c.ocv.y k)]), .si .i64 c.shift,
  .slc (.sym c.cold.nx) 1 (fun k => [.si .i64 (c.cold.x k)]), .slc (.sym c.cold.ny) 1 (fun k => [.si .i64 (c.cold.y k)]), .si .i64 c.extra, .si .i64 c.pair, .si .i64 c.keep, .si .i64 c.leak, .si .i64 c.hcap, .si .i64 c.cool,
  .slc (.sym c.stress.nx) 1 (fun k => [.si .i64 (c.stress.x k)]), .slc (.sym c.stress.ny) 1 (fun k => [.si .i64 (c.stress.y k)]), .si .i64 c.cyc, .si .i64 c.agel, .si .i64 c.grow] := rfl
attribute [local irreducible] FnSat
def lookF : SpecF [.cells 44 celCells] [.own 0 0, staSh] :=
 ⟨fun (c, _) (_, s, _) => celB (celOf c) = true /\ StOK (celOf c) (staOf s), fun (c, _) (_, s, _) => .agg [.own 0 0, .si .i64 (staOf s).q, .si .i64 (staOf s).rx, .si .i64 (staOf s).tp, .si .i64 (staOf s).th, .si .i64 (staOf s).ag, .si .i64 (wV (celOf c) (staOf s)), .si .i64 (kV (celOf c) (staOf s)), .si .i64 (rV (celOf c) (staOf s))],
  fun (c, _) _ => encH [.cells 44 celCells] (c, ())⟩
set_option maxRecDepth 100000 in
set_option maxHeartbeats 1000000 in
theorem look_ok : FnSpecF Try.prog 82 _ _ lookF := by
 refine FnSpecF.of SCe_ok mixed (U := 0) (I := fun _ _ => []) Try.func82 rfl (by kernel_rfl) rfl (by decide +kernel) ?_
 rintro ⟨c, ⟨⟩⟩ ⟨⟨⟩, s, ⟨⟩⟩ hpre
 obtain ⟨c, rfl⟩ := cel_ex c
 obtain ⟨s, rfl⟩ := sta_ex s
 have hp : celB c = true /\ StOK c s := by
  have h : celB (celOf (celD c)) = true /\ StOK (celOf (celD c)) (staOf (staD s)) := hpre
  rwa [celOf_D, staOf_D] at h
 unfold FnSat
 conv => arg 2; reduce
 simp [lookF, wearS, roomS, resS, aliveB, getB, encH, encB, encL_cel, ElEq, and_assoc]
 obtain ⟨h1, h2⟩ := hp
 have hc := celB_iff.1 h1
 have w := wV_in h1 h2
 unfold wV at w
 have := hc.cap0
 have := h2.h1
 have := h2.a1
 exact ⟨⟨hc.cy0, hc.cy1, hc.al0, hc.al1, h2.h0, by omega, h2.a0, by omega⟩, by omega, hc.cap1, by omega, by omega, h1, h2.t0, h2.t1, by omega, by omega, by unfold wV; rfl, by unfold kV wV; rfl, by unfold rV wV; rfl⟩
noncomputable def SCf : Sums := ⟨SCe.one, (82, mkSumF _ _ lookF) :: SCe.two, SCe.lo, SCe.eqs, SCe.its, SCe.imm⟩
theorem SCf_ok : SumsOK Try.prog SCf := SCe_ok.addTwo Try.func82 (by kernel_rfl) (by kernel_rfl) (mkSumF_ok look_ok)
def fillS' : Spec [vwSh] := ⟨fun (v, _) => VwOK v, fun (v, _) => .si .i64 (fillV (vwC v) (vwS v))⟩
set_option maxRecDepth 100000 in
theorem vfill_ok : FnSpec Try.prog 84 _ fillS' := by
 refine FnSpec.of SCe_ok mixed (U := 0) (I := fun _ => []) Try.func84 rfl (by kernel_rfl) rfl rfl (by decide +kernel) ?_
 rintro ⟨v, ⟨⟩⟩ hpre
 obtain ⟨c, s, rfl, h1, h2⟩ := vw_ex (show VwOK v from hpre)
 have e1 := vwC_D c s
 have e2 := vwS_D c s
 unfold FnSat
 conv => arg 2; reduce
 simp [fillS', pcS, e1, e2, and_assoc]
 have k := kV_in h1 h2
 have q := q_in h2
 exact ⟨by omega, by omega, k.1, by unfold fillV; rfl⟩
noncomputable def SCg : Sums := ⟨(84, mkSum _ fillS') :: SCf.one, SCf.two, SCf.lo, SCf.eqs, SCf.its, SCf.imm⟩
theorem SCg_ok : SumsOK Try.prog SCg := (SCf_ok.cons Try.func84 (by kernel_rfl) (by kernel_rfl) vfill_ok)
def vopenS : Spec [vwSh] := ⟨fun (v, _) => VwOK v, fun (v, _) => .si .i64 (opnV (vwC v) (vwS v))⟩
set_option maxRecDepth 100000 in
theorem vopen_ok : FnSpec Try.prog 77 _ vopenS := by
 refine FnSpec.of SCg_ok mixed (U := 0) (I := fun _ => []) Try.func77 rfl (by kernel_rfl) rfl rfl (by decide +kernel) ?_
 rintro ⟨v, ⟨⟩⟩ hpre
 obtain ⟨c, s, rfl, h1, h2⟩ := vw_ex (show VwOK v from hpre)
 have e1 := vwC_D c s
 have e2 := vwS_D c s
 unfold FnSat
 conv => arg 2; reduce
 simp [vopenS, fillS', openS, e1, e2, and_assoc]
 have f := fillV_in h1 h2
 exact ⟨vw_ok h1 h2, h1, by omega, by omega, by unfold opnV; rfl⟩
noncomputable def SCh : Sums := ⟨(77, mkSum _ vopenS) :: SCg.one, SCg.two, SCg.lo, SCg.eqs, SCg.its, SCg.imm⟩
theorem SCh_ok : SumsOK Try.prog SCh := (SCg_ok.cons Try.func77 (by kernel_rfl) (by kernel_rfl) vopen_ok)
noncomputable def SCi : Sums := ⟨SCh.one, SCh.two, SCh.lo, SCh.eqs, SCh.its, SCh.imm⟩
theorem SCi_ok : SumsOK Try.prog SCi := SCh_ok
end
end Abs
end Go.Proofs.Ytlacopdaibhkkaa

namespace Go.Proofs.Ytlacopdaibhkkaa
namespace Abs
open Go Go.RowKit
noncomputable section
attribute [local irreducible] FnSat
end
end Abs
end Go.Proofs.Ytlacopdaibhkkaa

namespace Go.Proofs.Ytlacopdaibhkkaa
namespace Abs
open Go Go.RowKit
noncomputable section
attribute [local irreducible] FnSat
@[irreducible] def aV (c : Cel) (s : Sta) (x : Int) : Int := if csE c s = 0 then x else 0
@[irreducible] def aE (c : Cel) (s : Sta) (e : Int) : Int := if csE c s = 0 then e else csE c s
def opnS1 : Spec [vwSh] := ⟨fun (v, _) => VwOK v, fun (v, _) => .tup [.si .i64 (opnV (vwC v) (vwS v)), .si .i64 0]⟩
set_option maxRecDepth 100000 in
theorem opn_ok1 : FnSpec Try.prog 76 _ opnS1 := by
 refine FnSpec.of SCi_ok mixed (U := 0) (I := fun _ => []) Try.func76 rfl (by kernel_rfl) rfl rfl (by decide +kernel) ?_
 rintro ⟨v, ⟨⟩⟩ hpre
 obtain ⟨c, s, rfl, h1, h2⟩ := vw_ex (show VwOK v from hpre)
 have e1 := vwC_D c s
 have e2 := vwS_D c s
 unfold FnSat
 conv => arg 2; reduce
 simp [opnS1, vopenS, e1, e2, and_assoc]
 exact vw_ok h1 h2
def rsiS1 : Spec [vwSh] := ⟨fun (v, _) => VwOK v, fun (v, _) => .tup [.si .i64 (rV (vwC v) (vwS v)), .si .i64 0]⟩
set_option maxRecDepth 100000 in
theorem rsi_ok1 : FnSpec Try.prog 78 _ rsiS1 := by
 refine FnSpec.of SCi_ok mixed (U := 0) (I := fun _ => []) Try.func78 rfl (by kernel_rfl) rfl rfl (by decide +kernel) ?_
 rintro ⟨v, ⟨⟩⟩ hpre
 obtain ⟨c, s, rfl, h1, h2⟩ := vw_ex (show VwOK v from hpre)
 have e1 := vwC_D c s
 have e2 := vwS_D c s
 unfold FnSat
 conv => arg 2; reduce
 simp [rsiS1, e1, e2, and_assoc]
noncomputable def SCj : Sums := ⟨(78, mkSum _ rsiS1) :: (76, mkSum _ opnS1) :: SCi.one, SCi.two, SCi.lo, SCi.eqs, SCi.its, SCi.imm⟩
theorem SCj_ok : SumsOK Try.prog SCj := ((SCi_ok.cons Try.func76 (by kernel_rfl) (by kernel_rfl) opn_ok1).cons Try.func78 (by kernel_rfl) (by kernel_rfl) rsi_ok1)
def opnA : Spec [celSh, staSh, .fn 76 [] []] := ⟨fun (c, _) => CelMax (celOf c), fun (c, s, _) => .tup [.si .i64 (aV (celOf c) (staOf s) (opnV (celOf c) (staOf s))), .si .i64 (aE (celOf c) (staOf s) 0)]⟩
set_option maxRecDepth 100000 in
set_option maxHeartbeats 2000000 in
theorem opn_okA : FnSpec Try.prog 75 _ opnA := by
 refine FnSpec.of SCj_ok mixed (U := 0) (I := fun _ => []) Try.func75 rfl (by kernel_rfl) rfl rfl (by decide +kernel) ?_
 rintro ⟨c, s, x, ⟨⟩⟩ hpre
 obtain ⟨c, rfl⟩ := cel_ex c
 obtain ⟨s, rfl⟩ := sta_ex s
 have hpre : CelMax c := by have : CelMax (celOf (celD c)) := hpre; rwa [celOf_D] at this
 have e1 := vwC_D c s
 have e2 := vwS_D c s
 unfold FnSat
 conv => arg 2; reduce
 simp [opnA, cstS, lookF, opnS1, e1, e2, and_assoc]
 refine ⟨hpre, fun h => ⟨by unfold aV; rw [if_neg h], by unfold aE; rw [if_neg h]⟩, fun h => ?_⟩
 have k := csE_iff.1 h
 exact ⟨k.1, k.2, vw_ok k.1 k.2, by unfold aV; rw [if_pos h], by unfold aE; rw [if_pos h]⟩
def rsiA : Spec [celSh, staSh, .fn 78 [] []] := ⟨fun (c, _) => CelMax (celOf c), fun (c, s, _) => .tup [.si .i64 (aV (celOf c) (staOf s) (rV (celOf c) (staOf s))), .si .i64 (aE (celOf c) (staOf s) 0)]⟩
set_option maxRecDepth 100000 in
set_option maxHeartbeats 2000000 in
theorem rsi_okA : FnSpec Try.prog 75 _ rsiA := by
 refine FnSpec.of SCj_ok mixed (U := 0) (I := fun _ => []) Try.func75 rfl (by kernel_rfl) rfl rfl (by decide +kernel) ?_
 rintro ⟨c, s, x, ⟨⟩⟩ hpre
 obtain ⟨c, rfl⟩ := cel_ex c
 obtain ⟨s, rfl⟩ := sta_ex s
 have hpre : CelMax c := by have : CelMax (celOf (celD c)) := hpre; rwa [celOf_D] at this
 have e1 := vwC_D c s
 have e2 := vwS_D c s
 unfold FnSat
 conv => arg 2; reduce
 simp [rsiA, cstS, lookF, rsiS1, e1, e2, and_assoc]
 refine ⟨hpre, fun h => ⟨by unfold aV; rw [if_neg h], by unfold aE; rw [if_neg h]⟩, fun h => ?_⟩
 have k := csE_iff.1 h
 exact ⟨k.1, k.2, vw_ok k.1 k.2, by unfold aV; rw [if_pos h], by unfold aE; rw [if_pos h]⟩
noncomputable def SCk : Sums := ⟨(75, (altSum (mkSum _ opnA) (mkSum _ rsiA))) :: SCj.one, SCj.two, SCj.lo, SCj.eqs, SCj.its, SCj.imm⟩
theorem SCk_ok : SumsOK Try.prog SCk := (SCj_ok.add Try.func75 (by kernel_rfl) (by kernel_rfl) (altSum_ok (mkSum_ok opn_okA) (mkSum_ok rsi_okA)))
def opnS : Spec [celSh, staSh] := ⟨fun (c, _) => CelMax (celOf c), fun (c, s, _) => .tup [.si .i64 (aV (celOf c) (staOf s) (opnV (celOf c) (staOf s))), .si .i64 (aE (celOf c) (staOf s) 0)]⟩
set_option maxRecDepth 100000 in
theorem opn_ok : FnSpec Try.prog 69 _ opnS := by
 refine FnSpec.of SCk_ok mixed (U := 0) (I := fun _ => []) Try.func69 rfl (by kernel_rfl) rfl rfl (by decide +kernel) ?_
 rintro ⟨c, s, ⟨⟩⟩ hpre
 obtain ⟨c, rfl⟩ := cel_ex c
 obtain ⟨s, rfl⟩ := sta_ex s
 have hpre : CelMax c := by have : CelMax (celOf (celD c)) := hpre; rwa [celOf_D] at this
 unfold FnSat
 conv => arg 2; reduce
 simp [opnS, opnA, and_assoc]
 exact hpre
def rsiS : Spec [celSh, staSh] := ⟨fun (c, _) => CelMax (celOf c), fun (c, s, _) => .tup [.si .i64 (aV (celOf c) (staOf s) (rV (celOf c) (staOf s))), .si .i64 (aE (celOf c) (staOf s) 0)]⟩
set_option maxRecDepth 100000 in
theorem rsi_ok : FnSpec Try.prog 70 _ rsiS := by
 refine FnSpec.of SCk_ok mixed (U := 0) (I := fun _ => []) Try.func70 rfl (by kernel_rfl) rfl rfl (by decide +kernel) ?_
 rintro ⟨c, s, ⟨⟩⟩ hpre
 obtain ⟨c, rfl⟩ := cel_ex c
 obtain ⟨s, rfl⟩ := sta_ex s
 have hpre : CelMax c := by have : CelMax (celOf (celD c)) := hpre; rwa [celOf_D] at this
 unfold FnSat
 conv => arg 2; reduce
 simp [rsiS, rsiA, and_assoc]
 exact hpre
noncomputable def SCl : Sums := ⟨(70, mkSum _ rsiS) :: (69, mkSum _ opnS) :: SCk.one, SCk.two, SCk.lo, SCk.eqs, SCk.its, SCk.imm⟩
theorem SCl_ok : SumsOK Try.prog SCl := ((SCk_ok.cons Try.func69 (by kernel_rfl) (by kernel_rfl) opn_ok).cons Try.func70 (by kernel_rfl) (by kernel_rfl) rsi_ok)
end
end Abs
end Go.Proofs.Ytlacopdaibhkkaa

namespace Go.Proofs.Ytlacopdaibhkkaa
namespace Abs
open Go Go.RowKit
noncomputable section
attribute [local irreducible] FnSat
noncomputable def SCm : Sums := ⟨SCl.one, SCl.two, SCl.lo, SCl.eqs, SCl.its, SCl.imm⟩
theorem SCm_ok : SumsOK Try.prog SCm := SCl_ok
noncomputable def SCn : Sums := ⟨SCm.one, SCm.two, SCm.lo, SCm.eqs, SCm.its, SCm.imm⟩
theorem SCn_ok : SumsOK Try.prog SCn := SCm_ok
noncomputable def SCo : Sums := ⟨SCn.one, SCn.two, SCn.lo, SCn.eqs, SCn.its, SCn.imm⟩
theorem SCo_ok : SumsOK Try.prog SCo := SCn_ok
noncomputable def SCp : Sums := ⟨SCo.one, SCo.two, SCo.lo, SCo.eqs, SCo.its, SCo.imm⟩
theorem SCp_ok : SumsOK Try.prog SCp := SCo_ok
end
end Abs
end Go.Proofs.Ytlacopdaibhkkaa

namespace Go.Proofs.Ytlacopdaibhkkaa
namespace Abs
open Go Go.RowKit
noncomputable section
attribute [local irreducible] FnSat
noncomputable def SCq : Sums := ⟨SCp.one, SCp.two, SCp.lo, SCp.eqs, SCp.its, SCp.imm⟩
theorem SCq_ok : SumsOK Try.prog SCq := SCp_ok
noncomputable def SCr : Sums := ⟨SCq.one, SCq.two, SCq.lo, SCq.eqs, SCq.its, SCq.imm⟩
theorem SCr_ok : SumsOK Try.prog SCr := SCq_ok
noncomputable def SCs : Sums := ⟨SCr.one, SCr.two, SCr.lo, SCr.eqs, SCr.its, SCr.imm⟩
theorem SCs_ok : SumsOK Try.prog SCs := SCr_ok
noncomputable def SCt : Sums := ⟨SCs.one, SCs.two, SCs.lo, SCs.eqs, SCs.its, SCs.imm⟩
theorem SCt_ok : SumsOK Try.prog SCt := SCs_ok
end
end Abs
end Go.Proofs.Ytlacopdaibhkkaa

namespace Go.Proofs.Ytlacopdaibhkkaa
namespace Abs
open Go Go.RowKit
noncomputable section
attribute [local irreducible] FnSat
noncomputable def SCv : Sums := ⟨SCt.one, SCt.two, SCt.lo, SCt.eqs, SCt.its, SCt.imm⟩
theorem SCv_ok : SumsOK Try.prog SCv := SCt_ok
noncomputable def SCw : Sums := ⟨SCv.one, SCv.two, SCv.lo, SCv.eqs, SCv.its, SCv.imm⟩
theorem SCw_ok : SumsOK Try.prog SCw := SCv_ok
noncomputable def SCx : Sums := ⟨SCw.one, SCw.two, SCw.lo, SCw.eqs, SCw.its, SCw.imm⟩
theorem SCx_ok : SumsOK Try.prog SCx := SCw_ok
noncomputable def SCz : Sums := ⟨SCx.one, SCx.two, SCx.lo, SCx.eqs, SCx.its, SCx.imm⟩
theorem SCz_ok : SumsOK Try.prog SCz := SCx_ok
end
end Abs
end Go.Proofs.Ytlacopdaibhkkaa

namespace Go.Proofs.Ytlacopdaibhkkaa
namespace Abs
open Go Go.RowKit
noncomputable section
attribute [local irreducible] FnSat
noncomputable def SCs0 : Sums := ⟨SCz.one, SCz.two, SCz.lo, SCz.eqs, SCz.its, SCz.imm⟩
theorem SCs0_ok : SumsOK Try.prog SCs0 := SCz_ok
theorem aV_no {c : Cel} {s : Sta} {x : Int} (h : ¬csE c s = 0) : aV c s x = 0 := by unfold aV; rw [if_neg h]
theorem aV_yes {c : Cel} {s : Sta} {x : Int} (h : csE c s = 0) : aV c s x = x := by unfold aV; rw [if_pos h]
theorem aE_no {c : Cel} {s : Sta} {x : Int} (h : ¬csE c s = 0) : aE c s x = csE c s := by unfold aE; rw [if_neg h]
theorem aE_yes {c : Cel} {s : Sta} {x : Int} (h : csE c s = 0) : aE c s x = x := by unfold aE; rw [if_pos h]
noncomputable def SCs1 : Sums := ⟨SCs0.one, SCs0.two, SCs0.lo, SCs0.eqs, SCs0.its, SCs0.imm⟩
theorem SCs1_ok : SumsOK Try.prog SCs1 := SCs0_ok
noncomputable def SCs2 : Sums := ⟨SCs1.one, SCs1.two, SCs1.lo, SCs1.eqs, SCs1.its, SCs1.imm⟩
theorem SCs2_ok : SumsOK Try.prog SCs2 := SCs1_ok
noncomputable def SCst : Sums := ⟨SCs2.one, SCs2.two, SCs2.lo, SCs2.eqs, SCs2.its, SCs2.imm⟩
theorem SCst_ok : SumsOK Try.prog SCst := SCs2_ok
end
end Abs
end Go.Proofs.Ytlacopdaibhkkaa

namespace Go.Proofs.Ytlacopdaibhkkaa
namespace Abs
open Go Go.RowKit
noncomputable section
attribute [local irreducible] FnSat
theorem Fn.res {P : Program} {f : FuncId} {args : List AV} {H H' : Heap} {r r' : AV} (h : Fn P f args H r H') (hr : ∀ (C : Cx) (w : World) (v : Value), Rel C w r v -> Rel C w r' v) : Fn P f args H r' H' :=
 fun C w vs h0 h1 h2 => (h C w vs h0 h1 h2).mono fun e w' ⟨v, C', he, h3, h4, h5⟩ => ⟨v, C', he, h3, hr _ _ _ h4, h5⟩
structure Two (c : Crv) (a b u v : Int) : Prop where
 nx : c.nx = 2
 ny : c.ny = 2
 x0 : c.x 0 = a
 x1 : c.x 1 = b
 y0 : c.y 0 = u
 y1 : c.y 1 = v
theorem Two.val {c : Crv} {a b u v x : Int} (h : Two c a b u v) (hc : crB c = true) (h0 : a <= x) (h1 : x < b) : valL c x = u + (x - a) * (v - u) / (b - a) := by
 have hs : sgI c x = 0 := sgI_uniq hc (by rw [h.nx]; decide) (by rw [h.x0]; exact h0) (by rw [h.x1]; exact h1)
 unfold valL
 rw [h.nx]
 show (if c.x 1 <= x then _ else _) = _
 rw [h.x1, h.x0, if_neg (by omega), if_neg (by omega), hs]
 unfold pcL
 rw [h.x0, h.x1, h.y0, h.y1]
noncomputable def SCex : Sums := ⟨SCst.one, SCst.two, SCst.lo, SCst.eqs, SCst.its, SCst.imm⟩
theorem SCex_ok : SumsOK Try.prog SCex := SCst_ok
@[reducible] def st5 : List (Option IntKind) := [some .i64, some .i64, some .i64, some .i64, some .i64]
@[reducible] def sp2 : List (Option IntKind) := [some .i64, some .i64]
def eqsC : List (Nat × List (Option IntKind)) := [(48, st5), (153, sp2)]
theorem eqsC_ok : ∀ t ks, findS eqsC t = some ks -> EqOK Try.prog t ks := by
 intro t ks h
 unfold eqsC at h
 simp only [findS] at h
 split at h
 ·rename_i e
  obtain rfl := Nat.eq_of_beq_eq_true e
  injection h with h; subst h
  exact EqOK.of 3 (by decide) (by kernel_rfl) (by kernel_rfl) (by kernel_rfl)
 ·first
  | cases h; done
  | split at h
    ·rename_i e
     obtain rfl := Nat.eq_of_beq_eq_true e
     injection h with h; subst h
     exact EqOK.of 3 (by decide) (by kernel_rfl) (by kernel_rfl) (by kernel_rfl)
    ·cases h
noncomputable def SCeq : Sums := ⟨SCex.one, SCex.two, SCex.lo, eqsC, SCex.its, SCex.imm⟩
theorem SCeq_ok : SumsOK Try.prog SCeq := SCex_ok.setEqs eqsC_ok
noncomputable def SCkn : Sums := ⟨SCeq.one, SCeq.two, SCeq.lo, SCeq.eqs, SCeq.its, SCeq.imm⟩
theorem SCkn_ok : SumsOK Try.prog SCkn := SCeq_ok
end
end Abs
end Go.Proofs.Ytlacopdaibhkkaa

namespace Go.Proofs.Ytlacopdaibhkkaa
namespace Abs
open Go Go.RowKit
noncomputable section
attribute [local irreducible] FnSat
noncomputable def SVa : Sums := SCkn
theorem SVa_ok : SumsOK Try.prog SVa := SCkn_ok
noncomputable def SVb : Sums := ⟨SVa.one, SVa.two, SVa.lo, SVa.eqs, SVa.its, SVa.imm⟩
theorem SVb_ok : SumsOK Try.prog SVb := SVa_ok
end
end Abs
end Go.Proofs.Ytlacopdaibhkkaa

namespace Go.Proofs.Ytlacopdaibhkkaa
namespace Abs
open Go Go.RowKit
noncomputable section
attribute [local irreducible] FnSat
set_option maxRecDepth 100000 in
theorem floor_ok : FnSpec Try.prog 57 _ divS := by
 refine FnSpec.of SVb_ok mixed (U := 0) (I := fun _ => []) Try.func57 rfl (by kernel_rfl) rfl rfl (by decide +kernel) ?_
 rintro ⟨(n : Int), (d : Int), ⟨⟩⟩ ⟨(h1 : -4611686018427387904 <= n), (h2 : n <= 4611686018427387904), (h3 : 1 <= d)⟩
 unfold FnSat
 conv => arg 2; reduce
 simp [divS, and_assoc]
 exact dvI_by h1 h2 h3
set_option maxRecDepth 100000 in
theorem into_ok : FnSpec Try.prog 58 _ clipS := by
 refine FnSpec.of SVb_ok mixed (U := 0) (I := fun _ => []) Try.func58 rfl (by kernel_rfl) rfl rfl (by decide +kernel) ?_
 rintro ⟨(x : Int), (lo : Int), (hi : Int), ⟨⟩⟩ -
 unfold FnSat
 conv => arg 2; reduce
 simp [clipS, clipV]
set_option maxRecDepth 100000 in
theorem within_ok : FnSpec Try.prog 55 _ betS := by
 refine FnSpec.of SVb_ok mixed (U := 0) (I := fun _ => []) Try.func55 rfl (by kernel_rfl) rfl rfl (by decide +kernel) ?_
 rintro ⟨(x : Int), (lo : Int), (hi : Int), ⟨⟩⟩ -
 unfold FnSat
 conv => arg 2; reduce
 simp [betS, isIn]
set_option maxRecDepth 100000 in
theorem ris_ok : FnSpec Try.prog 85 _ isS := by
 refine FnSpec.of SVb_ok mixed (U := 0) (I := fun _ => []) Try.func85 rfl (by kernel_rfl) rfl rfl (by decide +kernel) ?_
 rintro ⟨(x : Int), ⟨⟩⟩ -
 unfold FnSat
 conv => arg 2; reduce
 simp [isS, isQ]
noncomputable def SRa : Sums := ⟨(85, mkSum _ isS) :: (55, mkSum _ betS) :: (58, mkSum _ clipS) :: (57, mkSum _ divS) :: SVb.one, SVb.two, SVb.lo, SVb.eqs, SVb.its, SVb.imm⟩
theorem SRa_ok : SumsOK Try.prog SRa := ((((SVb_ok.cons Try.func57 (by kernel_rfl) (by kernel_rfl) floor_ok).cons Try.func58 (by kernel_rfl) (by kernel_rfl) into_ok).cons Try.func55 (by kernel_rfl) (by kernel_rfl) within_ok).cons Try.func85 (by kernel_rfl) (by kernel_rfl) ris_ok)
def rcrI : DatL [crvSh] -> Anns := fun (c, _) => [
 (6, [], fun fr hp => ⟨Nat, fun g => ⟨frI [.k 3, .s (.si .i64 (icast g)), .k 23, .t 55] fr, hp⟩, Nat × Crv, fun g => (g, crvOf c), fun (g, c) => g <= c.nx /\ (∀ j, j < g -> isQ (c.x j) = true /\ isQ (c.y j) = true) /\ ∀ j, j + 1 < g -> c.x j < c.x (j + 1) /\ c.y j <= c.y (j + 1), fun g => nsub c.1.1 g⟩)]
set_option maxRecDepth 100000 in
theorem rcr_ok : FnSpec Try.prog 79 _ crS := by
 refine FnSpec.of SRa_ok mixed (U := 0) (I := rcrI) Try.func79 rfl (by kernel_rfl) rfl rfl (by decide +kernel) ?_
 rintro ⟨c, ⟨⟩⟩ hpre
 obtain ⟨c, rfl⟩ := crv_ex c
 have hpre : c.nx <= maxLen /\ c.ny <= maxLen := hpre
 obtain ⟨p1, p2⟩ := hpre
 unfold FnSat
 conv => arg 2; reduce
 simp [crS, isS, ElEq, getB, goneB, aliveB, and_assoc]
 have bad : (crB c = true -> False) -> c.nx <= 64 -> c.ny <= 64 -> 2 = crE c := fun h h1 h2 => by unfold crE; rw [if_neg (by omega), if_neg (fun hb => h hb)]
 refine ⟨fun h => by unfold crE; rw [if_pos (by omega)], fun n1 n2 => ⟨fun h => bad (fun hb => ?_) (by omega) (by omega), fun h1 h2 => ⟨⟨0, rfl, by omega, fun j hj => by omega, fun j hj => by omega⟩, fun g hg hq hf => ⟨fun hlt => ⟨hlt, fun _ => by omega, fun _ _ _ => hlt, fun _ _ _ => by omega, fun _ _ _ => by omega, fun _ _ _ _ => by omega, fun _ _ _ _ => by omega, fun _ _ _ _ => by omega, fun a b c d => ⟨a, b, c, d⟩, fun a b c => ⟨a, b, c⟩, fun h => bad (fun hb => ?_) (by omega) (by omega), fun a1 a2 a3 => ⟨by omega, by omega, g + 1, by omega, by omega, fun j hj => ?_, fun j hj => ?_, by omega⟩⟩, fun hge => ?_⟩⟩⟩⟩
 ·have := crB_iff.1 hb; omega
 ·have hb := crB_iff.1 hb
  rcases h with (h | h) | ⟨h0, h⟩
  ·rw [(hb.2.2.2.1 g hlt).1] at h; cases h
  ·rw [(hb.2.2.2.1 g hlt).2] at h; cases h
  ·have := hb.2.2.2.2 (g - 1) (by omega)
   rw [show g - 1 + 1 = g by omega] at this
   omega
 ·by_cases h' : j < g
  ·exact hq j h'
  ·obtain rfl : j = g := by omega
   exact ⟨a1, a2⟩
 ·by_cases h' : j + 1 < g
  ·exact hf j h'
  ·have := a3 (by omega)
   rw [show j = g - 1 by omega, show g - 1 + 1 = g by omega]
   exact this
 ·exact (crE_iff.2 (crB_iff.2 ⟨by omega, by omega, by omega, fun k hk => hq k (by omega), fun k hk => hf k (by omega)⟩)).symm
noncomputable def SRb : Sums := ⟨(79, mkSum _ crS) :: SRa.one, SRa.two, SRa.lo, SRa.eqs, SRa.its, SRa.imm⟩
theorem SRb_ok : SumsOK Try.prog SRb := (SRa_ok.cons Try.func79 (by kernel_rfl) (by kernel_rfl) rcr_ok)
set_option maxRecDepth 100000 in
theorem rscale_ok : FnSpec Try.prog 71 _ scaleS := by
 refine FnSpec.of SRb_ok mixed (U := 0) (I := fun _ => []) Try.func71 rfl (by kernel_rfl) rfl rfl (by decide +kernel) ?_
 rintro ⟨c, (last : Int), (most : Int), ⟨⟩⟩ hpre
 obtain ⟨c, rfl⟩ := crv_ex c
 have hpre : c.nx <= maxLen /\ c.ny <= maxLen := hpre
 obtain ⟨p1, p2⟩ := hpre
 unfold FnSat
 conv => arg 2; reduce
 simp [scaleS, crS, and_assoc]
 refine ⟨p1, p2, fun h => ?_, fun h => ?_⟩
 ·have hb : crB c = false := by
   cases hb : crB c with
   | false => rfl
   | true => exact absurd (crE_iff.2 hb) h
  unfold scB; rw [hb]; simp
 ·have hb : crB c = true := crE_iff.1 h
  have h1 := crB_iff.1 hb
  unfold maxLen at p1 p2
  refine ⟨by omega, fun _ => by omega, fun _ => by omega, fun _ _ => by omega, fun _ _ _ => by omega, fun _ _ _ => by omega, ?_⟩
  unfold scB
  rw [Bool.eq_iff_iff]
  simp [hb]
def rvalS : Spec [crvSh, .int .i64] := ⟨fun (c, (x : Int), _) => (crB (crvOf c) = true /\ (crvOf c).x 0 = 0 /\ (crvOf c).x ((crvOf c).nx - 1) <= 400000 /\ 0 <= (crvOf c).y 0 /\ (crvOf c).y ((crvOf c).nx - 1) <= 8388608) /\ -1099511627776 <= x /\ x <= 1099511627776, fun (c, (x : Int), _) => .si .i64 (valL (crvOf c) x)⟩
def rvalI : DatL [crvSh, .int .i64] -> Anns := fun (c, (x : Int), _) => [
 (7, [], fun fr hp => ⟨Nat, fun g => ⟨frI [.k 6, .s (.si .i64 (icast g)), .k 27, .t 10, .k 39] fr, hp⟩, Nat × Crv × Int, fun g => (g, crvOf c, x), fun (g, c, x) => g + 1 < c.nx /\ c.x g <= x, fun g => nsub c.1.1 g⟩)]
set_option maxRecDepth 100000 in
theorem rval_ok : FnSpec Try.prog 56 _ rvalS := by
 refine FnSpec.of SRb_ok mixed (U := 0) (I := rvalI) Try.func56 rfl (by kernel_rfl) rfl rfl (by decide +kernel) ?_
 rintro ⟨c, (x : Int), ⟨⟩⟩ hpre
 obtain ⟨c, rfl⟩ := crv_ex c
 have hpre : (crB c = true /\ c.x 0 = 0 /\ c.x (c.nx - 1) <= 400000 /\ 0 <= c.y 0 /\ c.y (c.nx - 1) <= 8388608) /\ -1099511627776 <= x /\ x <= 1099511627776 := by
  have h : (crB (crvOf (crvD c)) = true /\ (crvOf (crvD c)).x 0 = 0 /\ (crvOf (crvD c)).x ((crvOf (crvD c)).nx - 1) <= 400000 /\ 0 <= (crvOf (crvD c)).y 0 /\ (crvOf (crvD c)).y ((crvOf (crvD c)).nx - 1) <= 8388608) /\ -1099511627776 <= x /\ x <= 1099511627776 := hpre
  rwa [show crvOf (crvD c) = c from crvOf_mk c] at h
 obtain ⟨⟨hc, hx0, hxn, hy0, hyn⟩, x1, x2⟩ := hpre
 unfold FnSat
 conv => arg 2; reduce
 simp [rvalS, divS, and_assoc]
 have hb := crB_iff.1 hc
 have vlo : x <= c.x 0 -> c.y 0 = valL c x := fun h => by
  have hx := crv_x hc (j := c.nx - 1) (i := 0) (by omega) (by omega)
  unfold valL
  rw [if_neg (by omega)]
  split
  ·rfl
  ·have e : x = c.x 0 := by omega
   have h2 := crv_x hc (j := 1) (i := 0) (by omega) (by omega)
   rw [sgI_uniq hc (i := 0) (by omega) (by omega) (by show x < c.x 1; omega)]
   unfold pcL
   rw [e, Int.sub_self, Int.zero_mul, Int.zero_ediv, Int.add_zero]
 refine ⟨by omega, fun h => ⟨by omega, vlo h⟩, fun h => ⟨by omega, by omega, by omega, by omega, fun h2 => ⟨by omega, by omega, by omega, by omega, ?_⟩, fun h2 => ⟨⟨0, rfl, by omega, by omega⟩, fun g hg hx => ?_⟩⟩⟩
 ·unfold valL; rw [if_pos h2]
 ·have gx := hb.2.2.2.2 g hg
  have x0 := crv_x hc (j := g) (i := 0) (by omega) (by omega)
  have x3 := crv_x hc (j := c.nx - 1) (i := g + 1) (by omega) (by omega)
  have y0' := crv_y hc (j := g) (i := 0) (by omega) (by omega)
  have y3 := crv_y hc (j := c.nx - 1) (i := g + 1) (by omega) (by omega)
  refine ⟨by omega, by omega, by omega, by omega, fun h3 => ⟨by omega, by omega, g + 1, by omega, by have hne : g + 1 ≠ c.nx - 1 := (fun e => by rw [e] at h3; omega); omega, h3, by omega⟩, fun h3 => ?_⟩
  have m := mul_in (a := x - c.x g) (b := c.y (g + 1) - c.y g) (A := 400000) (B := 8388608) (by omega) (by omega) (by omega) (by omega)
  have pc := pc_in hc hg hx (by omega)
  have e : c.y g + dvI ((x - c.x g) * (c.y (g + 1) - c.y g)) (c.x (g + 1) - c.x g) = pcL c g x := by unfold pcL dvI; rfl
  have e2 : pcL c g x = valL c x := by
   unfold valL
   rw [if_neg (by omega), if_neg (by omega), sgI_uniq hc hg hx h3]
  rw [e]
  exact ⟨by omega, by omega, by omega, by omega, by omega, by omega, by omega, by omega, by omega, by omega, by omega, by omega, by omega, by omega, by omega, by omega, by omega, by omega, by omega, by omega, by omega, by omega, by omega, by omega, by omega, e2⟩
def rwearS : Spec [celSh, .int .i64, .int .i64] := ⟨fun (c, (t : Int), (a : Int), _) => WearOK (celOf c) t a, fun (c, (t : Int), (a : Int), _) => .si .i64 (wearV (celOf c) t a)⟩
set_option maxRecDepth 100000 in
theorem rwear_ok : FnSpec Try.prog 33 _ rwearS := by
 refine FnSpec.of SRb_ok mixed (U := 0) (I := fun _ => []) Try.func33 rfl (by kernel_rfl) rfl rfl (by decide +kernel) ?_
 rintro ⟨c, (t : Int), (a : Int), ⟨⟩⟩ hpre
 obtain ⟨c, rfl⟩ := cel_ex c
 have hpre : WearOK c t a := by have : WearOK (celOf (celD c)) t a := hpre; rwa [celOf_D] at this
 unfold FnSat
 conv => arg 2; reduce
 simp [rwearS, divS, and_assoc]
 have h1 := mul_in hpre.t0 hpre.t1 hpre.c0 hpre.c1
 have h2 := mul_in hpre.g0 hpre.g1 hpre.a0 hpre.a1
 have h3 := wearV_in hpre
 have e : dvI (t * c.cyc) 1073741824 + dvI (a * c.agel) 1073741824 = wearV c t a := by unfold wearV; rfl
 rw [e]
 omega
noncomputable def SRc : Sums := ⟨(33, mkSum _ rwearS) :: (56, mkSum _ rvalS) :: (71, mkSum _ scaleS) :: SRb.one, SRb.two, SRb.lo, SRb.eqs, SRb.its, SRb.imm⟩
theorem SRc_ok : SumsOK Try.prog SRc := (((SRb_ok.cons Try.func71 (by kernel_rfl) (by kernel_rfl) rscale_ok).cons Try.func56 (by kernel_rfl) (by kernel_rfl) rval_ok).cons Try.func33 (by kernel_rfl) (by kernel_rfl) rwear_ok)
def rcapS : Spec [celSh, staSh] := ⟨fun (c, s, _) => WearOK (celOf c) (staOf s).th (staOf s).ag /\ 0 <= (celOf c).cap /\ (celOf c).cap <= 4294967296, fun (c, s, _) => .si .i64 (roomV (celOf c) (wearV (celOf c) (staOf s).th (staOf s).ag))⟩
set_option maxRecDepth 100000 in
theorem rcap_ok : FnSpec Try.prog 31 _ rcapS := by
 refine FnSpec.of SRc_ok mixed (U := 0) (I := fun _ => []) Try.func31 rfl (by kernel_rfl) rfl rfl (by decide +kernel) ?_
 rintro ⟨c, s, ⟨⟩⟩ hpre
 obtain ⟨c, rfl⟩ := cel_ex c
 obtain ⟨s, rfl⟩ := sta_ex s
 have hpre : WearOK c s.th s.ag /\ 0 <= c.cap /\ c.cap <= 4294967296 := by have : WearOK (celOf (celD c)) (staOf (staD s)).th (staOf (staD s)).ag /\ 0 <= (celOf (celD c)).cap /\ (celOf (celD c)).cap <= 4294967296 := hpre; rwa [celOf_D, staOf_D] at this
 obtain ⟨hw, c0, c1⟩ := hpre
 unfold FnSat
 conv => arg 2; reduce
 simp [rcapS, rwearS, and_assoc]
 have := wearV_in hw
 unfold roomV
 exact ⟨hw, by omega, by omega, rfl⟩
set_option maxRecDepth 100000 in
set_option maxHeartbeats 4000000 in
theorem rcheck_ok : FnSpec Try.prog 54 _ ccheckS := by
 refine FnSpec.of SRc_ok mixed (U := 0) (I := fun _ => []) Try.func54 rfl (by kernel_rfl) rfl rfl (by decide +kernel) ?_
 rintro ⟨c, ⟨⟩⟩ hpre
 obtain ⟨c, rfl⟩ := cel_ex c
 have hpre : CelMax c := by have : CelMax (celOf (celD c)) := hpre; rwa [celOf_D] at this
 obtain ⟨p1, p2, p3, p4, p5, p6⟩ := hpre
 unfold FnSat
 conv => arg 2; reduce
 simp [ccheckS, betS, scaleS, and_assoc]
 have no : (CelOK c -> False) -> 2 = errA (celB c) := fun h => by rw [celB_no h]; simp [errA]
 refine ⟨fun _ _ => ⟨p1, p2⟩, fun _ _ _ => ⟨p3, p4⟩, fun _ _ _ _ => ⟨p5, p6⟩, fun h => no fun k => ?_, fun q0 q1 h1 h2 h3 => ⟨fun h => no fun k => ?_, fun q2 q3 q4 q5 q6 q7 q8 q9 q10 q11 q12 q13 q14 q15 => ⟨fun h => no fun k => ?_, fun q16 q17 q18 q19 q20 q21 => ?_⟩⟩⟩
 ·have := k.cap0
  have := k.cap1
  rcases h with (((h | h) | h) | h) | h
  ·omega
  ·omega
  ·rw [k.ocv] at h; cases h
  ·rw [k.cold] at h; cases h
  ·rw [k.stress] at h; cases h
 ·have := k.sh0
  have := k.sh1
  have := k.ex0
  have := k.ex1
  have := k.pr0
  have := k.pr1
  have := k.lk0
  have := k.lk1
  have := k.kp0
  have := k.kp1
  have := k.co0
  have := k.co1
  have := k.hc0
  have := k.hc1
  omega
 ·have := k.cy0
  have := k.cy1
  have := k.al0
  have := k.al1
  have := k.gr0
  have := k.gr1
  omega
 ·rw [celB_iff.2 ⟨q0, q1, q2, q3, q4, q5, q6, q7, q8, q9, q10, q11, q12, q13, q14, q15, q16, q17, q18, q19, q20, q21, h1, h2, h3⟩]; simp [errA]
noncomputable def SRd : Sums := ⟨(54, mkSum _ ccheckS) :: (31, mkSum _ rcapS) :: SRc.one, SRc.two, SRc.lo, SRc.eqs, SRc.its, SRc.imm⟩
theorem SRd_ok : SumsOK Try.prog SRd := ((SRc_ok.cons Try.func31 (by kernel_rfl) (by kernel_rfl) rcap_ok).cons Try.func54 (by kernel_rfl) (by kernel_rfl) rcheck_ok)
set_option maxRecDepth 100000 in
set_option maxHeartbeats 4000000 in
theorem rcst_ok : FnSpec Try.prog 28 _ cstS := by
 refine FnSpec.of SRd_ok mixed (U := 0) (I := fun _ => []) Try.func28 rfl (by kernel_rfl) rfl rfl (by decide +kernel) ?_
 rintro ⟨c, s, ⟨⟩⟩ hpre
 obtain ⟨c, rfl⟩ := cel_ex c
 obtain ⟨s, rfl⟩ := sta_ex s
 have hpre : CelMax c := by have : CelMax (celOf (celD c)) := hpre; rwa [celOf_D] at this
 unfold FnSat
 conv => arg 2; reduce
 simp [cstS, betS, ccheckS, rcapS, and_assoc]
 refine ⟨hpre, fun h => (csE_2 h).symm, fun h => ⟨fun t0 t1 h0 h1 a0 a1 r0 r1 => ?_, fun h' => (csE_3 h fun k => ?_).symm, fun t0 t1 h0 h1 a0 a1 r0 r1 q0 q1 => (csE_0 h ⟨t0, t1, h0, h1, a0, a1, r0, r1, q0, q1⟩).symm⟩⟩
 ·have hc := celB_iff.1 h
  exact ⟨⟨hc.cy0, hc.cy1, hc.al0, hc.al1, h0, by omega, a0, by omega⟩, by have := hc.cap0; omega, hc.cap1⟩
 ·have := k.t0
  have := k.t1
  have := k.h0
  have := k.h1
  have := k.a0
  have := k.a1
  have := k.r0
  have := k.r1
  have := k.q0
  have := k.q1
  omega
noncomputable def SRe : Sums := ⟨(28, mkSum _ cstS) :: SRd.one, SRd.two, SRd.lo, SRd.eqs, SRd.its, SRd.imm⟩
theorem SRe_ok : SumsOK Try.prog SRe := (SRd_ok.cons Try.func28 (by kernel_rfl) (by kernel_rfl) rcst_ok)
end
end Abs
end Go.Proofs.Ytlacopdaibhkkaa

namespace Go.Proofs.Ytlacopdaibhkkaa
namespace Abs
open Go Go.RowKit
noncomputable section
structure Pk where
 n : Nat
 m : Nat -> Nat
 c : Nat -> Nat -> Cel
@[irreducible] def Pk.len (p : Pk) : Nat := p.n
@[irreducible] def Pk.sz (p : Pk) : Nat -> Nat := p.m
@[irreducible] def Pk.at (p : Pk) : Nat -> Nat -> Cel := p.c
@[reducible] def grpSh : Sh := .slice 17 celCells
@[reducible] def pkSh : Sh := .agg [.slice 1 [grpSh]]
abbrev PkD := (Nat × (Nat -> (Nat × (Nat -> CelD)) × Unit)) × Unit
@[irreducible] def pkOf (x : PkD) : Pk := ⟨x.1.1, fun i => (x.1.2 i).1.1, fun i k => celOf ((x.1.2 i).1.2 k)⟩
@[reducible] def pkD (p : Pk) : PkD := ((p.len, fun i => ((p.sz i, fun k => celD (p.at i k)), ())), ())
@[simp] theorem pkOf_D (p : Pk) : pkOf (pkD p) = p := by
 unfold pkOf pkD Pk.len Pk.sz Pk.at
 simp only [celOf_D]
theorem cel_D (x : CelD) : celD (celOf x) = x := by
 obtain ⟨c, rfl⟩ := cel_ex x
 rw [celOf_D]
theorem pk_ex (x : Dat pkSh) : ∃ p : Pk, x = pkD p := ⟨pkOf x, by
 unfold pkD pkOf Pk.len Pk.sz Pk.at
 obtain ⟨⟨n, f⟩, ⟨⟩⟩ := x
 simp only [cel_D]⟩
structure Sx where
 n : Nat
 m : Nat -> Nat
 s : Nat -> Nat -> Sta
@[irreducible] def Sx.len (p : Sx) : Nat := p.n
@[irreducible] def Sx.sz (p : Sx) : Nat -> Nat := p.m
@[irreducible] def Sx.at (p : Sx) : Nat -> Nat -> Sta := p.s
@[reducible] def stgSh : Sh := .slice 5 staCells
@[reducible] def sxSh : Sh := .slice 1 [stgSh]
abbrev SxD := Nat × (Nat -> (Nat × (Nat -> StaD)) × Unit)
@[irreducible] def sxOf (x : SxD) : Sx := ⟨x.1, fun i => (x.2 i).1.1, fun i k => staOf ((x.2 i).1.2 k)⟩
@[reducible] def sxD (p : Sx) : SxD := (p.len, fun i => ((p.sz i, fun k => staD (p.at i k)), ()))
@[simp] theorem sxOf_D (p : Sx) : sxOf (sxD p) = p := by
 unfold sxOf sxD Sx.len Sx.sz Sx.at
 simp only [staOf_D]
theorem sta_D (x : StaD) : staD (staOf x) = x := by
 obtain ⟨c, rfl⟩ := sta_ex x
 rw [staOf_D]
theorem sx_ex (x : Dat sxSh) : ∃ p : Sx, x = sxD p := ⟨sxOf x, by
 unfold sxD sxOf Sx.len Sx.sz Sx.at
 obtain ⟨n, f⟩ := x
 simp only [sta_D]⟩
@[irreducible] def ferB (e : Nat -> Int) (k : Nat) : Bool := !(decide (e k = 0))
theorem ferB_f {e : Nat -> Int} {k : Nat} : ferB e k = false ↔ e k = 0 := by unfold ferB; simp
theorem ferB_t {e : Nat -> Int} {k : Nat} : ferB e k = true ↔ e k ≠ 0 := by unfold ferB; simp
@[irreducible] def ferE (e : Nat -> Int) (n : Nat) : Int := if firstN (ferB e) n < n then e (firstN (ferB e) n) else 0
theorem ferE_at {e : Nat -> Int} {n k : Nat} (hk : k < n) (h : ∀ j, j < k -> ferB e j = false) (h2 : e k ≠ 0) : ferE e n = e k := by
 have hf : firstN (ferB e) n = k := firstN_uniq (by omega) h fun _ => ferB_t.2 h2
 unfold ferE; rw [hf, if_pos hk]
theorem ferE_no {e : Nat -> Int} {n : Nat} (h : ∀ j, j < n -> ferB e j = false) : ferE e n = 0 := by
 have hf : firstN (ferB e) n = n := firstN_uniq (Nat.le_refl _) h fun hh => absurd hh (by omega)
 unfold ferE; rw [hf, if_neg (by omega)]
theorem ferE_0 {e : Nat -> Int} {n : Nat} : ferE e n = 0 ↔ ∀ j, j < n -> e j = 0 := by
 constructor
 ·intro h j hj
  have hle := firstN_le (ferB e) n
  by_cases hf : firstN (ferB e) n < n
  ·have h1 := ferB_t.1 (firstN_is _ n hf)
   unfold ferE at h
   rw [if_pos hf] at h
   exact absurd h h1
  ·exact ferB_f.1 (firstN_not (ferB e) n j (by omega))
 ·intro h
  exact ferE_no fun j hj => ferB_f.2 (h j hj)
@[irreducible] def cebB (c : Nat -> Cel) (k : Nat) : Bool := !(celB (c k))
theorem cebB_f {c : Nat -> Cel} {k : Nat} : cebB c k = false ↔ celB (c k) = true := by unfold cebB; simp
theorem cebB_t {c : Nat -> Cel} {k : Nat} : cebB c k = true ↔ celB (c k) = false := by unfold cebB; simp
@[irreducible] def gcE (m : Nat) (c : Nat -> Cel) : Int := if m < 1 \/ 4 < m then 6 else if anyN (cebB c) m = true then 2 else 0
theorem gcE_6 {m : Nat} {c : Nat -> Cel} (h : m < 1 \/ 4 < m) : gcE m c = 6 := by unfold gcE; rw [if_pos h]
theorem gcE_2 {m k : Nat} {c : Nat -> Cel} (h1 : 1 <= m) (h4 : m <= 4) (hk : k < m) (h : celB (c k) = false) : gcE m c = 2 := by
 unfold gcE; rw [if_neg (by omega), if_pos (anyN_iff.2 ⟨k, hk, cebB_t.2 h⟩)]
theorem gcE_0 {m : Nat} {c : Nat -> Cel} : gcE m c = 0 ↔ (1 <= m /\ m <= 4) /\ ∀ k, k < m -> celB (c k) = true := by
 unfold gcE
 split
 ·constructor
  ·intro h; omega
  ·rintro ⟨h1, _⟩; omega
 ·rename_i h
  cases ha : anyN (cebB c) m with
  | true =>
    obtain ⟨k, hk, hp⟩ := anyN_iff.1 ha
    simp only [if_true]
    constructor
    ·intro h; omega
    ·rintro ⟨_, h3⟩
     have := cebB_t.1 hp
     rw [h3 k hk] at this; cases this
  | false =>
    simp only [Bool.false_eq_true, if_false, true_iff]
    exact ⟨by omega, fun k hk => cebB_f.1 (anyN_false.1 ha k hk)⟩
@[irreducible] def pgE (p : Pk) (i : Nat) : Int := gcE (p.sz i) (p.at i)
theorem pgE_eq (p : Pk) (i : Nat) : pgE p i = gcE (p.sz i) (p.at i) := by unfold pgE; rfl
@[irreducible] def pkE (p : Pk) : Int := if p.len < 1 \/ 16 < p.len then 6 else ferE (pgE p) p.len
theorem pkE_6 {p : Pk} (h : p.len < 1 \/ 16 < p.len) : pkE p = 6 := by unfold pkE; rw [if_pos h]
theorem pkE_n {p : Pk} (h : 1 <= p.len) (h' : p.len <= 16) : pkE p = ferE (pgE p) p.len := by unfold pkE; rw [if_neg (by omega)]
theorem pkE_0 {p : Pk} : pkE p = 0 ↔ (1 <= p.len /\ p.len <= 16) /\ ∀ i, i < p.len -> (1 <= p.sz i /\ p.sz i <= 4) /\ ∀ k, k < p.sz i -> celB (p.at i k) = true := by
 by_cases h : p.len < 1 \/ 16 < p.len
 ·rw [pkE_6 h]
  constructor
  ·intro h; omega
  ·rintro ⟨h1, _⟩; omega
 ·rw [pkE_n (by omega) (by omega), ferE_0]
  constructor
  ·intro h1; exact ⟨by omega, fun i hi => gcE_0.1 (by rw [<- pgE_eq]; exact h1 i hi)⟩
  ·rintro ⟨_, h2⟩ i hi; rw [pgE_eq]; exact gcE_0.2 (h2 i hi)
def PkMax (p : Pk) : Prop := ∀ i, i < p.len -> ∀ k, k < p.sz i -> CelMax (p.at i k)
def pckS : Spec [pkSh] := ⟨fun (p, _) => PkMax (pkOf p), fun (p, _) => .si .i64 (pkE (pkOf p))⟩
def pckI : DatL [pkSh] -> Anns := fun (p, _) => [
 (4, [], fun fr hp => ⟨Nat, fun g => ⟨frI [.k 4, .t 4, .k 13, .s (.si .i64 (icast g)), .t 24] fr, hp⟩, Nat × Pk, fun g => (g, pkOf p), fun (g, p) => g <= p.len /\ ∀ j, j < g -> ferB (pgE p) j = false, fun g => nsub 17 g⟩),
 (9, [], fun fr hp => ⟨Nat, fun k => ⟨frI [.k 5, .t 3, .k 27, .s (.si .i64 (icast k)), .t 10] fr, hp⟩, Nat × Nat × Pk, fun k => (k, nat (intOf (getL fr 21)), pkOf p), fun (k, i, p) => k <= p.sz i /\ ∀ j, j < k -> cebB (p.at i) j = false, fun k => nsub 5 k⟩)]
attribute [local irreducible] FnSat
noncomputable def SL0 : Sums := ⟨S17.one, S17.two, S17.lo, S17.eqs, S17.its, [24, 44, 48]⟩
theorem SL0_ok : SumsOK Try.prog SL0 := S17_ok.setImm _
noncomputable def SL1 : Sums := ⟨(45, mkSum _ cstS) :: (65, mkSum _ ccheckS) :: SL0.one, SL0.two, SL0.lo, SL0.eqs, SL0.its, SL0.imm⟩
theorem SL1_ok : SumsOK Try.prog SL1 := ((SL0_ok.cons Try.func65 (by kernel_rfl) (by kernel_rfl) ccheck_ok).cons Try.func45 (by kernel_rfl) (by kernel_rfl) cst_ok)
set_option maxRecDepth 100000 in
set_option maxHeartbeats 2000000 in
theorem pck_ok : FnSpec Try.prog 44 _ pckS := by
 refine FnSpec.of SL1_ok mixed (U := 0) (I := pckI) Try.func44 rfl (by kernel_rfl) rfl rfl (by decide +kernel) ?_
 rintro ⟨p, ⟨⟩⟩ hpre
 obtain ⟨p, rfl⟩ := pk_ex p
 have hpre : PkMax p := by have : PkMax (pkOf (pkD p)) := hpre; rwa [pkOf_D] at this
 unfold FnSat
 conv => arg 2; reduce
 simp [pckS, ccheckS, ElEq, getB, goneB, aliveB, and_assoc]
 have h6 : p.len < 1 \/ 16 < p.len -> 6 = pkE p := fun h => (pkE_6 h).symm
 refine ⟨fun h => h6 (by omega), fun a1 a2 => ⟨⟨0, rfl, by omega, fun j hj => by omega⟩, fun g hg hall => ⟨fun hlt => ?_, fun hge => ?_⟩⟩⟩
 ·have hE : pgE p g ≠ 0 -> pgE p g = pkE p := fun h => by rw [pkE_n (by omega) (by omega), ferE_at hlt hall h]
  have hG := pgE_eq p g
  refine ⟨hlt, fun h => ?_, fun b1 b2 => ⟨⟨0, rfl, by omega, fun j hj => by omega⟩, fun k hk hal2 => ⟨fun hkl => ⟨hkl, hpre g hlt k hkl, fun hf => ?_, fun ht => ⟨by omega, by omega, k + 1, by omega, by omega, fun j hj => ?_, by omega⟩⟩, fun hkg => ⟨by omega, by omega, g + 1, by omega, by omega, fun j hj => ?_, by omega⟩⟩⟩⟩
  ·rw [gcE_6 (by omega)] at hG
   rw [<- hE (by omega), hG]
  ·rw [gcE_2 (by omega) (by omega) hkl hf] at hG
   rw [<- hE (by omega), hG, hf]; simp [errA]
  ·by_cases e : j = k
   ·subst e; exact cebB_f.2 ht
   ·exact hal2 j (by omega)
  ·by_cases e : j = g
   ·subst e
    rw [gcE_0.2 ⟨by omega, fun i hi => cebB_f.1 (hal2 i (by omega))⟩] at hG
    exact ferB_f.2 hG
   ·exact hall j (by omega)
 ·rw [pkE_n (by omega) (by omega), ferE_no fun j hj => hall j (by omega)]
noncomputable def SL2 : Sums := ⟨(28, mkSum _ cstS) :: (54, mkSum _ ccheckS) :: (44, mkSum _ pckS) :: SL1.one, SL1.two, SL1.lo, SL1.eqs, SL1.its, SL1.imm⟩
theorem SL2_ok : SumsOK Try.prog SL2 := (((SL1_ok.cons Try.func44 (by kernel_rfl) (by kernel_rfl) pck_ok).cons Try.func54 (by kernel_rfl) (by kernel_rfl) rcheck_ok).cons Try.func28 (by kernel_rfl) (by kernel_rfl) rcst_ok)
def rpckI : DatL [pkSh] -> Anns := fun (p, _) => [
 (4, [], fun fr hp => ⟨Nat, fun g => ⟨frI [.k 3, .s (.si .i64 (icast g)), .t 2, .k 10, .t 32] fr, hp⟩, Nat × Pk, fun g => (g, pkOf p), fun (g, p) => g <= p.len /\ ∀ j, j < g -> ferB (pgE p) j = false, fun g => nsub 17 g⟩),
 (10, [], fun fr hp => ⟨Nat, fun k => ⟨frI [.k 5, .s (.si .i64 (icast k)), .k 30, .t 12] fr, hp⟩, Nat × Nat × Pk, fun k => (k, nat (intOf (getL fr 3)), pkOf p), fun (k, i, p) => k <= p.sz i /\ ∀ j, j < k -> cebB (p.at i) j = false, fun k => nsub 5 k⟩)]
set_option maxRecDepth 100000 in
set_option maxHeartbeats 2000000 in
theorem rpck_ok : FnSpec Try.prog 46 _ pckS := by
 refine FnSpec.of SL2_ok mixed (U := 0) (I := rpckI) Try.func46 rfl (by kernel_rfl) rfl rfl (by decide +kernel) ?_
 rintro ⟨p, ⟨⟩⟩ hpre
 obtain ⟨p, rfl⟩ := pk_ex p
 have hpre : PkMax p := by have : PkMax (pkOf (pkD p)) := hpre; rwa [pkOf_D] at this
 unfold FnSat
 conv => arg 2; reduce
 simp [pckS, ccheckS, ElEq, getB, goneB, aliveB, and_assoc]
 have h6 : p.len < 1 \/ 16 < p.len -> 6 = pkE p := fun h => (pkE_6 h).symm
 refine ⟨fun h => h6 (by omega), fun a1 a2 => ⟨⟨0, rfl, by omega, fun j hj => by omega⟩, fun g hg hall => ⟨fun hlt => ?_, fun hge => ?_⟩⟩⟩
 ·have hE : pgE p g ≠ 0 -> pgE p g = pkE p := fun h => by rw [pkE_n (by omega) (by omega), ferE_at hlt hall h]
  have hG := pgE_eq p g
  refine ⟨hlt, fun h => ?_, fun b1 b2 => ⟨⟨0, rfl, by omega, fun j hj => by omega⟩, fun k hk hal2 => ⟨fun hkl => ⟨hkl, hpre g hlt k hkl, fun hf => ?_, fun ht => ⟨by omega, by omega, k + 1, by omega, by omega, fun j hj => ?_, by omega⟩⟩, fun hkg => ⟨by omega, by omega, g + 1, by omega, by omega, fun j hj => ?_, by omega⟩⟩⟩⟩
  ·rw [gcE_6 (by omega)] at hG
   rw [<- hE (by omega), hG]
  ·rw [gcE_2 (by omega) (by omega) hkl hf] at hG
   rw [<- hE (by omega), hG]
  ·by_cases e : j = k
   ·subst e; exact cebB_f.2 ht
   ·exact hal2 j (by omega)
  ·by_cases e : j = g
   ·subst e
    rw [gcE_0.2 ⟨by omega, fun i hi => cebB_f.1 (hal2 i (by omega))⟩] at hG
    exact ferB_f.2 hG
   ·exact hall j (by omega)
 ·rw [pkE_n (by omega) (by omega), ferE_no fun j hj => hall j (by omega)]
noncomputable def SL3 : Sums := ⟨(46, mkSum _ pckS) :: SL2.one, SL2.two, SL2.lo, SL2.eqs, SL2.its, SL2.imm⟩
theorem SL3_ok : SumsOK Try.prog SL3 := (SL2_ok.cons Try.func46 (by kernel_rfl) (by kernel_rfl) rpck_ok)
@[irreducible] def sebB (c : Nat -> Cel) (s : Nat -> Sta) (k : Nat) : Bool := !(stB (c k) (s k))
theorem sebB_f {c : Nat -> Cel} {s : Nat -> Sta} {k : Nat} : sebB c s k = false ↔ StOK (c k) (s k) := by unfold sebB; rw [<- stB_iff]; simp
theorem sebB_t {c : Nat -> Cel} {s : Nat -> Sta} {k : Nat} : sebB c s k = true ↔ ¬ StOK (c k) (s k) := by unfold sebB; rw [<- stB_iff]; simp
@[irreducible] def gsE (m : Nat) (c : Nat -> Cel) (n : Nat) (s : Nat -> Sta) : Int := if n ≠ m then 20 else if anyN (sebB c s) m = true then 3 else 0
theorem gsE_20 {m n : Nat} {c : Nat -> Cel} {s : Nat -> Sta} (h : n ≠ m) : gsE m c n s = 20 := by unfold gsE; rw [if_pos h]
theorem gsE_3 {m n k : Nat} {c : Nat -> Cel} {s : Nat -> Sta} (h : n = m) (hk : k < m) (hs : ¬ StOK (c k) (s k)) : gsE m c n s = 3 := by
 unfold gsE; rw [if_neg (by omega), if_pos (anyN_iff.2 ⟨k, hk, sebB_t.2 hs⟩)]
theorem gsE_0 {m n : Nat} {c : Nat -> Cel} {s : Nat -> Sta} : gsE m c n s = 0 ↔ n = m /\ ∀ k, k < m -> StOK (c k) (s k) := by
 unfold gsE
 split
 ·constructor
  ·intro h; omega
  ·rintro ⟨h1, _⟩; omega
 ·rename_i h
  cases ha : anyN (sebB c s) m with
  | true =>
    obtain ⟨k, hk, hp⟩ := anyN_iff.1 ha
    simp only [if_true]
    constructor
    ·intro h; omega
    ·rintro ⟨_, h3⟩
     exact absurd (h3 k hk) (sebB_t.1 hp)
  | false =>
    simp only [Bool.false_eq_true, if_false, true_iff]
    exact ⟨by omega, fun k hk => sebB_f.1 (anyN_false.1 ha k hk)⟩
@[irreducible] def sgE (p : Pk) (s : Sx) (i : Nat) : Int := gsE (p.sz i) (p.at i) (s.sz i) (s.at i)
theorem sgE_eq (p : Pk) (s : Sx) (i : Nat) : sgE p s i = gsE (p.sz i) (p.at i) (s.sz i) (s.at i) := by unfold sgE; rfl
@[irreducible] def ssE (p : Pk) (s : Sx) : Int := if pkE p = 0 then (if s.len = p.len then ferE (sgE p s) p.len else 20) else pkE p
theorem ssE_p {p : Pk} {s : Sx} (h : pkE p ≠ 0) : ssE p s = pkE p := by unfold ssE; rw [if_neg h]
theorem ssE_20 {p : Pk} {s : Sx} (h : pkE p = 0) (h' : s.len ≠ p.len) : ssE p s = 20 := by unfold ssE; rw [if_pos h, if_neg h']
theorem ssE_n {p : Pk} {s : Sx} (h : pkE p = 0) (h' : s.len = p.len) : ssE p s = ferE (sgE p s) p.len := by unfold ssE; rw [if_pos h, if_pos h']
theorem ssE_0 {p : Pk} {s : Sx} : ssE p s = 0 ↔ pkE p = 0 /\ s.len = p.len /\ ∀ i, i < p.len -> s.sz i = p.sz i /\ ∀ k, k < p.sz i -> StOK (p.at i k) (s.at i k) := by
 by_cases h : pkE p = 0
 ·by_cases h' : s.len = p.len
  ·rw [ssE_n h h', ferE_0]
   constructor
   ·intro h1; exact ⟨h, h', fun i hi => gsE_0.1 (by rw [<- sgE_eq]; exact h1 i hi)⟩
   ·rintro ⟨_, _, h2⟩ i hi; rw [sgE_eq]; exact gsE_0.2 (h2 i hi)
  ·rw [ssE_20 h h']
   constructor
   ·intro h; omega
   ·rintro ⟨_, h1, _⟩; exact absurd h1 h'
 ·rw [ssE_p h]
  exact ⟨fun h' => absurd h' h, fun h' => absurd h'.1 h⟩
def scsS : Spec [pkSh, sxSh] := ⟨fun (p, _) => PkMax (pkOf p), fun (p, s, _) => .si .i64 (ssE (pkOf p) (sxOf s))⟩
def scsI : DatL [pkSh, sxSh] -> Anns := fun (p, s, _) => [
 (7, [], fun fr hp => ⟨Nat, fun g => ⟨frI [.k 6, .t 5, .k 14, .s (.si .i64 (icast g)), .t 33] fr, hp⟩, Nat × Pk × Sx, fun g => (g, pkOf p, sxOf s), fun (g, p, s) => g <= p.len /\ ∀ j, j < g -> ferB (sgE p s) j = false, fun g => nsub 17 g⟩),
 (12, [], fun fr hp => ⟨Nat, fun k => ⟨frI [.k 8, .t 3, .k 29, .s (.si .i64 (icast k)), .t 18] fr, hp⟩, Nat × Nat × Pk × Sx, fun k => (k, nat (intOf (getL fr 6)), pkOf p, sxOf s), fun (k, i, p, s) => k <= p.sz i /\ ∀ j, j < k -> sebB (p.at i) (s.at i) j = false, fun k => nsub 5 k⟩)]
set_option maxRecDepth 100000 in
set_option maxHeartbeats 2000000 in
theorem scs_ok : FnSpec Try.prog 19 _ scsS := by
 refine FnSpec.of SL3_ok mixed (U := 0) (I := scsI) Try.func19 rfl (by kernel_rfl) rfl rfl (by decide +kernel) ?_
 rintro ⟨p, s, ⟨⟩⟩ hpre
 obtain ⟨p, rfl⟩ := pk_ex p
 obtain ⟨s, rfl⟩ := sx_ex s
 have hpre : PkMax p := by have : PkMax (pkOf (pkD p)) := hpre; rwa [pkOf_D] at this
 unfold FnSat
 conv => arg 2; reduce
 simp [scsS, pckS, cstS, ElEq, getB, goneB, aliveB, and_assoc]
 refine ⟨hpre, fun h => (ssE_p h).symm, fun hp => ⟨fun h => (ssE_20 hp (by omega)).symm, fun hl => ⟨⟨0, rfl, by omega, fun j hj => by omega⟩, fun g hg hall => ⟨fun hlt => ?_, fun hge => ?_⟩⟩⟩⟩
 ·obtain ⟨⟨n1, n2⟩, hcl⟩ := pkE_0.1 hp
  have hE : sgE p s g ≠ 0 -> sgE p s g = ssE p s := fun h => by rw [ssE_n hp (by omega), ferE_at (by omega) hall h]
  have hG := sgE_eq p s g
  have hgc := hcl g (by omega)
  refine ⟨by omega, by omega, fun h => ?_, fun hs => ⟨⟨0, rfl, by omega, fun j hj => by omega⟩, fun k hk hal2 => ⟨fun hkl => ⟨by omega, by omega, by omega, hpre g (by omega) k (by omega), fun hne => ?_, fun he => ⟨by omega, by omega, k + 1, by omega, by omega, fun j hj => ?_, by omega⟩⟩, fun hkg => ⟨by omega, by omega, g + 1, by omega, by omega, fun j hj => ?_, by omega⟩⟩⟩⟩
  ·rw [gsE_20 (by omega)] at hG
   rw [<- hE (by omega), hG]
  ·have hb : ¬ StOK (p.at g k) (s.at g k) := fun hh => hne (csE_0 (hgc.2 k (by omega)) hh)
   rw [gsE_3 (by omega) (by omega) hb] at hG
   rw [<- hE (by omega), hG, csE_3 (hgc.2 k (by omega)) hb]
  ·by_cases e : j = k
   ·subst e; exact sebB_f.2 (csE_iff.1 he).2
   ·exact hal2 j (by omega)
  ·by_cases e : j = g
   ·subst e
    rw [gsE_0.2 ⟨by omega, fun i hi => sebB_f.1 (hal2 i (by omega))⟩] at hG
    exact ferB_f.2 hG
   ·exact hall j (by omega)
 ·rw [ssE_n hp (by omega), ferE_no fun j hj => hall j (by omega)]
noncomputable def SL4 : Sums := ⟨(19, mkSum _ scsS) :: SL3.one, SL3.two, SL3.lo, SL3.eqs, SL3.its, SL3.imm⟩
theorem SL4_ok : SumsOK Try.prog SL4 := (SL3_ok.cons Try.func19 (by kernel_rfl) (by kernel_rfl) scs_ok)
def rscsI : DatL [pkSh, sxSh] -> Anns := fun (p, s, _) => [
 (6, [], fun fr hp => ⟨Nat, fun g => ⟨frI [.k 5, .s (.si .i64 (icast g)), .t 1, .k 11, .t 44] fr, hp⟩, Nat × Pk × Sx, fun g => (g, pkOf p, sxOf s), fun (g, p, s) => g <= p.len /\ ∀ j, j < g -> ferB (sgE p s) j = false, fun g => nsub 17 g⟩),
 (11, [], fun fr hp => ⟨Nat, fun k => ⟨frI [.k 6, .s (.si .i64 (icast k)), .k 29, .t 26] fr, hp⟩, Nat × Nat × Pk × Sx, fun k => (k, nat (intOf (getL fr 5)), pkOf p, sxOf s), fun (k, i, p, s) => k <= p.sz i /\ ∀ j, j < k -> sebB (p.at i) (s.at i) j = false, fun k => nsub 5 k⟩)]
set_option maxRecDepth 100000 in
set_option maxHeartbeats 2000000 in
theorem rscs_ok : FnSpec Try.prog 21 _ scsS := by
 refine FnSpec.of SL4_ok mixed (U := 0) (I := rscsI) Try.func21 rfl (by kernel_rfl) rfl rfl (by decide +kernel) ?_
 rintro ⟨p, s, ⟨⟩⟩ hpre
 obtain ⟨p, rfl⟩ := pk_ex p
 obtain ⟨s, rfl⟩ := sx_ex s
 have hpre : PkMax p := by have : PkMax (pkOf (pkD p)) := hpre; rwa [pkOf_D] at this
 unfold FnSat
 conv => arg 2; reduce
 simp [scsS, pckS, cstS, ElEq, getB, goneB, aliveB, and_assoc]
 refine ⟨hpre, fun h => ⟨hpre, (ssE_p h).symm⟩, fun hp => ⟨fun h => (ssE_20 hp (by omega)).symm, fun hl => ⟨⟨0, rfl, by omega, fun j hj => by omega⟩, fun g hg hall => ⟨fun hlt => ?_, fun hge => ?_⟩⟩⟩⟩
 ·obtain ⟨⟨n1, n2⟩, hcl⟩ := pkE_0.1 hp
  have hE : sgE p s g ≠ 0 -> sgE p s g = ssE p s := fun h => by rw [ssE_n hp (by omega), ferE_at (by omega) hall h]
  have hG := sgE_eq p s g
  have hgc := hcl g (by omega)
  refine ⟨by omega, by omega, fun h => ?_, fun hs => ⟨⟨0, rfl, by omega, fun j hj => by omega⟩, fun k hk hal2 => ⟨by omega, ⟨fun hkl => ⟨by omega, by omega, by omega, by omega, hpre g (by omega) k (by omega), fun hne => ?_, fun he => ⟨by omega, by omega, k + 1, by omega, by omega, fun j hj => ?_, by omega⟩⟩, fun hkg => ⟨by omega, by omega, g + 1, by omega, by omega, fun j hj => ?_, by omega⟩⟩⟩⟩⟩
  ·rw [gsE_20 (by omega)] at hG
   rw [<- hE (by omega), hG]
  ·have hb : ¬ StOK (p.at g k) (s.at g k) := fun hh => hne (csE_0 (hgc.2 k (by omega)) hh)
   rw [gsE_3 (by omega) (by omega) hb] at hG
   rw [<- hE (by omega), hG]
  ·by_cases e : j = k
   ·subst e; exact sebB_f.2 (csE_iff.1 he).2
   ·exact hal2 j (by omega)
  ·by_cases e : j = g
   ·subst e
    rw [gsE_0.2 ⟨by omega, fun i hi => sebB_f.1 (hal2 i (by omega))⟩] at hG
    exact ferB_f.2 hG
   ·exact hall j (by omega)
 ·rw [ssE_n hp (by omega), ferE_no fun j hj => hall j (by omega)]
noncomputable def SL5 : Sums := ⟨(21, mkSum _ scsS) :: SL4.one, SL4.two, SL4.lo, SL4.eqs, SL4.its, SL4.imm⟩
theorem SL5_ok : SumsOK Try.prog SL5 := (SL4_ok.cons Try.func21 (by kernel_rfl) (by kernel_rfl) rscs_ok)
end
end Abs
end Go.Proofs.Ytlacopdaibhkkaa

namespace Go.Proofs.Ytlacopdaibhkkaa
namespace Abs
open Go Go.RowKit
noncomputable section
attribute [local irreducible] FnSat
noncomputable def SL6 : Sums := ⟨SL5.one, SL5.two, SL5.lo, SL5.eqs, SL5.its, SL5.imm⟩
theorem SL6_ok : SumsOK Try.prog SL6 := SL5_ok
noncomputable def SL7 : Sums := ⟨SL6.one, SL6.two, SL6.lo, SL6.eqs, SL6.its, SL6.imm⟩
theorem SL7_ok : SumsOK Try.prog SL7 := SL6_ok
@[irreducible] def bigC (c : Cel) : Bool := decide (70 < c.ocv.nx) || decide (70 < c.ocv.ny) || decide (70 < c.cold.nx) || decide (70 < c.cold.ny) || decide (70 < c.stress.nx) || decide (70 < c.stress.ny)
@[irreducible] def bgC (c : Nat -> Cel) (k : Nat) : Bool := bigC (c k)
@[irreducible] def bgP (p : Pk) (i : Nat) : Bool := decide (6 < p.sz i) || anyN (bgC (p.at i)) (p.sz i)
@[irreducible] def bgS (s : Sx) (i : Nat) : Bool := decide (6 < s.sz i)
@[irreducible] def grB (p : Pk) (s : Sx) : Bool := decide (20 < p.len) || decide (20 < s.len) || anyN (bgP p) p.len || anyN (bgS s) s.len
def grS : Spec [pkSh, sxSh] := ⟨fun _ => True, fun (p, s, _) => .sb (grB (pkOf p) (sxOf s))⟩
def pgrI : DatL [pkSh, sxSh] -> Anns := fun (p, s, _) => [
 (4, [], fun fr hp => ⟨Nat, fun g => ⟨frI [.k 5, .s (.si .i64 (icast g)), .t 2, .k 10, .t 84] fr, hp⟩, Nat × Pk, fun g => (g, pkOf p), fun (g, p) => g <= p.len /\ ∀ j, j < g -> bgP p j = false, fun g => nsub 21 g⟩),
 (9, [], fun fr hp => ⟨Nat, fun k => ⟨frI [.k 6, .s (.si .i64 (icast k)), .t 1, .k 24, .t 70] fr, hp⟩, Nat × Nat × Pk, fun k => (k, nat (intOf (getL fr 5)), pkOf p), fun (k, i, p) => k <= p.sz i /\ ∀ j, j < k -> bgC (p.at i) j = false, fun k => nsub 7 k⟩),
 (15, [], fun fr hp => ⟨Nat, fun g => ⟨frI [.k 8, .s (.si .i64 (icast g)), .k 81, .t 12] fr, hp⟩, Nat × Sx, fun g => (g, sxOf s), fun (g, s) => g <= s.len /\ ∀ j, j < g -> bgS s j = false, fun g => nsub 21 g⟩)]
set_option maxRecDepth 100000 in
set_option maxHeartbeats 2000000 in
theorem gr_ok : FnSpec Try.prog 5 _ grS := by
 refine FnSpec.of SL7_ok mixed (U := 0) (I := pgrI) Try.func5 rfl (by kernel_rfl) rfl rfl (by decide +kernel) ?_
 rintro ⟨p, s, ⟨⟩⟩ -
 obtain ⟨p, rfl⟩ := pk_ex p
 obtain ⟨s, rfl⟩ := sx_ex s
 unfold FnSat
 conv => arg 2; reduce
 simp [grS, ElEq, getB, goneB, aliveB, and_assoc]
 have hP : ∀ g, g < p.len -> bgP p g = true -> grB p s = true := fun g a b => by
  have : anyN (bgP p) p.len = true := anyN_iff.2 ⟨g, a, b⟩
  unfold grB; rw [this]; simp
 have hPn : ∀ g, bgP p g = false ↔ p.sz g <= 6 /\ ∀ k, k < p.sz g -> bgC (p.at g) k = false := fun g => by
  unfold bgP
  rw [Bool.or_eq_false_iff, anyN_false]
  simp
 have hPt : ∀ g, ¬ bgP p g = false -> bgP p g = true := fun g h => by simpa using h
 have hS : ∀ g, g < s.len -> 6 < s.sz g -> grB p s = true := fun g a b => by
  have : anyN (bgS s) s.len = true := anyN_iff.2 ⟨g, a, by unfold bgS; simpa using b⟩
  unfold grB; rw [this]; simp
 have hC : ∀ g k, bgC (p.at g) k = true ↔ (((((70 < (p.at g k).ocv.nx \/ 70 < (p.at g k).ocv.ny) \/ 70 < (p.at g k).cold.nx) \/ 70 < (p.at g k).cold.ny) \/ 70 < (p.at g k).stress.nx) \/ 70 < (p.at g k).stress.ny) := fun g k => by
  unfold bgC bigC
  simp only [Bool.or_eq_true, decide_eq_true_eq]
 have hCf : ∀ g k, ¬ bgC (p.at g) k = true -> bgC (p.at g) k = false := fun g k h => by simpa using h
 refine ⟨fun h => ?_, fun a1 a2 => ⟨⟨0, rfl, by omega, fun j hj => by omega⟩, fun g hg hall => ⟨fun hlt => ⟨hlt, fun h6 => hP g hlt (hPt g fun hh => by have := (hPn g).1 hh; omega), fun h6 => ⟨⟨0, rfl, by omega, fun j hj => by omega⟩, fun k hk hal2 => ⟨hlt, fun hkl => ⟨hlt, hkl, fun hb => ?_, fun c1 c2 c3 c4 c5 c6 => ⟨by omega, by omega, k + 1, by omega, by omega, fun j hj => ?_, by omega⟩⟩, fun hkg => ⟨by omega, by omega, g + 1, by omega, by omega, fun j hj => ?_, by omega⟩⟩⟩⟩, fun hge => ⟨⟨0, rfl, by omega, fun j hj => by omega⟩, fun q hq hal3 => ⟨fun hql => ⟨hql, fun h6 => hS q hql (by omega), fun h6 => ⟨by omega, by omega, q + 1, by omega, by omega, fun j hj => ?_, by omega⟩⟩, fun hqg => ?_⟩⟩⟩⟩⟩
 ·unfold grB
  rcases h with h | h
  ·have : decide (20 < p.len) = true := by simp; omega
   rw [this]; simp
  ·have : decide (20 < s.len) = true := by simp; omega
   rw [this]; simp
 ·exact hP g hlt (hPt g fun hh => by have := ((hPn g).1 hh).2 k hkl; rw [(hC g k).2 (by omega)] at this; cases this)
 ·by_cases e : j = k
  ·subst e; exact hCf g j fun hh => by have := (hC g j).1 hh; omega
  ·exact hal2 j (by omega)
 ·by_cases e : j = g
  ·subst e; exact (hPn j).2 ⟨by omega, fun i hi => hal2 i (by omega)⟩
  ·exact hall j (by omega)
 ·by_cases e : j = q
  ·subst e; unfold bgS; simp; omega
  ·exact hal3 j (by omega)
 ·have e1 : anyN (bgP p) p.len = false := anyN_false.2 fun j hj => hall j (by omega)
  have e2 : anyN (bgS s) s.len = false := anyN_false.2 fun j hj => hal3 j (by omega)
  unfold grB; rw [e1, e2]; simp; omega
noncomputable def SL8 : Sums := ⟨(5, mkSum _ grS) :: SL7.one, SL7.two, SL7.lo, SL7.eqs, SL7.its, SL7.imm⟩
theorem SL8_ok : SumsOK Try.prog SL8 := (SL7_ok.cons Try.func5 (by kernel_rfl) (by kernel_rfl) gr_ok)
theorem grB_f {p : Pk} {s : Sx} (h : grB p s = false) : p.len <= 20 /\ s.len <= 20 /\ PkMax p /\ (∀ i, i < p.len -> p.sz i <= 6) /\ ∀ i, i < s.len -> s.sz i <= 6 := by
 unfold grB at h
 simp only [Bool.or_eq_false_iff, anyN_false, decide_eq_false_iff_not] at h
 obtain ⟨⟨⟨h1, h2⟩, h3⟩, h4⟩ := h
 refine ⟨by omega, by omega, fun i hi k hk => ?_, fun i hi => ?_, fun i hi => ?_⟩
 ·have := h3 i hi
  unfold bgP at this
  rw [Bool.or_eq_false_iff, anyN_false] at this
  have := this.2 k hk
  unfold bgC bigC at this
  simp only [Bool.or_eq_false_iff, decide_eq_false_iff_not] at this
  unfold CelMax maxLen
  omega
 ·have := h3 i hi
  unfold bgP at this
  rw [Bool.or_eq_false_iff] at this
  have := this.1
  simp only [decide_eq_false_iff_not] at this
  omega
 ·have := h4 i hi
  unfold bgS at this
  simp only [decide_eq_false_iff_not] at this
  omega
end
end Abs
end Go.Proofs.Ytlacopdaibhkkaa

namespace Go.Proofs.Ytlacopdaibhkkaa
namespace Abs
open Go Go.RowKit
noncomputable section
attribute [local irreducible] FnSat
noncomputable def SRf : Sums := ⟨SRe.one, SRe.two, SRe.lo, SRe.eqs, SRe.its, SRe.imm⟩
theorem SRf_ok : SumsOK Try.prog SRf := SRe_ok
noncomputable def SRg : Sums := ⟨SRf.one, SRf.two, SRf.lo, SRf.eqs, SRf.its, SRf.imm⟩
theorem SRg_ok : SumsOK Try.prog SRg := SRf_ok
end
end Abs
end Go.Proofs.Ytlacopdaibhkkaa

namespace Go.Proofs.Ytlacopdaibhkkaa
namespace Abs
open Go Go.RowKit
noncomputable section
attribute [local irreducible] FnSat
noncomputable def SMa : Sums := ⟨SRg.one, SRg.two, SRg.lo, SRg.eqs, SRg.its, SRg.imm⟩
theorem SMa_ok : SumsOK Try.prog SMa := SRg_ok
end
end Abs
end Go.Proofs.Ytlacopdaibhkkaa

namespace Go.Proofs.Ytlacopdaibhkkaa
namespace Abs
open Go Go.RowKit
noncomputable section
attribute [local irreducible] FnSat
set_option maxRecDepth 100000 in
theorem rfill_ok : FnSpec Try.prog 30 _ pcS := by
 refine FnSpec.of SMa_ok mixed (U := 0) (I := fun _ => []) Try.func30 rfl (by kernel_rfl) rfl rfl (by decide +kernel) ?_
 rintro ⟨(x : Int), (o : Int), ⟨⟩⟩ ⟨(h1 : -17592186044416 <= x), (h2 : x <= 17592186044416), (h3 : 1 <= o)⟩
 unfold FnSat
 conv => arg 2; reduce
 simp [pcS, divS, and_assoc]
 unfold pcV
 omega
theorem val_pre {c : Crv} {last most : Int} (h : scB c last most = true) (h1 : last <= 400000) (h2 : most <= 8388608) : crB c = true /\ c.x 0 = 0 /\ c.x (c.nx - 1) <= 400000 /\ 0 <= c.y 0 /\ c.y (c.nx - 1) <= 8388608 := by
 have h := scB_iff.1 h
 exact ⟨h.1, h.2.1, by omega, h.2.2.2.1, by omega⟩
def ropenS : Spec [celSh, .int .i64] := ⟨fun (c, (f : Int), _) => celB (celOf c) = true /\ -1099511627776 <= f /\ f <= 1099511627776, fun (c, (f : Int), _) => .si .i64 (openV (celOf c) f)⟩
set_option maxRecDepth 100000 in
theorem ropen_ok : FnSpec Try.prog 29 _ ropenS := by
 refine FnSpec.of SMa_ok mixed (U := 0) (I := fun _ => []) Try.func29 rfl (by kernel_rfl) rfl rfl (by decide +kernel) ?_
 rintro ⟨c, (f : Int), ⟨⟩⟩ hpre
 obtain ⟨c, rfl⟩ := cel_ex c
 have hpre : celB c = true /\ -1099511627776 <= f /\ f <= 1099511627776 := by have : celB (celOf (celD c)) = true /\ -1099511627776 <= f /\ f <= 1099511627776 := hpre; rwa [celOf_D] at this
 unfold FnSat
 conv => arg 2; reduce
 simp [ropenS, rvalS, ElEq, and_assoc]
 obtain ⟨hc, f1, f2⟩ := hpre
 have hc := celB_iff.1 hc
 have hv := sc_val hc.ocv f
 have := hc.sh0
 have := hc.sh1
 have vp := val_pre hc.ocv (by decide) (by decide)
 unfold openV
 exact ⟨vp.1, vp.2.1, vp.2.2.1, vp.2.2.2.1, vp.2.2.2.2, f1, f2, by omega, by omega, rfl⟩
def rresS : Spec [celSh, .int .i64, .int .i64] := ⟨fun (c, (t : Int), (w : Int), _) => celB (celOf c) = true /\ 0 <= t /\ t <= 400000 /\ 0 <= w /\ w <= 17179869184, fun (c, (t : Int), (w : Int), _) => .si .i64 (resV (celOf c) t w)⟩
set_option maxRecDepth 100000 in
theorem rres_ok : FnSpec Try.prog 32 _ rresS := by
 refine FnSpec.of SMa_ok mixed (U := 0) (I := fun _ => []) Try.func32 rfl (by kernel_rfl) rfl rfl (by decide +kernel) ?_
 rintro ⟨c, (t : Int), (w : Int), ⟨⟩⟩ hpre
 obtain ⟨c, rfl⟩ := cel_ex c
 have hpre : celB c = true /\ 0 <= t /\ t <= 400000 /\ 0 <= w /\ w <= 17179869184 := by have : celB (celOf (celD c)) = true /\ 0 <= t /\ t <= 400000 /\ 0 <= w /\ w <= 17179869184 := hpre; rwa [celOf_D] at this
 unfold FnSat
 conv => arg 2; reduce
 simp [rresS, rvalS, divS, clipS, ElEq, and_assoc]
 obtain ⟨hc, t0, t1, w0, w1⟩ := hpre
 have hc := celB_iff.1 hc
 have hv := sc_val hc.cold (400000 - t)
 have h1 := mul_in w0 w1 hc.gr0 hc.gr1
 have h2 := dvI_le (a := w * c.grow) (d := 65536) (m := 274877906944) (by decide) (by omega)
 have h3 := dvI_nonneg (a := w * c.grow) (d := 65536) (by decide) h1.1
 have := hc.ex0
 have := hc.ex1
 have vp := val_pre hc.cold (by decide) (by decide)
 unfold resV
 exact ⟨by omega, by omega, vp.1, vp.2.1, vp.2.2.1, vp.2.2.2.1, vp.2.2.2.2, by omega, by omega, by omega, by omega, by omega, by omega, by omega, by omega, by omega, by omega, rfl⟩
end
end Abs
end Go.Proofs.Ytlacopdaibhkkaa

namespace Go.Proofs.Ytlacopdaibhkkaa
namespace Abs
open Go Go.RowKit
noncomputable section
attribute [local irreducible] FnSat
noncomputable def HX0 : Sums := ⟨SL8.one, SL8.two, SL8.lo, SL8.eqs, SL8.its, [24, 44, 48, 73, 103, 2]⟩
theorem HX0_ok : SumsOK Try.prog HX0 := SL8_ok.setImm _
noncomputable def HX1 : Sums := ⟨(32, mkSum _ rresS) :: (29, mkSum _ ropenS) :: (30, mkSum _ pcS) :: (57, mkSum _ divS) :: (31, mkSum _ rcapS) :: (33, mkSum _ rwearS) :: (70, mkSum _ rsiS) :: (69, mkSum _ opnS) :: HX0.one, HX0.two, HX0.lo, HX0.eqs, HX0.its, HX0.imm⟩
theorem HX1_ok : SumsOK Try.prog HX1 := ((((((((HX0_ok.cons Try.func69 (by kernel_rfl) (by kernel_rfl) opn_ok).cons Try.func70 (by kernel_rfl) (by kernel_rfl) rsi_ok).cons Try.func33 (by kernel_rfl) (by kernel_rfl) rwear_ok).cons Try.func31 (by kernel_rfl) (by kernel_rfl) rcap_ok).cons Try.func57 (by kernel_rfl) (by kernel_rfl) floor_ok).cons Try.func30 (by kernel_rfl) (by kernel_rfl) rfill_ok).cons Try.func29 (by kernel_rfl) (by kernel_rfl) ropen_ok).cons Try.func32 (by kernel_rfl) (by kernel_rfl) rres_ok)
set_option maxRecDepth 100000 in
set_option maxHeartbeats 2000000 in
theorem roO_ok : FnSpec Try.prog 14 _ opnS := by
 refine FnSpec.of HX1_ok mixed (U := 0) (I := fun _ => []) Try.func14 rfl (by kernel_rfl) rfl rfl (by decide +kernel) ?_
 rintro ⟨c, s, ⟨⟩⟩ hpre
 obtain ⟨c, rfl⟩ := cel_ex c
 obtain ⟨s, rfl⟩ := sta_ex s
 have hpre : CelMax c := by have : CelMax (celOf (celD c)) := hpre; rwa [celOf_D] at this
 unfold FnSat
 conv => arg 2; reduce
 simp [opnS, cstS, rcapS, pcS, ropenS, rwearS, and_assoc]
 refine ⟨hpre, fun h => ⟨hpre, (aV_no h).symm, (aE_no h).symm⟩, fun h => ?_⟩
 obtain ⟨hb, S⟩ := csE_iff.1 h
 have hc := celB_iff.1 hb
 have hw : WearOK c s.th s.ag := ⟨hc.cy0, hc.cy1, hc.al0, hc.al1, S.h0, by have := S.h1; omega, S.a0, by have := S.a1; omega⟩
 have hw2 := wearV_in hw
 have hr := roomV_in (c := c) (w := wearV c s.th s.ag)
 have hf : kV c s = roomV c (wearV c s.th s.ag) := by unfold kV wV; rfl
 have hf2 : fillV c s = pcV s.q (roomV c (wearV c s.th s.ag)) := by unfold fillV; rw [hf]
 have hp : 0 <= pcV s.q (roomV c (wearV c s.th s.ag)) /\ pcV s.q (roomV c (wearV c s.th s.ag)) <= 65536 := by
  have := dvI_nonneg (a := s.q * 65536) (d := roomV c (wearV c s.th s.ag)) hr.1 (by have := S.q0; omega)
  unfold pcV; omega
 have := S.q0
 have := S.q1
 have := hr.2 hw2.1 hc.cap0
 have := hc.cap0
 have := hc.cap1
 rw [aV_yes h, aE_yes h]
 exact ⟨hw, by omega, hc.cap1, by omega, by omega, hr.1, hb, by omega, by omega, by unfold opnV; rw [hf2], rfl⟩
set_option maxRecDepth 100000 in
set_option maxHeartbeats 2000000 in
theorem roR_ok : FnSpec Try.prog 15 _ rsiS := by
 refine FnSpec.of HX1_ok mixed (U := 0) (I := fun _ => []) Try.func15 rfl (by kernel_rfl) rfl rfl (by decide +kernel) ?_
 rintro ⟨c, s, ⟨⟩⟩ hpre
 obtain ⟨c, rfl⟩ := cel_ex c
 obtain ⟨s, rfl⟩ := sta_ex s
 have hpre : CelMax c := by have : CelMax (celOf (celD c)) := hpre; rwa [celOf_D] at this
 unfold FnSat
 conv => arg 2; reduce
 simp [rsiS, cstS, rresS, rwearS, and_assoc]
 refine ⟨hpre, fun h => ⟨hpre, (aV_no h).symm, (aE_no h).symm⟩, fun h => ?_⟩
 obtain ⟨hb, S⟩ := csE_iff.1 h
 have hc := celB_iff.1 hb
 have hw : WearOK c s.th s.ag := ⟨hc.cy0, hc.cy1, hc.al0, hc.al1, S.h0, by have := S.h1; omega, S.a0, by have := S.a1; omega⟩
 have hw2 := wearV_in hw
 rw [aV_yes h, aE_yes h]
 exact ⟨hw, hb, S.t0, S.t1, hw2.1, by omega, by unfold rV wV; rfl, rfl⟩
noncomputable def HX2 : Sums := ⟨(15, mkSum _ rsiS) :: (14, mkSum _ opnS) :: HX1.one, HX1.two, HX1.lo, HX1.eqs, HX1.its, HX1.imm⟩
theorem HX2_ok : SumsOK Try.prog HX2 := ((HX1_ok.cons Try.func14 (by kernel_rfl) (by kernel_rfl) roO_ok).cons Try.func15 (by kernel_rfl) (by kernel_rfl) roR_ok)
@[irreducible] def sA (c : Nat -> Cel) (s : Nat -> Sta) (k : Nat) : Int := opnV (c k) (s k) - (s k).rx
theorem sA_eq (c : Nat -> Cel) (s : Nat -> Sta) (k : Nat) : sA c s k = opnV (c k) (s k) - (s k).rx := by unfold sA; rfl
@[irreducible] def sR (c : Nat -> Cel) (s : Nat -> Sta) (k : Nat) : Int := max 1 (rV (c k) (s k))
theorem sR_eq (c : Nat -> Cel) (s : Nat -> Sta) (k : Nat) : sR c s k = max 1 (rV (c k) (s k)) := by unfold sR; rfl
@[irreducible] def dwV (a r v : Int) : Int := dvI ((a - v) * 1000) r
theorem dwV_eq (a r v : Int) : dwV a r v = dvI ((a - v) * 1000) r := by unfold dwV; rfl
structure SrcOK (n : Nat) (a r : Nat -> Int) : Prop where
 n4 : n <= 4
 a0 : ∀ k, k < n -> -33554432 <= a k /\ a k <= 33554432
 r0 : ∀ k, k < n -> 1 <= r k /\ r k <= 1048576
@[irreducible] def dwN (a r : Nat -> Int) (v : Int) (k : Nat) : Int := dwV (a k) (r k) v
theorem dwN_eq (a r : Nat -> Int) (v : Int) (k : Nat) : dwN a r v k = dwV (a k) (r k) v := by unfold dwN; rfl
theorem dwV_in {a r v : Int} (h1 : -33554432 <= a) (h2 : a <= 33554432) (h3 : 1 <= r) (v1 : -1099511627777 <= v) (v2 : v <= 1099511627777) : -1125899906842624 <= dwV a r v /\ dwV a r v <= 1125899906842624 := by
 rw [dwV_eq]
 exact ⟨dvI_ge h3 (by have := Int.mul_le_mul_of_nonneg_left h3 (show (0 : Int) <= 1125899906842624 by omega); omega), dvI_le h3 (by have := Int.mul_le_mul_of_nonneg_left h3 (show (0 : Int) <= 1125899906842624 by omega); omega)⟩
theorem dwV_mono {a r v w : Int} (h3 : 1 <= r) (h : v <= w) : dwV a r w <= dwV a r v := by rw [dwV_eq, dwV_eq]; exact dvI_mono h3 (by omega)
@[irreducible] def dwS (a r : Nat -> Int) (n : Nat) (v : Int) : Int := sumN (dwN a r v) n
theorem dwS_0 (a r : Nat -> Int) (v : Int) : dwS a r 0 v = 0 := by unfold dwS; simp
theorem dwS_s (a r : Nat -> Int) (n : Nat) (v : Int) : dwS a r (n + 1) v = dwS a r n v + dwV (a n) (r n) v := by unfold dwS; rw [sumN_succ, dwN_eq]
theorem dwS_in {n : Nat} {a r : Nat -> Int} {v : Int} (h : SrcOK n a r) (v1 : -1099511627777 <= v) (v2 : v <= 1099511627777) : ∀ k, k <= n -> -(k * 1125899906842624) <= dwS a r k v /\ dwS a r k v <= k * 1125899906842624
 | 0, _ => by rw [dwS_0]; omega
 | k + 1, hk => by
   have ih := dwS_in h v1 v2 k (by omega)
   have := h.a0 k (by omega)
   have := dwV_in (v := v) this.1 this.2 (h.r0 k (by omega)).1 v1 v2
   rw [dwS_s]; omega
theorem dwS_mono {n : Nat} {a r : Nat -> Int} {v w : Int} (h : SrcOK n a r) (hv : v <= w) : ∀ k, k <= n -> dwS a r k w <= dwS a r k v
 | 0, _ => by rw [dwS_0, dwS_0]; omega
 | k + 1, hk => by
   have ih := dwS_mono h hv k (by omega)
   have := dwV_mono (a := a k) (h.r0 k (by omega)).1 hv
   rw [dwS_s, dwS_s]; omega
theorem dwS_low {n : Nat} {a r : Nat -> Int} (h : SrcOK n a r) : ∀ k, k <= n -> k * 1000000000 <= dwS a r k (-1099511627776)
 | 0, _ => by rw [dwS_0]; omega
 | k + 1, hk => by
   have ih := dwS_low h k (by omega)
   have a1 := h.a0 k (by omega)
   have a2 := h.r0 k (by omega)
   have : 1000000000 <= dwV (a k) (r k) (-1099511627776) := by
    rw [dwV_eq]
    exact dvI_ge a2.1 (by omega)
   rw [dwS_s]; omega
theorem dwS_high {n : Nat} {a r : Nat -> Int} (h : SrcOK n a r) : ∀ k, k <= n -> dwS a r k 1099511627776 <= -(k * 1000000000)
 | 0, _ => by rw [dwS_0]; omega
 | k + 1, hk => by
   have ih := dwS_high h k (by omega)
   have a1 := h.a0 k (by omega)
   have a2 := h.r0 k (by omega)
   have : dwV (a k) (r k) 1099511627776 <= -1000000000 := by
    rw [dwV_eq]
    exact dvI_le a2.1 (by omega)
   rw [dwS_s]; omega
@[irreducible] def shP (a r : Nat -> Int) (n : Nat) (i v : Int) : Bool := decide (dwS a r n v <= i)
theorem shP_t {a r : Nat -> Int} {n : Nat} {i v : Int} : shP a r n i v = true ↔ dwS a r n v <= i := by unfold shP; simp
theorem shP_f {a r : Nat -> Int} {n : Nat} {i v : Int} : shP a r n i v = false ↔ i < dwS a r n v := by unfold shP; simp
def fsZ (P : Int -> Bool) (a : Int) : Nat -> Int
 | 0 => a
 | n + 1 => if P a = true then a else fsZ P (a + 1) n
theorem fsZ_in (P : Int -> Bool) : ∀ (n : Nat) (a : Int), a <= fsZ P a n /\ fsZ P a n <= a + n /\ (∀ y, a <= y -> y < fsZ P a n -> P y = false) /\ (fsZ P a n < a + n -> P (fsZ P a n) = true)
 | 0, a => ⟨by rw [fsZ]; omega, by rw [fsZ]; omega, fun y h1 h2 => by rw [fsZ] at h2; omega, fun h => by rw [fsZ] at h; omega⟩
 | n + 1, a => by
   rw [fsZ]
   by_cases h : P a = true
   ·rw [if_pos h]; exact ⟨by omega, by omega, fun y h1 h2 => by omega, fun _ => h⟩
   ·rw [if_neg h]
    obtain ⟨h1, h2, h3, h4⟩ := fsZ_in P n (a + 1)
    refine ⟨by omega, by omega, fun y y1 y2 => ?_, fun hh => h4 (by omega)⟩
    by_cases e : y = a
    ·subst e; simpa using h
    ·exact h3 y (by omega) y2
structure ShOK' (a r : Nat -> Int) (n : Nat) (i v : Int) : Prop where
 lo : -1099511627776 < v
 hi : v <= 1099511627776
 y : dwS a r n v <= i
 no : i < dwS a r n (v - 1)
open Classical in
@[irreducible] def shV (a r : Nat -> Int) (n : Nat) (i : Int) : Int := if h : ∃ v, ShOK' a r n i v then Classical.choose h else 0
abbrev ShOK (a r : Nat -> Int) (n : Nat) (i : Int) : Prop := ShOK' a r n i (shV a r n i)
theorem sh_ex {a r : Nat -> Int} {n : Nat} {i : Int} (h : SrcOK n a r) (hn : 1 <= n) (i1 : -1048576 <= i) (i2 : i <= 1048576) : ∃ v, ShOK' a r n i v := by
 have hN : (((2199023255552 : Int).toNat : Nat) : Int) = 2199023255552 := Int.toNat_of_nonneg (by omega)
 generalize (2199023255552 : Int).toNat = N at hN
 obtain ⟨h1, h2, h3, h4⟩ := fsZ_in (shP a r n i) N (-1099511627776)
 generalize fsZ (shP a r n i) (-1099511627776) N = v at *
 have el := dwS_low h n (Nat.le_refl _)
 have eh := dwS_high h n (Nat.le_refl _)
 have hy : dwS a r n v <= i := by
  by_cases hh : v < 1099511627776
  ·exact shP_t.1 (h4 (by omega))
  ·rw [show v = 1099511627776 by omega]; omega
 have hlo : v ≠ -1099511627776 := fun hh => by rw [hh] at hy; omega
 exact ⟨v, by omega, by omega, hy, shP_f.1 (h3 _ (by omega) (by omega))⟩
theorem shOK {a r : Nat -> Int} {n : Nat} {i : Int} (h : SrcOK n a r) (hn : 1 <= n) (i1 : -1048576 <= i) (i2 : i <= 1048576) : ShOK a r n i := by
 have he := sh_ex h hn i1 i2
 have e : shV a r n i = Classical.choose he := by unfold shV; rw [dif_pos he]
 unfold ShOK
 rw [e]
 exact Classical.choose_spec he
theorem shP_iff {a r : Nat -> Int} {n : Nat} {i v : Int} (h : SrcOK n a r) (K : ShOK a r n i) : shP a r n i v = true ↔ shV a r n i <= v := by
 rw [shP_t]
 constructor
 ·intro hv
  apply Classical.byContradiction
  intro hh
  have := dwS_mono h (show v <= shV a r n i - 1 by omega) n (Nat.le_refl _)
  have := K.no
  omega
 ·intro hv
  have := dwS_mono h hv n (Nat.le_refl _)
  have := K.y
  omega
def lfN0 (a r : Nat -> Int) (n : Nat) (i : Int) : Nat -> Int
 | 0 => i - dwS a r n (shV a r n i)
 | k + 1 => lfN0 a r n i k - min (lfN0 a r n i k) (dwV (a k) (r k) (shV a r n i - 1) - dwV (a k) (r k) (shV a r n i))
@[irreducible] def lfN (a r : Nat -> Int) (n : Nat) (i : Int) (k : Nat) : Int := lfN0 a r n i k
theorem lfN_0 (a r : Nat -> Int) (n : Nat) (i : Int) : lfN a r n i 0 = i - dwS a r n (shV a r n i) := by unfold lfN; rfl
theorem lfN_s (a r : Nat -> Int) (n : Nat) (i : Int) (k : Nat) : lfN a r n i (k + 1) = lfN a r n i k - min (lfN a r n i k) (dwV (a k) (r k) (shV a r n i - 1) - dwV (a k) (r k) (shV a r n i)) := by unfold lfN; rfl
@[irreducible] def shO (a r : Nat -> Int) (n : Nat) (i : Int) (k : Nat) : Int := dwV (a k) (r k) (shV a r n i) + min (lfN a r n i k) (dwV (a k) (r k) (shV a r n i - 1) - dwV (a k) (r k) (shV a r n i))
theorem shO_eq (a r : Nat -> Int) (n : Nat) (i : Int) (k : Nat) : shO a r n i k = dwV (a k) (r k) (shV a r n i) + min (lfN a r n i k) (dwV (a k) (r k) (shV a r n i - 1) - dwV (a k) (r k) (shV a r n i)) := by unfold shO; rfl
theorem lfN_in {a r : Nat -> Int} {n : Nat} {i : Int} (h : SrcOK n a r) (K : ShOK a r n i) (i2 : i <= 1048576) : ∀ k, k <= n -> 0 <= lfN a r n i k /\ lfN a r n i k <= 4503599627370496 + 1048576
 | 0, _ => by
   have := dwS_in h (v := shV a r n i) (by have := K.lo; omega) (by have := K.hi; omega) n (Nat.le_refl _)
   have := K.y
   have := h.n4
   rw [lfN_0]; omega
 | k + 1, hk => by
   have ih := lfN_in h K i2 k (by omega)
   have := dwV_mono (a := a k) (r := r k) (v := shV a r n i - 1) (w := shV a r n i) (h.r0 k (by omega)).1 (by omega)
   rw [lfN_s]; omega
@[reducible] def srcSh : Sh := .slice 2 [.int .i64, .int .i64]
def drwS : Spec [.agg [.int .i64, .int .i64], .int .i64] := ⟨fun (((a : Int), (r : Int), _), (v : Int), _) => -33554432 <= a /\ a <= 33554432 /\ 1 <= r /\ -1099511627777 <= v /\ v <= 1099511627777, fun (((a : Int), (r : Int), _), (v : Int), _) => .si .i64 (dwV a r v)⟩
set_option maxRecDepth 100000 in
theorem drw_ok : FnSpec Try.prog 49 _ drwS := by
 refine FnSpec.of HX2_ok mixed (U := 0) (I := fun _ => []) Try.func49 rfl (by kernel_rfl) rfl rfl (by decide +kernel) ?_
 rintro ⟨⟨(a : Int), (r : Int), ⟨⟩⟩, (v : Int), ⟨⟩⟩ ⟨(a1 : -33554432 <= a), (a2 : a <= 33554432), (r1 : 1 <= r), (v1 : -1099511627777 <= v), (v2 : v <= 1099511627777)⟩
 unfold FnSat
 conv => arg 2; reduce
 simp [drwS, dwV_eq, and_assoc]
 obtain ⟨b1, b2, b3, b4, b5⟩ := dvI_by (n := (a - v) * 1000) (d := r) (by omega) (by omega) r1
 exact ⟨by omega, by omega, by omega, by omega, b1, b2, b3, b4, b5⟩
noncomputable def HX3 : Sums := ⟨(49, mkSum _ drwS) :: HX2.one, HX2.two, HX2.lo, HX2.eqs, HX2.its, HX2.imm⟩
theorem HX3_ok : SumsOK Try.prog HX3 := (HX2_ok.cons Try.func49 (by kernel_rfl) (by kernel_rfl) drw_ok)
def suS : Spec [.int .i64, .ptr [srcSh]] := ⟨fun ((v : Int), ((n, el), _), _) => SrcOK n (fun k => (el k).1) (fun k => (el k).2.1) /\ -1099511627777 <= v /\ v <= 1099511627777, fun ((v : Int), ((n, el), _), _) => .si .i64 (dwS (fun k => (el k).1) (fun k => (el k).2.1) n v)⟩
def suI : DatL [.int .i64, .ptr [srcSh]] -> Anns := fun ((v : Int), ((n, el), _), _) => [
 (3, [], fun fr hp => ⟨Nat, fun g => ⟨frI [.k 4, .s (.si .i64 (dwS (fun k => (el k).1) (fun k => (el k).2.1) g v)), .t 2, .k 2, .s (.si .i64 (icast g)), .t 10] fr, hp⟩, Nat × Nat, fun g => (g, n), fun (g, n) => g <= n, fun g => nsub 5 g⟩)]
set_option maxRecDepth 100000 in
theorem su_ok : FnSpec Try.prog 48 _ suS := by
 refine FnSpec.of HX3_ok mixed (U := 0) (I := suI) Try.func48 rfl (by kernel_rfl) rfl rfl (by decide +kernel) ?_
 rintro ⟨(v : Int), ⟨⟨n, el⟩, ⟨⟩⟩, ⟨⟩⟩ ⟨(h : SrcOK n (fun k => (el k).1) (fun k => (el k).2.1)), (v1 : -1099511627777 <= v), (v2 : v <= 1099511627777)⟩
 obtain ⟨a, r, rfl⟩ : ∃ a r : Nat -> Int, el = fun k => (a k, r k, ()) := ⟨fun k => (el k).1, fun k => (el k).2.1, rfl⟩
 have h : SrcOK n a r := h
 unfold FnSat
 conv => arg 2; reduce
 simp [suS, drwS, ElEq, getB, goneB, aliveB, and_assoc]
 have ea : (fun k => a k) = a := rfl
 have er : (fun k => r k) = r := rfl
 simp only [ea, er]
 have n4 := h.n4
 refine ⟨⟨0, (dwS_0 a r v).symm, rfl, by omega⟩, fun g hg => ⟨fun hlt => ?_, fun hge => by rw [show g = n by omega]⟩⟩
 have a0 := h.a0 g hlt
 have r0 := h.r0 g hlt
 have b0 := dwS_in h v1 v2 g hg
 have b1 := dwV_in (v := v) a0.1 a0.2 r0.1 v1 v2
 exact ⟨hlt, a0.1, a0.2, r0.1, v1, v2, by omega, by omega, by omega, by omega, g + 1, (dwS_s a r g v).symm, by omega, by omega, by omega⟩
noncomputable def HX4 : Sums := ⟨(48, mkSum _ suS) :: HX3.one, HX3.two, HX3.lo, HX3.eqs, HX3.its, HX3.imm⟩
theorem HX4_ok : SumsOK Try.prog HX4 := (HX3_ok.cons Try.func48 (by kernel_rfl) (by kernel_rfl) su_ok)
def ltsS : Spec [.int .i64, .ptr [.fn 48 [] [.ptr [srcSh]]], .ptr [.int .i64]] := ⟨fun ((v : Int), ((_, ((n, el), _), _), _), ((i : Int), _), _) => SrcOK n (fun k => (el k).1) (fun k => (el k).2.1) /\ -1099511627777 <= v /\ v <= 1099511627777, fun ((v : Int), ((_, ((n, el), _), _), _), ((i : Int), _), _) => .sb (shP (fun k => (el k).1) (fun k => (el k).2.1) n i v)⟩
set_option maxRecDepth 100000 in
theorem lts_ok : FnSpec Try.prog 51 _ ltsS := by
 refine FnSpec.of HX4_ok mixed (U := 0) (I := fun _ => []) Try.func51 rfl (by kernel_rfl) rfl rfl (by decide +kernel) ?_
 rintro ⟨(v : Int), ⟨⟨z, ⟨⟨n, el⟩, ⟨⟩⟩, ⟨⟩⟩, ⟨⟩⟩, ⟨(i : Int), ⟨⟩⟩, ⟨⟩⟩ ⟨(h : SrcOK n (fun k => (el k).1) (fun k => (el k).2.1)), (v1 : -1099511627777 <= v), (v2 : v <= 1099511627777)⟩
 obtain ⟨a, r, rfl⟩ : ∃ a r : Nat -> Int, el = fun k => (a k, r k, ()) := ⟨fun k => (el k).1, fun k => (el k).2.1, rfl⟩
 have h : SrcOK n a r := h
 unfold FnSat
 conv => arg 2; reduce
 simp [ltsS, suS, ElEq, getB, goneB, aliveB, and_assoc]
 exact ⟨h, v1, v2, by unfold shP; rfl⟩
noncomputable def HX5 : Sums := ⟨(51, mkSum _ ltsS) :: HX4.one, HX4.two, HX4.lo, HX4.eqs, HX4.its, HX4.imm⟩
theorem HX5_ok : SumsOK Try.prog HX5 := (HX4_ok.cons Try.func51 (by kernel_rfl) (by kernel_rfl) lts_ok)
@[reducible] def lsfSh : Sh := .fn 51 [] [.ptr [.fn 48 [] [.ptr [srcSh]]], .ptr [.int .i64]]
def lstS : Spec [.int .i64, .int .i64, lsfSh] := ⟨fun ((lo : Int), (hi : Int), (_, ((_, ((n, el), _), _), _), ((i : Int), _), _), _) => SrcOK n (fun k => (el k).1) (fun k => (el k).2.1) /\ 1 <= n /\ lo = -1099511627776 /\ hi = 1099511627776 /\ -1048576 <= i /\ i <= 1048576, fun ((lo : Int), (hi : Int), (_, ((_, ((n, el), _), _), _), ((i : Int), _), _), _) => .si .i64 (shV (fun k => (el k).1) (fun k => (el k).2.1) n i)⟩
def lstI : DatL [.int .i64, .int .i64, lsfSh] -> Anns := fun ((lo : Int), (hi : Int), (_, ((_, ((n, el), _), _), _), ((i : Int), _), _), _) => [
 (1, [], fun fr hp => ⟨Int × Int, fun g => ⟨frI [.s (.si .i64 g.1), .s (.si .i64 g.2), .k 5, .t 17] fr, hp⟩, Int × Int × Int, fun g => (g.1, g.2, shV (fun k => (el k).1) (fun k => (el k).2.1) n i), fun ((l : Int), (h : Int), (v : Int)) => l <= v /\ v <= h /\ -1099511627776 <= l /\ h <= 1099511627776, fun g => nat (isub g.2 g.1)⟩)]
set_option maxRecDepth 100000 in
theorem lst_ok : FnSpec Try.prog 50 _ lstS := by
 refine FnSpec.of HX5_ok mixed (U := 0) (I := lstI) Try.func50 rfl (by kernel_rfl) rfl rfl (by decide +kernel) ?_
 rintro ⟨(lo : Int), (hi : Int), ⟨y, ⟨⟨z, ⟨⟨n, el⟩, ⟨⟩⟩, ⟨⟩⟩, ⟨⟩⟩, ⟨(i : Int), ⟨⟩⟩, ⟨⟩⟩, ⟨⟩⟩ ⟨(h : SrcOK n (fun k => (el k).1) (fun k => (el k).2.1)), (hn : 1 <= n), (e1 : lo = -1099511627776), (e2 : hi = 1099511627776), (i1 : -1048576 <= i), (i2 : i <= 1048576)⟩
 obtain ⟨a, r, rfl⟩ : ∃ a r : Nat -> Int, el = fun k => (a k, r k, ()) := ⟨fun k => (el k).1, fun k => (el k).2.1, rfl⟩
 have h : SrcOK n a r := h
 unfold FnSat
 conv => arg 2; reduce
 simp [lstS, ltsS, ElEq, getB, goneB, aliveB, and_assoc]
 have ea : (fun k => a k) = a := rfl
 have er : (fun k => r k) = r := rfl
 simp only [ea, er]
 have K := shOK h hn i1 i2
 have k1 := K.lo
 have k2 := K.hi
 have hi0 := fun v => shP_iff (v := v) h K
 have hsh : ∀ x : Int, ishr x 1 = x / 2 := fun x => by unfold ishr; exact Int.fdiv_eq_ediv_of_nonneg x (by decide)
 simp only [hsh]
 have hif : ∀ v, shP a r n i v = false -> v < shV a r n i := fun v hv => by
  apply Classical.byContradiction
  intro hh
  rw [(hi0 v).2 (by omega)] at hv; cases hv
 generalize shV a r n i = V at *
 refine ⟨by omega, by omega, by omega, by omega, fun l u a1 a2 a3 a4 => ⟨fun hlt => ⟨by omega, by omega, by decide, by omega, by omega, h, by omega, by omega, fun ht => ?_, fun hf => ?_⟩, fun hge => by omega⟩⟩
 ·have := (hi0 _).1 ht
  exact ⟨a1, this, a3, by omega, by omega⟩
 ·have := hif _ hf
  exact ⟨by omega, by omega, by omega, a2, by omega, a4, by omega⟩
noncomputable def HX6 : Sums := ⟨(50, mkSum _ lstS) :: HX5.one, HX5.two, HX5.lo, HX5.eqs, HX5.its, HX5.imm⟩
theorem HX6_ok : SumsOK Try.prog HX6 := (HX5_ok.cons Try.func50 (by kernel_rfl) (by kernel_rfl) lst_ok)
def shS : Spec [srcSh, .int .i64] := ⟨fun ((n, el), (i : Int), _) => SrcOK n (fun k => (el k).1) (fun k => (el k).2.1) /\ 1 <= n /\ -1048576 <= i /\ i <= 1048576, fun ((n, el), (i : Int), _) => .tup [.slc (.sym n) 1 (fun k => [.si .i64 (shO (fun k => (el k).1) (fun k => (el k).2.1) n i k)]), .si .i64 (shV (fun k => (el k).1) (fun k => (el k).2.1) n i)]⟩
@[irreducible] def shF (a r : Nat -> Int) (n : Nat) (i : Int) (g k : Nat) : Int := if k < g then shO a r n i k else 0
theorem shF_in {a r : Nat -> Int} {n : Nat} {i : Int} {g k : Nat} (h : k < g) : shF a r n i g k = shO a r n i k := by unfold shF; rw [if_pos h]
theorem shF_out {a r : Nat -> Int} {n : Nat} {i : Int} {g k : Nat} (h : g <= k) : shF a r n i g k = 0 := by unfold shF; rw [if_neg (by omega)]
def shI : DatL [srcSh, .int .i64] -> Anns := fun ((n, el), (i : Int), _) => [
 (2097152 + 2, [(6, 0, 0)], fun _ _ => ⟨Unit, fun _ => ⟨[], []⟩, Unit, fun _ => (), fun _ => True, fun _ => 0⟩),
 (6, [], fun fr hp => ⟨Nat, fun g => ⟨frI [.k 8, .s (.si .i64 (lfN (fun k => (el k).1) (fun k => (el k).2.1) n i g)), .k 1, .t 3, .k 13, .s (.si .i64 (icast g)), .t 34] fr, setB hp 1 (.row 2 1 (.sym n) (fun k => [.si .i64 (shF (fun k => (el k).1) (fun k => (el k).2.1) n i g k)]))⟩, Nat × Nat, fun g => (g, n), fun (g, n) => g <= n, fun g => nsub 5 g⟩)]
set_option maxRecDepth 100000 in
set_option maxHeartbeats 2000000 in
theorem sh_ok : FnSpec Try.prog 25 _ shS := by
 refine FnSpec.of HX6_ok mixed (U := 0) (I := shI) Try.func25 rfl (by kernel_rfl) rfl rfl (by decide +kernel) ?_
 rintro ⟨⟨n, el⟩, (i : Int), ⟨⟩⟩ ⟨(h : SrcOK n (fun k => (el k).1) (fun k => (el k).2.1)), (hn : 1 <= n), (i1 : -1048576 <= i), (i2 : i <= 1048576)⟩
 obtain ⟨a, r, rfl⟩ : ∃ a r : Nat -> Int, el = fun k => (a k, r k, ()) := ⟨fun k => (el k).1, fun k => (el k).2.1, rfl⟩
 have h : SrcOK n a r := h
 unfold FnSat
 conv => arg 2; reduce
 simp [shS, lstS, suS, drwS, ElEq, getB, goneB, aliveB, maxRow, and_assoc]
 have ea : (fun k => a k) = a := rfl
 have er : (fun k => r k) = r := rfl
 simp only [ea, er]
 have n4 := h.n4
 have K := shOK h hn i1 i2
 have k1 := K.lo
 have k2 := K.hi
 have k3 := dwS_in h (v := shV a r n i) (by omega) (by omega) n (Nat.le_refl _)
 have hl0 := lfN_0 a r n i
 have hls := lfN_s a r n i
 have hso := shO_eq a r n i
 have hli := fun k hk => lfN_in h K i2 k hk
 generalize shV a r n i = V at *
 refine ⟨h, hn, i1, i2, h, by omega, by omega, by omega, by omega, by omega, ⟨0, hl0.symm, rfl, fun j hj => (shF_out (by omega)).symm, by omega⟩, fun g hg => ⟨fun hlt => ?_, fun hge => ?_⟩⟩
 ·have a0 := h.a0 g hlt
  have r0 := h.r0 g hlt
  have d0 := dwV_in (v := V) a0.1 a0.2 r0.1 (by omega) (by omega)
  have d1 := dwV_in (v := V - 1) a0.1 a0.2 r0.1 (by omega) (by omega)
  have dm := dwV_mono (a := a g) (r := r g) (v := V - 1) (w := V) r0.1 (by omega)
  have hl := hli g hg
  have hs1 := hls g
  have ho1 := hso g
  generalize dwV (a g) (r g) V = D0 at *
  generalize dwV (a g) (r g) (V - 1) = D1 at *
  generalize lfN a r n i g = L at *
  refine ⟨hlt, a0.1, a0.2, r0.1, by omega, by omega, hlt, by omega, by omega, a0.1, a0.2, r0.1, by omega, by omega, hlt, by omega, by omega, hlt, by omega, by omega, hlt, by omega, by omega, by omega, by omega, g + 1, hs1.symm, by omega, fun j hj => ?_, by omega, by omega⟩
  by_cases e : j = g
  ·subst e; rw [if_pos rfl, shF_in (by omega), ho1]
  ·rw [if_neg e, if_neg e]
   by_cases hjg : j < g
   ·rw [shF_in hjg, shF_in (by omega)]
   ·rw [shF_out (by omega), shF_out (by omega)]
 ·exact fun j hj => shF_in (by omega)
noncomputable def HX7 : Sums := ⟨(25, mkSum _ shS) :: HX6.one, HX6.two, HX6.lo, HX6.eqs, HX6.its, HX6.imm⟩
theorem HX7_ok : SumsOK Try.prog HX7 := (HX6_ok.cons Try.func25 (by kernel_rfl) (by kernel_rfl) sh_ok)
def srcsS : Spec [grpSh, stgSh] := ⟨fun ((m, c), (n, s), _) => m = n /\ m <= 4 /\ ∀ k, k < m -> csE (celOf (c k)) (staOf (s k)) = 0, fun ((m, c), (_, s), _) => .slc (.sym m) 2 (fun k => [.si .i64 (sA (fun k => celOf (c k)) (fun k => staOf (s k)) k), .si .i64 (sR (fun k => celOf (c k)) (fun k => staOf (s k)) k)])⟩
@[irreducible] def sAf (c : Nat -> Cel) (s : Nat -> Sta) (g k : Nat) : Int := if k < g then sA c s k else 0
@[irreducible] def sRf (c : Nat -> Cel) (s : Nat -> Sta) (g k : Nat) : Int := if k < g then sR c s k else 0
def srcsI : DatL [grpSh, stgSh] -> Anns := fun ((m, c), (_, s), _) => [
 (3, [], fun fr hp => ⟨Nat, fun g => ⟨frI [.k 6, .t 6, .k 5, .s (.si .i64 (icast g)), .t 37] fr, setB hp 0 (.row 103 2 (.sym m) (fun k => [.si .i64 (sAf (fun k => celOf (c k)) (fun k => staOf (s k)) g k), .si .i64 (sRf (fun k => celOf (c k)) (fun k => staOf (s k)) g k)]))⟩, Nat × Nat, fun g => (g, m), fun (g, m) => g <= m, fun g => nsub 5 g⟩)]
set_option maxRecDepth 100000 in
set_option maxHeartbeats 2000000 in
theorem srcs_ok : FnSpec Try.prog 47 _ srcsS := by
 refine FnSpec.of HX7_ok mixed (U := 0) (I := srcsI) Try.func47 rfl (by kernel_rfl) rfl rfl (by decide +kernel) ?_
 rintro ⟨⟨m, c⟩, ⟨n, s⟩, ⟨⟩⟩ hpre
 obtain ⟨C, rfl⟩ : ∃ C : Nat -> Cel, c = fun k => celD (C k) := ⟨fun k => celOf (c k), by funext k; exact (cel_D (c k)).symm⟩
 obtain ⟨S, rfl⟩ : ∃ S : Nat -> Sta, s = fun k => staD (S k) := ⟨fun k => staOf (s k), by funext k; exact (sta_D (s k)).symm⟩
 obtain ⟨h1, h2, h3⟩ : m = n /\ m <= 4 /\ ∀ k, k < m -> csE (celOf (celD (C k))) (staOf (staD (S k))) = 0 := hpre
 simp only [celOf_D, staOf_D] at h3
 subst h1
 unfold FnSat
 conv => arg 2; reduce
 simp [srcsS, opnS, rsiS, ElEq, getB, goneB, aliveB, maxRow, and_assoc]
 have eC : (fun k => C k) = C := rfl
 have eS : (fun k => S k) = S := rfl
 simp only [eC, eS]
 have fA : ∀ g k, sAf C S g k = if k < g then sA C S k else 0 := fun g k => by unfold sAf; rfl
 have fR : ∀ g k, sRf C S g k = if k < g then sR C S k else 0 := fun g k => by unfold sRf; rfl
 simp only [fA, fR]
 refine ⟨by omega, ⟨0, rfl, fun j hj => by simp, by omega⟩, fun g hg => ⟨fun hlt => ?_, fun hge j hj => by rw [if_pos (by omega), if_pos (by omega)]; exact ⟨rfl, rfl⟩⟩⟩
 have h := h3 g hlt
 obtain ⟨hb, hs⟩ := csE_iff.1 h
 have hm := (celB_iff.1 hb).max
 have ho := opnV_in (s := S g) hb
 have := hs.r0
 have := hs.r1
 rw [aV_yes h, aV_yes h]
 refine ⟨hlt, hm, hlt, hm, hlt, by omega, by omega, hlt, by omega, by omega, g + 1, by omega, fun j hj => ?_, by omega, by omega⟩
 by_cases e : j = g
 ·subst e
  rw [if_pos rfl, if_pos rfl, if_pos (by omega), if_pos (by omega), sA_eq, sR_eq]
  exact ⟨rfl, rfl⟩
 ·rw [if_neg e, if_neg e]
  by_cases hjg : j < g
  ·rw [if_pos hjg, if_pos hjg, if_pos (by omega), if_pos (by omega)]; exact ⟨rfl, rfl⟩
  ·rw [if_neg hjg, if_neg hjg, if_neg (by omega), if_neg (by omega)]; exact ⟨rfl, rfl⟩
noncomputable def HX8 : Sums := ⟨(47, mkSum _ srcsS) :: HX7.one, HX7.two, HX7.lo, HX7.eqs, HX7.its, HX7.imm⟩
theorem HX8_ok : SumsOK Try.prog HX8 := (HX7_ok.cons Try.func47 (by kernel_rfl) (by kernel_rfl) srcs_ok)
end
end Abs
end Go.Proofs.Ytlacopdaibhkkaa

namespace Go.Proofs.Ytlacopdaibhkkaa
namespace Abs
open Go Go.RowKit
noncomputable section
attribute [local irreducible] FnSat
theorem src_ok {m : Nat} {c : Nat -> Cel} {s : Nat -> Sta} (h4 : m <= 4) (h : ∀ k, k < m -> celB (c k) = true /\ StOK (c k) (s k)) : SrcOK m (sA c s) (sR c s) := by
 refine ⟨h4, fun k hk => ?_, fun k hk => ?_⟩
 ·have ho := opnV_in (s := s k) (h k hk).1
  have := (h k hk).2.r0
  have := (h k hk).2.r1
  rw [sA_eq]; omega
 ·have := rV_in (c := c k) (s := s k)
  rw [sR_eq]; omega
structure SsOK (p : Pk) (s : Sx) : Prop where
 n : 1 <= p.len /\ p.len <= 16
 l : s.len = p.len
 m : ∀ i, i < p.len -> (1 <= p.sz i /\ p.sz i <= 4) /\ s.sz i = p.sz i
 c : ∀ i, i < p.len -> ∀ k, k < p.sz i -> celB (p.at i k) = true /\ StOK (p.at i k) (s.at i k)
theorem ssOK {p : Pk} {s : Sx} (h : ssE p s = 0) : SsOK p s := by
 obtain ⟨h1, h2, h3⟩ := ssE_0.1 h
 obtain ⟨n1, hcl⟩ := pkE_0.1 h1
 exact ⟨n1, h2, fun i hi => ⟨(hcl i hi).1, (h3 i hi).1⟩, fun i hi k hk => ⟨(hcl i hi).2 k hk, (h3 i hi).2 k hk⟩⟩
theorem SsOK.src {p : Pk} {s : Sx} (h : SsOK p s) {i : Nat} (hi : i < p.len) : SrcOK (p.sz i) (sA (p.at i) (s.at i)) (sR (p.at i) (s.at i)) := src_ok (h.m i hi).1.2 (h.c i hi)
def wirS : Spec [pkSh, sxSh] := ⟨fun (p, s, _) => PkMax (pkOf p) /\ ssE (pkOf p) (sxOf s) ≠ 0, fun (p, s, _) => .tup [.v (.pointer none), .si .i64 (ssE (pkOf p) (sxOf s))]⟩
set_option maxRecDepth 100000 in
set_option maxHeartbeats 2000000 in
theorem wir_ok : FnSpec Try.prog 23 _ wirS := by
 refine FnSpec.of HX8_ok mixed (U := 0) (I := fun _ => []) Try.func23 rfl (by kernel_rfl) rfl rfl (by decide +kernel) ?_
 rintro ⟨p, s, ⟨⟩⟩ hpre
 obtain ⟨p, rfl⟩ := pk_ex p
 obtain ⟨s, rfl⟩ := sx_ex s
 have hpre : PkMax p /\ ssE p s ≠ 0 := by have : PkMax (pkOf (pkD p)) /\ ssE (pkOf (pkD p)) (sxOf (sxD s)) ≠ 0 := hpre; rwa [pkOf_D, sxOf_D] at this
 unfold FnSat
 conv => arg 2; reduce
 simp [wirS, scsS, ElEq, getB, goneB, aliveB, and_assoc]
 exact hpre
@[irreducible] def wA (p : Pk) (s : Sx) (i k : Nat) : Int := sA (p.at i) (s.at i) k
@[irreducible] def wR (p : Pk) (s : Sx) (i k : Nat) : Int := sR (p.at i) (s.at i) k
def wirC (p : Pk) (s : Sx) : List AV := [.slc (.sym p.len) 1 (fun i => [.slc (.sym (p.sz i)) 17 (fun k => encL celCells (celD (p.at i k)))]), .slc (.sym s.len) 1 (fun i => [.slc (.sym (s.sz i)) 5 (fun k => encL staCells (staD (s.at i k)))]), .row 1]
def wirL (p : Pk) (s : Sx) (i : Nat) : List AV := [.slc (.sym (p.sz i)) 2 (fun k => [.si .i64 (wA p s i k), .si .i64 (wR p s i k)])]
def wirN : SpecN [pkSh, sxSh] := ⟨fun (p, s, _) => PkMax (pkOf p) /\ ssE (pkOf p) (sxOf s) = 0, fun _ => .tup [.own 0 0, .li .i64 0], fun (p, s, _) => [.cells 76 (wirC (pkOf p) (sxOf s)), .row 73 1 (.sym (pkOf p).len) (wirL (pkOf p) (sxOf s))]⟩
def wirI : DatL [pkSh, sxSh] -> Anns := fun (p, s, _) => [
 (2097152 + 5, [(7, 73, 128 + 5)], fun _ _ => ⟨Unit, fun _ => ⟨[], []⟩, Unit, fun _ => (), fun _ => True, fun _ => 0⟩),
 (4194304 + 8, [], fun _ _ => ⟨Unit, fun _ => ⟨[], []⟩, Unit, fun _ => (), fun _ => True, fun _ => 0⟩),
 (6, [], fun fr hp => ⟨Nat, fun g => ⟨frI [.k 8, .t 2, .k 13, .s (.si .i64 (icast g)), .t 21] fr, setB hp 1 (.row 73 1 (.sym g) (wirL (pkOf p) (sxOf s)))⟩, Nat × Nat, fun g => (g, (pkOf p).len), fun (g, n) => g <= n, fun g => nsub 17 g⟩)]
set_option maxRecDepth 100000 in
set_option maxHeartbeats 2000000 in
theorem wirN_ok : FnSpecN Try.prog 23 _ wirN := by
 refine FnSpecN.of HX8_ok mixed (U := 0) (I := wirI) Try.func23 rfl (by kernel_rfl) rfl rfl (by decide +kernel) ?_
 rintro ⟨p, s, ⟨⟩⟩ hpre
 obtain ⟨p, rfl⟩ := pk_ex p
 obtain ⟨s, rfl⟩ := sx_ex s
 have hpre : PkMax p /\ ssE p s = 0 := by have : PkMax (pkOf (pkD p)) /\ ssE (pkOf (pkD p)) (sxOf (sxD s)) = 0 := hpre; rwa [pkOf_D, sxOf_D] at this
 unfold FnSat
 conv => arg 2; reduce
 simp [wirN, wirC, wirL, scsS, srcsS, ElEq, getB, goneB, aliveB, maxRow, and_assoc]
 obtain ⟨hP, h0⟩ := hpre
 have S := ssOK h0
 have n16 := S.n
 have hl := S.l
 refine ⟨hP, h0, fun _ => ⟨⟨0, rfl, rfl, fun j => by omega, by omega⟩, fun g hg => ⟨fun hlt => ?_, fun hge => ?_⟩⟩⟩
 ·have hm := S.m g hlt
  refine ⟨hlt, by omega, hm.2.symm, hm.1.2, fun k hk => csE_iff.2 (S.c g hlt k hk), by omega, by omega, by omega, g + 1, by omega, rfl, fun j hj => app_one hj (fun _ => rfl) (fun e => ?_), by omega, by omega⟩
  subst e
  unfold wA wR
  rfl
 ·obtain rfl : g = p.len := by omega
  refine ⟨fun j _ => rfl, ?_⟩
  exact ⟨fun j _ => rfl, rfl⟩
@[irreducible] def plO (p : Pk) (s : Sx) (g : Nat) (i : Int) (k : Nat) : Int := shO (sA (p.at g) (s.at g)) (sR (p.at g) (s.at g)) (p.sz g) i k
theorem plO_eq (p : Pk) (s : Sx) (g : Nat) (i : Int) (k : Nat) : plO p s g i k = shO (sA (p.at g) (s.at g)) (sR (p.at g) (s.at g)) (p.sz g) i k := by unfold plO; rfl
@[irreducible] def plV (p : Pk) (s : Sx) (g : Nat) (i : Int) : Int := shV (sA (p.at g) (s.at g)) (sR (p.at g) (s.at g)) (p.sz g) i
theorem plV_eq (p : Pk) (s : Sx) (g : Nat) (i : Int) : plV p s g i = shV (sA (p.at g) (s.at g)) (sR (p.at g) (s.at g)) (p.sz g) i := by unfold plV; rfl
@[irreducible] def ovP (x : Nat -> Int) (k : Nat) : Bool := !(isIn (-1048576) (x k) 1048576)
theorem ovP_f {x : Nat -> Int} {k : Nat} : ovP x k = false ↔ -1048576 <= x k /\ x k <= 1048576 := by unfold ovP; simp
theorem ovP_t {x : Nat -> Int} {k : Nat} (h : x k < -1048576 \/ 1048576 < x k) : ovP x k = true := by
 cases h' : ovP x k with
 | true => rfl
 | false => have := ovP_f.1 h'; omega
@[irreducible] def splE (p : Pk) (s : Sx) (g i : Int) : Int := if ssE p s = 0 then (if (g < 0 \/ (p.len : Int) <= g) \/ i < -1048576 \/ 1048576 < i then 3 else if anyN (ovP (plO p s g.toNat i)) (p.sz g.toNat) = true then 4 else 0) else ssE p s
theorem splE_e {p : Pk} {s : Sx} {g i : Int} (h : ssE p s ≠ 0) : splE p s g i = ssE p s := by unfold splE; rw [if_neg h]
theorem splE_3 {p : Pk} {s : Sx} {g i : Int} (h : ssE p s = 0) (h' : (g < 0 \/ (p.len : Int) <= g) \/ i < -1048576 \/ 1048576 < i) : splE p s g i = 3 := by unfold splE; rw [if_pos h, if_pos h']
theorem splE_n {p : Pk} {s : Sx} {g i : Int} (h : ssE p s = 0) (h' : ¬ ((g < 0 \/ (p.len : Int) <= g) \/ i < -1048576 \/ 1048576 < i)) : splE p s g i = if anyN (ovP (plO p s g.toNat i)) (p.sz g.toNat) = true then 4 else 0 := by unfold splE; rw [if_pos h, if_neg h']
theorem splE_0 {p : Pk} {s : Sx} {g i : Int} : splE p s g i = 0 ↔ ssE p s = 0 /\ ((0 <= g /\ g < (p.len : Int)) /\ -1048576 <= i /\ i <= 1048576) /\ ∀ k, k < p.sz g.toNat -> -1048576 <= plO p s g.toNat i k /\ plO p s g.toNat i k <= 1048576 := by
 by_cases h : ssE p s = 0
 ·by_cases h' : (g < 0 \/ (p.len : Int) <= g) \/ i < -1048576 \/ 1048576 < i
  ·rw [splE_3 h h']
   constructor
   ·intro h; omega
   ·rintro ⟨_, h1, _⟩; omega
  ·rw [splE_n h h']
   cases ha : anyN (ovP (plO p s g.toNat i)) (p.sz g.toNat) with
   | true =>
     obtain ⟨k, hk, hp⟩ := anyN_iff.1 ha
     simp only [if_true]
     constructor
     ·intro h; omega
     ·rintro ⟨_, _, h3⟩
      rw [ovP_f.2 (h3 k hk)] at hp; cases hp
   | false =>
     simp only [Bool.false_eq_true, if_false, true_iff]
     exact ⟨h, by omega, fun k hk => ovP_f.1 (anyN_false.1 ha k hk)⟩
 ·rw [splE_e h]
  exact ⟨fun h' => absurd h' h, fun h' => absurd h'.1 h⟩
@[irreducible] def splN (p : Pk) (s : Sx) (g i : Int) : Nat := okN (splE p s g i) (p.sz g.toNat)
@[irreducible] def splV (p : Pk) (s : Sx) (g i : Int) : Int := okI (splE p s g i) (plV p s g.toNat i)
@[irreducible] def splO (p : Pk) (s : Sx) (g i : Int) (k : Nat) : Int := plO p s g.toNat i k
def splR : DatL [pkSh, sxSh, .int .i64, .int .i64] -> AV := fun (p, s, (g : Int), (i : Int), _) => .tup [.slc (.sym (splN (pkOf p) (sxOf s) g i)) 1 (fun k => [.si .i64 (splO (pkOf p) (sxOf s) g i k)]), .si .i64 (splV (pkOf p) (sxOf s) g i), .si .i64 (splE (pkOf p) (sxOf s) g i)]
def splS : Spec [pkSh, sxSh, .int .i64, .int .i64] := ⟨fun (p, _) => PkMax (pkOf p), splR⟩
def splSe : Spec [pkSh, sxSh, .int .i64, .int .i64] := ⟨fun (p, s, _) => PkMax (pkOf p) /\ ssE (pkOf p) (sxOf s) ≠ 0, splR⟩
def splSo : Spec [pkSh, sxSh, .int .i64, .int .i64] := ⟨fun (p, s, _) => PkMax (pkOf p) /\ ssE (pkOf p) (sxOf s) = 0, splR⟩
def posS : Spec [.int .i64] := ⟨fun _ => True, fun ((x : Int), _) => .sb (isIn (-1048576) x 1048576)⟩
set_option maxRecDepth 100000 in
theorem ppos_ok : FnSpec Try.prog 24 _ posS := by
 refine FnSpec.of HX8_ok mixed (U := 0) (I := fun _ => []) Try.func24 rfl (by kernel_rfl) rfl rfl (by decide +kernel) ?_
 rintro ⟨(x : Int), ⟨⟩⟩ -
 unfold FnSat
 conv => arg 2; reduce
 simp [posS, and_assoc]
noncomputable def HXe : Sums := ⟨(23, mkSum _ wirS) :: (24, mkSum _ posS) :: HX8.one, HX8.two, HX8.lo, HX8.eqs, HX8.its, HX8.imm⟩
theorem HXe_ok : SumsOK Try.prog HXe := ((HX8_ok.cons Try.func24 (by kernel_rfl) (by kernel_rfl) ppos_ok).cons Try.func23 (by kernel_rfl) (by kernel_rfl) wir_ok)
noncomputable def HXo : Sums := ⟨(23, mkSumN _ wirN) :: (24, mkSum _ posS) :: HX8.one, HX8.two, HX8.lo, HX8.eqs, HX8.its, HX8.imm⟩
theorem HXo_ok : SumsOK Try.prog HXo := ((HX8_ok.cons Try.func24 (by kernel_rfl) (by kernel_rfl) ppos_ok).add Try.func23 (by kernel_rfl) (by kernel_rfl) (mkSumN_ok wirN_ok))
set_option maxRecDepth 100000 in
theorem spl_e : FnSpec Try.prog 12 _ splSe := by
 refine FnSpec.of HXe_ok mixed (U := 0) (I := fun _ => []) Try.func12 rfl (by kernel_rfl) rfl rfl (by decide +kernel) ?_
 rintro ⟨p, s, (g : Int), (i : Int), ⟨⟩⟩ hpre
 obtain ⟨p, rfl⟩ := pk_ex p
 obtain ⟨s, rfl⟩ := sx_ex s
 have hpre : PkMax p /\ ssE p s ≠ 0 := by have : PkMax (pkOf (pkD p)) /\ ssE (pkOf (pkD p)) (sxOf (sxD s)) ≠ 0 := hpre; rwa [pkOf_D, sxOf_D] at this
 unfold FnSat
 conv => arg 2; reduce
 simp [splSe, splR, wirS, ElEq, getB, goneB, aliveB, and_assoc]
 obtain ⟨hP, h0⟩ := hpre
 refine ⟨hP, h0, fun h => ⟨?_, ?_, (splE_e h0).symm⟩, fun h => absurd h h0⟩
 ·unfold splN; rw [splE_e h0, okN_e h0]
 ·unfold splV; rw [splE_e h0, okI_e h0]
def splI : DatL [pkSh, sxSh, .int .i64, .int .i64] -> Anns := fun (p, s, (g : Int), (i : Int), _) => [
 (8, [], fun fr hp => ⟨Nat, fun k => ⟨frI [.k 16, .t 1, .k 36, .s (.si .i64 (icast k)), .t 9] fr, hp⟩, Nat × Nat × (Nat -> Int), fun k => (k, (pkOf p).sz (nat g), splO (pkOf p) (sxOf s) g i), fun (k, n, x) => k <= n /\ ∀ j, j < k -> ovP x j = false, fun k => nsub 5 k⟩)]
set_option maxRecDepth 100000 in
set_option maxHeartbeats 2000000 in
theorem spl_o : FnSpec Try.prog 12 _ splSo := by
 refine FnSpec.of HXo_ok mixed (U := 0) (I := splI) Try.func12 rfl (by kernel_rfl) rfl rfl (by decide +kernel) ?_
 rintro ⟨p, s, (g : Int), (i : Int), ⟨⟩⟩ hpre
 obtain ⟨p, rfl⟩ := pk_ex p
 obtain ⟨s, rfl⟩ := sx_ex s
 have hpre : PkMax p /\ ssE p s = 0 := by have : PkMax (pkOf (pkD p)) /\ ssE (pkOf (pkD p)) (sxOf (sxD s)) = 0 := hpre; rwa [pkOf_D, sxOf_D] at this
 unfold FnSat
 conv => arg 2; reduce
 simp [splSo, splR, wirN, wirC, wirL, shS, posS, ElEq, getB, goneB, aliveB, and_assoc]
 obtain ⟨hP, h0⟩ := hpre
 have S := ssOK h0
 have hl := S.l
 refine ⟨hP, h0, fun h => ?_, fun g1 g2 i1 i2 => ?_⟩
 ·have he := splE_3 (i := i) (g := g) h0 (by omega)
  refine ⟨?_, ?_, he.symm⟩
  ·unfold splN; rw [he, okN_e (by omega)]
  ·unfold splV; rw [he, okI_e (by omega)]
 have hgl : g.toNat < p.len := by omega
 have hm := S.m _ hgl
 have hO : SrcOK (p.sz g.toNat) (fun k => wA p s g.toNat k) (fun k => wR p s g.toNat k) := by unfold wA wR; exact S.src hgl
 have hA : (fun k => wA p s g.toNat k) = sA (p.at g.toNat) (s.at g.toNat) := by funext k; unfold wA; rfl
 have hR : (fun k => wR p s g.toNat k) = sR (p.at g.toNat) (s.at g.toNat) := by funext k; unfold wR; rfl
 have hX : ∀ k, shO (fun k => wA p s g.toNat k) (fun k => wR p s g.toNat k) (p.sz g.toNat) i k = splO p s g i k := fun k => by rw [hA, hR, <- plO_eq]; unfold splO; rfl
 have hV : shV (fun k => wA p s g.toNat k) (fun k => wR p s g.toNat k) (p.sz g.toNat) i = plV p s g.toNat i := by rw [hA, hR, <- plV_eq]
 simp only [hX, hV]
 have hE := splE_n (i := i) (g := g) h0 (by omega)
 have hXo : plO p s g.toNat i = splO p s g i := by funext k; unfold splO; rfl
 rw [hXo] at hE
 refine ⟨g1, by omega, hO, hm.1.1, i1, i2, ⟨0, rfl, by omega, fun j hj => by omega⟩, fun k hk hall => ⟨fun hlt => ⟨hlt, fun hb => ?_, fun x1 x2 => ⟨by omega, by omega, k + 1, by omega, by omega, fun j hj => ?_, by omega⟩⟩, fun hge => ?_⟩⟩
 ·rw [if_pos (anyN_iff.2 ⟨k, hlt, ovP_t hb⟩)] at hE
  refine ⟨?_, ?_, hE.symm⟩
  ·unfold splN; rw [hE, okN_e (by omega)]
  ·unfold splV; rw [hE, okI_e (by omega)]
 ·by_cases e : j = k
  ·subst e; exact ovP_f.2 ⟨x1, x2⟩
  ·exact hall j (by omega)
 ·rw [if_neg (by rw [anyN_false.2 fun j hj => hall j (by omega)]; exact Bool.false_ne_true)] at hE
  refine ⟨?_, fun j _ => trivial, ?_, hE.symm⟩
  ·unfold splN; rw [okN_0 hE]
  ·unfold splV; rw [okI_0 hE]
theorem spl_ok : FnSpec Try.prog 12 _ splS := fun x hx => by
 by_cases h : ssE (pkOf x.1) (sxOf x.2.1) = 0
 ·exact spl_o x ⟨hx, h⟩
 ·exact spl_e x ⟨hx, h⟩
noncomputable def HY1 : Sums := ⟨(12, mkSum _ splS) :: HX8.one, HX8.two, HX8.lo, HX8.eqs, HX8.its, HX8.imm⟩
theorem HY1_ok : SumsOK Try.prog HY1 := (HX8_ok.cons Try.func12 (by kernel_rfl) (by kernel_rfl) spl_ok)
def rdrwS : Spec [celSh, staSh, .int .i64] := ⟨fun (c, s, (v : Int), _) => csE (celOf c) (staOf s) = 0 /\ -1099511627777 <= v /\ v <= 1099511627777, fun (c, s, (v : Int), _) => .si .i64 (dwV (isub (opnV (celOf c) (staOf s)) (staOf s).rx) (imax 1 (rV (celOf c) (staOf s))) v)⟩
set_option maxRecDepth 100000 in
set_option maxHeartbeats 2000000 in
theorem rdrw_ok : FnSpec Try.prog 53 _ rdrwS := by
 refine FnSpec.of HY1_ok mixed (U := 0) (I := fun _ => []) Try.func53 rfl (by kernel_rfl) rfl rfl (by decide +kernel) ?_
 rintro ⟨c, s, (v : Int), ⟨⟩⟩ hpre
 obtain ⟨c, rfl⟩ := cel_ex c
 obtain ⟨s, rfl⟩ := sta_ex s
 have hpre : csE c s = 0 /\ -1099511627777 <= v /\ v <= 1099511627777 := by have : csE (celOf (celD c)) (staOf (staD s)) = 0 /\ -1099511627777 <= v /\ v <= 1099511627777 := hpre; rwa [celOf_D, staOf_D] at this
 unfold FnSat
 conv => arg 2; reduce
 simp [rdrwS, opnS, rsiS, divS, and_assoc]
 obtain ⟨h, v1, v2⟩ := hpre
 obtain ⟨hb, hs⟩ := csE_iff.1 h
 have hm := (celB_iff.1 hb).max
 have ho := opnV_in (s := s) hb
 have hr := rV_in (c := c) (s := s)
 have := hs.r0
 have := hs.r1
 rw [aV_yes h, aV_yes h, dwV_eq]
 exact ⟨hm, by omega, by omega, by omega, by omega, by omega, by omega, by omega, by omega, by omega, rfl⟩
noncomputable def HY2 : Sums := ⟨(53, mkSum _ rdrwS) :: HY1.one, HY1.two, HY1.lo, HY1.eqs, HY1.its, HY1.imm⟩
theorem HY2_ok : SumsOK Try.prog HY2 := (HY1_ok.cons Try.func53 (by kernel_rfl) (by kernel_rfl) rdrw_ok)
def GrpOK (m n : Nat) (c : Nat -> CelD) (s : Nat -> StaD) : Prop := m = n /\ m <= 4 /\ ∀ k, k < m -> csE (celOf (c k)) (staOf (s k)) = 0
def rsuS : Spec [grpSh, stgSh, .int .i64] := ⟨fun ((m, c), (n, s), (v : Int), _) => GrpOK m n c s /\ -1099511627777 <= v /\ v <= 1099511627777, fun ((m, c), (_, s), (v : Int), _) => .si .i64 (dwS (sA (fun k => celOf (c k)) (fun k => staOf (s k))) (sR (fun k => celOf (c k)) (fun k => staOf (s k))) m v)⟩
def rsuI : DatL [grpSh, stgSh, .int .i64] -> Anns := fun ((m, c), (_, s), (v : Int), _) => [
 (3, [], fun fr hp => ⟨Nat, fun g => ⟨frI [.k 7, .s (.si .i64 (dwS (sA (fun k => celOf (c k)) (fun k => staOf (s k))) (sR (fun k => celOf (c k)) (fun k => staOf (s k))) g v)), .s (.si .i64 (icast g)), .t 19] fr, hp⟩, Nat × Nat, fun g => (g, m), fun (g, m) => g <= m, fun g => nsub 5 g⟩)]
set_option maxRecDepth 100000 in
set_option maxHeartbeats 2000000 in
theorem rsu_ok : FnSpec Try.prog 52 _ rsuS := by
 refine FnSpec.of HY2_ok mixed (U := 0) (I := rsuI) Try.func52 rfl (by kernel_rfl) rfl rfl (by decide +kernel) ?_
 rintro ⟨⟨m, c⟩, ⟨n, s⟩, (v : Int), ⟨⟩⟩ hpre
 obtain ⟨C, rfl⟩ : ∃ C : Nat -> Cel, c = fun k => celD (C k) := ⟨fun k => celOf (c k), by funext k; exact (cel_D (c k)).symm⟩
 obtain ⟨S, rfl⟩ : ∃ S : Nat -> Sta, s = fun k => staD (S k) := ⟨fun k => staOf (s k), by funext k; exact (sta_D (s k)).symm⟩
 obtain ⟨⟨h1, h2, h3⟩, v1, v2⟩ : (m = n /\ m <= 4 /\ ∀ k, k < m -> csE (celOf (celD (C k))) (staOf (staD (S k))) = 0) /\ -1099511627777 <= v /\ v <= 1099511627777 := hpre
 simp only [celOf_D, staOf_D] at h3
 subst h1
 unfold FnSat
 conv => arg 2; reduce
 simp [rsuS, rdrwS, ElEq, getB, goneB, aliveB, and_assoc]
 have eC : (fun k => C k) = C := rfl
 have eS : (fun k => S k) = S := rfl
 simp only [eC, eS]
 have hO : SrcOK m (sA C S) (sR C S) := src_ok h2 fun k hk => csE_iff.1 (h3 k hk)
 have hD : ∀ g v, dwV (opnV (C g) (S g) - (S g).rx) (max 1 (rV (C g) (S g))) v = dwV (sA C S g) (sR C S g) v := fun g v => by rw [sA_eq, sR_eq]
 simp only [hD]
 generalize sA C S = a at *
 generalize sR C S = r at *
 refine ⟨⟨0, (dwS_0 a r v).symm, rfl, by omega⟩, fun g hg => ⟨fun hlt => ?_, fun hge => by rw [show g = m by omega]⟩⟩
 have a0 := hO.a0 g hlt
 have r0 := hO.r0 g hlt
 have b0 := dwS_in hO v1 v2 g hg
 have b1 := dwV_in (v := v) a0.1 a0.2 r0.1 v1 v2
 exact ⟨hlt, h3 g hlt, v1, v2, by omega, by omega, by omega, by omega, g + 1, (dwS_s a r g v).symm, by omega, by omega, by omega⟩
noncomputable def HY3 : Sums := ⟨(52, mkSum _ rsuS) :: HY2.one, HY2.two, HY2.lo, HY2.eqs, HY2.its, HY2.imm⟩
theorem HY3_ok : SumsOK Try.prog HY3 := (HY2_ok.cons Try.func52 (by kernel_rfl) (by kernel_rfl) rsu_ok)
def rspS : Spec [grpSh, stgSh, .int .i64] := ⟨fun ((m, c), (n, s), (i : Int), _) => GrpOK m n c s /\ 1 <= m /\ -1048576 <= i /\ i <= 1048576, fun ((m, c), (_, s), (i : Int), _) => .tup [.slc (.sym m) 1 (fun k => [.si .i64 (shO (sA (fun k => celOf (c k)) (fun k => staOf (s k))) (sR (fun k => celOf (c k)) (fun k => staOf (s k))) m i k)]), .si .i64 (shV (sA (fun k => celOf (c k)) (fun k => staOf (s k))) (sR (fun k => celOf (c k)) (fun k => staOf (s k))) m i)]⟩
def rspI : DatL [grpSh, stgSh, .int .i64] -> Anns := fun ((m, c), (_, s), (i : Int), _) => [
 (2, [], fun fr hp => ⟨Int × Int, fun g => ⟨frI [.k 8, .s (.si .i64 g.1), .s (.si .i64 g.2), .t 1, .k 5, .t 66] fr, hp⟩, Int × Int × Int, fun g => (g.1, g.2, shV (sA (fun k => celOf (c k)) (fun k => staOf (s k))) (sR (fun k => celOf (c k)) (fun k => staOf (s k))) m i), fun ((l : Int), (h : Int), (v : Int)) => l < v /\ v <= h /\ -1099511627776 <= l /\ h <= 1099511627776, fun g => nat (isub g.2 g.1)⟩),
 (10, [(12, 2, 1)], fun fr hp => ⟨Nat, fun g => ⟨frI [.k 11, .s (.si .i64 (lfN (sA (fun k => celOf (c k)) (fun k => staOf (s k))) (sR (fun k => celOf (c k)) (fun k => staOf (s k))) m i g)), .k 1, .s (.si .i64 (icast g)), .t 2, .k 24, .t 42] fr, setB hp 0 (.row 2 1 (.sym g) (fun k => [.si .i64 (shO (sA (fun k => celOf (c k)) (fun k => staOf (s k))) (sR (fun k => celOf (c k)) (fun k => staOf (s k))) m i k)]))⟩, Nat × Nat, fun g => (g, m), fun (g, m) => g <= m, fun g => nsub 5 g⟩)]
set_option maxRecDepth 100000 in
set_option maxHeartbeats 2000000 in
theorem rsp_ok : FnSpec Try.prog 26 _ rspS := by
 refine FnSpec.of HY3_ok mixed (U := 0) (I := rspI) Try.func26 rfl (by kernel_rfl) rfl rfl (by decide +kernel) ?_
 rintro ⟨⟨m, c⟩, ⟨n, s⟩, (i : Int), ⟨⟩⟩ hpre
 obtain ⟨C, rfl⟩ : ∃ C : Nat -> Cel, c = fun k => celD (C k) := ⟨fun k => celOf (c k), by funext k; exact (cel_D (c k)).symm⟩
 obtain ⟨S, rfl⟩ : ∃ S : Nat -> Sta, s = fun k => staD (S k) := ⟨fun k => staOf (s k), by funext k; exact (sta_D (s k)).symm⟩
 obtain ⟨⟨h1, h2, h3⟩, hm1, i1, i2⟩ : (m = n /\ m <= 4 /\ ∀ k, k < m -> csE (celOf (celD (C k))) (staOf (staD (S k))) = 0) /\ 1 <= m /\ -1048576 <= i /\ i <= 1048576 := hpre
 simp only [celOf_D, staOf_D] at h3
 subst h1
 unfold FnSat
 conv => arg 2; reduce
 simp [rspS, rsuS, rdrwS, GrpOK, ElEq, getB, goneB, aliveB, maxRow, and_assoc]
 have eC : (fun k => C k) = C := rfl
 have eS : (fun k => S k) = S := rfl
 simp only [eC, eS]
 have hO : SrcOK m (sA C S) (sR C S) := src_ok h2 fun k hk => csE_iff.1 (h3 k hk)
 have hD : ∀ g v, dwV (opnV (C g) (S g) - (S g).rx) (max 1 (rV (C g) (S g))) v = dwV (sA C S g) (sR C S g) v := fun g v => by rw [sA_eq, sR_eq]
 simp only [hD]
 generalize sA C S = a at *
 generalize sR C S = r at *
 have K := shOK hO hm1 i1 i2
 have k1 := K.lo
 have k2 := K.hi
 have hi0 := fun v => shP_iff (v := v) hO K
 have hit : ∀ v, dwS a r m v <= i -> shV a r m i <= v := fun v hv => (hi0 v).1 (shP_t.2 hv)
 have hif : ∀ v, i < dwS a r m v -> v < shV a r m i := fun v hv => by
  apply Classical.byContradiction
  intro hh
  have := shP_t.1 ((hi0 v).2 (by omega))
  omega
 have k3 := dwS_in hO (v := shV a r m i) (by omega) (by omega) m (Nat.le_refl _)
 have hl0 := lfN_0 a r m i
 have hls := lfN_s a r m i
 have hso := shO_eq a r m i
 have hli := fun k hk => lfN_in hO K i2 k hk
 generalize shV a r m i = V at *
 refine ⟨by omega, by omega, fun l u a1 a2 a3 a4 => ⟨by omega, by omega, fun hlt => ?_, fun hge => ?_⟩⟩
 ·have ht : (u - l).tdiv 2 = (u - l) / 2 := Int.tdiv_eq_ediv_of_nonneg (by omega)
  rw [ht]
  refine ⟨by omega, by omega, by omega, by omega, by omega, by omega, h2, h3, by omega, by omega, fun hy => ?_, fun hn => ?_⟩
  ·have := hit _ hy
   exact ⟨a1, this, a3, by omega, by omega⟩
  ·have := hif _ hn
   exact ⟨this, a2, by omega, a4, by omega⟩
 obtain rfl : u = V := by omega
 refine ⟨h2, h3, by omega, by omega, by omega, by omega, ⟨0, hl0.symm, rfl, rfl, fun j => by omega, by omega⟩, fun g hg => ⟨fun hlt => ?_, fun hge2 => ?_⟩⟩
 ·have a0 := hO.a0 g hlt
  have r0 := hO.r0 g hlt
  have d0 := dwV_in (v := u) a0.1 a0.2 r0.1 (by omega) (by omega)
  have d1 := dwV_in (v := u - 1) a0.1 a0.2 r0.1 (by omega) (by omega)
  have dm := dwV_mono (a := a g) (r := r g) (v := u - 1) (w := u) r0.1 (by omega)
  have hl := hli g hg
  have hs1 := hls g
  have ho1 := hso g
  generalize dwV (a g) (r g) u = D0 at *
  generalize dwV (a g) (r g) (u - 1) = D1 at *
  generalize lfN a r m i g = L at *
  have hcs := h3 g hlt
  exact ⟨hlt, hcs, by omega, by omega, hlt, by omega, by omega, hcs, by omega, by omega, by omega, by omega, by omega, by omega, by omega, by omega, by omega, by omega, by omega, g + 1, hs1.symm, by omega, rfl, fun j hj => app_one hj (fun _ => rfl) (fun e => by subst e; rw [ho1]; rfl), by omega, by omega⟩
 ·exact ⟨by omega, rfl⟩
@[irreducible] def fitL (x : Nat -> Int) (n : Nat) : Bool := !(anyN (ovP x) n)
theorem fitL_t {x : Nat -> Int} {n : Nat} (h : ∀ k, k < n -> ovP x k = false) : fitL x n = true := by unfold fitL; rw [anyN_false.2 h]; rfl
theorem fitL_f {x : Nat -> Int} {n k : Nat} (hk : k < n) (h : ovP x k = true) : fitL x n = false := by unfold fitL; rw [anyN_iff.2 ⟨k, hk, h⟩]; rfl
theorem fitL_any {x : Nat -> Int} {n : Nat} : fitL x n = !(anyN (ovP x) n) := by unfold fitL; rfl
def rftS : Spec [.slice 1 [.int .i64]] := ⟨fun ((n, _), _) => n <= maxLen, fun ((n, x), _) => .sb (fitL (fun k => (x k).1) n)⟩
def rftI : DatL [.slice 1 [.int .i64]] -> Anns := fun ((n, x), _) => [
 (2, [], fun fr hp => ⟨Nat, fun k => ⟨frI [.k 3, .s (.si .i64 (icast k)), .t 18] fr, hp⟩, Nat × Nat × (Nat -> Bool), fun k => (n, k, ovP (fun k => (x k).1)), fun (n, k, p) => k <= n /\ ∀ j, j < k -> p j = false, fun k => nsub n k⟩)]
set_option maxRecDepth 100000 in
theorem rft_ok : FnSpec Try.prog 27 _ rftS := by
 refine FnSpec.of HY3_ok mixed (U := 0) (I := rftI) Try.func27 rfl (by kernel_rfl) rfl rfl (by decide +kernel) ?_
 rintro ⟨⟨n, x'⟩, ⟨⟩⟩ (hn : n <= maxLen)
 obtain ⟨x, rfl⟩ : ∃ x : Nat -> Int, x' = fun k => (x k, ()) := ⟨fun k => (x' k).1, rfl⟩
 unfold maxLen at hn
 unfold FnSat
 conv => arg 2; reduce
 simp [rftS, ElEq, getB, goneB, aliveB, and_assoc]
 have e1 : (fun k => x k) = x := rfl
 simp only [e1]
 refine ⟨⟨0, rfl, by omega, fun j hj => by omega⟩, fun g hg hall => ⟨fun hlt => ⟨hlt, fun _ => hlt, fun hb => fitL_f hlt (ovP_t hb), fun x1 x2 => ⟨by omega, by omega, g + 1, by omega, by omega, fun j hj => ?_, by omega⟩⟩, fun hge => fitL_t fun j hj => hall j (by omega)⟩⟩
 by_cases e : j = g
 ·subst e; exact ovP_f.2 ⟨x1, x2⟩
 ·exact hall j (by omega)
noncomputable def HY4 : Sums := ⟨(27, mkSum _ rftS) :: (26, mkSum _ rspS) :: HY3.one, HY3.two, HY3.lo, HY3.eqs, HY3.its, HY3.imm⟩
theorem HY4_ok : SumsOK Try.prog HY4 := ((HY3_ok.cons Try.func26 (by kernel_rfl) (by kernel_rfl) rsp_ok).cons Try.func27 (by kernel_rfl) (by kernel_rfl) rft_ok)
set_option maxRecDepth 100000 in
set_option maxHeartbeats 2000000 in
theorem rspl_ok : FnSpec Try.prog 13 _ splS := by
 refine FnSpec.of HY4_ok mixed (U := 0) (I := fun _ => []) Try.func13 rfl (by kernel_rfl) rfl rfl (by decide +kernel) ?_
 rintro ⟨p, s, (g : Int), (i : Int), ⟨⟩⟩ hpre
 obtain ⟨p, rfl⟩ := pk_ex p
 obtain ⟨s, rfl⟩ := sx_ex s
 have hpre : PkMax p := by have : PkMax (pkOf (pkD p)) := hpre; rwa [pkOf_D] at this
 unfold FnSat
 conv => arg 2; reduce
 simp [splS, splR, scsS, rspS, rftS, GrpOK, ElEq, getB, goneB, aliveB, and_assoc]
 have hP := hpre
 refine ⟨hP, fun h0 => ⟨hP, ?_, ?_, (splE_e h0).symm⟩, fun h0 => ⟨fun h => ?_, fun g1 g2 i1 i2 => ?_⟩⟩
 ·unfold splN; rw [splE_e h0, okN_e h0]
 ·unfold splV; rw [splE_e h0, okI_e h0]
 ·have S := ssOK h0
  have hl := S.l
  have he := splE_3 (i := i) (g := g) h0 (by omega)
  refine ⟨?_, ?_, he.symm⟩
  ·unfold splN; rw [he, okN_e (by omega)]
  ·unfold splV; rw [he, okI_e (by omega)]
 have S := ssOK h0
 have hl := S.l
 have hgl : g.toNat < p.len := by omega
 have hm := S.m _ hgl
 have hA : (fun k => p.at g.toNat k) = p.at g.toNat := rfl
 have hR : (fun k => s.at g.toNat k) = s.at g.toNat := rfl
 simp only [hA, hR]
 have hX : ∀ k, shO (sA (p.at g.toNat) (s.at g.toNat)) (sR (p.at g.toNat) (s.at g.toNat)) (p.sz g.toNat) i k = splO p s g i k := fun k => by rw [<- plO_eq]; unfold splO; rfl
 have hV : shV (sA (p.at g.toNat) (s.at g.toNat)) (sR (p.at g.toNat) (s.at g.toNat)) (p.sz g.toNat) i = plV p s g.toNat i := by rw [<- plV_eq]
 simp only [hX, hV]
 have hE := splE_n (i := i) (g := g) h0 (by omega)
 have hXo : plO p s g.toNat i = splO p s g i := by funext k; unfold splO; rfl
 rw [hXo] at hE
 have hXe : (fun k => splO p s g i k) = splO p s g i := rfl
 rw [hXe, fitL_any]
 refine ⟨g1, by omega, g1, g2, hm.2.symm, hm.1.2, fun k hk => csE_iff.2 (S.c _ hgl k hk), hm.1.1, i1, i2, by unfold maxLen; omega, fun hf => ?_, fun ht => ?_⟩
 ·have hf : anyN (ovP (splO p s g i)) (p.sz g.toNat) = true := by simpa using hf
  rw [if_pos hf] at hE
  refine ⟨?_, ?_, hE.symm⟩
  ·unfold splN; rw [hE, okN_e (by omega)]
  ·unfold splV; rw [hE, okI_e (by omega)]
 ·have ht : anyN (ovP (splO p s g i)) (p.sz g.toNat) = false := by simpa using ht
  rw [ht, if_neg Bool.false_ne_true] at hE
  refine ⟨?_, fun j _ => trivial, ?_, hE.symm⟩
  ·unfold splN; rw [okN_0 hE]
  ·unfold splV; rw [okI_0 hE]
noncomputable def HY5 : Sums := ⟨(13, mkSum _ splS) :: HY4.one, HY4.two, HY4.lo, HY4.eqs, HY4.its, HY4.imm⟩
theorem HY5_ok : SumsOK Try.prog HY5 := (HY4_ok.cons Try.func13 (by kernel_rfl) (by kernel_rfl) rspl_ok)
end
end Abs
end Go.Proofs.Ytlacopdaibhkkaa

namespace Go.Proofs.Ytlacopdaibhkkaa
namespace Abs
open Go Go.RowKit
theorem dwV_f {a r v : Int} (h : 1 <= r) : dwV a r v * r <= (a - v) * 1000 /\ (a - v) * 1000 < dwV a r v * r + r := by
 rw [dwV_eq]
 unfold dvI
 have h1 := Int.ediv_mul_le ((a - v) * 1000) (show r ≠ 0 by omega)
 have h2 := Int.lt_ediv_add_one_mul_self ((a - v) * 1000) (show 0 < r by omega)
 rw [Int.add_mul, Int.one_mul] at h2
 exact ⟨h1, h2⟩
theorem lfN_max {n : Nat} {a r : Nat -> Int} {i : Int} (h : SrcOK n a r) (K : ShOK a r n i) : ∀ k, k <= n -> lfN a r n i k = max 0 (i - dwS a r n (shV a r n i) - (dwS a r k (shV a r n i - 1) - dwS a r k (shV a r n i)))
 | 0, _ => by
   have := K.y
   rw [lfN_0, dwS_0, dwS_0]; omega
 | k + 1, hk => by
   have ih := lfN_max h K k (by omega)
   have dm := dwV_mono (a := a k) (r := r k) (v := shV a r n i - 1) (w := shV a r n i) (h.r0 k (by omega)).1 (by omega)
   rw [lfN_s, ih, dwS_s, dwS_s]
   omega
theorem shO_b {n : Nat} {a r : Nat -> Int} {i : Int} (h : SrcOK n a r) (K : ShOK a r n i) {k : Nat} (hk : k < n) : dwV (a k) (r k) (shV a r n i) <= shO a r n i k /\ shO a r n i k <= dwV (a k) (r k) (shV a r n i - 1) := by
 have dm := dwV_mono (a := a k) (r := r k) (v := shV a r n i - 1) (w := shV a r n i) (h.r0 k hk).1 (by omega)
 have hl := lfN_max h K k (by omega)
 rw [shO_eq]
 omega
theorem shO_volts {n : Nat} {a r : Nat -> Int} {i : Int} (h : SrcOK n a r) (K : ShOK a r n i) {k : Nat} (hk : k < n) : 1000 * (shV a r n i - 1) <= 1000 * a k - shO a r n i k * r k /\ 1000 * a k - shO a r n i k * r k < 1000 * shV a r n i + r k := by
 have hb := shO_b h K hk
 have r0 := (h.r0 k hk).1
 have f0 := dwV_f (a := a k) (v := shV a r n i) r0
 have f1 := dwV_f (a := a k) (v := shV a r n i - 1) r0
 have m1 := Int.mul_le_mul_of_nonneg_right hb.1 (show 0 <= r k by omega)
 have m2 := Int.mul_le_mul_of_nonneg_right hb.2 (show 0 <= r k by omega)
 omega
theorem shO_part {n : Nat} {a r : Nat -> Int} {i : Int} : ∀ k, sumN (shO a r n i) k = dwS a r k (shV a r n i) + (lfN a r n i 0 - lfN a r n i k)
 | 0 => by rw [sumN_zero, dwS_0]; omega
 | k + 1 => by
   have ih := shO_part (a := a) (r := r) (n := n) (i := i) k
   have e1 := shO_eq a r n i k
   have e2 := lfN_s a r n i k
   rw [sumN_succ, dwS_s, ih]
   omega
theorem shO_sum {n : Nat} {a r : Nat -> Int} {i : Int} (h : SrcOK n a r) (K : ShOK a r n i) : sumN (shO a r n i) n = i := by
 have hl := lfN_max h K n (Nat.le_refl _)
 have h0 := lfN_0 a r n i
 have hp := shO_part (a := a) (r := r) (n := n) (i := i) n
 have := K.y
 have := K.no
 omega
theorem shO_mono {n : Nat} {a r : Nat -> Int} {i j : Int} (h : SrcOK n a r) (K : ShOK a r n i) (L : ShOK a r n j) (hij : i <= j) {k : Nat} (hk : k < n) : shO a r n i k <= shO a r n j k := by
 have hv : shV a r n j <= shV a r n i := (shP_iff h L).1 (shP_t.2 (by have := K.y; omega))
 have b1 := shO_b h K hk
 have b2 := shO_b h L hk
 by_cases e : shV a r n j = shV a r n i
 ·have l1 := lfN_max h K k (by omega)
  have l2 := lfN_max h L k (by omega)
  have o1 := shO_eq a r n i k
  have o2 := shO_eq a r n j k
  rw [e] at l2 o2
  omega
 ·have := dwV_mono (a := a k) (r := r k) (v := shV a r n j) (w := shV a r n i - 1) (h.r0 k hk).1 (by omega)
  omega
end Abs
end Go.Proofs.Ytlacopdaibhkkaa

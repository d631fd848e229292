/- A part of the proof: no statement of its own. -/
import Derived.Test.YtghmkkdmpmmbhaaQGa1fc37cf
import Derived.Laws.Bits64
set_option linter.unusedSimpArgs false
set_option linter.unusedVariables false
/- Generators of numbers in plain Lean: a step is one-to-one. -/
namespace Go.Proofs.Ytghmkkdmpmmbhaa
namespace Abs
open Go

def shlX (k x : Nat) : Nat := x ^^^ (x * 2 ^ k % 18446744073709551616)
def shrX (k x : Nat) : Nat := x ^^^ (x / 2 ^ k)
theorem shlX_bit (k x i : Nat) : (shlX k x).testBit i = (x.testBit i ^^ (decide (i < 64) && (decide (i ≥ k) && x.testBit (i - k)))) := by
  unfold shlX
  rw [Nat.testBit_xor, show (18446744073709551616 : Nat) = 2 ^ 64 from by decide, Nat.testBit_mod_two_pow, ← Nat.shiftLeft_eq, Nat.testBit_shiftLeft]
theorem shrX_bit (k x i : Nat) : (shrX k x).testBit i = (x.testBit i ^^ x.testBit (k + i)) := by
  unfold shrX
  rw [Nat.testBit_xor, ← Nat.shiftRight_eq_div_pow, Nat.testBit_shiftRight]
theorem shlX_inj {k x y : Nat} (hk : 0 < k) (h : shlX k x = shlX k y) : x = y := by
  refine Nat.eq_of_testBit_eq fun i => ?_
  induction i using Nat.strongRecOn with
  | _ i ih =>
    have h1 : (shlX k x).testBit i = (shlX k y).testBit i := by rw [h]
    rw [shlX_bit, shlX_bit] at h1
    by_cases hi : i ≥ k
    · rw [ih (i - k) (by omega)] at h1
      revert h1
      generalize (decide (i < 64) && (decide (i ≥ k) && y.testBit (i - k))) = b
      cases x.testBit i <;> cases y.testBit i <;> cases b <;> simp
    · have : decide (i ≥ k) = false := by simp; omega
      rw [this] at h1
      simpa using h1
theorem shrX_inj {k x y : Nat} (hk : 0 < k) (hx : x < 2 ^ 64) (hy : y < 2 ^ 64) (h : shrX k x = shrX k y) : x = y := by
  have hi : ∀ z i : Nat, z < 2 ^ 64 → 64 ≤ i → z.testBit i = false := fun z i hz hi => Nat.testBit_lt_two_pow (Nat.lt_of_lt_of_le hz (Nat.pow_le_pow_right (by decide) hi))
  have key : ∀ n i, 64 ≤ i + n → x.testBit i = y.testBit i := by
    intro n
    induction n with
    | zero => intro i h'; rw [hi x i hx (by omega), hi y i hy (by omega)]
    | succ n ih =>
      intro i h'
      have h1 : (shrX k x).testBit i = (shrX k y).testBit i := by rw [h]
      rw [shrX_bit, shrX_bit, ih (k + i) (by omega)] at h1
      revert h1
      generalize y.testBit (k + i) = b
      cases x.testBit i <;> cases y.testBit i <;> cases b <;> simp
  exact Nat.eq_of_testBit_eq fun i => key 64 i (by omega)
theorem shlX_lt {k x : Nat} (h : x < 2 ^ 64) : shlX k x < 2 ^ 64 := by
  unfold shlX
  exact Nat.xor_lt_two_pow h (Nat.mod_lt _ (by decide))
theorem shrX_lt {k x : Nat} (h : x < 2 ^ 64) : shrX k x < 2 ^ 64 := by
  unfold shrX
  exact Nat.xor_lt_two_pow h (Nat.lt_of_le_of_lt (Nat.div_le_self _ _) h)
def stepN (s : Nat) : Nat := shlX 17 (shrX 7 (shlX 13 s))
theorem stepN_lt {s : Nat} (h : s < 2 ^ 64) : stepN s < 2 ^ 64 := shlX_lt (shrX_lt (shlX_lt h))
theorem stepN_inj {x y : Nat} (hx : x < 2 ^ 64) (hy : y < 2 ^ 64) (h : stepN x = stepN y) : x = y :=
  shlX_inj (by decide) (shrX_inj (by decide) (shlX_lt hx) (shlX_lt hy) (shlX_inj (by decide) h))
theorem stepN_0 : stepN 0 = 0 := by decide
theorem odd_inj {x y : Nat} (hx : x < 18446744073709551616) (hy : y < 18446744073709551616) (h : x * 2685821657736338717 % 18446744073709551616 = y * 2685821657736338717 % 18446744073709551616) : x = y := by
  have e : ∀ z : Nat, z < 18446744073709551616 → (z * 2685821657736338717 % 18446744073709551616) * 6415128727920758069 % 18446744073709551616 = z := fun z hz => by
    rw [Nat.mod_mul_mod, Nat.mul_assoc, ← Nat.mul_mod_mod]
    simp [Nat.mod_eq_of_lt hz]
  rw [← e x hx, ← e y hy, h]

@[irreducible] def stV (s : Int) : Int := (stepN s.toNat : Int)
/-- a term that no unfolding opens -/
theorem hid {α : Type} (x : α) : ∃ y, y = x := ⟨x, rfl⟩
noncomputable def hide {α : Type} (x : α) : α := Classical.choose (hid x)
theorem hide_eq {α : Type} (x : α) : hide x = x := Classical.choose_spec (hid x)
@[irreducible] noncomputable def outV (s : Int) : Int := hide (stV s * 2685821657736338717 % 18446744073709551616)
theorem outV_def (s : Int) : outV s = stV s * 2685821657736338717 % 18446744073709551616 := by unfold outV; exact hide_eq _
@[irreducible] def sdV (x : Int) : Int := (2 * x % 18446744073709551616 + 1) % 18446744073709551616
def U64 (s : Int) : Prop := 0 ≤ s ∧ s < 18446744073709551616
theorem stV_u {s : Int} (h : U64 s) : U64 (stV s) := by
  have := stepN_lt (s := s.toNat) (by have := h.1; have := h.2; omega)
  unfold stV U64; omega
theorem stV_inj {s t : Int} (hs : U64 s) (ht : U64 t) (h : stV s = stV t) : s = t := by
  unfold U64 at hs ht
  have := stepN_inj (x := s.toNat) (y := t.toNat) (by omega) (by omega) (by unfold stV at h; omega)
  omega
theorem stV_0 : stV 0 = 0 := by unfold stV; rw [show (0 : Int).toNat = 0 from rfl, stepN_0]; rfl
theorem outV_inj {s t : Int} (hs : U64 s) (ht : U64 t) (h : outV s = outV t) : s = t := by
  refine stV_inj hs ht ?_
  have h1 := stV_u hs
  have h2 := stV_u ht
  rw [outV_def, outV_def] at h
  unfold U64 at h1 h2
  generalize stV s = a at *
  generalize stV t = b at *
  obtain ⟨n, rfl⟩ := Int.eq_ofNat_of_zero_le h1.1
  obtain ⟨m, rfl⟩ := Int.eq_ofNat_of_zero_le h2.1
  have h' : n * 2685821657736338717 % 18446744073709551616 = m * 2685821657736338717 % 18446744073709551616 := by
    have e : ∀ x : Nat, ((x : Int) * 2685821657736338717 % 18446744073709551616) = ((x * 2685821657736338717 % 18446744073709551616 : Nat) : Int) := fun x => by rw [Int.natCast_emod, Int.natCast_mul]; rfl
    rw [e, e] at h
    exact Int.ofNat.inj h
  have l1 : n < 18446744073709551616 := by clear h h'; omega
  have l2 : m < 18446744073709551616 := by clear h h'; omega
  rw [odd_inj l1 l2 h']
theorem outV_0 : outV 0 = 0 := by rw [outV_def, stV_0]; omega
theorem outV_ne {s : Int} (hs : U64 s) (h : s ≠ 0) : outV s ≠ 0 := fun e => h (outV_inj hs (by unfold U64; omega) (by rw [e, outV_0]))
theorem stV_ne {s : Int} (hs : U64 s) (h : s ≠ 0) : stV s ≠ 0 := fun e => h (stV_inj hs (by unfold U64; omega) (by rw [e, stV_0]))
theorem sdV_u (x : Int) : U64 (sdV x) := by unfold sdV U64; omega
theorem sdV_ne (x : Int) : sdV x ≠ 0 := by unfold sdV; omega
theorem bits_x {a b : Int} (ha : U64 a) (hb : U64 b) : bits .xor .u64 a b = ((a.toNat ^^^ b.toNat : Nat) : Int) := by
  unfold U64 at ha hb
  have := bits_xor_u64_nat a.toNat b.toNat (by omega) (by omega)
  rwa [Int.toNat_of_nonneg ha.1, Int.toNat_of_nonneg hb.1] at this
/-- a step as the program takes it -/
theorem step_eq {s : Int} (hs : U64 s) : ∃ a b, a = bits .xor .u64 s (s * 8192 % 18446744073709551616) ∧ b = bits .xor .u64 a (a / 128) ∧ stV s = bits .xor .u64 b (b * 131072 % 18446744073709551616) ∧ U64 a ∧ U64 b := by
  have h0 : s.toNat < 2 ^ 64 := by unfold U64 at hs; omega
  have h1 := shlX_lt (k := 13) h0
  have h2 := shrX_lt (k := 7) h1
  have h3 := shlX_lt (k := 17) h2
  have nn : ∀ {x y : Int} {n : Nat}, 0 ≤ x → x = (n : Int) → x.toNat = n := fun _ h => by rw [h]; rfl
  have e1 : bits .xor .u64 s (s * 8192 % 18446744073709551616) = (shlX 13 s.toNat : Int) := by
    unfold U64 at hs
    rw [bits_x (by unfold U64; omega) (by unfold U64; omega)]
    unfold shlX
    congr 3
    have : s = (s.toNat : Int) := by omega
    rw [this]
    simp only [Int.toNat_natCast]
    omega
  have e2 : bits .xor .u64 (shlX 13 s.toNat : Int) ((shlX 13 s.toNat : Int) / 128) = (shrX 7 (shlX 13 s.toNat) : Int) := by
    generalize shlX 13 s.toNat = x at *
    rw [bits_x (by unfold U64; omega) (by unfold U64; omega)]
    unfold shrX
    congr 3
  have e3 : bits .xor .u64 (shrX 7 (shlX 13 s.toNat) : Int) ((shrX 7 (shlX 13 s.toNat) : Int) * 131072 % 18446744073709551616) = (shlX 17 (shrX 7 (shlX 13 s.toNat)) : Int) := by
    generalize shrX 7 (shlX 13 s.toNat) = x at *
    rw [bits_x (by unfold U64; omega) (by unfold U64; omega)]
    unfold shlX
    congr 3
  refine ⟨_, _, rfl, rfl, ?_, ?_, ?_⟩
  · rw [e1, e2, e3]; unfold stV stepN; rfl
  · rw [e1]; unfold U64; omega
  · rw [e1, e2]; unfold U64; omega
end Abs
end Go.Proofs.Ytghmkkdmpmmbhaa

/- Generators of numbers, by the program and by the document. -/
namespace Go.Proofs.Ytghmkkdmpmmbhaa
namespace Abs
open Go Go.RowKit
noncomputable section
attribute [local irreducible] FnSat
@[irreducible] def nzB (s : Int) : Bool := decide (s ≠ 0)
def valD : Spec [.ptr [.int .u64]] := ⟨fun _ => True, fun (((s : Int), _), _) => .sb (nzB s)⟩
set_option maxRecDepth 100000 in
theorem valD_ok : FnSpec Try.prog 78 _ valD := by
  refine FnSpec.of SVb_ok mixed (U := 0) (I := fun _ => []) Try.func78 rfl (by kernel_rfl) rfl rfl (by decide +kernel) ?_
  rintro ⟨⟨(s : Int), ⟨⟩⟩, ⟨⟩⟩ -
  unfold FnSat
  conv => arg 2; reduce
  simp [valD, nzB]
  rfl
def SDa : Sums := ⟨(78, mkSum _ valD) :: SVb.one, SVb.two, SVb.lo, SVb.eqs, SVb.its⟩
theorem SDa_ok : SumsOK Try.prog SDa := (SVb_ok.cons Try.func78 (by kernel_rfl) (by kernel_rfl) valD_ok)
def newN : SpecN [.int .u64] := ⟨fun _ => True, fun _ => .own 0 0, fun ((x : Int), _) => [.cells 53 [.si .u64 (sdV x)]]⟩
def rnewN : SpecN [.int .u64] := ⟨fun _ => True, fun _ => .own 0 0, fun ((x : Int), _) => [.cells 119 [.si .u64 (sdV x)]]⟩
set_option maxRecDepth 100000 in
theorem new_ok : FnSpecN Try.prog 22 _ newN := by
  refine FnSpecN.of SDa_ok mixed (U := 0) (I := fun _ => []) Try.func22 rfl (by kernel_rfl) rfl rfl (by decide +kernel) ?_
  rintro ⟨(x : Int), ⟨⟩⟩ -
  unfold FnSat
  conv => arg 2; reduce
  simp [newN, aliveB, getB, IntKind.wrap_u64, VC.sat, sdV]
set_option maxRecDepth 100000 in
theorem rnew_ok : FnSpecN Try.prog 31 _ rnewN := by
  refine FnSpecN.of SDa_ok mixed (U := 0) (I := fun _ => []) Try.func31 rfl (by kernel_rfl) rfl rfl (by decide +kernel) ?_
  rintro ⟨(x : Int), ⟨⟩⟩ -
  unfold FnSat
  conv => arg 2; reduce
  simp [rnewN, aliveB, getB, IntKind.wrap_u64, VC.sat, sdV]
theorem ibit_x (a b : Int) : ibit .xor .u64 a b = bits .xor .u64 a b := by unfold ibit; rfl
theorem ishl_13 (a : Int) : ishl a 13 = a * 8192 := by unfold ishl; rfl
theorem ishl_17 (a : Int) : ishl a 17 = a * 131072 := by unfold ishl; rfl
theorem ishr_7 (a : Int) : ishr a 7 = a / 128 := by unfold ishr; exact Int.fdiv_eq_ediv_of_nonneg _ (by decide)
theorem nzB_f {s : Int} (h : nzB s = false) : s = 0 := by unfold nzB at h; simpa using h
theorem nzB_iff {s : Int} : nzB s = true ↔ s ≠ 0 := by unfold nzB; simp
def nextF : SpecF [.cells 53 [.int .u64]] [.own 0 0] :=
  ⟨fun ((s, _), _) _ => U64 s, fun ((s, _), _) _ => .si .u64 (outV s), fun ((s, _), _) _ => [.cells 53 [.si .u64 (stV s)]]⟩
set_option maxRecDepth 100000 in
theorem next_ok : FnSpecF Try.prog 23 _ _ nextF := by
  refine FnSpecF.of SDa_ok mixed (U := 0) (I := fun _ _ => []) Try.func23 rfl (by kernel_rfl) rfl (by decide +kernel) ?_
  rintro ⟨⟨(s : Int), ⟨⟩⟩, ⟨⟩⟩ ⟨⟨⟩, ⟨⟩⟩ (hs : U64 s)
  unfold FnSat
  conv => arg 2; reduce
  simp only [nextF, valD]
  simp [aliveB, getB, encH, encB, and_assoc]
  obtain ⟨a, b, ha, hb, hst, ua, ub⟩ := step_eq hs
  have hout : outV s = stV s * 2685821657736338717 % 18446744073709551616 := outV_def s
  simp only [ibit_x, ishl_13, ishl_17, ishr_7, ← ha, ← hb, ← hst, IntKind.wrap_u64, hout]
  refine ⟨fun h => ?_, fun _ => ⟨by decide, by decide, by decide, trivial, trivial⟩⟩
  rw [nzB_f h, stV_0]; exact ⟨rfl, rfl⟩
def rnextF : SpecF [.cells 119 [.int .u64]] [.own 0 0] :=
  ⟨fun ((s, _), _) _ => U64 s, fun ((s, _), _) _ => .si .u64 (outV s), fun ((s, _), _) _ => [.cells 119 [.si .u64 (stV s)]]⟩
set_option maxRecDepth 100000 in
theorem rnext_ok : FnSpecF Try.prog 33 _ _ rnextF := by
  refine FnSpecF.of SDa_ok mixed (U := 0) (I := fun _ _ => []) Try.func33 rfl (by kernel_rfl) rfl (by decide +kernel) ?_
  rintro ⟨⟨(s : Int), ⟨⟩⟩, ⟨⟩⟩ ⟨⟨⟩, ⟨⟩⟩ (hs : U64 s)
  unfold FnSat
  conv => arg 2; reduce
  simp only [rnextF]
  simp [aliveB, getB, encH, encB, and_assoc]
  obtain ⟨a, b, ha, hb, hst, ua, ub⟩ := step_eq hs
  have hout : outV s = stV s * 2685821657736338717 % 18446744073709551616 := outV_def s
  have e1 : a.tdiv 128 % 18446744073709551616 = a / 128 := by
    have h1 := ua.1
    have h2 := ua.2
    rw [Int.tdiv_eq_ediv_of_nonneg h1]
    omega
  simp only [ibit_x, IntKind.wrap_u64, ← ha, e1, ← hb, ← hst, hout]
  exact ⟨trivial, trivial⟩
def SDb : Sums := ⟨(31, mkSumN _ rnewN) :: (22, mkSumN _ newN) :: SDa.one, SDa.two, SDa.lo, SDa.eqs, SDa.its⟩
theorem SDb_ok : SumsOK Try.prog SDb := ((SDa_ok.add Try.func22 (by kernel_rfl) (by kernel_rfl) (mkSumN_ok new_ok)).add Try.func31 (by kernel_rfl) (by kernel_rfl) (mkSumN_ok rnew_ok))
def SDc : Sums := ⟨SDb.one, (33, mkSumF _ _ rnextF) :: (23, mkSumF _ _ nextF) :: SDb.two, SDb.lo, SDb.eqs, SDb.its⟩
theorem SDc_ok : SumsOK Try.prog SDc := SumsOK.addTwo (SumsOK.addTwo SDb_ok Try.func23 (by kernel_rfl) (by kernel_rfl) (mkSumF_ok next_ok)) Try.func33 (by kernel_rfl) (by kernel_rfl) (mkSumF_ok rnext_ok)
end
end Abs
end Go.Proofs.Ytghmkkdmpmmbhaa
